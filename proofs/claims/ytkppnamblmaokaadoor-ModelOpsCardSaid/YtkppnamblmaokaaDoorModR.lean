/- ModelNone, but for wakes(). -/
import Derived.Test.YtkppnamblmaokaaDoorModQ
import Derived.Great.BuildSlice
namespace Go.Proofs.YtkppnamblmaokaaDoor.ModR
open Go.RowKit Go.Proofs.YtkppnamblmaokaaDoorW.PrintWords Go.Proofs.YtkppnamblmaokaaDoorW.PrintLast Go.Proofs.YtkppnamblmaokaaDoorW.PrintMore Go.Proofs.YtkppnamblmaokaaDoor.ModA Go.Proofs.YtkppnamblmaokaaDoor.ModB Go.Proofs.YtkppnamblmaokaaDoor.ModC Go.Proofs.YtkppnamblmaokaaDoor.ModF Go.Proofs.YtkppnamblmaokaaDoor.ModG Go.Proofs.YtkppnamblmaokaaDoor.ModK Go.Proofs.YtkppnamblmaokaaDoor.ModO Go.Proofs.YtkppnamblmaokaaDoor.ModP Go.Proofs.YtkppnamblmaokaaDoor.ModQ
set_option linter.unusedVariables false
set_option linter.unusedSimpArgs false

theorem fold_set (l : List Value) : ∀ (k : Nat) (arr : Array Value), arr.size = k + l.length →
    (l.zipIdx k).foldl (fun cs (p : Value × Nat) => cs.setIfInBounds (0 + p.2) p.1) arr = (arr.toList.take k ++ l).toArray := by
  induction l with
  | nil =>
    intro k arr h
    have : arr.toList.take k = arr.toList := List.take_of_length_le (by simp at h ⊢; omega)
    simp [this]
  | cons c l ih =>
    intro k arr h
    simp only [List.length_cons] at h
    rw [List.zipIdx_cons, List.foldl_cons, ih (k + 1) _ (by simp; omega)]
    have hk : k < arr.toList.length := by simp; omega
    congr 1
    simp only [Nat.zero_add, Array.toList_setIfInBounds]
    rw [List.take_add_one, List.getElem?_set_self hk, List.take_set_of_le (Nat.le_refl k)]
    simp
theorem agg_cells (cs : Array Value) (h : cs.all (·.oneCell') = true) : (Value.agg cs).cells = cs := by
  simp [Value.cells, h]
theorem fill_one (cs zs : Array Value) (m : Nat) (h : cs.size = m) (hz : zs.size = m) (h1 : (Value.agg cs).cells = cs) : Instr.fill (fun i => some (i * m, m)) zs [(0, .agg cs)] = some cs := by
  have hf := fold_set cs.toList 0 zs (by simp; omega)
  simp only [Instr.fill, h1, Nat.zero_mul, Nat.zero_add, h, hz]
  rw [if_neg (by simp)]
  congr 1
  rw [← Array.foldl_toList, Array.toList_zipIdx]
  simpa using hf

theorem wpList_wanted {P : Program} {ops : Array Oper} {rest : List Oper} {o : Oper} {a : Act} {w : World} {Q : Exit → Act → World → Prop} (hw : Region.wanted o (yielded ops a.tmps) = true)
    (h : ∀ K : Act → World → Prop, (∀ a w, wpList P ops Q rest a w → K a w) → o.wp P a w K Q) : wpList P ops Q (o :: rest) a w :=
  wpList_step fun K hK => by rw [if_pos hw]; exact h K hK
theorem wpList_load_mid_g {P : Program} {ops : Array Oper} {rest : List Oper} {op : Oper} {a : Act} {w : World} {Q : Exit → Act → World → Prop} (hw : Region.wanted op (yielded ops a.tmps) = true) (ty : TypeId) (x : Operand) (ho : op.op = .load ty x)
    (b o : Nat) (hx : a.eval x = .pointer (some ⟨b, o, none⟩)) (cs : List Value) (d : TypeDesc) (hc : w.rangeAt b o cs)
    (hu : P.underlying ty = some d) (hd : d.isRow = true) (hi : (P.info? ty).map (·.size) = some cs.length)
    (h : wpList P ops Q rest (a.put op.dst (.agg cs.toArray)) w) : wpList P ops Q (op :: rest) a w :=
  wpList_wanted hw fun _ hK => wp_load_mid ty x ho b o hx cs d hc hu hd hi (hK _ _ h)
theorem wpList_load_row_g {P : Program} {ops : Array Oper} {rest : List Oper} {o : Oper} {a : Act} {w : World} {Q : Exit → Act → World → Prop} (hw : Region.wanted o (yielded ops a.tmps) = true) (ty : TypeId) (x : Operand) (ho : o.op = .load ty x)
    (g : Nat) (hx : a.eval x = .pointer (some ⟨g, 0, none⟩)) (t : TypeId) (cs : Array Value) (fr : Nat × Nat) (d : TypeDesc) (hg : w.heap[g]? = some (.cells cs t fr))
    (hu : P.underlying ty = some d) (hd : (match d with | .struct _ | .array _ _ => true | _ => false) = true) (hi : (P.info? ty).map (·.size) = some cs.size)
    (h : wpList P ops Q rest (a.put o.dst (.agg cs)) w) : wpList P ops Q (o :: rest) a w :=
  wpList_wanted hw fun _ hK => wp_load_row ty x ho g hx t cs fr d hg hu hd hi (hK _ _ h)
theorem info34 : (Tryd.prog.info? 34).map (fun i => (i.zero, i.size, i.bytes)) = some (some (.agg (#[.int .i64 0, .string ByteArray.empty, .int .i64 0] ++ fillN 0 0)), 35, 64) := by kernel_rfl
set_option maxHeartbeats 1000000 in
set_option maxRecDepth 100000 in
theorem none_walk (cs : Array Value) (k n : Int) (name : ByteArray) (d : List Int) (w : World) (hcs : cs = #[.int .i64 k, .string name, .int .i64 n] ++ blkArr d) (hd : d.length = 32)
    (WK : ∀ w, Calls Tryd.prog 8 #[] w fun e w' => e = .returned (.bool true) ∧ Below w.heap.size w w') :
    Calls Tryd.prog 4 #[.agg cs] w fun e w' => e = .returned (.bool true) ∧ Below w.heap.size w w' := by
  have WK := Aside0.mk WK
  have HS : Aside0 (cs.size = 35) := ⟨by rw [hcs]; simp [blkArr_size, hd]⟩
  obtain ⟨i34, hi, hz, hsz, hby⟩ := info_parts info34
  have hone : cs.all (·.oneCell') = true := by
    rw [hcs, Array.all_append, blkArr_one]
    simp [Value.oneCell']
  have I34 := Aside0.mk hi
  have Z34 := Aside0.mk hz
  have S34 := Aside0.mk hsz
  have FL : Aside0 (Instr.fill (fun i => some (i * i34.size, i34.size)) ((Array.range (1 * i34.size)).map ((Value.agg (#[.int .i64 0, .string ByteArray.empty, .int .i64 0] ++ fillN 0 0)).cells[· % (Value.agg (#[.int .i64 0, .string ByteArray.empty, .int .i64 0] ++ fillN 0 0)).cells.size]!)) [(0, .agg cs)] = some cs) := ⟨by
    rw [hsz]
    exact fill_one cs _ 35 HS.out (by simp) (agg_cells cs hone)⟩
  have BL := Aside0.mk (below_alloc (below_alloc (Below.refl w.heap.size w) (.cells cs 34 (0, 0))) (.cells cs 34 (0, 0)))
  have B1 := Aside0.mk (blk_new w (.cells cs 34 (0, 0)))
  have B1' := Aside0.mk (blk_alloc (blk_new w (.cells cs 34 (0, 0))) (.cells cs 34 (0, 0)))
  have B2 := Aside0.mk (blk_new (w.alloc (.cells cs 34 (0, 0))) (.cells cs 34 (0, 0)))
  have C1 : Aside0 (cs[1]? = some (.string name)) := ⟨by rw [hcs]; simp [Array.getElem?_append]⟩
  have C2 : Aside0 (cs[2]? = some (.int .i64 n)) := ⟨by rw [hcs]; simp [Array.getElem?_append]⟩
  have C := Aside0.mk hcs
  clear hcs hi hz hsz hby hone
  go_enter Tryd.func4, Tryd.ntmps4
  go_wp2_with (first | (refine wpList_load_row rfl 34 _ rfl w.heap.size rfl 34 cs (0, 0) _ B1.out Tryd.underlying34 rfl (by rw [HS.out]; kernel_rfl) ?_) | (refine wpList_buildSlice rfl 22 34 1 _ rfl cs i34 _ Tryd.underlying22 I34.out Z34.out (by rw [S34.out]; decide) (by rw [S34.out]; decide) (by rw [Array.toList_map]; exact FL.out) ?_))
  have hB2 : Aside0 ((w.alloc (.cells cs 34 (0, 0))).heap.size = w.heap.size + 1) := ⟨by simp⟩
  have FC := Aside0.mk (fair_some (w.heap.size + 1) 0 1 [name] ((w.alloc (.cells cs 34 (0, 0))).alloc (.cells cs 34 (0, 0))) (by simp) (by unfold maxLen; omega) (by
    intro i x hx
    match i, hx with
    | 0, hx =>
      simp at hx
      subst hx
      rw [← hB2.out]
      exact (blk_cell B2.out 1).trans C1.out))
  clear hB2 FL
  generalize (w.alloc (.cells cs 34 (0, 0))).alloc (.cells cs 34 (0, 0)) = w2 at *
  refine FC.out.mono ?_
  rintro e w3 ⟨rfl, hb3⟩
  have B3 := Aside0.mk (blk_below B1'.out hb3)
  have BL3 := Aside0.mk (below_step BL.out hb3)
  clear FC hb3 BL B1 B1' B2
  clear w2
  cases hf : fairB [name]
  · go_wp2_with fail
    refine (WK.out _).mono ?_
    rintro e w4 ⟨rfl, hb4⟩
    go_wp2
    go_ret
    exact ⟨rfl, below_step BL3.out hb4⟩
  · have c1 : w3.cell? ⟨w.heap.size, 1, none⟩ = some (.string name) := (blk_cell B3.out 1).trans C1.out
    have c2 : w3.cell? ⟨w.heap.size, 2, none⟩ = some (.int .i64 n) := (blk_cell B3.out 2).trans C2.out
    go_wp2_with fail
    refine (read_nil _ name n).mono ?_
    rintro e w4 ⟨rfl, hb4⟩
    have B4 := Aside0.mk (blk_below B3.out hb4)
    have BL4 := Aside0.mk (below_step BL3.out hb4)
    clear hb4 c1 c2 B3 BL3
    have B5 := Aside0.mk (blk_new w4 (.cells (fillN 0 0) 32 (0, 0)))
    have B5' := Aside0.mk (zeros32 ▸ B5.out)
    have HZ := Aside0.mk (fillN_size 0 0)
    go_wp2_with (first | (refine wpList_store_row rfl 32 _ _ rfl w4.heap.size (fillN 0 0) rfl rfl 32 _ (zeros32 ▸ B5.out) (by kernel_rfl) (by kernel_rfl) (fillN_one 0 0) (stop ?_)))
    unfold Stop
    rw [← zeros32]
    have hnm : w.heap.size ≠ w4.heap.size := by have := blk_lt B4.out; omega
    have B6 := Aside0.mk (setRow_heap _ w4.heap.size (fillN 0 0) (fillN 0 0) 32 (0, 0) B5.out)
    have BM := Aside0.mk ((setRow_other _ w4.heap.size w.heap.size (fillN 0 0) hnm).trans (blk_alloc B4.out (.cells (fillN 0 0) 32 (0, 0))))
    have BL6 := Aside0.mk (below_setRow (below_alloc BL4.out (.cells (fillN 0 0) 32 (0, 0))) BL4.out.size (fillN 0 0))
    generalize (w4.alloc (.cells (fillN 0 0) 32 (0, 0))).setRow w4.heap.size (fillN 0 0) = w5 at *
    generalize w4.heap.size = G5 at *
    clear hnm B5 B5' B4 BL4
    have c1 : w5.cell? ⟨w.heap.size, 1, none⟩ = some (.string name) := (blk_cell BM.out 1).trans C1.out
    have c2 : w5.cell? ⟨w.heap.size, 2, none⟩ = some (.int .i64 n) := (blk_cell BM.out 2).trans C2.out
    go_wp2_with fail
    refine (make_nil _ name n).mono ?_
    rintro e w6 ⟨rfl, hb6⟩
    replace c1 := pw_cell_below hb6 c1
    replace c2 := pw_cell_below hb6 c2
    replace BM := Aside0.mk (blk_below BM.out hb6)
    replace B6 := Aside0.mk (blk_below B6.out hb6)
    replace BL6 := Aside0.mk (below_step BL6.out hb6)
    clear hb6
    go_wp2_with fail
    refine (gone_nil _ name).mono ?_
    rintro e w7 ⟨rfl, hb7⟩
    replace c1 := pw_cell_below hb7 c1
    replace c2 := pw_cell_below hb7 c2
    replace BM := Aside0.mk (blk_below BM.out hb7)
    replace B6 := Aside0.mk (blk_below B6.out hb7)
    replace BL6 := Aside0.mk (below_step BL6.out hb7)
    clear hb7
    have RA : Aside0 (w7.rangeAt w.heap.size 3 (d.map (Value.int .u8))) := ⟨by
      intro j u hu
      have := blk_cell BM.out (3 + j)
      rw [this, C.out, Array.getElem?_append_right (by simp)]
      simpa [blkArr] using hu⟩
    have HD := Aside0.mk hd
    go_wp2_with (first | (refine wpList_load_mid_g (by rfl) 32 _ rfl w.heap.size 3 rfl (d.map (Value.int .u8)) _ RA.out Tryd.underlying32 rfl (by rw [List.length_map, HD.out]; kernel_rfl) ?_))
    refine (write_nil _ name n _).mono ?_
    rintro e w8 ⟨rfl, hb8⟩
    replace B6 := Aside0.mk (blk_below B6.out hb8)
    replace BL6 := Aside0.mk (below_step BL6.out hb8)
    clear hb8 c1 c2 RA BM
    go_wp2_with (first | (refine wpList_load_row_g (by rfl) 32 _ rfl G5 rfl 32 (fillN 0 0) (0, 0) _ B6.out Tryd.underlying32 rfl (by kernel_rfl) (stop ?_)))
    unfold Stop
    have E0 : ∀ w, (Op.equalIn 10000 32 (.agg (fillN 0 0)) (.agg (fillN 0 0))).run Tryd.prog w = .ok true w := fun w => by
      have e : fillN 0 0 = blkArr (List.replicate 32 0) := by kernel_rfl
      rw [e, eq32 _ _ (by simp) (by simp)]
      simp
    have E1 : ∀ w, (Op.equalIn 10000 32 (.agg (fillN 0 0)) (.agg #[.int .u8 0, .int .u8 0, .int .u8 0, .int .u8 0, .int .u8 0, .int .u8 0, .int .u8 0, .int .u8 0, .int .u8 0, .int .u8 0, .int .u8 0, .int .u8 0, .int .u8 0, .int .u8 0, .int .u8 0, .int .u8 0, .int .u8 0, .int .u8 0, .int .u8 0, .int .u8 0, .int .u8 0, .int .u8 0, .int .u8 0, .int .u8 0, .int .u8 0, .int .u8 0, .int .u8 0, .int .u8 0, .int .u8 0, .int .u8 0, .int .u8 0, .int .u8 0])).run Tryd.prog w = .ok true w := fun w => by
      rw [← zeros32]; exact E0 w
    clear E0
    go_wp2_with fail
    refine (names_nil _).mono ?_
    rintro e w9 ⟨rfl, hb9⟩
    replace BL6 := Aside0.mk (below_step BL6.out hb9)
    clear hb9 E1 B6
    go_wp2_with fail
    refine (free_nil _).mono ?_
    rintro e w10 ⟨rfl, hb10⟩
    replace BL6 := Aside0.mk (below_step BL6.out hb10)
    clear hb10
    go_wp2_with fail
    refine (WK.out _).mono ?_
    rintro e w11 ⟨rfl, hb11⟩
    replace BL6 := Aside0.mk (below_step BL6.out hb11)
    clear hb11
    go_wp2_with fail
    go_ret
    exact ⟨rfl, BL6.out⟩

end Go.Proofs.YtkppnamblmaokaaDoor.ModR

/- ModelOps' own walk. -/
import Derived.Test.YtkppnamblmaokaaDoorOpsP
import Derived.Test.YtkppnamblmaokaaDoorModW
namespace Go.Proofs.YtkppnamblmaokaaDoor.OpsW
open Go.RowKit Go.Proofs.YtkppnamblmaokaaDoorW.PrintWords Go.Proofs.YtkppnamblmaokaaDoorW.PrintLast Go.Proofs.YtkppnamblmaokaaDoorW.PrintMore Go.Proofs.YtkppnamblmaokaaDoor.ModA Go.Proofs.YtkppnamblmaokaaDoor.ModB Go.Proofs.YtkppnamblmaokaaDoor.ModC Go.Proofs.YtkppnamblmaokaaDoor.ModD Go.Proofs.YtkppnamblmaokaaDoor.ModE Go.Proofs.YtkppnamblmaokaaDoor.ModF Go.Proofs.YtkppnamblmaokaaDoor.ModG Go.Proofs.YtkppnamblmaokaaDoor.ModH Go.Proofs.YtkppnamblmaokaaDoor.ModI Go.Proofs.YtkppnamblmaokaaDoor.ModJ Go.Proofs.YtkppnamblmaokaaDoor.ModK Go.Proofs.YtkppnamblmaokaaDoor.ModL Go.Proofs.YtkppnamblmaokaaDoor.ModN Go.Proofs.YtkppnamblmaokaaDoor.ModO Go.Proofs.YtkppnamblmaokaaDoor.ModP Go.Proofs.YtkppnamblmaokaaDoor.ModQ Go.Proofs.YtkppnamblmaokaaDoor.ModR Go.Proofs.YtkppnamblmaokaaDoor.ModS Go.Proofs.YtkppnamblmaokaaDoor.ModT Go.Proofs.YtkppnamblmaokaaDoor.ModV Go.Proofs.YtkppnamblmaokaaDoor.ModW Go.Proofs.YtkppnamblmaokaaDoor.OpsP
set_option linter.unusedVariables false
set_option linter.unusedSimpArgs false

theorem info34c : (Tryd.prog.info? 34).map (·.size) = some 35 := by kernel_rfl
theorem names_trow {w : World} {base : Nat} {u : Value} {L : List Vol} (h : w.ownsRow base 9 1 u L.length (names L)) : TRow w u (L.map (·.name)) :=
  trow_own (xs := L.map (·.name)) (by simpa [names, List.map_map, Function.comp_def] using h) (by simp)
theorem box_cells {w : World} {g : Nat} {x : Stp} (h : w.heap[g]? = some (.cells x.cells.toArray 34 (0, 0))) :
    w.cell? ⟨g, 0, none⟩ = some (.int .i64 x.k) ∧ w.cell? ⟨g, 1, none⟩ = some (.string x.name) ∧ w.cell? ⟨g, 2, none⟩ = some (.int .i64 x.n) ∧ w.rangeAt g 3 (x.d.map (Value.int .u8)) := by
  refine ⟨(blk_cell h 0).trans rfl, (blk_cell h 1).trans rfl, (blk_cell h 2).trans rfl, fun j v hv => ?_⟩
  rw [blk_cell h (3 + j)]
  simp only [List.getElem?_toArray]
  unfold Stp.cells
  rw [List.getElem?_append_right (by simp)]
  simpa using hv
theorem stp_len {x : Stp} (h : x.d.length = 32) : x.cells.length = 35 := by simp [Stp.cells, h]
theorem stp_one (x : Stp) : x.cells.toArray.all (·.oneCell') = true := by
  rw [Array.all_eq_true_iff_forall_mem]
  intro u hu
  simp only [Stp.cells, List.mem_toArray, List.mem_append, List.mem_cons, List.not_mem_nil, or_false, List.mem_map] at hu
  rcases hu with (rfl | rfl | rfl) | ⟨j, _, rfl⟩ <;> rfl
theorem stp_range {w : World} {ga off : Nat} {S : List Stp} (h : SRow w ga off S) {i : Nat} {x : Stp} (hx : S[i]? = some x) : w.rangeAt ga (off + i * 35) x.cells := (h i x hx).1
theorem fair_small {ns : List ByteArray} (h : fairB ns = true) {x : ByteArray} (hx : x ∈ ns) : x.size ≤ 100 := by
  unfold fairB at h
  rw [Bool.and_eq_true, List.all_eq_true] at h
  exact of_decide_eq_true (h.1 x hx)
theorem Corr.write {L : List Vol} {l : List CsA.Vo} (h : Corr L l) (name : ByteArray) (n : Int) (d : List Int) : Corr (writeL L name n d) l := by
  unfold writeL
  split
  · rename_i he
    obtain ⟨i, k, hi, rfl, hx, hk⟩ := at_ok he
    rw [hi, Int.toNat_natCast, Int.toNat_natCast]
    unfold Corr at *
    rw [← h]
    unfold setBlk
    apply List.ext_getElem?
    intro j
    rw [List.getElem?_map, List.getElem?_map, List.getElem?_set]
    split
    · rename_i e
      subst e
      obtain ⟨hil, _⟩ := List.getElem?_eq_some_iff.1 hx
      rw [if_pos hil, hx]
      simp
    · rfl
  · exact h
theorem corr_nil : Corr [] [] := rfl
theorem good_nil : CsI.GoodT [] := ⟨by simp, fun _ h => (List.not_mem_nil h).elim, by simp, fun _ h => (List.not_mem_nil h).elim, ⟨fun _ h => (List.not_mem_nil h).elim, by simp⟩⟩
theorem enc_nil : CsE.arr (CsK.enc []) = #[.int .u8 0, .int .u8 0, .int .u8 0, .int .u8 0, .int .u8 0, .int .u8 0, .int .u8 0, .int .u8 0, .int .u8 0, .int .u8 0, .int .u8 0, .int .u8 0, .int .u8 0, .int .u8 0, .int .u8 0, .int .u8 0, .int .u8 0, .int .u8 0, .int .u8 0, .int .u8 0, .int .u8 0, .int .u8 0, .int .u8 0, .int .u8 0, .int .u8 0, .int .u8 0, .int .u8 0, .int .u8 0, .int .u8 0, .int .u8 0, .int .u8 0, .int .u8 0] := by kernel_rfl
def TVR (w : World) (u : Value) (xs : List ByteArray) : Prop :=
  ∃ A cap, u = .slice A xs.length cap ∧ (0 < xs.length → ∃ g, A = some ⟨g, 0, none⟩ ∧ ∀ j x, xs[j]? = some x → w.cell? ⟨g, j * 2, none⟩ = some (.string x))
theorem tvr_tab {B : Nat} {w : World} {v : Value} {l : List CsA.Vo} (h : CsL.Tab B w v l) : TVR w v (l.map (·.name)) := by
  obtain ⟨us, hl, own, hi⟩ := h
  rcases CsI.own_cells own (CsL.tabCells_len l us hl) with ⟨A, c, hv, h0⟩ | ⟨g, cap, hv, h1, h2, hc⟩
  · obtain rfl : l = [] := List.eq_nil_of_length_eq_zero h0
    exact ⟨A, c, hv, fun h => by simp at h⟩
  · refine ⟨_, cap, by rw [hv, List.length_map], fun _ => ⟨g, rfl, fun j x hx => ?_⟩⟩
    rw [List.getElem?_map] at hx
    obtain ⟨y, hy, rfl⟩ := Option.map_eq_some_iff.1 hx
    have hj : j < us.length := by rw [hl]; exact (List.getElem?_eq_some_iff.1 hy).1
    exact hc _ _ (CsL.tabCells_get l us j y us[j] hy (by simp [hj])).1
theorem tvr_below {w w' : World} {u : Value} {xs : List ByteArray} (h : TVR w u xs) (hb : Below w.heap.size w w') : TVR w' u xs := by
  obtain ⟨A, cap, h1, h4⟩ := h
  exact ⟨A, cap, h1, fun h => by
    obtain ⟨g, e, k⟩ := h4 h
    exact ⟨g, e, fun j x hx => pw_cell_below hb (k j x hx)⟩⟩
theorem touch_row (w : World) (g : Nat) (cs : Array Value) : ModG.Touch [g] w (w.setRow g cs) := ⟨rfl, rfl, rfl, by simp, fun k _ hk => setRow_other w g k cs (by simpa using hk)⟩
theorem range_moves {F F' : List Nat} {w w' : World} {g o : Nat} {cs : List Value} (M : Moves F F' w w') (h : w.rangeAt g o cs) (hl : 0 < cs.length) (hn : g ∉ F) : w'.rangeAt g o cs := by
  have hlt : g < w.heap.size := World.block_lt_of_cell? w _ (h 0 (cs[0]) (by simp))
  have e := M.touch.block g hlt hn
  intro j v hv
  have := h j v hv
  unfold World.cell? at this ⊢
  simp only [e]
  exact this
theorem foot_not {base : Nat} {w : World} {mb : Nat} {L : List Vol} {gs : List Nat} {v : Value} (r : Rep base w mb L gs v) {g : Nat} (h : w.heap.size ≤ g) : g ∉ foot mb gs v := fun hk => by have := rep_foot_lt r g hk; omega
theorem read_len {base : Nat} {w : World} {mb : Nat} {L : List Vol} {gs : List Nat} {v : Value} (r : Rep base w mb L gs v) (name : ByteArray) (n : Int) : (readVal L name n).length = 32 := by
  unfold readVal
  split
  · rename_i he
    obtain ⟨i, k, hi, rfl, hx, hk⟩ := at_ok he
    rw [Int.toNat_natCast]
    have hb : (volOf L name).blocks[k]? = some ((volOf L name).blocks.getD k zero32) := by simp [hk]
    exact (r.size i _ hx).2 _ (List.mem_of_getElem? hb)
  · rfl
theorem info32 : (Tryd.prog.info? 32).map (·.size) = some 32 := by kernel_rfl

set_option maxHeartbeats 16000000 in
set_option maxRecDepth 100000 in
theorem ops_walk (A : Option Addr) (ga off cap : Nat) (S : List Stp) (w : World) (hA : 0 < S.length → A = some ⟨ga, off, none⟩) (h1 : S.length ≤ cap) (h2 : cap ≤ maxLen) (hS : SRow w ga off S) (hSI : ∀ x ∈ S, -9223372036854775808 ≤ x.n ∧ x.n ≤ 9223372036854775807) :
    Calls Tryd.prog 6 #[.slice A S.length cap] w fun e w' => e = .returned (.bool true) ∧ Below w.heap.size w w' := by
  have FC := Aside0.mk (fair_any A ga off cap S w hA h1 h2 hS)
  have SR := Aside0.mk hS
  have HA := Aside0.mk hA
  have SI := Aside0.mk hSI
  have FN : Aside0 (fairB (S.map (·.name)) = true → ∀ x ∈ S, x.name.size ≤ 100) := ⟨fun h x hx => fair_small h (List.mem_map_of_mem hx)⟩
  have GX : Aside0 (∀ i, i < S.length → ∃ x, S[i]? = some x) := ⟨fun i hi => ⟨S[i], by simp⟩⟩
  clear hS hA hSI
  have hlen9 : S.length ≤ 9223372036854775807 := by unfold maxLen at h2; omega
  generalize hbase : w.heap.size = base at *
  have HB := Aside0.mk hbase
  clear hbase
  generalize fairB (S.map (·.name)) = fb at *
  generalize hlen : S.length = len at *
  have HL := Aside0.mk hlen
  clear hlen
  go_enter Tryd.func6, Tryd.ntmps6
  go_wp2_with fail
  refine FC.out.mono ?_
  rintro e w1 ⟨rfl, hb⟩
  have BL := Aside0.mk hb
  clear hb FC
  cases fb
  · go_wp2_with fail
    refine (wakes_any _).mono ?_
    rintro e w2 ⟨rfl, hb⟩
    go_wp2
    go_ret
    exact ⟨rfl, below_on HB.out BL.out hb⟩
  have SN : Aside0 (∀ x ∈ S, x.name.size ≤ 100) := ⟨FN.out rfl⟩
  clear FN
  go_wp2_with fail
  refine (new_any base w1 (by have := BL.out.size; rw [HB.out] at this; exact this)).mono ?_
  rintro e w2 ⟨rfl, R0, hb⟩
  have R := Aside0.mk R0
  replace BL := Aside0.mk (below_on HB.out BL.out hb)
  clear R0 hb
  generalize w1.heap.size = mb at *
  clear w1
  go_upto_region 6 with (fail)
  have N0 := Aside0.mk (blk_new w2 (.cells #[.int .u8 0, .int .u8 0, .int .u8 0, .int .u8 0, .int .u8 0, .int .u8 0, .int .u8 0, .int .u8 0, .int .u8 0, .int .u8 0, .int .u8 0, .int .u8 0, .int .u8 0, .int .u8 0, .int .u8 0, .int .u8 0, .int .u8 0, .int .u8 0, .int .u8 0, .int .u8 0, .int .u8 0, .int .u8 0, .int .u8 0, .int .u8 0, .int .u8 0, .int .u8 0, .int .u8 0, .int .u8 0, .int .u8 0, .int .u8 0, .int .u8 0, .int .u8 0] 32 (0, 0)))
  go_wp2_with (first | (refine wpList_store_row rfl 32 (.tmp 4) (.tmp 24) rfl w2.heap.size #[.int .u8 0, .int .u8 0, .int .u8 0, .int .u8 0, .int .u8 0, .int .u8 0, .int .u8 0, .int .u8 0, .int .u8 0, .int .u8 0, .int .u8 0, .int .u8 0, .int .u8 0, .int .u8 0, .int .u8 0, .int .u8 0, .int .u8 0, .int .u8 0, .int .u8 0, .int .u8 0, .int .u8 0, .int .u8 0, .int .u8 0, .int .u8 0, .int .u8 0, .int .u8 0, .int .u8 0, .int .u8 0, .int .u8 0, .int .u8 0, .int .u8 0, .int .u8 0] rfl rfl 32 _ N0.out (by kernel_rfl) rfl (by kernel_rfl) (stop ?_)))
  unfold Stop
  rw [World.setRow_alloc_new]
  have XBB : Aside0 ((w2.alloc (.cells #[.int .u8 0, .int .u8 0, .int .u8 0, .int .u8 0, .int .u8 0, .int .u8 0, .int .u8 0, .int .u8 0, .int .u8 0, .int .u8 0, .int .u8 0, .int .u8 0, .int .u8 0, .int .u8 0, .int .u8 0, .int .u8 0, .int .u8 0, .int .u8 0, .int .u8 0, .int .u8 0, .int .u8 0, .int .u8 0, .int .u8 0, .int .u8 0, .int .u8 0, .int .u8 0, .int .u8 0, .int .u8 0, .int .u8 0, .int .u8 0, .int .u8 0, .int .u8 0] 32 (0, 0))).heap[w2.heap.size]? = some (.cells (CsE.arr (CsK.enc [])) 32 (0, 0))) := ⟨by rw [enc_nil]; exact N0.out⟩
  have NB : Aside0 (w2.heap.size ∉ foot mb [] (.slice none 0 0)) := ⟨fun h => by have := rep_foot_lt R.out _ h; omega⟩
  have HBB : Aside0 (base ≤ w2.heap.size) := ⟨by have := BL.out.size; rw [HB.out] at this; exact this⟩
  replace R := Aside0.mk (rep_alloc R.out (.cells #[.int .u8 0, .int .u8 0, .int .u8 0, .int .u8 0, .int .u8 0, .int .u8 0, .int .u8 0, .int .u8 0, .int .u8 0, .int .u8 0, .int .u8 0, .int .u8 0, .int .u8 0, .int .u8 0, .int .u8 0, .int .u8 0, .int .u8 0, .int .u8 0, .int .u8 0, .int .u8 0, .int .u8 0, .int .u8 0, .int .u8 0, .int .u8 0, .int .u8 0, .int .u8 0, .int .u8 0, .int .u8 0, .int .u8 0, .int .u8 0, .int .u8 0, .int .u8 0] 32 (0, 0)))
  replace BL := Aside0.mk (below_on HB.out BL.out (below_alloc (Below.refl w2.heap.size w2) (.cells #[.int .u8 0, .int .u8 0, .int .u8 0, .int .u8 0, .int .u8 0, .int .u8 0, .int .u8 0, .int .u8 0, .int .u8 0, .int .u8 0, .int .u8 0, .int .u8 0, .int .u8 0, .int .u8 0, .int .u8 0, .int .u8 0, .int .u8 0, .int .u8 0, .int .u8 0, .int .u8 0, .int .u8 0, .int .u8 0, .int .u8 0, .int .u8 0, .int .u8 0, .int .u8 0, .int .u8 0, .int .u8 0, .int .u8 0, .int .u8 0, .int .u8 0, .int .u8 0] 32 (0, 0))))
  clear N0
  generalize w2.alloc (.cells #[.int .u8 0, .int .u8 0, .int .u8 0, .int .u8 0, .int .u8 0, .int .u8 0, .int .u8 0, .int .u8 0, .int .u8 0, .int .u8 0, .int .u8 0, .int .u8 0, .int .u8 0, .int .u8 0, .int .u8 0, .int .u8 0, .int .u8 0, .int .u8 0, .int .u8 0, .int .u8 0, .int .u8 0, .int .u8 0, .int .u8 0, .int .u8 0, .int .u8 0, .int .u8 0, .int .u8 0, .int .u8 0, .int .u8 0, .int .u8 0, .int .u8 0, .int .u8 0] 32 (0, 0)) = w3 at *
  generalize w2.heap.size = bb at *
  clear w2
  go_wp2_with fail
  go_loopw [5] (fun iv wr => ∃ (i : Nat) (L : List Vol) (gs : List Nat) (v : Value) (l : List CsA.Vo), i ≤ len ∧ iv = .int .i64 i ∧ Aside0 (Rep base wr mb L gs v) ∧ Aside0 (wr.heap[bb]? = some (.cells (CsE.arr (CsK.enc l)) 32 (0, 0))) ∧ Aside0 (CsI.GoodT l) ∧ Aside0 (Corr L l) ∧ Aside0 (bb ∉ foot mb gs v) ∧ Aside0 (Below base w wr)) (fun iv _ => len - (intOf iv).toNat)
  case atStart => exact ⟨0, [], [], _, [], by omega, rfl, R, XBB, ⟨good_nil⟩, ⟨corr_nil⟩, NB, BL⟩
  case round =>
    clear R XBB NB BL w3
    obtain ⟨i, L, gs, v, l, hi, rfl, R, XBB, HG, HC, NB, BL⟩ := hrel
    by_cases hlt : i < len
    · obtain ⟨x, hx⟩ := GX.out i hlt
      have HX := Aside0.mk hx
      have NS : Aside0 (x.name.size ≤ 100) := ⟨SN.out x (List.mem_of_getElem? hx)⟩
      have NI : Aside0 (-9223372036854775808 ≤ x.n ∧ x.n ≤ 9223372036854775807) := ⟨SI.out x (List.mem_of_getElem? hx)⟩
      clear hx
      obtain rfl := HA.out (by omega)
      have RX := Aside0.mk (stp_range (srow_below_base HB.out SR.out BL.out) HX.out)
      have HD := Aside0.mk (SR.out i x HX.out).2
      have CL : Aside0 (x.cells.length = 35) := ⟨stp_len HD.out⟩
      have DL : Aside0 ((List.map (Value.int .u8) x.d).length = 32) := ⟨by rw [List.length_map]; exact HD.out⟩
      have HEL : Aside0 ((CsE.arr (CsK.enc l)).size = 32) := ⟨by rw [CsE.arr_size]; exact enc_len HG.out⟩
      go_wp2_with (first | (refine wpList_load_mid rfl 34 _ rfl ga (off + i * 35) rfl x.cells _ RX.out Tryd.underlying34 rfl (by rw [CL.out]; exact info34c) ?_) | (refine wpList_store_row rfl 34 _ _ rfl wr.heap.size x.cells.toArray rfl rfl 34 #[.int .i64 0, .string ⟨#[]⟩, .int .i64 0, .int .u8 0, .int .u8 0, .int .u8 0, .int .u8 0, .int .u8 0, .int .u8 0, .int .u8 0, .int .u8 0, .int .u8 0, .int .u8 0, .int .u8 0, .int .u8 0, .int .u8 0, .int .u8 0, .int .u8 0, .int .u8 0, .int .u8 0, .int .u8 0, .int .u8 0, .int .u8 0, .int .u8 0, .int .u8 0, .int .u8 0, .int .u8 0, .int .u8 0, .int .u8 0, .int .u8 0, .int .u8 0, .int .u8 0, .int .u8 0, .int .u8 0, .int .u8 0] (blk_new wr (.cells #[.int .i64 0, .string ⟨#[]⟩, .int .i64 0, .int .u8 0, .int .u8 0, .int .u8 0, .int .u8 0, .int .u8 0, .int .u8 0, .int .u8 0, .int .u8 0, .int .u8 0, .int .u8 0, .int .u8 0, .int .u8 0, .int .u8 0, .int .u8 0, .int .u8 0, .int .u8 0, .int .u8 0, .int .u8 0, .int .u8 0, .int .u8 0, .int .u8 0, .int .u8 0, .int .u8 0, .int .u8 0, .int .u8 0, .int .u8 0, .int .u8 0, .int .u8 0, .int .u8 0, .int .u8 0, .int .u8 0, .int .u8 0] 34 (0, 0))) (by rw [List.size_toArray, CL.out]; exact info34c) (by simp only [List.size_toArray, CL.out]; rfl) (stp_one x) (stop ?_)))
      unfold Stop
      have B5 := Aside0.mk (blk_new wr (.cells #[.int .i64 0, .string ⟨#[]⟩, .int .i64 0, .int .u8 0, .int .u8 0, .int .u8 0, .int .u8 0, .int .u8 0, .int .u8 0, .int .u8 0, .int .u8 0, .int .u8 0, .int .u8 0, .int .u8 0, .int .u8 0, .int .u8 0, .int .u8 0, .int .u8 0, .int .u8 0, .int .u8 0, .int .u8 0, .int .u8 0, .int .u8 0, .int .u8 0, .int .u8 0, .int .u8 0, .int .u8 0, .int .u8 0, .int .u8 0, .int .u8 0, .int .u8 0, .int .u8 0, .int .u8 0, .int .u8 0, .int .u8 0] 34 (0, 0)))
      have XG := Aside0.mk (setRow_heap _ wr.heap.size #[.int .i64 0, .string ⟨#[]⟩, .int .i64 0, .int .u8 0, .int .u8 0, .int .u8 0, .int .u8 0, .int .u8 0, .int .u8 0, .int .u8 0, .int .u8 0, .int .u8 0, .int .u8 0, .int .u8 0, .int .u8 0, .int .u8 0, .int .u8 0, .int .u8 0, .int .u8 0, .int .u8 0, .int .u8 0, .int .u8 0, .int .u8 0, .int .u8 0, .int .u8 0, .int .u8 0, .int .u8 0, .int .u8 0, .int .u8 0, .int .u8 0, .int .u8 0, .int .u8 0, .int .u8 0, .int .u8 0, .int .u8 0] x.cells.toArray 34 (0, 0) B5.out)
      have BS : Aside0 (Below wr.heap.size wr ((wr.alloc (.cells #[.int .i64 0, .string ⟨#[]⟩, .int .i64 0, .int .u8 0, .int .u8 0, .int .u8 0, .int .u8 0, .int .u8 0, .int .u8 0, .int .u8 0, .int .u8 0, .int .u8 0, .int .u8 0, .int .u8 0, .int .u8 0, .int .u8 0, .int .u8 0, .int .u8 0, .int .u8 0, .int .u8 0, .int .u8 0, .int .u8 0, .int .u8 0, .int .u8 0, .int .u8 0, .int .u8 0, .int .u8 0, .int .u8 0, .int .u8 0, .int .u8 0, .int .u8 0, .int .u8 0, .int .u8 0, .int .u8 0, .int .u8 0] 34 (0, 0))).setRow wr.heap.size x.cells.toArray)) := ⟨below_setRow (below_alloc (Below.refl _ _) (.cells #[.int .i64 0, .string ⟨#[]⟩, .int .i64 0, .int .u8 0, .int .u8 0, .int .u8 0, .int .u8 0, .int .u8 0, .int .u8 0, .int .u8 0, .int .u8 0, .int .u8 0, .int .u8 0, .int .u8 0, .int .u8 0, .int .u8 0, .int .u8 0, .int .u8 0, .int .u8 0, .int .u8 0, .int .u8 0, .int .u8 0, .int .u8 0, .int .u8 0, .int .u8 0, .int .u8 0, .int .u8 0, .int .u8 0, .int .u8 0, .int .u8 0, .int .u8 0, .int .u8 0, .int .u8 0, .int .u8 0, .int .u8 0] 34 (0, 0))) (Nat.le_refl _) x.cells.toArray⟩
      have NX : Aside0 (wr.heap.size ∉ foot mb gs v) := ⟨fun h => by have := rep_foot_lt R.out _ h; omega⟩
      have NE : Aside0 (wr.heap.size ≠ bb) := ⟨fun h => by have := blk_lt XBB.out; omega⟩
      replace R := Aside0.mk (R.out.below BS.out)
      replace XBB := Aside0.mk (blk_below XBB.out BS.out)
      replace BL := Aside0.mk (below_on HB.out BL.out BS.out)
      clear BS B5 RX
      generalize (wr.alloc (.cells #[.int .i64 0, .string ⟨#[]⟩, .int .i64 0, .int .u8 0, .int .u8 0, .int .u8 0, .int .u8 0, .int .u8 0, .int .u8 0, .int .u8 0, .int .u8 0, .int .u8 0, .int .u8 0, .int .u8 0, .int .u8 0, .int .u8 0, .int .u8 0, .int .u8 0, .int .u8 0, .int .u8 0, .int .u8 0, .int .u8 0, .int .u8 0, .int .u8 0, .int .u8 0, .int .u8 0, .int .u8 0, .int .u8 0, .int .u8 0, .int .u8 0, .int .u8 0, .int .u8 0, .int .u8 0, .int .u8 0, .int .u8 0] 34 (0, 0))).setRow wr.heap.size x.cells.toArray = w5 at *
      generalize wr.heap.size = gx at *
      have HI : i + 1 ≤ len := by omega
      have CB := Aside0.mk (fun (w : World) (h : w.heap[gx]? = some (Obj.cells x.cells.toArray 34 (0, 0))) => box_cells h)
      have ck := Aside0.mk (CB.out w5 XG.out).1
      by_cases hk0 : x.k = 0
      · have k0 : (x.k == 0) = true := by simp [hk0]
        clear hk0
        by_cases he : makeRes L x.name x.n = 0
        · have OM := Aside0.mk (fun W => omake_any HC.out HG.out x.name x.n (by have := NS.out; omega) NI.out W)
          have MM := Aside0.mk (fun W (r : Rep base W mb L gs v) => make_any r x.name x.n (by have := NS.out; omega))
          rw [he] at OM MM
          clear he
          have c0 := ck.out
          clear ck
          have cb := Aside0.mk (CB.out _ XG.out)
          have c1 := cb.out.2.1
          have c2 := cb.out.2.2.1
          clear cb
          generalize x.k = xk at *
          go_wp2_with (first | (refine CsE.wpList_load_row_g (by rfl) 32 _ rfl bb rfl 32 (CsE.arr (CsK.enc l)) (0, 0) _ XBB.out Tryd.underlying32 rfl (by rw [HEL.out]; kernel_rfl) ?_))
          refine (OM.out _).mono ?_
          rintro e w41 ⟨pv, rfl, hb, ht⟩
          obtain ⟨l2, k, g, cap2, hg2, hc2, rfl, hk1c, hk10, hgB, hrg⟩ := (ht (by trivial)).ex
          have RG := Aside0.mk hrg
          replace HC := Aside0.mk hc2
          replace HG := Aside0.mk hg2
          have NG := Aside0.mk (foot_not R.out hgB)
          clear hrg hc2 hg2 hgB
          clear ht
          replace R := Aside0.mk (R.out.below hb)
          replace XBB := Aside0.mk (blk_below XBB.out hb)
          replace BL : Aside0 (Below base w w41) := ⟨below_on HB.out BL.out hb⟩
          replace XG := Aside0.mk (blk_below XG.out hb)
          clear hb OM c0 c1 c2
          have cb := Aside0.mk (CB.out _ XG.out)
          have c1 := cb.out.2.1
          have c2 := cb.out.2.2.1
          clear cb
          go_wp2_with fail
          refine (MM.out _ R.out).mono ?_
          rintro e w42 ⟨rfl, gs1, v1, R1, M1⟩
          generalize makeL L x.name x.n = L2 at *
          have HE2 := Aside0.mk (enc_len HG.out)
          replace RG : Aside0 (w42.rangeAt g (k * 33 + 1) ((CsK.enc l2).map (Value.int .u8))) := ⟨range_moves M1 RG.out (by rw [List.length_map, HE2.out]; omega) NG.out⟩
          have X0 := R
          have XB2 := Aside0.mk (moves_not M1 XBB.out NB.out)
          replace XBB : Aside0 (w42.heap[bb]? = some (.cells (CsE.arr (CsK.enc l)) 32 (0, 0))) := ⟨XB2.out.2⟩
          replace NB := Aside0.mk XB2.out.1
          replace BL : Aside0 (Below base w w42) := ⟨BL.out.trans (below_of_moves X0.out M1)⟩
          replace R := Aside0.mk R1
          clear X0 R1 M1 MM XB2 c1 c2
          have ek : (((k + 1 : Nat) : Int) == 0) = false := by simp; omega
          have ei : (((k + 1 : Nat) : Int) - 1) = (k : Int) := by omega
          have HS2 : Aside0 ((CsE.arr (CsK.enc l2)).size = 32) := ⟨by rw [CsE.arr_size]; exact HE2.out⟩
          go_wp2_with (first | (refine wpList_load_mid_g (by rfl) 32 _ rfl g (k * 33 + 1) rfl ((CsK.enc l2).map (Value.int .u8)) _ RG.out Tryd.underlying32 rfl (by rw [List.length_map, HE2.out]; kernel_rfl) ?_) | (refine wpList_store_row rfl 32 (.tmp 4) (.tmp 100) rfl bb (CsE.arr (CsK.enc l2)) rfl rfl 32 _ XBB.out (by rw [HS2.out]; kernel_rfl) (by rw [HS2.out, HEL.out]) (CsE.arr_one _) (stop ?_)))
          unfold Stop
          replace R : Aside0 (Rep base (w42.setRow bb (CsE.arr (CsK.enc l2))) mb L2 gs1 v1) := ⟨rep_touch R.out (touch_row _ bb _) (fun j hj hk => NB.out (by rw [List.mem_singleton] at hk; rw [← hk]; exact hj))⟩
          replace XBB := Aside0.mk (setRow_heap _ bb _ (CsE.arr (CsK.enc l2)) 32 (0, 0) XBB.out)
          replace BL := Aside0.mk (below_setRow BL.out HBB.out (CsE.arr (CsK.enc l2)))
          generalize w42.setRow bb (CsE.arr (CsK.enc l2)) = w43 at *
          clear HEL ek ei RG NG HE2
          have HEL := HS2
          clear HS2
          have NSQ := Aside0.mk HC.out.names
          clear XG NX NE CB HX NS NI HD CL DL
          go_wp2_with (first | (refine CsE.wpList_load_row_g (by rfl) 32 _ rfl bb rfl 32 (CsE.arr (CsK.enc l2)) (0, 0) _ XBB.out Tryd.underlying32 rfl (by rw [HEL.out]; kernel_rfl) ?_))
          refine (CsN.volumes_any _ _ HG.out).mono ?_
          rintro e w44 ⟨pv, rfl, tab, hb⟩
          have T1 := Aside0.mk (tvr_tab tab)
          replace R := Aside0.mk (R.out.below hb)
          replace XBB := Aside0.mk (blk_below XBB.out hb)
          replace BL : Aside0 (Below base w w44) := ⟨below_on HB.out BL.out hb⟩
          clear tab hb
          obtain ⟨ns, HNS⟩ : ∃ ns, Aside0 (l2.map (·.name) = ns) := ⟨_, ⟨rfl⟩⟩
          rw [HNS.out] at T1 NSQ
          have R9 : Aside0 (∀ W, Rep base W mb L2 gs1 v1 → Calls Tryd.prog 18 #[.pointer (some ⟨mb, 0, none⟩)] W fun e w' => ∃ u, e = .returned u ∧ TRow w' u ns ∧ Below W.heap.size W w') := ⟨fun W r => by
            refine (names_any r).mono ?_
            rintro e w' ⟨u, he, own, hb⟩
            exact ⟨u, he, NSQ.out ▸ names_trow own, hb⟩⟩
          obtain ⟨Av, cv, rfl, hav⟩ := T1.out
          have AV := Aside0.mk hav
          clear hav T1
          have hn9 : ns.length ≤ 3 := by have := HG.out.few; rw [← HNS.out, List.length_map]; exact this
          go_wp2_with fail
          refine (R9.out _ R.out).mono ?_
          rintro e w45 ⟨u, rfl, T2, hb⟩
          replace R := Aside0.mk (R.out.below hb)
          replace XBB := Aside0.mk (blk_below XBB.out hb)
          replace BL : Aside0 (Below base w w45) := ⟨below_on HB.out BL.out hb⟩
          have AV2 : Aside0 (0 < ns.length → ∃ g, Av = some ⟨g, 0, none⟩ ∧ ∀ j x, ns[j]? = some x → w45.cell? ⟨g, j * 2, none⟩ = some (.string x)) := ⟨fun h => by
            obtain ⟨g, e, k⟩ := AV.out h
            exact ⟨g, e, fun j x hx => pw_cell_below hb (k j x hx)⟩⟩
          replace AV := AV2
          clear AV2 hb
          obtain ⟨A2, c2, rfl, t2, t3, t4⟩ := T2
          clear t2 t3 t4
          have hbn : ((ns.length : Int) != (ns.length : Int)) = false := by simp
          generalize hln : ns.length = nl at *
          have HLN := Aside0.mk hln
          clear hln
          go_wp2_with fail
          clear hbn
          go_loopw [16] (fun kv wr => ∃ k : Nat, k ≤ nl ∧ kv = .int .i64 k ∧ Aside0 (Rep base wr mb L2 gs1 v1) ∧ Aside0 (wr.heap[bb]? = some (.cells (CsE.arr (CsK.enc l2)) 32 (0, 0))) ∧ Aside0 (0 < nl → ∃ g, Av = some ⟨g, 0, none⟩ ∧ ∀ j x, ns[j]? = some x → wr.cell? ⟨g, j * 2, none⟩ = some (.string x)) ∧ Aside0 (Below base w wr)) (fun kv _ => nl - (intOf kv).toNat)
          case atStart => exact ⟨0, by omega, rfl, R, XBB, AV, BL⟩
          case round =>
            clear R XBB AV BL w45
            obtain ⟨k, hk, rfl, R, XBB, AV, BL⟩ := hrel
            by_cases hkl : k < nl
            · obtain ⟨xn, hxn⟩ : ∃ xn, ns[k]? = some xn := ⟨ns[k]'(by rw [HLN.out]; exact hkl), by simp⟩
              have HK := Aside0.mk hxn
              clear hxn
              obtain ⟨gv, hgv, hav⟩ := AV.out (by omega)
              have AW := Aside0.mk hav
              clear hav AV
              subst hgv
              have b0 : (0 : Int) ≤ (k : Int) := by omega
              have b1 : (k : Int) < (nl : Int) := by omega
              have b2 : (xn.toList != xn.toList) = false := by simp
              go_wp2_with fail
              refine start_ (n := 11) (S := fun w' => True) (ds := []) #[false, false, false, false, false, false, false, false, false, false, false] (by kernel_rfl) rfl rfl trivial (fun hHeld => ?_)
              have hb := below_drew1 (Below.refl wr.heap.size wr)
              replace R := Aside0.mk (R.out.below hb)
              replace XBB := Aside0.mk (blk_below XBB.out hb)
              replace BL : Aside0 (Below base w wr.drew) := ⟨below_on HB.out BL.out hb⟩
              have AW2 : Aside0 (∀ j x, ns[j]? = some x → wr.drew.cell? ⟨gv, j * 2, none⟩ = some (.string x)) := ⟨fun j x hx => pw_cell_below hb (AW.out j x hx)⟩
              replace AW := AW2
              clear AW2
              clear hb
              generalize wr.drew = w47 at R XBB BL AW hHeld ⊢
              refine pure_ (i := 0) (N := (some 142)) (v := ?_) (a' := ?_) #[true, false, false, false, false, false, false, false, false, false, false] rfl rfl (by kernel_rfl) (fun _ _ _ h => h) (Or.inl ⟨by rfl, ?_⟩) ?_ ?_
              rotate_left
              · intro w'
                go_simp
                with_reducible rfl
              rotate_left
              · simp only [Act.put, List.setIfInBounds_toArray, List.set_cons_zero, List.set_cons_succ, i64_w, i32_w]
                rfl
              refine pure_ (i := 1) (N := (some 143)) (v := ?_) (a' := ?_) #[true, true, false, false, false, false, false, false, false, false, false] rfl rfl (by kernel_rfl) (fun _ _ _ h => h) (Or.inl ⟨by rfl, ?_⟩) ?_ ?_
              rotate_left
              · intro w'
                go_simp
                with_reducible rfl
              rotate_left
              · simp only [Act.put, List.setIfInBounds_toArray, List.set_cons_zero, List.set_cons_succ, i64_w, i32_w]
                rfl
              refine pure_ (i := 2) (N := (some 144)) (v := ?_) (a' := ?_) #[true, true, true, false, false, false, false, false, false, false, false] rfl rfl (by kernel_rfl) (fun _ _ _ h => h) (Or.inl ⟨by rfl, ?_⟩) ?_ ?_
              rotate_left
              · intro w'
                go_simp
                with_reducible rfl
              rotate_left
              · simp only [Act.put, List.setIfInBounds_toArray, List.set_cons_zero, List.set_cons_succ, i64_w, i32_w]
                rfl
              refine pure_ (i := 3) (N := (some 145)) (v := ?_) (a' := ?_) #[true, true, true, true, false, false, false, false, false, false, false] rfl rfl (by kernel_rfl) (fun _ _ _ h => h) (Or.inl ⟨by rfl, ?_⟩) ?_ ?_
              rotate_left
              · intro w'
                go_simp
                with_reducible rfl
              rotate_left
              · simp only [Act.put, List.setIfInBounds_toArray, List.set_cons_zero, List.set_cons_succ, i64_w, i32_w]
                rfl
              refine pure_ (i := 5) (N := (some 147)) (v := ?_) (a' := ?_) #[true, true, true, true, false, true, false, false, false, false, false] rfl rfl (by kernel_rfl) (fun _ _ _ h => h) (Or.inl ⟨by rfl, ?_⟩) ?_ ?_
              rotate_left
              · intro w'
                go_simp
                with_reducible rfl
              rotate_left
              · simp only [Act.put, List.setIfInBounds_toArray, List.set_cons_zero, List.set_cons_succ, i64_w, i32_w]
                rfl
              refine pure_ (i := 7) (N := (some 149)) (v := ?_) (a' := ?_) #[true, true, true, true, false, true, false, true, false, false, false] rfl rfl (by kernel_rfl) (fun _ _ _ h => h) (Or.inl ⟨by rfl, ?_⟩) ?_ ?_
              rotate_left
              · intro w'
                go_simp
                with_reducible rfl
              rotate_left
              · simp only [Act.put, List.setIfInBounds_toArray, List.set_cons_zero, List.set_cons_succ, i64_w, i32_w]
                rfl
              refine two_ (i := 4) (j := 6) (Ni := (some 146)) (Nj := (some 148)) #[true, true, true, true, true, true, false, true, false, false, false] #[true, true, true, true, false, true, true, true, false, false, false] rfl rfl rfl rfl (by kernel_rfl) (by decide) (by decide) (fun K hK => ?_) (fun K hK => ?_)
              · skip
                have c4 := AW.out k xn HK.out
                refine value_ (w1 := ?_) (v := ?_) (by rfl) rfl ?_ ?_
                rotate_left 2
                · go_simp
                  constructor
                  · rfl
                  · rfl
                clear c4
                refine hK.out _ _ trivial (fun hHeld => ?_)
                clear hK K
                refine norm_ (a' := ?_) ?_ ?_
                rotate_left
                · show Act.put _ (some 146) _ = _
                  simp only [Act.put, List.setIfInBounds_toArray, List.set_cons_zero, List.set_cons_succ, i64_w, i32_w]
                  rfl
                refine one_ (i := 6) (N := (some 148)) #[true, true, true, true, true, true, true, true, false, false, false] rfl rfl (by kernel_rfl) (by decide) (fun K hK => ?_)
                refine goes_ Tryd.func18 (by kernel_rfl) rfl #[.pointer (some ⟨mb, 0, none⟩)] (by rfl) rfl rfl (by first | (simp only [List.map_toArray, List.map_cons, List.map_nil]; done) | (simp only [List.map_toArray, List.map_cons, List.map_nil]; rfl)) ?_
                with_reducible refine (R9.out _ R.out).mono ?_
                rintro e w48 ⟨u, rfl, T2, hb⟩
                obtain ⟨A3, c3, rfl, t2, t3, t4⟩ := T2
                obtain ⟨gn, rfl, hcn⟩ := t4 (by rw [HLN.out]; omega)
                have CN := Aside0.mk (hcn k xn HK.out)
                rw [HLN.out]
                clear t2 t3 t4 hcn
                replace R := Aside0.mk (R.out.below hb)
                replace XBB := Aside0.mk (blk_below XBB.out hb)
                replace BL : Aside0 (Below base w w48) := ⟨below_on HB.out BL.out hb⟩
                have AW2 : Aside0 (∀ j x, ns[j]? = some x → w48.cell? ⟨gv, j * 2, none⟩ = some (.string x)) := ⟨fun j x hx => pw_cell_below hb (AW.out j x hx)⟩
                replace AW := AW2
                clear AW2
                clear hb hHeld
                refine ⟨_, rfl, ?_⟩
                refine hK.out _ _ trivial (fun hHeld => ?_)
                clear hK K
                refine norm_ (a' := ?_) ?_ ?_
                rotate_left
                · show Act.put _ (some 148) _ = _
                  simp only [Act.put, List.setIfInBounds_toArray, List.set_cons_zero, List.set_cons_succ, i64_w, i32_w]
                  rfl
                refine pure_ (i := 8) (N := (some 150)) (v := ?_) (a' := ?_) #[true, true, true, true, true, true, true, true, true, false, false] rfl rfl (by kernel_rfl) (fun _ _ _ h => h) (Or.inl ⟨by rfl, ?_⟩) ?_ ?_
                rotate_left
                · intro w'
                  go_simp
                  with_reducible rfl
                rotate_left
                · simp only [Act.put, List.setIfInBounds_toArray, List.set_cons_zero, List.set_cons_succ, i64_w, i32_w]
                  rfl
                refine one_ (i := 9) (N := (some 151)) #[true, true, true, true, true, true, true, true, true, true, false] rfl rfl (by kernel_rfl) (by decide) (fun K hK => ?_)
                have c9 := CN.out
                refine value_ (w1 := ?_) (v := ?_) (by rfl) rfl ?_ ?_
                rotate_left 2
                · go_simp
                  constructor
                  · rfl
                  · rfl
                clear c9
                refine hK.out _ _ trivial (fun hHeld => ?_)
                clear hK K
                refine norm_ (a' := ?_) ?_ ?_
                rotate_left
                · show Act.put _ (some 151) _ = _
                  simp only [Act.put, List.setIfInBounds_toArray, List.set_cons_zero, List.set_cons_succ, i64_w, i32_w]
                  rfl
                refine pure_ (i := 10) (N := (some 152)) (v := ?_) (a' := ?_) #[true, true, true, true, true, true, true, true, true, true, true] rfl rfl (by kernel_rfl) (fun _ _ _ h => h) (Or.inl ⟨by rfl, ?_⟩) ?_ ?_
                rotate_left
                · intro w'
                  go_simp
                  with_reducible rfl
                rotate_left
                · simp only [Act.put, List.setIfInBounds_toArray, List.set_cons_zero, List.set_cons_succ, i64_w, i32_w]
                  rfl
                refine done_ (by kernel_rfl) ?_
                go_wp2_with fail
                go_roundw
                case measure => simp [intOf]; omega
                case rel => exact ⟨k + 1, by omega, by go_num, R, XBB, ⟨fun _ => ⟨gv, rfl, AW.out⟩⟩, BL⟩
              · skip
                refine goes_ Tryd.func18 (by kernel_rfl) rfl #[.pointer (some ⟨mb, 0, none⟩)] (by rfl) rfl rfl (by first | (simp only [List.map_toArray, List.map_cons, List.map_nil]; done) | (simp only [List.map_toArray, List.map_cons, List.map_nil]; rfl)) ?_
                with_reducible refine (R9.out _ R.out).mono ?_
                rintro e w49 ⟨u, rfl, T2, hb⟩
                obtain ⟨A3, c3, rfl, t2, t3, t4⟩ := T2
                obtain ⟨gn, rfl, hcn⟩ := t4 (by rw [HLN.out]; omega)
                have CN := Aside0.mk (hcn k xn HK.out)
                rw [HLN.out]
                clear t2 t3 t4 hcn
                replace R := Aside0.mk (R.out.below hb)
                replace XBB := Aside0.mk (blk_below XBB.out hb)
                replace BL : Aside0 (Below base w w49) := ⟨below_on HB.out BL.out hb⟩
                have AW2 : Aside0 (∀ j x, ns[j]? = some x → w49.cell? ⟨gv, j * 2, none⟩ = some (.string x)) := ⟨fun j x hx => pw_cell_below hb (AW.out j x hx)⟩
                replace AW := AW2
                clear AW2
                clear hb hHeld
                refine ⟨_, rfl, ?_⟩
                refine hK.out _ _ trivial (fun hHeld => ?_)
                clear hK K
                refine norm_ (a' := ?_) ?_ ?_
                rotate_left
                · show Act.put _ (some 148) _ = _
                  simp only [Act.put, List.setIfInBounds_toArray, List.set_cons_zero, List.set_cons_succ, i64_w, i32_w]
                  rfl
                refine pure_ (i := 8) (N := (some 150)) (v := ?_) (a' := ?_) #[true, true, true, true, false, true, true, true, true, false, false] rfl rfl (by kernel_rfl) (fun _ _ _ h => h) (Or.inl ⟨by rfl, ?_⟩) ?_ ?_
                rotate_left
                · intro w'
                  go_simp
                  with_reducible rfl
                rotate_left
                · simp only [Act.put, List.setIfInBounds_toArray, List.set_cons_zero, List.set_cons_succ, i64_w, i32_w]
                  rfl
                refine two_ (i := 4) (j := 9) (Ni := (some 146)) (Nj := (some 151)) #[true, true, true, true, true, true, true, true, true, false, false] #[true, true, true, true, false, true, true, true, true, true, false] rfl rfl rfl rfl (by kernel_rfl) (by decide) (by decide) (fun K hK => ?_) (fun K hK => ?_)
                · skip
                  have c4 := AW.out k xn HK.out
                  refine value_ (w1 := ?_) (v := ?_) (by rfl) rfl ?_ ?_
                  rotate_left 2
                  · go_simp
                    constructor
                    · rfl
                    · rfl
                  clear c4
                  refine hK.out _ _ trivial (fun hHeld => ?_)
                  clear hK K
                  refine norm_ (a' := ?_) ?_ ?_
                  rotate_left
                  · show Act.put _ (some 146) _ = _
                    simp only [Act.put, List.setIfInBounds_toArray, List.set_cons_zero, List.set_cons_succ, i64_w, i32_w]
                    rfl
                  refine one_ (i := 9) (N := (some 151)) #[true, true, true, true, true, true, true, true, true, true, false] rfl rfl (by kernel_rfl) (by decide) (fun K hK => ?_)
                  have c9 := CN.out
                  refine value_ (w1 := ?_) (v := ?_) (by rfl) rfl ?_ ?_
                  rotate_left 2
                  · go_simp
                    constructor
                    · rfl
                    · rfl
                  clear c9
                  refine hK.out _ _ trivial (fun hHeld => ?_)
                  clear hK K
                  refine norm_ (a' := ?_) ?_ ?_
                  rotate_left
                  · show Act.put _ (some 151) _ = _
                    simp only [Act.put, List.setIfInBounds_toArray, List.set_cons_zero, List.set_cons_succ, i64_w, i32_w]
                    rfl
                  refine pure_ (i := 10) (N := (some 152)) (v := ?_) (a' := ?_) #[true, true, true, true, true, true, true, true, true, true, true] rfl rfl (by kernel_rfl) (fun _ _ _ h => h) (Or.inl ⟨by rfl, ?_⟩) ?_ ?_
                  rotate_left
                  · intro w'
                    go_simp
                    with_reducible rfl
                  rotate_left
                  · simp only [Act.put, List.setIfInBounds_toArray, List.set_cons_zero, List.set_cons_succ, i64_w, i32_w]
                    rfl
                  refine done_ (by kernel_rfl) ?_
                  go_wp2_with fail
                  go_roundw
                  case measure => simp [intOf]; omega
                  case rel => exact ⟨k + 1, by omega, by go_num, R, XBB, ⟨fun _ => ⟨gv, rfl, AW.out⟩⟩, BL⟩
                · skip
                  have c9 := CN.out
                  refine value_ (w1 := ?_) (v := ?_) (by rfl) rfl ?_ ?_
                  rotate_left 2
                  · go_simp
                    constructor
                    · rfl
                    · rfl
                  clear c9
                  refine hK.out _ _ trivial (fun hHeld => ?_)
                  clear hK K
                  refine norm_ (a' := ?_) ?_ ?_
                  rotate_left
                  · show Act.put _ (some 151) _ = _
                    simp only [Act.put, List.setIfInBounds_toArray, List.set_cons_zero, List.set_cons_succ, i64_w, i32_w]
                    rfl
                  refine one_ (i := 4) (N := (some 146)) #[true, true, true, true, true, true, true, true, true, true, false] rfl rfl (by kernel_rfl) (by decide) (fun K hK => ?_)
                  have c4 := AW.out k xn HK.out
                  refine value_ (w1 := ?_) (v := ?_) (by rfl) rfl ?_ ?_
                  rotate_left 2
                  · go_simp
                    constructor
                    · rfl
                    · rfl
                  clear c4
                  refine hK.out _ _ trivial (fun hHeld => ?_)
                  clear hK K
                  refine norm_ (a' := ?_) ?_ ?_
                  rotate_left
                  · show Act.put _ (some 146) _ = _
                    simp only [Act.put, List.setIfInBounds_toArray, List.set_cons_zero, List.set_cons_succ, i64_w, i32_w]
                    rfl
                  refine pure_ (i := 10) (N := (some 152)) (v := ?_) (a' := ?_) #[true, true, true, true, true, true, true, true, true, true, true] rfl rfl (by kernel_rfl) (fun _ _ _ h => h) (Or.inl ⟨by rfl, ?_⟩) ?_ ?_
                  rotate_left
                  · intro w'
                    go_simp
                    with_reducible rfl
                  rotate_left
                  · simp only [Act.put, List.setIfInBounds_toArray, List.set_cons_zero, List.set_cons_succ, i64_w, i32_w]
                    rfl
                  refine done_ (by kernel_rfl) ?_
                  go_wp2_with fail
                  go_roundw
                  case measure => simp [intOf]; omega
                  case rel => exact ⟨k + 1, by omega, by go_num, R, XBB, ⟨fun _ => ⟨gv, rfl, AW.out⟩⟩, BL⟩
            · have e : k = nl := by omega
              subst e
              go_wp2_with fail
              go_roundw
              case measure => simp [intOf]; omega
              case rel => exact ⟨i + 1, L2, gs1, v1, l2, by omega, by go_num, R, XBB, HG, HC, NB, BL⟩
        · have OM := Aside0.mk (fun W => omake_any HC.out HG.out x.name x.n (by have := NS.out; omega) NI.out W)
          have MM := Aside0.mk (fun W (r : Rep base W mb L gs v) => make_any r x.name x.n (by have := NS.out; omega))
          have eL : makeL L x.name x.n = L := by unfold makeL; rw [if_neg he]
          rw [eL] at OM MM
          have e0 : (makeRes L x.name x.n == 0) = false := by simp [he]
          have e2 : (makeRes L x.name x.n != makeRes L x.name x.n) = false := by simp
          clear he eL
          generalize makeRes L x.name x.n = er at *
          have c0 := ck.out
          clear ck
          have cb := Aside0.mk (CB.out _ XG.out)
          have c1 := cb.out.2.1
          have c2 := cb.out.2.2.1
          clear cb
          generalize x.k = xk at *
          go_wp2_with (first | (refine CsE.wpList_load_row_g (by rfl) 32 _ rfl bb rfl 32 (CsE.arr (CsK.enc l)) (0, 0) _ XBB.out Tryd.underlying32 rfl (by rw [HEL.out]; kernel_rfl) ?_))
          refine (OM.out _).mono ?_
          rintro e w50 ⟨pv, rfl, hb, ht⟩
          clear ht
          replace R := Aside0.mk (R.out.below hb)
          replace XBB := Aside0.mk (blk_below XBB.out hb)
          replace BL : Aside0 (Below base w w50) := ⟨below_on HB.out BL.out hb⟩
          replace XG := Aside0.mk (blk_below XG.out hb)
          clear hb OM c0 c1 c2
          have cb := Aside0.mk (CB.out _ XG.out)
          have c1 := cb.out.2.1
          have c2 := cb.out.2.2.1
          clear cb
          go_wp2_with fail
          refine (MM.out _ R.out).mono ?_
          rintro e w51 ⟨rfl, gs1, v1, R1, M1⟩
          have X0 := R
          have XB2 := Aside0.mk (moves_not M1 XBB.out NB.out)
          replace XBB : Aside0 (w51.heap[bb]? = some (.cells (CsE.arr (CsK.enc l)) 32 (0, 0))) := ⟨XB2.out.2⟩
          replace NB := Aside0.mk XB2.out.1
          replace BL : Aside0 (Below base w w51) := ⟨BL.out.trans (below_of_moves X0.out M1)⟩
          replace R := Aside0.mk R1
          clear X0 R1 M1 MM XB2 c1 c2
          have NSQ := Aside0.mk HC.out.names
          clear XG NX NE CB HX NS NI HD CL DL
          go_wp2_with (first | (refine CsE.wpList_load_row_g (by rfl) 32 _ rfl bb rfl 32 (CsE.arr (CsK.enc l)) (0, 0) _ XBB.out Tryd.underlying32 rfl (by rw [HEL.out]; kernel_rfl) ?_))
          refine (CsN.volumes_any _ _ HG.out).mono ?_
          rintro e w53 ⟨pv, rfl, tab, hb⟩
          have T1 := Aside0.mk (tvr_tab tab)
          replace R := Aside0.mk (R.out.below hb)
          replace XBB := Aside0.mk (blk_below XBB.out hb)
          replace BL : Aside0 (Below base w w53) := ⟨below_on HB.out BL.out hb⟩
          clear tab hb
          obtain ⟨ns, HNS⟩ : ∃ ns, Aside0 (l.map (·.name) = ns) := ⟨_, ⟨rfl⟩⟩
          rw [HNS.out] at T1 NSQ
          have R9 : Aside0 (∀ W, Rep base W mb L gs1 v1 → Calls Tryd.prog 18 #[.pointer (some ⟨mb, 0, none⟩)] W fun e w' => ∃ u, e = .returned u ∧ TRow w' u ns ∧ Below W.heap.size W w') := ⟨fun W r => by
            refine (names_any r).mono ?_
            rintro e w' ⟨u, he, own, hb⟩
            exact ⟨u, he, NSQ.out ▸ names_trow own, hb⟩⟩
          obtain ⟨Av, cv, rfl, hav⟩ := T1.out
          have AV := Aside0.mk hav
          clear hav T1
          have hn9 : ns.length ≤ 3 := by have := HG.out.few; rw [← HNS.out, List.length_map]; exact this
          go_wp2_with fail
          refine (R9.out _ R.out).mono ?_
          rintro e w54 ⟨u, rfl, T2, hb⟩
          replace R := Aside0.mk (R.out.below hb)
          replace XBB := Aside0.mk (blk_below XBB.out hb)
          replace BL : Aside0 (Below base w w54) := ⟨below_on HB.out BL.out hb⟩
          have AV2 : Aside0 (0 < ns.length → ∃ g, Av = some ⟨g, 0, none⟩ ∧ ∀ j x, ns[j]? = some x → w54.cell? ⟨g, j * 2, none⟩ = some (.string x)) := ⟨fun h => by
            obtain ⟨g, e, k⟩ := AV.out h
            exact ⟨g, e, fun j x hx => pw_cell_below hb (k j x hx)⟩⟩
          replace AV := AV2
          clear AV2 hb
          obtain ⟨A2, c2, rfl, t2, t3, t4⟩ := T2
          clear t2 t3 t4
          have hbn : ((ns.length : Int) != (ns.length : Int)) = false := by simp
          generalize hln : ns.length = nl at *
          have HLN := Aside0.mk hln
          clear hln
          go_wp2_with fail
          clear hbn
          go_loopw [16] (fun kv wr => ∃ k : Nat, k ≤ nl ∧ kv = .int .i64 k ∧ Aside0 (Rep base wr mb L gs1 v1) ∧ Aside0 (wr.heap[bb]? = some (.cells (CsE.arr (CsK.enc l)) 32 (0, 0))) ∧ Aside0 (0 < nl → ∃ g, Av = some ⟨g, 0, none⟩ ∧ ∀ j x, ns[j]? = some x → wr.cell? ⟨g, j * 2, none⟩ = some (.string x)) ∧ Aside0 (Below base w wr)) (fun kv _ => nl - (intOf kv).toNat)
          case atStart => exact ⟨0, by omega, rfl, R, XBB, AV, BL⟩
          case round =>
            clear R XBB AV BL w54
            obtain ⟨k, hk, rfl, R, XBB, AV, BL⟩ := hrel
            by_cases hkl : k < nl
            · obtain ⟨xn, hxn⟩ : ∃ xn, ns[k]? = some xn := ⟨ns[k]'(by rw [HLN.out]; exact hkl), by simp⟩
              have HK := Aside0.mk hxn
              clear hxn
              obtain ⟨gv, hgv, hav⟩ := AV.out (by omega)
              have AW := Aside0.mk hav
              clear hav AV
              subst hgv
              have b0 : (0 : Int) ≤ (k : Int) := by omega
              have b1 : (k : Int) < (nl : Int) := by omega
              have b2 : (xn.toList != xn.toList) = false := by simp
              go_wp2_with fail
              refine start_ (n := 11) (S := fun w' => True) (ds := []) #[false, false, false, false, false, false, false, false, false, false, false] (by kernel_rfl) rfl rfl trivial (fun hHeld => ?_)
              have hb := below_drew1 (Below.refl wr.heap.size wr)
              replace R := Aside0.mk (R.out.below hb)
              replace XBB := Aside0.mk (blk_below XBB.out hb)
              replace BL : Aside0 (Below base w wr.drew) := ⟨below_on HB.out BL.out hb⟩
              have AW2 : Aside0 (∀ j x, ns[j]? = some x → wr.drew.cell? ⟨gv, j * 2, none⟩ = some (.string x)) := ⟨fun j x hx => pw_cell_below hb (AW.out j x hx)⟩
              replace AW := AW2
              clear AW2
              clear hb
              generalize wr.drew = w56 at R XBB BL AW hHeld ⊢
              refine pure_ (i := 0) (N := (some 142)) (v := ?_) (a' := ?_) #[true, false, false, false, false, false, false, false, false, false, false] rfl rfl (by kernel_rfl) (fun _ _ _ h => h) (Or.inl ⟨by rfl, ?_⟩) ?_ ?_
              rotate_left
              · intro w'
                go_simp
                with_reducible rfl
              rotate_left
              · simp only [Act.put, List.setIfInBounds_toArray, List.set_cons_zero, List.set_cons_succ, i64_w, i32_w]
                rfl
              refine pure_ (i := 1) (N := (some 143)) (v := ?_) (a' := ?_) #[true, true, false, false, false, false, false, false, false, false, false] rfl rfl (by kernel_rfl) (fun _ _ _ h => h) (Or.inl ⟨by rfl, ?_⟩) ?_ ?_
              rotate_left
              · intro w'
                go_simp
                with_reducible rfl
              rotate_left
              · simp only [Act.put, List.setIfInBounds_toArray, List.set_cons_zero, List.set_cons_succ, i64_w, i32_w]
                rfl
              refine pure_ (i := 2) (N := (some 144)) (v := ?_) (a' := ?_) #[true, true, true, false, false, false, false, false, false, false, false] rfl rfl (by kernel_rfl) (fun _ _ _ h => h) (Or.inl ⟨by rfl, ?_⟩) ?_ ?_
              rotate_left
              · intro w'
                go_simp
                with_reducible rfl
              rotate_left
              · simp only [Act.put, List.setIfInBounds_toArray, List.set_cons_zero, List.set_cons_succ, i64_w, i32_w]
                rfl
              refine pure_ (i := 3) (N := (some 145)) (v := ?_) (a' := ?_) #[true, true, true, true, false, false, false, false, false, false, false] rfl rfl (by kernel_rfl) (fun _ _ _ h => h) (Or.inl ⟨by rfl, ?_⟩) ?_ ?_
              rotate_left
              · intro w'
                go_simp
                with_reducible rfl
              rotate_left
              · simp only [Act.put, List.setIfInBounds_toArray, List.set_cons_zero, List.set_cons_succ, i64_w, i32_w]
                rfl
              refine pure_ (i := 5) (N := (some 147)) (v := ?_) (a' := ?_) #[true, true, true, true, false, true, false, false, false, false, false] rfl rfl (by kernel_rfl) (fun _ _ _ h => h) (Or.inl ⟨by rfl, ?_⟩) ?_ ?_
              rotate_left
              · intro w'
                go_simp
                with_reducible rfl
              rotate_left
              · simp only [Act.put, List.setIfInBounds_toArray, List.set_cons_zero, List.set_cons_succ, i64_w, i32_w]
                rfl
              refine pure_ (i := 7) (N := (some 149)) (v := ?_) (a' := ?_) #[true, true, true, true, false, true, false, true, false, false, false] rfl rfl (by kernel_rfl) (fun _ _ _ h => h) (Or.inl ⟨by rfl, ?_⟩) ?_ ?_
              rotate_left
              · intro w'
                go_simp
                with_reducible rfl
              rotate_left
              · simp only [Act.put, List.setIfInBounds_toArray, List.set_cons_zero, List.set_cons_succ, i64_w, i32_w]
                rfl
              refine two_ (i := 4) (j := 6) (Ni := (some 146)) (Nj := (some 148)) #[true, true, true, true, true, true, false, true, false, false, false] #[true, true, true, true, false, true, true, true, false, false, false] rfl rfl rfl rfl (by kernel_rfl) (by decide) (by decide) (fun K hK => ?_) (fun K hK => ?_)
              · skip
                have c4 := AW.out k xn HK.out
                refine value_ (w1 := ?_) (v := ?_) (by rfl) rfl ?_ ?_
                rotate_left 2
                · go_simp
                  constructor
                  · rfl
                  · rfl
                clear c4
                refine hK.out _ _ trivial (fun hHeld => ?_)
                clear hK K
                refine norm_ (a' := ?_) ?_ ?_
                rotate_left
                · show Act.put _ (some 146) _ = _
                  simp only [Act.put, List.setIfInBounds_toArray, List.set_cons_zero, List.set_cons_succ, i64_w, i32_w]
                  rfl
                refine one_ (i := 6) (N := (some 148)) #[true, true, true, true, true, true, true, true, false, false, false] rfl rfl (by kernel_rfl) (by decide) (fun K hK => ?_)
                refine goes_ Tryd.func18 (by kernel_rfl) rfl #[.pointer (some ⟨mb, 0, none⟩)] (by rfl) rfl rfl (by first | (simp only [List.map_toArray, List.map_cons, List.map_nil]; done) | (simp only [List.map_toArray, List.map_cons, List.map_nil]; rfl)) ?_
                with_reducible refine (R9.out _ R.out).mono ?_
                rintro e w57 ⟨u, rfl, T2, hb⟩
                obtain ⟨A3, c3, rfl, t2, t3, t4⟩ := T2
                obtain ⟨gn, rfl, hcn⟩ := t4 (by rw [HLN.out]; omega)
                have CN := Aside0.mk (hcn k xn HK.out)
                rw [HLN.out]
                clear t2 t3 t4 hcn
                replace R := Aside0.mk (R.out.below hb)
                replace XBB := Aside0.mk (blk_below XBB.out hb)
                replace BL : Aside0 (Below base w w57) := ⟨below_on HB.out BL.out hb⟩
                have AW2 : Aside0 (∀ j x, ns[j]? = some x → w57.cell? ⟨gv, j * 2, none⟩ = some (.string x)) := ⟨fun j x hx => pw_cell_below hb (AW.out j x hx)⟩
                replace AW := AW2
                clear AW2
                clear hb hHeld
                refine ⟨_, rfl, ?_⟩
                refine hK.out _ _ trivial (fun hHeld => ?_)
                clear hK K
                refine norm_ (a' := ?_) ?_ ?_
                rotate_left
                · show Act.put _ (some 148) _ = _
                  simp only [Act.put, List.setIfInBounds_toArray, List.set_cons_zero, List.set_cons_succ, i64_w, i32_w]
                  rfl
                refine pure_ (i := 8) (N := (some 150)) (v := ?_) (a' := ?_) #[true, true, true, true, true, true, true, true, true, false, false] rfl rfl (by kernel_rfl) (fun _ _ _ h => h) (Or.inl ⟨by rfl, ?_⟩) ?_ ?_
                rotate_left
                · intro w'
                  go_simp
                  with_reducible rfl
                rotate_left
                · simp only [Act.put, List.setIfInBounds_toArray, List.set_cons_zero, List.set_cons_succ, i64_w, i32_w]
                  rfl
                refine one_ (i := 9) (N := (some 151)) #[true, true, true, true, true, true, true, true, true, true, false] rfl rfl (by kernel_rfl) (by decide) (fun K hK => ?_)
                have c9 := CN.out
                refine value_ (w1 := ?_) (v := ?_) (by rfl) rfl ?_ ?_
                rotate_left 2
                · go_simp
                  constructor
                  · rfl
                  · rfl
                clear c9
                refine hK.out _ _ trivial (fun hHeld => ?_)
                clear hK K
                refine norm_ (a' := ?_) ?_ ?_
                rotate_left
                · show Act.put _ (some 151) _ = _
                  simp only [Act.put, List.setIfInBounds_toArray, List.set_cons_zero, List.set_cons_succ, i64_w, i32_w]
                  rfl
                refine pure_ (i := 10) (N := (some 152)) (v := ?_) (a' := ?_) #[true, true, true, true, true, true, true, true, true, true, true] rfl rfl (by kernel_rfl) (fun _ _ _ h => h) (Or.inl ⟨by rfl, ?_⟩) ?_ ?_
                rotate_left
                · intro w'
                  go_simp
                  with_reducible rfl
                rotate_left
                · simp only [Act.put, List.setIfInBounds_toArray, List.set_cons_zero, List.set_cons_succ, i64_w, i32_w]
                  rfl
                refine done_ (by kernel_rfl) ?_
                go_wp2_with fail
                go_roundw
                case measure => simp [intOf]; omega
                case rel => exact ⟨k + 1, by omega, by go_num, R, XBB, ⟨fun _ => ⟨gv, rfl, AW.out⟩⟩, BL⟩
              · skip
                refine goes_ Tryd.func18 (by kernel_rfl) rfl #[.pointer (some ⟨mb, 0, none⟩)] (by rfl) rfl rfl (by first | (simp only [List.map_toArray, List.map_cons, List.map_nil]; done) | (simp only [List.map_toArray, List.map_cons, List.map_nil]; rfl)) ?_
                with_reducible refine (R9.out _ R.out).mono ?_
                rintro e w58 ⟨u, rfl, T2, hb⟩
                obtain ⟨A3, c3, rfl, t2, t3, t4⟩ := T2
                obtain ⟨gn, rfl, hcn⟩ := t4 (by rw [HLN.out]; omega)
                have CN := Aside0.mk (hcn k xn HK.out)
                rw [HLN.out]
                clear t2 t3 t4 hcn
                replace R := Aside0.mk (R.out.below hb)
                replace XBB := Aside0.mk (blk_below XBB.out hb)
                replace BL : Aside0 (Below base w w58) := ⟨below_on HB.out BL.out hb⟩
                have AW2 : Aside0 (∀ j x, ns[j]? = some x → w58.cell? ⟨gv, j * 2, none⟩ = some (.string x)) := ⟨fun j x hx => pw_cell_below hb (AW.out j x hx)⟩
                replace AW := AW2
                clear AW2
                clear hb hHeld
                refine ⟨_, rfl, ?_⟩
                refine hK.out _ _ trivial (fun hHeld => ?_)
                clear hK K
                refine norm_ (a' := ?_) ?_ ?_
                rotate_left
                · show Act.put _ (some 148) _ = _
                  simp only [Act.put, List.setIfInBounds_toArray, List.set_cons_zero, List.set_cons_succ, i64_w, i32_w]
                  rfl
                refine pure_ (i := 8) (N := (some 150)) (v := ?_) (a' := ?_) #[true, true, true, true, false, true, true, true, true, false, false] rfl rfl (by kernel_rfl) (fun _ _ _ h => h) (Or.inl ⟨by rfl, ?_⟩) ?_ ?_
                rotate_left
                · intro w'
                  go_simp
                  with_reducible rfl
                rotate_left
                · simp only [Act.put, List.setIfInBounds_toArray, List.set_cons_zero, List.set_cons_succ, i64_w, i32_w]
                  rfl
                refine two_ (i := 4) (j := 9) (Ni := (some 146)) (Nj := (some 151)) #[true, true, true, true, true, true, true, true, true, false, false] #[true, true, true, true, false, true, true, true, true, true, false] rfl rfl rfl rfl (by kernel_rfl) (by decide) (by decide) (fun K hK => ?_) (fun K hK => ?_)
                · skip
                  have c4 := AW.out k xn HK.out
                  refine value_ (w1 := ?_) (v := ?_) (by rfl) rfl ?_ ?_
                  rotate_left 2
                  · go_simp
                    constructor
                    · rfl
                    · rfl
                  clear c4
                  refine hK.out _ _ trivial (fun hHeld => ?_)
                  clear hK K
                  refine norm_ (a' := ?_) ?_ ?_
                  rotate_left
                  · show Act.put _ (some 146) _ = _
                    simp only [Act.put, List.setIfInBounds_toArray, List.set_cons_zero, List.set_cons_succ, i64_w, i32_w]
                    rfl
                  refine one_ (i := 9) (N := (some 151)) #[true, true, true, true, true, true, true, true, true, true, false] rfl rfl (by kernel_rfl) (by decide) (fun K hK => ?_)
                  have c9 := CN.out
                  refine value_ (w1 := ?_) (v := ?_) (by rfl) rfl ?_ ?_
                  rotate_left 2
                  · go_simp
                    constructor
                    · rfl
                    · rfl
                  clear c9
                  refine hK.out _ _ trivial (fun hHeld => ?_)
                  clear hK K
                  refine norm_ (a' := ?_) ?_ ?_
                  rotate_left
                  · show Act.put _ (some 151) _ = _
                    simp only [Act.put, List.setIfInBounds_toArray, List.set_cons_zero, List.set_cons_succ, i64_w, i32_w]
                    rfl
                  refine pure_ (i := 10) (N := (some 152)) (v := ?_) (a' := ?_) #[true, true, true, true, true, true, true, true, true, true, true] rfl rfl (by kernel_rfl) (fun _ _ _ h => h) (Or.inl ⟨by rfl, ?_⟩) ?_ ?_
                  rotate_left
                  · intro w'
                    go_simp
                    with_reducible rfl
                  rotate_left
                  · simp only [Act.put, List.setIfInBounds_toArray, List.set_cons_zero, List.set_cons_succ, i64_w, i32_w]
                    rfl
                  refine done_ (by kernel_rfl) ?_
                  go_wp2_with fail
                  go_roundw
                  case measure => simp [intOf]; omega
                  case rel => exact ⟨k + 1, by omega, by go_num, R, XBB, ⟨fun _ => ⟨gv, rfl, AW.out⟩⟩, BL⟩
                · skip
                  have c9 := CN.out
                  refine value_ (w1 := ?_) (v := ?_) (by rfl) rfl ?_ ?_
                  rotate_left 2
                  · go_simp
                    constructor
                    · rfl
                    · rfl
                  clear c9
                  refine hK.out _ _ trivial (fun hHeld => ?_)
                  clear hK K
                  refine norm_ (a' := ?_) ?_ ?_
                  rotate_left
                  · show Act.put _ (some 151) _ = _
                    simp only [Act.put, List.setIfInBounds_toArray, List.set_cons_zero, List.set_cons_succ, i64_w, i32_w]
                    rfl
                  refine one_ (i := 4) (N := (some 146)) #[true, true, true, true, true, true, true, true, true, true, false] rfl rfl (by kernel_rfl) (by decide) (fun K hK => ?_)
                  have c4 := AW.out k xn HK.out
                  refine value_ (w1 := ?_) (v := ?_) (by rfl) rfl ?_ ?_
                  rotate_left 2
                  · go_simp
                    constructor
                    · rfl
                    · rfl
                  clear c4
                  refine hK.out _ _ trivial (fun hHeld => ?_)
                  clear hK K
                  refine norm_ (a' := ?_) ?_ ?_
                  rotate_left
                  · show Act.put _ (some 146) _ = _
                    simp only [Act.put, List.setIfInBounds_toArray, List.set_cons_zero, List.set_cons_succ, i64_w, i32_w]
                    rfl
                  refine pure_ (i := 10) (N := (some 152)) (v := ?_) (a' := ?_) #[true, true, true, true, true, true, true, true, true, true, true] rfl rfl (by kernel_rfl) (fun _ _ _ h => h) (Or.inl ⟨by rfl, ?_⟩) ?_ ?_
                  rotate_left
                  · intro w'
                    go_simp
                    with_reducible rfl
                  rotate_left
                  · simp only [Act.put, List.setIfInBounds_toArray, List.set_cons_zero, List.set_cons_succ, i64_w, i32_w]
                    rfl
                  refine done_ (by kernel_rfl) ?_
                  go_wp2_with fail
                  go_roundw
                  case measure => simp [intOf]; omega
                  case rel => exact ⟨k + 1, by omega, by go_num, R, XBB, ⟨fun _ => ⟨gv, rfl, AW.out⟩⟩, BL⟩
            · have e : k = nl := by omega
              subst e
              go_wp2_with fail
              go_roundw
              case measure => simp [intOf]; omega
              case rel => exact ⟨i + 1, L, gs1, v1, l, by omega, by go_num, R, XBB, HG, HC, NB, BL⟩
      by_cases hk1 : x.k = 1
      · have k0 : (x.k == 0) = false := by simp [hk0]
        have k1 : (x.k == 1) = true := by simp [hk1]
        clear hk0 hk1
        by_cases he : goneRes L x.name = 0
        · have OM := Aside0.mk (fun W => ogone_any HC.out HG.out x.name W)
          have MM := Aside0.mk (fun W (r : Rep base W mb L gs v) => gone_any r x.name)
          rw [he] at OM MM
          clear he
          have c0 := ck.out
          clear ck
          have cb := Aside0.mk (CB.out _ XG.out)
          have c1 := cb.out.2.1
          have c2 := cb.out.2.2.1
          clear cb
          generalize x.k = xk at *
          go_wp2_with (first | (refine CsE.wpList_load_row_g (by rfl) 32 _ rfl bb rfl 32 (CsE.arr (CsK.enc l)) (0, 0) _ XBB.out Tryd.underlying32 rfl (by rw [HEL.out]; kernel_rfl) ?_))
          refine (OM.out _).mono ?_
          rintro e w59 ⟨pv, rfl, hb, ht⟩
          obtain ⟨l2, k, g, cap2, hg2, hc2, rfl, hk1c, hk10, hgB, hrg⟩ := (ht (by trivial)).ex
          have RG := Aside0.mk hrg
          replace HC := Aside0.mk hc2
          replace HG := Aside0.mk hg2
          have NG := Aside0.mk (foot_not R.out hgB)
          clear hrg hc2 hg2 hgB
          clear ht
          replace R := Aside0.mk (R.out.below hb)
          replace XBB := Aside0.mk (blk_below XBB.out hb)
          replace BL : Aside0 (Below base w w59) := ⟨below_on HB.out BL.out hb⟩
          replace XG := Aside0.mk (blk_below XG.out hb)
          clear hb OM c0 c1 c2
          have cb := Aside0.mk (CB.out _ XG.out)
          have c1 := cb.out.2.1
          have c2 := cb.out.2.2.1
          clear cb
          go_wp2_with fail
          refine (MM.out _ R.out).mono ?_
          rintro e w60 ⟨rfl, gs1, v1, R1, M1⟩
          generalize goneL L x.name = L2 at *
          have HE2 := Aside0.mk (enc_len HG.out)
          replace RG : Aside0 (w60.rangeAt g (k * 33 + 1) ((CsK.enc l2).map (Value.int .u8))) := ⟨range_moves M1 RG.out (by rw [List.length_map, HE2.out]; omega) NG.out⟩
          have X0 := R
          have XB2 := Aside0.mk (moves_not M1 XBB.out NB.out)
          replace XBB : Aside0 (w60.heap[bb]? = some (.cells (CsE.arr (CsK.enc l)) 32 (0, 0))) := ⟨XB2.out.2⟩
          replace NB := Aside0.mk XB2.out.1
          replace BL : Aside0 (Below base w w60) := ⟨BL.out.trans (below_of_moves X0.out M1)⟩
          replace R := Aside0.mk R1
          clear X0 R1 M1 MM XB2 c1 c2
          have ek : (((k + 1 : Nat) : Int) == 0) = false := by simp; omega
          have ei : (((k + 1 : Nat) : Int) - 1) = (k : Int) := by omega
          have HS2 : Aside0 ((CsE.arr (CsK.enc l2)).size = 32) := ⟨by rw [CsE.arr_size]; exact HE2.out⟩
          go_wp2_with (first | (refine wpList_load_mid_g (by rfl) 32 _ rfl g (k * 33 + 1) rfl ((CsK.enc l2).map (Value.int .u8)) _ RG.out Tryd.underlying32 rfl (by rw [List.length_map, HE2.out]; kernel_rfl) ?_) | (refine wpList_store_row rfl 32 (.tmp 4) (.tmp 127) rfl bb (CsE.arr (CsK.enc l2)) rfl rfl 32 _ XBB.out (by rw [HS2.out]; kernel_rfl) (by rw [HS2.out, HEL.out]) (CsE.arr_one _) (stop ?_)))
          unfold Stop
          replace R : Aside0 (Rep base (w60.setRow bb (CsE.arr (CsK.enc l2))) mb L2 gs1 v1) := ⟨rep_touch R.out (touch_row _ bb _) (fun j hj hk => NB.out (by rw [List.mem_singleton] at hk; rw [← hk]; exact hj))⟩
          replace XBB := Aside0.mk (setRow_heap _ bb _ (CsE.arr (CsK.enc l2)) 32 (0, 0) XBB.out)
          replace BL := Aside0.mk (below_setRow BL.out HBB.out (CsE.arr (CsK.enc l2)))
          generalize w60.setRow bb (CsE.arr (CsK.enc l2)) = w61 at *
          clear HEL ek ei RG NG HE2
          have HEL := HS2
          clear HS2
          have NSQ := Aside0.mk HC.out.names
          clear XG NX NE CB HX NS NI HD CL DL
          go_wp2_with (first | (refine CsE.wpList_load_row_g (by rfl) 32 _ rfl bb rfl 32 (CsE.arr (CsK.enc l2)) (0, 0) _ XBB.out Tryd.underlying32 rfl (by rw [HEL.out]; kernel_rfl) ?_))
          refine (CsN.volumes_any _ _ HG.out).mono ?_
          rintro e w62 ⟨pv, rfl, tab, hb⟩
          have T1 := Aside0.mk (tvr_tab tab)
          replace R := Aside0.mk (R.out.below hb)
          replace XBB := Aside0.mk (blk_below XBB.out hb)
          replace BL : Aside0 (Below base w w62) := ⟨below_on HB.out BL.out hb⟩
          clear tab hb
          obtain ⟨ns, HNS⟩ : ∃ ns, Aside0 (l2.map (·.name) = ns) := ⟨_, ⟨rfl⟩⟩
          rw [HNS.out] at T1 NSQ
          have R9 : Aside0 (∀ W, Rep base W mb L2 gs1 v1 → Calls Tryd.prog 18 #[.pointer (some ⟨mb, 0, none⟩)] W fun e w' => ∃ u, e = .returned u ∧ TRow w' u ns ∧ Below W.heap.size W w') := ⟨fun W r => by
            refine (names_any r).mono ?_
            rintro e w' ⟨u, he, own, hb⟩
            exact ⟨u, he, NSQ.out ▸ names_trow own, hb⟩⟩
          obtain ⟨Av, cv, rfl, hav⟩ := T1.out
          have AV := Aside0.mk hav
          clear hav T1
          have hn9 : ns.length ≤ 3 := by have := HG.out.few; rw [← HNS.out, List.length_map]; exact this
          go_wp2_with fail
          refine (R9.out _ R.out).mono ?_
          rintro e w63 ⟨u, rfl, T2, hb⟩
          replace R := Aside0.mk (R.out.below hb)
          replace XBB := Aside0.mk (blk_below XBB.out hb)
          replace BL : Aside0 (Below base w w63) := ⟨below_on HB.out BL.out hb⟩
          have AV2 : Aside0 (0 < ns.length → ∃ g, Av = some ⟨g, 0, none⟩ ∧ ∀ j x, ns[j]? = some x → w63.cell? ⟨g, j * 2, none⟩ = some (.string x)) := ⟨fun h => by
            obtain ⟨g, e, k⟩ := AV.out h
            exact ⟨g, e, fun j x hx => pw_cell_below hb (k j x hx)⟩⟩
          replace AV := AV2
          clear AV2 hb
          obtain ⟨A2, c2, rfl, t2, t3, t4⟩ := T2
          clear t2 t3 t4
          have hbn : ((ns.length : Int) != (ns.length : Int)) = false := by simp
          generalize hln : ns.length = nl at *
          have HLN := Aside0.mk hln
          clear hln
          go_wp2_with fail
          clear hbn
          go_loopw [16] (fun kv wr => ∃ k : Nat, k ≤ nl ∧ kv = .int .i64 k ∧ Aside0 (Rep base wr mb L2 gs1 v1) ∧ Aside0 (wr.heap[bb]? = some (.cells (CsE.arr (CsK.enc l2)) 32 (0, 0))) ∧ Aside0 (0 < nl → ∃ g, Av = some ⟨g, 0, none⟩ ∧ ∀ j x, ns[j]? = some x → wr.cell? ⟨g, j * 2, none⟩ = some (.string x)) ∧ Aside0 (Below base w wr)) (fun kv _ => nl - (intOf kv).toNat)
          case atStart => exact ⟨0, by omega, rfl, R, XBB, AV, BL⟩
          case round =>
            clear R XBB AV BL w63
            obtain ⟨k, hk, rfl, R, XBB, AV, BL⟩ := hrel
            by_cases hkl : k < nl
            · obtain ⟨xn, hxn⟩ : ∃ xn, ns[k]? = some xn := ⟨ns[k]'(by rw [HLN.out]; exact hkl), by simp⟩
              have HK := Aside0.mk hxn
              clear hxn
              obtain ⟨gv, hgv, hav⟩ := AV.out (by omega)
              have AW := Aside0.mk hav
              clear hav AV
              subst hgv
              have b0 : (0 : Int) ≤ (k : Int) := by omega
              have b1 : (k : Int) < (nl : Int) := by omega
              have b2 : (xn.toList != xn.toList) = false := by simp
              go_wp2_with fail
              refine start_ (n := 11) (S := fun w' => True) (ds := []) #[false, false, false, false, false, false, false, false, false, false, false] (by kernel_rfl) rfl rfl trivial (fun hHeld => ?_)
              have hb := below_drew1 (Below.refl wr.heap.size wr)
              replace R := Aside0.mk (R.out.below hb)
              replace XBB := Aside0.mk (blk_below XBB.out hb)
              replace BL : Aside0 (Below base w wr.drew) := ⟨below_on HB.out BL.out hb⟩
              have AW2 : Aside0 (∀ j x, ns[j]? = some x → wr.drew.cell? ⟨gv, j * 2, none⟩ = some (.string x)) := ⟨fun j x hx => pw_cell_below hb (AW.out j x hx)⟩
              replace AW := AW2
              clear AW2
              clear hb
              generalize wr.drew = w65 at R XBB BL AW hHeld ⊢
              refine pure_ (i := 0) (N := (some 142)) (v := ?_) (a' := ?_) #[true, false, false, false, false, false, false, false, false, false, false] rfl rfl (by kernel_rfl) (fun _ _ _ h => h) (Or.inl ⟨by rfl, ?_⟩) ?_ ?_
              rotate_left
              · intro w'
                go_simp
                with_reducible rfl
              rotate_left
              · simp only [Act.put, List.setIfInBounds_toArray, List.set_cons_zero, List.set_cons_succ, i64_w, i32_w]
                rfl
              refine pure_ (i := 1) (N := (some 143)) (v := ?_) (a' := ?_) #[true, true, false, false, false, false, false, false, false, false, false] rfl rfl (by kernel_rfl) (fun _ _ _ h => h) (Or.inl ⟨by rfl, ?_⟩) ?_ ?_
              rotate_left
              · intro w'
                go_simp
                with_reducible rfl
              rotate_left
              · simp only [Act.put, List.setIfInBounds_toArray, List.set_cons_zero, List.set_cons_succ, i64_w, i32_w]
                rfl
              refine pure_ (i := 2) (N := (some 144)) (v := ?_) (a' := ?_) #[true, true, true, false, false, false, false, false, false, false, false] rfl rfl (by kernel_rfl) (fun _ _ _ h => h) (Or.inl ⟨by rfl, ?_⟩) ?_ ?_
              rotate_left
              · intro w'
                go_simp
                with_reducible rfl
              rotate_left
              · simp only [Act.put, List.setIfInBounds_toArray, List.set_cons_zero, List.set_cons_succ, i64_w, i32_w]
                rfl
              refine pure_ (i := 3) (N := (some 145)) (v := ?_) (a' := ?_) #[true, true, true, true, false, false, false, false, false, false, false] rfl rfl (by kernel_rfl) (fun _ _ _ h => h) (Or.inl ⟨by rfl, ?_⟩) ?_ ?_
              rotate_left
              · intro w'
                go_simp
                with_reducible rfl
              rotate_left
              · simp only [Act.put, List.setIfInBounds_toArray, List.set_cons_zero, List.set_cons_succ, i64_w, i32_w]
                rfl
              refine pure_ (i := 5) (N := (some 147)) (v := ?_) (a' := ?_) #[true, true, true, true, false, true, false, false, false, false, false] rfl rfl (by kernel_rfl) (fun _ _ _ h => h) (Or.inl ⟨by rfl, ?_⟩) ?_ ?_
              rotate_left
              · intro w'
                go_simp
                with_reducible rfl
              rotate_left
              · simp only [Act.put, List.setIfInBounds_toArray, List.set_cons_zero, List.set_cons_succ, i64_w, i32_w]
                rfl
              refine pure_ (i := 7) (N := (some 149)) (v := ?_) (a' := ?_) #[true, true, true, true, false, true, false, true, false, false, false] rfl rfl (by kernel_rfl) (fun _ _ _ h => h) (Or.inl ⟨by rfl, ?_⟩) ?_ ?_
              rotate_left
              · intro w'
                go_simp
                with_reducible rfl
              rotate_left
              · simp only [Act.put, List.setIfInBounds_toArray, List.set_cons_zero, List.set_cons_succ, i64_w, i32_w]
                rfl
              refine two_ (i := 4) (j := 6) (Ni := (some 146)) (Nj := (some 148)) #[true, true, true, true, true, true, false, true, false, false, false] #[true, true, true, true, false, true, true, true, false, false, false] rfl rfl rfl rfl (by kernel_rfl) (by decide) (by decide) (fun K hK => ?_) (fun K hK => ?_)
              · skip
                have c4 := AW.out k xn HK.out
                refine value_ (w1 := ?_) (v := ?_) (by rfl) rfl ?_ ?_
                rotate_left 2
                · go_simp
                  constructor
                  · rfl
                  · rfl
                clear c4
                refine hK.out _ _ trivial (fun hHeld => ?_)
                clear hK K
                refine norm_ (a' := ?_) ?_ ?_
                rotate_left
                · show Act.put _ (some 146) _ = _
                  simp only [Act.put, List.setIfInBounds_toArray, List.set_cons_zero, List.set_cons_succ, i64_w, i32_w]
                  rfl
                refine one_ (i := 6) (N := (some 148)) #[true, true, true, true, true, true, true, true, false, false, false] rfl rfl (by kernel_rfl) (by decide) (fun K hK => ?_)
                refine goes_ Tryd.func18 (by kernel_rfl) rfl #[.pointer (some ⟨mb, 0, none⟩)] (by rfl) rfl rfl (by first | (simp only [List.map_toArray, List.map_cons, List.map_nil]; done) | (simp only [List.map_toArray, List.map_cons, List.map_nil]; rfl)) ?_
                with_reducible refine (R9.out _ R.out).mono ?_
                rintro e w66 ⟨u, rfl, T2, hb⟩
                obtain ⟨A3, c3, rfl, t2, t3, t4⟩ := T2
                obtain ⟨gn, rfl, hcn⟩ := t4 (by rw [HLN.out]; omega)
                have CN := Aside0.mk (hcn k xn HK.out)
                rw [HLN.out]
                clear t2 t3 t4 hcn
                replace R := Aside0.mk (R.out.below hb)
                replace XBB := Aside0.mk (blk_below XBB.out hb)
                replace BL : Aside0 (Below base w w66) := ⟨below_on HB.out BL.out hb⟩
                have AW2 : Aside0 (∀ j x, ns[j]? = some x → w66.cell? ⟨gv, j * 2, none⟩ = some (.string x)) := ⟨fun j x hx => pw_cell_below hb (AW.out j x hx)⟩
                replace AW := AW2
                clear AW2
                clear hb hHeld
                refine ⟨_, rfl, ?_⟩
                refine hK.out _ _ trivial (fun hHeld => ?_)
                clear hK K
                refine norm_ (a' := ?_) ?_ ?_
                rotate_left
                · show Act.put _ (some 148) _ = _
                  simp only [Act.put, List.setIfInBounds_toArray, List.set_cons_zero, List.set_cons_succ, i64_w, i32_w]
                  rfl
                refine pure_ (i := 8) (N := (some 150)) (v := ?_) (a' := ?_) #[true, true, true, true, true, true, true, true, true, false, false] rfl rfl (by kernel_rfl) (fun _ _ _ h => h) (Or.inl ⟨by rfl, ?_⟩) ?_ ?_
                rotate_left
                · intro w'
                  go_simp
                  with_reducible rfl
                rotate_left
                · simp only [Act.put, List.setIfInBounds_toArray, List.set_cons_zero, List.set_cons_succ, i64_w, i32_w]
                  rfl
                refine one_ (i := 9) (N := (some 151)) #[true, true, true, true, true, true, true, true, true, true, false] rfl rfl (by kernel_rfl) (by decide) (fun K hK => ?_)
                have c9 := CN.out
                refine value_ (w1 := ?_) (v := ?_) (by rfl) rfl ?_ ?_
                rotate_left 2
                · go_simp
                  constructor
                  · rfl
                  · rfl
                clear c9
                refine hK.out _ _ trivial (fun hHeld => ?_)
                clear hK K
                refine norm_ (a' := ?_) ?_ ?_
                rotate_left
                · show Act.put _ (some 151) _ = _
                  simp only [Act.put, List.setIfInBounds_toArray, List.set_cons_zero, List.set_cons_succ, i64_w, i32_w]
                  rfl
                refine pure_ (i := 10) (N := (some 152)) (v := ?_) (a' := ?_) #[true, true, true, true, true, true, true, true, true, true, true] rfl rfl (by kernel_rfl) (fun _ _ _ h => h) (Or.inl ⟨by rfl, ?_⟩) ?_ ?_
                rotate_left
                · intro w'
                  go_simp
                  with_reducible rfl
                rotate_left
                · simp only [Act.put, List.setIfInBounds_toArray, List.set_cons_zero, List.set_cons_succ, i64_w, i32_w]
                  rfl
                refine done_ (by kernel_rfl) ?_
                go_wp2_with fail
                go_roundw
                case measure => simp [intOf]; omega
                case rel => exact ⟨k + 1, by omega, by go_num, R, XBB, ⟨fun _ => ⟨gv, rfl, AW.out⟩⟩, BL⟩
              · skip
                refine goes_ Tryd.func18 (by kernel_rfl) rfl #[.pointer (some ⟨mb, 0, none⟩)] (by rfl) rfl rfl (by first | (simp only [List.map_toArray, List.map_cons, List.map_nil]; done) | (simp only [List.map_toArray, List.map_cons, List.map_nil]; rfl)) ?_
                with_reducible refine (R9.out _ R.out).mono ?_
                rintro e w67 ⟨u, rfl, T2, hb⟩
                obtain ⟨A3, c3, rfl, t2, t3, t4⟩ := T2
                obtain ⟨gn, rfl, hcn⟩ := t4 (by rw [HLN.out]; omega)
                have CN := Aside0.mk (hcn k xn HK.out)
                rw [HLN.out]
                clear t2 t3 t4 hcn
                replace R := Aside0.mk (R.out.below hb)
                replace XBB := Aside0.mk (blk_below XBB.out hb)
                replace BL : Aside0 (Below base w w67) := ⟨below_on HB.out BL.out hb⟩
                have AW2 : Aside0 (∀ j x, ns[j]? = some x → w67.cell? ⟨gv, j * 2, none⟩ = some (.string x)) := ⟨fun j x hx => pw_cell_below hb (AW.out j x hx)⟩
                replace AW := AW2
                clear AW2
                clear hb hHeld
                refine ⟨_, rfl, ?_⟩
                refine hK.out _ _ trivial (fun hHeld => ?_)
                clear hK K
                refine norm_ (a' := ?_) ?_ ?_
                rotate_left
                · show Act.put _ (some 148) _ = _
                  simp only [Act.put, List.setIfInBounds_toArray, List.set_cons_zero, List.set_cons_succ, i64_w, i32_w]
                  rfl
                refine pure_ (i := 8) (N := (some 150)) (v := ?_) (a' := ?_) #[true, true, true, true, false, true, true, true, true, false, false] rfl rfl (by kernel_rfl) (fun _ _ _ h => h) (Or.inl ⟨by rfl, ?_⟩) ?_ ?_
                rotate_left
                · intro w'
                  go_simp
                  with_reducible rfl
                rotate_left
                · simp only [Act.put, List.setIfInBounds_toArray, List.set_cons_zero, List.set_cons_succ, i64_w, i32_w]
                  rfl
                refine two_ (i := 4) (j := 9) (Ni := (some 146)) (Nj := (some 151)) #[true, true, true, true, true, true, true, true, true, false, false] #[true, true, true, true, false, true, true, true, true, true, false] rfl rfl rfl rfl (by kernel_rfl) (by decide) (by decide) (fun K hK => ?_) (fun K hK => ?_)
                · skip
                  have c4 := AW.out k xn HK.out
                  refine value_ (w1 := ?_) (v := ?_) (by rfl) rfl ?_ ?_
                  rotate_left 2
                  · go_simp
                    constructor
                    · rfl
                    · rfl
                  clear c4
                  refine hK.out _ _ trivial (fun hHeld => ?_)
                  clear hK K
                  refine norm_ (a' := ?_) ?_ ?_
                  rotate_left
                  · show Act.put _ (some 146) _ = _
                    simp only [Act.put, List.setIfInBounds_toArray, List.set_cons_zero, List.set_cons_succ, i64_w, i32_w]
                    rfl
                  refine one_ (i := 9) (N := (some 151)) #[true, true, true, true, true, true, true, true, true, true, false] rfl rfl (by kernel_rfl) (by decide) (fun K hK => ?_)
                  have c9 := CN.out
                  refine value_ (w1 := ?_) (v := ?_) (by rfl) rfl ?_ ?_
                  rotate_left 2
                  · go_simp
                    constructor
                    · rfl
                    · rfl
                  clear c9
                  refine hK.out _ _ trivial (fun hHeld => ?_)
                  clear hK K
                  refine norm_ (a' := ?_) ?_ ?_
                  rotate_left
                  · show Act.put _ (some 151) _ = _
                    simp only [Act.put, List.setIfInBounds_toArray, List.set_cons_zero, List.set_cons_succ, i64_w, i32_w]
                    rfl
                  refine pure_ (i := 10) (N := (some 152)) (v := ?_) (a' := ?_) #[true, true, true, true, true, true, true, true, true, true, true] rfl rfl (by kernel_rfl) (fun _ _ _ h => h) (Or.inl ⟨by rfl, ?_⟩) ?_ ?_
                  rotate_left
                  · intro w'
                    go_simp
                    with_reducible rfl
                  rotate_left
                  · simp only [Act.put, List.setIfInBounds_toArray, List.set_cons_zero, List.set_cons_succ, i64_w, i32_w]
                    rfl
                  refine done_ (by kernel_rfl) ?_
                  go_wp2_with fail
                  go_roundw
                  case measure => simp [intOf]; omega
                  case rel => exact ⟨k + 1, by omega, by go_num, R, XBB, ⟨fun _ => ⟨gv, rfl, AW.out⟩⟩, BL⟩
                · skip
                  have c9 := CN.out
                  refine value_ (w1 := ?_) (v := ?_) (by rfl) rfl ?_ ?_
                  rotate_left 2
                  · go_simp
                    constructor
                    · rfl
                    · rfl
                  clear c9
                  refine hK.out _ _ trivial (fun hHeld => ?_)
                  clear hK K
                  refine norm_ (a' := ?_) ?_ ?_
                  rotate_left
                  · show Act.put _ (some 151) _ = _
                    simp only [Act.put, List.setIfInBounds_toArray, List.set_cons_zero, List.set_cons_succ, i64_w, i32_w]
                    rfl
                  refine one_ (i := 4) (N := (some 146)) #[true, true, true, true, true, true, true, true, true, true, false] rfl rfl (by kernel_rfl) (by decide) (fun K hK => ?_)
                  have c4 := AW.out k xn HK.out
                  refine value_ (w1 := ?_) (v := ?_) (by rfl) rfl ?_ ?_
                  rotate_left 2
                  · go_simp
                    constructor
                    · rfl
                    · rfl
                  clear c4
                  refine hK.out _ _ trivial (fun hHeld => ?_)
                  clear hK K
                  refine norm_ (a' := ?_) ?_ ?_
                  rotate_left
                  · show Act.put _ (some 146) _ = _
                    simp only [Act.put, List.setIfInBounds_toArray, List.set_cons_zero, List.set_cons_succ, i64_w, i32_w]
                    rfl
                  refine pure_ (i := 10) (N := (some 152)) (v := ?_) (a' := ?_) #[true, true, true, true, true, true, true, true, true, true, true] rfl rfl (by kernel_rfl) (fun _ _ _ h => h) (Or.inl ⟨by rfl, ?_⟩) ?_ ?_
                  rotate_left
                  · intro w'
                    go_simp
                    with_reducible rfl
                  rotate_left
                  · simp only [Act.put, List.setIfInBounds_toArray, List.set_cons_zero, List.set_cons_succ, i64_w, i32_w]
                    rfl
                  refine done_ (by kernel_rfl) ?_
                  go_wp2_with fail
                  go_roundw
                  case measure => simp [intOf]; omega
                  case rel => exact ⟨k + 1, by omega, by go_num, R, XBB, ⟨fun _ => ⟨gv, rfl, AW.out⟩⟩, BL⟩
            · have e : k = nl := by omega
              subst e
              go_wp2_with fail
              go_roundw
              case measure => simp [intOf]; omega
              case rel => exact ⟨i + 1, L2, gs1, v1, l2, by omega, by go_num, R, XBB, HG, HC, NB, BL⟩
        · have OM := Aside0.mk (fun W => ogone_any HC.out HG.out x.name W)
          have MM := Aside0.mk (fun W (r : Rep base W mb L gs v) => gone_any r x.name)
          have eL : goneL L x.name = L := by unfold goneL; split <;> first | rfl | (exact absurd (by unfold goneRes; rw [if_neg (by assumption)]) he)
          rw [eL] at OM MM
          have e0 : (goneRes L x.name == 0) = false := by simp [he]
          have e2 : (goneRes L x.name != goneRes L x.name) = false := by simp
          clear he eL
          generalize goneRes L x.name = er at *
          have c0 := ck.out
          clear ck
          have cb := Aside0.mk (CB.out _ XG.out)
          have c1 := cb.out.2.1
          have c2 := cb.out.2.2.1
          clear cb
          generalize x.k = xk at *
          go_wp2_with (first | (refine CsE.wpList_load_row_g (by rfl) 32 _ rfl bb rfl 32 (CsE.arr (CsK.enc l)) (0, 0) _ XBB.out Tryd.underlying32 rfl (by rw [HEL.out]; kernel_rfl) ?_))
          refine (OM.out _).mono ?_
          rintro e w68 ⟨pv, rfl, hb, ht⟩
          clear ht
          replace R := Aside0.mk (R.out.below hb)
          replace XBB := Aside0.mk (blk_below XBB.out hb)
          replace BL : Aside0 (Below base w w68) := ⟨below_on HB.out BL.out hb⟩
          replace XG := Aside0.mk (blk_below XG.out hb)
          clear hb OM c0 c1 c2
          have cb := Aside0.mk (CB.out _ XG.out)
          have c1 := cb.out.2.1
          have c2 := cb.out.2.2.1
          clear cb
          go_wp2_with fail
          refine (MM.out _ R.out).mono ?_
          rintro e w69 ⟨rfl, gs1, v1, R1, M1⟩
          have X0 := R
          have XB2 := Aside0.mk (moves_not M1 XBB.out NB.out)
          replace XBB : Aside0 (w69.heap[bb]? = some (.cells (CsE.arr (CsK.enc l)) 32 (0, 0))) := ⟨XB2.out.2⟩
          replace NB := Aside0.mk XB2.out.1
          replace BL : Aside0 (Below base w w69) := ⟨BL.out.trans (below_of_moves X0.out M1)⟩
          replace R := Aside0.mk R1
          clear X0 R1 M1 MM XB2 c1 c2
          have NSQ := Aside0.mk HC.out.names
          clear XG NX NE CB HX NS NI HD CL DL
          go_wp2_with (first | (refine CsE.wpList_load_row_g (by rfl) 32 _ rfl bb rfl 32 (CsE.arr (CsK.enc l)) (0, 0) _ XBB.out Tryd.underlying32 rfl (by rw [HEL.out]; kernel_rfl) ?_))
          refine (CsN.volumes_any _ _ HG.out).mono ?_
          rintro e w71 ⟨pv, rfl, tab, hb⟩
          have T1 := Aside0.mk (tvr_tab tab)
          replace R := Aside0.mk (R.out.below hb)
          replace XBB := Aside0.mk (blk_below XBB.out hb)
          replace BL : Aside0 (Below base w w71) := ⟨below_on HB.out BL.out hb⟩
          clear tab hb
          obtain ⟨ns, HNS⟩ : ∃ ns, Aside0 (l.map (·.name) = ns) := ⟨_, ⟨rfl⟩⟩
          rw [HNS.out] at T1 NSQ
          have R9 : Aside0 (∀ W, Rep base W mb L gs1 v1 → Calls Tryd.prog 18 #[.pointer (some ⟨mb, 0, none⟩)] W fun e w' => ∃ u, e = .returned u ∧ TRow w' u ns ∧ Below W.heap.size W w') := ⟨fun W r => by
            refine (names_any r).mono ?_
            rintro e w' ⟨u, he, own, hb⟩
            exact ⟨u, he, NSQ.out ▸ names_trow own, hb⟩⟩
          obtain ⟨Av, cv, rfl, hav⟩ := T1.out
          have AV := Aside0.mk hav
          clear hav T1
          have hn9 : ns.length ≤ 3 := by have := HG.out.few; rw [← HNS.out, List.length_map]; exact this
          go_wp2_with fail
          refine (R9.out _ R.out).mono ?_
          rintro e w72 ⟨u, rfl, T2, hb⟩
          replace R := Aside0.mk (R.out.below hb)
          replace XBB := Aside0.mk (blk_below XBB.out hb)
          replace BL : Aside0 (Below base w w72) := ⟨below_on HB.out BL.out hb⟩
          have AV2 : Aside0 (0 < ns.length → ∃ g, Av = some ⟨g, 0, none⟩ ∧ ∀ j x, ns[j]? = some x → w72.cell? ⟨g, j * 2, none⟩ = some (.string x)) := ⟨fun h => by
            obtain ⟨g, e, k⟩ := AV.out h
            exact ⟨g, e, fun j x hx => pw_cell_below hb (k j x hx)⟩⟩
          replace AV := AV2
          clear AV2 hb
          obtain ⟨A2, c2, rfl, t2, t3, t4⟩ := T2
          clear t2 t3 t4
          have hbn : ((ns.length : Int) != (ns.length : Int)) = false := by simp
          generalize hln : ns.length = nl at *
          have HLN := Aside0.mk hln
          clear hln
          go_wp2_with fail
          clear hbn
          go_loopw [16] (fun kv wr => ∃ k : Nat, k ≤ nl ∧ kv = .int .i64 k ∧ Aside0 (Rep base wr mb L gs1 v1) ∧ Aside0 (wr.heap[bb]? = some (.cells (CsE.arr (CsK.enc l)) 32 (0, 0))) ∧ Aside0 (0 < nl → ∃ g, Av = some ⟨g, 0, none⟩ ∧ ∀ j x, ns[j]? = some x → wr.cell? ⟨g, j * 2, none⟩ = some (.string x)) ∧ Aside0 (Below base w wr)) (fun kv _ => nl - (intOf kv).toNat)
          case atStart => exact ⟨0, by omega, rfl, R, XBB, AV, BL⟩
          case round =>
            clear R XBB AV BL w72
            obtain ⟨k, hk, rfl, R, XBB, AV, BL⟩ := hrel
            by_cases hkl : k < nl
            · obtain ⟨xn, hxn⟩ : ∃ xn, ns[k]? = some xn := ⟨ns[k]'(by rw [HLN.out]; exact hkl), by simp⟩
              have HK := Aside0.mk hxn
              clear hxn
              obtain ⟨gv, hgv, hav⟩ := AV.out (by omega)
              have AW := Aside0.mk hav
              clear hav AV
              subst hgv
              have b0 : (0 : Int) ≤ (k : Int) := by omega
              have b1 : (k : Int) < (nl : Int) := by omega
              have b2 : (xn.toList != xn.toList) = false := by simp
              go_wp2_with fail
              refine start_ (n := 11) (S := fun w' => True) (ds := []) #[false, false, false, false, false, false, false, false, false, false, false] (by kernel_rfl) rfl rfl trivial (fun hHeld => ?_)
              have hb := below_drew1 (Below.refl wr.heap.size wr)
              replace R := Aside0.mk (R.out.below hb)
              replace XBB := Aside0.mk (blk_below XBB.out hb)
              replace BL : Aside0 (Below base w wr.drew) := ⟨below_on HB.out BL.out hb⟩
              have AW2 : Aside0 (∀ j x, ns[j]? = some x → wr.drew.cell? ⟨gv, j * 2, none⟩ = some (.string x)) := ⟨fun j x hx => pw_cell_below hb (AW.out j x hx)⟩
              replace AW := AW2
              clear AW2
              clear hb
              generalize wr.drew = w74 at R XBB BL AW hHeld ⊢
              refine pure_ (i := 0) (N := (some 142)) (v := ?_) (a' := ?_) #[true, false, false, false, false, false, false, false, false, false, false] rfl rfl (by kernel_rfl) (fun _ _ _ h => h) (Or.inl ⟨by rfl, ?_⟩) ?_ ?_
              rotate_left
              · intro w'
                go_simp
                with_reducible rfl
              rotate_left
              · simp only [Act.put, List.setIfInBounds_toArray, List.set_cons_zero, List.set_cons_succ, i64_w, i32_w]
                rfl
              refine pure_ (i := 1) (N := (some 143)) (v := ?_) (a' := ?_) #[true, true, false, false, false, false, false, false, false, false, false] rfl rfl (by kernel_rfl) (fun _ _ _ h => h) (Or.inl ⟨by rfl, ?_⟩) ?_ ?_
              rotate_left
              · intro w'
                go_simp
                with_reducible rfl
              rotate_left
              · simp only [Act.put, List.setIfInBounds_toArray, List.set_cons_zero, List.set_cons_succ, i64_w, i32_w]
                rfl
              refine pure_ (i := 2) (N := (some 144)) (v := ?_) (a' := ?_) #[true, true, true, false, false, false, false, false, false, false, false] rfl rfl (by kernel_rfl) (fun _ _ _ h => h) (Or.inl ⟨by rfl, ?_⟩) ?_ ?_
              rotate_left
              · intro w'
                go_simp
                with_reducible rfl
              rotate_left
              · simp only [Act.put, List.setIfInBounds_toArray, List.set_cons_zero, List.set_cons_succ, i64_w, i32_w]
                rfl
              refine pure_ (i := 3) (N := (some 145)) (v := ?_) (a' := ?_) #[true, true, true, true, false, false, false, false, false, false, false] rfl rfl (by kernel_rfl) (fun _ _ _ h => h) (Or.inl ⟨by rfl, ?_⟩) ?_ ?_
              rotate_left
              · intro w'
                go_simp
                with_reducible rfl
              rotate_left
              · simp only [Act.put, List.setIfInBounds_toArray, List.set_cons_zero, List.set_cons_succ, i64_w, i32_w]
                rfl
              refine pure_ (i := 5) (N := (some 147)) (v := ?_) (a' := ?_) #[true, true, true, true, false, true, false, false, false, false, false] rfl rfl (by kernel_rfl) (fun _ _ _ h => h) (Or.inl ⟨by rfl, ?_⟩) ?_ ?_
              rotate_left
              · intro w'
                go_simp
                with_reducible rfl
              rotate_left
              · simp only [Act.put, List.setIfInBounds_toArray, List.set_cons_zero, List.set_cons_succ, i64_w, i32_w]
                rfl
              refine pure_ (i := 7) (N := (some 149)) (v := ?_) (a' := ?_) #[true, true, true, true, false, true, false, true, false, false, false] rfl rfl (by kernel_rfl) (fun _ _ _ h => h) (Or.inl ⟨by rfl, ?_⟩) ?_ ?_
              rotate_left
              · intro w'
                go_simp
                with_reducible rfl
              rotate_left
              · simp only [Act.put, List.setIfInBounds_toArray, List.set_cons_zero, List.set_cons_succ, i64_w, i32_w]
                rfl
              refine two_ (i := 4) (j := 6) (Ni := (some 146)) (Nj := (some 148)) #[true, true, true, true, true, true, false, true, false, false, false] #[true, true, true, true, false, true, true, true, false, false, false] rfl rfl rfl rfl (by kernel_rfl) (by decide) (by decide) (fun K hK => ?_) (fun K hK => ?_)
              · skip
                have c4 := AW.out k xn HK.out
                refine value_ (w1 := ?_) (v := ?_) (by rfl) rfl ?_ ?_
                rotate_left 2
                · go_simp
                  constructor
                  · rfl
                  · rfl
                clear c4
                refine hK.out _ _ trivial (fun hHeld => ?_)
                clear hK K
                refine norm_ (a' := ?_) ?_ ?_
                rotate_left
                · show Act.put _ (some 146) _ = _
                  simp only [Act.put, List.setIfInBounds_toArray, List.set_cons_zero, List.set_cons_succ, i64_w, i32_w]
                  rfl
                refine one_ (i := 6) (N := (some 148)) #[true, true, true, true, true, true, true, true, false, false, false] rfl rfl (by kernel_rfl) (by decide) (fun K hK => ?_)
                refine goes_ Tryd.func18 (by kernel_rfl) rfl #[.pointer (some ⟨mb, 0, none⟩)] (by rfl) rfl rfl (by first | (simp only [List.map_toArray, List.map_cons, List.map_nil]; done) | (simp only [List.map_toArray, List.map_cons, List.map_nil]; rfl)) ?_
                with_reducible refine (R9.out _ R.out).mono ?_
                rintro e w75 ⟨u, rfl, T2, hb⟩
                obtain ⟨A3, c3, rfl, t2, t3, t4⟩ := T2
                obtain ⟨gn, rfl, hcn⟩ := t4 (by rw [HLN.out]; omega)
                have CN := Aside0.mk (hcn k xn HK.out)
                rw [HLN.out]
                clear t2 t3 t4 hcn
                replace R := Aside0.mk (R.out.below hb)
                replace XBB := Aside0.mk (blk_below XBB.out hb)
                replace BL : Aside0 (Below base w w75) := ⟨below_on HB.out BL.out hb⟩
                have AW2 : Aside0 (∀ j x, ns[j]? = some x → w75.cell? ⟨gv, j * 2, none⟩ = some (.string x)) := ⟨fun j x hx => pw_cell_below hb (AW.out j x hx)⟩
                replace AW := AW2
                clear AW2
                clear hb hHeld
                refine ⟨_, rfl, ?_⟩
                refine hK.out _ _ trivial (fun hHeld => ?_)
                clear hK K
                refine norm_ (a' := ?_) ?_ ?_
                rotate_left
                · show Act.put _ (some 148) _ = _
                  simp only [Act.put, List.setIfInBounds_toArray, List.set_cons_zero, List.set_cons_succ, i64_w, i32_w]
                  rfl
                refine pure_ (i := 8) (N := (some 150)) (v := ?_) (a' := ?_) #[true, true, true, true, true, true, true, true, true, false, false] rfl rfl (by kernel_rfl) (fun _ _ _ h => h) (Or.inl ⟨by rfl, ?_⟩) ?_ ?_
                rotate_left
                · intro w'
                  go_simp
                  with_reducible rfl
                rotate_left
                · simp only [Act.put, List.setIfInBounds_toArray, List.set_cons_zero, List.set_cons_succ, i64_w, i32_w]
                  rfl
                refine one_ (i := 9) (N := (some 151)) #[true, true, true, true, true, true, true, true, true, true, false] rfl rfl (by kernel_rfl) (by decide) (fun K hK => ?_)
                have c9 := CN.out
                refine value_ (w1 := ?_) (v := ?_) (by rfl) rfl ?_ ?_
                rotate_left 2
                · go_simp
                  constructor
                  · rfl
                  · rfl
                clear c9
                refine hK.out _ _ trivial (fun hHeld => ?_)
                clear hK K
                refine norm_ (a' := ?_) ?_ ?_
                rotate_left
                · show Act.put _ (some 151) _ = _
                  simp only [Act.put, List.setIfInBounds_toArray, List.set_cons_zero, List.set_cons_succ, i64_w, i32_w]
                  rfl
                refine pure_ (i := 10) (N := (some 152)) (v := ?_) (a' := ?_) #[true, true, true, true, true, true, true, true, true, true, true] rfl rfl (by kernel_rfl) (fun _ _ _ h => h) (Or.inl ⟨by rfl, ?_⟩) ?_ ?_
                rotate_left
                · intro w'
                  go_simp
                  with_reducible rfl
                rotate_left
                · simp only [Act.put, List.setIfInBounds_toArray, List.set_cons_zero, List.set_cons_succ, i64_w, i32_w]
                  rfl
                refine done_ (by kernel_rfl) ?_
                go_wp2_with fail
                go_roundw
                case measure => simp [intOf]; omega
                case rel => exact ⟨k + 1, by omega, by go_num, R, XBB, ⟨fun _ => ⟨gv, rfl, AW.out⟩⟩, BL⟩
              · skip
                refine goes_ Tryd.func18 (by kernel_rfl) rfl #[.pointer (some ⟨mb, 0, none⟩)] (by rfl) rfl rfl (by first | (simp only [List.map_toArray, List.map_cons, List.map_nil]; done) | (simp only [List.map_toArray, List.map_cons, List.map_nil]; rfl)) ?_
                with_reducible refine (R9.out _ R.out).mono ?_
                rintro e w76 ⟨u, rfl, T2, hb⟩
                obtain ⟨A3, c3, rfl, t2, t3, t4⟩ := T2
                obtain ⟨gn, rfl, hcn⟩ := t4 (by rw [HLN.out]; omega)
                have CN := Aside0.mk (hcn k xn HK.out)
                rw [HLN.out]
                clear t2 t3 t4 hcn
                replace R := Aside0.mk (R.out.below hb)
                replace XBB := Aside0.mk (blk_below XBB.out hb)
                replace BL : Aside0 (Below base w w76) := ⟨below_on HB.out BL.out hb⟩
                have AW2 : Aside0 (∀ j x, ns[j]? = some x → w76.cell? ⟨gv, j * 2, none⟩ = some (.string x)) := ⟨fun j x hx => pw_cell_below hb (AW.out j x hx)⟩
                replace AW := AW2
                clear AW2
                clear hb hHeld
                refine ⟨_, rfl, ?_⟩
                refine hK.out _ _ trivial (fun hHeld => ?_)
                clear hK K
                refine norm_ (a' := ?_) ?_ ?_
                rotate_left
                · show Act.put _ (some 148) _ = _
                  simp only [Act.put, List.setIfInBounds_toArray, List.set_cons_zero, List.set_cons_succ, i64_w, i32_w]
                  rfl
                refine pure_ (i := 8) (N := (some 150)) (v := ?_) (a' := ?_) #[true, true, true, true, false, true, true, true, true, false, false] rfl rfl (by kernel_rfl) (fun _ _ _ h => h) (Or.inl ⟨by rfl, ?_⟩) ?_ ?_
                rotate_left
                · intro w'
                  go_simp
                  with_reducible rfl
                rotate_left
                · simp only [Act.put, List.setIfInBounds_toArray, List.set_cons_zero, List.set_cons_succ, i64_w, i32_w]
                  rfl
                refine two_ (i := 4) (j := 9) (Ni := (some 146)) (Nj := (some 151)) #[true, true, true, true, true, true, true, true, true, false, false] #[true, true, true, true, false, true, true, true, true, true, false] rfl rfl rfl rfl (by kernel_rfl) (by decide) (by decide) (fun K hK => ?_) (fun K hK => ?_)
                · skip
                  have c4 := AW.out k xn HK.out
                  refine value_ (w1 := ?_) (v := ?_) (by rfl) rfl ?_ ?_
                  rotate_left 2
                  · go_simp
                    constructor
                    · rfl
                    · rfl
                  clear c4
                  refine hK.out _ _ trivial (fun hHeld => ?_)
                  clear hK K
                  refine norm_ (a' := ?_) ?_ ?_
                  rotate_left
                  · show Act.put _ (some 146) _ = _
                    simp only [Act.put, List.setIfInBounds_toArray, List.set_cons_zero, List.set_cons_succ, i64_w, i32_w]
                    rfl
                  refine one_ (i := 9) (N := (some 151)) #[true, true, true, true, true, true, true, true, true, true, false] rfl rfl (by kernel_rfl) (by decide) (fun K hK => ?_)
                  have c9 := CN.out
                  refine value_ (w1 := ?_) (v := ?_) (by rfl) rfl ?_ ?_
                  rotate_left 2
                  · go_simp
                    constructor
                    · rfl
                    · rfl
                  clear c9
                  refine hK.out _ _ trivial (fun hHeld => ?_)
                  clear hK K
                  refine norm_ (a' := ?_) ?_ ?_
                  rotate_left
                  · show Act.put _ (some 151) _ = _
                    simp only [Act.put, List.setIfInBounds_toArray, List.set_cons_zero, List.set_cons_succ, i64_w, i32_w]
                    rfl
                  refine pure_ (i := 10) (N := (some 152)) (v := ?_) (a' := ?_) #[true, true, true, true, true, true, true, true, true, true, true] rfl rfl (by kernel_rfl) (fun _ _ _ h => h) (Or.inl ⟨by rfl, ?_⟩) ?_ ?_
                  rotate_left
                  · intro w'
                    go_simp
                    with_reducible rfl
                  rotate_left
                  · simp only [Act.put, List.setIfInBounds_toArray, List.set_cons_zero, List.set_cons_succ, i64_w, i32_w]
                    rfl
                  refine done_ (by kernel_rfl) ?_
                  go_wp2_with fail
                  go_roundw
                  case measure => simp [intOf]; omega
                  case rel => exact ⟨k + 1, by omega, by go_num, R, XBB, ⟨fun _ => ⟨gv, rfl, AW.out⟩⟩, BL⟩
                · skip
                  have c9 := CN.out
                  refine value_ (w1 := ?_) (v := ?_) (by rfl) rfl ?_ ?_
                  rotate_left 2
                  · go_simp
                    constructor
                    · rfl
                    · rfl
                  clear c9
                  refine hK.out _ _ trivial (fun hHeld => ?_)
                  clear hK K
                  refine norm_ (a' := ?_) ?_ ?_
                  rotate_left
                  · show Act.put _ (some 151) _ = _
                    simp only [Act.put, List.setIfInBounds_toArray, List.set_cons_zero, List.set_cons_succ, i64_w, i32_w]
                    rfl
                  refine one_ (i := 4) (N := (some 146)) #[true, true, true, true, true, true, true, true, true, true, false] rfl rfl (by kernel_rfl) (by decide) (fun K hK => ?_)
                  have c4 := AW.out k xn HK.out
                  refine value_ (w1 := ?_) (v := ?_) (by rfl) rfl ?_ ?_
                  rotate_left 2
                  · go_simp
                    constructor
                    · rfl
                    · rfl
                  clear c4
                  refine hK.out _ _ trivial (fun hHeld => ?_)
                  clear hK K
                  refine norm_ (a' := ?_) ?_ ?_
                  rotate_left
                  · show Act.put _ (some 146) _ = _
                    simp only [Act.put, List.setIfInBounds_toArray, List.set_cons_zero, List.set_cons_succ, i64_w, i32_w]
                    rfl
                  refine pure_ (i := 10) (N := (some 152)) (v := ?_) (a' := ?_) #[true, true, true, true, true, true, true, true, true, true, true] rfl rfl (by kernel_rfl) (fun _ _ _ h => h) (Or.inl ⟨by rfl, ?_⟩) ?_ ?_
                  rotate_left
                  · intro w'
                    go_simp
                    with_reducible rfl
                  rotate_left
                  · simp only [Act.put, List.setIfInBounds_toArray, List.set_cons_zero, List.set_cons_succ, i64_w, i32_w]
                    rfl
                  refine done_ (by kernel_rfl) ?_
                  go_wp2_with fail
                  go_roundw
                  case measure => simp [intOf]; omega
                  case rel => exact ⟨k + 1, by omega, by go_num, R, XBB, ⟨fun _ => ⟨gv, rfl, AW.out⟩⟩, BL⟩
            · have e : k = nl := by omega
              subst e
              go_wp2_with fail
              go_roundw
              case measure => simp [intOf]; omega
              case rel => exact ⟨i + 1, L, gs1, v1, l, by omega, by go_num, R, XBB, HG, HC, NB, BL⟩
      have k0 : (x.k == 0) = false := by simp [hk0]
      have k1 : (x.k == 1) = false := by simp [hk1]
      have c0 := ck.out
      clear hk0 hk1 ck
      have cb := Aside0.mk (CB.out _ XG.out)
      have c1 := cb.out.2.1
      have c2 := cb.out.2.2.1
      clear cb
      generalize x.k = xk at c0 k0 k1
      have OP := Aside0.mk (fun W => oplace_any HC.out HG.out x.name x.n NI.out W)
      have RQ := Aside0.mk (fun W (r : Rep base W mb L gs v) => read_any r x.name x.n)
      have WQ := Aside0.mk (fun W (r : Rep base W mb L gs v) => write_any r x.name x.n x.d HD.out)
      have HY := Aside0.mk (read_len R.out x.name x.n)
      have HC2 := Aside0.mk (Corr.write HC.out x.name x.n x.d)
      generalize readVal L x.name x.n = y at *
      generalize atRes L x.name x.n = er at *
      generalize CsN.placeN l x.name x.n = pn at *
      have eb : (er != er) = false := by simp
      go_wp2_with (first | (refine CsE.wpList_load_row_g (by rfl) 32 _ rfl bb rfl 32 (CsE.arr (CsK.enc l)) (0, 0) _ XBB.out Tryd.underlying32 rfl (by rw [HEL.out]; kernel_rfl) ?_))
      refine (OP.out _).mono ?_
      rintro e w77 ⟨rfl, hb⟩
      replace R := Aside0.mk (R.out.below hb)
      replace XBB := Aside0.mk (blk_below XBB.out hb)
      replace BL : Aside0 (Below base w w77) := ⟨below_on HB.out BL.out hb⟩
      replace XG := Aside0.mk (blk_below XG.out hb)
      clear hb OP c0 c1 c2
      have cb := Aside0.mk (CB.out _ XG.out)
      have c1 := cb.out.2.1
      have c2 := cb.out.2.2.1
      clear cb
      go_wp2_with fail
      refine (RQ.out _ R.out).mono ?_
      rintro e w78 ⟨rfl, hb⟩
      replace R := Aside0.mk (R.out.below hb)
      replace XBB := Aside0.mk (blk_below XBB.out hb)
      replace BL : Aside0 (Below base w w78) := ⟨below_on HB.out BL.out hb⟩
      replace XG := Aside0.mk (blk_below XG.out hb)
      clear hb RQ c1 c2
      have cb := Aside0.mk (CB.out _ XG.out)
      have c1 := cb.out.2.1
      have c2 := cb.out.2.2.1
      have RD := Aside0.mk cb.out.2.2.2
      clear cb
      have B6 := Aside0.mk (blk_new w78 (.cells #[.int .u8 0, .int .u8 0, .int .u8 0, .int .u8 0, .int .u8 0, .int .u8 0, .int .u8 0, .int .u8 0, .int .u8 0, .int .u8 0, .int .u8 0, .int .u8 0, .int .u8 0, .int .u8 0, .int .u8 0, .int .u8 0, .int .u8 0, .int .u8 0, .int .u8 0, .int .u8 0, .int .u8 0, .int .u8 0, .int .u8 0, .int .u8 0, .int .u8 0, .int .u8 0, .int .u8 0, .int .u8 0, .int .u8 0, .int .u8 0, .int .u8 0, .int .u8 0] 32 (0, 0)))
      go_wp2_with (first | (refine wpList_store_row rfl 32 (.tmp 13) (.tmp 53) rfl w78.heap.size (blkArr y) rfl rfl 32 _ B6.out (by rw [blkArr_size, HY.out]; kernel_rfl) (by rw [blkArr_size, HY.out]; rfl) (blkArr_one y) (stop ?_)))
      unfold Stop
      rw [World.setRow_alloc_new]
      have hb := below_alloc (Below.refl w78.heap.size w78) (.cells (blkArr y) 32 (0, 0))
      replace R := Aside0.mk (R.out.below hb)
      replace XBB := Aside0.mk (blk_below XBB.out hb)
      replace BL : Aside0 (Below base w (w78.alloc (.cells (blkArr y) 32 (0, 0)))) := ⟨below_on HB.out BL.out hb⟩
      replace XG := Aside0.mk (blk_below XG.out hb)
      clear hb B6 c1 c2 RD
      generalize w78.alloc (.cells (blkArr y) 32 (0, 0)) = w79 at *
      generalize w78.heap.size = gb at *
      have cb := Aside0.mk (CB.out _ XG.out)
      have c1 := cb.out.2.1
      have c2 := cb.out.2.2.1
      have RD := Aside0.mk cb.out.2.2.2
      clear cb
      go_wp2_with (first | (refine wpList_load_mid_g (by rfl) 32 _ rfl gx 3 rfl (x.d.map (Value.int .u8)) _ RD.out Tryd.underlying32 rfl (by rw [DL.out]; kernel_rfl) ?_))
      refine (WQ.out _ R.out).mono ?_
      rintro e w80 ⟨rfl, R1, M1⟩
      clear c1 c2 RD WQ
      have X0 := R
      replace XBB : Aside0 (w80.heap[bb]? = some (.cells (CsE.arr (CsK.enc l)) 32 (0, 0))) := ⟨(moves_not M1 XBB.out NB.out).2⟩
      replace BL : Aside0 (Below base w w80) := ⟨BL.out.trans (below_of_moves X0.out M1)⟩
      replace R := Aside0.mk R1
      replace HC := HC2
      clear X0 R1 M1 HC2
      generalize writeL L x.name x.n x.d = L2 at *
      have NSQ := Aside0.mk HC.out.names
      clear XG NX NE CB HX NS NI HD CL DL
      go_wp2_with (first | (refine CsE.wpList_load_row_g (by rfl) 32 _ rfl bb rfl 32 (CsE.arr (CsK.enc l)) (0, 0) _ XBB.out Tryd.underlying32 rfl (by rw [HEL.out]; kernel_rfl) ?_))
      refine (CsN.volumes_any _ _ HG.out).mono ?_
      rintro e w81 ⟨pv, rfl, tab, hb⟩
      have T1 := Aside0.mk (tvr_tab tab)
      replace R := Aside0.mk (R.out.below hb)
      replace XBB := Aside0.mk (blk_below XBB.out hb)
      replace BL : Aside0 (Below base w w81) := ⟨below_on HB.out BL.out hb⟩
      clear tab hb
      obtain ⟨ns, HNS⟩ : ∃ ns, Aside0 (l.map (·.name) = ns) := ⟨_, ⟨rfl⟩⟩
      rw [HNS.out] at T1 NSQ
      have R9 : Aside0 (∀ W, Rep base W mb L2 gs v → Calls Tryd.prog 18 #[.pointer (some ⟨mb, 0, none⟩)] W fun e w' => ∃ u, e = .returned u ∧ TRow w' u ns ∧ Below W.heap.size W w') := ⟨fun W r => by
        refine (names_any r).mono ?_
        rintro e w' ⟨u, he, own, hb⟩
        exact ⟨u, he, NSQ.out ▸ names_trow own, hb⟩⟩
      obtain ⟨Av, cv, rfl, hav⟩ := T1.out
      have AV := Aside0.mk hav
      clear hav T1
      have hn9 : ns.length ≤ 3 := by have := HG.out.few; rw [← HNS.out, List.length_map]; exact this
      go_wp2_with fail
      refine (R9.out _ R.out).mono ?_
      rintro e w82 ⟨u, rfl, T2, hb⟩
      replace R := Aside0.mk (R.out.below hb)
      replace XBB := Aside0.mk (blk_below XBB.out hb)
      replace BL : Aside0 (Below base w w82) := ⟨below_on HB.out BL.out hb⟩
      have AV2 : Aside0 (0 < ns.length → ∃ g, Av = some ⟨g, 0, none⟩ ∧ ∀ j x, ns[j]? = some x → w82.cell? ⟨g, j * 2, none⟩ = some (.string x)) := ⟨fun h => by
        obtain ⟨g, e, k⟩ := AV.out h
        exact ⟨g, e, fun j x hx => pw_cell_below hb (k j x hx)⟩⟩
      replace AV := AV2
      clear AV2 hb
      obtain ⟨A2, c2, rfl, t2, t3, t4⟩ := T2
      clear t2 t3 t4
      have hbn : ((ns.length : Int) != (ns.length : Int)) = false := by simp
      generalize hln : ns.length = nl at *
      have HLN := Aside0.mk hln
      clear hln
      go_wp2_with fail
      clear hbn
      go_loopw [16] (fun kv wr => ∃ k : Nat, k ≤ nl ∧ kv = .int .i64 k ∧ Aside0 (Rep base wr mb L2 gs v) ∧ Aside0 (wr.heap[bb]? = some (.cells (CsE.arr (CsK.enc l)) 32 (0, 0))) ∧ Aside0 (0 < nl → ∃ g, Av = some ⟨g, 0, none⟩ ∧ ∀ j x, ns[j]? = some x → wr.cell? ⟨g, j * 2, none⟩ = some (.string x)) ∧ Aside0 (Below base w wr)) (fun kv _ => nl - (intOf kv).toNat)
      case atStart => exact ⟨0, by omega, rfl, R, XBB, AV, BL⟩
      case round =>
        clear R XBB AV BL w82
        obtain ⟨k, hk, rfl, R, XBB, AV, BL⟩ := hrel
        by_cases hkl : k < nl
        · obtain ⟨xn, hxn⟩ : ∃ xn, ns[k]? = some xn := ⟨ns[k]'(by rw [HLN.out]; exact hkl), by simp⟩
          have HK := Aside0.mk hxn
          clear hxn
          obtain ⟨gv, hgv, hav⟩ := AV.out (by omega)
          have AW := Aside0.mk hav
          clear hav AV
          subst hgv
          have b0 : (0 : Int) ≤ (k : Int) := by omega
          have b1 : (k : Int) < (nl : Int) := by omega
          have b2 : (xn.toList != xn.toList) = false := by simp
          go_wp2_with fail
          refine start_ (n := 11) (S := fun w' => True) (ds := []) #[false, false, false, false, false, false, false, false, false, false, false] (by kernel_rfl) rfl rfl trivial (fun hHeld => ?_)
          have hb := below_drew1 (Below.refl wr.heap.size wr)
          replace R := Aside0.mk (R.out.below hb)
          replace XBB := Aside0.mk (blk_below XBB.out hb)
          replace BL : Aside0 (Below base w wr.drew) := ⟨below_on HB.out BL.out hb⟩
          have AW2 : Aside0 (∀ j x, ns[j]? = some x → wr.drew.cell? ⟨gv, j * 2, none⟩ = some (.string x)) := ⟨fun j x hx => pw_cell_below hb (AW.out j x hx)⟩
          replace AW := AW2
          clear AW2
          clear hb
          generalize wr.drew = w84 at R XBB BL AW hHeld ⊢
          refine pure_ (i := 0) (N := (some 142)) (v := ?_) (a' := ?_) #[true, false, false, false, false, false, false, false, false, false, false] rfl rfl (by kernel_rfl) (fun _ _ _ h => h) (Or.inl ⟨by rfl, ?_⟩) ?_ ?_
          rotate_left
          · intro w'
            go_simp
            with_reducible rfl
          rotate_left
          · simp only [Act.put, List.setIfInBounds_toArray, List.set_cons_zero, List.set_cons_succ, i64_w, i32_w]
            rfl
          refine pure_ (i := 1) (N := (some 143)) (v := ?_) (a' := ?_) #[true, true, false, false, false, false, false, false, false, false, false] rfl rfl (by kernel_rfl) (fun _ _ _ h => h) (Or.inl ⟨by rfl, ?_⟩) ?_ ?_
          rotate_left
          · intro w'
            go_simp
            with_reducible rfl
          rotate_left
          · simp only [Act.put, List.setIfInBounds_toArray, List.set_cons_zero, List.set_cons_succ, i64_w, i32_w]
            rfl
          refine pure_ (i := 2) (N := (some 144)) (v := ?_) (a' := ?_) #[true, true, true, false, false, false, false, false, false, false, false] rfl rfl (by kernel_rfl) (fun _ _ _ h => h) (Or.inl ⟨by rfl, ?_⟩) ?_ ?_
          rotate_left
          · intro w'
            go_simp
            with_reducible rfl
          rotate_left
          · simp only [Act.put, List.setIfInBounds_toArray, List.set_cons_zero, List.set_cons_succ, i64_w, i32_w]
            rfl
          refine pure_ (i := 3) (N := (some 145)) (v := ?_) (a' := ?_) #[true, true, true, true, false, false, false, false, false, false, false] rfl rfl (by kernel_rfl) (fun _ _ _ h => h) (Or.inl ⟨by rfl, ?_⟩) ?_ ?_
          rotate_left
          · intro w'
            go_simp
            with_reducible rfl
          rotate_left
          · simp only [Act.put, List.setIfInBounds_toArray, List.set_cons_zero, List.set_cons_succ, i64_w, i32_w]
            rfl
          refine pure_ (i := 5) (N := (some 147)) (v := ?_) (a' := ?_) #[true, true, true, true, false, true, false, false, false, false, false] rfl rfl (by kernel_rfl) (fun _ _ _ h => h) (Or.inl ⟨by rfl, ?_⟩) ?_ ?_
          rotate_left
          · intro w'
            go_simp
            with_reducible rfl
          rotate_left
          · simp only [Act.put, List.setIfInBounds_toArray, List.set_cons_zero, List.set_cons_succ, i64_w, i32_w]
            rfl
          refine pure_ (i := 7) (N := (some 149)) (v := ?_) (a' := ?_) #[true, true, true, true, false, true, false, true, false, false, false] rfl rfl (by kernel_rfl) (fun _ _ _ h => h) (Or.inl ⟨by rfl, ?_⟩) ?_ ?_
          rotate_left
          · intro w'
            go_simp
            with_reducible rfl
          rotate_left
          · simp only [Act.put, List.setIfInBounds_toArray, List.set_cons_zero, List.set_cons_succ, i64_w, i32_w]
            rfl
          refine two_ (i := 4) (j := 6) (Ni := (some 146)) (Nj := (some 148)) #[true, true, true, true, true, true, false, true, false, false, false] #[true, true, true, true, false, true, true, true, false, false, false] rfl rfl rfl rfl (by kernel_rfl) (by decide) (by decide) (fun K hK => ?_) (fun K hK => ?_)
          · skip
            have c4 := AW.out k xn HK.out
            refine value_ (w1 := ?_) (v := ?_) (by rfl) rfl ?_ ?_
            rotate_left 2
            · go_simp
              constructor
              · rfl
              · rfl
            clear c4
            refine hK.out _ _ trivial (fun hHeld => ?_)
            clear hK K
            refine norm_ (a' := ?_) ?_ ?_
            rotate_left
            · show Act.put _ (some 146) _ = _
              simp only [Act.put, List.setIfInBounds_toArray, List.set_cons_zero, List.set_cons_succ, i64_w, i32_w]
              rfl
            refine one_ (i := 6) (N := (some 148)) #[true, true, true, true, true, true, true, true, false, false, false] rfl rfl (by kernel_rfl) (by decide) (fun K hK => ?_)
            refine goes_ Tryd.func18 (by kernel_rfl) rfl #[.pointer (some ⟨mb, 0, none⟩)] (by rfl) rfl rfl (by first | (simp only [List.map_toArray, List.map_cons, List.map_nil]; done) | (simp only [List.map_toArray, List.map_cons, List.map_nil]; rfl)) ?_
            with_reducible refine (R9.out _ R.out).mono ?_
            rintro e w85 ⟨u, rfl, T2, hb⟩
            obtain ⟨A3, c3, rfl, t2, t3, t4⟩ := T2
            obtain ⟨gn, rfl, hcn⟩ := t4 (by rw [HLN.out]; omega)
            have CN := Aside0.mk (hcn k xn HK.out)
            rw [HLN.out]
            clear t2 t3 t4 hcn
            replace R := Aside0.mk (R.out.below hb)
            replace XBB := Aside0.mk (blk_below XBB.out hb)
            replace BL : Aside0 (Below base w w85) := ⟨below_on HB.out BL.out hb⟩
            have AW2 : Aside0 (∀ j x, ns[j]? = some x → w85.cell? ⟨gv, j * 2, none⟩ = some (.string x)) := ⟨fun j x hx => pw_cell_below hb (AW.out j x hx)⟩
            replace AW := AW2
            clear AW2
            clear hb hHeld
            refine ⟨_, rfl, ?_⟩
            refine hK.out _ _ trivial (fun hHeld => ?_)
            clear hK K
            refine norm_ (a' := ?_) ?_ ?_
            rotate_left
            · show Act.put _ (some 148) _ = _
              simp only [Act.put, List.setIfInBounds_toArray, List.set_cons_zero, List.set_cons_succ, i64_w, i32_w]
              rfl
            refine pure_ (i := 8) (N := (some 150)) (v := ?_) (a' := ?_) #[true, true, true, true, true, true, true, true, true, false, false] rfl rfl (by kernel_rfl) (fun _ _ _ h => h) (Or.inl ⟨by rfl, ?_⟩) ?_ ?_
            rotate_left
            · intro w'
              go_simp
              with_reducible rfl
            rotate_left
            · simp only [Act.put, List.setIfInBounds_toArray, List.set_cons_zero, List.set_cons_succ, i64_w, i32_w]
              rfl
            refine one_ (i := 9) (N := (some 151)) #[true, true, true, true, true, true, true, true, true, true, false] rfl rfl (by kernel_rfl) (by decide) (fun K hK => ?_)
            have c9 := CN.out
            refine value_ (w1 := ?_) (v := ?_) (by rfl) rfl ?_ ?_
            rotate_left 2
            · go_simp
              constructor
              · rfl
              · rfl
            clear c9
            refine hK.out _ _ trivial (fun hHeld => ?_)
            clear hK K
            refine norm_ (a' := ?_) ?_ ?_
            rotate_left
            · show Act.put _ (some 151) _ = _
              simp only [Act.put, List.setIfInBounds_toArray, List.set_cons_zero, List.set_cons_succ, i64_w, i32_w]
              rfl
            refine pure_ (i := 10) (N := (some 152)) (v := ?_) (a' := ?_) #[true, true, true, true, true, true, true, true, true, true, true] rfl rfl (by kernel_rfl) (fun _ _ _ h => h) (Or.inl ⟨by rfl, ?_⟩) ?_ ?_
            rotate_left
            · intro w'
              go_simp
              with_reducible rfl
            rotate_left
            · simp only [Act.put, List.setIfInBounds_toArray, List.set_cons_zero, List.set_cons_succ, i64_w, i32_w]
              rfl
            refine done_ (by kernel_rfl) ?_
            go_wp2_with fail
            go_roundw
            case measure => simp [intOf]; omega
            case rel => exact ⟨k + 1, by omega, by go_num, R, XBB, ⟨fun _ => ⟨gv, rfl, AW.out⟩⟩, BL⟩
          · skip
            refine goes_ Tryd.func18 (by kernel_rfl) rfl #[.pointer (some ⟨mb, 0, none⟩)] (by rfl) rfl rfl (by first | (simp only [List.map_toArray, List.map_cons, List.map_nil]; done) | (simp only [List.map_toArray, List.map_cons, List.map_nil]; rfl)) ?_
            with_reducible refine (R9.out _ R.out).mono ?_
            rintro e w86 ⟨u, rfl, T2, hb⟩
            obtain ⟨A3, c3, rfl, t2, t3, t4⟩ := T2
            obtain ⟨gn, rfl, hcn⟩ := t4 (by rw [HLN.out]; omega)
            have CN := Aside0.mk (hcn k xn HK.out)
            rw [HLN.out]
            clear t2 t3 t4 hcn
            replace R := Aside0.mk (R.out.below hb)
            replace XBB := Aside0.mk (blk_below XBB.out hb)
            replace BL : Aside0 (Below base w w86) := ⟨below_on HB.out BL.out hb⟩
            have AW2 : Aside0 (∀ j x, ns[j]? = some x → w86.cell? ⟨gv, j * 2, none⟩ = some (.string x)) := ⟨fun j x hx => pw_cell_below hb (AW.out j x hx)⟩
            replace AW := AW2
            clear AW2
            clear hb hHeld
            refine ⟨_, rfl, ?_⟩
            refine hK.out _ _ trivial (fun hHeld => ?_)
            clear hK K
            refine norm_ (a' := ?_) ?_ ?_
            rotate_left
            · show Act.put _ (some 148) _ = _
              simp only [Act.put, List.setIfInBounds_toArray, List.set_cons_zero, List.set_cons_succ, i64_w, i32_w]
              rfl
            refine pure_ (i := 8) (N := (some 150)) (v := ?_) (a' := ?_) #[true, true, true, true, false, true, true, true, true, false, false] rfl rfl (by kernel_rfl) (fun _ _ _ h => h) (Or.inl ⟨by rfl, ?_⟩) ?_ ?_
            rotate_left
            · intro w'
              go_simp
              with_reducible rfl
            rotate_left
            · simp only [Act.put, List.setIfInBounds_toArray, List.set_cons_zero, List.set_cons_succ, i64_w, i32_w]
              rfl
            refine two_ (i := 4) (j := 9) (Ni := (some 146)) (Nj := (some 151)) #[true, true, true, true, true, true, true, true, true, false, false] #[true, true, true, true, false, true, true, true, true, true, false] rfl rfl rfl rfl (by kernel_rfl) (by decide) (by decide) (fun K hK => ?_) (fun K hK => ?_)
            · skip
              have c4 := AW.out k xn HK.out
              refine value_ (w1 := ?_) (v := ?_) (by rfl) rfl ?_ ?_
              rotate_left 2
              · go_simp
                constructor
                · rfl
                · rfl
              clear c4
              refine hK.out _ _ trivial (fun hHeld => ?_)
              clear hK K
              refine norm_ (a' := ?_) ?_ ?_
              rotate_left
              · show Act.put _ (some 146) _ = _
                simp only [Act.put, List.setIfInBounds_toArray, List.set_cons_zero, List.set_cons_succ, i64_w, i32_w]
                rfl
              refine one_ (i := 9) (N := (some 151)) #[true, true, true, true, true, true, true, true, true, true, false] rfl rfl (by kernel_rfl) (by decide) (fun K hK => ?_)
              have c9 := CN.out
              refine value_ (w1 := ?_) (v := ?_) (by rfl) rfl ?_ ?_
              rotate_left 2
              · go_simp
                constructor
                · rfl
                · rfl
              clear c9
              refine hK.out _ _ trivial (fun hHeld => ?_)
              clear hK K
              refine norm_ (a' := ?_) ?_ ?_
              rotate_left
              · show Act.put _ (some 151) _ = _
                simp only [Act.put, List.setIfInBounds_toArray, List.set_cons_zero, List.set_cons_succ, i64_w, i32_w]
                rfl
              refine pure_ (i := 10) (N := (some 152)) (v := ?_) (a' := ?_) #[true, true, true, true, true, true, true, true, true, true, true] rfl rfl (by kernel_rfl) (fun _ _ _ h => h) (Or.inl ⟨by rfl, ?_⟩) ?_ ?_
              rotate_left
              · intro w'
                go_simp
                with_reducible rfl
              rotate_left
              · simp only [Act.put, List.setIfInBounds_toArray, List.set_cons_zero, List.set_cons_succ, i64_w, i32_w]
                rfl
              refine done_ (by kernel_rfl) ?_
              go_wp2_with fail
              go_roundw
              case measure => simp [intOf]; omega
              case rel => exact ⟨k + 1, by omega, by go_num, R, XBB, ⟨fun _ => ⟨gv, rfl, AW.out⟩⟩, BL⟩
            · skip
              have c9 := CN.out
              refine value_ (w1 := ?_) (v := ?_) (by rfl) rfl ?_ ?_
              rotate_left 2
              · go_simp
                constructor
                · rfl
                · rfl
              clear c9
              refine hK.out _ _ trivial (fun hHeld => ?_)
              clear hK K
              refine norm_ (a' := ?_) ?_ ?_
              rotate_left
              · show Act.put _ (some 151) _ = _
                simp only [Act.put, List.setIfInBounds_toArray, List.set_cons_zero, List.set_cons_succ, i64_w, i32_w]
                rfl
              refine one_ (i := 4) (N := (some 146)) #[true, true, true, true, true, true, true, true, true, true, false] rfl rfl (by kernel_rfl) (by decide) (fun K hK => ?_)
              have c4 := AW.out k xn HK.out
              refine value_ (w1 := ?_) (v := ?_) (by rfl) rfl ?_ ?_
              rotate_left 2
              · go_simp
                constructor
                · rfl
                · rfl
              clear c4
              refine hK.out _ _ trivial (fun hHeld => ?_)
              clear hK K
              refine norm_ (a' := ?_) ?_ ?_
              rotate_left
              · show Act.put _ (some 146) _ = _
                simp only [Act.put, List.setIfInBounds_toArray, List.set_cons_zero, List.set_cons_succ, i64_w, i32_w]
                rfl
              refine pure_ (i := 10) (N := (some 152)) (v := ?_) (a' := ?_) #[true, true, true, true, true, true, true, true, true, true, true] rfl rfl (by kernel_rfl) (fun _ _ _ h => h) (Or.inl ⟨by rfl, ?_⟩) ?_ ?_
              rotate_left
              · intro w'
                go_simp
                with_reducible rfl
              rotate_left
              · simp only [Act.put, List.setIfInBounds_toArray, List.set_cons_zero, List.set_cons_succ, i64_w, i32_w]
                rfl
              refine done_ (by kernel_rfl) ?_
              go_wp2_with fail
              go_roundw
              case measure => simp [intOf]; omega
              case rel => exact ⟨k + 1, by omega, by go_num, R, XBB, ⟨fun _ => ⟨gv, rfl, AW.out⟩⟩, BL⟩
        · have e : k = nl := by omega
          subst e
          go_wp2_with fail
          go_roundw
          case measure => simp [intOf]; omega
          case rel => exact ⟨i + 1, L2, gs, v, l, by omega, by go_num, R, XBB, HG, HC, NB, BL⟩
    · have e : i = len := by omega
      subst e
      go_wp2_with fail
      refine (wakes_any _).mono ?_
      rintro e w9 ⟨rfl, hb⟩
      go_wp2_with fail
      go_ret
      exact ⟨rfl, below_on HB.out BL.out hb⟩

end Go.Proofs.YtkppnamblmaokaaDoor.OpsW

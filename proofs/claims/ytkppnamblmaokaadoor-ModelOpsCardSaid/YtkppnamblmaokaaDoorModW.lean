/- ModelApart's own walk. -/
import Derived.Test.YtkppnamblmaokaaDoorModV
import Derived.Great.BuildSlice
namespace Go.Proofs.YtkppnamblmaokaaDoor.ModW
open Go.RowKit Go.Proofs.YtkppnamblmaokaaDoorW.PrintWords Go.Proofs.YtkppnamblmaokaaDoorW.PrintLast Go.Proofs.YtkppnamblmaokaaDoorW.PrintMore Go.Proofs.YtkppnamblmaokaaDoor.ModA Go.Proofs.YtkppnamblmaokaaDoor.ModB Go.Proofs.YtkppnamblmaokaaDoor.ModC Go.Proofs.YtkppnamblmaokaaDoor.ModD Go.Proofs.YtkppnamblmaokaaDoor.ModE Go.Proofs.YtkppnamblmaokaaDoor.ModF Go.Proofs.YtkppnamblmaokaaDoor.ModG Go.Proofs.YtkppnamblmaokaaDoor.ModH Go.Proofs.YtkppnamblmaokaaDoor.ModI Go.Proofs.YtkppnamblmaokaaDoor.ModJ Go.Proofs.YtkppnamblmaokaaDoor.ModK Go.Proofs.YtkppnamblmaokaaDoor.ModL Go.Proofs.YtkppnamblmaokaaDoor.ModN Go.Proofs.YtkppnamblmaokaaDoor.ModO Go.Proofs.YtkppnamblmaokaaDoor.ModP Go.Proofs.YtkppnamblmaokaaDoor.ModQ Go.Proofs.YtkppnamblmaokaaDoor.ModR Go.Proofs.YtkppnamblmaokaaDoor.ModS Go.Proofs.YtkppnamblmaokaaDoor.ModT Go.Proofs.YtkppnamblmaokaaDoor.ModV
set_option linter.unusedVariables false
set_option linter.unusedSimpArgs false

/-- A step that came in. -/
structure Stp where
  k : Int
  n : Int
  name : ByteArray
  d : List Int
def Stp.cells (x : Stp) : List Value := [.int .i64 x.k, .string x.name, .int .i64 x.n] ++ x.d.map (Value.int .u8)
def SRow (w : World) (ga off : Nat) (S : List Stp) : Prop := ∀ i x, S[i]? = some x → w.rangeAt ga (off + i * 35) x.cells ∧ x.d.length = 32
theorem srow_cells {w : World} {ga off : Nat} {S : List Stp} (h : SRow w ga off S) {i : Nat} {x : Stp} (hx : S[i]? = some x) :
    w.cell? ⟨ga, off + i * 35, none⟩ = some (.int .i64 x.k) ∧ w.cell? ⟨ga, off + i * 35 + 1, none⟩ = some (.string x.name) ∧ w.cell? ⟨ga, off + i * 35 + 2, none⟩ = some (.int .i64 x.n) ∧ w.rangeAt ga (off + i * 35 + 3) (x.d.map (Value.int .u8)) ∧ x.d.length = 32 := by
  obtain ⟨hr, hd⟩ := h i x hx
  refine ⟨hr 0 _ rfl, hr 1 _ rfl, hr 2 _ rfl, fun j v hv => ?_, hd⟩
  have := hr (3 + j) v (by
    unfold Stp.cells
    rw [List.getElem?_append_right (by simp)]
    simpa using hv)
  rw [Nat.add_assoc]
  exact this
theorem range_below {B : Nat} {w w' : World} {b o : Nat} {cs : List Value} (h : w.rangeAt b o cs) (hb : Below B w w') (hlt : b < B) : w'.rangeAt b o cs :=
  fun j v hv => (hb.cell (p := ⟨b, o + j, none⟩) hlt).trans (h j v hv)
theorem srow_below {w w' : World} {ga off : Nat} {S : List Stp} (h : SRow w ga off S) (hb : Below w.heap.size w w') : SRow w' ga off S := by
  intro i x hx
  obtain ⟨hr, hd⟩ := h i x hx
  refine ⟨fun j v hv => ?_, hd⟩
  exact pw_cell_below hb (hr j v hv)
theorem srow_below_base {base : Nat} {w w' : World} {ga off : Nat} {S : List Stp} (hB : w.heap.size = base) (h : SRow w ga off S) (hb : Below base w w') : SRow w' ga off S := by
  subst hB; exact srow_below h hb
theorem fair_any (A : Option Addr) (ga off cap : Nat) (S : List Stp) (w : World) (hA : 0 < S.length → A = some ⟨ga, off, none⟩) (h1 : S.length ≤ cap) (h2 : cap ≤ maxLen) (hS : SRow w ga off S) :
    Calls Tryd.prog 7 #[.slice A S.length cap] w fun e w' => e = .returned (.bool (fairB (S.map (·.name)))) ∧ Below w.heap.size w w' := by
  by_cases h0 : S.length = 0
  · have := fair_none A cap w
    obtain rfl : S = [] := List.eq_nil_of_length_eq_zero h0
    exact this
  · rw [hA (by omega)]
    have := fair_some ga off cap (S.map (·.name)) w (by simpa using h1) h2 (fun i x hx => by
      rw [List.getElem?_map] at hx
      obtain ⟨y, hy, rfl⟩ := Option.map_eq_some_iff.1 hx
      exact (srow_cells hS hy).2.1)
    rw [List.length_map] at this
    exact this
theorem run_load_mid {P : Program} {o : Oper} {a : Act} {w : World} {ty : TypeId} {x : Operand} (ho : o.op = .load ty x) {g k : Nat} (hx : a.eval x = .pointer (some ⟨g, k, none⟩)) {cs : List Value} {d : TypeDesc}
    (hg : w.rangeAt g k cs) (hu : P.underlying ty = some d) (hd : d.isRow = true) (hi : (P.info? ty).map (·.size) = some cs.length) :
    (execOp a.eval o).run P w = .ok (.value (.agg cs.toArray)) w := by
  unfold execOp
  simp only [ho, hx, Instr.loadAt, Instr.sureAddr, Sem.run_bind, Sem.run_pure, Result.andThen_ok, run_loadVar_mid w g k ty cs d hg hu hd hi]
theorem moves_not {F F' : List Nat} {w w' : World} (M : Moves F F' w w') {g : Nat} {o : Obj} (hg : w.heap[g]? = some o) (hn : g ∉ F) : g ∉ F' ∧ w'.heap[g]? = some o := by
  have hl := blk_lt hg
  refine ⟨fun h => ?_, (M.touch.block g hl hn).trans hg⟩
  rcases M.new g h with h | h
  · exact hn h
  · omega
theorem trow_two {w : World} {g : Nat} {x y : ByteArray} {t : TypeId} (h : w.heap[g]? = some (.cells #[.string x, .string y] t (0, 0))) : TRow w (.slice (some ⟨g, 0, none⟩) 2 2) [x, y] :=
  ⟨some ⟨g, 0, none⟩, 2, rfl, by simp, by unfold maxLen; omega, fun _ => ⟨g, rfl, fun j z hz => by
    match j, hz with
    | 0, hz => simp at hz; subst hz; exact (blk_cell h 0).trans rfl
    | 1, hz => simp at hz; subst hz; exact (blk_cell h 1).trans rfl⟩⟩
theorem tx2 {w : World} {u1 u2 : Value} {xs : List ByteArray} (h1 : TRow w u1 xs) (h2 : TRow w u2 xs) : Calls Tryd.prog 17 #[u1, u2] w fun e w' => e = .returned (.bool true) ∧ Below w.heap.size w w' := by
  have := texts_any h1 h2
  simpa using this
theorem below_of_moves0 {base : Nat} {w w' : World} {mb : Nat} {L : List Vol} {gs : List Nat} {v : Value} (r : Rep base w mb L gs v) (h : Moves (foot mb gs v) (foot mb gs v) w w') : Below base w w' := below_of_moves r h
section
variable {base : Nat} {w : World} {mb : Nat} {gs : List Nat} {v : Value} {W : List (List Int)}
theorem mk_v (r : Rep base w mb [] gs v) : Calls Tryd.prog 10 #[.pointer (some ⟨mb, 0, none⟩), .string ⟨#[118]⟩, .int .i64 3] w fun e w' => e = .returned (.int .i64 0) ∧ ∃ gs' v', Rep base w' mb [newVol ⟨#[118]⟩ 3] gs' v' ∧ Below base w w' := by
  have := make_any r ⟨#[118]⟩ 3 (by decide)
  rw [make_1.1, make_1.2] at this
  exact this.mono fun e w' ⟨he, gs', v', R, M⟩ => ⟨he, gs', v', R, below_of_moves r M⟩
theorem mk_w (r : Rep base w mb [newVol ⟨#[118]⟩ 3] gs v) : Calls Tryd.prog 10 #[.pointer (some ⟨mb, 0, none⟩), .string ⟨#[119]⟩, .int .i64 2] w fun e w' => e = .returned (.int .i64 0) ∧ ∃ gs' v', Rep base w' mb (modelOf zeros5) gs' v' ∧ Below base w w' := by
  have := make_any r ⟨#[119]⟩ 2 (by decide)
  rw [make_2.1, make_2.2] at this
  exact this.mono fun e w' ⟨he, gs', v', R, M⟩ => ⟨he, gs', v', R, below_of_moves r M⟩
theorem wr_v (r : Rep base w mb (modelOf W) gs v) (hW : W.length = 5) (k : Nat) (h : k < 3) (d : List Int) (hd : d.length = 32) : Calls Tryd.prog 15 #[.pointer (some ⟨mb, 0, none⟩), .string ⟨#[118]⟩, .int .i64 k, .agg (blkArr d)] w fun e w' => e = .returned (.int .i64 0) ∧ Rep base w' mb (modelOf (W.set k d)) gs v ∧ Moves (foot mb gs v) (foot mb gs v) w w' := by
  have := write_any r ⟨#[118]⟩ k d hd
  obtain ⟨h1, h2, _⟩ := write_v hW k h d
  rwa [h1, h2] at this
theorem wr_w (r : Rep base w mb (modelOf W) gs v) (hW : W.length = 5) (k : Nat) (a : Int) (ha : a = (k : Int) - 3) (h3 : 3 ≤ k) (h : k < 5) (d : List Int) (hd : d.length = 32) : Calls Tryd.prog 15 #[.pointer (some ⟨mb, 0, none⟩), .string ⟨#[119]⟩, .int .i64 a, .agg (blkArr d)] w fun e w' => e = .returned (.int .i64 0) ∧ Rep base w' mb (modelOf (W.set k d)) gs v ∧ Moves (foot mb gs v) (foot mb gs v) w w' := by
  obtain ⟨j, rfl⟩ : ∃ j, k = j + 3 := ⟨k - 3, by omega⟩
  obtain rfl : a = (j : Int) := by omega
  have := write_any r ⟨#[119]⟩ j d hd
  obtain ⟨h1, h2, _⟩ := write_w hW j (by omega) d
  rwa [h1, h2] at this
theorem rd_v (r : Rep base w mb (modelOf W) gs v) (hW : W.length = 5) (k : Nat) (h : k < 3) : Calls Tryd.prog 16 #[.pointer (some ⟨mb, 0, none⟩), .string ⟨#[118]⟩, .int .i64 k] w fun e w' => e = .returned (.tuple #[.agg (blkArr (W.getD k zero32)), .int .i64 0]) ∧ Below w.heap.size w w' := by
  have := read_any r ⟨#[118]⟩ k
  obtain ⟨h1, _, h3⟩ := write_v hW k h []
  rwa [h1, h3] at this
theorem rd_w (r : Rep base w mb (modelOf W) gs v) (hW : W.length = 5) (k : Nat) (a : Int) (ha : a = (k : Int) - 3) (h3 : 3 ≤ k) (h : k < 5) : Calls Tryd.prog 16 #[.pointer (some ⟨mb, 0, none⟩), .string ⟨#[119]⟩, .int .i64 a] w fun e w' => e = .returned (.tuple #[.agg (blkArr (W.getD k zero32)), .int .i64 0]) ∧ Below w.heap.size w w' := by
  obtain ⟨j, rfl⟩ : ∃ j, k = j + 3 := ⟨k - 3, by omega⟩
  obtain rfl : a = (j : Int) := by omega
  have := read_any r ⟨#[119]⟩ j
  obtain ⟨h1, _, h3⟩ := write_w hW j (by omega) []
  rwa [h1, h3] at this
theorem gn_v (r : Rep base w mb (modelOf W) gs v) (hW : W.length = 5) : Calls Tryd.prog 12 #[.pointer (some ⟨mb, 0, none⟩), .string ⟨#[118]⟩] w fun e w' => e = .returned (.int .i64 0) ∧ ∃ gs' v', Rep base w' mb [⟨⟨#[119]⟩, W.drop 3⟩] gs' v' ∧ Moves (foot mb gs v) (foot mb gs' v') w w' := by
  have := gone_any r ⟨#[118]⟩
  rwa [(gone_v hW).1, (gone_v hW).2] at this
theorem mk_e (r : Rep base w mb [⟨⟨#[119]⟩, W.drop 3⟩] gs v) (hW : W.length = 5) : Calls Tryd.prog 10 #[.pointer (some ⟨mb, 0, none⟩), .string ⟨#[118]⟩, .int .i64 4] w fun e w' => e = .returned (.int .i64 0) ∧ ∃ gs' v', Rep base w' mb (modelEnd W) gs' v' ∧ Moves (foot mb gs v) (foot mb gs' v') w w' := by
  have := make_any r ⟨#[118]⟩ 4 (by decide)
  rwa [(make_v hW).1, (make_v hW).2] at this
theorem fr_e (r : Rep base w mb (modelEnd W) gs v) (hW : W.length = 5) : Calls Tryd.prog 20 #[.pointer (some ⟨mb, 0, none⟩)] w fun e w' => e = .returned (.int .i64 5) ∧ Below w.heap.size w w' := by
  have := free_any r
  rwa [free_end hW] at this
theorem rd_e (r : Rep base w mb (modelEnd W) gs v) (hW : W.length = 5) (k : Nat) (h : k < 4) : Calls Tryd.prog 16 #[.pointer (some ⟨mb, 0, none⟩), .string ⟨#[118]⟩, .int .i64 k] w fun e w' => e = .returned (.tuple #[.agg (blkArr zero32), .int .i64 0]) ∧ Below w.heap.size w w' := by
  have := read_any r ⟨#[118]⟩ k
  rwa [(read_end hW k h).1, (read_end hW k h).2] at this
theorem rd_l (r : Rep base w mb (modelEnd W) gs v) (hW : W.length = 5) : Calls Tryd.prog 16 #[.pointer (some ⟨mb, 0, none⟩), .string ⟨#[119]⟩, .int .i64 1] w fun e w' => e = .returned (.tuple #[.agg (blkArr (W.getD 4 zero32)), .int .i64 0]) ∧ Below w.heap.size w w' := by
  have := read_any r ⟨#[119]⟩ 1
  rwa [(read_last hW).1, (read_last hW).2] at this
theorem nm_e (r : Rep base w mb (modelEnd W) gs v) : Calls Tryd.prog 18 #[.pointer (some ⟨mb, 0, none⟩)] w fun e w' => ∃ u, e = .returned u ∧ TRow w' u [⟨#[119]⟩, ⟨#[118]⟩] ∧ Below w.heap.size w w' :=
  (names_any r).mono fun e w' ⟨u, he, own, hb⟩ => ⟨u, he, trow_own (xs := [⟨#[119]⟩, ⟨#[118]⟩]) own rfl, hb⟩
end
theorem set_all {W : List (List Int)} (h : ∀ b ∈ W, b.length = 32) (k : Nat) (d : List Int) (hd : d.length = 32) : ∀ b ∈ W.set k d, b.length = 32 := fun b hb => by
  rcases List.mem_or_eq_of_mem_set hb with hb | rfl
  · exact h b hb
  · exact hd
theorem zc53 : Tryd.zeroCells53 = (blkCells zeros5).toArray := by kernel_rfl
theorem touch_set {w : World} (g o : Nat) (cs : List Value) : ModG.Touch [g] w (w.setCells g o cs) := by
  have hb := setCells_below (w := w) (Nat.le_refl g) cs o w (Below.refl _ _)
  exact ⟨hb.os, hb.tape, hb.output, hb.size, fun j _ hn => setCells_other g _ _ w j (by simpa using hn)⟩
theorem below_wr {base : Nat} {w w1 : World} (h : Below base w w1) {gw : Nat} (hg : base ≤ gw) (cs : List Value) (o : Nat) : Below base w (w1.setCells gw o cs) := setCells_below hg cs o w1 h

set_option maxHeartbeats 4000000 in
set_option maxRecDepth 100000 in
theorem apart_walk (A : Option Addr) (ga off cap : Nat) (S : List Stp) (w : World) (hA : 0 < S.length → A = some ⟨ga, off, none⟩) (h1 : S.length ≤ cap) (h2 : cap ≤ maxLen) (hS : SRow w ga off S) :
    Calls Tryd.prog 5 #[.slice A S.length cap] w fun e w' => e = .returned (.bool true) ∧ Below w.heap.size w w' := by
  have FC := Aside0.mk (fair_any A ga off cap S w hA h1 h2 hS)
  have SR := Aside0.mk hS
  have HA := Aside0.mk hA
  have GX : Aside0 (∀ i, i < S.length → ∃ x, S[i]? = some x) := ⟨fun i hi => ⟨S[i], by simp⟩⟩
  clear hS hA
  have hlen9 : S.length ≤ 9223372036854775807 := by unfold maxLen at h2; omega
  generalize hbase : w.heap.size = base at *
  have HB := Aside0.mk hbase
  clear hbase
  generalize fairB (S.map (·.name)) = fb at *
  generalize hlen : S.length = len at *
  have HL := Aside0.mk hlen
  clear hlen
  go_enter Tryd.func5, Tryd.ntmps5
  go_wp2_with fail
  refine FC.out.mono ?_
  rintro e w1 ⟨rfl, hb⟩
  have BL := Aside0.mk hb
  clear hb FC
  cases fb
  · go_wp2_with fail
    refine (wakes_any _).mono ?_
    rintro e w2 ⟨rfl, hb⟩
    go_wp2
    go_ret
    exact ⟨rfl, below_on HB.out BL.out hb⟩
  go_wp2_with fail
  refine (new_any base w1 (by have := BL.out.size; rw [HB.out] at this; exact this)).mono ?_
  rintro e w2 ⟨rfl, R0, hb⟩
  have R := Aside0.mk R0
  replace BL := Aside0.mk (below_on HB.out BL.out hb)
  clear R0 hb
  generalize w1.heap.size = mb at *
  clear w1
  go_wp2_with fail
  refine (mk_v R.out).mono ?_
  rintro e w3 ⟨rfl, gs1, v1, R1, hb⟩
  replace R := Aside0.mk R1
  replace BL := Aside0.mk (BL.out.trans hb)
  clear R1 hb
  go_wp2_with fail
  refine (mk_w R.out).mono ?_
  rintro e w4 ⟨rfl, gs, v, R1, hb⟩
  replace R := Aside0.mk R1
  replace BL := Aside0.mk (BL.out.trans hb)
  clear R1 hb
  clear gs1 v1 w2 w3
  go_wp2_with fail
  rw [zc53]
  have XW := Aside0.mk (blk_new w4 (.cells (blkCells zeros5).toArray 53 (0, 0)))
  have NF : Aside0 (w4.heap.size ∉ foot mb gs v) := ⟨fun h => by have := rep_foot_lt R.out _ h; omega⟩
  have GB : Aside0 (base ≤ w4.heap.size) := ⟨by have := BL.out.size; rw [HB.out] at this; exact this⟩
  replace R := Aside0.mk (rep_alloc R.out (.cells (blkCells zeros5).toArray 53 (0, 0)))
  replace BL := Aside0.mk (below_on HB.out BL.out (below_alloc (Below.refl _ _) (.cells (blkCells zeros5).toArray 53 (0, 0))))
  generalize w4.alloc (.cells (blkCells zeros5).toArray 53 (0, 0)) = w5 at *
  generalize w4.heap.size = gw at *
  clear w4
  go_loopw [5] (fun iv wr => ∃ (i : Nat) (W : List (List Int)), i ≤ len ∧ iv = .int .i64 i ∧ Aside0 (W.length = 5) ∧ Aside0 (∀ b ∈ W, b.length = 32) ∧ Aside0 (Rep base wr mb (modelOf W) gs v) ∧ Aside0 (Below base w wr) ∧ Aside0 (wr.heap[gw]? = some (.cells (blkCells W).toArray 53 (0, 0)))) (fun iv _ => len - (intOf iv).toNat)
  case atStart => exact ⟨0, zeros5, by omega, rfl, ⟨rfl⟩, ⟨by decide⟩, R, BL, XW⟩
  case round =>
    clear R BL XW
    obtain ⟨i, W, hi, rfl, HW, HA5, R, BL, XW⟩ := hrel
    by_cases hlt : i < len
    · obtain ⟨x, hx⟩ := GX.out i hlt
      have HX := Aside0.mk hx
      clear hx
      obtain rfl := HA.out (by omega)
      have cs := Aside0.mk (srow_cells (srow_below_base HB.out SR.out BL.out) HX.out)
      have cn := cs.out.2.2.1
      go_wp2_with fail
      refine (mod_any _ _).mono ?_
      rintro e w6 ⟨⟨k, hk5, rfl⟩, rfl⟩
      have RD := Aside0.mk cs.out.2.2.2.1
      have HD := Aside0.mk cs.out.2.2.2.2
      have DL : Aside0 ((List.map (Value.int .u8) x.d).length = 32) := ⟨by rw [List.length_map]; exact HD.out⟩
      clear cs cn
      have WR : Aside0 (∀ (nm : ByteArray) (a : Int), (k < 3 → nm = ⟨#[118]⟩ ∧ a = k) → (3 ≤ k → nm = ⟨#[119]⟩ ∧ a = (k : Int) - 3) → Calls Tryd.prog 15 #[.pointer (some ⟨mb, 0, none⟩), .string nm, .int .i64 a, .agg (x.d.map (Value.int .u8)).toArray] w6 fun e w' => e = .returned (.int .i64 0) ∧ Rep base w' mb (modelOf (W.set k x.d)) gs v ∧ Moves (foot mb gs v) (foot mb gs v) w6 w') := ⟨fun nm a ha hb => by
        by_cases h3 : k < 3
        · obtain ⟨rfl, rfl⟩ := ha h3
          exact wr_v R.out HW.out k h3 x.d HD.out
        · obtain ⟨rfl, h⟩ := hb (by omega)
          exact wr_w R.out HW.out k a h (by omega) hk5 x.d HD.out⟩
      have SP := Aside0.mk (splice_blk W HA5.out k (by rw [HW.out]; exact hk5) x.d HD.out)
      have SA := Aside0.mk (set_all HA5.out k x.d HD.out)
      have SL : Aside0 ((W.set k x.d).length = 5) := ⟨by rw [List.length_set]; exact HW.out⟩
      have rest : ∀ K' : Prop, K' → K' := fun _ h => h
      have R0 := R
      by_cases h3 : k < 3
      · go_wp2_with (refine wpList_load_mid rfl 32 _ rfl ga (off + i * 35 + 3) rfl (x.d.map (Value.int .u8)) _ RD.out Tryd.underlying32 rfl (by rw [DL.out]; kernel_rfl) ?_)
        refine (WR.out _ _ (fun _ => ⟨rfl, rfl⟩) (fun h => absurd h (by omega))).mono ?_
        rintro e w7 ⟨rfl, R7, M7⟩
        have X7 := Aside0.mk ((M7.touch.block gw (blk_lt XW.out) NF.out).trans XW.out)
        replace R := Aside0.mk R7
        replace BL := Aside0.mk (BL.out.trans (below_of_moves0 R0.out M7))
        replace RD := Aside0.mk (srow_cells (srow_below_base HB.out SR.out BL.out) HX.out).2.2.2.1
        have TH := Aside0.mk (blk_there_t X7.out HA5.out (k := k) (by rw [HW.out]; exact hk5))
        clear R7 M7 WR
        go_wp2_with (first | (refine wpList_load_mid rfl 32 _ rfl ga (off + i * 35 + 3) rfl (x.d.map (Value.int .u8)) _ RD.out Tryd.underlying32 rfl (by rw [DL.out]; kernel_rfl) ?_) | (refine wpList_store_mid rfl 32 _ _ rfl gw (k * 32) _ rfl rfl (by rw [List.size_toArray, DL.out]; exact TH.out) (by rw [List.size_toArray, DL.out]; kernel_rfl) (blkArr_one x.d) ?_))
        have X8 := Aside0.mk (setCells_heap gw (x.d.map (Value.int .u8)) (k * 32) w7 _ 53 X7.out)
        rw [SP.out] at X8
        replace R := Aside0.mk (rep_touch R.out (touch_set gw (k * 32) (x.d.map (Value.int .u8))) (fun j hj hg => NF.out (by simp at hg; subst hg; exact hj)))
        replace BL := Aside0.mk (below_wr BL.out GB.out (x.d.map (Value.int .u8)) (k * 32))
        go_roundw
        case measure => simp [intOf]; omega
        case rel => exact ⟨i + 1, W.set k x.d, by omega, by go_num, SL, SA, R, BL, X8⟩
      · go_wp2_with (refine wpList_load_mid rfl 32 _ rfl ga (off + i * 35 + 3) rfl (x.d.map (Value.int .u8)) _ RD.out Tryd.underlying32 rfl (by rw [DL.out]; kernel_rfl) ?_)
        refine (WR.out _ _ (fun h => absurd h (by omega)) (fun _ => ⟨rfl, rfl⟩)).mono ?_
        rintro e w7 ⟨rfl, R7, M7⟩
        have X7 := Aside0.mk ((M7.touch.block gw (blk_lt XW.out) NF.out).trans XW.out)
        replace R := Aside0.mk R7
        replace BL := Aside0.mk (BL.out.trans (below_of_moves0 R0.out M7))
        replace RD := Aside0.mk (srow_cells (srow_below_base HB.out SR.out BL.out) HX.out).2.2.2.1
        have TH := Aside0.mk (blk_there_t X7.out HA5.out (k := k) (by rw [HW.out]; exact hk5))
        clear R7 M7 WR
        go_wp2_with (first | (refine wpList_load_mid rfl 32 _ rfl ga (off + i * 35 + 3) rfl (x.d.map (Value.int .u8)) _ RD.out Tryd.underlying32 rfl (by rw [DL.out]; kernel_rfl) ?_) | (refine wpList_store_mid rfl 32 _ _ rfl gw (k * 32) _ rfl rfl (by rw [List.size_toArray, DL.out]; exact TH.out) (by rw [List.size_toArray, DL.out]; kernel_rfl) (blkArr_one x.d) ?_))
        have X8 := Aside0.mk (setCells_heap gw (x.d.map (Value.int .u8)) (k * 32) w7 _ 53 X7.out)
        rw [SP.out] at X8
        replace R := Aside0.mk (rep_touch R.out (touch_set gw (k * 32) (x.d.map (Value.int .u8))) (fun j hj hg => NF.out (by simp at hg; subst hg; exact hj)))
        replace BL := Aside0.mk (below_wr BL.out GB.out (x.d.map (Value.int .u8)) (k * 32))
        go_roundw
        case measure => simp [intOf]; omega
        case rel => exact ⟨i + 1, W.set k x.d, by omega, by go_num, SL, SA, R, BL, X8⟩
    · have e : i = len := by omega
      subst e
      go_wp2_with fail
      go_loopw [9] (fun kv wr => ∃ k : Nat, k ≤ 5 ∧ kv = .int .i64 k ∧ Aside0 (Rep base wr mb (modelOf W) gs v) ∧ Aside0 (Below base w wr) ∧ Aside0 (wr.heap[gw]? = some (.cells (blkCells W).toArray 53 (0, 0)))) (fun kv _ => 5 - (intOf kv).toNat)
      case atStart => exact ⟨0, by omega, rfl, R, BL, XW⟩
      case round =>
      clear R BL XW
      obtain ⟨k, hk, rfl, R, BL, XW⟩ := hrel
      by_cases hk5 : k < 5
      · have YK0 : Aside0 (W[k]? = some (W.getD k zero32)) := ⟨by
          have : k < W.length := by rw [HW.out]; exact hk5
          simp [this]⟩
        obtain ⟨y, YD, YK⟩ : ∃ y, Aside0 (W.getD k zero32 = y) ∧ Aside0 (W[k]? = some y) := ⟨_, ⟨rfl⟩, YK0⟩
        clear YK0
        have HY : Aside0 (y.length = 32) := ⟨HA5.out y (List.mem_of_getElem? YK.out)⟩
        have EY : ∀ w, (Op.equalIn 10000 32 (.agg (blkArr y)) (.agg (y.map (Value.int .u8)).toArray)).run Tryd.prog w = .ok true w := fun w => by
          have := eq32 y y HY.out HY.out w
          simpa [blkArr] using this
        by_cases h3 : k < 3
        · go_wp2_with fail
          refine (rd_v R.out HW.out k h3).mono ?_
          rintro e w8 ⟨rfl, hb⟩
          replace R := Aside0.mk (R.out.below hb)
          replace BL := Aside0.mk (below_on HB.out BL.out hb)
          replace XW := Aside0.mk (blk_below XW.out hb)
          rw [YD.out]
          clear hb
          have B5 := Aside0.mk (blk_new w8 (.cells (fillN 0 0) 32 (0, 0)))
          go_wp2_with (first | (refine wpList_store_row rfl 32 _ _ rfl w8.heap.size (blkArr y) rfl rfl 32 _ (zeros32 ▸ B5.out) (by rw [blkArr_size, HY.out]; kernel_rfl) (by rw [blkArr_size, HY.out]; rfl) (blkArr_one y) (stop ?_)))
          unfold Stop
          rw [← zeros32]
          have Xgx := Aside0.mk (setRow_heap _ w8.heap.size (fillN 0 0) (blkArr y) 32 (0, 0) B5.out)
          have BS : Aside0 (Below w8.heap.size w8 ((w8.alloc (.cells (fillN 0 0) 32 (0, 0))).setRow w8.heap.size (blkArr y))) := ⟨below_setRow (below_alloc (Below.refl _ _) (.cells (fillN 0 0) 32 (0, 0))) (Nat.le_refl _) (blkArr y)⟩
          replace R := Aside0.mk (R.out.below BS.out)
          replace BL := Aside0.mk (below_on HB.out BL.out BS.out)
          replace XW := Aside0.mk (blk_below XW.out BS.out)
          clear BS B5
          generalize (w8.alloc (.cells (fillN 0 0) 32 (0, 0))).setRow w8.heap.size (blkArr y) = w9 at *
          generalize w8.heap.size = gx at *
          have RY := Aside0.mk (blk_range_t XW.out HA5.out YK.out)
          go_wp2_with fail
          refine start_ (n := 9) (S := fun w' => w'.heap[gx]? = some (.cells (blkArr y) 32 (0, 0)) ∧ w'.rangeAt gw (k * 32) (y.map (Value.int .u8))) (ds := []) #[false, false, false, false, false, false, false, false, false] (by kernel_rfl) rfl rfl ⟨Xgx.out, RY.out⟩ (fun hHeld => ?_)
          replace R : Aside0 (Rep base w9.drew mb (modelOf W) gs v) := ⟨R.out.below (below_drew1 (Below.refl _ _))⟩
          replace BL : Aside0 (Below base w w9.drew) := ⟨below_on HB.out BL.out (below_drew1 (Below.refl _ _))⟩
          replace XW : Aside0 (w9.drew.heap[gw]? = some (.cells (blkCells W).toArray 53 (0, 0))) := XW
          clear Xgx RY
          generalize w9.drew = w10 at R BL XW hHeld ⊢
          refine pure_ (i := 0) (N := (some 86)) (v := ?_) (a' := ?_) #[true, false, false, false, false, false, false, false, false] rfl rfl (by kernel_rfl) (fun _ _ _ h => h) (Or.inl ⟨by rfl, ?_⟩) ?_ ?_
          rotate_left
          · intro w'
            go_simp
            with_reducible rfl
          rotate_left
          · simp only [Act.put, List.setIfInBounds_toArray, List.set_cons_zero, List.set_cons_succ, i64_w, i32_w]
            rfl
          refine pure_ (i := 1) (N := (some 87)) (v := ?_) (a' := ?_) #[true, true, false, false, false, false, false, false, false] rfl rfl (by kernel_rfl) (fun _ _ _ h => h) (Or.inl ⟨by rfl, ?_⟩) ?_ ?_
          rotate_left
          · intro w'
            go_simp
            with_reducible rfl
          rotate_left
          · simp only [Act.put, List.setIfInBounds_toArray, List.set_cons_zero, List.set_cons_succ, i64_w, i32_w]
            rfl
          refine pure_ (i := 2) (N := (some 88)) (v := ?_) (a' := ?_) #[true, true, true, false, false, false, false, false, false] rfl rfl (by kernel_rfl) (fun _ _ _ h => h) (Or.inl ⟨by rfl, ?_⟩) ?_ ?_
          rotate_left
          · intro w'
            go_simp
            with_reducible rfl
          rotate_left
          · simp only [Act.put, List.setIfInBounds_toArray, List.set_cons_zero, List.set_cons_succ, i64_w, i32_w]
            rfl
          refine pure_ (i := 4) (N := (some 90)) (v := ?_) (a' := ?_) #[true, true, true, false, true, false, false, false, false] rfl rfl (by kernel_rfl) (fun _ _ _ h => h) (Or.inl ⟨by rfl, ?_⟩) ?_ ?_
          rotate_left
          · intro w'
            go_simp
            with_reducible rfl
          rotate_left
          · simp only [Act.put, List.setIfInBounds_toArray, List.set_cons_zero, List.set_cons_succ, i64_w, i32_w]
            rfl
          refine pure_ (i := 5) (N := (some 91)) (v := ?_) (a' := ?_) #[true, true, true, false, true, true, false, false, false] rfl rfl (by kernel_rfl) (fun _ _ _ h => h) (Or.inl ⟨by rfl, ?_⟩) ?_ ?_
          rotate_left
          · intro w'
            go_simp
            with_reducible rfl
          rotate_left
          · simp only [Act.put, List.setIfInBounds_toArray, List.set_cons_zero, List.set_cons_succ, i64_w, i32_w]
            rfl
          refine take_ (i := 3) (N := (some 89)) (v := ?_) (a' := ?_) #[true, true, true, true, true, true, false, false, false] rfl rfl (by kernel_rfl) (fun _ _ _ h => h) (Or.inl ⟨by rfl, ?_⟩) hHeld ?_ ?_
          rotate_left
          · rintro w' ⟨s0, s1⟩
            refine (run_load_row (by rfl) (by rfl) s0 Tryd.underlying32 rfl (by rw [blkArr_size, HY.out]; kernel_rfl)).trans ?_
            with_reducible rfl
          rotate_left
          · simp only [Act.put, List.setIfInBounds_toArray, List.set_cons_zero, List.set_cons_succ, i64_w, i32_w]
            rfl
          refine take_ (i := 6) (N := (some 92)) (v := ?_) (a' := ?_) #[true, true, true, true, true, true, true, false, false] rfl rfl (by kernel_rfl) (fun _ _ _ h => h) (Or.inl ⟨by rfl, ?_⟩) hHeld ?_ ?_
          rotate_left
          · rintro w' ⟨s0, s1⟩
            refine (run_load_mid (by rfl) (by rfl) s1 Tryd.underlying32 rfl (by rw [List.length_map, HY.out]; kernel_rfl)).trans ?_
            with_reducible rfl
          rotate_left
          · simp only [Act.put, List.setIfInBounds_toArray, List.set_cons_zero, List.set_cons_succ, i64_w, i32_w]
            rfl
          refine pure_ (i := 7) (N := (some 93)) (v := ?_) (a' := ?_) #[true, true, true, true, true, true, true, true, false] rfl rfl (by kernel_rfl) (fun _ _ _ h => h) (Or.inl ⟨by rfl, ?_⟩) ?_ ?_
          rotate_left
          · intro w'
            go_simp
            with_reducible rfl
          rotate_left
          · simp only [Act.put, List.setIfInBounds_toArray, List.set_cons_zero, List.set_cons_succ, i64_w, i32_w]
            rfl
          refine pure_ (i := 8) (N := (some 94)) (v := ?_) (a' := ?_) #[true, true, true, true, true, true, true, true, true] rfl rfl (by kernel_rfl) (fun _ _ _ h => h) (Or.inl ⟨by rfl, ?_⟩) ?_ ?_
          rotate_left
          · intro w'
            go_simp
            with_reducible rfl
          rotate_left
          · simp only [Act.put, List.setIfInBounds_toArray, List.set_cons_zero, List.set_cons_succ, i64_w, i32_w]
            rfl
          refine done_ (by kernel_rfl) ?_
          go_wp2_with fail
          go_roundw
          case measure => simp [intOf]; omega
          case rel => exact ⟨k + 1, by omega, by go_num, R, BL, XW⟩
        · go_wp2_with fail
          refine (rd_w R.out HW.out k _ rfl (by omega) hk5).mono ?_
          rintro e w8 ⟨rfl, hb⟩
          replace R := Aside0.mk (R.out.below hb)
          replace BL := Aside0.mk (below_on HB.out BL.out hb)
          replace XW := Aside0.mk (blk_below XW.out hb)
          rw [YD.out]
          clear hb
          have B5 := Aside0.mk (blk_new w8 (.cells (fillN 0 0) 32 (0, 0)))
          go_wp2_with (first | (refine wpList_store_row rfl 32 _ _ rfl w8.heap.size (blkArr y) rfl rfl 32 _ (zeros32 ▸ B5.out) (by rw [blkArr_size, HY.out]; kernel_rfl) (by rw [blkArr_size, HY.out]; rfl) (blkArr_one y) (stop ?_)))
          unfold Stop
          rw [← zeros32]
          have Xgx := Aside0.mk (setRow_heap _ w8.heap.size (fillN 0 0) (blkArr y) 32 (0, 0) B5.out)
          have BS : Aside0 (Below w8.heap.size w8 ((w8.alloc (.cells (fillN 0 0) 32 (0, 0))).setRow w8.heap.size (blkArr y))) := ⟨below_setRow (below_alloc (Below.refl _ _) (.cells (fillN 0 0) 32 (0, 0))) (Nat.le_refl _) (blkArr y)⟩
          replace R := Aside0.mk (R.out.below BS.out)
          replace BL := Aside0.mk (below_on HB.out BL.out BS.out)
          replace XW := Aside0.mk (blk_below XW.out BS.out)
          clear BS B5
          generalize (w8.alloc (.cells (fillN 0 0) 32 (0, 0))).setRow w8.heap.size (blkArr y) = w9 at *
          generalize w8.heap.size = gx at *
          have RY := Aside0.mk (blk_range_t XW.out HA5.out YK.out)
          go_wp2_with fail
          refine start_ (n := 9) (S := fun w' => w'.heap[gx]? = some (.cells (blkArr y) 32 (0, 0)) ∧ w'.rangeAt gw (k * 32) (y.map (Value.int .u8))) (ds := []) #[false, false, false, false, false, false, false, false, false] (by kernel_rfl) rfl rfl ⟨Xgx.out, RY.out⟩ (fun hHeld => ?_)
          replace R : Aside0 (Rep base w9.drew mb (modelOf W) gs v) := ⟨R.out.below (below_drew1 (Below.refl _ _))⟩
          replace BL : Aside0 (Below base w w9.drew) := ⟨below_on HB.out BL.out (below_drew1 (Below.refl _ _))⟩
          replace XW : Aside0 (w9.drew.heap[gw]? = some (.cells (blkCells W).toArray 53 (0, 0))) := XW
          clear Xgx RY
          generalize w9.drew = w10 at R BL XW hHeld ⊢
          refine pure_ (i := 0) (N := (some 86)) (v := ?_) (a' := ?_) #[true, false, false, false, false, false, false, false, false] rfl rfl (by kernel_rfl) (fun _ _ _ h => h) (Or.inl ⟨by rfl, ?_⟩) ?_ ?_
          rotate_left
          · intro w'
            go_simp
            with_reducible rfl
          rotate_left
          · simp only [Act.put, List.setIfInBounds_toArray, List.set_cons_zero, List.set_cons_succ, i64_w, i32_w]
            rfl
          refine pure_ (i := 1) (N := (some 87)) (v := ?_) (a' := ?_) #[true, true, false, false, false, false, false, false, false] rfl rfl (by kernel_rfl) (fun _ _ _ h => h) (Or.inl ⟨by rfl, ?_⟩) ?_ ?_
          rotate_left
          · intro w'
            go_simp
            with_reducible rfl
          rotate_left
          · simp only [Act.put, List.setIfInBounds_toArray, List.set_cons_zero, List.set_cons_succ, i64_w, i32_w]
            rfl
          refine pure_ (i := 2) (N := (some 88)) (v := ?_) (a' := ?_) #[true, true, true, false, false, false, false, false, false] rfl rfl (by kernel_rfl) (fun _ _ _ h => h) (Or.inl ⟨by rfl, ?_⟩) ?_ ?_
          rotate_left
          · intro w'
            go_simp
            with_reducible rfl
          rotate_left
          · simp only [Act.put, List.setIfInBounds_toArray, List.set_cons_zero, List.set_cons_succ, i64_w, i32_w]
            rfl
          refine pure_ (i := 4) (N := (some 90)) (v := ?_) (a' := ?_) #[true, true, true, false, true, false, false, false, false] rfl rfl (by kernel_rfl) (fun _ _ _ h => h) (Or.inl ⟨by rfl, ?_⟩) ?_ ?_
          rotate_left
          · intro w'
            go_simp
            with_reducible rfl
          rotate_left
          · simp only [Act.put, List.setIfInBounds_toArray, List.set_cons_zero, List.set_cons_succ, i64_w, i32_w]
            rfl
          refine pure_ (i := 5) (N := (some 91)) (v := ?_) (a' := ?_) #[true, true, true, false, true, true, false, false, false] rfl rfl (by kernel_rfl) (fun _ _ _ h => h) (Or.inl ⟨by rfl, ?_⟩) ?_ ?_
          rotate_left
          · intro w'
            go_simp
            with_reducible rfl
          rotate_left
          · simp only [Act.put, List.setIfInBounds_toArray, List.set_cons_zero, List.set_cons_succ, i64_w, i32_w]
            rfl
          refine take_ (i := 3) (N := (some 89)) (v := ?_) (a' := ?_) #[true, true, true, true, true, true, false, false, false] rfl rfl (by kernel_rfl) (fun _ _ _ h => h) (Or.inl ⟨by rfl, ?_⟩) hHeld ?_ ?_
          rotate_left
          · rintro w' ⟨s0, s1⟩
            refine (run_load_row (by rfl) (by rfl) s0 Tryd.underlying32 rfl (by rw [blkArr_size, HY.out]; kernel_rfl)).trans ?_
            with_reducible rfl
          rotate_left
          · simp only [Act.put, List.setIfInBounds_toArray, List.set_cons_zero, List.set_cons_succ, i64_w, i32_w]
            rfl
          refine take_ (i := 6) (N := (some 92)) (v := ?_) (a' := ?_) #[true, true, true, true, true, true, true, false, false] rfl rfl (by kernel_rfl) (fun _ _ _ h => h) (Or.inl ⟨by rfl, ?_⟩) hHeld ?_ ?_
          rotate_left
          · rintro w' ⟨s0, s1⟩
            refine (run_load_mid (by rfl) (by rfl) s1 Tryd.underlying32 rfl (by rw [List.length_map, HY.out]; kernel_rfl)).trans ?_
            with_reducible rfl
          rotate_left
          · simp only [Act.put, List.setIfInBounds_toArray, List.set_cons_zero, List.set_cons_succ, i64_w, i32_w]
            rfl
          refine pure_ (i := 7) (N := (some 93)) (v := ?_) (a' := ?_) #[true, true, true, true, true, true, true, true, false] rfl rfl (by kernel_rfl) (fun _ _ _ h => h) (Or.inl ⟨by rfl, ?_⟩) ?_ ?_
          rotate_left
          · intro w'
            go_simp
            with_reducible rfl
          rotate_left
          · simp only [Act.put, List.setIfInBounds_toArray, List.set_cons_zero, List.set_cons_succ, i64_w, i32_w]
            rfl
          refine pure_ (i := 8) (N := (some 94)) (v := ?_) (a' := ?_) #[true, true, true, true, true, true, true, true, true] rfl rfl (by kernel_rfl) (fun _ _ _ h => h) (Or.inl ⟨by rfl, ?_⟩) ?_ ?_
          rotate_left
          · intro w'
            go_simp
            with_reducible rfl
          rotate_left
          · simp only [Act.put, List.setIfInBounds_toArray, List.set_cons_zero, List.set_cons_succ, i64_w, i32_w]
            rfl
          refine done_ (by kernel_rfl) ?_
          go_wp2_with fail
          go_roundw
          case measure => simp [intOf]; omega
          case rel => exact ⟨k + 1, by omega, by go_num, R, BL, XW⟩
      · have e : k = 5 := by omega
        subst e
        go_wp2_with fail
        refine (gn_v R.out HW.out).mono ?_
        rintro e w20 ⟨rfl, gs20, v20, R20, M20⟩
        have NF' := NF
        replace NF : Aside0 (gw ∉ foot mb gs20 v20) := ⟨(moves_not M20 XW.out NF.out).1⟩
        replace XW := Aside0.mk (moves_not M20 XW.out NF'.out).2
        replace BL := Aside0.mk (BL.out.trans (below_of_moves R.out M20))
        replace R := Aside0.mk R20
        clear R20 M20 NF'
        go_wp2_with fail
        refine (mk_e R.out HW.out).mono ?_
        rintro e w21 ⟨rfl, gs21, v21, R21, M21⟩
        have NF' := NF
        replace NF : Aside0 (gw ∉ foot mb gs21 v21) := ⟨(moves_not M21 XW.out NF.out).1⟩
        replace XW := Aside0.mk (moves_not M21 XW.out NF'.out).2
        replace BL := Aside0.mk (BL.out.trans (below_of_moves R.out M21))
        replace R := Aside0.mk R21
        clear R21 M21 NF'
        go_wp2_with fail
        refine (fr_e R.out HW.out).mono ?_
        rintro e w22 ⟨rfl, hb⟩
        replace R := Aside0.mk (R.out.below hb)
        replace BL := Aside0.mk (below_on HB.out BL.out hb)
        replace XW := Aside0.mk (blk_below XW.out hb)
        clear hb
        go_wp2_with fail
        go_loopw [14] (fun kv wr => ∃ k : Nat, k ≤ 4 ∧ kv = .int .i64 k ∧ Aside0 (Rep base wr mb (modelEnd W) gs21 v21) ∧ Aside0 (Below base w wr) ∧ Aside0 (wr.heap[gw]? = some (.cells (blkCells W).toArray 53 (0, 0)))) (fun kv _ => 4 - (intOf kv).toNat)
        case atStart => exact ⟨0, by omega, rfl, R, BL, XW⟩
        case round =>
        clear R BL XW
        obtain ⟨k, hk, rfl, R, BL, XW⟩ := hrel
        by_cases hk4 : k < 4
        · have E0 := eq_zero
          have HY : Aside0 (zero32.length = 32) := ⟨rfl⟩
          go_wp2_with fail
          refine (rd_e R.out HW.out k hk4).mono ?_
          rintro e w23 ⟨rfl, hb⟩
          replace R := Aside0.mk (R.out.below hb)
          replace BL := Aside0.mk (below_on HB.out BL.out hb)
          replace XW := Aside0.mk (blk_below XW.out hb)
          clear hb
          have B5 := Aside0.mk (blk_new w23 (.cells (fillN 0 0) 32 (0, 0)))
          go_wp2_with (first | (refine wpList_store_row rfl 32 _ _ rfl w23.heap.size (blkArr zero32) rfl rfl 32 _ (zeros32 ▸ B5.out) (by rw [blkArr_size, HY.out]; kernel_rfl) (by rw [blkArr_size, HY.out]; rfl) (blkArr_one zero32) (stop ?_)))
          unfold Stop
          rw [← zeros32]
          have Xgy := Aside0.mk (setRow_heap _ w23.heap.size (fillN 0 0) (blkArr zero32) 32 (0, 0) B5.out)
          have BS : Aside0 (Below w23.heap.size w23 ((w23.alloc (.cells (fillN 0 0) 32 (0, 0))).setRow w23.heap.size (blkArr zero32))) := ⟨below_setRow (below_alloc (Below.refl _ _) (.cells (fillN 0 0) 32 (0, 0))) (Nat.le_refl _) (blkArr zero32)⟩
          replace R := Aside0.mk (R.out.below BS.out)
          replace BL := Aside0.mk (below_on HB.out BL.out BS.out)
          replace XW := Aside0.mk (blk_below XW.out BS.out)
          clear BS B5
          generalize (w23.alloc (.cells (fillN 0 0) 32 (0, 0))).setRow w23.heap.size (blkArr zero32) = w24 at *
          generalize w23.heap.size = gy at *
          go_wp2_with (first | (refine wpList_load_row_g (by rfl) 32 _ rfl gy rfl 32 (blkArr zero32) (0, 0) _ Xgy.out Tryd.underlying32 rfl (by kernel_rfl) ?_))
          go_roundw
          case measure => simp [intOf]; omega
          case rel => exact ⟨k + 1, by omega, by go_num, R, BL, XW⟩
        · have e : k = 4 := by omega
          subst e
          have YK : Aside0 (W[4]? = some (W.getD 4 zero32)) := ⟨by
            have : 4 < W.length := by rw [HW.out]; decide
            simp [this]⟩
          have RL := Aside0.mk (rd_l R.out HW.out)
          generalize W.getD 4 zero32 = y at *
          have HY : Aside0 (y.length = 32) := ⟨HA5.out y (List.mem_of_getElem? YK.out)⟩
          have EY : ∀ w, (Op.equalIn 10000 32 (.agg (blkArr y)) (.agg (y.map (Value.int .u8)).toArray)).run Tryd.prog w = .ok true w := fun w => by
            have := eq32 y y HY.out HY.out w
            simpa [blkArr] using this
          go_wp2_with fail
          refine (RL.out).mono ?_
          rintro e w25 ⟨rfl, hb⟩
          replace R := Aside0.mk (R.out.below hb)
          replace BL := Aside0.mk (below_on HB.out BL.out hb)
          replace XW := Aside0.mk (blk_below XW.out hb)
          clear hb
          have B5 := Aside0.mk (blk_new w25 (.cells (fillN 0 0) 32 (0, 0)))
          go_wp2_with (first | (refine wpList_store_row rfl 32 _ _ rfl w25.heap.size (blkArr y) rfl rfl 32 _ (zeros32 ▸ B5.out) (by rw [blkArr_size, HY.out]; kernel_rfl) (by rw [blkArr_size, HY.out]; rfl) (blkArr_one y) (stop ?_)))
          unfold Stop
          rw [← zeros32]
          have Xgz := Aside0.mk (setRow_heap _ w25.heap.size (fillN 0 0) (blkArr y) 32 (0, 0) B5.out)
          have BS : Aside0 (Below w25.heap.size w25 ((w25.alloc (.cells (fillN 0 0) 32 (0, 0))).setRow w25.heap.size (blkArr y))) := ⟨below_setRow (below_alloc (Below.refl _ _) (.cells (fillN 0 0) 32 (0, 0))) (Nat.le_refl _) (blkArr y)⟩
          replace R := Aside0.mk (R.out.below BS.out)
          replace BL := Aside0.mk (below_on HB.out BL.out BS.out)
          replace XW := Aside0.mk (blk_below XW.out BS.out)
          clear BS B5
          generalize (w25.alloc (.cells (fillN 0 0) 32 (0, 0))).setRow w25.heap.size (blkArr y) = w26 at *
          generalize w25.heap.size = gz at *
          have RY := Aside0.mk (blk_range_t XW.out HA5.out YK.out)
          go_wp2_with (first | (refine wpList_load_row_g (by rfl) 32 _ rfl gz rfl 32 (blkArr y) (0, 0) _ Xgz.out Tryd.underlying32 rfl (by rw [blkArr_size, HY.out]; kernel_rfl) ?_) | (refine wpList_load_mid_g (by rfl) 32 _ rfl gw (4 * 32) rfl (y.map (Value.int .u8)) _ RY.out Tryd.underlying32 rfl (by rw [List.length_map, HY.out]; kernel_rfl) ?_))
          refine (nm_e R.out).mono ?_
          rintro e w27 ⟨u, rfl, tr, hb⟩
          replace BL := Aside0.mk (below_on HB.out BL.out hb)
          have TU := Aside0.mk tr
          clear tr hb
          go_wp2_with fail
          have hb := below_alloc (Below.refl w27.heap.size w27) (.cells #[.string ⟨#[119]⟩, .string ⟨#[118]⟩] 9 (0, 0))
          replace BL := Aside0.mk (below_on HB.out BL.out hb)
          refine (tx2 (trow_below TU.out hb) (trow_two (blk_new w27 (.cells #[.string ⟨#[119]⟩, .string ⟨#[118]⟩] 9 (0, 0))))).mono ?_
          clear hb
          rintro e w28 ⟨rfl, hb⟩
          replace BL := Aside0.mk (below_on HB.out BL.out hb)
          clear hb
          go_wp2_with fail
          refine (wakes_any _).mono ?_
          rintro e w29 ⟨rfl, hb⟩
          replace BL := Aside0.mk (below_on HB.out BL.out hb)
          clear hb
          go_wp2_with fail
          go_ret
          exact ⟨rfl, BL.out⟩

end Go.Proofs.YtkppnamblmaokaaDoor.ModW

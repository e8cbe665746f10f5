/- A volume is made: it goes behind the others. -/
import Derived.Test.YtkppnamblmaokaaDoorModI
import Derived.Laws.MakeOwn
import Derived.Maps.AppendAt
namespace Go.Proofs.YtkppnamblmaokaaDoor.ModJ
open Go.RowKit Go.Proofs.YtkppnamblmaokaaDoorW.PrintWords Go.Proofs.YtkppnamblmaokaaDoorW.PrintLast Go.Proofs.YtkppnamblmaokaaDoorW.PrintMore Go.Proofs.YtkppnamblmaokaaDoor.ModA Go.Proofs.YtkppnamblmaokaaDoor.ModB Go.Proofs.YtkppnamblmaokaaDoor.ModC Go.Proofs.YtkppnamblmaokaaDoor.ModD Go.Proofs.YtkppnamblmaokaaDoor.ModE Go.Proofs.YtkppnamblmaokaaDoor.ModF Go.Proofs.YtkppnamblmaokaaDoor.ModG Go.Proofs.YtkppnamblmaokaaDoor.ModH Go.Proofs.YtkppnamblmaokaaDoor.ModI
set_option linter.unusedVariables false
set_option linter.unusedSimpArgs false

/-- A block of zeros. -/
def zero32 : List Int := List.replicate 32 0
def newVol (name : ByteArray) (k : Nat) : Vol := ⟨name, List.replicate k zero32⟩
theorem info32 : (Tryd.prog.info? 32).map (fun i => (i.zero, i.size, i.bytes)) = some (some (.agg (fillN 0 0)), 32, 32) := by kernel_rfl
theorem info74 : (Tryd.prog.info? 74).map (fun i => (i.zero, i.size, i.bytes)) = some (some (.agg #[.string ByteArray.empty, .slice none 0 0]), 2, 40) := by kernel_rfl
theorem made (k : Nat) (h : k ≤ 4) : madeCells (fillN 0 0) (k * 32) = (blkCells (List.replicate k zero32)).toArray := by
  have h0 : ∀ b ∈ List.replicate k zero32, b.length = 32 := fun b hb => by rw [List.eq_of_mem_replicate hb]; rfl
  have hl := blkCells_len (List.replicate k zero32) h0
  apply Array.ext
  · rw [size_madeCells]; simp [hl]
  · intro j h1 h2
    rw [size_madeCells] at h1
    have hj : j % 32 < 32 := Nat.mod_lt _ (by omega)
    have e1 : (madeCells (fillN 0 0) (k * 32))[j]? = some (.int .u8 0) := by
      have hsz := fillN_size 0 0
      have hget := fillN_get 0 0 (j % 32) hj
      simp only [madeCells, Array.getElem?_map, Array.getElem?_range]
      rw [if_pos h1]
      simp only [Option.map_some, hsz, Array.getElem!_eq_getD]
      rw [Array.getD_eq_getD_getElem?, hget]
      simp
    have e2 : (blkCells (List.replicate k zero32)).toArray[j]? = some (.int .u8 0) := by
      rw [List.getElem?_toArray, blkCells_get _ _ h0]
      have : j / 32 < k := by omega
      have hz : zero32[j % 32]? = some 0 := by rw [zero32, List.getElem?_replicate, if_pos hj]
      rw [List.getElem?_replicate, if_pos this]
      simp only [Option.bind_some]
      rw [hz]
      rfl
    have g1 := Array.getElem?_eq_getElem (xs := madeCells (fillN 0 0) (k * 32)) (by rw [size_madeCells]; exact h1)
    have g2 := Array.getElem?_eq_getElem h2
    rw [g1] at e1
    rw [g2] at e2
    exact (Option.some.inj e1).trans (Option.some.inj e2).symm
theorem run_makeSlice' (w : World) (k : Nat) (h : k ≤ 4) : (Instr.makeSlice 43 (.int .i64 (k : Int)) (.int .i64 (k : Int))).run Tryd.prog w = .ok (.slice (some ⟨w.heap.size, 0, none⟩) k k) (w.alloc (.cells (blkCells (List.replicate k zero32)).toArray 32 (0, 0))) := by
  obtain ⟨i, hi, hz, hsz, hby⟩ := info_parts info32
  have hr := run_make (P := Tryd.prog) w 43 32 i (.agg (fillN 0 0)) Tryd.underlying43 hi hz .i64 .i64 k k (by omega) (by omega) (by rw [hby]; omega) (by omega)
  rw [hsz, Int.toNat_natCast] at hr
  rw [← made k h]
  exact hr
theorem volCells_snoc : ∀ (L : List Vol) (gs : List Nat) (x : Vol) (g : Nat), gs.length = L.length → volCells (L ++ [x]) (gs ++ [g]) = volCells L gs ++ x.cells g
  | [], [], x, g, _ => by simp [volCells]
  | u :: L, h :: gs, x, g, e => by
    simp only [List.cons_append, volCells]
    rw [volCells_snoc L gs x g (by simpa using e), List.append_assoc]
  | [], _ :: _, _, _, e => by simp at e
  | _ :: _, [], _, _, e => by simp at e

theorem wp_append_own_at {P : Program} {w : World} {o : Oper} {a : Act} {K : Act → World → Prop} {Q : Exit → Act → World → Prop} (s x : Operand) (t : TypeId)
    (ho : o.op = .call { callee := .builtin .append, args := #[s, x], argTypes := #[t, t] })
    (base : Nat) (e : TypeId) (i : TypeInfo) (z : Value) (size bytes : Nat) (ht : P.underlying t = some (.slice e)) (hi : P.info? e = some i) (hz : i.zero = some z)
    (hsize : i.size = size) (hby : i.bytes = bytes) (hzs : z.cells.size = size) (hsz : 0 < size)
    (v : Value) (n : Nat) (xs : List Value) (hs : a.eval s = v) (hown : w.ownsRow base e size v n xs)
    (ad : Addr) (m c : Nat) (news : List Value) (hx : a.eval x = .slice (some ad) m c) (hl : news.length = m * size) (hnews : ∀ j u, news[j]? = some u → w.cell? (ad.add j) = some u) (h1 : ∀ u ∈ news, u.oneCell' = true)
    (h63 : n + m ≤ maxLen) (hbytes : (n + m) * bytes ≤ 140737488355328) (hbase : base ≤ w.heap.size)
    (h : ∀ v' w', w'.ownsRow base e size v' (n + m) (xs ++ news) → w.grownBy w' v.ownBlock → (v' = .slice none 0 0 ↔ v = .slice none 0 0 ∧ m = 0) → (v'.ownBlock = v.ownBlock ∨ v'.ownBlock = some w.heap.size) → K (a.put o.dst v') w') : o.wp P a w K Q := by
  obtain ⟨v', w', hr, h2, h3, h4, h5⟩ := run_append_own_at (P := P) w base t o.type e i z size bytes ht hi hz hsize hby hzs hsz v n xs hown ad m c news hl hnews h1 h63 hbytes hbase
  unfold Oper.wp execOp
  simp only [ho, resolve, invoke, builtin, Sem.run_bind, Sem.run_pure, Result.andThen_ok, List.map_toArray, List.map_cons, List.map_nil, hs, hx, hr]
  exact h v' w' h2 h3 h4 h5

theorem rep_snoc {base : Nat} {w w6 w7 : World} {mb G : Nat} {L : List Vol} {gs : List Nat} {v v' : Value} {name : ByteArray} {k : Nat} (r : Rep base w mb L gs v) (hb : Below w.heap.size w w6) (r6 : Rep base w6 mb L gs v)
    (hG : w6.heap[G]? = some (.cells (blkCells (List.replicate k zero32)).toArray 32 (0, 0))) (hGE : w.heap.size ≤ G) (hk : k ≤ 4) (h3 : L.length < 3)
    (own : w7.ownsRow base 74 2 v' (L.length + 1) (volCells L gs ++ [.string name, .slice (some ⟨G, 0, none⟩) k k])) (grow : w6.grownBy w7 v.ownBlock) :
    Rep base (w7.setCell ⟨mb, 0, none⟩ v') mb (L ++ [newVol name k]) (gs ++ [G]) v' ∧ ModG.Touch (foot mb gs v) w (w7.setCell ⟨mb, 0, none⟩ v') := by
  have M7 : w7.heap[mb]? = some (.cells #[v] 71 (0, 0)) := blk_grown r6.m grow (fun h => r6.mb2 h.symm)
  rcases own.2 with ⟨_, h⟩ | ⟨g7, cap7, cur7, rfl, hb7, hh7, q1, q2, q3, q4⟩
  · omega
  have lt := rep_foot_lt r
  have gsl : ∀ g ∈ gs, g < w.heap.size := fun g hg => lt g (by simp [foot, hg])
  have mbl : mb < w.heap.size := lt mb (by simp [foot])
  have rowl : ∀ g, v.ownBlock = some g → g < w.heap.size := fun g hg => lt g (by simp [foot, hg])
  have hGv : some G ≠ v.ownBlock := fun h => by have := rowl G h.symm; omega
  have hG7 : w7.heap[G]? = some (.cells (blkCells (List.replicate k zero32)).toArray 32 (0, 0)) := blk_grown hG grow hGv
  have n1 : g7 ≠ mb := blk_ne hh7 M7 (by decide)
  have n2 : g7 ≠ G := blk_ne hh7 hG7 (by decide)
  have b7 : ∀ (i : Nat) (x : Vol) (g : Nat), L[i]? = some x → gs[i]? = some g → w7.heap[g]? = some (.cells (blkCells x.blocks).toArray 32 (0, 0)) := fun i x g h1 h2 =>
    blk_grown (r6.blk i x g h1 h2).2 grow (fun h => r6.row g (List.mem_of_getElem? h2) h.symm)
  have far : ∀ j, j ≠ mb → (w7.setCell ⟨mb, 0, none⟩ (.slice (some ⟨g7, 0, none⟩) (L.length + 1) cap7)).heap[j]? = w7.heap[j]? := fun j hj => Below.heap_setCell w7 ⟨mb, 0, none⟩ _ j hj
  refine ⟨⟨r.ge, blk_put M7 0 _ rfl, ⟨?_, ?_⟩, ?_, ?_, ?_, ?_, ?_, ?_, ?_, ?_⟩, ?_⟩
  · rw [volCells_snoc _ _ _ _ r.len, List.length_append]
    have := own.1
    simpa [Vol.cells, newVol] using this
  · rw [volCells_snoc _ _ _ _ r.len, List.length_append]
    refine .inr ⟨g7, cap7, cur7, rfl, hb7, (far g7 n1).trans hh7, q1, q2, q3, ?_⟩
    simpa [Vol.cells, newVol] using q4
  · simp [r.len]
  · intro i x g h1 h2
    by_cases hi : i < L.length
    · rw [List.getElem?_append_left hi] at h1
      rw [List.getElem?_append_left (by rw [r.len]; exact hi)] at h2
      exact ⟨(r6.blk i x g h1 h2).1, (far g (by rintro rfl; exact r6.mb1 (List.mem_of_getElem? h2))).trans (b7 i x g h1 h2)⟩
    · have hi' : i = L.length := by have := (List.getElem?_eq_some_iff.1 h1).1; simp at this; omega
      subst hi'
      rw [List.getElem?_append_right (by omega)] at h1
      rw [List.getElem?_append_right (by rw [r.len]; omega)] at h2
      simp [r.len] at h1 h2
      subst h1 h2
      exact ⟨by have := r.ge; omega, (far G (by omega)).trans hG7⟩
  · intro i x h1
    by_cases hi : i < L.length
    · rw [List.getElem?_append_left hi] at h1
      exact r.size i x h1
    · have hi' : i = L.length := by have := (List.getElem?_eq_some_iff.1 h1).1; simp at this; omega
      subst hi'
      rw [List.getElem?_append_right (by omega)] at h1
      simp at h1
      subst h1
      refine ⟨by simpa [newVol] using hk, fun b hb => ?_⟩
      rw [List.eq_of_mem_replicate hb]; rfl
  · simp; omega
  · rw [List.nodup_append]
    refine ⟨r.nodup, by simp, fun a ha b hb => ?_⟩
    simp at hb
    subst hb
    have := gsl a ha
    omega
  · simp only [List.mem_append, List.mem_singleton, not_or]
    exact ⟨r.mb1, by omega⟩
  · simp [Value.ownBlock, n1]
  · intro g hg
    simp only [List.mem_append, List.mem_singleton] at hg
    simp only [Value.ownBlock, ne_eq, Option.some.injEq]
    rcases hg with hg | rfl
    · obtain ⟨i, hi, rfl⟩ := List.mem_iff_getElem.1 hg
      have hl := r.len
      exact blk_ne hh7 (b7 i (L[i]'(by omega)) gs[i] (by simp) (by simp [hi])) (by decide)
    · exact n2
  · refine ⟨grow.os.trans hb.os, grow.tape.trans hb.tape, grow.output.trans hb.output, ?_, ?_⟩
    · have := hb.size
      have := grow.size
      simp [World.setCell]
      omega
    · intro j hj hn
      simp only [foot, List.mem_cons, List.mem_append, Option.mem_toList, not_or] at hn
      rw [far j hn.1, grow.block j (by have := hb.size; omega) (fun h => hn.2.2 h.symm), hb.block j hj]

set_option maxHeartbeats 4000000 in
set_option maxRecDepth 100000 in
theorem make_ok {base : Nat} {w : World} {mb : Nat} {L : List Vol} {gs : List Nat} {v : Value} (r : Rep base w mb L gs v) (name : ByteArray) (k : Nat) (hs : name.size ≤ 9223372036854775807)
    (hg : goodName name = true) (hi : idx name (L.map (·.name)) < 0) (k1 : 1 ≤ k) (k4 : k ≤ 4) (h3 : L.length < 3) (hfree : (k : Int) ≤ freeOf L) :
    Calls Tryd.prog 10 #[.pointer (some ⟨mb, 0, none⟩), .string name, .int .i64 k] w fun e w' => e = .returned (.int .i64 0) ∧ ∃ g v', Rep base w' mb (L ++ [newVol name k]) (gs ++ [g]) v' ∧ w.heap.size ≤ g ∧ (∀ b, v'.ownBlock = some b → v.ownBlock = some b ∨ w.heap.size ≤ b) ∧ ModG.Touch (foot mb gs v) w w' := by
  have RR := Aside0.mk r
  have BL := Aside0.mk (below_alloc (Below.refl w.heap.size w) (.cells #[.string name] 9 (0, 0)))
  have BN := Aside0.mk (blk_new w (.cells #[.string name] 9 (0, 0)))
  have HG := Aside0.mk (good_any name w.heap.size (w.alloc (.cells #[.string name] 9 (0, 0))) hs ((blk_cell BN.out 0).trans rfl))
  rw [hg] at HG
  have HI := Aside0.mk (fun w1 (R : Rep base w1 mb L gs v) => index_any R name)
  have HFr := Aside0.mk (fun w1 (R : Rep base w1 mb L gs v) => free_any R)
  have hsl : ∃ A cap, v = .slice A L.length cap := by
    rcases r.slice with ⟨A, cap, h1, h2⟩ | ⟨ga, cap, h1, _⟩
    · exact ⟨A, cap, by rw [h1, h2]; rfl⟩
    · exact ⟨_, cap, h1⟩
  clear hg r
  generalize idx name (L.map (·.name)) = i at *
  generalize freeOf L = fr at *
  obtain ⟨A, cap, hv⟩ := hsl
  have HV := Aside0.mk hv
  clear hv
  have hib : decide (0 ≤ i) = false := by simp; omega
  generalize hlen : L.length = len at h3
  have HLn := Aside0.mk hlen
  clear hlen
  go_enter Tryd.func10, Tryd.ntmps10
  go_wp2_with fail
  refine HG.out.mono ?_
  rintro e w1 ⟨rfl, hb⟩
  have BL1 := Aside0.mk (below_step BL.out hb)
  clear hb
  go_wp2_with fail
  refine (HI.out w1 (RR.out.below BL1.out)).mono ?_
  rintro e w2 ⟨rfl, hb⟩
  have BL2 := Aside0.mk (below_step BL1.out hb)
  have cm : w2.cell? ⟨mb, 0, none⟩ = some (.slice A len cap) := by
    have := (blk_cell (RR.out.below BL2.out).m 0).trans rfl
    rw [HV.out, HLn.out] at this
    exact this
  clear hb
  go_wp2_with fail
  refine (HFr.out w2 (RR.out.below BL2.out)).mono ?_
  rintro e w3 ⟨rfl, hb⟩
  have BL3 := Aside0.mk (below_step BL2.out hb)
  clear hb cm
  go_wp2_with fail
  have R3 := Aside0.mk (RR.out.below BL3.out)
  have c3 : w3.cell? ⟨mb, 0, none⟩ = some v := (blk_cell R3.out.m 0).trans rfl
  obtain rfl : v = .slice A len cap := by rw [HV.out, HLn.out]
  refine start_ (n := 14) (S := fun w' => w'.cell? ⟨mb, 0, none⟩ = some (.slice A len cap)) (ds := [10, 13]) #[false, false, false, false, false, false, false, false, false, false, false, false, false, false] (by kernel_rfl) rfl rfl c3 (fun hHeld => ?_)
  have R4 : Aside0 (Rep base w3.drew mb L gs (.slice A len cap)) := ⟨R3.out.below (below_drew1 (Below.refl _ _))⟩
  have BL4 : Aside0 (Below w.heap.size w w3.drew) := ⟨below_drew1 BL3.out⟩
  clear R3 BL3 c3
  generalize w3.drew = w4 at R4 BL4 hHeld ⊢
  refine pure_ (i := 0) (N := some 40) (v := ?_) (a' := ?_) #[true, false, false, false, false, false, false, false, false, false, false, false, false, false] rfl rfl (by kernel_rfl) (fun _ _ _ h => h) (Or.inl ⟨by rfl, ?_⟩) ?_ ?_
  rotate_left
  · intro w'
    go_simp
    with_reducible rfl
  rotate_left
  · simp only [Act.put, List.setIfInBounds_toArray, List.set_cons_zero, List.set_cons_succ, i64_w, i32_w]
    rfl
  refine pure_ (i := 1) (N := some 41) (v := ?_) (a' := ?_) #[true, true, false, false, false, false, false, false, false, false, false, false, false, false] rfl rfl (by kernel_rfl) (fun _ _ _ h => h) (Or.inl ⟨by rfl, ?_⟩) ?_ ?_
  rotate_left
  · intro w'
    go_simp
    with_reducible rfl
  rotate_left
  · simp only [Act.put, List.setIfInBounds_toArray, List.set_cons_zero, List.set_cons_succ, i64_w, i32_w]
    rfl
  refine pure_ (i := 2) (N := some 42) (v := ?_) (a' := ?_) #[true, true, true, false, false, false, false, false, false, false, false, false, false, false] rfl rfl (by kernel_rfl) (fun _ _ _ h => h) (Or.inl ⟨by rfl, ?_⟩) ?_ ?_
  rotate_left
  · intro w'
    go_simp
    with_reducible rfl
  rotate_left
  · simp only [Act.put, List.setIfInBounds_toArray, List.set_cons_zero, List.set_cons_succ, i64_w, i32_w]
    rfl
  refine pure_ (i := 3) (N := some 43) (v := ?_) (a' := ?_) #[true, true, true, true, false, false, false, false, false, false, false, false, false, false] rfl rfl (by kernel_rfl) (fun _ _ _ h => h) (Or.inl ⟨by rfl, ?_⟩) ?_ ?_
  rotate_left
  · intro w'
    go_simp
    with_reducible rfl
  rotate_left
  · simp only [Act.put, List.setIfInBounds_toArray, List.set_cons_zero, List.set_cons_succ, i64_w, i32_w]
    rfl
  refine take_ (i := 4) (N := some 44) (v := ?_) (a' := ?_) #[true, true, true, true, true, false, false, false, false, false, false, false, false, false] rfl rfl (by kernel_rfl) (fun _ _ _ h => h) (Or.inl ⟨by rfl, ?_⟩) hHeld ?_ ?_
  rotate_left
  · intro w' s0
    go_simp
    with_reducible rfl
  rotate_left
  · simp only [Act.put, List.setIfInBounds_toArray, List.set_cons_zero, List.set_cons_succ, i64_w, i32_w]
    rfl
  refine pure_ (i := 5) (N := some 45) (v := ?_) (a' := ?_) #[true, true, true, true, true, true, false, false, false, false, false, false, false, false] rfl rfl (by kernel_rfl) (fun _ _ _ h => h) (Or.inl ⟨by rfl, ?_⟩) ?_ ?_
  rotate_left
  · intro w'
    go_simp
    with_reducible rfl
  rotate_left
  · simp only [Act.put, List.setIfInBounds_toArray, List.set_cons_zero, List.set_cons_succ, i64_w, i32_w]
    rfl
  refine pure_ (i := 6) (N := some 46) (v := ?_) (a' := ?_) #[true, true, true, true, true, true, true, false, false, false, false, false, false, false] rfl rfl (by kernel_rfl) (fun _ _ _ h => h) (Or.inl ⟨by rfl, ?_⟩) ?_ ?_
  rotate_left
  · intro w'
    go_simp
    with_reducible rfl
  rotate_left
  · simp only [Act.put, List.setIfInBounds_toArray, List.set_cons_zero, List.set_cons_succ, i64_w, i32_w]
    rfl
  refine one_ (i := 7) (N := some 47) #[true, true, true, true, true, true, true, true, false, false, false, false, false, false] rfl rfl (by kernel_rfl) (by decide) (fun K hK => ?_)
  have hmk := run_makeSlice' w4 k k4
  refine value_ (v := .slice (some ⟨w4.heap.size, 0, none⟩) k k) (w1 := w4.alloc (.cells (blkCells (List.replicate k zero32)).toArray 32 (0, 0))) ?_ ?_ ?_ ?_
  · rfl
  · rfl
  · go_simp
  have GB := Aside0.mk (blk_new w4 (.cells (blkCells (List.replicate k zero32)).toArray 32 (0, 0)))
  have R5 := Aside0.mk (rep_alloc R4.out (.cells (blkCells (List.replicate k zero32)).toArray 32 (0, 0)))
  have BL5 := Aside0.mk (below_alloc BL4.out (.cells (blkCells (List.replicate k zero32)).toArray 32 (0, 0)))
  have GE := Aside0.mk BL4.out.size
  clear hmk R4 BL4 hHeld
  generalize w4.alloc (.cells (blkCells (List.replicate k zero32)).toArray 32 (0, 0)) = w5 at *
  generalize w4.heap.size = G at *
  clear w4
  refine hK.out _ _ ((blk_cell R5.out.m 0).trans rfl) (fun hHeld => ?_)
  clear hK K
  refine norm_ (a' := ?_) ?_ ?_
  rotate_left
  · show Act.put _ (some 47) _ = _
    simp only [Act.put, List.setIfInBounds_toArray, List.set_cons_zero, List.set_cons_succ, i64_w, i32_w]
    rfl
  refine pure_ (i := 8) (N := some 48) (v := ?_) (a' := ?_) #[true, true, true, true, true, true, true, true, true, false, false, false, false, false] rfl rfl (by kernel_rfl) (fun _ _ _ h => h) (Or.inl ⟨by rfl, ?_⟩) ?_ ?_
  rotate_left
  · intro w'
    go_simp
    with_reducible rfl
  rotate_left
  · simp only [Act.put, List.setIfInBounds_toArray, List.set_cons_zero, List.set_cons_succ, i64_w, i32_w]
    rfl
  refine one_ (i := 9) (N := some 49) #[true, true, true, true, true, true, true, true, true, true, false, false, false, false] rfl rfl (by kernel_rfl) (by decide) (fun K hK => ?_)
  refine value_ (v := .slice (some ⟨w5.heap.size, 0, none⟩) 1 1) (w1 := w5.alloc (.cells #[.string name, .slice (some ⟨G, 0, none⟩) k k] 74 (0, 0))) ?_ ?_ ?_ ?_
  · rfl
  · rfl
  · go_simp
  have TB := Aside0.mk (blk_new w5 (.cells #[.string name, .slice (some ⟨G, 0, none⟩) k k] 74 (0, 0)))
  have GB6 := Aside0.mk (blk_alloc GB.out (.cells #[.string name, .slice (some ⟨G, 0, none⟩) k k] 74 (0, 0)))
  have R6 := Aside0.mk (rep_alloc R5.out (.cells #[.string name, .slice (some ⟨G, 0, none⟩) k k] 74 (0, 0)))
  have BL6 := Aside0.mk (below_alloc BL5.out (.cells #[.string name, .slice (some ⟨G, 0, none⟩) k k] 74 (0, 0)))
  clear R5 BL5 GB hHeld
  generalize w5.alloc (.cells #[.string name, .slice (some ⟨G, 0, none⟩) k k] 74 (0, 0)) = w6 at *
  generalize w5.heap.size = Tm at *
  clear w5
  refine hK.out _ _ ((blk_cell R6.out.m 0).trans rfl) (fun hHeld => ?_)
  clear hK K
  refine norm_ (a' := ?_) ?_ ?_
  rotate_left
  · show Act.put _ (some 49) _ = _
    simp only [Act.put, List.setIfInBounds_toArray, List.set_cons_zero, List.set_cons_succ, i64_w, i32_w]
    rfl
  refine last_ (i := 10) (N := some 50) #[true, true, true, true, true, true, true, true, true, true, true, false, false, false] rfl rfl (by kernel_rfl) (by decide) (fun K hK => ?_)
  have r6 := R6.out
  have hlt := blk_lt r6.m
  obtain ⟨i74, hi, hz, hsz, hby⟩ := info_parts info74
  rw [if_pos (by rfl)]
  refine wp_append_own_at (.tmp 44) (.tmp 49) 69 rfl base 74 i74 _ 2 40 Tryd.underlying69 hi hz hsz hby rfl (by decide) (.slice A len cap) L.length (volCells L gs) rfl r6.own ⟨Tm, 0, none⟩ 1 1 [.string name, .slice (some ⟨G, 0, none⟩) k k] rfl rfl ?_ ?_ ?_ ?_ ?_ ?_
  · intro j u hu
    have hj : j < 2 := by have := (List.getElem?_eq_some_iff.1 hu).1; simpa using this
    rw [Addr.add_mid]
    rw [cell_of_row w6 Tm _ _ 74 (0, 0) TB.out]
    simpa using hu
  · intro u hu
    simp at hu
    rcases hu with rfl | rfl <;> rfl
  · have := HLn.out; unfold maxLen; omega
  · have := HLn.out; omega
  · have := r6.ge; omega
  intro v' w7 own7 grow7 _ at7
  have AT7 : Aside0 (∀ b, v'.ownBlock = some b → (Value.slice A len cap).ownBlock = some b ∨ w.heap.size ≤ b) := ⟨fun b hb => by
    rcases at7 with h | h
    · exact .inl (h ▸ hb)
    · rw [h] at hb
      injection hb with hb
      have := BL6.out.size
      exact .inr (by omega)⟩
  clear at7
  have fin := Aside0.mk (rep_snoc RR.out BL6.out r6 GB6.out GE.out k4 (by have := HLn.out; omega) own7 grow7)
  obtain ⟨g7, cap7, rfl⟩ : ∃ g7 cap7, v' = .slice (some ⟨g7, 0, none⟩) (L.length + 1) cap7 := by
    rcases own7.2 with ⟨_, h⟩ | ⟨g7, cap7, _, h, _⟩
    · omega
    · exact ⟨g7, cap7, h⟩
  refine hK.out _ _ ?_
  clear hK K hi hz hsz hby i74
  refine norm_ (a' := ?_) ?_ ?_
  rotate_left
  · show Act.put _ (some 50) _ = _
    simp only [Act.put, List.setIfInBounds_toArray, List.set_cons_zero, List.set_cons_succ, i64_w, i32_w]
    rfl
  refine pure_ (i := 11) (N := some 51) (v := ?_) (a' := ?_) #[true, true, true, true, true, true, true, true, true, true, true, true, false, false] rfl rfl (by kernel_rfl) (fun _ _ _ h => h) (Or.inl ⟨by rfl, ?_⟩) ?_ ?_
  rotate_left
  · intro w'
    go_simp
    with_reducible rfl
  rotate_left
  · simp only [Act.put, List.setIfInBounds_toArray, List.set_cons_zero, List.set_cons_succ, i64_w, i32_w]
    rfl
  refine pure_ (i := 12) (N := some 52) (v := ?_) (a' := ?_) #[true, true, true, true, true, true, true, true, true, true, true, true, true, false] rfl rfl (by kernel_rfl) (fun _ _ _ h => h) (Or.inl ⟨by rfl, ?_⟩) ?_ ?_
  rotate_left
  · intro w'
    go_simp
    with_reducible rfl
  rotate_left
  · simp only [Act.put, List.setIfInBounds_toArray, List.set_cons_zero, List.set_cons_succ, i64_w, i32_w]
    rfl
  have M7 : w7.heap[mb]? = some (.cells #[.slice A len cap] 71 (0, 0)) := blk_grown r6.m grow7 (fun h => r6.mb2 h.symm)
  refine last_ (i := 13) (N := none) #[true, true, true, true, true, true, true, true, true, true, true, true, true, true] rfl rfl (by kernel_rfl) (by decide) (fun K hK => ?_)
  have c7 : w7.cell? ⟨mb, 0, none⟩ = some (.slice A len cap) := (blk_cell M7 0).trans rfl
  have f7 := blk_frozen M7 0
  refine skip_ (w1 := w7.setCell ⟨mb, 0, none⟩ (.slice (some ⟨g7, 0, none⟩) (L.length + 1) cap7)) (by rfl) rfl ?_ ?_
  · go_simp
  refine hK.out _ _ ?_
  clear hK K c7 f7
  refine done_ (by kernel_rfl) ?_
  go_wp2
  go_ret
  exact ⟨rfl, G, _, fin.out.1, GE.out, AT7.out, fin.out.2⟩

end Go.Proofs.YtkppnamblmaokaaDoor.ModJ

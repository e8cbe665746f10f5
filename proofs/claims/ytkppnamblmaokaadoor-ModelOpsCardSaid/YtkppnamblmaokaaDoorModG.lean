/- A model is written to; a model is made. -/
import Derived.Test.YtkppnamblmaokaaDoorModF
namespace Go.Proofs.YtkppnamblmaokaaDoor.ModG
open Go.RowKit Go.Proofs.YtkppnamblmaokaaDoorW.PrintWords Go.Proofs.YtkppnamblmaokaaDoorW.PrintLast Go.Proofs.YtkppnamblmaokaaDoorW.PrintMore Go.Proofs.YtkppnamblmaokaaDoor.ModA Go.Proofs.YtkppnamblmaokaaDoor.ModB Go.Proofs.YtkppnamblmaokaaDoor.ModC Go.Proofs.YtkppnamblmaokaaDoor.ModD Go.Proofs.YtkppnamblmaokaaDoor.ModE Go.Proofs.YtkppnamblmaokaaDoor.ModF
set_option linter.unusedVariables false
set_option linter.unusedSimpArgs false

/-- Of what was there only the blocks bs may have been written. -/
structure Touch (bs : List Nat) (w w' : World) : Prop where
  os : w'.os = w.os
  tape : w'.tape = w.tape
  output : w'.output = w.output
  size : w.heap.size ≤ w'.heap.size
  block : ∀ k, k < w.heap.size → k ∉ bs → w'.heap[k]? = w.heap[k]?
theorem Touch.of_below {bs : List Nat} {w w' : World} (h : Below w.heap.size w w') : Touch bs w w' := ⟨h.os, h.tape, h.output, h.size, fun k hk _ => h.block k hk⟩
theorem Touch.trans {bs : List Nat} {w w1 w2 : World} (h : Touch bs w w1) (k : Touch bs w1 w2) : Touch bs w w2 :=
  ⟨k.os.trans h.os, k.tape.trans h.tape, k.output.trans h.output, Nat.le_trans h.size k.size, fun i hi hn => (k.block i (Nat.lt_of_lt_of_le hi h.size) hn).trans (h.block i hi hn)⟩
theorem Touch.mono {bs bs' : List Nat} {w w' : World} (h : Touch bs w w') (hs : ∀ k, k < w.heap.size → k ∈ bs → k ∈ bs') : Touch bs' w w' :=
  ⟨h.os, h.tape, h.output, h.size, fun k hk hn => h.block k hk (fun hm => hn (hs k hk hm))⟩
theorem Touch.below {bs : List Nat} {w w' : World} {base : Nat} (h : Touch bs w w') (hb : ∀ k ∈ bs, base ≤ k) (hw : base ≤ w.heap.size) : Below base w w' :=
  ⟨h.os, h.tape, h.output, h.size, fun k hk => h.block k (by omega) (fun hm => by have := hb k hm; omega)⟩
theorem Touch.blk {bs : List Nat} {w w' : World} (h : Touch bs w w') {g : Nat} {o : Obj} (hg : w.heap[g]? = some o) (hn : g ∉ bs) : w'.heap[g]? = some o :=
  (h.block g (blk_lt hg) hn).trans hg
def foot (mb : Nat) (gs : List Nat) (v : Value) : List Nat := mb :: (gs ++ v.ownBlock.toList)
theorem rep_foot_ge {base : Nat} {w : World} {mb : Nat} {L : List Vol} {gs : List Nat} {v : Value} (r : Rep base w mb L gs v) : ∀ k ∈ foot mb gs v, base ≤ k := by
  intro k hk
  simp only [foot, List.mem_cons, List.mem_append, Option.mem_toList] at hk
  rcases hk with rfl | hk | hk
  · exact r.ge
  · obtain ⟨i, hi, rfl⟩ := List.mem_iff_getElem.1 hk
    have hl := r.len
    exact (r.blk i (L[i]'(by omega)) gs[i] (by simp) (by simp [hi])).1
  · exact (r.own.lt k hk).1
theorem rep_foot_lt {base : Nat} {w : World} {mb : Nat} {L : List Vol} {gs : List Nat} {v : Value} (r : Rep base w mb L gs v) : ∀ k ∈ foot mb gs v, k < w.heap.size := by
  intro k hk
  simp only [foot, List.mem_cons, List.mem_append, Option.mem_toList] at hk
  rcases hk with rfl | hk | hk
  · exact blk_lt r.m
  · obtain ⟨i, hi, rfl⟩ := List.mem_iff_getElem.1 hk
    have hl := r.len
    exact blk_lt (r.blk i (L[i]'(by omega)) gs[i] (by simp) (by simp [hi])).2
  · exact (r.own.lt k hk).2
/-- What touches nothing of a model leaves it. -/
theorem rep_touch {base : Nat} {w : World} {mb : Nat} {L : List Vol} {gs : List Nat} {v : Value} (r : Rep base w mb L gs v) {bs : List Nat} {w' : World} (h : Touch bs w w') (hn : ∀ k ∈ foot mb gs v, k ∉ bs) : Rep base w' mb L gs v := by
  have hm : mb ∉ bs := hn mb (by simp [foot])
  have hg : ∀ g ∈ gs, g ∉ bs := fun g hg => hn g (by simp [foot, hg])
  refine ⟨r.ge, h.blk r.m hm, ⟨r.own.1, ?_⟩, r.len, fun i x g h1 h2 => ⟨(r.blk i x g h1 h2).1, h.blk (r.blk i x g h1 h2).2 (hg g (List.mem_of_getElem? h2))⟩, r.size, r.few, r.nodup, r.mb1, r.mb2, r.row⟩
  rcases r.own.2 with h1 | ⟨ga, cap, cur, hv, hb, hh, rest⟩
  · exact .inl h1
  · exact .inr ⟨ga, cap, cur, hv, hb, h.blk hh (hn ga (by simp [foot, hv, Value.ownBlock])), rest⟩
/-- The model with a block that is something else. -/
def setBlk (L : List Vol) (i k : Nat) (x : Vol) (d : List Int) : List Vol := L.set i ⟨x.name, x.blocks.set k d⟩
theorem volCells_set : ∀ (L : List Vol) (gs : List Nat) (i : Nat) (x y : Vol), L[i]? = some x → y.name = x.name → y.blocks.length = x.blocks.length → volCells (L.set i y) gs = volCells L gs
  | u :: L, g :: gs, 0, x, y, h, hn, hb => by simp at h; subst h; simp [volCells, Vol.cells, hn, hb]
  | u :: L, g :: gs, i + 1, x, y, h, hn, hb => by simp at h; simp [volCells, volCells_set L gs i x y h hn hb]
  | [], _, _, _, _, h, _, _ => by simp at h
  | _ :: _, [], 0, _, _, _, _, _ => by simp [volCells]
  | _ :: _, [], _ + 1, _, _, _, _, _ => by simp [volCells]
theorem rep_write {base : Nat} {w : World} {mb : Nat} {L : List Vol} {gs : List Nat} {v : Value} (r : Rep base w mb L gs v) {i k g : Nat} {x : Vol} {d : List Int} (hx : L[i]? = some x) (hg : gs[i]? = some g) (hk : k < x.blocks.length) (hd : d.length = 32) :
    Rep base (w.setCells g (k * 32) (d.map (Value.int .u8))) mb (setBlk L i k x d) gs v ∧ Touch [g] w (w.setCells g (k * 32) (d.map (Value.int .u8))) := by
  have hgm : g ∈ gs := List.mem_of_getElem? hg
  have hi : i < L.length := (List.getElem?_eq_some_iff.1 hx).1
  have hT : Touch [g] w (w.setCells g (k * 32) (d.map (Value.int .u8))) := by
    have hb := setCells_below (w := w) (Nat.le_refl g) (d.map (Value.int .u8)) (k * 32) w (Below.refl _ _)
    exact ⟨hb.os, hb.tape, hb.output, hb.size, fun j _ hn => setCells_other g _ _ w j (by simpa using hn)⟩
  refine ⟨⟨r.ge, hT.blk r.m (by simp; rintro rfl; exact r.mb1 hgm), ⟨?_, ?_⟩, ?_, ?_, ?_, ?_, r.nodup, r.mb1, r.mb2, r.row⟩, hT⟩
  · unfold setBlk; rw [volCells_set L gs i x ⟨x.name, x.blocks.set k d⟩ hx rfl (by simp), List.length_set]; exact r.own.1
  · unfold setBlk; rw [volCells_set L gs i x ⟨x.name, x.blocks.set k d⟩ hx rfl (by simp), List.length_set]
    rcases r.own.2 with h1 | ⟨ga, cap, cur, hv, hb, hh, rest⟩
    · exact .inl h1
    · exact .inr ⟨ga, cap, cur, hv, hb, hT.blk hh (by simp; rintro rfl; exact r.row ga hgm (by simp [hv, Value.ownBlock])), rest⟩
  · simp [setBlk, r.len]
  · intro j y h hy hh
    by_cases e : i = j
    · subst e
      have hgh : h = g := by rw [hg] at hh; exact (Option.some.inj hh).symm
      subst hgh
      simp only [setBlk, List.getElem?_set_self hi, Option.some.injEq] at hy
      subst hy
      refine ⟨(r.blk i x h hx hg).1, ?_⟩
      rw [setCells_heap h _ _ w _ 32 (r.blk i x h hx hg).2, splice_blk x.blocks (r.size i x hx).2 k hk d hd]
    · simp only [setBlk, List.getElem?_set_ne e] at hy
      have hne : h ≠ g := by
        rintro rfl
        have h1 := (List.getElem?_eq_some_iff.1 hg)
        have h2 := (List.getElem?_eq_some_iff.1 hh)
        exact e ((List.getElem_inj r.nodup).1 (h1.2.trans h2.2.symm))
      exact ⟨(r.blk j y h hy hh).1, hT.blk (r.blk j y h hy hh).2 (by simpa using hne)⟩
  · intro j y hy
    by_cases e : i = j
    · subst e
      simp only [setBlk, List.getElem?_set_self hi, Option.some.injEq] at hy
      subst hy
      have := r.size i x hx
      refine ⟨by simpa using this.1, fun b hb => ?_⟩
      rcases List.mem_or_eq_of_mem_set hb with hb | rfl
      · exact this.2 b hb
      · exact hd
    · simp only [setBlk, List.getElem?_set_ne e] at hy
      exact r.size j y hy
  · simpa [setBlk] using r.few

set_option maxHeartbeats 1000000 in
theorem write_ok {base : Nat} {w : World} {mb : Nat} {L : List Vol} {gs : List Nat} {v : Value} (r : Rep base w mb L gs v) (name : ByteArray) (k i : Nat) (x : Vol) (g : Nat) (d : List Int)
    (hi : idx name (L.map (·.name)) = i) (hx : L[i]? = some x) (hg : gs[i]? = some g) (hk : k < x.blocks.length) (hd : d.length = 32) :
    Calls Tryd.prog 15 #[.pointer (some ⟨mb, 0, none⟩), .string name, .int .i64 k, .agg (blkArr d)] w fun e w' => e = .returned (.int .i64 0) ∧ Rep base w' mb (setBlk L i k x d) gs v ∧ Touch [g] w w' := by
  have hc := block_some (rep_alloc r (.cells (blkArr d) 32 (0, 0))) name k i x g hi hx hg
  rw [if_neg (by omega), Int.toNat_natCast] at hc
  have HC := Aside0.mk hc
  have BL := Aside0.mk (below_alloc (Below.refl w.heap.size w) (.cells (blkArr d) 32 (0, 0)))
  have B7 := Aside0.mk (blk_new w (.cells (blkArr d) 32 (0, 0)))
  have RR := Aside0.mk r
  have HX := Aside0.mk hx
  have HG := Aside0.mk hg
  have HD := Aside0.mk hd
  have HK := Aside0.mk hk
  have hsz := Aside0.mk (show (blkArr d).size = 32 by rw [blkArr_size]; exact hd)
  clear hc r hi hx hg hd hk
  go_enter Tryd.func15, Tryd.ntmps15
  go_wp2_with fail
  refine HC.out.mono ?_
  rintro e w1 ⟨rfl, hb⟩
  have B7' := Aside0.mk (blk_below B7.out hb)
  have BL' := Aside0.mk (below_step BL.out hb)
  have R1 := Aside0.mk (RR.out.below BL'.out)
  have HT := Aside0.mk (blk_there (R1.out.blk i x g HX.out HG.out).2 (RR.out.size i x HX.out).2 HK.out)
  clear hb
  go_wp2_with (first | (refine wpList_load_row rfl 32 _ rfl w.heap.size rfl 32 (blkArr d) (0, 0) _ B7'.out Tryd.underlying32 rfl (by rw [hsz.out]; kernel_rfl) ?_) | (refine wpList_store_mid rfl 32 _ _ rfl g (k * 32) (blkArr d) rfl rfl (by rw [hsz.out]; exact HT.out) (by rw [hsz.out]; kernel_rfl) (blkArr_one d) ?_))
  go_ret
  obtain ⟨h1, h2⟩ := rep_write R1.out HX.out HG.out HK.out HD.out
  exact ⟨rfl, h1, (Touch.of_below BL'.out).trans h2⟩

end Go.Proofs.YtkppnamblmaokaaDoor.ModG

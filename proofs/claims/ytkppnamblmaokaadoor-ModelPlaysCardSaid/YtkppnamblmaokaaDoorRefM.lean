/- The document's model: how it lies; what it answers. -/
import Derived.Test.YtkppnamblmaokaaDoorModT
import Derived.Deep.OwnRows
import Derived.Maps.AppendAt
namespace Go.Proofs.YtkppnamblmaokaaDoor.RefA
open Go.RowKit Go.Proofs.YtkppnamblmaokaaDoorW.PrintWords Go.Proofs.YtkppnamblmaokaaDoorW.PrintLast Go.Proofs.YtkppnamblmaokaaDoorW.PrintMore Go.Proofs.YtkppnamblmaokaaDoor.ModA Go.Proofs.YtkppnamblmaokaaDoor.ModB Go.Proofs.YtkppnamblmaokaaDoor.ModC Go.Proofs.YtkppnamblmaokaaDoor.ModD Go.Proofs.YtkppnamblmaokaaDoor.ModE Go.Proofs.YtkppnamblmaokaaDoor.ModF Go.Proofs.YtkppnamblmaokaaDoor.ModG Go.Proofs.YtkppnamblmaokaaDoor.ModH Go.Proofs.YtkppnamblmaokaaDoor.ModI Go.Proofs.YtkppnamblmaokaaDoor.ModJ Go.Proofs.YtkppnamblmaokaaDoor.ModK Go.Proofs.YtkppnamblmaokaaDoor.ModL Go.Proofs.YtkppnamblmaokaaDoor.ModN Go.Proofs.YtkppnamblmaokaaDoor.ModO Go.Proofs.YtkppnamblmaokaaDoor.ModP Go.Proofs.YtkppnamblmaokaaDoor.ModQ Go.Proofs.YtkppnamblmaokaaDoor.ModR Go.Proofs.YtkppnamblmaokaaDoor.ModS Go.Proofs.YtkppnamblmaokaaDoor.ModT
set_option linter.unusedVariables false
set_option linter.unusedSimpArgs false

/-- The model L lies at block mb, its volumes' blocks at gs, all of it from block base on. -/
structure RepQ (base : Nat) (w : World) (mb : Nat) (L : List Vol) (gs : List Nat) (v : Value) : Prop where
  ge : base ≤ mb
  m : w.heap[mb]? = some (.cells #[v] 30 (0, 0))
  own : w.ownsRow base 45 2 v L.length (volCells L gs)
  len : gs.length = L.length
  blk : ∀ (i : Nat) (x : Vol) (g : Nat), L[i]? = some x → gs[i]? = some g → base ≤ g ∧ w.heap[g]? = some (.cells (blkCells x.blocks).toArray 32 (0, 0))
  size : ∀ (i : Nat) (x : Vol), L[i]? = some x → x.blocks.length ≤ 4 ∧ ∀ b ∈ x.blocks, b.length = 32
  few : L.length ≤ 3
  nodup : gs.Nodup
  mb1 : mb ∉ gs
  mb2 : v.ownBlock ≠ some mb
  row : ∀ g ∈ gs, v.ownBlock ≠ some g

/-- The slice of a model: empty, or at the head of a block. -/
theorem RepQ.slice {base : Nat} {w : World} {mb : Nat} {L : List Vol} {gs : List Nat} {v : Value} (r : RepQ base w mb L gs v) :
    (∃ A cap, v = .slice A 0 cap ∧ L = []) ∨ ∃ ga cap, v = .slice (some ⟨ga, 0, none⟩) L.length cap ∧ L.length ≤ cap ∧ cap ≤ maxLen ∧
      ∀ (i : Nat) (x : Vol) (g : Nat), L[i]? = some x → gs[i]? = some g → w.cell? ⟨ga, i * 2, none⟩ = some (.string x.name) ∧ w.cell? ⟨ga, i * 2 + 1, none⟩ = some (.slice (some ⟨g, 0, none⟩) x.blocks.length x.blocks.length) := by
  rcases r.own.2 with ⟨hv, hn⟩ | ⟨ga, cap, cur, hv, _, hg, h1, h2, h3, h4⟩
  · exact .inl ⟨none, 0, hv, List.eq_nil_of_length_eq_zero hn⟩
  · refine .inr ⟨ga, cap, hv, h1, h2, fun i x g hx hgi => ?_⟩
    obtain ⟨k1, k2⟩ := volCells_get L gs i x g hx hgi
    have hi : i < L.length := (List.getElem?_eq_some_iff.1 hx).1
    have get : ∀ j u, j < L.length * 2 → (volCells L gs)[j]? = some u → w.cell? ⟨ga, j, none⟩ = some u := by
      intro j u hj hu
      rw [← h4, List.getElem?_take_of_lt hj] at hu
      rw [cell_of_row w ga j cur 45 (0, 0) hg]
      simpa using hu
    exact ⟨get _ _ (by omega) k1, get _ _ (by omega) k2⟩

theorem RepQ.below {base : Nat} {w : World} {mb : Nat} {L : List Vol} {gs : List Nat} {v : Value} (r : RepQ base w mb L gs v) {w' : World} (hb : Below w.heap.size w w') : RepQ base w' mb L gs v :=
  ⟨r.ge, blk_below r.m hb, r.own.kept (grown_of_below hb none) (by cases v.ownBlock <;> simp), r.len, fun i x g h1 h2 => ⟨(r.blk i x g h1 h2).1, blk_below (r.blk i x g h1 h2).2 hb⟩, r.size, r.few, r.nodup, r.mb1, r.mb2, r.row⟩

theorem repq_foot_ge {base : Nat} {w : World} {mb : Nat} {L : List Vol} {gs : List Nat} {v : Value} (r : RepQ base w mb L gs v) : ∀ k ∈ foot mb gs v, base ≤ k := by
  intro k hk
  simp only [foot, List.mem_cons, List.mem_append, Option.mem_toList] at hk
  rcases hk with rfl | hk | hk
  · exact r.ge
  · obtain ⟨i, hi, rfl⟩ := List.mem_iff_getElem.1 hk
    have hl := r.len
    exact (r.blk i (L[i]'(by omega)) gs[i] (by simp) (by simp [hi])).1
  · exact (r.own.lt k hk).1
theorem repq_foot_lt {base : Nat} {w : World} {mb : Nat} {L : List Vol} {gs : List Nat} {v : Value} (r : RepQ base w mb L gs v) : ∀ k ∈ foot mb gs v, k < w.heap.size := by
  intro k hk
  simp only [foot, List.mem_cons, List.mem_append, Option.mem_toList] at hk
  rcases hk with rfl | hk | hk
  · exact blk_lt r.m
  · obtain ⟨i, hi, rfl⟩ := List.mem_iff_getElem.1 hk
    have hl := r.len
    exact blk_lt (r.blk i (L[i]'(by omega)) gs[i] (by simp) (by simp [hi])).2
  · exact (r.own.lt k hk).2
/-- What touches nothing of a model leaves it. -/
theorem repq_touch {base : Nat} {w : World} {mb : Nat} {L : List Vol} {gs : List Nat} {v : Value} (r : RepQ base w mb L gs v) {bs : List Nat} {w' : World} (h : ModG.Touch bs w w') (hn : ∀ k ∈ foot mb gs v, k ∉ bs) : RepQ base w' mb L gs v := by
  have hm : mb ∉ bs := hn mb (by simp [foot])
  have hg : ∀ g ∈ gs, g ∉ bs := fun g hg => hn g (by simp [foot, hg])
  refine ⟨r.ge, h.blk r.m hm, ⟨r.own.1, ?_⟩, r.len, fun i x g h1 h2 => ⟨(r.blk i x g h1 h2).1, h.blk (r.blk i x g h1 h2).2 (hg g (List.mem_of_getElem? h2))⟩, r.size, r.few, r.nodup, r.mb1, r.mb2, r.row⟩
  rcases r.own.2 with h1 | ⟨ga, cap, cur, hv, hb, hh, rest⟩
  · exact .inl h1
  · exact .inr ⟨ga, cap, cur, hv, hb, h.blk hh (hn ga (by simp [foot, hv, Value.ownBlock])), rest⟩
theorem repq_write {base : Nat} {w : World} {mb : Nat} {L : List Vol} {gs : List Nat} {v : Value} (r : RepQ base w mb L gs v) {i k g : Nat} {x : Vol} {d : List Int} (hx : L[i]? = some x) (hg : gs[i]? = some g) (hk : k < x.blocks.length) (hd : d.length = 32) :
    RepQ base (w.setCells g (k * 32) (d.map (Value.int .u8))) mb (setBlk L i k x d) gs v ∧ ModG.Touch [g] w (w.setCells g (k * 32) (d.map (Value.int .u8))) := by
  have hgm : g ∈ gs := List.mem_of_getElem? hg
  have hi : i < L.length := (List.getElem?_eq_some_iff.1 hx).1
  have hT : ModG.Touch [g] w (w.setCells g (k * 32) (d.map (Value.int .u8))) := by
    have hb := setCells_below (w := w) (Nat.le_refl g) (d.map (Value.int .u8)) (k * 32) w (Below.refl _ _)
    exact ⟨hb.os, hb.tape, hb.output, hb.size, fun j _ hn => setCells_other g _ _ w j (by simpa using hn)⟩
  refine ⟨⟨r.ge, hT.blk r.m (by simp; rintro rfl; exact r.mb1 hgm), ⟨?_, ?_⟩, ?_, ?_, ?_, ?_, r.nodup, r.mb1, r.mb2, r.row⟩, hT⟩
  · unfold setBlk; rw [volCells_set L gs i x ⟨x.name, x.blocks.set k d⟩ hx rfl (by simp), List.length_set]; exact r.own.1
  · unfold setBlk; rw [volCells_set L gs i x ⟨x.name, x.blocks.set k d⟩ hx rfl (by simp), List.length_set]
    rcases r.own.2 with h1 | ⟨ga, cap, cur, hv, hb, hh, rest⟩
    · exact .inl h1
    · exact .inr ⟨ga, cap, cur, hv, hb, hT.blk hh (by simp; rintro rfl; exact r.row ga hgm (by simp [hv, Value.ownBlock])), rest⟩
  · simp [setBlk, r.len]
  · intro j y h hy hh
    by_cases e : i = j
    · subst e
      have hgh : h = g := by rw [hg] at hh; exact (Option.some.inj hh).symm
      subst hgh
      simp only [setBlk, List.getElem?_set_self hi, Option.some.injEq] at hy
      subst hy
      refine ⟨(r.blk i x h hx hg).1, ?_⟩
      rw [setCells_heap h _ _ w _ 32 (r.blk i x h hx hg).2, splice_blk x.blocks (r.size i x hx).2 k hk d hd]
    · simp only [setBlk, List.getElem?_set_ne e] at hy
      have hne : h ≠ g := by
        rintro rfl
        have h1 := (List.getElem?_eq_some_iff.1 hg)
        have h2 := (List.getElem?_eq_some_iff.1 hh)
        exact e ((List.getElem_inj r.nodup).1 (h1.2.trans h2.2.symm))
      exact ⟨(r.blk j y h hy hh).1, hT.blk (r.blk j y h hy hh).2 (by simpa using hne)⟩
  · intro j y hy
    by_cases e : i = j
    · subst e
      simp only [setBlk, List.getElem?_set_self hi, Option.some.injEq] at hy
      subst hy
      have := r.size i x hx
      refine ⟨by simpa using this.1, fun b hb => ?_⟩
      rcases List.mem_or_eq_of_mem_set hb with hb | rfl
      · exact this.2 b hb
      · exact hd
    · simp only [setBlk, List.getElem?_set_ne e] at hy
      exact r.size j y hy
  · simpa [setBlk] using r.few


theorem repq_new {base : Nat} {w : World} (h : base ≤ w.heap.size) : RepQ base (w.alloc (.cells #[.slice none 0 0] 30 (0, 0))) w.heap.size [] [] (.slice none 0 0) :=
  ⟨h, blk_new w _, World.ownsRow_nil _ _ _ _, rfl, fun i x g h1 _ => by simp at h1, fun i x h1 => by simp at h1, by simp, by simp, by simp, by simp [Value.ownBlock], by simp⟩

def lowB (c : UInt8) : Bool := 97 ≤ c && c ≤ 122
def refGood (s : ByteArray) : Bool := decide (1 ≤ s.size) && decide (s.size ≤ 4) && s.data.toList.all lowB

set_option maxHeartbeats 1000000 in
set_option maxRecDepth 100000 in
theorem find_any {base : Nat} {w : World} {mb : Nat} {L : List Vol} {gs : List Nat} {v : Value} (r : RepQ base w mb L gs v) (name : ByteArray) :
    Calls Tryd.prog 31 #[.pointer (some ⟨mb, 0, none⟩), .string name] w fun e w' => e = .returned (.int .i64 (ix L name)) ∧ Below w.heap.size w w' := by
  have cm : w.cell? ⟨mb, 0, none⟩ = some v := (blk_cell r.m 0).trans rfl
  have BL := Aside0.mk (Below.refl w.heap.size w)
  have HI : Aside0 (ix L name = shift 0 (idx name ((L.map (·.name)).drop 0))) := ⟨by unfold ix; have := idx_ge name (L.map (·.name)); simp only [List.drop_zero, shift]; split <;> omega⟩
  rcases r.slice with ⟨A, cap, rfl, rfl⟩ | ⟨ga, cap, rfl, h1, h2, h3⟩
  · clear r
    go_enter Tryd.func31, Tryd.ntmps31
    go_wp2_with fail
    go_loopw [5] (fun i wr => i = .int .i64 0 ∧ Aside0 (wr = w)) (fun _ _ => 0)
    case atStart => exact ⟨rfl, ⟨rfl⟩⟩
    case round =>
      obtain ⟨rfl, HW⟩ := hrel
      obtain rfl := HW.out
      go_wp2_with fail
      go_ret
      exact ⟨rfl, BL.out⟩
  · have hf := r.few
    have HC : Aside0 (∀ (i : Nat) (x : Vol), L[i]? = some x → ∃ g, w.cell? ⟨ga, i * 2, none⟩ = some (.string x.name)) := ⟨fun i x hx => by
      have hi : i < gs.length := by rw [r.len]; exact (List.getElem?_eq_some_iff.1 hx).1
      exact ⟨0, (h3 i x gs[i] hx (by simp [hi])).1⟩⟩
    have GX : Aside0 (∀ i, i < L.length → ∃ x, L[i]? = some x) := ⟨fun i hi => ⟨L[i], by simp⟩⟩
    clear r h3
    generalize hlen : L.length = len at *
    have HL := Aside0.mk hlen
    clear hlen
    go_enter Tryd.func31, Tryd.ntmps31
    go_wp2_with fail
    go_loopw [5] (fun iv wr => ∃ i : Nat, i ≤ len ∧ iv = .int .i64 i ∧ Aside0 (ix L name = shift i (idx name ((L.map (·.name)).drop i))) ∧ Aside0 (wr = w)) (fun iv _ => len - (intOf iv).toNat)
    case atStart => exact ⟨0, by omega, rfl, HI, ⟨rfl⟩⟩
    case round =>
      clear HI
      obtain ⟨i, hi, rfl, HI, HW⟩ := hrel
      obtain rfl := HW.out
      by_cases hlt : i < len
      · obtain ⟨x, hx⟩ := GX.out i hlt
        obtain ⟨_, c0⟩ := HC.out i x hx
        have HS : Aside0 ((L.map (·.name))[i]? = some x.name) := ⟨by rw [List.getElem?_map, hx]; rfl⟩
        clear hx
        by_cases hh : (x.name.toList == name.toList) = true
        · have HR := Aside0.mk (HI.out.trans (shift_hit name _ i x.name HS.out hh))
          go_wp2_with fail
          go_ret
          exact ⟨by rw [HR.out]; rfl, BL.out⟩
        · have hh : (x.name.toList == name.toList) = false := by simpa using hh
          have HR := Aside0.mk (HI.out.trans (shift_miss name _ i x.name HS.out hh))
          go_wp2_with fail
          go_roundw
          case measure => simp [intOf]; omega
          case rel => exact ⟨i + 1, by omega, by go_num, HR, ⟨by trivial⟩⟩
      · have : i = len := by omega
        subst this
        have HR : Aside0 (ix L name = -1) := ⟨by rw [HI.out, List.drop_of_length_le (by rw [List.length_map, HL.out]; exact Nat.le_refl _)]; simp [idx, shift]⟩
        go_wp2_with fail
        go_ret
        exact ⟨by rw [HR.out]; rfl, BL.out⟩

end Go.Proofs.YtkppnamblmaokaaDoor.RefA

namespace Go.Proofs.YtkppnamblmaokaaDoor.RefB
open Go.RowKit Go.Proofs.YtkppnamblmaokaaDoorW.PrintWords Go.Proofs.YtkppnamblmaokaaDoorW.PrintLast Go.Proofs.YtkppnamblmaokaaDoorW.PrintMore Go.Proofs.YtkppnamblmaokaaDoor.ModA Go.Proofs.YtkppnamblmaokaaDoor.ModB Go.Proofs.YtkppnamblmaokaaDoor.ModC Go.Proofs.YtkppnamblmaokaaDoor.ModD Go.Proofs.YtkppnamblmaokaaDoor.ModE Go.Proofs.YtkppnamblmaokaaDoor.ModF Go.Proofs.YtkppnamblmaokaaDoor.ModG Go.Proofs.YtkppnamblmaokaaDoor.ModH Go.Proofs.YtkppnamblmaokaaDoor.ModI Go.Proofs.YtkppnamblmaokaaDoor.ModJ Go.Proofs.YtkppnamblmaokaaDoor.ModK Go.Proofs.YtkppnamblmaokaaDoor.ModL Go.Proofs.YtkppnamblmaokaaDoor.ModN Go.Proofs.YtkppnamblmaokaaDoor.ModO Go.Proofs.YtkppnamblmaokaaDoor.ModP Go.Proofs.YtkppnamblmaokaaDoor.ModQ Go.Proofs.YtkppnamblmaokaaDoor.ModR Go.Proofs.YtkppnamblmaokaaDoor.ModS Go.Proofs.YtkppnamblmaokaaDoor.ModT Go.Proofs.YtkppnamblmaokaaDoor.RefA
set_option linter.unusedVariables false
set_option linter.unusedSimpArgs false

set_option maxHeartbeats 1000000 in
set_option maxRecDepth 100000 in
theorem free_q {base : Nat} {w : World} {mb : Nat} {L : List Vol} {gs : List Nat} {v : Value} (r : RepQ base w mb L gs v) :
    Calls Tryd.prog 21 #[.pointer (some ⟨mb, 0, none⟩)] w fun e w' => e = .returned (.int .i64 (freeOf L)) ∧ Below w.heap.size w w' := by
  have cm : w.cell? ⟨mb, 0, none⟩ = some v := (blk_cell r.m 0).trans rfl
  have BL := Aside0.mk (Below.refl w.heap.size w)
  rcases r.slice with ⟨A, cap, rfl, rfl⟩ | ⟨ga, cap, rfl, h1, h2, h3⟩
  · clear r
    go_enter Tryd.func21, Tryd.ntmps21
    go_wp2_with fail
    go_loopw [3, 4] (fun n i wr => n = .int .i64 11 ∧ i = .int .i64 0 ∧ Aside0 (wr = w)) (fun _ _ _ => 0)
    case atStart => exact ⟨rfl, rfl, ⟨rfl⟩⟩
    case round =>
      obtain ⟨rfl, rfl, HW⟩ := hrel
      obtain rfl := HW.out
      go_wp2_with fail
      go_ret
      exact ⟨rfl, BL.out⟩
  · have R := Aside0.mk r
    have H3 := Aside0.mk h3
    have hf := r.few
    have hsz := Aside0.mk (blocksOf_le L (fun i x hx => (r.size i x hx).1))
    have hall : Aside0 (blocksOf (L.take L.length) = blocksOf L) := ⟨by rw [List.take_length]⟩
    clear r h3
    generalize hlen : L.length = len at *
    have HL := Aside0.mk hlen
    clear hlen
    go_enter Tryd.func21, Tryd.ntmps21
    go_wp2_with fail
    go_loopw [3, 4] (fun n iv wr => ∃ i : Nat, i ≤ len ∧ iv = .int .i64 i ∧ n = .int .i64 (11 - (blocksOf (L.take i) : Int)) ∧ Aside0 (wr = w)) (fun _ iv _ => len - (intOf iv).toNat)
    case atStart => exact ⟨0, by omega, rfl, rfl, ⟨rfl⟩⟩
    case round =>
      obtain ⟨i, hi, rfl, rfl, HW⟩ := hrel
      obtain rfl := HW.out
      have hb := hsz.out i
      by_cases hlt : i < len
      · obtain ⟨x, hx⟩ : ∃ x, L[i]? = some x := ⟨L[i]'(by have := HL.out; omega), by simp⟩
        obtain ⟨g, hg⟩ : ∃ g, gs[i]? = some g := ⟨gs[i]'(by have := HL.out; have := R.out.len; omega), by simp⟩
        obtain ⟨c0, c1⟩ := H3.out i x g hx hg
        have ht := Aside0.mk (blocksOf_take L i x hx)
        have hx4 := (R.out.size i x hx).1
        clear hx hg
        generalize blocksOf (L.take i) = n at *
        go_wp2_with fail
        go_roundw
        case measure => simp [intOf]; omega
        case rel => exact ⟨i + 1, by omega, by go_num, by rw [ht.out]; congr 1; omega, ⟨by trivial⟩⟩
      · have : i = len := by omega
        subst this
        go_wp2_with fail
        go_ret
        exact ⟨by unfold freeOf; rw [← hall.out]; rfl, BL.out⟩

set_option maxHeartbeats 1000000 in
set_option maxRecDepth 100000 in
theorem names_q {base : Nat} {w : World} {mb : Nat} {L : List Vol} {gs : List Nat} {v : Value} (r : RepQ base w mb L gs v) :
    Calls Tryd.prog 19 #[.pointer (some ⟨mb, 0, none⟩)] w fun e w' => ∃ u, e = .returned u ∧ w'.ownsRow w.heap.size 9 1 u L.length (names L) ∧ Below w.heap.size w w' := by
  have cm : w.cell? ⟨mb, 0, none⟩ = some v := (blk_cell r.m 0).trans rfl
  have BL := Aside0.mk (Below.refl w.heap.size w)
  rcases r.slice with ⟨A, cap, rfl, rfl⟩ | ⟨ga, cap, rfl, h1, h2, h3⟩
  · clear r
    go_enter Tryd.func19, Tryd.ntmps19
    go_wp2_with fail
    go_loopw [3, 4] (fun n i wr => n = .slice none 0 0 ∧ i = .int .i64 0 ∧ Aside0 (wr = w)) (fun _ _ _ => 0)
    case atStart => exact ⟨rfl, rfl, ⟨rfl⟩⟩
    case round =>
      obtain ⟨rfl, rfl, HW⟩ := hrel
      obtain rfl := HW.out
      go_wp2_with fail
      go_ret
      exact ⟨_, rfl, World.ownsRow_nil _ _ _ _, BL.out⟩
  · have R := Aside0.mk r
    have H3 := Aside0.mk h3
    have hf := r.few
    have hall : Aside0 (names (L.take L.length) = names L) := ⟨by rw [List.take_length]⟩
    have CM := Aside0.mk cm
    clear r h3 cm
    generalize hlen : L.length = len at *
    have HL := Aside0.mk hlen
    clear hlen
    obtain ⟨i9, hi9, hz, hsz, hby⟩ := info_parts info9
    have I9 := Aside0.mk hi9
    have Z9 := Aside0.mk hz
    have S9 := Aside0.mk hsz
    have Y9 := Aside0.mk hby
    clear hi9 hz hsz hby
    go_enter Tryd.func19, Tryd.ntmps19
    go_wp2_with fail
    go_loopw [3, 4] (fun n iv wr => ∃ i : Nat, i ≤ len ∧ iv = .int .i64 i ∧ Aside0 (wr.ownsRow w.heap.size 9 1 n i (names (L.take i))) ∧ Aside0 (Below w.heap.size w wr)) (fun _ iv _ => len - (intOf iv).toNat)
    case atStart => exact ⟨0, by omega, rfl, ⟨World.ownsRow_nil _ _ _ _⟩, BL⟩
    case round =>
      clear BL
      obtain ⟨i, hi, rfl, OW, BL⟩ := hrel
      have cm := pw_cell_below BL.out CM.out
      by_cases hlt : i < len
      · obtain ⟨x, hx⟩ : ∃ x, L[i]? = some x := ⟨L[i]'(by have := HL.out; omega), by simp⟩
        obtain ⟨g, hg⟩ : ∃ g, gs[i]? = some g := ⟨gs[i]'(by have := HL.out; have := R.out.len; omega), by simp⟩
        obtain ⟨k1, k2⟩ := H3.out i x g hx hg
        have c0 := pw_cell_below BL.out k1
        have c1 := pw_cell_below BL.out k2
        have ht := Aside0.mk (names_take L i x hx)
        clear k1 k2 hx hg
        have T2 := Aside0.mk (blk_new wr (.cells #[.string x.name] 9 (0, 0)))
        have BL2 := Aside0.mk (below_alloc BL.out (.cells #[.string x.name] 9 (0, 0)))
        go_wp2_with (at_builtin; apply stop)
        unfold Stop
        refine wpList_append_own _ rfl (.tmp 14) (.tmp 23) 49 rfl w.heap.size 9 i9 _ 1 16 Tryd.underlying49 I9.out Z9.out S9.out Y9.out rfl (by decide) _ i (names (L.take i)) rfl (OW.out.alloc _) ⟨wr.heap.size, 0, none⟩ 1 1 [.string x.name] rfl rfl ?_ ?_ ?_ ?_ ?_ ?_
        · intro j u hu
          have hj : j < 1 := by have := (List.getElem?_eq_some_iff.1 hu).1; simpa using this
          rw [Addr.add_mid, cell_of_row _ _ _ _ 9 (0, 0) T2.out]
          simpa using hu
        · intro u hu
          simp at hu
          subst hu
          rfl
        · unfold maxLen; omega
        · omega
        · exact BL2.out.size
        intro v' w1 own' grow' _
        go_wp2_with fail
        go_roundw
        case measure => simp [intOf]; omega
        case rel => exact ⟨i + 1, by omega, by go_num, ⟨by rw [ht.out]; exact own'⟩, ⟨BL2.out.grown grow' BL2.out.size (fun k hk => (OW.out.lt k hk).1)⟩⟩
      · have : i = len := by omega
        subst this
        go_wp2_with fail
        go_ret
        exact ⟨_, rfl, by rw [← hall.out]; exact OW.out, BL.out⟩

def atFst (L : List Vol) (name : ByteArray) (at_ : Int) : Int := if atRes L name at_ = 0 then ix L name else 0
set_option maxHeartbeats 1000000 in
set_option maxRecDepth 100000 in
theorem at_q {base : Nat} {w : World} {mb : Nat} {L : List Vol} {gs : List Nat} {v : Value} (r : RepQ base w mb L gs v) (name : ByteArray) (at_ : Int) :
    Calls Tryd.prog 14 #[.pointer (some ⟨mb, 0, none⟩), .string name, .int .i64 at_] w fun e w' => e = .returned (.tuple #[.int .i64 (atFst L name at_), .int .i64 (atRes L name at_)]) ∧ Below w.heap.size w w' := by
  have HF := Aside0.mk (find_any r name)
  have CM := Aside0.mk (show w.cell? ⟨mb, 0, none⟩ = some v from (blk_cell r.m 0).trans rfl)
  by_cases hi : ix L name < 0
  · have e1 : Aside0 (atRes L name at_ = 16) := ⟨by unfold atRes; rw [if_pos hi]⟩
    have e2 : Aside0 (atFst L name at_ = 0) := ⟨by unfold atFst; rw [e1.out]; rfl⟩
    generalize ix L name = i at *
    clear r
    go_enter Tryd.func14, Tryd.ntmps14
    go_wp2_with fail
    refine HF.out.mono ?_
    rintro e w1 ⟨rfl, hb⟩
    go_wp2
    go_ret2
    exact ⟨by rw [e1.out, e2.out]; rfl, hb⟩
  · obtain ⟨i, hi'⟩ := Int.eq_ofNat_of_zero_le (show 0 ≤ ix L name by omega)
    have hil : i < L.length := by have := ix_lt L name; omega
    have hx : L[i]? = some (volOf L name) := by unfold volOf; simp [hi', hil]
    obtain ⟨g, hg⟩ : ∃ g, gs[i]? = some g := ⟨gs[i]'(by rw [r.len]; exact hil), by simp⟩
    have h4 := (r.size i _ hx).1
    have hf := r.few
    rw [hi'] at HF
    rcases r.slice with ⟨A, cap, rfl, rfl⟩ | ⟨ga, cap, rfl, h1, h2, h3⟩
    · simp at hil
    obtain ⟨_, k2⟩ := h3 i _ _ hx hg
    have k2 := Aside0.mk k2
    have e0 : Aside0 (atRes L name at_ = if at_ < 0 ∨ ((volOf L name).blocks.length : Int) ≤ at_ then 17 else 0) := ⟨by unfold atRes; rw [if_neg hi]⟩
    have eF : Aside0 (atFst L name at_ = if at_ < 0 ∨ ((volOf L name).blocks.length : Int) ≤ at_ then 0 else (i : Int)) := ⟨by
      unfold atFst
      rw [e0.out]
      split
      · rw [if_neg (by decide)]
      · rw [if_pos rfl, hi']⟩
    clear r h3 hx hi hi' hg
    generalize atRes L name at_ = a0 at *
    generalize atFst L name at_ = f0 at *
    generalize (volOf L name).blocks.length = n at *
    generalize hlen : L.length = len at *
    clear hlen
    by_cases p0 : at_ < 0
    · rw [if_pos (.inl p0)] at e0 eF
      go_enter Tryd.func14, Tryd.ntmps14
      go_wp2_with fail
      refine HF.out.mono ?_
      rintro e w1 ⟨rfl, hb⟩
      go_wp2
      go_ret2
      exact ⟨by rw [e0.out, eF.out]; rfl, hb⟩
    · by_cases p1 : (n : Int) ≤ at_
      · rw [if_pos (.inr p1)] at e0 eF
        go_enter Tryd.func14, Tryd.ntmps14
        go_wp2_with fail
        refine HF.out.mono ?_
        rintro e w1 ⟨rfl, hb⟩
        have c0 := pw_cell_below hb CM.out
        have c1 := pw_cell_below hb k2.out
        have HB := Aside0.mk hb
        clear hb
        go_wp2
        go_ret2
        exact ⟨by rw [e0.out, eF.out]; rfl, HB.out⟩
      · rw [if_neg (by omega)] at e0 eF
        go_enter Tryd.func14, Tryd.ntmps14
        go_wp2_with fail
        refine HF.out.mono ?_
        rintro e w1 ⟨rfl, hb⟩
        have c0 := pw_cell_below hb CM.out
        have c1 := pw_cell_below hb k2.out
        have HB := Aside0.mk hb
        clear hb
        go_wp2
        go_ret2
        exact ⟨by rw [e0.out, eF.out]; rfl, HB.out⟩

end Go.Proofs.YtkppnamblmaokaaDoor.RefB

namespace Go.Proofs.YtkppnamblmaokaaDoor.RefC
open Go.RowKit Go.Lib Go.Proofs.YtkppnamblmaokaaDoorW.PrintWords Go.Proofs.YtkppnamblmaokaaDoorW.PrintLast Go.Proofs.YtkppnamblmaokaaDoorW.PrintMore Go.Proofs.YtkppnamblmaokaaDoor.ModA Go.Proofs.YtkppnamblmaokaaDoor.ModB Go.Proofs.YtkppnamblmaokaaDoor.ModC Go.Proofs.YtkppnamblmaokaaDoor.ModD Go.Proofs.YtkppnamblmaokaaDoor.ModE Go.Proofs.YtkppnamblmaokaaDoor.ModF Go.Proofs.YtkppnamblmaokaaDoor.ModG Go.Proofs.YtkppnamblmaokaaDoor.ModH Go.Proofs.YtkppnamblmaokaaDoor.ModI Go.Proofs.YtkppnamblmaokaaDoor.ModJ Go.Proofs.YtkppnamblmaokaaDoor.ModK Go.Proofs.YtkppnamblmaokaaDoor.ModL Go.Proofs.YtkppnamblmaokaaDoor.ModN Go.Proofs.YtkppnamblmaokaaDoor.ModO Go.Proofs.YtkppnamblmaokaaDoor.ModP Go.Proofs.YtkppnamblmaokaaDoor.ModQ Go.Proofs.YtkppnamblmaokaaDoor.ModR Go.Proofs.YtkppnamblmaokaaDoor.ModS Go.Proofs.YtkppnamblmaokaaDoor.ModT Go.Proofs.YtkppnamblmaokaaDoor.RefA Go.Proofs.YtkppnamblmaokaaDoor.RefB
set_option linter.unusedVariables false
set_option linter.unusedSimpArgs false

theorem low_iff (c : UInt8) : lowB c = true ↔ 97 ≤ (c.toNat : Int) ∧ (c.toNat : Int) ≤ 122 := by
  unfold lowB
  rw [Bool.and_eq_true, decide_eq_true_iff, decide_eq_true_iff, UInt8.le_iff_toNat_le, UInt8.le_iff_toNat_le]
  simp
  omega
theorem all_take_succ (s : ByteArray) (k : Nat) (h : k < s.size) : (s.data.toList.take (k + 1)).all lowB = ((s.data.toList.take k).all lowB && lowB s[k]) := by
  have e : s.data.toList[k]? = some s[k] := by
    rw [List.getElem?_eq_getElem (by simpa using h)]
    rfl
  rw [List.take_add_one, e]
  simp
theorem bad_at (s : ByteArray) (k : Nat) (h : k < s.size) (hb : lowB s[k] = false) : refGood s = false := by
  unfold refGood
  have : s.data.toList.all lowB = false := by
    rw [List.all_eq_false]
    exact ⟨s[k], by
      have : s[k] = s.data.toList[k]'(by simpa using h) := rfl
      rw [this]
      exact List.getElem_mem _, by simp [hb]⟩
  rw [this, Bool.and_false]
theorem good_all (s : ByteArray) (h1 : 1 ≤ s.size) (h4 : s.size ≤ 4) (h : (s.data.toList.take s.size).all lowB = true) : refGood s = true := by
  unfold refGood
  have e : s.data.toList.take s.size = s.data.toList := List.take_of_length_le (by simp)
  rw [e] at h
  simp [h1, h4, h]

set_option maxHeartbeats 2000000 in
set_option maxRecDepth 100000 in
theorem good_q (s : ByteArray) (g : Nat) (w : World) (hc : w.cell? ⟨g, 0, none⟩ = some (.string s)) :
    Calls Tryd.prog 30 #[.slice (some ⟨g, 0, none⟩) 1 1] w fun e w' => e = .returned (.bool (refGood s)) ∧ Below w.heap.size w w' := by
  have BL := Aside0.mk (Below.refl w.heap.size w)
  by_cases h1 : s.size < 1
  · have HF : Aside0 (refGood s = false) := ⟨by unfold refGood; rw [decide_eq_false (by omega)]; rfl⟩
    go_enter Tryd.func30, Tryd.ntmps30
    go_wp2_with fail
    go_loop [3] (fun iv => iv = .int .i64 0) (fun _ => 0)
    case atStart => rfl
    case round =>
      obtain rfl := hrel
      go_wp2_with fail
      go_ret
      exact ⟨by rw [HF.out]; rfl, BL.out⟩
  · by_cases h4 : 4 < s.size
    · have HF : Aside0 (refGood s = false) := ⟨by unfold refGood; rw [decide_eq_false (show ¬ s.size ≤ 4 by omega)]; simp⟩
      go_enter Tryd.func30, Tryd.ntmps30
      go_wp2_with fail
      go_loop [3] (fun iv => iv = .int .i64 0) (fun _ => 0)
      case atStart => rfl
      case round =>
        obtain rfl := hrel
        go_wp2_with fail
        go_ret
        exact ⟨by rw [HF.out]; rfl, BL.out⟩
    · have HB := Aside0.mk (bad_at s)
      have HG := Aside0.mk (good_all s (by omega) (by omega))
      have HT := Aside0.mk (all_take_succ s)
      go_enter Tryd.func30, Tryd.ntmps30
      go_wp2_with fail
      go_loop [3] (fun iv => ∃ i : Nat, i ≤ 1 ∧ iv = .int .i64 i ∧ Aside0 (i = 1 → refGood s = true)) (fun iv => 1 - (RowKit.intOf iv).toNat)
      case atStart => exact ⟨0, by omega, rfl, ⟨fun h => by cases h⟩⟩
      case round =>
        obtain ⟨i, hi, rfl, HI⟩ := hrel
        by_cases h0 : i = 0
        · subst h0
          clear HI
          go_wp2_with fail
          go_loop [4] (fun kv => ∃ k : Nat, k ≤ s.size ∧ kv = .int .i64 k ∧ Aside0 ((s.data.toList.take k).all lowB = true)) (fun kv => s.size - (RowKit.intOf kv).toNat)
          case atStart => exact ⟨0, by omega, rfl, ⟨rfl⟩⟩
          case round =>
            obtain ⟨k, hk, rfl, HK⟩ := hrel
            by_cases hlt : k < s.size
            · have hlow := low_iff s[k]
              have hbyte : ((s[k]).toNat : Int) < 256 := by have := (s[k]).toNat_lt; omega
              have LOW := Aside0.mk hlow
              clear hlow
              cases hb : lowB s[k]
              · have HF := Aside0.mk (HB.out k hlt hb)
                have HN : Aside0 (¬ (97 ≤ ((s[k]).toNat : Int) ∧ ((s[k]).toNat : Int) ≤ 122)) := ⟨fun h => by rw [LOW.out.2 h] at hb; cases hb⟩
                clear hb LOW
                by_cases q1 : ((s[k]).toNat : Int) < 97
                · go_wp2_with fail
                  go_ret
                  exact ⟨by rw [HF.out]; rfl, BL.out⟩
                · have q2 : ((s[k]).toNat : Int) > 122 := by have := HN.out; omega
                  go_wp2_with fail
                  go_ret
                  exact ⟨by rw [HF.out]; rfl, BL.out⟩
              · have HN := Aside0.mk (LOW.out.1 hb)
                have HK2 : Aside0 ((s.data.toList.take (k + 1)).all lowB = true) := ⟨by rw [HT.out k hlt, HK.out, hb]; rfl⟩
                have q1 : ¬ (((s[k]).toNat : Int) < 97) := by have := HN.out; omega
                have q2 : ¬ (((s[k]).toNat : Int) > 122) := by have := HN.out; omega
                clear hb LOW HN
                go_wp2_with fail
                go_round
                case measure => simp [RowKit.intOf]; omega
                case rel => exact ⟨k + 1, by omega, by go_num, HK2⟩
            · have e : k = s.size := by omega
              subst e
              have HR := Aside0.mk (HG.out HK.out)
              go_wp2_with fail
              go_round
              case measure => simp [RowKit.intOf]
              case rel => exact ⟨1, by omega, by go_num, ⟨fun _ => HR.out⟩⟩
        · have e : i = 1 := by omega
          subst e
          have HR := Aside0.mk (HI.out rfl)
          go_wp2_with fail
          go_ret
          exact ⟨by rw [HR.out]; rfl, BL.out⟩

theorem letters_low : ∀ n, n < 256 → (letters.contains (UInt8.ofNat n)) = lowB (UInt8.ofNat n) := by decide +kernel
theorem letters_iff (c : UInt8) : letters.contains c = lowB c := by
  have := letters_low c.toNat (c.toNat_lt)
  simpa using this
theorem dw_nil {α : Type} (p : α → Bool) : ∀ l : List α, l.dropWhile p = [] ↔ ∀ x ∈ l, p x = true
  | [] => by simp
  | a :: r => by
    have ih := dw_nil p r
    rw [List.dropWhile_cons]
    cases h : p a
    · simp [h]
    · simp [h, ih]
theorem trim_nil (l cs : List UInt8) : (Lib.trimS l cs = []) ↔ ∀ b ∈ l, cs.contains b = true := by
  unfold Lib.trimS Lib.trimLeftS Lib.trimRightS
  rw [dw_nil]
  constructor
  · intro h
    have hd : l.reverse.dropWhile (cs.contains ·) = [] := by
      cases hc : l.reverse.dropWhile (cs.contains ·) with
      | nil => rfl
      | cons x r =>
        have h1 := h x (by rw [hc]; simp)
        have h2 := List.head?_dropWhile_not (cs.contains ·) l.reverse
        rw [hc] at h2
        simp at h2 h1
        exact absurd h1 h2
    rw [dw_nil] at hd
    intro b hb
    exact hd b (by simpa using hb)
  · intro h x hx
    have hd : l.reverse.dropWhile (cs.contains ·) = [] := by
      rw [dw_nil]
      intro b hb
      exact h b (by simpa using hb)
    rw [hd] at hx
    simp at hx
theorem good_eq (s : ByteArray) : refGood s = goodName s := by
  have et : (ModH.trimmed s).toList.isEmpty = s.data.toList.all lowB := by
    rw [Bool.eq_iff_iff]
    have e : (ModH.trimmed s).toList = Lib.trimS s.data.toList letters := by rw [toList_data]; rfl
    rw [e, List.isEmpty_iff, trim_nil, List.all_eq_true]
    constructor
    · intro h b hb
      rw [← letters_iff]; exact h b hb
    · intro h b hb
      rw [letters_iff]; exact h b hb
  have e1 : (!s.toList.isEmpty) = decide (1 ≤ s.size) := by
    rw [toList_data]
    rw [Lib.size_eq s]
    generalize s.data.toList = l
    cases l <;> simp
  unfold refGood goodName
  rw [et, e1, Bool.and_assoc]

end Go.Proofs.YtkppnamblmaokaaDoor.RefC

namespace Go.Proofs.YtkppnamblmaokaaDoor.RefD
open Go.RowKit Go.Proofs.YtkppnamblmaokaaDoorW.PrintWords Go.Proofs.YtkppnamblmaokaaDoorW.PrintLast Go.Proofs.YtkppnamblmaokaaDoorW.PrintMore Go.Proofs.YtkppnamblmaokaaDoor.ModA Go.Proofs.YtkppnamblmaokaaDoor.ModB Go.Proofs.YtkppnamblmaokaaDoor.ModC Go.Proofs.YtkppnamblmaokaaDoor.ModD Go.Proofs.YtkppnamblmaokaaDoor.ModE Go.Proofs.YtkppnamblmaokaaDoor.ModF Go.Proofs.YtkppnamblmaokaaDoor.ModG Go.Proofs.YtkppnamblmaokaaDoor.ModH Go.Proofs.YtkppnamblmaokaaDoor.ModI Go.Proofs.YtkppnamblmaokaaDoor.ModJ Go.Proofs.YtkppnamblmaokaaDoor.ModK Go.Proofs.YtkppnamblmaokaaDoor.ModL Go.Proofs.YtkppnamblmaokaaDoor.ModN Go.Proofs.YtkppnamblmaokaaDoor.ModO Go.Proofs.YtkppnamblmaokaaDoor.ModP Go.Proofs.YtkppnamblmaokaaDoor.ModQ Go.Proofs.YtkppnamblmaokaaDoor.ModR Go.Proofs.YtkppnamblmaokaaDoor.ModS Go.Proofs.YtkppnamblmaokaaDoor.ModT Go.Proofs.YtkppnamblmaokaaDoor.RefA Go.Proofs.YtkppnamblmaokaaDoor.RefB Go.Proofs.YtkppnamblmaokaaDoor.RefC
set_option linter.unusedVariables false
set_option linter.unusedSimpArgs false

theorem info45 : (Tryd.prog.info? 45).map (fun i => (i.zero, i.size, i.bytes)) = some (some (.agg #[.string ByteArray.empty, .slice none 0 0]), 2, 40) := by kernel_rfl
section
variable {P : Program} {w : World}
theorem run_app_nil (base : Nat) (t ty e : TypeId) (i : TypeInfo) (size : Nat) (ht : P.underlying t = some (.slice e)) (hi : P.info? e = some i)
    (v : Value) (n : Nat) (xs : List Value) (hown : w.ownsRow base e size v n xs) (c : Nat) : (Builtin.append_ #[t, t] ty #[v, .slice none 0 c]).run P w = .ok v w := by
  rcases hown.2 with ⟨rfl, rfl⟩ | ⟨g, cap, cur, rfl, _, _, hnc, _⟩
  · simp [Builtin.append_, run_underlying ht, sizeOf, typeInfo, hi, Builtin.lenOf, Builtin.firstCells]
  · simp [Builtin.append_, run_underlying ht, sizeOf, typeInfo, hi, Builtin.lenOf, Builtin.firstCells, hnc, storeCells]
/-- append of a row, nil let in, onto a row of the call's own. -/
theorem wp_app_src {o : Oper} {a : Act} {K : Act → World → Prop} {Q : Exit → Act → World → Prop} (s x : Operand) (t : TypeId)
    (ho : o.op = .call { callee := .builtin .append, args := #[s, x], argTypes := #[t, t] })
    (base : Nat) (e : TypeId) (i : TypeInfo) (z : Value) (size bytes : Nat) (ht : P.underlying t = some (.slice e)) (hi : P.info? e = some i) (hz : i.zero = some z)
    (hsize : i.size = size) (hby : i.bytes = bytes) (hzs : z.cells.size = size) (hsz : 0 < size)
    (v : Value) (n : Nat) (xs : List Value) (hs : a.eval s = v) (hown : w.ownsRow base e size v n xs)
    (A : Option Addr) (m c : Nat) (news : List Value) (hx : a.eval x = .slice A m c) (hl : news.length = m * size) (hsrc : 0 < m → ∃ ad, A = some ad ∧ ∀ j u, news[j]? = some u → w.cell? (ad.add j) = some u) (h1 : ∀ u ∈ news, u.oneCell' = true)
    (h63 : n + m ≤ maxLen) (hbytes : (n + m) * bytes ≤ 140737488355328) (hbase : base ≤ w.heap.size)
    (h : ∀ v' w', w'.ownsRow base e size v' (n + m) (xs ++ news) → w.grownBy w' v.ownBlock → (v'.ownBlock = v.ownBlock ∨ v'.ownBlock = some w.heap.size) → K (a.put o.dst v') w') : o.wp P a w K Q := by
  rcases A with _ | ad
  · have hm : m = 0 := by
      rcases Nat.eq_zero_or_pos m with h0 | h0
      · exact h0
      · obtain ⟨ad, h, _⟩ := hsrc h0
        cases h
    subst hm
    have hn : news = [] := List.eq_nil_of_length_eq_zero (by simpa using hl)
    subst hn
    have hrun := run_app_nil (P := P) (w := w) base t o.type e i size ht hi v n xs hown c
    unfold Oper.wp execOp
    simp only [ho, resolve, invoke, builtin, Sem.run_bind, Sem.run_pure, Result.andThen_ok, List.map_toArray, List.map_cons, List.map_nil, hs, hx, hrun]
    exact h v w (by simpa using hown) (World.grownBy.refl w _) (.inl rfl)
  · have hcells : ∀ j u, news[j]? = some u → w.cell? (ad.add j) = some u := by
      intro j u hu
      rcases Nat.eq_zero_or_pos m with h0 | h0
      · subst h0
        have hn : news = [] := List.eq_nil_of_length_eq_zero (by simpa using hl)
        subst hn
        simp at hu
      · obtain ⟨ad', h, hc⟩ := hsrc h0
        injection h with h
        subst h
        exact hc j u hu
    obtain ⟨v', w', hr, h2, h3, _, h5⟩ := run_append_own_at (P := P) w base t o.type e i z size bytes ht hi hz hsize hby hzs hsz v n xs hown ad m c news hl hcells h1 h63 hbytes hbase
    unfold Oper.wp execOp
    simp only [ho, resolve, invoke, builtin, Sem.run_bind, Sem.run_pure, Result.andThen_ok, List.map_toArray, List.map_cons, List.map_nil, hs, hx, hr]
    exact h v' w' h2 h3 h5
end
theorem own_empty {w : World} {base : Nat} (h : base ≤ w.heap.size) : (w.alloc (.cells #[] 45 (0, 0))).ownsRow base 45 2 (.slice (some ⟨w.heap.size, 0, none⟩) 0 0) 0 [] :=
  ⟨rfl, .inr ⟨w.heap.size, 0, #[], rfl, h, blk_new w _, by omega, by unfold maxLen; omega, rfl, rfl⟩⟩
theorem own_src {w : World} {base e size : Nat} {A : Option Addr} {n cap : Nat} {xs : List Value} (h : w.ownsRow base e size (.slice A n cap) n xs) : 0 < n → ∃ ad, A = some ad ∧ ∀ j u, xs[j]? = some u → w.cell? (ad.add j) = some u := by
  intro hn
  have hc := fun g (hg : Value.ownBlock (.slice A n cap) = some g) => h.cells hg
  rcases h.2 with ⟨e1, e2⟩ | ⟨g, c, cur, e1, _⟩
  · omega
  · injection e1 with e1 _ _
    subst e1
    exact ⟨_, rfl, hc g rfl⟩
theorem volCells_len : ∀ (L : List Vol) (gs : List Nat), gs.length = L.length → (volCells L gs).length = L.length * 2
  | [], _, _ => by simp [volCells]
  | u :: L, g :: gs, h => by
    have := volCells_len L gs (by simpa using h)
    simp only [volCells, List.length_append, this, Vol.cells, List.length_cons, List.length_nil]
    omega
  | _ :: _, [], h => by simp at h
theorem volCells_one : ∀ (L : List Vol) (gs : List Nat), ∀ u ∈ volCells L gs, u.oneCell' = true
  | [], _ => by simp [volCells]
  | _ :: _, [] => by simp [volCells]
  | x :: L, g :: gs => by
    intro u hu
    simp only [volCells, List.mem_append, Vol.cells, List.mem_cons, List.not_mem_nil, or_false] at hu
    rcases hu with (rfl | rfl) | hu
    · rfl
    · rfl
    · exact volCells_one L gs u hu
theorem volCells_take : ∀ (L : List Vol) (gs : List Nat) (i : Nat), gs.length = L.length → (volCells L gs).take (i * 2) = volCells (L.take i) (gs.take i)
  | [], _, i, _ => by simp [volCells]
  | u :: L, g :: gs, 0, _ => by simp [volCells]
  | u :: L, g :: gs, i + 1, h => by
    have := volCells_take L gs i (by simpa using h)
    have e : (i + 1) * 2 = i * 2 + 2 := by omega
    rw [e]
    simp [volCells, Vol.cells, this]
  | _ :: _, [], _, h => by simp at h
theorem volCells_drop : ∀ (L : List Vol) (gs : List Nat) (i : Nat), gs.length = L.length → (volCells L gs).drop (i * 2) = volCells (L.drop i) (gs.drop i)
  | [], _, i, _ => by simp [volCells]
  | u :: L, g :: gs, 0, _ => by simp
  | u :: L, g :: gs, i + 1, h => by
    have := volCells_drop L gs i (by simpa using h)
    have e : (i + 1) * 2 = i * 2 + 2 := by omega
    rw [e]
    simp [volCells, Vol.cells, this]
  | _ :: _, [], _, h => by simp at h
theorem volCells_append : ∀ (L : List Vol) (gs : List Nat) (L2 : List Vol) (gs2 : List Nat), gs.length = L.length → volCells (L ++ L2) (gs ++ gs2) = volCells L gs ++ volCells L2 gs2
  | [], [], L2, gs2, _ => by simp [volCells]
  | u :: L, g :: gs, L2, gs2, h => by
    simp only [List.cons_append, volCells]
    rw [volCells_append L gs L2 gs2 (by simpa using h), List.append_assoc]
  | [], _ :: _, _, _, h => by simp at h
  | _ :: _, [], _, _, h => by simp at h
/-- The list stored anew: its row is new, its blocks are those that were, or new ones. -/
theorem repq_fresh {base : Nat} {w w7 : World} {mb : Nat} {L L' : List Vol} {gs gs' : List Nat} {v v' : Value} (r : RepQ base w mb L gs v) (BL : Below w.heap.size w w7)
    (own : w7.ownsRow w.heap.size 45 2 v' L'.length (volCells L' gs')) (hlen : gs'.length = L'.length)
    (hblk : ∀ (i : Nat) (x : Vol) (g : Nat), L'[i]? = some x → gs'[i]? = some g → base ≤ g ∧ w7.heap[g]? = some (.cells (blkCells x.blocks).toArray 32 (0, 0)))
    (hsize : ∀ (i : Nat) (x : Vol), L'[i]? = some x → x.blocks.length ≤ 4 ∧ ∀ b ∈ x.blocks, b.length = 32) (few : L'.length ≤ 3) (nodup : gs'.Nodup) (hgs : ∀ g ∈ gs', g ∈ gs ∨ w.heap.size ≤ g) :
    RepQ base (w7.setCell ⟨mb, 0, none⟩ v') mb L' gs' v' ∧ Moves (foot mb gs v) (foot mb gs' v') w (w7.setCell ⟨mb, 0, none⟩ v') := by
  have M7 : w7.heap[mb]? = some (.cells #[v] 30 (0, 0)) := blk_below r.m BL
  have mbl : mb < w.heap.size := blk_lt r.m
  have gsl : ∀ g ∈ gs, g < w.heap.size := fun g hg => repq_foot_lt r g (by simp [foot, hg])
  have owng : ∀ g, v'.ownBlock = some g → w.heap.size ≤ g := fun g hg => (own.lt g hg).1
  have far : ∀ j, j ≠ mb → (w7.setCell ⟨mb, 0, none⟩ v').heap[j]? = w7.heap[j]? := fun j hj => Below.heap_setCell w7 ⟨mb, 0, none⟩ _ j hj
  have nmb : mb ∉ gs' := fun h => by
    rcases hgs mb h with h | h
    · exact r.mb1 h
    · omega
  refine ⟨⟨r.ge, blk_put M7 0 _ rfl, ?_, hlen, fun i x g h1 h2 => ?_, hsize, few, nodup, nmb, fun h => by have := owng mb h; omega, fun g hg h => ?_⟩, ⟨BL.os, BL.tape, BL.output, ?_, fun j hj hn => ?_⟩, fun j hj => ?_⟩
  · rcases own.2 with h1 | ⟨g7, cap7, cur7, e7, hb7, hh7, q1, q2, q3, q4⟩
    · exact ⟨own.1, .inl h1⟩
    · exact ⟨own.1, .inr ⟨g7, cap7, cur7, e7, by have := r.ge; omega, (far g7 (by omega)).trans hh7, q1, q2, q3, q4⟩⟩
  · obtain ⟨k1, k2⟩ := hblk i x g h1 h2
    exact ⟨k1, (far g (by rintro rfl; exact nmb (List.mem_of_getElem? h2))).trans k2⟩
  · rcases own.2 with ⟨h1, _⟩ | ⟨g7, cap7, cur7, e7, hb7, hh7, _⟩
    · rw [h1] at h; cases h
    · rw [e7] at h
      injection h with h
      obtain ⟨i, hi, rfl⟩ := List.mem_iff_getElem.1 hg
      have k2 := (hblk i (L'[i]'(by omega)) gs'[i] (by simp) (by simp [hi])).2
      exact blk_ne hh7 k2 (by decide) h
  · have := BL.size
    simp [World.setCell]
    omega
  · simp only [foot, List.mem_cons, List.mem_append, Option.mem_toList, not_or] at hn
    rw [far j hn.1, BL.block j hj]
  · simp only [foot, List.mem_cons, List.mem_append, Option.mem_toList] at hj
    rcases hj with rfl | hj | hj
    · exact .inl (by simp [foot])
    · rcases hgs j hj with h | h
      · exact .inl (by simp [foot, h])
      · exact .inr h
    · exact .inr (owng j hj)

end Go.Proofs.YtkppnamblmaokaaDoor.RefD

namespace Go.Proofs.YtkppnamblmaokaaDoor.RefE
open Go.RowKit Go.Proofs.YtkppnamblmaokaaDoorW.PrintWords Go.Proofs.YtkppnamblmaokaaDoorW.PrintLast Go.Proofs.YtkppnamblmaokaaDoorW.PrintMore Go.Proofs.YtkppnamblmaokaaDoor.ModA Go.Proofs.YtkppnamblmaokaaDoor.ModB Go.Proofs.YtkppnamblmaokaaDoor.ModC Go.Proofs.YtkppnamblmaokaaDoor.ModD Go.Proofs.YtkppnamblmaokaaDoor.ModE Go.Proofs.YtkppnamblmaokaaDoor.ModF Go.Proofs.YtkppnamblmaokaaDoor.ModG Go.Proofs.YtkppnamblmaokaaDoor.ModH Go.Proofs.YtkppnamblmaokaaDoor.ModI Go.Proofs.YtkppnamblmaokaaDoor.ModJ Go.Proofs.YtkppnamblmaokaaDoor.ModK Go.Proofs.YtkppnamblmaokaaDoor.ModL Go.Proofs.YtkppnamblmaokaaDoor.ModN Go.Proofs.YtkppnamblmaokaaDoor.ModO Go.Proofs.YtkppnamblmaokaaDoor.ModP Go.Proofs.YtkppnamblmaokaaDoor.ModQ Go.Proofs.YtkppnamblmaokaaDoor.ModR Go.Proofs.YtkppnamblmaokaaDoor.ModS Go.Proofs.YtkppnamblmaokaaDoor.ModT Go.Proofs.YtkppnamblmaokaaDoor.RefA Go.Proofs.YtkppnamblmaokaaDoor.RefB Go.Proofs.YtkppnamblmaokaaDoor.RefC Go.Proofs.YtkppnamblmaokaaDoor.RefD
set_option linter.unusedVariables false
set_option linter.unusedSimpArgs false

theorem makeRes_ix (L : List Vol) (name : ByteArray) (n : Int) : makeRes L name n = if goodName name = false then 11 else if 0 ≤ ix L name then 16 else if n < 1 ∨ 4 < n then 17 else if 3 ≤ L.length ∨ freeOf L < n then 18 else 0 := rfl
theorem size_snoc {base : Nat} {w : World} {mb : Nat} {L : List Vol} {gs : List Nat} {v : Value} (r : RepQ base w mb L gs v) {name : ByteArray} {k : Nat} (hk : k ≤ 4) (i : Nat) (x : Vol) (h1 : (L ++ [newVol name k])[i]? = some x) : x.blocks.length ≤ 4 ∧ ∀ b ∈ x.blocks, b.length = 32 := by
  by_cases hi : i < L.length
  · rw [List.getElem?_append_left hi] at h1
    exact r.size i x h1
  · have hi' : i = L.length := by have := (List.getElem?_eq_some_iff.1 h1).1; simp at this; omega
    subst hi'
    rw [List.getElem?_append_right (by omega)] at h1
    simp at h1
    subst h1
    refine ⟨by simpa [newVol] using hk, fun b hb => ?_⟩
    rw [List.eq_of_mem_replicate hb]; rfl
theorem blk_snoc {base : Nat} {w w7 : World} {mb : Nat} {L : List Vol} {gs : List Nat} {v : Value} (r : RepQ base w mb L gs v) (BL : Below w.heap.size w w7) {name : ByteArray} {k G : Nat}
    (hG : w7.heap[G]? = some (.cells (blkCells (List.replicate k zero32)).toArray 32 (0, 0))) (hGE : w.heap.size ≤ G) (i : Nat) (x : Vol) (g : Nat) (h1 : (L ++ [newVol name k])[i]? = some x) (h2 : (gs ++ [G])[i]? = some g) : base ≤ g ∧ w7.heap[g]? = some (.cells (blkCells x.blocks).toArray 32 (0, 0)) := by
  by_cases hi : i < L.length
  · rw [List.getElem?_append_left hi] at h1
    rw [List.getElem?_append_left (by rw [r.len]; exact hi)] at h2
    exact ⟨(r.blk i x g h1 h2).1, blk_below (r.blk i x g h1 h2).2 BL⟩
  · have hi' : i = L.length := by have := (List.getElem?_eq_some_iff.1 h1).1; simp at this; omega
    subst hi'
    rw [List.getElem?_append_right (by omega)] at h1
    rw [List.getElem?_append_right (by rw [r.len]; omega)] at h2
    simp [r.len] at h1 h2
    subst h1 h2
    exact ⟨by have := r.ge; have := blk_lt r.m; omega, hG⟩
theorem nodup_snoc {base : Nat} {w : World} {mb : Nat} {L : List Vol} {gs : List Nat} {v : Value} (r : RepQ base w mb L gs v) {G : Nat} (hGE : w.heap.size ≤ G) : (gs ++ [G]).Nodup := by
  rw [List.nodup_append]
  refine ⟨r.nodup, by simp, fun a ha b hb => ?_⟩
  simp at hb
  subst hb
  have := repq_foot_lt r a (by simp [foot, ha])
  omega

set_option maxHeartbeats 2000000 in
set_option maxRecDepth 100000 in
theorem make_qerr {base : Nat} {w : World} {mb : Nat} {L : List Vol} {gs : List Nat} {v : Value} (r : RepQ base w mb L gs v) (name : ByteArray) (n : Int) (he : makeRes L name n ≠ 0) :
    Calls Tryd.prog 11 #[.pointer (some ⟨mb, 0, none⟩), .string name, .int .i64 n] w fun e w' => e = .returned (.int .i64 (makeRes L name n)) ∧ Below w.heap.size w w' := by
  have BL := Aside0.mk (below_alloc (Below.refl w.heap.size w) (.cells #[.string name] 9 (0, 0)))
  have BN := Aside0.mk (blk_new w (.cells #[.string name] 9 (0, 0)))
  have HG := Aside0.mk (good_q name w.heap.size (w.alloc (.cells #[.string name] 9 (0, 0))) ((blk_cell BN.out 0).trans rfl))
  have HI := Aside0.mk (fun w1 (R : RepQ base w1 mb L gs v) => find_any R name)
  have HFr := Aside0.mk (fun w1 (R : RepQ base w1 mb L gs v) => free_q R)
  have hsl : ∃ A cap, v = .slice A L.length cap := by
    rcases r.slice with ⟨A, cap, h1, h2⟩ | ⟨ga, cap, h1, _⟩
    · exact ⟨A, cap, by rw [h1, h2]; rfl⟩
    · exact ⟨_, cap, h1⟩
  obtain ⟨A, cap, hv⟩ := hsl
  have CM : Aside0 (∀ W, Below w.heap.size w W → W.cell? ⟨mb, 0, none⟩ = some (.slice A L.length cap)) := ⟨fun W hW => by
    have := (blk_cell (r.below hW).m 0).trans rfl
    rw [hv] at this
    exact this⟩
  have SRC : Aside0 (∀ W, Below w.heap.size w W → 0 < L.length → ∃ ad, A = some ad ∧ ∀ j u, (volCells L gs)[j]? = some u → W.cell? (ad.add j) = some u) := ⟨fun W hW => by
    have := (r.below hW).own
    rw [hv] at this
    exact own_src this⟩
  have RR := Aside0.mk r
  have VL := Aside0.mk (volCells_len L gs r.len)
  have GL := Aside0.mk r.len
  have hf := r.few
  rw [good_eq] at HG
  clear hv r
  cases hg : goodName name
  · rw [hg] at HG
    have HF : Aside0 (makeRes L name n = 11) := ⟨by simp [makeRes, hg]⟩
    clear hg he
    go_enter Tryd.func11, Tryd.ntmps11
    go_wp2_with fail
    refine HG.out.mono ?_
    rintro e w1 ⟨rfl, hb⟩
    go_wp2
    go_ret
    exact ⟨by rw [HF.out]; rfl, below_step BL.out hb⟩
  · rw [hg] at HG
    by_cases hi : 0 ≤ ix L name
    · have HF : Aside0 (makeRes L name n = 16) := ⟨by rw [makeRes_ix, if_neg (by simp [hg]), if_pos hi]⟩
      clear hg he
      generalize ix L name = i at *
      go_enter Tryd.func11, Tryd.ntmps11
      go_wp2_with fail
      refine HG.out.mono ?_
      rintro e w1 ⟨rfl, hb⟩
      have BL1 := Aside0.mk (below_step BL.out hb)
      clear hb
      go_wp2_with fail
      refine (HI.out w1 (RR.out.below BL1.out)).mono ?_
      rintro e w2 ⟨rfl, hb⟩
      have BL2 := Aside0.mk (below_step BL1.out hb)
      clear hb
      go_wp2_with fail
      go_ret
      exact ⟨by rw [HF.out]; rfl, BL2.out⟩
    · by_cases hn : n < 1 ∨ 4 < n
      · have HF : Aside0 (makeRes L name n = 17) := ⟨by rw [makeRes_ix, if_neg (by simp [hg]), if_neg hi, if_pos hn]⟩
        clear hg he
        generalize ix L name = i at *
        have hib : decide (0 ≤ i) = false := by simp; omega
        rcases hn with hn | hn
        all_goals
          go_enter Tryd.func11, Tryd.ntmps11
          go_wp2_with fail
          refine HG.out.mono ?_
          rintro e w1 ⟨rfl, hb⟩
          have BL1 := Aside0.mk (below_step BL.out hb)
          clear hb
          go_wp2_with fail
          refine (HI.out w1 (RR.out.below BL1.out)).mono ?_
          rintro e w2 ⟨rfl, hb⟩
          have BL2 := Aside0.mk (below_step BL1.out hb)
          clear hb
          go_wp2_with fail
          go_ret
          exact ⟨by rw [HF.out]; rfl, BL2.out⟩
      · have HF : Aside0 (makeRes L name n = 18) := ⟨by
          rw [makeRes_ix, if_neg (by simp [hg]), if_neg hi, if_neg hn] at he ⊢
          by_cases h18 : 3 ≤ L.length ∨ freeOf L < n
          · rw [if_pos h18]
          · rw [if_neg h18] at he; exact absurd rfl he⟩
        have h18 : 3 ≤ L.length ∨ freeOf L < n := by
          rw [makeRes_ix, if_neg (by simp [hg]), if_neg hi, if_neg hn] at he
          by_cases h18 : 3 ≤ L.length ∨ freeOf L < n
          · exact h18
          · rw [if_neg h18] at he; exact absurd rfl he
        clear hg he
        generalize ix L name = i at *
        generalize freeOf L = fr at *
        generalize L.length = len at *
        have hib : decide (0 ≤ i) = false := by simp; omega
        by_cases h3 : 3 ≤ len
        · go_enter Tryd.func11, Tryd.ntmps11
          go_wp2_with fail
          refine HG.out.mono ?_
          rintro e w1 ⟨rfl, hb⟩
          have BL1 := Aside0.mk (below_step BL.out hb)
          clear hb
          go_wp2_with fail
          refine (HI.out w1 (RR.out.below BL1.out)).mono ?_
          rintro e w2 ⟨rfl, hb⟩
          have BL2 := Aside0.mk (below_step BL1.out hb)
          have cm := CM.out _ BL2.out
          clear hb
          go_wp2_with fail
          go_ret
          exact ⟨by rw [HF.out]; rfl, BL2.out⟩
        · have hfr : fr < n := by omega
          go_enter Tryd.func11, Tryd.ntmps11
          go_wp2_with fail
          refine HG.out.mono ?_
          rintro e w1 ⟨rfl, hb⟩
          have BL1 := Aside0.mk (below_step BL.out hb)
          clear hb
          go_wp2_with fail
          refine (HI.out w1 (RR.out.below BL1.out)).mono ?_
          rintro e w2 ⟨rfl, hb⟩
          have BL2 := Aside0.mk (below_step BL1.out hb)
          have cm := CM.out _ BL2.out
          clear hb
          go_wp2_with fail
          refine (HFr.out w2 (RR.out.below BL2.out)).mono ?_
          rintro e w3 ⟨rfl, hb⟩
          have BL3 := Aside0.mk (below_step BL2.out hb)
          clear hb
          go_wp2_with fail
          go_ret
          exact ⟨by rw [HF.out]; rfl, BL3.out⟩

set_option maxHeartbeats 8000000 in
set_option maxRecDepth 100000 in
theorem make_qok {base : Nat} {w : World} {mb : Nat} {L : List Vol} {gs : List Nat} {v : Value} (r : RepQ base w mb L gs v) (name : ByteArray) (k : Nat)
    (hg : goodName name = true) (hi : ix L name < 0) (k1 : 1 ≤ k) (k4 : k ≤ 4) (h3 : L.length < 3) (hfree : (k : Int) ≤ freeOf L) :
    Calls Tryd.prog 11 #[.pointer (some ⟨mb, 0, none⟩), .string name, .int .i64 k] w fun e w' => e = .returned (.int .i64 0) ∧ ∃ gs' v', RepQ base w' mb (L ++ [newVol name k]) gs' v' ∧ Moves (foot mb gs v) (foot mb gs' v') w w' := by
  have BL := Aside0.mk (below_alloc (Below.refl w.heap.size w) (.cells #[.string name] 9 (0, 0)))
  have BN := Aside0.mk (blk_new w (.cells #[.string name] 9 (0, 0)))
  have HG := Aside0.mk (good_q name w.heap.size (w.alloc (.cells #[.string name] 9 (0, 0))) ((blk_cell BN.out 0).trans rfl))
  have HI := Aside0.mk (fun w1 (R : RepQ base w1 mb L gs v) => find_any R name)
  have HFr := Aside0.mk (fun w1 (R : RepQ base w1 mb L gs v) => free_q R)
  have hsl : ∃ A cap, v = .slice A L.length cap := by
    rcases r.slice with ⟨A, cap, h1, h2⟩ | ⟨ga, cap, h1, _⟩
    · exact ⟨A, cap, by rw [h1, h2]; rfl⟩
    · exact ⟨_, cap, h1⟩
  obtain ⟨A, cap, hv⟩ := hsl
  have CM : Aside0 (∀ W, Below w.heap.size w W → W.cell? ⟨mb, 0, none⟩ = some (.slice A L.length cap)) := ⟨fun W hW => by
    have := (blk_cell (r.below hW).m 0).trans rfl
    rw [hv] at this
    exact this⟩
  have SRC : Aside0 (∀ W, Below w.heap.size w W → 0 < L.length → ∃ ad, A = some ad ∧ ∀ j u, (volCells L gs)[j]? = some u → W.cell? (ad.add j) = some u) := ⟨fun W hW => by
    have := (r.below hW).own
    rw [hv] at this
    exact own_src this⟩
  have RR := Aside0.mk r
  have VL := Aside0.mk (volCells_len L gs r.len)
  have GL := Aside0.mk r.len
  have hf := r.few
  rw [good_eq] at HG
  clear hv r
  rw [hg] at HG
  clear hg
  generalize ix L name = i at *
  generalize freeOf L = fr at *
  have hib : decide (0 ≤ i) = false := by simp; omega
  generalize hlen : L.length = len at *
  have HLn := Aside0.mk hlen
  clear hlen
  go_enter Tryd.func11, Tryd.ntmps11
  go_wp2_with fail
  refine HG.out.mono ?_
  rintro e w1 ⟨rfl, hb⟩
  have BL1 := Aside0.mk (below_step BL.out hb)
  clear hb
  go_wp2_with fail
  refine (HI.out w1 (RR.out.below BL1.out)).mono ?_
  rintro e w2 ⟨rfl, hb⟩
  have BL2 := Aside0.mk (below_step BL1.out hb)
  have cm := CM.out _ BL2.out
  clear hb
  go_wp2_with fail
  refine (HFr.out w2 (RR.out.below BL2.out)).mono ?_
  rintro e w3 ⟨rfl, hb⟩
  have BL3 := Aside0.mk (below_step BL2.out hb)
  clear hb cm
  go_wp2_with fail
  replace BL : Aside0 (Below w.heap.size w w3.drew) := ⟨below_drew1 BL3.out⟩
  clear BL1 BL2 HG HI HFr BN
  refine start_ (n := 16) (S := fun w' => w'.cell? ⟨mb, 0, none⟩ = some (.slice A len cap)) (ds := [15]) #[false, false, false, false, false, false, false, false, false, false, false, false, false, false, false, false] (by kernel_rfl) rfl rfl (CM.out _ BL.out) (fun hHeld => ?_)
  clear BL3
  generalize w3.drew = w4 at *
  refine pure_ (i := 0) (N := (some 37)) (v := ?_) (a' := ?_) #[true, false, false, false, false, false, false, false, false, false, false, false, false, false, false, false] rfl rfl (by kernel_rfl) (fun _ _ _ h => h) (Or.inl ⟨by rfl, ?_⟩) ?_ ?_
  rotate_left
  · intro w'
    go_simp
    with_reducible rfl
  rotate_left
  · simp only [Act.put, List.setIfInBounds_toArray, List.set_cons_zero, List.set_cons_succ, i64_w, i32_w]
    rfl
  refine pure_ (i := 2) (N := (some 39)) (v := ?_) (a' := ?_) #[true, false, true, false, false, false, false, false, false, false, false, false, false, false, false, false] rfl rfl (by kernel_rfl) (fun _ _ _ h => h) (Or.inl ⟨by rfl, ?_⟩) ?_ ?_
  rotate_left
  · intro w'
    go_simp
    with_reducible rfl
  rotate_left
  · simp only [Act.put, List.setIfInBounds_toArray, List.set_cons_zero, List.set_cons_succ, i64_w, i32_w]
    rfl
  refine pure_ (i := 3) (N := (some 40)) (v := ?_) (a' := ?_) #[true, false, true, true, false, false, false, false, false, false, false, false, false, false, false, false] rfl rfl (by kernel_rfl) (fun _ _ _ h => h) (Or.inl ⟨by rfl, ?_⟩) ?_ ?_
  rotate_left
  · intro w'
    go_simp
    with_reducible rfl
  rotate_left
  · simp only [Act.put, List.setIfInBounds_toArray, List.set_cons_zero, List.set_cons_succ, i64_w, i32_w]
    rfl
  refine pure_ (i := 4) (N := (some 41)) (v := ?_) (a' := ?_) #[true, false, true, true, true, false, false, false, false, false, false, false, false, false, false, false] rfl rfl (by kernel_rfl) (fun _ _ _ h => h) (Or.inl ⟨by rfl, ?_⟩) ?_ ?_
  rotate_left
  · intro w'
    go_simp
    with_reducible rfl
  rotate_left
  · simp only [Act.put, List.setIfInBounds_toArray, List.set_cons_zero, List.set_cons_succ, i64_w, i32_w]
    rfl
  refine pure_ (i := 7) (N := (some 44)) (v := ?_) (a' := ?_) #[true, false, true, true, true, false, false, true, false, false, false, false, false, false, false, false] rfl rfl (by kernel_rfl) (fun _ _ _ h => h) (Or.inl ⟨by rfl, ?_⟩) ?_ ?_
  rotate_left
  · intro w'
    go_simp
    with_reducible rfl
  rotate_left
  · simp only [Act.put, List.setIfInBounds_toArray, List.set_cons_zero, List.set_cons_succ, i64_w, i32_w]
    rfl
  refine pure_ (i := 8) (N := (some 45)) (v := ?_) (a' := ?_) #[true, false, true, true, true, false, false, true, true, false, false, false, false, false, false, false] rfl rfl (by kernel_rfl) (fun _ _ _ h => h) (Or.inl ⟨by rfl, ?_⟩) ?_ ?_
  rotate_left
  · intro w'
    go_simp
    with_reducible rfl
  rotate_left
  · simp only [Act.put, List.setIfInBounds_toArray, List.set_cons_zero, List.set_cons_succ, i64_w, i32_w]
    rfl
  refine take_ (i := 5) (N := (some 42)) (v := ?_) (a' := ?_) #[true, false, true, true, true, true, false, true, true, false, false, false, false, false, false, false] rfl rfl (by kernel_rfl) (fun _ _ _ h => h) (Or.inl ⟨by rfl, ?_⟩) hHeld ?_ ?_
  rotate_left
  · intro w' s0
    go_simp
    with_reducible rfl
  rotate_left
  · simp only [Act.put, List.setIfInBounds_toArray, List.set_cons_zero, List.set_cons_succ, i64_w, i32_w]
    rfl
  refine two_ (i := 1) (j := 9) (Ni := (some 38)) (Nj := (some 46)) #[true, true, true, true, true, true, false, true, true, false, false, false, false, false, false, false] #[true, false, true, true, true, true, false, true, true, true, false, false, false, false, false, false] rfl rfl rfl rfl (by kernel_rfl) (by decide) (by decide) (fun K hK => ?_) (fun K hK => ?_)
  · skip
    refine value_ (v := .slice (some ⟨w4.heap.size, 0, none⟩) 0 0) (w1 := w4.alloc (.cells #[] 45 (0, 0))) (by rfl) rfl ?_ ?_
    · go_simp
    have hb : Below w4.heap.size w4 (w4.alloc (.cells #[] 45 (0, 0))) := below_alloc (Below.refl _ _) _
    have OE := Aside0.mk (own_empty (base := w.heap.size) (w := w4) BL.out.size)
    replace BL : Aside0 (Below w.heap.size w (w4.alloc (.cells #[] 45 (0, 0)))) := ⟨below_step BL.out hb⟩
    clear hb hHeld
    generalize w4.alloc (.cells #[] 45 (0, 0)) = w31 at *
    generalize w4.heap.size = gE at *
    refine hK.out _ _ (CM.out _ BL.out) (fun hHeld => ?_)
    clear hK K
    refine norm_ (a' := ?_) ?_ ?_
    rotate_left
    · show Act.put _ (some 38) _ = _
      simp only [Act.put, List.setIfInBounds_toArray, List.set_cons_zero, List.set_cons_succ, i64_w, i32_w]
      rfl
    refine two_ (i := 6) (j := 9) (Ni := (some 43)) (Nj := (some 46)) #[true, true, true, true, true, true, true, true, true, false, false, false, false, false, false, false] #[true, true, true, true, true, true, false, true, true, true, false, false, false, false, false, false] rfl rfl rfl rfl (by kernel_rfl) (by decide) (by decide) (fun K hK => ?_) (fun K hK => ?_)
    · skip
      rw [if_pos (by rfl)]
      obtain ⟨i45, hi45, hz45, hsz45, hby45⟩ := info_parts info45
      refine wp_app_src (.tmp 38) (.tmp 42) 28 rfl w.heap.size 45 i45 _ 2 40 Tryd.underlying28 hi45 hz45 hsz45 hby45 rfl (by decide) (.slice (some ⟨gE, 0, none⟩) 0 0) 0 [] rfl OE.out A len cap (volCells L gs) rfl VL.out (SRC.out _ BL.out) (volCells_one L gs) (by unfold maxLen; omega) (by omega) BL.out.size ?_
      intro v6 w32 own6 grow6 at6
      simp only [Nat.zero_add, List.nil_append] at own6
      have O6 := Aside0.mk own6
      replace BL : Aside0 (Below w.heap.size w w32) := ⟨BL.out.grown grow6 BL.out.size (fun k hk => (OE.out.lt k hk).1)⟩
      clear own6 grow6 at6 OE hHeld hi45 hz45 hsz45 hby45
      refine hK.out _ _ (CM.out _ BL.out) (fun hHeld => ?_)
      clear hK K
      refine norm_ (a' := ?_) ?_ ?_
      rotate_left
      · show Act.put _ (some 43) _ = _
        simp only [Act.put, List.setIfInBounds_toArray, List.set_cons_zero, List.set_cons_succ, i64_w, i32_w]
        rfl
      refine one_ (i := 9) (N := (some 46)) #[true, true, true, true, true, true, true, true, true, true, false, false, false, false, false, false] rfl rfl (by kernel_rfl) (by decide) (fun K hK => ?_)
      have hmk := run_makeSlice' w32 k k4
      refine value_ (v := .slice (some ⟨w32.heap.size, 0, none⟩) k k) (w1 := w32.alloc (.cells (blkCells (List.replicate k zero32)).toArray 32 (0, 0))) ?_ ?_ ?_ ?_
      · rfl
      · rfl
      · go_simp
      have hb : Below w32.heap.size w32 (w32.alloc (.cells (blkCells (List.replicate k zero32)).toArray 32 (0, 0))) := below_alloc (Below.refl _ _) _
      have GB := Aside0.mk (blk_new w32 (.cells (blkCells (List.replicate k zero32)).toArray 32 (0, 0)))
      have GE := Aside0.mk BL.out.size
      have N1 : Aside0 (some w32.heap.size ≠ v6.ownBlock) := ⟨fun h => by have := (O6.out.lt _ h.symm).2; omega⟩
      replace O6 := Aside0.mk (O6.out.alloc (.cells (blkCells (List.replicate k zero32)).toArray 32 (0, 0)))
      replace BL : Aside0 (Below w.heap.size w (w32.alloc (.cells (blkCells (List.replicate k zero32)).toArray 32 (0, 0)))) := ⟨below_step BL.out hb⟩
      clear hb hHeld hmk
      generalize w32.alloc (.cells (blkCells (List.replicate k zero32)).toArray 32 (0, 0)) = w33 at *
      generalize w32.heap.size = G at *
      refine hK.out _ _ (CM.out _ BL.out) (fun hHeld => ?_)
      clear hK K
      refine norm_ (a' := ?_) ?_ ?_
      rotate_left
      · show Act.put _ (some 46) _ = _
        simp only [Act.put, List.setIfInBounds_toArray, List.set_cons_zero, List.set_cons_succ, i64_w, i32_w]
        rfl
      refine pure_ (i := 10) (N := (some 47)) (v := ?_) (a' := ?_) #[true, true, true, true, true, true, true, true, true, true, true, false, false, false, false, false] rfl rfl (by kernel_rfl) (fun _ _ _ h => h) (Or.inl ⟨by rfl, ?_⟩) ?_ ?_
      rotate_left
      · intro w'
        go_simp
        with_reducible rfl
      rotate_left
      · simp only [Act.put, List.setIfInBounds_toArray, List.set_cons_zero, List.set_cons_succ, i64_w, i32_w]
        rfl
      refine one_ (i := 11) (N := (some 48)) #[true, true, true, true, true, true, true, true, true, true, true, true, false, false, false, false] rfl rfl (by kernel_rfl) (by decide) (fun K hK => ?_)
      refine value_ (v := .slice (some ⟨w33.heap.size, 0, none⟩) 1 1) (w1 := w33.alloc (.cells #[.string name, .slice (some ⟨G, 0, none⟩) k k] 45 (0, 0))) ?_ ?_ ?_ ?_
      · rfl
      · rfl
      · go_simp
      have hb : Below w33.heap.size w33 (w33.alloc (.cells #[.string name, .slice (some ⟨G, 0, none⟩) k k] 45 (0, 0))) := below_alloc (Below.refl _ _) _
      have TB := Aside0.mk (blk_new w33 (.cells #[.string name, .slice (some ⟨G, 0, none⟩) k k] 45 (0, 0)))
      replace GB := Aside0.mk (blk_below GB.out hb)
      have N2 : Aside0 (some w33.heap.size ≠ v6.ownBlock) := ⟨fun h => by have := (O6.out.lt _ h.symm).2; omega⟩
      replace O6 := Aside0.mk (O6.out.alloc (.cells #[.string name, .slice (some ⟨G, 0, none⟩) k k] 45 (0, 0)))
      replace BL : Aside0 (Below w.heap.size w (w33.alloc (.cells #[.string name, .slice (some ⟨G, 0, none⟩) k k] 45 (0, 0)))) := ⟨below_step BL.out hb⟩
      clear hb hHeld
      generalize w33.alloc (.cells #[.string name, .slice (some ⟨G, 0, none⟩) k k] 45 (0, 0)) = w34 at *
      generalize w33.heap.size = Tm at *
      refine hK.out _ _ (CM.out _ BL.out) (fun hHeld => ?_)
      clear hK K
      refine norm_ (a' := ?_) ?_ ?_
      rotate_left
      · show Act.put _ (some 48) _ = _
        simp only [Act.put, List.setIfInBounds_toArray, List.set_cons_zero, List.set_cons_succ, i64_w, i32_w]
        rfl
      refine one_ (i := 12) (N := (some 49)) #[true, true, true, true, true, true, true, true, true, true, true, true, true, false, false, false] rfl rfl (by kernel_rfl) (by decide) (fun K hK => ?_)
      rw [if_pos (by rfl)]
      obtain ⟨i45, hi45, hz45, hsz45, hby45⟩ := info_parts info45
      refine wp_append_own_at (.tmp 43) (.tmp 48) 28 rfl w.heap.size 45 i45 _ 2 40 Tryd.underlying28 hi45 hz45 hsz45 hby45 rfl (by decide) v6 len (volCells L gs) rfl O6.out ⟨Tm, 0, none⟩ 1 1 [.string name, .slice (some ⟨G, 0, none⟩) k k] rfl rfl ?_ ?_ ?_ ?_ ?_ ?_
      · intro j u hu
        have hj : j < 2 := by have := (List.getElem?_eq_some_iff.1 hu).1; simpa using this
        rw [Addr.add_mid, cell_of_row _ Tm _ _ 45 (0, 0) TB.out]
        simpa using hu
      · intro u hu
        simp at hu
        rcases hu with rfl | rfl <;> rfl
      · unfold maxLen; omega
      · omega
      · exact BL.out.size
      intro v12 w35 own12 grow12 _ at12
      have O12 := Aside0.mk own12
      replace GB := Aside0.mk (blk_grown GB.out grow12 N1.out)
      replace BL : Aside0 (Below w.heap.size w w35) := ⟨BL.out.grown grow12 BL.out.size (fun k hk => (O6.out.lt k hk).1)⟩
      obtain ⟨g12, cap12, rfl⟩ : ∃ g12 cap12, v12 = .slice (some ⟨g12, 0, none⟩) (len + 1) cap12 := by
        rcases own12.2 with ⟨_, h⟩ | ⟨g7, cap7, _, h, _⟩
        · omega
        · exact ⟨g7, cap7, h⟩
      clear own12 grow12 at12 O6 TB N1 N2 hHeld hi45 hz45 hsz45 hby45
      refine hK.out _ _ (CM.out _ BL.out) (fun hHeld => ?_)
      clear hK K
      refine norm_ (a' := ?_) ?_ ?_
      rotate_left
      · show Act.put _ (some 49) _ = _
        simp only [Act.put, List.setIfInBounds_toArray, List.set_cons_zero, List.set_cons_succ, i64_w, i32_w]
        rfl
      refine pure_ (i := 13) (N := (some 50)) (v := ?_) (a' := ?_) #[true, true, true, true, true, true, true, true, true, true, true, true, true, true, false, false] rfl rfl (by kernel_rfl) (fun _ _ _ h => h) (Or.inl ⟨by rfl, ?_⟩) ?_ ?_
      rotate_left
      · intro w'
        go_simp
        with_reducible rfl
      rotate_left
      · simp only [Act.put, List.setIfInBounds_toArray, List.set_cons_zero, List.set_cons_succ, i64_w, i32_w]
        rfl
      refine pure_ (i := 14) (N := (some 51)) (v := ?_) (a' := ?_) #[true, true, true, true, true, true, true, true, true, true, true, true, true, true, true, false] rfl rfl (by kernel_rfl) (fun _ _ _ h => h) (Or.inl ⟨by rfl, ?_⟩) ?_ ?_
      rotate_left
      · intro w'
        go_simp
        with_reducible rfl
      rotate_left
      · simp only [Act.put, List.setIfInBounds_toArray, List.set_cons_zero, List.set_cons_succ, i64_w, i32_w]
        rfl
      refine last_ (i := 15) (N := none) #[true, true, true, true, true, true, true, true, true, true, true, true, true, true, true, true] rfl rfl (by kernel_rfl) (by decide) (fun K hK => ?_)
      have M7 := blk_below RR.out.m BL.out
      have c7 := CM.out _ BL.out
      have f7 := blk_frozen M7 0
      have fin := Aside0.mk (repq_fresh (L' := L ++ [newVol name k]) (gs' := gs ++ [G]) (v' := (.slice (some ⟨g12, 0, none⟩) (len + 1) cap12)) RR.out BL.out (by rw [List.length_append, HLn.out, volCells_append L gs _ _ RR.out.len]; simpa [volCells, Vol.cells, newVol] using O12.out) (by simp [RR.out.len]) (blk_snoc RR.out BL.out GB.out GE.out) (size_snoc RR.out k4) (by have := HLn.out; simp; omega) (nodup_snoc RR.out GE.out) (fun g hg => by
        simp only [List.mem_append, List.mem_singleton] at hg
        rcases hg with hg | rfl
        · exact .inl hg
        · exact .inr GE.out))
      refine skip_ (w1 := w35.setCell ⟨mb, 0, none⟩ (.slice (some ⟨g12, 0, none⟩) (len + 1) cap12)) (by rfl) rfl ?_ ?_
      · go_simp
      refine hK.out _ _ ?_
      clear hK K
      refine done_ (by kernel_rfl) ?_
      go_wp2
      go_ret
      exact ⟨rfl, _, _, fin.out.1, fin.out.2⟩
    · skip
      have hmk := run_makeSlice' w31 k k4
      refine value_ (v := .slice (some ⟨w31.heap.size, 0, none⟩) k k) (w1 := w31.alloc (.cells (blkCells (List.replicate k zero32)).toArray 32 (0, 0))) ?_ ?_ ?_ ?_
      · rfl
      · rfl
      · go_simp
      have hb : Below w31.heap.size w31 (w31.alloc (.cells (blkCells (List.replicate k zero32)).toArray 32 (0, 0))) := below_alloc (Below.refl _ _) _
      have GB := Aside0.mk (blk_new w31 (.cells (blkCells (List.replicate k zero32)).toArray 32 (0, 0)))
      have GE := Aside0.mk BL.out.size
      have N1 : Aside0 (some w31.heap.size ≠ some gE) := ⟨fun h => by have := (OE.out.lt _ h.symm).2; omega⟩
      replace OE := Aside0.mk (OE.out.alloc (.cells (blkCells (List.replicate k zero32)).toArray 32 (0, 0)))
      replace BL : Aside0 (Below w.heap.size w (w31.alloc (.cells (blkCells (List.replicate k zero32)).toArray 32 (0, 0)))) := ⟨below_step BL.out hb⟩
      clear hb hHeld hmk
      generalize w31.alloc (.cells (blkCells (List.replicate k zero32)).toArray 32 (0, 0)) = w37 at *
      generalize w31.heap.size = G at *
      refine hK.out _ _ (CM.out _ BL.out) (fun hHeld => ?_)
      clear hK K
      refine norm_ (a' := ?_) ?_ ?_
      rotate_left
      · show Act.put _ (some 46) _ = _
        simp only [Act.put, List.setIfInBounds_toArray, List.set_cons_zero, List.set_cons_succ, i64_w, i32_w]
        rfl
      refine pure_ (i := 10) (N := (some 47)) (v := ?_) (a' := ?_) #[true, true, true, true, true, true, false, true, true, true, true, false, false, false, false, false] rfl rfl (by kernel_rfl) (fun _ _ _ h => h) (Or.inl ⟨by rfl, ?_⟩) ?_ ?_
      rotate_left
      · intro w'
        go_simp
        with_reducible rfl
      rotate_left
      · simp only [Act.put, List.setIfInBounds_toArray, List.set_cons_zero, List.set_cons_succ, i64_w, i32_w]
        rfl
      refine two_ (i := 6) (j := 11) (Ni := (some 43)) (Nj := (some 48)) #[true, true, true, true, true, true, true, true, true, true, true, false, false, false, false, false] #[true, true, true, true, true, true, false, true, true, true, true, true, false, false, false, false] rfl rfl rfl rfl (by kernel_rfl) (by decide) (by decide) (fun K hK => ?_) (fun K hK => ?_)
      · skip
        have NG : Aside0 (G ≠ w37.heap.size) := ⟨by have := blk_lt GB.out; omega⟩
        rw [if_pos (by rfl)]
        obtain ⟨i45, hi45, hz45, hsz45, hby45⟩ := info_parts info45
        refine wp_app_src (.tmp 38) (.tmp 42) 28 rfl w.heap.size 45 i45 _ 2 40 Tryd.underlying28 hi45 hz45 hsz45 hby45 rfl (by decide) (.slice (some ⟨gE, 0, none⟩) 0 0) 0 [] rfl OE.out A len cap (volCells L gs) rfl VL.out (SRC.out _ BL.out) (volCells_one L gs) (by unfold maxLen; omega) (by omega) BL.out.size ?_
        intro v6 w38 own6 grow6 at6
        simp only [Nat.zero_add, List.nil_append] at own6
        have O6 := Aside0.mk own6
        replace GB := Aside0.mk (blk_grown GB.out grow6 N1.out)
        replace N1 : Aside0 (some G ≠ v6.ownBlock) := ⟨fun h => by
          rcases at6 with q | q
          · exact N1.out (h.trans q)
          · have := h.trans q
            injection this with this
            exact NG.out this⟩
        replace BL : Aside0 (Below w.heap.size w w38) := ⟨BL.out.grown grow6 BL.out.size (fun k hk => (OE.out.lt k hk).1)⟩
        clear own6 grow6 at6 OE hHeld hi45 hz45 hsz45 hby45
        refine hK.out _ _ (CM.out _ BL.out) (fun hHeld => ?_)
        clear hK K
        refine norm_ (a' := ?_) ?_ ?_
        rotate_left
        · show Act.put _ (some 43) _ = _
          simp only [Act.put, List.setIfInBounds_toArray, List.set_cons_zero, List.set_cons_succ, i64_w, i32_w]
          rfl
        refine one_ (i := 11) (N := (some 48)) #[true, true, true, true, true, true, true, true, true, true, true, true, false, false, false, false] rfl rfl (by kernel_rfl) (by decide) (fun K hK => ?_)
        refine value_ (v := .slice (some ⟨w38.heap.size, 0, none⟩) 1 1) (w1 := w38.alloc (.cells #[.string name, .slice (some ⟨G, 0, none⟩) k k] 45 (0, 0))) ?_ ?_ ?_ ?_
        · rfl
        · rfl
        · go_simp
        have hb : Below w38.heap.size w38 (w38.alloc (.cells #[.string name, .slice (some ⟨G, 0, none⟩) k k] 45 (0, 0))) := below_alloc (Below.refl _ _) _
        have TB := Aside0.mk (blk_new w38 (.cells #[.string name, .slice (some ⟨G, 0, none⟩) k k] 45 (0, 0)))
        replace GB := Aside0.mk (blk_below GB.out hb)
        have N2 : Aside0 (some w38.heap.size ≠ v6.ownBlock) := ⟨fun h => by have := (O6.out.lt _ h.symm).2; omega⟩
        replace O6 := Aside0.mk (O6.out.alloc (.cells #[.string name, .slice (some ⟨G, 0, none⟩) k k] 45 (0, 0)))
        replace BL : Aside0 (Below w.heap.size w (w38.alloc (.cells #[.string name, .slice (some ⟨G, 0, none⟩) k k] 45 (0, 0)))) := ⟨below_step BL.out hb⟩
        clear hb hHeld
        generalize w38.alloc (.cells #[.string name, .slice (some ⟨G, 0, none⟩) k k] 45 (0, 0)) = w39 at *
        generalize w38.heap.size = Tm at *
        refine hK.out _ _ (CM.out _ BL.out) (fun hHeld => ?_)
        clear hK K
        refine norm_ (a' := ?_) ?_ ?_
        rotate_left
        · show Act.put _ (some 48) _ = _
          simp only [Act.put, List.setIfInBounds_toArray, List.set_cons_zero, List.set_cons_succ, i64_w, i32_w]
          rfl
        refine one_ (i := 12) (N := (some 49)) #[true, true, true, true, true, true, true, true, true, true, true, true, true, false, false, false] rfl rfl (by kernel_rfl) (by decide) (fun K hK => ?_)
        rw [if_pos (by rfl)]
        obtain ⟨i45, hi45, hz45, hsz45, hby45⟩ := info_parts info45
        refine wp_append_own_at (.tmp 43) (.tmp 48) 28 rfl w.heap.size 45 i45 _ 2 40 Tryd.underlying28 hi45 hz45 hsz45 hby45 rfl (by decide) v6 len (volCells L gs) rfl O6.out ⟨Tm, 0, none⟩ 1 1 [.string name, .slice (some ⟨G, 0, none⟩) k k] rfl rfl ?_ ?_ ?_ ?_ ?_ ?_
        · intro j u hu
          have hj : j < 2 := by have := (List.getElem?_eq_some_iff.1 hu).1; simpa using this
          rw [Addr.add_mid, cell_of_row _ Tm _ _ 45 (0, 0) TB.out]
          simpa using hu
        · intro u hu
          simp at hu
          rcases hu with rfl | rfl <;> rfl
        · unfold maxLen; omega
        · omega
        · exact BL.out.size
        intro v12 w40 own12 grow12 _ at12
        have O12 := Aside0.mk own12
        replace GB := Aside0.mk (blk_grown GB.out grow12 N1.out)
        replace BL : Aside0 (Below w.heap.size w w40) := ⟨BL.out.grown grow12 BL.out.size (fun k hk => (O6.out.lt k hk).1)⟩
        obtain ⟨g12, cap12, rfl⟩ : ∃ g12 cap12, v12 = .slice (some ⟨g12, 0, none⟩) (len + 1) cap12 := by
          rcases own12.2 with ⟨_, h⟩ | ⟨g7, cap7, _, h, _⟩
          · omega
          · exact ⟨g7, cap7, h⟩
        clear own12 grow12 at12 O6 TB N1 N2 hHeld hi45 hz45 hsz45 hby45
        refine hK.out _ _ (CM.out _ BL.out) (fun hHeld => ?_)
        clear hK K
        refine norm_ (a' := ?_) ?_ ?_
        rotate_left
        · show Act.put _ (some 49) _ = _
          simp only [Act.put, List.setIfInBounds_toArray, List.set_cons_zero, List.set_cons_succ, i64_w, i32_w]
          rfl
        refine pure_ (i := 13) (N := (some 50)) (v := ?_) (a' := ?_) #[true, true, true, true, true, true, true, true, true, true, true, true, true, true, false, false] rfl rfl (by kernel_rfl) (fun _ _ _ h => h) (Or.inl ⟨by rfl, ?_⟩) ?_ ?_
        rotate_left
        · intro w'
          go_simp
          with_reducible rfl
        rotate_left
        · simp only [Act.put, List.setIfInBounds_toArray, List.set_cons_zero, List.set_cons_succ, i64_w, i32_w]
          rfl
        refine pure_ (i := 14) (N := (some 51)) (v := ?_) (a' := ?_) #[true, true, true, true, true, true, true, true, true, true, true, true, true, true, true, false] rfl rfl (by kernel_rfl) (fun _ _ _ h => h) (Or.inl ⟨by rfl, ?_⟩) ?_ ?_
        rotate_left
        · intro w'
          go_simp
          with_reducible rfl
        rotate_left
        · simp only [Act.put, List.setIfInBounds_toArray, List.set_cons_zero, List.set_cons_succ, i64_w, i32_w]
          rfl
        refine last_ (i := 15) (N := none) #[true, true, true, true, true, true, true, true, true, true, true, true, true, true, true, true] rfl rfl (by kernel_rfl) (by decide) (fun K hK => ?_)
        have M7 := blk_below RR.out.m BL.out
        have c7 := CM.out _ BL.out
        have f7 := blk_frozen M7 0
        have fin := Aside0.mk (repq_fresh (L' := L ++ [newVol name k]) (gs' := gs ++ [G]) (v' := (.slice (some ⟨g12, 0, none⟩) (len + 1) cap12)) RR.out BL.out (by rw [List.length_append, HLn.out, volCells_append L gs _ _ RR.out.len]; simpa [volCells, Vol.cells, newVol] using O12.out) (by simp [RR.out.len]) (blk_snoc RR.out BL.out GB.out GE.out) (size_snoc RR.out k4) (by have := HLn.out; simp; omega) (nodup_snoc RR.out GE.out) (fun g hg => by
          simp only [List.mem_append, List.mem_singleton] at hg
          rcases hg with hg | rfl
          · exact .inl hg
          · exact .inr GE.out))
        refine skip_ (w1 := w40.setCell ⟨mb, 0, none⟩ (.slice (some ⟨g12, 0, none⟩) (len + 1) cap12)) (by rfl) rfl ?_ ?_
        · go_simp
        refine hK.out _ _ ?_
        clear hK K
        refine done_ (by kernel_rfl) ?_
        go_wp2
        go_ret
        exact ⟨rfl, _, _, fin.out.1, fin.out.2⟩
      · skip
        refine value_ (v := .slice (some ⟨w37.heap.size, 0, none⟩) 1 1) (w1 := w37.alloc (.cells #[.string name, .slice (some ⟨G, 0, none⟩) k k] 45 (0, 0))) ?_ ?_ ?_ ?_
        · rfl
        · rfl
        · go_simp
        have hb : Below w37.heap.size w37 (w37.alloc (.cells #[.string name, .slice (some ⟨G, 0, none⟩) k k] 45 (0, 0))) := below_alloc (Below.refl _ _) _
        have TB := Aside0.mk (blk_new w37 (.cells #[.string name, .slice (some ⟨G, 0, none⟩) k k] 45 (0, 0)))
        replace GB := Aside0.mk (blk_below GB.out hb)
        have N2 : Aside0 (some w37.heap.size ≠ some gE) := ⟨fun h => by have := (OE.out.lt _ h.symm).2; omega⟩
        replace OE := Aside0.mk (OE.out.alloc (.cells #[.string name, .slice (some ⟨G, 0, none⟩) k k] 45 (0, 0)))
        replace BL : Aside0 (Below w.heap.size w (w37.alloc (.cells #[.string name, .slice (some ⟨G, 0, none⟩) k k] 45 (0, 0)))) := ⟨below_step BL.out hb⟩
        clear hb hHeld
        generalize w37.alloc (.cells #[.string name, .slice (some ⟨G, 0, none⟩) k k] 45 (0, 0)) = w42 at *
        generalize w37.heap.size = Tm at *
        refine hK.out _ _ (CM.out _ BL.out) (fun hHeld => ?_)
        clear hK K
        refine norm_ (a' := ?_) ?_ ?_
        rotate_left
        · show Act.put _ (some 48) _ = _
          simp only [Act.put, List.setIfInBounds_toArray, List.set_cons_zero, List.set_cons_succ, i64_w, i32_w]
          rfl
        refine one_ (i := 6) (N := (some 43)) #[true, true, true, true, true, true, true, true, true, true, true, true, false, false, false, false] rfl rfl (by kernel_rfl) (by decide) (fun K hK => ?_)
        have NG : Aside0 (G ≠ w42.heap.size) := ⟨by have := blk_lt GB.out; omega⟩
        have NT : Aside0 (Tm ≠ w42.heap.size) := ⟨by have := blk_lt TB.out; omega⟩
        rw [if_pos (by rfl)]
        obtain ⟨i45, hi45, hz45, hsz45, hby45⟩ := info_parts info45
        refine wp_app_src (.tmp 38) (.tmp 42) 28 rfl w.heap.size 45 i45 _ 2 40 Tryd.underlying28 hi45 hz45 hsz45 hby45 rfl (by decide) (.slice (some ⟨gE, 0, none⟩) 0 0) 0 [] rfl OE.out A len cap (volCells L gs) rfl VL.out (SRC.out _ BL.out) (volCells_one L gs) (by unfold maxLen; omega) (by omega) BL.out.size ?_
        intro v6 w43 own6 grow6 at6
        simp only [Nat.zero_add, List.nil_append] at own6
        have O6 := Aside0.mk own6
        replace GB := Aside0.mk (blk_grown GB.out grow6 N1.out)
        replace N1 : Aside0 (some G ≠ v6.ownBlock) := ⟨fun h => by
          rcases at6 with q | q
          · exact N1.out (h.trans q)
          · have := h.trans q
            injection this with this
            exact NG.out this⟩
        replace TB := Aside0.mk (blk_grown TB.out grow6 N2.out)
        replace N2 : Aside0 (some Tm ≠ v6.ownBlock) := ⟨fun h => by
          rcases at6 with q | q
          · exact N2.out (h.trans q)
          · have := h.trans q
            injection this with this
            exact NT.out this⟩
        replace BL : Aside0 (Below w.heap.size w w43) := ⟨BL.out.grown grow6 BL.out.size (fun k hk => (OE.out.lt k hk).1)⟩
        clear own6 grow6 at6 OE hHeld hi45 hz45 hsz45 hby45
        refine hK.out _ _ (CM.out _ BL.out) (fun hHeld => ?_)
        clear hK K
        refine norm_ (a' := ?_) ?_ ?_
        rotate_left
        · show Act.put _ (some 43) _ = _
          simp only [Act.put, List.setIfInBounds_toArray, List.set_cons_zero, List.set_cons_succ, i64_w, i32_w]
          rfl
        refine one_ (i := 12) (N := (some 49)) #[true, true, true, true, true, true, true, true, true, true, true, true, true, false, false, false] rfl rfl (by kernel_rfl) (by decide) (fun K hK => ?_)
        rw [if_pos (by rfl)]
        obtain ⟨i45, hi45, hz45, hsz45, hby45⟩ := info_parts info45
        refine wp_append_own_at (.tmp 43) (.tmp 48) 28 rfl w.heap.size 45 i45 _ 2 40 Tryd.underlying28 hi45 hz45 hsz45 hby45 rfl (by decide) v6 len (volCells L gs) rfl O6.out ⟨Tm, 0, none⟩ 1 1 [.string name, .slice (some ⟨G, 0, none⟩) k k] rfl rfl ?_ ?_ ?_ ?_ ?_ ?_
        · intro j u hu
          have hj : j < 2 := by have := (List.getElem?_eq_some_iff.1 hu).1; simpa using this
          rw [Addr.add_mid, cell_of_row _ Tm _ _ 45 (0, 0) TB.out]
          simpa using hu
        · intro u hu
          simp at hu
          rcases hu with rfl | rfl <;> rfl
        · unfold maxLen; omega
        · omega
        · exact BL.out.size
        intro v12 w44 own12 grow12 _ at12
        have O12 := Aside0.mk own12
        replace GB := Aside0.mk (blk_grown GB.out grow12 N1.out)
        replace BL : Aside0 (Below w.heap.size w w44) := ⟨BL.out.grown grow12 BL.out.size (fun k hk => (O6.out.lt k hk).1)⟩
        obtain ⟨g12, cap12, rfl⟩ : ∃ g12 cap12, v12 = .slice (some ⟨g12, 0, none⟩) (len + 1) cap12 := by
          rcases own12.2 with ⟨_, h⟩ | ⟨g7, cap7, _, h, _⟩
          · omega
          · exact ⟨g7, cap7, h⟩
        clear own12 grow12 at12 O6 TB N1 N2 hHeld hi45 hz45 hsz45 hby45
        refine hK.out _ _ (CM.out _ BL.out) (fun hHeld => ?_)
        clear hK K
        refine norm_ (a' := ?_) ?_ ?_
        rotate_left
        · show Act.put _ (some 49) _ = _
          simp only [Act.put, List.setIfInBounds_toArray, List.set_cons_zero, List.set_cons_succ, i64_w, i32_w]
          rfl
        refine pure_ (i := 13) (N := (some 50)) (v := ?_) (a' := ?_) #[true, true, true, true, true, true, true, true, true, true, true, true, true, true, false, false] rfl rfl (by kernel_rfl) (fun _ _ _ h => h) (Or.inl ⟨by rfl, ?_⟩) ?_ ?_
        rotate_left
        · intro w'
          go_simp
          with_reducible rfl
        rotate_left
        · simp only [Act.put, List.setIfInBounds_toArray, List.set_cons_zero, List.set_cons_succ, i64_w, i32_w]
          rfl
        refine pure_ (i := 14) (N := (some 51)) (v := ?_) (a' := ?_) #[true, true, true, true, true, true, true, true, true, true, true, true, true, true, true, false] rfl rfl (by kernel_rfl) (fun _ _ _ h => h) (Or.inl ⟨by rfl, ?_⟩) ?_ ?_
        rotate_left
        · intro w'
          go_simp
          with_reducible rfl
        rotate_left
        · simp only [Act.put, List.setIfInBounds_toArray, List.set_cons_zero, List.set_cons_succ, i64_w, i32_w]
          rfl
        refine last_ (i := 15) (N := none) #[true, true, true, true, true, true, true, true, true, true, true, true, true, true, true, true] rfl rfl (by kernel_rfl) (by decide) (fun K hK => ?_)
        have M7 := blk_below RR.out.m BL.out
        have c7 := CM.out _ BL.out
        have f7 := blk_frozen M7 0
        have fin := Aside0.mk (repq_fresh (L' := L ++ [newVol name k]) (gs' := gs ++ [G]) (v' := (.slice (some ⟨g12, 0, none⟩) (len + 1) cap12)) RR.out BL.out (by rw [List.length_append, HLn.out, volCells_append L gs _ _ RR.out.len]; simpa [volCells, Vol.cells, newVol] using O12.out) (by simp [RR.out.len]) (blk_snoc RR.out BL.out GB.out GE.out) (size_snoc RR.out k4) (by have := HLn.out; simp; omega) (nodup_snoc RR.out GE.out) (fun g hg => by
          simp only [List.mem_append, List.mem_singleton] at hg
          rcases hg with hg | rfl
          · exact .inl hg
          · exact .inr GE.out))
        refine skip_ (w1 := w44.setCell ⟨mb, 0, none⟩ (.slice (some ⟨g12, 0, none⟩) (len + 1) cap12)) (by rfl) rfl ?_ ?_
        · go_simp
        refine hK.out _ _ ?_
        clear hK K
        refine done_ (by kernel_rfl) ?_
        go_wp2
        go_ret
        exact ⟨rfl, _, _, fin.out.1, fin.out.2⟩
  · skip
    have hmk := run_makeSlice' w4 k k4
    refine value_ (v := .slice (some ⟨w4.heap.size, 0, none⟩) k k) (w1 := w4.alloc (.cells (blkCells (List.replicate k zero32)).toArray 32 (0, 0))) ?_ ?_ ?_ ?_
    · rfl
    · rfl
    · go_simp
    have hb : Below w4.heap.size w4 (w4.alloc (.cells (blkCells (List.replicate k zero32)).toArray 32 (0, 0))) := below_alloc (Below.refl _ _) _
    have GB := Aside0.mk (blk_new w4 (.cells (blkCells (List.replicate k zero32)).toArray 32 (0, 0)))
    have GE := Aside0.mk BL.out.size
    replace BL : Aside0 (Below w.heap.size w (w4.alloc (.cells (blkCells (List.replicate k zero32)).toArray 32 (0, 0)))) := ⟨below_step BL.out hb⟩
    clear hb hHeld hmk
    generalize w4.alloc (.cells (blkCells (List.replicate k zero32)).toArray 32 (0, 0)) = w46 at *
    generalize w4.heap.size = G at *
    refine hK.out _ _ (CM.out _ BL.out) (fun hHeld => ?_)
    clear hK K
    refine norm_ (a' := ?_) ?_ ?_
    rotate_left
    · show Act.put _ (some 46) _ = _
      simp only [Act.put, List.setIfInBounds_toArray, List.set_cons_zero, List.set_cons_succ, i64_w, i32_w]
      rfl
    refine pure_ (i := 10) (N := (some 47)) (v := ?_) (a' := ?_) #[true, false, true, true, true, true, false, true, true, true, true, false, false, false, false, false] rfl rfl (by kernel_rfl) (fun _ _ _ h => h) (Or.inl ⟨by rfl, ?_⟩) ?_ ?_
    rotate_left
    · intro w'
      go_simp
      with_reducible rfl
    rotate_left
    · simp only [Act.put, List.setIfInBounds_toArray, List.set_cons_zero, List.set_cons_succ, i64_w, i32_w]
      rfl
    refine two_ (i := 1) (j := 11) (Ni := (some 38)) (Nj := (some 48)) #[true, true, true, true, true, true, false, true, true, true, true, false, false, false, false, false] #[true, false, true, true, true, true, false, true, true, true, true, true, false, false, false, false] rfl rfl rfl rfl (by kernel_rfl) (by decide) (by decide) (fun K hK => ?_) (fun K hK => ?_)
    · skip
      refine value_ (v := .slice (some ⟨w46.heap.size, 0, none⟩) 0 0) (w1 := w46.alloc (.cells #[] 45 (0, 0))) (by rfl) rfl ?_ ?_
      · go_simp
      have hb : Below w46.heap.size w46 (w46.alloc (.cells #[] 45 (0, 0))) := below_alloc (Below.refl _ _) _
      have OE := Aside0.mk (own_empty (base := w.heap.size) (w := w46) BL.out.size)
      have N1 : Aside0 (some G ≠ some w46.heap.size) := ⟨fun h => by have := blk_lt GB.out; injection h with h; omega⟩
      replace GB := Aside0.mk (blk_below GB.out hb)
      replace BL : Aside0 (Below w.heap.size w (w46.alloc (.cells #[] 45 (0, 0)))) := ⟨below_step BL.out hb⟩
      clear hb hHeld
      generalize w46.alloc (.cells #[] 45 (0, 0)) = w47 at *
      generalize w46.heap.size = gE at *
      refine hK.out _ _ (CM.out _ BL.out) (fun hHeld => ?_)
      clear hK K
      refine norm_ (a' := ?_) ?_ ?_
      rotate_left
      · show Act.put _ (some 38) _ = _
        simp only [Act.put, List.setIfInBounds_toArray, List.set_cons_zero, List.set_cons_succ, i64_w, i32_w]
        rfl
      refine two_ (i := 6) (j := 11) (Ni := (some 43)) (Nj := (some 48)) #[true, true, true, true, true, true, true, true, true, true, true, false, false, false, false, false] #[true, true, true, true, true, true, false, true, true, true, true, true, false, false, false, false] rfl rfl rfl rfl (by kernel_rfl) (by decide) (by decide) (fun K hK => ?_) (fun K hK => ?_)
      · skip
        have NG : Aside0 (G ≠ w47.heap.size) := ⟨by have := blk_lt GB.out; omega⟩
        rw [if_pos (by rfl)]
        obtain ⟨i45, hi45, hz45, hsz45, hby45⟩ := info_parts info45
        refine wp_app_src (.tmp 38) (.tmp 42) 28 rfl w.heap.size 45 i45 _ 2 40 Tryd.underlying28 hi45 hz45 hsz45 hby45 rfl (by decide) (.slice (some ⟨gE, 0, none⟩) 0 0) 0 [] rfl OE.out A len cap (volCells L gs) rfl VL.out (SRC.out _ BL.out) (volCells_one L gs) (by unfold maxLen; omega) (by omega) BL.out.size ?_
        intro v6 w48 own6 grow6 at6
        simp only [Nat.zero_add, List.nil_append] at own6
        have O6 := Aside0.mk own6
        replace GB := Aside0.mk (blk_grown GB.out grow6 N1.out)
        replace N1 : Aside0 (some G ≠ v6.ownBlock) := ⟨fun h => by
          rcases at6 with q | q
          · exact N1.out (h.trans q)
          · have := h.trans q
            injection this with this
            exact NG.out this⟩
        replace BL : Aside0 (Below w.heap.size w w48) := ⟨BL.out.grown grow6 BL.out.size (fun k hk => (OE.out.lt k hk).1)⟩
        clear own6 grow6 at6 OE hHeld hi45 hz45 hsz45 hby45
        refine hK.out _ _ (CM.out _ BL.out) (fun hHeld => ?_)
        clear hK K
        refine norm_ (a' := ?_) ?_ ?_
        rotate_left
        · show Act.put _ (some 43) _ = _
          simp only [Act.put, List.setIfInBounds_toArray, List.set_cons_zero, List.set_cons_succ, i64_w, i32_w]
          rfl
        refine one_ (i := 11) (N := (some 48)) #[true, true, true, true, true, true, true, true, true, true, true, true, false, false, false, false] rfl rfl (by kernel_rfl) (by decide) (fun K hK => ?_)
        refine value_ (v := .slice (some ⟨w48.heap.size, 0, none⟩) 1 1) (w1 := w48.alloc (.cells #[.string name, .slice (some ⟨G, 0, none⟩) k k] 45 (0, 0))) ?_ ?_ ?_ ?_
        · rfl
        · rfl
        · go_simp
        have hb : Below w48.heap.size w48 (w48.alloc (.cells #[.string name, .slice (some ⟨G, 0, none⟩) k k] 45 (0, 0))) := below_alloc (Below.refl _ _) _
        have TB := Aside0.mk (blk_new w48 (.cells #[.string name, .slice (some ⟨G, 0, none⟩) k k] 45 (0, 0)))
        replace GB := Aside0.mk (blk_below GB.out hb)
        have N2 : Aside0 (some w48.heap.size ≠ v6.ownBlock) := ⟨fun h => by have := (O6.out.lt _ h.symm).2; omega⟩
        replace O6 := Aside0.mk (O6.out.alloc (.cells #[.string name, .slice (some ⟨G, 0, none⟩) k k] 45 (0, 0)))
        replace BL : Aside0 (Below w.heap.size w (w48.alloc (.cells #[.string name, .slice (some ⟨G, 0, none⟩) k k] 45 (0, 0)))) := ⟨below_step BL.out hb⟩
        clear hb hHeld
        generalize w48.alloc (.cells #[.string name, .slice (some ⟨G, 0, none⟩) k k] 45 (0, 0)) = w49 at *
        generalize w48.heap.size = Tm at *
        refine hK.out _ _ (CM.out _ BL.out) (fun hHeld => ?_)
        clear hK K
        refine norm_ (a' := ?_) ?_ ?_
        rotate_left
        · show Act.put _ (some 48) _ = _
          simp only [Act.put, List.setIfInBounds_toArray, List.set_cons_zero, List.set_cons_succ, i64_w, i32_w]
          rfl
        refine one_ (i := 12) (N := (some 49)) #[true, true, true, true, true, true, true, true, true, true, true, true, true, false, false, false] rfl rfl (by kernel_rfl) (by decide) (fun K hK => ?_)
        rw [if_pos (by rfl)]
        obtain ⟨i45, hi45, hz45, hsz45, hby45⟩ := info_parts info45
        refine wp_append_own_at (.tmp 43) (.tmp 48) 28 rfl w.heap.size 45 i45 _ 2 40 Tryd.underlying28 hi45 hz45 hsz45 hby45 rfl (by decide) v6 len (volCells L gs) rfl O6.out ⟨Tm, 0, none⟩ 1 1 [.string name, .slice (some ⟨G, 0, none⟩) k k] rfl rfl ?_ ?_ ?_ ?_ ?_ ?_
        · intro j u hu
          have hj : j < 2 := by have := (List.getElem?_eq_some_iff.1 hu).1; simpa using this
          rw [Addr.add_mid, cell_of_row _ Tm _ _ 45 (0, 0) TB.out]
          simpa using hu
        · intro u hu
          simp at hu
          rcases hu with rfl | rfl <;> rfl
        · unfold maxLen; omega
        · omega
        · exact BL.out.size
        intro v12 w50 own12 grow12 _ at12
        have O12 := Aside0.mk own12
        replace GB := Aside0.mk (blk_grown GB.out grow12 N1.out)
        replace BL : Aside0 (Below w.heap.size w w50) := ⟨BL.out.grown grow12 BL.out.size (fun k hk => (O6.out.lt k hk).1)⟩
        obtain ⟨g12, cap12, rfl⟩ : ∃ g12 cap12, v12 = .slice (some ⟨g12, 0, none⟩) (len + 1) cap12 := by
          rcases own12.2 with ⟨_, h⟩ | ⟨g7, cap7, _, h, _⟩
          · omega
          · exact ⟨g7, cap7, h⟩
        clear own12 grow12 at12 O6 TB N1 N2 hHeld hi45 hz45 hsz45 hby45
        refine hK.out _ _ (CM.out _ BL.out) (fun hHeld => ?_)
        clear hK K
        refine norm_ (a' := ?_) ?_ ?_
        rotate_left
        · show Act.put _ (some 49) _ = _
          simp only [Act.put, List.setIfInBounds_toArray, List.set_cons_zero, List.set_cons_succ, i64_w, i32_w]
          rfl
        refine pure_ (i := 13) (N := (some 50)) (v := ?_) (a' := ?_) #[true, true, true, true, true, true, true, true, true, true, true, true, true, true, false, false] rfl rfl (by kernel_rfl) (fun _ _ _ h => h) (Or.inl ⟨by rfl, ?_⟩) ?_ ?_
        rotate_left
        · intro w'
          go_simp
          with_reducible rfl
        rotate_left
        · simp only [Act.put, List.setIfInBounds_toArray, List.set_cons_zero, List.set_cons_succ, i64_w, i32_w]
          rfl
        refine pure_ (i := 14) (N := (some 51)) (v := ?_) (a' := ?_) #[true, true, true, true, true, true, true, true, true, true, true, true, true, true, true, false] rfl rfl (by kernel_rfl) (fun _ _ _ h => h) (Or.inl ⟨by rfl, ?_⟩) ?_ ?_
        rotate_left
        · intro w'
          go_simp
          with_reducible rfl
        rotate_left
        · simp only [Act.put, List.setIfInBounds_toArray, List.set_cons_zero, List.set_cons_succ, i64_w, i32_w]
          rfl
        refine last_ (i := 15) (N := none) #[true, true, true, true, true, true, true, true, true, true, true, true, true, true, true, true] rfl rfl (by kernel_rfl) (by decide) (fun K hK => ?_)
        have M7 := blk_below RR.out.m BL.out
        have c7 := CM.out _ BL.out
        have f7 := blk_frozen M7 0
        have fin := Aside0.mk (repq_fresh (L' := L ++ [newVol name k]) (gs' := gs ++ [G]) (v' := (.slice (some ⟨g12, 0, none⟩) (len + 1) cap12)) RR.out BL.out (by rw [List.length_append, HLn.out, volCells_append L gs _ _ RR.out.len]; simpa [volCells, Vol.cells, newVol] using O12.out) (by simp [RR.out.len]) (blk_snoc RR.out BL.out GB.out GE.out) (size_snoc RR.out k4) (by have := HLn.out; simp; omega) (nodup_snoc RR.out GE.out) (fun g hg => by
          simp only [List.mem_append, List.mem_singleton] at hg
          rcases hg with hg | rfl
          · exact .inl hg
          · exact .inr GE.out))
        refine skip_ (w1 := w50.setCell ⟨mb, 0, none⟩ (.slice (some ⟨g12, 0, none⟩) (len + 1) cap12)) (by rfl) rfl ?_ ?_
        · go_simp
        refine hK.out _ _ ?_
        clear hK K
        refine done_ (by kernel_rfl) ?_
        go_wp2
        go_ret
        exact ⟨rfl, _, _, fin.out.1, fin.out.2⟩
      · skip
        refine value_ (v := .slice (some ⟨w47.heap.size, 0, none⟩) 1 1) (w1 := w47.alloc (.cells #[.string name, .slice (some ⟨G, 0, none⟩) k k] 45 (0, 0))) ?_ ?_ ?_ ?_
        · rfl
        · rfl
        · go_simp
        have hb : Below w47.heap.size w47 (w47.alloc (.cells #[.string name, .slice (some ⟨G, 0, none⟩) k k] 45 (0, 0))) := below_alloc (Below.refl _ _) _
        have TB := Aside0.mk (blk_new w47 (.cells #[.string name, .slice (some ⟨G, 0, none⟩) k k] 45 (0, 0)))
        replace GB := Aside0.mk (blk_below GB.out hb)
        have N2 : Aside0 (some w47.heap.size ≠ some gE) := ⟨fun h => by have := (OE.out.lt _ h.symm).2; omega⟩
        replace OE := Aside0.mk (OE.out.alloc (.cells #[.string name, .slice (some ⟨G, 0, none⟩) k k] 45 (0, 0)))
        replace BL : Aside0 (Below w.heap.size w (w47.alloc (.cells #[.string name, .slice (some ⟨G, 0, none⟩) k k] 45 (0, 0)))) := ⟨below_step BL.out hb⟩
        clear hb hHeld
        generalize w47.alloc (.cells #[.string name, .slice (some ⟨G, 0, none⟩) k k] 45 (0, 0)) = w52 at *
        generalize w47.heap.size = Tm at *
        refine hK.out _ _ (CM.out _ BL.out) (fun hHeld => ?_)
        clear hK K
        refine norm_ (a' := ?_) ?_ ?_
        rotate_left
        · show Act.put _ (some 48) _ = _
          simp only [Act.put, List.setIfInBounds_toArray, List.set_cons_zero, List.set_cons_succ, i64_w, i32_w]
          rfl
        refine one_ (i := 6) (N := (some 43)) #[true, true, true, true, true, true, true, true, true, true, true, true, false, false, false, false] rfl rfl (by kernel_rfl) (by decide) (fun K hK => ?_)
        have NG : Aside0 (G ≠ w52.heap.size) := ⟨by have := blk_lt GB.out; omega⟩
        have NT : Aside0 (Tm ≠ w52.heap.size) := ⟨by have := blk_lt TB.out; omega⟩
        rw [if_pos (by rfl)]
        obtain ⟨i45, hi45, hz45, hsz45, hby45⟩ := info_parts info45
        refine wp_app_src (.tmp 38) (.tmp 42) 28 rfl w.heap.size 45 i45 _ 2 40 Tryd.underlying28 hi45 hz45 hsz45 hby45 rfl (by decide) (.slice (some ⟨gE, 0, none⟩) 0 0) 0 [] rfl OE.out A len cap (volCells L gs) rfl VL.out (SRC.out _ BL.out) (volCells_one L gs) (by unfold maxLen; omega) (by omega) BL.out.size ?_
        intro v6 w53 own6 grow6 at6
        simp only [Nat.zero_add, List.nil_append] at own6
        have O6 := Aside0.mk own6
        replace GB := Aside0.mk (blk_grown GB.out grow6 N1.out)
        replace N1 : Aside0 (some G ≠ v6.ownBlock) := ⟨fun h => by
          rcases at6 with q | q
          · exact N1.out (h.trans q)
          · have := h.trans q
            injection this with this
            exact NG.out this⟩
        replace TB := Aside0.mk (blk_grown TB.out grow6 N2.out)
        replace N2 : Aside0 (some Tm ≠ v6.ownBlock) := ⟨fun h => by
          rcases at6 with q | q
          · exact N2.out (h.trans q)
          · have := h.trans q
            injection this with this
            exact NT.out this⟩
        replace BL : Aside0 (Below w.heap.size w w53) := ⟨BL.out.grown grow6 BL.out.size (fun k hk => (OE.out.lt k hk).1)⟩
        clear own6 grow6 at6 OE hHeld hi45 hz45 hsz45 hby45
        refine hK.out _ _ (CM.out _ BL.out) (fun hHeld => ?_)
        clear hK K
        refine norm_ (a' := ?_) ?_ ?_
        rotate_left
        · show Act.put _ (some 43) _ = _
          simp only [Act.put, List.setIfInBounds_toArray, List.set_cons_zero, List.set_cons_succ, i64_w, i32_w]
          rfl
        refine one_ (i := 12) (N := (some 49)) #[true, true, true, true, true, true, true, true, true, true, true, true, true, false, false, false] rfl rfl (by kernel_rfl) (by decide) (fun K hK => ?_)
        rw [if_pos (by rfl)]
        obtain ⟨i45, hi45, hz45, hsz45, hby45⟩ := info_parts info45
        refine wp_append_own_at (.tmp 43) (.tmp 48) 28 rfl w.heap.size 45 i45 _ 2 40 Tryd.underlying28 hi45 hz45 hsz45 hby45 rfl (by decide) v6 len (volCells L gs) rfl O6.out ⟨Tm, 0, none⟩ 1 1 [.string name, .slice (some ⟨G, 0, none⟩) k k] rfl rfl ?_ ?_ ?_ ?_ ?_ ?_
        · intro j u hu
          have hj : j < 2 := by have := (List.getElem?_eq_some_iff.1 hu).1; simpa using this
          rw [Addr.add_mid, cell_of_row _ Tm _ _ 45 (0, 0) TB.out]
          simpa using hu
        · intro u hu
          simp at hu
          rcases hu with rfl | rfl <;> rfl
        · unfold maxLen; omega
        · omega
        · exact BL.out.size
        intro v12 w54 own12 grow12 _ at12
        have O12 := Aside0.mk own12
        replace GB := Aside0.mk (blk_grown GB.out grow12 N1.out)
        replace BL : Aside0 (Below w.heap.size w w54) := ⟨BL.out.grown grow12 BL.out.size (fun k hk => (O6.out.lt k hk).1)⟩
        obtain ⟨g12, cap12, rfl⟩ : ∃ g12 cap12, v12 = .slice (some ⟨g12, 0, none⟩) (len + 1) cap12 := by
          rcases own12.2 with ⟨_, h⟩ | ⟨g7, cap7, _, h, _⟩
          · omega
          · exact ⟨g7, cap7, h⟩
        clear own12 grow12 at12 O6 TB N1 N2 hHeld hi45 hz45 hsz45 hby45
        refine hK.out _ _ (CM.out _ BL.out) (fun hHeld => ?_)
        clear hK K
        refine norm_ (a' := ?_) ?_ ?_
        rotate_left
        · show Act.put _ (some 49) _ = _
          simp only [Act.put, List.setIfInBounds_toArray, List.set_cons_zero, List.set_cons_succ, i64_w, i32_w]
          rfl
        refine pure_ (i := 13) (N := (some 50)) (v := ?_) (a' := ?_) #[true, true, true, true, true, true, true, true, true, true, true, true, true, true, false, false] rfl rfl (by kernel_rfl) (fun _ _ _ h => h) (Or.inl ⟨by rfl, ?_⟩) ?_ ?_
        rotate_left
        · intro w'
          go_simp
          with_reducible rfl
        rotate_left
        · simp only [Act.put, List.setIfInBounds_toArray, List.set_cons_zero, List.set_cons_succ, i64_w, i32_w]
          rfl
        refine pure_ (i := 14) (N := (some 51)) (v := ?_) (a' := ?_) #[true, true, true, true, true, true, true, true, true, true, true, true, true, true, true, false] rfl rfl (by kernel_rfl) (fun _ _ _ h => h) (Or.inl ⟨by rfl, ?_⟩) ?_ ?_
        rotate_left
        · intro w'
          go_simp
          with_reducible rfl
        rotate_left
        · simp only [Act.put, List.setIfInBounds_toArray, List.set_cons_zero, List.set_cons_succ, i64_w, i32_w]
          rfl
        refine last_ (i := 15) (N := none) #[true, true, true, true, true, true, true, true, true, true, true, true, true, true, true, true] rfl rfl (by kernel_rfl) (by decide) (fun K hK => ?_)
        have M7 := blk_below RR.out.m BL.out
        have c7 := CM.out _ BL.out
        have f7 := blk_frozen M7 0
        have fin := Aside0.mk (repq_fresh (L' := L ++ [newVol name k]) (gs' := gs ++ [G]) (v' := (.slice (some ⟨g12, 0, none⟩) (len + 1) cap12)) RR.out BL.out (by rw [List.length_append, HLn.out, volCells_append L gs _ _ RR.out.len]; simpa [volCells, Vol.cells, newVol] using O12.out) (by simp [RR.out.len]) (blk_snoc RR.out BL.out GB.out GE.out) (size_snoc RR.out k4) (by have := HLn.out; simp; omega) (nodup_snoc RR.out GE.out) (fun g hg => by
          simp only [List.mem_append, List.mem_singleton] at hg
          rcases hg with hg | rfl
          · exact .inl hg
          · exact .inr GE.out))
        refine skip_ (w1 := w54.setCell ⟨mb, 0, none⟩ (.slice (some ⟨g12, 0, none⟩) (len + 1) cap12)) (by rfl) rfl ?_ ?_
        · go_simp
        refine hK.out _ _ ?_
        clear hK K
        refine done_ (by kernel_rfl) ?_
        go_wp2
        go_ret
        exact ⟨rfl, _, _, fin.out.1, fin.out.2⟩
    · skip
      refine value_ (v := .slice (some ⟨w46.heap.size, 0, none⟩) 1 1) (w1 := w46.alloc (.cells #[.string name, .slice (some ⟨G, 0, none⟩) k k] 45 (0, 0))) ?_ ?_ ?_ ?_
      · rfl
      · rfl
      · go_simp
      have hb : Below w46.heap.size w46 (w46.alloc (.cells #[.string name, .slice (some ⟨G, 0, none⟩) k k] 45 (0, 0))) := below_alloc (Below.refl _ _) _
      have TB := Aside0.mk (blk_new w46 (.cells #[.string name, .slice (some ⟨G, 0, none⟩) k k] 45 (0, 0)))
      replace GB := Aside0.mk (blk_below GB.out hb)
      replace BL : Aside0 (Below w.heap.size w (w46.alloc (.cells #[.string name, .slice (some ⟨G, 0, none⟩) k k] 45 (0, 0)))) := ⟨below_step BL.out hb⟩
      clear hb hHeld
      generalize w46.alloc (.cells #[.string name, .slice (some ⟨G, 0, none⟩) k k] 45 (0, 0)) = w56 at *
      generalize w46.heap.size = Tm at *
      refine hK.out _ _ (CM.out _ BL.out) (fun hHeld => ?_)
      clear hK K
      refine norm_ (a' := ?_) ?_ ?_
      rotate_left
      · show Act.put _ (some 48) _ = _
        simp only [Act.put, List.setIfInBounds_toArray, List.set_cons_zero, List.set_cons_succ, i64_w, i32_w]
        rfl
      refine one_ (i := 1) (N := (some 38)) #[true, true, true, true, true, true, false, true, true, true, true, true, false, false, false, false] rfl rfl (by kernel_rfl) (by decide) (fun K hK => ?_)
      refine value_ (v := .slice (some ⟨w56.heap.size, 0, none⟩) 0 0) (w1 := w56.alloc (.cells #[] 45 (0, 0))) (by rfl) rfl ?_ ?_
      · go_simp
      have hb : Below w56.heap.size w56 (w56.alloc (.cells #[] 45 (0, 0))) := below_alloc (Below.refl _ _) _
      have OE := Aside0.mk (own_empty (base := w.heap.size) (w := w56) BL.out.size)
      have N1 : Aside0 (some G ≠ some w56.heap.size) := ⟨fun h => by have := blk_lt GB.out; injection h with h; omega⟩
      replace GB := Aside0.mk (blk_below GB.out hb)
      have N2 : Aside0 (some Tm ≠ some w56.heap.size) := ⟨fun h => by have := blk_lt TB.out; injection h with h; omega⟩
      replace TB := Aside0.mk (blk_below TB.out hb)
      replace BL : Aside0 (Below w.heap.size w (w56.alloc (.cells #[] 45 (0, 0)))) := ⟨below_step BL.out hb⟩
      clear hb hHeld
      generalize w56.alloc (.cells #[] 45 (0, 0)) = w57 at *
      generalize w56.heap.size = gE at *
      refine hK.out _ _ (CM.out _ BL.out) (fun hHeld => ?_)
      clear hK K
      refine norm_ (a' := ?_) ?_ ?_
      rotate_left
      · show Act.put _ (some 38) _ = _
        simp only [Act.put, List.setIfInBounds_toArray, List.set_cons_zero, List.set_cons_succ, i64_w, i32_w]
        rfl
      refine one_ (i := 6) (N := (some 43)) #[true, true, true, true, true, true, true, true, true, true, true, true, false, false, false, false] rfl rfl (by kernel_rfl) (by decide) (fun K hK => ?_)
      have NG : Aside0 (G ≠ w57.heap.size) := ⟨by have := blk_lt GB.out; omega⟩
      have NT : Aside0 (Tm ≠ w57.heap.size) := ⟨by have := blk_lt TB.out; omega⟩
      rw [if_pos (by rfl)]
      obtain ⟨i45, hi45, hz45, hsz45, hby45⟩ := info_parts info45
      refine wp_app_src (.tmp 38) (.tmp 42) 28 rfl w.heap.size 45 i45 _ 2 40 Tryd.underlying28 hi45 hz45 hsz45 hby45 rfl (by decide) (.slice (some ⟨gE, 0, none⟩) 0 0) 0 [] rfl OE.out A len cap (volCells L gs) rfl VL.out (SRC.out _ BL.out) (volCells_one L gs) (by unfold maxLen; omega) (by omega) BL.out.size ?_
      intro v6 w58 own6 grow6 at6
      simp only [Nat.zero_add, List.nil_append] at own6
      have O6 := Aside0.mk own6
      replace GB := Aside0.mk (blk_grown GB.out grow6 N1.out)
      replace N1 : Aside0 (some G ≠ v6.ownBlock) := ⟨fun h => by
        rcases at6 with q | q
        · exact N1.out (h.trans q)
        · have := h.trans q
          injection this with this
          exact NG.out this⟩
      replace TB := Aside0.mk (blk_grown TB.out grow6 N2.out)
      replace N2 : Aside0 (some Tm ≠ v6.ownBlock) := ⟨fun h => by
        rcases at6 with q | q
        · exact N2.out (h.trans q)
        · have := h.trans q
          injection this with this
          exact NT.out this⟩
      replace BL : Aside0 (Below w.heap.size w w58) := ⟨BL.out.grown grow6 BL.out.size (fun k hk => (OE.out.lt k hk).1)⟩
      clear own6 grow6 at6 OE hHeld hi45 hz45 hsz45 hby45
      refine hK.out _ _ (CM.out _ BL.out) (fun hHeld => ?_)
      clear hK K
      refine norm_ (a' := ?_) ?_ ?_
      rotate_left
      · show Act.put _ (some 43) _ = _
        simp only [Act.put, List.setIfInBounds_toArray, List.set_cons_zero, List.set_cons_succ, i64_w, i32_w]
        rfl
      refine one_ (i := 12) (N := (some 49)) #[true, true, true, true, true, true, true, true, true, true, true, true, true, false, false, false] rfl rfl (by kernel_rfl) (by decide) (fun K hK => ?_)
      rw [if_pos (by rfl)]
      obtain ⟨i45, hi45, hz45, hsz45, hby45⟩ := info_parts info45
      refine wp_append_own_at (.tmp 43) (.tmp 48) 28 rfl w.heap.size 45 i45 _ 2 40 Tryd.underlying28 hi45 hz45 hsz45 hby45 rfl (by decide) v6 len (volCells L gs) rfl O6.out ⟨Tm, 0, none⟩ 1 1 [.string name, .slice (some ⟨G, 0, none⟩) k k] rfl rfl ?_ ?_ ?_ ?_ ?_ ?_
      · intro j u hu
        have hj : j < 2 := by have := (List.getElem?_eq_some_iff.1 hu).1; simpa using this
        rw [Addr.add_mid, cell_of_row _ Tm _ _ 45 (0, 0) TB.out]
        simpa using hu
      · intro u hu
        simp at hu
        rcases hu with rfl | rfl <;> rfl
      · unfold maxLen; omega
      · omega
      · exact BL.out.size
      intro v12 w59 own12 grow12 _ at12
      have O12 := Aside0.mk own12
      replace GB := Aside0.mk (blk_grown GB.out grow12 N1.out)
      replace BL : Aside0 (Below w.heap.size w w59) := ⟨BL.out.grown grow12 BL.out.size (fun k hk => (O6.out.lt k hk).1)⟩
      obtain ⟨g12, cap12, rfl⟩ : ∃ g12 cap12, v12 = .slice (some ⟨g12, 0, none⟩) (len + 1) cap12 := by
        rcases own12.2 with ⟨_, h⟩ | ⟨g7, cap7, _, h, _⟩
        · omega
        · exact ⟨g7, cap7, h⟩
      clear own12 grow12 at12 O6 TB N1 N2 hHeld hi45 hz45 hsz45 hby45
      refine hK.out _ _ (CM.out _ BL.out) (fun hHeld => ?_)
      clear hK K
      refine norm_ (a' := ?_) ?_ ?_
      rotate_left
      · show Act.put _ (some 49) _ = _
        simp only [Act.put, List.setIfInBounds_toArray, List.set_cons_zero, List.set_cons_succ, i64_w, i32_w]
        rfl
      refine pure_ (i := 13) (N := (some 50)) (v := ?_) (a' := ?_) #[true, true, true, true, true, true, true, true, true, true, true, true, true, true, false, false] rfl rfl (by kernel_rfl) (fun _ _ _ h => h) (Or.inl ⟨by rfl, ?_⟩) ?_ ?_
      rotate_left
      · intro w'
        go_simp
        with_reducible rfl
      rotate_left
      · simp only [Act.put, List.setIfInBounds_toArray, List.set_cons_zero, List.set_cons_succ, i64_w, i32_w]
        rfl
      refine pure_ (i := 14) (N := (some 51)) (v := ?_) (a' := ?_) #[true, true, true, true, true, true, true, true, true, true, true, true, true, true, true, false] rfl rfl (by kernel_rfl) (fun _ _ _ h => h) (Or.inl ⟨by rfl, ?_⟩) ?_ ?_
      rotate_left
      · intro w'
        go_simp
        with_reducible rfl
      rotate_left
      · simp only [Act.put, List.setIfInBounds_toArray, List.set_cons_zero, List.set_cons_succ, i64_w, i32_w]
        rfl
      refine last_ (i := 15) (N := none) #[true, true, true, true, true, true, true, true, true, true, true, true, true, true, true, true] rfl rfl (by kernel_rfl) (by decide) (fun K hK => ?_)
      have M7 := blk_below RR.out.m BL.out
      have c7 := CM.out _ BL.out
      have f7 := blk_frozen M7 0
      have fin := Aside0.mk (repq_fresh (L' := L ++ [newVol name k]) (gs' := gs ++ [G]) (v' := (.slice (some ⟨g12, 0, none⟩) (len + 1) cap12)) RR.out BL.out (by rw [List.length_append, HLn.out, volCells_append L gs _ _ RR.out.len]; simpa [volCells, Vol.cells, newVol] using O12.out) (by simp [RR.out.len]) (blk_snoc RR.out BL.out GB.out GE.out) (size_snoc RR.out k4) (by have := HLn.out; simp; omega) (nodup_snoc RR.out GE.out) (fun g hg => by
        simp only [List.mem_append, List.mem_singleton] at hg
        rcases hg with hg | rfl
        · exact .inl hg
        · exact .inr GE.out))
      refine skip_ (w1 := w59.setCell ⟨mb, 0, none⟩ (.slice (some ⟨g12, 0, none⟩) (len + 1) cap12)) (by rfl) rfl ?_ ?_
      · go_simp
      refine hK.out _ _ ?_
      clear hK K
      refine done_ (by kernel_rfl) ?_
      go_wp2
      go_ret
      exact ⟨rfl, _, _, fin.out.1, fin.out.2⟩

end Go.Proofs.YtkppnamblmaokaaDoor.RefE

namespace Go.Proofs.YtkppnamblmaokaaDoor.RefF
open Go.RowKit Go.Proofs.YtkppnamblmaokaaDoorW.PrintWords Go.Proofs.YtkppnamblmaokaaDoorW.PrintLast Go.Proofs.YtkppnamblmaokaaDoorW.PrintMore Go.Proofs.YtkppnamblmaokaaDoor.ModA Go.Proofs.YtkppnamblmaokaaDoor.ModB Go.Proofs.YtkppnamblmaokaaDoor.ModC Go.Proofs.YtkppnamblmaokaaDoor.ModD Go.Proofs.YtkppnamblmaokaaDoor.ModE Go.Proofs.YtkppnamblmaokaaDoor.ModF Go.Proofs.YtkppnamblmaokaaDoor.ModG Go.Proofs.YtkppnamblmaokaaDoor.ModH Go.Proofs.YtkppnamblmaokaaDoor.ModI Go.Proofs.YtkppnamblmaokaaDoor.ModJ Go.Proofs.YtkppnamblmaokaaDoor.ModK Go.Proofs.YtkppnamblmaokaaDoor.ModL Go.Proofs.YtkppnamblmaokaaDoor.ModN Go.Proofs.YtkppnamblmaokaaDoor.ModO Go.Proofs.YtkppnamblmaokaaDoor.ModP Go.Proofs.YtkppnamblmaokaaDoor.ModQ Go.Proofs.YtkppnamblmaokaaDoor.ModR Go.Proofs.YtkppnamblmaokaaDoor.ModS Go.Proofs.YtkppnamblmaokaaDoor.ModT Go.Proofs.YtkppnamblmaokaaDoor.RefA Go.Proofs.YtkppnamblmaokaaDoor.RefB Go.Proofs.YtkppnamblmaokaaDoor.RefC Go.Proofs.YtkppnamblmaokaaDoor.RefD Go.Proofs.YtkppnamblmaokaaDoor.RefE
set_option linter.unusedVariables false
set_option linter.unusedSimpArgs false

theorem make_q {base : Nat} {w : World} {mb : Nat} {L : List Vol} {gs : List Nat} {v : Value} (r : RepQ base w mb L gs v) (name : ByteArray) (n : Int) :
    Calls Tryd.prog 11 #[.pointer (some ⟨mb, 0, none⟩), .string name, .int .i64 n] w fun e w' => e = .returned (.int .i64 (makeRes L name n)) ∧ ∃ gs' v', RepQ base w' mb (makeL L name n) gs' v' ∧ Moves (foot mb gs v) (foot mb gs' v') w w' := by
  by_cases he : makeRes L name n = 0
  · have hd := he
    rw [makeRes_ix] at hd
    split at hd
    · omega
    split at hd
    · omega
    split at hd
    · omega
    split at hd
    · omega
    rename_i h1 h2 h3 h4
    obtain ⟨k, rfl⟩ := Int.eq_ofNat_of_zero_le (show 0 ≤ n by omega)
    refine (make_qok r name k (by simpa using h1) (by omega) (by omega) (by omega) (by omega) (by omega)).mono ?_
    rintro e w' ⟨rfl, gs', v', R, M⟩
    refine ⟨by rw [he], gs', v', ?_, M⟩
    unfold makeL; rw [if_pos he, Int.toNat_natCast]; exact R
  · refine (make_qerr r name n he).mono ?_
    rintro e w' ⟨rfl, hb⟩
    exact ⟨rfl, gs, v, by unfold makeL; rw [if_neg he]; exact r.below hb, .of_below hb⟩
theorem take_drop_erase {α : Type} (l : List α) (i : Nat) : l.take i ++ l.drop (i + 1) = l.eraseIdx i := by rw [List.eraseIdx_eq_take_drop_succ]
theorem getElem?_erase {α : Type} (l : List α) (i j : Nat) : (l.eraseIdx i)[j]? = l[if j < i then j else j + 1]? := by
  rw [List.getElem?_eraseIdx]
  split <;> rfl
theorem src_take {w : World} {ga n cap i : Nat} {xs : List Value} (h : 0 < n → ∃ ad, some (⟨ga, 0, none⟩ : Addr) = some ad ∧ ∀ j u, xs[j]? = some u → w.cell? (ad.add j) = some u) (hi : i < n) :
    0 < i → ∃ ad, some (⟨ga, 0, none⟩ : Addr) = some ad ∧ ∀ j u, (xs.take (i * 2))[j]? = some u → w.cell? (ad.add j) = some u := by
  intro _
  obtain ⟨ad, h1, h2⟩ := h (by omega)
  refine ⟨ad, h1, fun j u hu => h2 j u ?_⟩
  rw [List.getElem?_take] at hu
  split at hu
  · exact hu
  · cases hu
theorem src_drop {w : World} {ga n i : Nat} {xs : List Value} (h : 0 < n → ∃ ad, some (⟨ga, 0, none⟩ : Addr) = some ad ∧ ∀ j u, xs[j]? = some u → w.cell? (ad.add j) = some u) (hi : i < n) :
    0 < n - (i + 1) → ∃ ad, some (⟨ga, (i + 1) * 2, none⟩ : Addr) = some ad ∧ ∀ j u, (xs.drop ((i + 1) * 2))[j]? = some u → w.cell? (ad.add j) = some u := by
  intro _
  obtain ⟨ad, h1, h2⟩ := h (by omega)
  injection h1 with h1
  subst h1
  refine ⟨_, rfl, fun j u hu => ?_⟩
  rw [List.getElem?_drop] at hu
  have := h2 _ u hu
  rw [Addr.add_mid] at this ⊢
  simpa using this

set_option maxHeartbeats 4000000 in
set_option maxRecDepth 100000 in
theorem gone_qerr {base : Nat} {w : World} {mb : Nat} {L : List Vol} {gs : List Nat} {v : Value} (r : RepQ base w mb L gs v) (name : ByteArray) (hi : ix L name < 0) :
    Calls Tryd.prog 13 #[.pointer (some ⟨mb, 0, none⟩), .string name] w fun e w' => e = .returned (.int .i64 16) ∧ Below w.heap.size w w' := by
  have HI := Aside0.mk (find_any r name)
  generalize ix L name = i at *
  go_enter Tryd.func13, Tryd.ntmps13
  go_wp2_with fail
  refine HI.out.mono ?_
  rintro e w1 ⟨rfl, hb⟩
  go_wp2
  go_ret
  exact ⟨rfl, hb⟩

theorem repq_erase {base : Nat} {w w7 : World} {mb i : Nat} {L : List Vol} {gs : List Nat} {v v' : Value} (r : RepQ base w mb L gs v) (BL : Below w.heap.size w w7) (hi : i < L.length)
    (own : w7.ownsRow w.heap.size 45 2 v' (i + (L.length - (i + 1))) ((volCells L gs).take (i * 2) ++ (volCells L gs).drop ((i + 1) * 2))) :
    RepQ base (w7.setCell ⟨mb, 0, none⟩ v') mb (L.eraseIdx i) (gs.eraseIdx i) v' ∧ Moves (foot mb gs v) (foot mb (gs.eraseIdx i) v') w (w7.setCell ⟨mb, 0, none⟩ v') := by
  have hlg := r.len
  refine repq_fresh r BL ?_ ?_ (fun j x g h1 h2 => ?_) (fun j x h1 => ?_) ?_ ?_ (fun g hg => .inl ((List.eraseIdx_sublist gs i).subset hg))
  · rw [volCells_take L gs i hlg, volCells_drop L gs (i + 1) hlg, ← volCells_append _ _ _ _ (by simp [hlg]), take_drop_erase, take_drop_erase] at own
    rw [List.length_eraseIdx, if_pos hi]
    have e : i + (L.length - (i + 1)) = L.length - 1 := by omega
    rw [e] at own
    exact own
  · rw [List.length_eraseIdx, List.length_eraseIdx, hlg]
  · rw [getElem?_erase] at h1 h2
    obtain ⟨k1, k2⟩ := r.blk _ x g h1 h2
    exact ⟨k1, blk_below k2 BL⟩
  · rw [getElem?_erase] at h1
    exact r.size _ x h1
  · have := r.few
    rw [List.length_eraseIdx]
    split <;> omega
  · exact r.nodup.sublist (List.eraseIdx_sublist _ _)
set_option maxHeartbeats 8000000 in
set_option maxRecDepth 100000 in
theorem gone_qok {base : Nat} {w : World} {mb : Nat} {L : List Vol} {gs : List Nat} {v : Value} (r : RepQ base w mb L gs v) (name : ByteArray) (i : Nat) (hi : ix L name = i) :
    Calls Tryd.prog 13 #[.pointer (some ⟨mb, 0, none⟩), .string name] w fun e w' => e = .returned (.int .i64 0) ∧ ∃ gs' v', RepQ base w' mb (L.eraseIdx i) gs' v' ∧ Moves (foot mb gs v) (foot mb gs' v') w w' := by
  have HI := Aside0.mk (find_any r name)
  have hil : i < L.length := by have := ix_lt L name; omega
  have hf := r.few
  rw [hi] at HI
  rcases r.slice with ⟨A, cap, rfl, rfl⟩ | ⟨ga, cap, rfl, h1, h2, _⟩
  · simp at hil
  have CM : Aside0 (∀ W, Below w.heap.size w W → W.cell? ⟨mb, 0, none⟩ = some (.slice (some ⟨ga, 0, none⟩) L.length cap)) := ⟨fun W hW => (blk_cell (r.below hW).m 0).trans rfl⟩
  have SRC : Aside0 (∀ W, Below w.heap.size w W → 0 < L.length → ∃ ad, some (⟨ga, 0, none⟩ : Addr) = some ad ∧ ∀ j u, (volCells L gs)[j]? = some u → W.cell? (ad.add j) = some u) := ⟨fun W hW => own_src (r.below hW).own⟩
  have VT : Aside0 (((volCells L gs).take (i * 2)).length = i * 2) := ⟨by rw [List.length_take, volCells_len L gs r.len]; omega⟩
  have VD : Aside0 (((volCells L gs).drop ((i + 1) * 2)).length = (L.length - (i + 1)) * 2) := ⟨by rw [List.length_drop, volCells_len L gs r.len]; omega⟩
  have RR := Aside0.mk r
  clear r hi
  generalize hlen : L.length = len at *
  have HLn := Aside0.mk hlen
  clear hlen
  have b0 : (0 : Int) ≤ (i : Int) := by omega
  have b1 : (i : Int) ≤ (cap : Int) := by omega
  have b2 : (0 : Int) ≤ (i : Int) + 1 := by omega
  have b3 : (i : Int) + 1 ≤ (len : Int) := by omega
  have b4 : (len : Int) ≤ (cap : Int) := by omega
  have b5 : Go.RowKit.wrap64 ((i : Int) + 1) = (i : Int) + 1 := by unfold Go.RowKit.wrap64; omega
  have b6 : IntKind.i64.wrap ((i : Int) + 1) = (i : Int) + 1 := by rw [Go.Proofs.YtkppnamblmaokaaDoorW.PrintLast.i64_w]; exact b5
  have b7 : ((i : Int) + 1).toNat = i + 1 := by omega
  by_cases hce : i + 1 = cap
  · obtain rfl : cap = i + 1 := hce.symm
    obtain rfl : len = i + 1 := by omega
    have b8 : (i : Int) ≤ (i : Int) + 1 := by omega
    go_enter Tryd.func13, Tryd.ntmps13
    go_wp2_with fail
    refine HI.out.mono ?_
    rintro e w1 ⟨rfl, hb⟩
    have BL0 := Aside0.mk hb
    have cm := CM.out _ hb
    clear hb cm
    go_wp2_with fail
    have BL : Aside0 (Below w.heap.size w w1.drew) := ⟨below_drew1 BL0.out⟩
    clear BL0 HI
    refine start_ (n := 20) (S := fun w' => w'.cell? ⟨mb, 0, none⟩ = some (.slice (some ⟨ga, 0, none⟩) (i + 1) (i + 1))) (ds := [19]) #[false, false, false, false, false, false, false, false, false, false, false, false, false, false, false, false, false, false, false, false] (by kernel_rfl) rfl rfl (CM.out _ BL.out) (fun hHeld => ?_)
    generalize w1.drew = w4 at *
    refine pure_ (i := 0) (N := (some 11)) (v := ?_) (a' := ?_) #[true, false, false, false, false, false, false, false, false, false, false, false, false, false, false, false, false, false, false, false] rfl rfl (by kernel_rfl) (fun _ _ _ h => h) (Or.inl ⟨by rfl, ?_⟩) ?_ ?_
    rotate_left
    · intro w'
      go_simp
      with_reducible rfl
    rotate_left
    · simp only [Act.put, List.setIfInBounds_toArray, List.set_cons_zero, List.set_cons_succ, i64_w, i32_w]
      rfl
    refine pure_ (i := 2) (N := (some 13)) (v := ?_) (a' := ?_) #[true, false, true, false, false, false, false, false, false, false, false, false, false, false, false, false, false, false, false, false] rfl rfl (by kernel_rfl) (fun _ _ _ h => h) (Or.inl ⟨by rfl, ?_⟩) ?_ ?_
    rotate_left
    · intro w'
      go_simp
      with_reducible rfl
    rotate_left
    · simp only [Act.put, List.setIfInBounds_toArray, List.set_cons_zero, List.set_cons_succ, i64_w, i32_w]
      rfl
    refine pure_ (i := 3) (N := (some 14)) (v := ?_) (a' := ?_) #[true, false, true, true, false, false, false, false, false, false, false, false, false, false, false, false, false, false, false, false] rfl rfl (by kernel_rfl) (fun _ _ _ h => h) (Or.inl ⟨by rfl, ?_⟩) ?_ ?_
    rotate_left
    · intro w'
      go_simp
      with_reducible rfl
    rotate_left
    · simp only [Act.put, List.setIfInBounds_toArray, List.set_cons_zero, List.set_cons_succ, i64_w, i32_w]
      rfl
    refine pure_ (i := 4) (N := (some 15)) (v := ?_) (a' := ?_) #[true, false, true, true, true, false, false, false, false, false, false, false, false, false, false, false, false, false, false, false] rfl rfl (by kernel_rfl) (fun _ _ _ h => h) (Or.inl ⟨by rfl, ?_⟩) ?_ ?_
    rotate_left
    · intro w'
      go_simp
      with_reducible rfl
    rotate_left
    · simp only [Act.put, List.setIfInBounds_toArray, List.set_cons_zero, List.set_cons_succ, i64_w, i32_w]
      rfl
    refine pure_ (i := 6) (N := (some 17)) (v := ?_) (a' := ?_) #[true, false, true, true, true, false, true, false, false, false, false, false, false, false, false, false, false, false, false, false] rfl rfl (by kernel_rfl) (fun _ _ _ h => h) (Or.inl ⟨by rfl, ?_⟩) ?_ ?_
    rotate_left
    · intro w'
      go_simp
      with_reducible rfl
    rotate_left
    · simp only [Act.put, List.setIfInBounds_toArray, List.set_cons_zero, List.set_cons_succ, i64_w, i32_w]
      rfl
    refine pure_ (i := 9) (N := (some 20)) (v := ?_) (a' := ?_) #[true, false, true, true, true, false, true, false, false, true, false, false, false, false, false, false, false, false, false, false] rfl rfl (by kernel_rfl) (fun _ _ _ h => h) (Or.inl ⟨by rfl, ?_⟩) ?_ ?_
    rotate_left
    · intro w'
      go_simp
      with_reducible rfl
    rotate_left
    · simp only [Act.put, List.setIfInBounds_toArray, List.set_cons_zero, List.set_cons_succ, i64_w, i32_w]
      rfl
    refine pure_ (i := 10) (N := (some 21)) (v := ?_) (a' := ?_) #[true, false, true, true, true, false, true, false, false, true, true, false, false, false, false, false, false, false, false, false] rfl rfl (by kernel_rfl) (fun _ _ _ h => h) (Or.inl ⟨by rfl, ?_⟩) ?_ ?_
    rotate_left
    · intro w'
      go_simp
      with_reducible rfl
    rotate_left
    · simp only [Act.put, List.setIfInBounds_toArray, List.set_cons_zero, List.set_cons_succ, i64_w, i32_w]
      rfl
    refine pure_ (i := 11) (N := (some 22)) (v := ?_) (a' := ?_) #[true, false, true, true, true, false, true, false, false, true, true, true, false, false, false, false, false, false, false, false] rfl rfl (by kernel_rfl) (fun _ _ _ h => h) (Or.inl ⟨by rfl, ?_⟩) ?_ ?_
    rotate_left
    · intro w'
      go_simp
      with_reducible rfl
    rotate_left
    · simp only [Act.put, List.setIfInBounds_toArray, List.set_cons_zero, List.set_cons_succ, i64_w, i32_w]
      rfl
    refine pure_ (i := 13) (N := (some 24)) (v := ?_) (a' := ?_) #[true, false, true, true, true, false, true, false, false, true, true, true, false, true, false, false, false, false, false, false] rfl rfl (by kernel_rfl) (fun _ _ _ h => h) (Or.inl ⟨by rfl, ?_⟩) ?_ ?_
    rotate_left
    · intro w'
      go_simp
      with_reducible rfl
    rotate_left
    · simp only [Act.put, List.setIfInBounds_toArray, List.set_cons_zero, List.set_cons_succ, i64_w, i32_w]
      rfl
    refine pure_ (i := 14) (N := (some 25)) (v := ?_) (a' := ?_) #[true, false, true, true, true, false, true, false, false, true, true, true, false, true, true, false, false, false, false, false] rfl rfl (by kernel_rfl) (fun _ _ _ h => h) (Or.inl ⟨by rfl, ?_⟩) ?_ ?_
    rotate_left
    · intro w'
      go_simp
      with_reducible rfl
    rotate_left
    · simp only [Act.put, List.setIfInBounds_toArray, List.set_cons_zero, List.set_cons_succ, i64_w, i32_w]
      rfl
    refine take_ (i := 5) (N := (some 16)) (v := ?_) (a' := ?_) #[true, false, true, true, true, true, true, false, false, true, true, true, false, true, true, false, false, false, false, false] rfl rfl (by kernel_rfl) (fun _ _ _ h => h) (Or.inl ⟨by rfl, ?_⟩) hHeld ?_ ?_
    rotate_left
    · intro w' s0
      go_simp
      with_reducible rfl
    rotate_left
    · simp only [Act.put, List.setIfInBounds_toArray, List.set_cons_zero, List.set_cons_succ, i64_w, i32_w]
      rfl
    refine pure_ (i := 7) (N := (some 18)) (v := ?_) (a' := ?_) #[true, false, true, true, true, true, true, true, false, true, true, true, false, true, true, false, false, false, false, false] rfl rfl (by kernel_rfl) (fun _ _ _ h => h) (Or.inl ⟨by rfl, ?_⟩) ?_ ?_
    rotate_left
    · intro w'
      go_simp
      with_reducible rfl
    rotate_left
    · simp only [Act.put, List.setIfInBounds_toArray, List.set_cons_zero, List.set_cons_succ, i64_w, i32_w]
      rfl
    refine take_ (i := 12) (N := (some 23)) (v := ?_) (a' := ?_) #[true, false, true, true, true, true, true, true, false, true, true, true, true, true, true, false, false, false, false, false] rfl rfl (by kernel_rfl) (fun _ _ _ h => h) (Or.inl ⟨by rfl, ?_⟩) hHeld ?_ ?_
    rotate_left
    · intro w' s0
      go_simp
      with_reducible rfl
    rotate_left
    · simp only [Act.put, List.setIfInBounds_toArray, List.set_cons_zero, List.set_cons_succ, i64_w, i32_w]
      rfl
    refine pure_ (i := 15) (N := (some 26)) (v := ?_) (a' := ?_) #[true, false, true, true, true, true, true, true, false, true, true, true, true, true, true, true, false, false, false, false] rfl rfl (by kernel_rfl) (fun _ _ _ h => h) (Or.inl ⟨by rfl, ?_⟩) ?_ ?_
    rotate_left
    · intro w'
      go_simp
      with_reducible rfl
    rotate_left
    · simp only [Act.put, List.setIfInBounds_toArray, List.set_cons_zero, List.set_cons_succ, i64_w, i32_w]
      rfl
    refine one_ (i := 1) (N := (some 12)) #[true, true, true, true, true, true, true, true, false, true, true, true, true, true, true, true, false, false, false, false] rfl rfl (by kernel_rfl) (by decide) (fun K hK => ?_)
    refine value_ (v := .slice (some ⟨w4.heap.size, 0, none⟩) 0 0) (w1 := w4.alloc (.cells #[] 45 (0, 0))) (by rfl) rfl ?_ ?_
    · go_simp
    have hb : Below w4.heap.size w4 (w4.alloc (.cells #[] 45 (0, 0))) := below_alloc (Below.refl _ _) _
    have OE := Aside0.mk (own_empty (base := w.heap.size) (w := w4) BL.out.size)
    replace BL : Aside0 (Below w.heap.size w (w4.alloc (.cells #[] 45 (0, 0)))) := ⟨below_step BL.out hb⟩
    clear hb hHeld
    generalize w4.alloc (.cells #[] 45 (0, 0)) = w31 at *
    generalize w4.heap.size = gE at *
    refine hK.out _ _ (CM.out _ BL.out) (fun hHeld => ?_)
    clear hK K
    refine norm_ (a' := ?_) ?_ ?_
    rotate_left
    · show Act.put _ (some 12) _ = _
      simp only [Act.put, List.setIfInBounds_toArray, List.set_cons_zero, List.set_cons_succ, i64_w, i32_w]
      rfl
    refine one_ (i := 8) (N := (some 19)) #[true, true, true, true, true, true, true, true, true, true, true, true, true, true, true, true, false, false, false, false] rfl rfl (by kernel_rfl) (by decide) (fun K hK => ?_)
    rw [if_pos (by rfl)]
    obtain ⟨i45, hi45, hz45, hsz45, hby45⟩ := info_parts info45
    refine wp_app_src (.tmp 12) (.tmp 18) 28 rfl w.heap.size 45 i45 _ 2 40 Tryd.underlying28 hi45 hz45 hsz45 hby45 rfl (by decide) (.slice (some ⟨gE, 0, none⟩) 0 0) 0 [] rfl OE.out (some ⟨ga, 0, none⟩) i (i + 1) ((volCells L gs).take (i * 2)) rfl VT.out (src_take (cap := i + 1) (SRC.out _ BL.out) hil) (fun u hu => volCells_one L gs u (List.mem_of_mem_take hu)) (by unfold maxLen; omega) (by omega) BL.out.size ?_
    intro v6 w32 own6 grow6 at6
    simp only [Nat.zero_add, List.nil_append] at own6
    have O6 := Aside0.mk own6
    replace BL : Aside0 (Below w.heap.size w w32) := ⟨BL.out.grown grow6 BL.out.size (fun k hk => (OE.out.lt k hk).1)⟩
    clear own6 grow6 at6 OE hHeld hi45 hz45 hsz45 hby45
    refine hK.out _ _ (CM.out _ BL.out) (fun hHeld => ?_)
    clear hK K
    refine norm_ (a' := ?_) ?_ ?_
    rotate_left
    · show Act.put _ (some 19) _ = _
      simp only [Act.put, List.setIfInBounds_toArray, List.set_cons_zero, List.set_cons_succ, i64_w, i32_w]
      rfl
    refine one_ (i := 16) (N := (some 27)) #[true, true, true, true, true, true, true, true, true, true, true, true, true, true, true, true, true, false, false, false] rfl rfl (by kernel_rfl) (by decide) (fun K hK => ?_)
    rw [if_pos (by rfl)]
    obtain ⟨i45, hi45, hz45, hsz45, hby45⟩ := info_parts info45
    refine wp_app_src (.tmp 19) (.tmp 26) 28 rfl w.heap.size 45 i45 _ 2 40 Tryd.underlying28 hi45 hz45 hsz45 hby45 rfl (by decide) v6 i ((volCells L gs).take (i * 2)) rfl O6.out (some ⟨ga, 0, none⟩) 0 0 ((volCells L gs).drop ((i + 1) * 2)) rfl (by rw [VD.out, Nat.sub_self]) (fun h => absurd h (by omega)) (fun u hu => volCells_one L gs u (List.mem_of_mem_drop hu)) (by unfold maxLen; omega) (by omega) BL.out.size ?_
    intro v12 w33 own12 grow12 at12
    have O12 := Aside0.mk own12
    replace BL : Aside0 (Below w.heap.size w w33) := ⟨BL.out.grown grow12 BL.out.size (fun k hk => (O6.out.lt k hk).1)⟩
    obtain ⟨A12, n12, c12, rfl⟩ : ∃ A12 n12 c12, v12 = .slice A12 n12 c12 := by
      rcases own12.2 with ⟨h, _⟩ | ⟨g7, cap7, _, h, _⟩
      · exact ⟨_, _, _, h⟩
      · exact ⟨_, _, cap7, h⟩
    clear own12 grow12 at12 O6 hHeld hi45 hz45 hsz45 hby45
    refine hK.out _ _ (CM.out _ BL.out) (fun hHeld => ?_)
    clear hK K
    refine norm_ (a' := ?_) ?_ ?_
    rotate_left
    · show Act.put _ (some 27) _ = _
      simp only [Act.put, List.setIfInBounds_toArray, List.set_cons_zero, List.set_cons_succ, i64_w, i32_w]
      rfl
    refine pure_ (i := 17) (N := (some 28)) (v := ?_) (a' := ?_) #[true, true, true, true, true, true, true, true, true, true, true, true, true, true, true, true, true, true, false, false] rfl rfl (by kernel_rfl) (fun _ _ _ h => h) (Or.inl ⟨by rfl, ?_⟩) ?_ ?_
    rotate_left
    · intro w'
      go_simp
      with_reducible rfl
    rotate_left
    · simp only [Act.put, List.setIfInBounds_toArray, List.set_cons_zero, List.set_cons_succ, i64_w, i32_w]
      rfl
    refine pure_ (i := 18) (N := (some 29)) (v := ?_) (a' := ?_) #[true, true, true, true, true, true, true, true, true, true, true, true, true, true, true, true, true, true, true, false] rfl rfl (by kernel_rfl) (fun _ _ _ h => h) (Or.inl ⟨by rfl, ?_⟩) ?_ ?_
    rotate_left
    · intro w'
      go_simp
      with_reducible rfl
    rotate_left
    · simp only [Act.put, List.setIfInBounds_toArray, List.set_cons_zero, List.set_cons_succ, i64_w, i32_w]
      rfl
    refine last_ (i := 19) (N := none) #[true, true, true, true, true, true, true, true, true, true, true, true, true, true, true, true, true, true, true, true] rfl rfl (by kernel_rfl) (by decide) (fun K hK => ?_)
    have M7 := blk_below RR.out.m BL.out
    have c7 := CM.out _ BL.out
    have f7 := blk_frozen M7 0
    have fin := Aside0.mk (repq_erase (v' := (.slice A12 n12 c12)) RR.out BL.out (by rw [HLn.out]; exact hil) (by rw [HLn.out]; rw [Nat.sub_self]; exact O12.out))
    refine skip_ (w1 := w33.setCell ⟨mb, 0, none⟩ (.slice A12 n12 c12)) (by rfl) rfl ?_ ?_
    · go_simp
    refine hK.out _ _ ?_
    clear hK K
    refine done_ (by kernel_rfl) ?_
    go_wp2
    go_ret
    exact ⟨rfl, _, _, fin.out.1, fin.out.2⟩
  · have hne : ¬ (cap = i + 1) := by omega
    go_enter Tryd.func13, Tryd.ntmps13
    go_wp2_with fail
    refine HI.out.mono ?_
    rintro e w1 ⟨rfl, hb⟩
    have BL0 := Aside0.mk hb
    have cm := CM.out _ hb
    clear hb cm
    go_wp2_with fail
    have BL : Aside0 (Below w.heap.size w w1.drew) := ⟨below_drew1 BL0.out⟩
    clear BL0 HI
    refine start_ (n := 20) (S := fun w' => w'.cell? ⟨mb, 0, none⟩ = some (.slice (some ⟨ga, 0, none⟩) len cap)) (ds := [19]) #[false, false, false, false, false, false, false, false, false, false, false, false, false, false, false, false, false, false, false, false] (by kernel_rfl) rfl rfl (CM.out _ BL.out) (fun hHeld => ?_)
    generalize w1.drew = w4 at *
    refine pure_ (i := 0) (N := (some 11)) (v := ?_) (a' := ?_) #[true, false, false, false, false, false, false, false, false, false, false, false, false, false, false, false, false, false, false, false] rfl rfl (by kernel_rfl) (fun _ _ _ h => h) (Or.inl ⟨by rfl, ?_⟩) ?_ ?_
    rotate_left
    · intro w'
      go_simp
      with_reducible rfl
    rotate_left
    · simp only [Act.put, List.setIfInBounds_toArray, List.set_cons_zero, List.set_cons_succ, i64_w, i32_w]
      rfl
    refine pure_ (i := 2) (N := (some 13)) (v := ?_) (a' := ?_) #[true, false, true, false, false, false, false, false, false, false, false, false, false, false, false, false, false, false, false, false] rfl rfl (by kernel_rfl) (fun _ _ _ h => h) (Or.inl ⟨by rfl, ?_⟩) ?_ ?_
    rotate_left
    · intro w'
      go_simp
      with_reducible rfl
    rotate_left
    · simp only [Act.put, List.setIfInBounds_toArray, List.set_cons_zero, List.set_cons_succ, i64_w, i32_w]
      rfl
    refine pure_ (i := 3) (N := (some 14)) (v := ?_) (a' := ?_) #[true, false, true, true, false, false, false, false, false, false, false, false, false, false, false, false, false, false, false, false] rfl rfl (by kernel_rfl) (fun _ _ _ h => h) (Or.inl ⟨by rfl, ?_⟩) ?_ ?_
    rotate_left
    · intro w'
      go_simp
      with_reducible rfl
    rotate_left
    · simp only [Act.put, List.setIfInBounds_toArray, List.set_cons_zero, List.set_cons_succ, i64_w, i32_w]
      rfl
    refine pure_ (i := 4) (N := (some 15)) (v := ?_) (a' := ?_) #[true, false, true, true, true, false, false, false, false, false, false, false, false, false, false, false, false, false, false, false] rfl rfl (by kernel_rfl) (fun _ _ _ h => h) (Or.inl ⟨by rfl, ?_⟩) ?_ ?_
    rotate_left
    · intro w'
      go_simp
      with_reducible rfl
    rotate_left
    · simp only [Act.put, List.setIfInBounds_toArray, List.set_cons_zero, List.set_cons_succ, i64_w, i32_w]
      rfl
    refine pure_ (i := 6) (N := (some 17)) (v := ?_) (a' := ?_) #[true, false, true, true, true, false, true, false, false, false, false, false, false, false, false, false, false, false, false, false] rfl rfl (by kernel_rfl) (fun _ _ _ h => h) (Or.inl ⟨by rfl, ?_⟩) ?_ ?_
    rotate_left
    · intro w'
      go_simp
      with_reducible rfl
    rotate_left
    · simp only [Act.put, List.setIfInBounds_toArray, List.set_cons_zero, List.set_cons_succ, i64_w, i32_w]
      rfl
    refine pure_ (i := 9) (N := (some 20)) (v := ?_) (a' := ?_) #[true, false, true, true, true, false, true, false, false, true, false, false, false, false, false, false, false, false, false, false] rfl rfl (by kernel_rfl) (fun _ _ _ h => h) (Or.inl ⟨by rfl, ?_⟩) ?_ ?_
    rotate_left
    · intro w'
      go_simp
      with_reducible rfl
    rotate_left
    · simp only [Act.put, List.setIfInBounds_toArray, List.set_cons_zero, List.set_cons_succ, i64_w, i32_w]
      rfl
    refine pure_ (i := 10) (N := (some 21)) (v := ?_) (a' := ?_) #[true, false, true, true, true, false, true, false, false, true, true, false, false, false, false, false, false, false, false, false] rfl rfl (by kernel_rfl) (fun _ _ _ h => h) (Or.inl ⟨by rfl, ?_⟩) ?_ ?_
    rotate_left
    · intro w'
      go_simp
      with_reducible rfl
    rotate_left
    · simp only [Act.put, List.setIfInBounds_toArray, List.set_cons_zero, List.set_cons_succ, i64_w, i32_w]
      rfl
    refine pure_ (i := 11) (N := (some 22)) (v := ?_) (a' := ?_) #[true, false, true, true, true, false, true, false, false, true, true, true, false, false, false, false, false, false, false, false] rfl rfl (by kernel_rfl) (fun _ _ _ h => h) (Or.inl ⟨by rfl, ?_⟩) ?_ ?_
    rotate_left
    · intro w'
      go_simp
      with_reducible rfl
    rotate_left
    · simp only [Act.put, List.setIfInBounds_toArray, List.set_cons_zero, List.set_cons_succ, i64_w, i32_w]
      rfl
    refine pure_ (i := 13) (N := (some 24)) (v := ?_) (a' := ?_) #[true, false, true, true, true, false, true, false, false, true, true, true, false, true, false, false, false, false, false, false] rfl rfl (by kernel_rfl) (fun _ _ _ h => h) (Or.inl ⟨by rfl, ?_⟩) ?_ ?_
    rotate_left
    · intro w'
      go_simp
      with_reducible rfl
    rotate_left
    · simp only [Act.put, List.setIfInBounds_toArray, List.set_cons_zero, List.set_cons_succ, i64_w, i32_w]
      rfl
    refine pure_ (i := 14) (N := (some 25)) (v := ?_) (a' := ?_) #[true, false, true, true, true, false, true, false, false, true, true, true, false, true, true, false, false, false, false, false] rfl rfl (by kernel_rfl) (fun _ _ _ h => h) (Or.inl ⟨by rfl, ?_⟩) ?_ ?_
    rotate_left
    · intro w'
      go_simp
      with_reducible rfl
    rotate_left
    · simp only [Act.put, List.setIfInBounds_toArray, List.set_cons_zero, List.set_cons_succ, i64_w, i32_w]
      rfl
    refine take_ (i := 5) (N := (some 16)) (v := ?_) (a' := ?_) #[true, false, true, true, true, true, true, false, false, true, true, true, false, true, true, false, false, false, false, false] rfl rfl (by kernel_rfl) (fun _ _ _ h => h) (Or.inl ⟨by rfl, ?_⟩) hHeld ?_ ?_
    rotate_left
    · intro w' s0
      go_simp
      with_reducible rfl
    rotate_left
    · simp only [Act.put, List.setIfInBounds_toArray, List.set_cons_zero, List.set_cons_succ, i64_w, i32_w]
      rfl
    refine pure_ (i := 7) (N := (some 18)) (v := ?_) (a' := ?_) #[true, false, true, true, true, true, true, true, false, true, true, true, false, true, true, false, false, false, false, false] rfl rfl (by kernel_rfl) (fun _ _ _ h => h) (Or.inl ⟨by rfl, ?_⟩) ?_ ?_
    rotate_left
    · intro w'
      go_simp
      with_reducible rfl
    rotate_left
    · simp only [Act.put, List.setIfInBounds_toArray, List.set_cons_zero, List.set_cons_succ, i64_w, i32_w]
      rfl
    refine take_ (i := 12) (N := (some 23)) (v := ?_) (a' := ?_) #[true, false, true, true, true, true, true, true, false, true, true, true, true, true, true, false, false, false, false, false] rfl rfl (by kernel_rfl) (fun _ _ _ h => h) (Or.inl ⟨by rfl, ?_⟩) hHeld ?_ ?_
    rotate_left
    · intro w' s0
      go_simp
      with_reducible rfl
    rotate_left
    · simp only [Act.put, List.setIfInBounds_toArray, List.set_cons_zero, List.set_cons_succ, i64_w, i32_w]
      rfl
    refine pure_ (i := 15) (N := (some 26)) (v := ?_) (a' := ?_) #[true, false, true, true, true, true, true, true, false, true, true, true, true, true, true, true, false, false, false, false] rfl rfl (by kernel_rfl) (fun _ _ _ h => h) (Or.inl ⟨by rfl, ?_⟩) ?_ ?_
    rotate_left
    · intro w'
      go_simp
      with_reducible rfl
    rotate_left
    · simp only [Act.put, List.setIfInBounds_toArray, List.set_cons_zero, List.set_cons_succ, i64_w, i32_w]
      rfl
    refine one_ (i := 1) (N := (some 12)) #[true, true, true, true, true, true, true, true, false, true, true, true, true, true, true, true, false, false, false, false] rfl rfl (by kernel_rfl) (by decide) (fun K hK => ?_)
    refine value_ (v := .slice (some ⟨w4.heap.size, 0, none⟩) 0 0) (w1 := w4.alloc (.cells #[] 45 (0, 0))) (by rfl) rfl ?_ ?_
    · go_simp
    have hb : Below w4.heap.size w4 (w4.alloc (.cells #[] 45 (0, 0))) := below_alloc (Below.refl _ _) _
    have OE := Aside0.mk (own_empty (base := w.heap.size) (w := w4) BL.out.size)
    replace BL : Aside0 (Below w.heap.size w (w4.alloc (.cells #[] 45 (0, 0)))) := ⟨below_step BL.out hb⟩
    clear hb hHeld
    generalize w4.alloc (.cells #[] 45 (0, 0)) = w31 at *
    generalize w4.heap.size = gE at *
    refine hK.out _ _ (CM.out _ BL.out) (fun hHeld => ?_)
    clear hK K
    refine norm_ (a' := ?_) ?_ ?_
    rotate_left
    · show Act.put _ (some 12) _ = _
      simp only [Act.put, List.setIfInBounds_toArray, List.set_cons_zero, List.set_cons_succ, i64_w, i32_w]
      rfl
    refine one_ (i := 8) (N := (some 19)) #[true, true, true, true, true, true, true, true, true, true, true, true, true, true, true, true, false, false, false, false] rfl rfl (by kernel_rfl) (by decide) (fun K hK => ?_)
    rw [if_pos (by rfl)]
    obtain ⟨i45, hi45, hz45, hsz45, hby45⟩ := info_parts info45
    refine wp_app_src (.tmp 12) (.tmp 18) 28 rfl w.heap.size 45 i45 _ 2 40 Tryd.underlying28 hi45 hz45 hsz45 hby45 rfl (by decide) (.slice (some ⟨gE, 0, none⟩) 0 0) 0 [] rfl OE.out (some ⟨ga, 0, none⟩) i cap ((volCells L gs).take (i * 2)) rfl VT.out (src_take (cap := cap) (SRC.out _ BL.out) hil) (fun u hu => volCells_one L gs u (List.mem_of_mem_take hu)) (by unfold maxLen; omega) (by omega) BL.out.size ?_
    intro v6 w32 own6 grow6 at6
    simp only [Nat.zero_add, List.nil_append] at own6
    have O6 := Aside0.mk own6
    replace BL : Aside0 (Below w.heap.size w w32) := ⟨BL.out.grown grow6 BL.out.size (fun k hk => (OE.out.lt k hk).1)⟩
    clear own6 grow6 at6 OE hHeld hi45 hz45 hsz45 hby45
    refine hK.out _ _ (CM.out _ BL.out) (fun hHeld => ?_)
    clear hK K
    refine norm_ (a' := ?_) ?_ ?_
    rotate_left
    · show Act.put _ (some 19) _ = _
      simp only [Act.put, List.setIfInBounds_toArray, List.set_cons_zero, List.set_cons_succ, i64_w, i32_w]
      rfl
    refine one_ (i := 16) (N := (some 27)) #[true, true, true, true, true, true, true, true, true, true, true, true, true, true, true, true, true, false, false, false] rfl rfl (by kernel_rfl) (by decide) (fun K hK => ?_)
    rw [if_pos (by rfl)]
    obtain ⟨i45, hi45, hz45, hsz45, hby45⟩ := info_parts info45
    refine wp_app_src (.tmp 19) (.tmp 26) 28 rfl w.heap.size 45 i45 _ 2 40 Tryd.underlying28 hi45 hz45 hsz45 hby45 rfl (by decide) v6 i ((volCells L gs).take (i * 2)) rfl O6.out (some ⟨ga, (i + 1) * 2, none⟩) (len - (i + 1)) (cap - (i + 1)) ((volCells L gs).drop ((i + 1) * 2)) rfl VD.out (src_drop (SRC.out _ BL.out) hil) (fun u hu => volCells_one L gs u (List.mem_of_mem_drop hu)) (by unfold maxLen; omega) (by omega) BL.out.size ?_
    intro v12 w33 own12 grow12 at12
    have O12 := Aside0.mk own12
    replace BL : Aside0 (Below w.heap.size w w33) := ⟨BL.out.grown grow12 BL.out.size (fun k hk => (O6.out.lt k hk).1)⟩
    obtain ⟨A12, n12, c12, rfl⟩ : ∃ A12 n12 c12, v12 = .slice A12 n12 c12 := by
      rcases own12.2 with ⟨h, _⟩ | ⟨g7, cap7, _, h, _⟩
      · exact ⟨_, _, _, h⟩
      · exact ⟨_, _, cap7, h⟩
    clear own12 grow12 at12 O6 hHeld hi45 hz45 hsz45 hby45
    refine hK.out _ _ (CM.out _ BL.out) (fun hHeld => ?_)
    clear hK K
    refine norm_ (a' := ?_) ?_ ?_
    rotate_left
    · show Act.put _ (some 27) _ = _
      simp only [Act.put, List.setIfInBounds_toArray, List.set_cons_zero, List.set_cons_succ, i64_w, i32_w]
      rfl
    refine pure_ (i := 17) (N := (some 28)) (v := ?_) (a' := ?_) #[true, true, true, true, true, true, true, true, true, true, true, true, true, true, true, true, true, true, false, false] rfl rfl (by kernel_rfl) (fun _ _ _ h => h) (Or.inl ⟨by rfl, ?_⟩) ?_ ?_
    rotate_left
    · intro w'
      go_simp
      with_reducible rfl
    rotate_left
    · simp only [Act.put, List.setIfInBounds_toArray, List.set_cons_zero, List.set_cons_succ, i64_w, i32_w]
      rfl
    refine pure_ (i := 18) (N := (some 29)) (v := ?_) (a' := ?_) #[true, true, true, true, true, true, true, true, true, true, true, true, true, true, true, true, true, true, true, false] rfl rfl (by kernel_rfl) (fun _ _ _ h => h) (Or.inl ⟨by rfl, ?_⟩) ?_ ?_
    rotate_left
    · intro w'
      go_simp
      with_reducible rfl
    rotate_left
    · simp only [Act.put, List.setIfInBounds_toArray, List.set_cons_zero, List.set_cons_succ, i64_w, i32_w]
      rfl
    refine last_ (i := 19) (N := none) #[true, true, true, true, true, true, true, true, true, true, true, true, true, true, true, true, true, true, true, true] rfl rfl (by kernel_rfl) (by decide) (fun K hK => ?_)
    have M7 := blk_below RR.out.m BL.out
    have c7 := CM.out _ BL.out
    have f7 := blk_frozen M7 0
    have fin := Aside0.mk (repq_erase (v' := (.slice A12 n12 c12)) RR.out BL.out (by rw [HLn.out]; exact hil) (by rw [HLn.out]; exact O12.out))
    refine skip_ (w1 := w33.setCell ⟨mb, 0, none⟩ (.slice A12 n12 c12)) (by rfl) rfl ?_ ?_
    · go_simp
    refine hK.out _ _ ?_
    clear hK K
    refine done_ (by kernel_rfl) ?_
    go_wp2
    go_ret
    exact ⟨rfl, _, _, fin.out.1, fin.out.2⟩

theorem gone_q {base : Nat} {w : World} {mb : Nat} {L : List Vol} {gs : List Nat} {v : Value} (r : RepQ base w mb L gs v) (name : ByteArray) :
    Calls Tryd.prog 13 #[.pointer (some ⟨mb, 0, none⟩), .string name] w fun e w' => e = .returned (.int .i64 (goneRes L name)) ∧ ∃ gs' v', RepQ base w' mb (goneL L name) gs' v' ∧ Moves (foot mb gs v) (foot mb gs' v') w w' := by
  by_cases hi : ix L name < 0
  · refine (gone_qerr r name hi).mono ?_
    rintro e w' ⟨rfl, hb⟩
    exact ⟨by unfold goneRes; rw [if_pos hi], gs, v, by unfold goneL; rw [if_pos hi]; exact r.below hb, .of_below hb⟩
  · obtain ⟨i, hi'⟩ := Int.eq_ofNat_of_zero_le (show 0 ≤ ix L name by omega)
    refine (gone_qok r name i hi').mono ?_
    rintro e w' ⟨rfl, gs', v', R, M⟩
    exact ⟨by unfold goneRes; rw [if_neg hi], gs', v', by unfold goneL; rw [if_neg hi, hi', Int.toNat_natCast]; exact R, M⟩

end Go.Proofs.YtkppnamblmaokaaDoor.RefF

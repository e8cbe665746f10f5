/- How a model lies in memory; what is asked of it without a change. -/
import Derived.Test.YtkppnamblmaokaaDoorModB
import Derived.Deep.OwnRows
namespace Go.Proofs.YtkppnamblmaokaaDoor.ModC
open Go.RowKit Go.Proofs.YtkppnamblmaokaaDoorW.PrintWords Go.Proofs.YtkppnamblmaokaaDoorW.PrintLast Go.Proofs.YtkppnamblmaokaaDoorW.PrintMore Go.Proofs.YtkppnamblmaokaaDoor.ModA Go.Proofs.YtkppnamblmaokaaDoor.ModB
set_option linter.unusedVariables false
set_option linter.unusedSimpArgs false

structure Vol where
  name : ByteArray
  blocks : List (List Int)
def Vol.cells (v : Vol) (g : Nat) : List Value := [.string v.name, .slice (some ⟨g, 0, none⟩) v.blocks.length v.blocks.length]
def blkCells (bs : List (List Int)) : List Value := bs.flatMap fun b => b.map (Value.int .u8)
def volCells : List Vol → List Nat → List Value
  | v :: L, g :: gs => v.cells g ++ volCells L gs
  | _, _ => []
theorem volCells_get : ∀ (L : List Vol) (gs : List Nat) (i : Nat) (v : Vol) (g : Nat), L[i]? = some v → gs[i]? = some g →
    (volCells L gs)[i * 2]? = some (.string v.name) ∧ (volCells L gs)[i * 2 + 1]? = some (.slice (some ⟨g, 0, none⟩) v.blocks.length v.blocks.length)
  | u :: L, h :: gs, 0, v, g, h1, h2 => by simp at h1 h2; subst h1 h2; simp [volCells, Vol.cells]
  | u :: L, h :: gs, i + 1, v, g, h1, h2 => by
    simp at h1 h2
    have := volCells_get L gs i v g h1 h2
    have e : (i + 1) * 2 = i * 2 + 2 := by omega
    rw [e]
    simpa [volCells, Vol.cells] using this
  | [], _, _, _, _, h1, _ => by simp at h1
  | _ :: _, [], _, _, _, _, h2 => by simp at h2

/-- The model L lies at block mb, its volumes' blocks at gs, all of it from block base on. -/
structure Rep (base : Nat) (w : World) (mb : Nat) (L : List Vol) (gs : List Nat) (v : Value) : Prop where
  ge : base ≤ mb
  m : w.heap[mb]? = some (.cells #[v] 71 (0, 0))
  own : w.ownsRow base 74 2 v L.length (volCells L gs)
  len : gs.length = L.length
  blk : ∀ (i : Nat) (x : Vol) (g : Nat), L[i]? = some x → gs[i]? = some g → base ≤ g ∧ w.heap[g]? = some (.cells (blkCells x.blocks).toArray 32 (0, 0))
  size : ∀ (i : Nat) (x : Vol), L[i]? = some x → x.blocks.length ≤ 4 ∧ ∀ b ∈ x.blocks, b.length = 32
  few : L.length ≤ 3
  nodup : gs.Nodup
  mb1 : mb ∉ gs
  mb2 : v.ownBlock ≠ some mb
  row : ∀ g ∈ gs, v.ownBlock ≠ some g

/-- The slice of a model: empty, or at the head of a block. -/
theorem Rep.slice {base : Nat} {w : World} {mb : Nat} {L : List Vol} {gs : List Nat} {v : Value} (r : Rep base w mb L gs v) :
    (∃ A cap, v = .slice A 0 cap ∧ L = []) ∨ ∃ ga cap, v = .slice (some ⟨ga, 0, none⟩) L.length cap ∧ L.length ≤ cap ∧ cap ≤ maxLen ∧
      ∀ (i : Nat) (x : Vol) (g : Nat), L[i]? = some x → gs[i]? = some g → w.cell? ⟨ga, i * 2, none⟩ = some (.string x.name) ∧ w.cell? ⟨ga, i * 2 + 1, none⟩ = some (.slice (some ⟨g, 0, none⟩) x.blocks.length x.blocks.length) := by
  rcases r.own.2 with ⟨hv, hn⟩ | ⟨ga, cap, cur, hv, _, hg, h1, h2, h3, h4⟩
  · exact .inl ⟨none, 0, hv, List.eq_nil_of_length_eq_zero hn⟩
  · refine .inr ⟨ga, cap, hv, h1, h2, fun i x g hx hgi => ?_⟩
    obtain ⟨k1, k2⟩ := volCells_get L gs i x g hx hgi
    have hi : i < L.length := (List.getElem?_eq_some_iff.1 hx).1
    have get : ∀ j u, j < L.length * 2 → (volCells L gs)[j]? = some u → w.cell? ⟨ga, j, none⟩ = some u := by
      intro j u hj hu
      rw [← h4, List.getElem?_take_of_lt hj] at hu
      rw [cell_of_row w ga j cur 74 (0, 0) hg]
      simpa using hu
    exact ⟨get _ _ (by omega) k1, get _ _ (by omega) k2⟩

theorem Rep.below {base : Nat} {w : World} {mb : Nat} {L : List Vol} {gs : List Nat} {v : Value} (r : Rep base w mb L gs v) {w' : World} (hb : Below w.heap.size w w') : Rep base w' mb L gs v :=
  ⟨r.ge, blk_below r.m hb, r.own.kept (grown_of_below hb none) (by cases v.ownBlock <;> simp), r.len, fun i x g h1 h2 => ⟨(r.blk i x g h1 h2).1, blk_below (r.blk i x g h1 h2).2 hb⟩, r.size, r.few, r.nodup, r.mb1, r.mb2, r.row⟩

set_option maxHeartbeats 400000 in
theorem indexFunc_nil (A : Option Addr) (cap : Nat) (name : ByteArray) (g : Nat) (w : World) :
    Calls Tryd.prog 40 #[.slice A 0 cap, .func (.func 41) #[] #[.pointer (some ⟨g, 0, none⟩)]] w fun e w' => e = .returned (.int .i64 (-1)) ∧ Below w.heap.size w w' := by
  go_enter Tryd.func40, Tryd.ntmps40
  go_wp2_with fail
  go_loopw [8] (fun v wr => v = .int .i64 0 ∧ Aside0 (wr = w)) (fun _ _ => 0)
  case atStart => exact ⟨rfl, ⟨rfl⟩⟩
  case round =>
    obtain ⟨rfl, HW⟩ := hrel
    go_wp2_with fail
    go_ret
    exact ⟨rfl, HW.out ▸ Below.refl _ _⟩

set_option maxHeartbeats 400000 in
theorem index_any {base : Nat} {w : World} {mb : Nat} {L : List Vol} {gs : List Nat} {v : Value} (r : Rep base w mb L gs v) (name : ByteArray) :
    Calls Tryd.prog 29 #[.pointer (some ⟨mb, 0, none⟩), .string name] w fun e w' => e = .returned (.int .i64 (idx name (L.map (·.name)))) ∧ Below w.heap.size w w' := by
  have cm : (w.alloc (.cells #[.string name] 9 (0, 0))).cell? ⟨mb, 0, none⟩ = some v := cell_alloc_old ((blk_cell r.m 0).trans rfl)
  have BN := Aside0.mk (blk_new w (.cells #[.string name] 9 (0, 0)))
  have BL := Aside0.mk (below_alloc (Below.refl w.heap.size w) (.cells #[.string name] 9 (0, 0)))
  rcases r.slice with ⟨A, cap, rfl, rfl⟩ | ⟨ga, cap, rfl, h1, h2, h3⟩
  · clear r
    go_enter Tryd.func29, Tryd.ntmps29
    go_wp2_with fail
    refine (indexFunc_nil A cap name _ _).mono ?_
    rintro e w1 ⟨rfl, hb⟩
    go_wp2
    go_ret
    exact ⟨rfl, below_step BL.out hb⟩
  · have hf := r.few
    have hl : (L.map (·.name)).length = L.length := List.length_map ..
    have hc := indexFunc_any ga cap (L.map (·.name)) (fun i => .slice (some ⟨gs.getD i 0, 0, none⟩) (L.getD i ⟨name, []⟩).blocks.length (L.getD i ⟨name, []⟩).blocks.length) name w.heap.size (w.alloc (.cells #[.string name] 9 (0, 0))) (by rw [hl]; exact h1) (by rw [hl]; omega)
      (fun i s hs => by
        rw [List.getElem?_map] at hs
        obtain ⟨x, hx, rfl⟩ := Option.map_eq_some_iff.1 hs
        have hi : i < gs.length := by rw [r.len]; exact (List.getElem?_eq_some_iff.1 hx).1
        have hg : gs[i]? = some gs[i] := by simp [hi]
        obtain ⟨k1, k2⟩ := h3 i x gs[i] hx hg
        refine ⟨cell_alloc_old k1, ?_, rfl⟩
        have e1 : gs.getD i 0 = gs[i] := by simp [hi]
        have e2 : L.getD i ⟨name, []⟩ = x := by simp [hx]
        rw [e1, e2]
        exact cell_alloc_old k2)
      ((blk_cell BN.out 0).trans rfl)
    rw [hl] at hc
    have HCo := Aside0.mk hc
    clear hc h3 r hl
    go_enter Tryd.func29, Tryd.ntmps29
    go_wp2_with fail
    refine HCo.out.mono ?_
    rintro e w1 ⟨rfl, hb⟩
    go_wp2
    go_ret
    exact ⟨rfl, below_step BL.out hb⟩

end Go.Proofs.YtkppnamblmaokaaDoor.ModC

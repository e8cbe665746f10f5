/- What a model tells: what is free, its names. -/
import Derived.Test.YtkppnamblmaokaaDoorModC
namespace Go.Proofs.YtkppnamblmaokaaDoor.ModD
open Go.RowKit Go.Proofs.YtkppnamblmaokaaDoorW.PrintWords Go.Proofs.YtkppnamblmaokaaDoorW.PrintLast Go.Proofs.YtkppnamblmaokaaDoorW.PrintMore Go.Proofs.YtkppnamblmaokaaDoor.ModA Go.Proofs.YtkppnamblmaokaaDoor.ModB Go.Proofs.YtkppnamblmaokaaDoor.ModC
set_option linter.unusedVariables false
set_option linter.unusedSimpArgs false

def blocksOf (L : List Vol) : Nat := (L.map (·.blocks.length)).sum
def freeOf (L : List Vol) : Int := 11 - blocksOf L
theorem blocksOf_take (L : List Vol) (i : Nat) (x : Vol) (h : L[i]? = some x) : blocksOf (L.take (i + 1)) = blocksOf (L.take i) + x.blocks.length := by
  unfold blocksOf
  rw [List.take_add_one, h]
  simp
theorem blocksOf_le (L : List Vol) (h : ∀ (i : Nat) (x : Vol), L[i]? = some x → x.blocks.length ≤ 4) : ∀ i, blocksOf (L.take i) ≤ 4 * i
  | 0 => by simp [blocksOf]
  | i + 1 => by
    have ih := blocksOf_le L h i
    cases hx : L[i]? with
    | none =>
      have : L.take (i + 1) = L.take i := by rw [List.take_add_one, hx]; simp
      rw [this]; omega
    | some x =>
      have := h i x hx
      rw [blocksOf_take L i x hx]; omega

set_option maxHeartbeats 1000000 in
theorem free_any {base : Nat} {w : World} {mb : Nat} {L : List Vol} {gs : List Nat} {v : Value} (r : Rep base w mb L gs v) :
    Calls Tryd.prog 20 #[.pointer (some ⟨mb, 0, none⟩)] w fun e w' => e = .returned (.int .i64 (freeOf L)) ∧ Below w.heap.size w w' := by
  have cm : w.cell? ⟨mb, 0, none⟩ = some v := (blk_cell r.m 0).trans rfl
  have BL := Aside0.mk (Below.refl w.heap.size w)
  rcases r.slice with ⟨A, cap, rfl, rfl⟩ | ⟨ga, cap, rfl, h1, h2, h3⟩
  · clear r
    go_enter Tryd.func20, Tryd.ntmps20
    go_wp2_with fail
    go_loopw [3, 13] (fun n i wr => n = .int .i64 11 ∧ i = .int .i64 0 ∧ Aside0 (Below w.heap.size w wr)) (fun _ _ _ => 0)
    case atStart => exact ⟨rfl, rfl, BL⟩
    case round =>
      clear BL
      obtain ⟨rfl, rfl, BL⟩ := hrel
      go_wp2_with fail
      go_ret
      exact ⟨rfl, BL.out⟩
  · have R := Aside0.mk r
    have H3 := Aside0.mk h3
    have hf := r.few
    have hsz := Aside0.mk (blocksOf_le L (fun i x hx => (r.size i x hx).1))
    have hall : Aside0 (blocksOf (L.take L.length) = blocksOf L) := ⟨by rw [List.take_length]⟩
    clear r h3
    generalize hlen : L.length = len at *
    have HL := Aside0.mk hlen
    clear hlen
    go_enter Tryd.func20, Tryd.ntmps20
    go_wp2_with fail
    go_loopw [3, 13] (fun n iv wr => ∃ i : Nat, i ≤ len ∧ iv = .int .i64 i ∧ n = .int .i64 (11 - (blocksOf (L.take i) : Int)) ∧ Aside0 (Below w.heap.size w wr)) (fun _ iv _ => len - (intOf iv).toNat)
    case atStart => exact ⟨0, by omega, rfl, rfl, BL⟩
    case round =>
      clear BL
      obtain ⟨i, hi, rfl, rfl, BL⟩ := hrel
      have hb := hsz.out i
      by_cases hlt : i < len
      · obtain ⟨x, hx⟩ : ∃ x, L[i]? = some x := ⟨L[i]'(by have := HL.out; omega), by simp⟩
        obtain ⟨g, hg⟩ : ∃ g, gs[i]? = some g := ⟨gs[i]'(by have := HL.out; have := R.out.len; omega), by simp⟩
        obtain ⟨k1, k2⟩ := H3.out i x g hx hg
        have c0 := pw_cell_below BL.out k1
        have c1 := pw_cell_below BL.out k2
        have ht := Aside0.mk (blocksOf_take L i x hx)
        have hx4 := (R.out.size i x hx).1
        clear k1 k2 hx hg cm
        generalize blocksOf (L.take i) = n at *
        have BL' := Aside0.mk (below_alloc BL.out (.cells #[.string x.name, .slice (some ⟨g, 0, none⟩) x.blocks.length x.blocks.length] 74 (0, 0)))
        go_wp2_with fail
        go_roundw
        case measure => simp [intOf]; omega
        case rel => exact ⟨i + 1, by omega, by go_num, by rw [ht.out]; congr 1; omega, BL'⟩
      · have : i = len := by omega
        subst this
        go_wp2_with fail
        go_ret
        exact ⟨by unfold freeOf; rw [← hall.out]; rfl, BL.out⟩

end Go.Proofs.YtkppnamblmaokaaDoor.ModD

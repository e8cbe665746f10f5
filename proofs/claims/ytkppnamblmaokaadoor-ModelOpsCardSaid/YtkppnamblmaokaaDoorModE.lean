/- A block of a model's volume: where it lies, what it has, what is written to it. -/
import Derived.Test.YtkppnamblmaokaaDoorModD
namespace Go.Proofs.YtkppnamblmaokaaDoor.ModE
open Go.RowKit Go.Proofs.YtkppnamblmaokaaDoorW.PrintWords Go.Proofs.YtkppnamblmaokaaDoorW.PrintLast Go.Proofs.YtkppnamblmaokaaDoorW.PrintMore Go.Proofs.YtkppnamblmaokaaDoor.ModA Go.Proofs.YtkppnamblmaokaaDoor.ModB Go.Proofs.YtkppnamblmaokaaDoor.ModC Go.Proofs.YtkppnamblmaokaaDoor.ModD
set_option linter.unusedVariables false
set_option linter.unusedSimpArgs false

/-- Why a block is not there; 0: it is. -/
def whyNot (L : List Vol) (name : ByteArray) (at_ : Int) : Int :=
  if idx name (L.map (·.name)) < 0 then 16 else if at_ < 0 ∨ ((L.getD (idx name (L.map (·.name))).toNat ⟨name, []⟩).blocks.length : Int) ≤ at_ then 17 else 0

set_option maxHeartbeats 400000 in
theorem block_no {base : Nat} {w : World} {mb : Nat} {L : List Vol} {gs : List Nat} {v : Value} (r : Rep base w mb L gs v) (name : ByteArray) (at_ : Int) (h : idx name (L.map (·.name)) < 0) :
    Calls Tryd.prog 33 #[.pointer (some ⟨mb, 0, none⟩), .string name, .int .i64 at_] w fun e w' => e = .returned (.tuple #[.pointer none, .int .i64 16]) ∧ Below w.heap.size w w' := by
  have HI := Aside0.mk (index_any r name)
  clear r
  generalize idx name (L.map (·.name)) = i at *
  go_enter Tryd.func33, Tryd.ntmps33
  go_wp2_with fail
  refine HI.out.mono ?_
  rintro e w1 ⟨rfl, hb⟩
  go_wp2
  go_ret2
  exact ⟨rfl, hb⟩

set_option maxHeartbeats 1000000 in
theorem block_some {base : Nat} {w : World} {mb : Nat} {L : List Vol} {gs : List Nat} {v : Value} (r : Rep base w mb L gs v) (name : ByteArray) (at_ : Int) (i : Nat) (x : Vol) (g : Nat)
    (hi : idx name (L.map (·.name)) = i) (hx : L[i]? = some x) (hg : gs[i]? = some g) :
    Calls Tryd.prog 33 #[.pointer (some ⟨mb, 0, none⟩), .string name, .int .i64 at_] w fun e w' => e = .returned (.tuple (if at_ < 0 ∨ (x.blocks.length : Int) ≤ at_ then #[.pointer none, .int .i64 17] else #[.pointer (some ⟨g, at_.toNat * 32, none⟩), .int .i64 0])) ∧ Below w.heap.size w w' := by
  have HI := Aside0.mk (index_any r name)
  rw [hi] at HI
  have hil : i < L.length := (List.getElem?_eq_some_iff.1 hx).1
  have hf := r.few
  have cm := Aside0.mk (show w.cell? ⟨mb, 0, none⟩ = some v from (blk_cell r.m 0).trans rfl)
  rcases r.slice with ⟨A, cap, rfl, rfl⟩ | ⟨ga, cap, rfl, h1, h2, h3⟩
  · simp at hil
  obtain ⟨k1, k2⟩ := h3 i x g hx hg
  have k1 := Aside0.mk k1
  have k2 := Aside0.mk k2
  have hx4 := (r.size i x hx).1
  clear r h3 hx hg hi
  generalize hlen : L.length = len at *
  clear hlen
  by_cases a0 : at_ < 0
  · rw [if_pos (.inl a0)]
    go_enter Tryd.func33, Tryd.ntmps33
    go_wp2_with fail
    refine HI.out.mono ?_
    rintro e w1 ⟨rfl, hb⟩
    go_wp2
    go_ret2
    exact ⟨rfl, hb⟩
  · by_cases a1 : (x.blocks.length : Int) ≤ at_
    · rw [if_pos (.inr a1)]
      generalize x.blocks.length = n at *
      go_enter Tryd.func33, Tryd.ntmps33
      go_wp2_with fail
      refine HI.out.mono ?_
      rintro e w1 ⟨rfl, hb⟩
      have c0 := pw_cell_below hb cm.out
      have c1 := pw_cell_below hb k2.out
      have HB := Aside0.mk hb
      clear hb
      go_wp2
      go_ret2
      exact ⟨rfl, HB.out⟩
    · rw [if_neg (by omega)]
      generalize x.blocks.length = n at *
      obtain ⟨k, rfl⟩ := Int.eq_ofNat_of_zero_le (show 0 ≤ at_ by omega)
      rw [Int.toNat_natCast]
      have hk : k < n := by omega
      clear a0 a1
      go_enter Tryd.func33, Tryd.ntmps33
      go_wp2_with fail
      refine HI.out.mono ?_
      rintro e w1 ⟨rfl, hb⟩
      have c0 := pw_cell_below hb cm.out
      have c1 := pw_cell_below hb k2.out
      have HB := Aside0.mk hb
      clear hb
      go_wp2
      go_ret2
      exact ⟨by simp, HB.out⟩

end Go.Proofs.YtkppnamblmaokaaDoor.ModE

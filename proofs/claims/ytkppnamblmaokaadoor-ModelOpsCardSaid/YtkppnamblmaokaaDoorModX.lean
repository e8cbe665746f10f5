/- How a list of steps that came in reads. -/
import Derived.Test.YtkppnamblmaokaaDoorModU
import Derived.Test.YtkppnamblmaokaaDoorModW
import Derived.Deep.Slices
namespace Go.Proofs.YtkppnamblmaokaaDoor.ModX
open Go.ChangeShapes Go.WideShapes Go.ChangeAt Go.RowKit Go.Proofs.YtkppnamblmaokaaDoor.ModU Go.Proofs.YtkppnamblmaokaaDoor.ModW
set_option linter.unusedVariables false
set_option linter.unusedSimpArgs false
theorem add_none (b o n : Nat) : (Addr.mk b o none).add n = ⟨b, o + n, none⟩ := by unfold Addr.add; split <;> simp_all
theorem open_steps {H : Type} {enc : TypeId × Value → H} {W : World} {base : Nat} {spare : Nat → Bool} {held : Bool} {fuel : Nat} {A : Option Addr} {len cap : Nat} {x : DataW H × List MemPlace}
    (hf : DataW.trod enc Tryd.prog W base spare held fuel 22 [.slice A len cap] = some x) :
    ∃ (ga off : Nat) (S : List Stp), S.length = len ∧ (0 < len → A = some ⟨ga, off, none⟩) ∧ SRow W ga off S ∧ (∀ x ∈ S, x.name.size ≤ maxLen ∧ (Lit.int .i64 x.k).wf = true ∧ (Lit.int .i64 x.n).wf = true) ∧ len ≤ cap ∧ cap ≤ maxLen := by
  rcases Go.Deep.open_slice Tryd.underlying22 hf with ⟨hcs, _⟩ | ⟨a, len', cap', m, n, D, Pl, hcs, _, hl, hcap, hm, _, hel⟩
  · simp at hcs
    obtain ⟨rfl, rfl, rfl⟩ := hcs
    exact ⟨0, 0, [], rfl, fun h => absurd h (by omega), fun i x h => by simp at h, fun x h => by simp at h, by omega, by unfold maxLen; omega⟩
  · simp at hcs
    obtain ⟨rfl, rfl, rfl⟩ := hcs
    by_cases hz : len = 0
    · subst hz
      exact ⟨0, 0, [], rfl, fun h => absurd h (by omega), fun i x h => by simp at h, fun x h => by simp at h, hl, hcap⟩
    have hmm : len ≤ m := by rw [hm]; split <;> omega
    have hcell : ∀ i, ∃ y : Stp, i < len → (∀ j, j < 35 → W.cell? ((a.add (i * 35)).add j) = y.cells[j]?) ∧ y.d.length = 32 ∧ y.name.size ≤ maxLen ∧ (Lit.int .i64 y.k).wf = true ∧ (Lit.int .i64 y.n).wf = true := by
      intro i
      by_cases hi : i < len
      · obtain ⟨cs', g1, g2⟩ := hel i (by omega)
        rw [tc34] at g1
        obtain ⟨k, n', name, d, hc, hd, hs, wk, wn⟩ := open_step g2
        obtain ⟨_, _, g3⟩ := World.cells?_some g1
        exact ⟨⟨k, n', name, d⟩, fun _ => ⟨fun j hj => by rw [g3 j hj, hc]; rfl, hd, hs, wk, wn⟩⟩
      · exact ⟨⟨0, 0, ByteArray.empty, []⟩, fun h => absurd h hi⟩
    have hsp : a.spot = none := by
      obtain ⟨y, hy⟩ := hcell 0
      have g1 := (hy (by omega)).1 0 (by omega)
      have g2 : y.cells[0]? = some (.int .i64 y.k) := rfl
      rw [g2] at g1
      unfold World.cell? at g1
      split at g1
      · split at g1
        · cases g1
        · rename_i hns
          have : ((a.add (0 * 35)).add 0).spot = a.spot := rfl
          rw [this] at hns
          cases hs : a.spot with
          | none => rfl
          | some _ => rw [hs] at hns; simp at hns
      · cases g1
    obtain ⟨ba, oa, sp⟩ := a
    simp at hsp
    subst hsp
    obtain ⟨E, hE⟩ : ∃ E : Nat → Stp, ∀ i, i < len → (∀ j, j < 35 → W.cell? ⟨ba, oa + i * 35 + j, none⟩ = (E i).cells[j]?) ∧ (E i).d.length = 32 ∧ (E i).name.size ≤ maxLen ∧ (Lit.int .i64 (E i).k).wf = true ∧ (Lit.int .i64 (E i).n).wf = true :=
      ⟨fun i => Classical.choose (hcell i), fun i hi => by
        have := Classical.choose_spec (hcell i) hi
        simpa only [add_none] using this⟩
    have get : ∀ (i : Nat) (y : Stp), ((List.range len).map E)[i]? = some y → i < len ∧ y = E i := by
      intro i y h
      have hi : i < len := by have := (List.getElem?_eq_some_iff.1 h).1; simpa using this
      refine ⟨hi, ?_⟩
      simp [hi] at h
      exact h.symm
    refine ⟨ba, oa, (List.range len).map E, by simp, fun _ => rfl, ?_, ?_, hl, hcap⟩
    · intro i y h
      obtain ⟨hi, rfl⟩ := get i y h
      obtain ⟨g1, g2, _⟩ := hE i hi
      refine ⟨fun j u hu => ?_, g2⟩
      have hj : j < 35 := by
        have := (List.getElem?_eq_some_iff.1 hu).1
        simp [Stp.cells, g2] at this
        omega
      rw [g1 j hj]
      exact hu
    · intro y hy
      obtain ⟨i, h⟩ := List.getElem?_of_mem hy
      obtain ⟨hi, rfl⟩ := get i y h
      exact (hE i hi).2.2
end Go.Proofs.YtkppnamblmaokaaDoor.ModX

/- A volume dropped. -/
import Derived.Test.YtkppnamblmaokaaDoorModM
namespace Go.Proofs.YtkppnamblmaokaaDoor.ModN
open Go.RowKit Go.Proofs.YtkppnamblmaokaaDoorW.PrintWords Go.Proofs.YtkppnamblmaokaaDoorW.PrintLast Go.Proofs.YtkppnamblmaokaaDoorW.PrintMore Go.Proofs.YtkppnamblmaokaaDoor.ModA Go.Proofs.YtkppnamblmaokaaDoor.ModB Go.Proofs.YtkppnamblmaokaaDoor.ModC Go.Proofs.YtkppnamblmaokaaDoor.ModD Go.Proofs.YtkppnamblmaokaaDoor.ModE Go.Proofs.YtkppnamblmaokaaDoor.ModF Go.Proofs.YtkppnamblmaokaaDoor.ModG Go.Proofs.YtkppnamblmaokaaDoor.ModJ Go.Proofs.YtkppnamblmaokaaDoor.ModK Go.Proofs.YtkppnamblmaokaaDoor.ModM
set_option linter.unusedVariables false
set_option linter.unusedSimpArgs false

theorem rep_erase {base : Nat} {w w2 : World} {mb : Nat} {L : List Vol} {gs : List Nat} {v v' : Value} (r : Rep base w mb L gs v) {i ga : Nat} (hga : v.ownBlock = some ga) (hga' : v'.ownBlock = some ga) (hT : ModG.Touch [ga] w w2)
    (own : w2.ownsRow base 74 2 v' (L.eraseIdx i).length (volCells (L.eraseIdx i) (gs.eraseIdx i))) :
    Rep base (w2.setCell ⟨mb, 0, none⟩ v') mb (L.eraseIdx i) (gs.eraseIdx i) v' ∧ ModG.Touch (foot mb gs v) w (w2.setCell ⟨mb, 0, none⟩ v') := by
  have hne : ga ≠ mb := fun h => r.mb2 (by rw [hga, h])
  have M2 : w2.heap[mb]? = some (.cells #[v] 71 (0, 0)) := hT.blk r.m (by simpa using hne.symm)
  have hset : ∀ j, j ≠ mb → (w2.setCell ⟨mb, 0, none⟩ v').heap[j]? = w2.heap[j]? := fun j hj => Below.heap_setCell w2 ⟨mb, 0, none⟩ _ j hj
  have get : ∀ {α : Type} (l : List α) (j : Nat), (l.eraseIdx i)[j]? = l[if j < i then j else j + 1]? := by
    intro α l j
    rw [List.getElem?_eraseIdx]
    split <;> rfl
  have hg : w2.grownBy (w2.setCell ⟨mb, 0, none⟩ v') (some mb) := ⟨rfl, rfl, rfl, by simp [World.setCell], fun j _ hj => hset j (fun h => hj (by rw [h]))⟩
  refine ⟨⟨r.ge, blk_put M2 0 _ rfl, own.kept hg (.inr (by rw [hga']; simpa using hne)), ?_, ?_, ?_, ?_, ?_, ?_, ?_, ?_⟩, ?_⟩
  · rw [List.length_eraseIdx, List.length_eraseIdx, r.len]
  · intro j x g h1 h2
    rw [get] at h1 h2
    obtain ⟨k1, k2⟩ := r.blk _ x g h1 h2
    have hm : g ∈ gs := List.mem_of_getElem? h2
    refine ⟨k1, (hset g (by rintro rfl; exact r.mb1 hm)).trans (hT.blk k2 ?_)⟩
    have := r.row g hm
    rw [hga] at this
    simp at this ⊢
    exact fun h => this h.symm
  · intro j x h1
    rw [get] at h1
    exact r.size _ x h1
  · have := r.few
    rw [List.length_eraseIdx]
    split <;> omega
  · exact r.nodup.sublist (List.eraseIdx_sublist _ _)
  · exact fun h => r.mb1 ((List.eraseIdx_sublist _ _).subset h)
  · rw [hga', ← hga]; exact r.mb2
  · intro g h
    rw [hga', ← hga]
    exact r.row g ((List.eraseIdx_sublist _ _).subset h)
  · have t1 : ModG.Touch (foot mb gs v) w w2 := hT.mono (fun k _ hk => by
      have : k = ga := by simpa using hk
      subst this
      simp [foot, hga])
    exact t1.trans ⟨rfl, rfl, rfl, by simp [World.setCell], fun k _ hk => hset k (by rintro rfl; exact hk (by simp [foot]))⟩

set_option maxHeartbeats 1000000 in
set_option maxRecDepth 100000 in
theorem gone_err {base : Nat} {w : World} {mb : Nat} {L : List Vol} {gs : List Nat} {v : Value} (r : Rep base w mb L gs v) (name : ByteArray) (hi : idx name (L.map (·.name)) < 0) :
    Calls Tryd.prog 12 #[.pointer (some ⟨mb, 0, none⟩), .string name] w fun e w' => e = .returned (.int .i64 16) ∧ Below w.heap.size w w' := by
  have HI := Aside0.mk (index_any r name)
  generalize idx name (L.map (·.name)) = i at *
  go_enter Tryd.func12, Tryd.ntmps12
  go_wp2_with fail
  refine HI.out.mono ?_
  rintro e w1 ⟨rfl, hb⟩
  go_wp2
  go_ret
  exact ⟨rfl, hb⟩

set_option maxHeartbeats 1000000 in
set_option maxRecDepth 100000 in
theorem gone_ok {base : Nat} {w : World} {mb : Nat} {L : List Vol} {gs : List Nat} {v : Value} (r : Rep base w mb L gs v) (name : ByteArray) (i : Nat) (hi : idx name (L.map (·.name)) = i) :
    Calls Tryd.prog 12 #[.pointer (some ⟨mb, 0, none⟩), .string name] w fun e w' => e = .returned (.int .i64 0) ∧ ∃ v', Rep base w' mb (L.eraseIdx i) (gs.eraseIdx i) v' ∧ v'.ownBlock = v.ownBlock ∧ ModG.Touch (foot mb gs v) w w' := by
  have HI := Aside0.mk (index_any r name)
  have hil : i < L.length := by
    have := idx_lt name (L.map (·.name))
    rw [hi] at this
    simpa using this
  rw [hi] at HI
  have HL := Aside0.mk hil
  have RR := Aside0.mk r
  have h3 : i < 3 := by have := r.few; omega
  clear hi hil r
  go_enter Tryd.func12, Tryd.ntmps12
  go_wp2_with fail
  refine HI.out.mono ?_
  rintro e w1 ⟨rfl, hb⟩
  have R1 := Aside0.mk (RR.out.below hb)
  have BL := Aside0.mk hb
  obtain ⟨ga, hga, hcall⟩ := delete_any R1.out.own R1.out.len R1.out.few HL.out
  have HC := Aside0.mk hcall
  have HG := Aside0.mk hga
  have cm : w1.cell? ⟨mb, 0, none⟩ = some v := (blk_cell R1.out.m 0).trans rfl
  clear hcall hga hb
  go_wp2_with fail
  refine HC.out.mono ?_
  rintro e w2 ⟨v', rfl, hv', hT, own⟩
  have M2 : w2.heap[mb]? = some (.cells #[v] 71 (0, 0)) := hT.blk R1.out.m (by
    have := R1.out.mb2
    rw [HG.out] at this
    simp at this ⊢
    exact fun h => this h.symm)
  have fin := Aside0.mk (rep_erase R1.out HG.out hv' hT own)
  have AT7 := Aside0.mk (hv'.trans HG.out.symm)
  have c2 : w2.cell? ⟨mb, 0, none⟩ = some v := (blk_cell M2 0).trans rfl
  have f2 := blk_frozen M2 0
  obtain ⟨A, l, c, rfl⟩ : ∃ A l c, v' = .slice A l c := by
    rcases own.2 with ⟨h, _⟩ | ⟨g, c, _, h, _⟩
    · exact ⟨none, 0, 0, h⟩
    · exact ⟨_, _, c, h⟩
  clear hv' hT own M2 cm
  go_wp2
  go_ret
  exact ⟨rfl, _, fin.out.1, AT7.out, (ModG.Touch.of_below BL.out).trans fin.out.2⟩

end Go.Proofs.YtkppnamblmaokaaDoor.ModN

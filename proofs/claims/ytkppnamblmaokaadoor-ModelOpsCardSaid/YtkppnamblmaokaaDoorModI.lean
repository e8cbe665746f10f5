/- A volume is made. -/
import Derived.Test.YtkppnamblmaokaaDoorModG
import Derived.Test.YtkppnamblmaokaaDoorModH
namespace Go.Proofs.YtkppnamblmaokaaDoor.ModI
open Go.RowKit Go.Proofs.YtkppnamblmaokaaDoorW.PrintWords Go.Proofs.YtkppnamblmaokaaDoorW.PrintLast Go.Proofs.YtkppnamblmaokaaDoorW.PrintMore Go.Proofs.YtkppnamblmaokaaDoor.ModA Go.Proofs.YtkppnamblmaokaaDoor.ModB Go.Proofs.YtkppnamblmaokaaDoor.ModC Go.Proofs.YtkppnamblmaokaaDoor.ModD Go.Proofs.YtkppnamblmaokaaDoor.ModE Go.Proofs.YtkppnamblmaokaaDoor.ModF Go.Proofs.YtkppnamblmaokaaDoor.ModG Go.Proofs.YtkppnamblmaokaaDoor.ModH
set_option linter.unusedVariables false
set_option linter.unusedSimpArgs false

/-- What is answered to a volume that is asked for. -/
def makeRes (L : List Vol) (name : ByteArray) (n : Int) : Int :=
  if goodName name = false then 11 else if 0 ≤ idx name (L.map (·.name)) then 16 else if n < 1 ∨ 4 < n then 17 else if 3 ≤ L.length ∨ freeOf L < n then 18 else 0

set_option maxHeartbeats 2000000 in
theorem make_err {base : Nat} {w : World} {mb : Nat} {L : List Vol} {gs : List Nat} {v : Value} (r : Rep base w mb L gs v) (name : ByteArray) (n : Int) (hs : name.size ≤ 9223372036854775807) (he : makeRes L name n ≠ 0) :
    Calls Tryd.prog 10 #[.pointer (some ⟨mb, 0, none⟩), .string name, .int .i64 n] w fun e w' => e = .returned (.int .i64 (makeRes L name n)) ∧ Below w.heap.size w w' := by
  have RR := Aside0.mk r
  clear r
  have BL := Aside0.mk (below_alloc (Below.refl w.heap.size w) (.cells #[.string name] 9 (0, 0)))
  have BN := Aside0.mk (blk_new w (.cells #[.string name] 9 (0, 0)))
  have HG := Aside0.mk (good_any name w.heap.size (w.alloc (.cells #[.string name] 9 (0, 0))) hs ((blk_cell BN.out 0).trans rfl))
  cases hg : goodName name
  · rw [hg] at HG
    have HF : Aside0 (makeRes L name n = 11) := ⟨by simp [makeRes, hg]⟩
    clear hg he
    go_enter Tryd.func10, Tryd.ntmps10
    go_wp2_with fail
    refine HG.out.mono ?_
    rintro e w1 ⟨rfl, hb⟩
    go_wp2
    go_ret
    exact ⟨by rw [HF.out]; rfl, below_step BL.out hb⟩
  · rw [hg] at HG
    have HI := Aside0.mk (fun w1 (R : Rep base w1 mb L gs v) => index_any R name)
    by_cases hi : 0 ≤ idx name (L.map (·.name))
    · have HF : Aside0 (makeRes L name n = 16) := ⟨by simp [makeRes, hg, hi]⟩
      clear hg he
      generalize idx name (L.map (·.name)) = i at *
      go_enter Tryd.func10, Tryd.ntmps10
      go_wp2_with fail
      refine HG.out.mono ?_
      rintro e w1 ⟨rfl, hb⟩
      have BL1 := Aside0.mk (below_step BL.out hb)
      clear hb
      go_wp2_with fail
      refine (HI.out w1 (RR.out.below BL1.out)).mono ?_
      rintro e w2 ⟨rfl, hb⟩
      go_wp2
      go_ret
      exact ⟨by rw [HF.out]; rfl, below_step BL1.out hb⟩
    · have hib : decide (0 ≤ idx name (L.map (·.name))) = false := by simpa using hi
      by_cases hn : n < 1 ∨ 4 < n
      · have HF : Aside0 (makeRes L name n = 17) := ⟨by unfold makeRes; rw [if_neg (by simp [hg]), if_neg hi, if_pos hn]⟩
        clear hg he hi
        generalize idx name (L.map (·.name)) = i at *
        rcases hn with hn | hn
        · go_enter Tryd.func10, Tryd.ntmps10
          go_wp2_with fail
          refine HG.out.mono ?_
          rintro e w1 ⟨rfl, hb⟩
          have BL1 := Aside0.mk (below_step BL.out hb)
          clear hb
          go_wp2_with fail
          refine (HI.out w1 (RR.out.below BL1.out)).mono ?_
          rintro e w2 ⟨rfl, hb⟩
          go_wp2
          go_ret
          exact ⟨by rw [HF.out]; rfl, below_step BL1.out hb⟩
        · have hn1 : ¬ n < 1 := by omega
          go_enter Tryd.func10, Tryd.ntmps10
          go_wp2_with fail
          refine HG.out.mono ?_
          rintro e w1 ⟨rfl, hb⟩
          have BL1 := Aside0.mk (below_step BL.out hb)
          clear hb
          go_wp2_with fail
          refine (HI.out w1 (RR.out.below BL1.out)).mono ?_
          rintro e w2 ⟨rfl, hb⟩
          go_wp2
          go_ret
          exact ⟨by rw [HF.out]; rfl, below_step BL1.out hb⟩
      · have hq : 3 ≤ L.length ∨ freeOf L < n := by
          by_cases hq : 3 ≤ L.length ∨ freeOf L < n
          · exact hq
          · exact absurd (by unfold makeRes; rw [if_neg (by simp [hg]), if_neg hi, if_neg hn, if_neg hq]) he
        have HF : Aside0 (makeRes L name n = 18) := ⟨by unfold makeRes; rw [if_neg (by simp [hg]), if_neg hi, if_neg hn, if_pos hq]⟩
        have n1 : 1 ≤ n := by omega
        have n4 : n ≤ 4 := by omega
        have HFr := Aside0.mk (fun w1 (R : Rep base w1 mb L gs v) => free_any R)
        clear hg he hi hn
        generalize idx name (L.map (·.name)) = i at *
        have hsl : ∃ A cap, v = .slice A L.length cap := by
          rcases RR.out.slice with ⟨A, cap, h1, h2⟩ | ⟨ga, cap, h1, _⟩
          · exact ⟨A, cap, by rw [h1, h2]; rfl⟩
          · exact ⟨_, cap, h1⟩
        obtain ⟨A, cap, rfl⟩ := hsl
        have hf3 := RR.out.few
        by_cases h3 : 3 ≤ L.length
        · clear hq
          generalize hlen : L.length = len at h3 hf3 ⊢
          go_enter Tryd.func10, Tryd.ntmps10
          go_wp2_with fail
          refine HG.out.mono ?_
          rintro e w1 ⟨rfl, hb⟩
          have BL1 := Aside0.mk (below_step BL.out hb)
          clear hb
          go_wp2_with fail
          refine (HI.out w1 (RR.out.below BL1.out)).mono ?_
          rintro e w2 ⟨rfl, hb⟩
          have BL2 := Aside0.mk (below_step BL1.out hb)
          have cm : w2.cell? ⟨mb, 0, none⟩ = some (.slice A L.length cap) := (blk_cell (RR.out.below BL2.out).m 0).trans rfl
          rw [hlen] at cm
          clear hb
          go_wp2
          go_ret
          exact ⟨by rw [HF.out]; rfl, BL2.out⟩
        · have hq' : freeOf L < n := by omega
          clear hq
          generalize hfr : freeOf L = fr at *
          generalize hlen : L.length = len at h3 hf3 ⊢
          have hl3 : len < 3 := by omega
          go_enter Tryd.func10, Tryd.ntmps10
          go_wp2_with fail
          refine HG.out.mono ?_
          rintro e w1 ⟨rfl, hb⟩
          have BL1 := Aside0.mk (below_step BL.out hb)
          clear hb
          go_wp2_with fail
          refine (HI.out w1 (RR.out.below BL1.out)).mono ?_
          rintro e w2 ⟨rfl, hb⟩
          have BL2 := Aside0.mk (below_step BL1.out hb)
          have cm : w2.cell? ⟨mb, 0, none⟩ = some (.slice A L.length cap) := (blk_cell (RR.out.below BL2.out).m 0).trans rfl
          rw [hlen] at cm
          clear hb
          go_wp2_with fail
          refine (HFr.out w2 (RR.out.below BL2.out)).mono ?_
          rintro e w3 ⟨rfl, hb⟩
          go_wp2
          go_ret
          exact ⟨by rw [HF.out]; rfl, below_step BL2.out hb⟩

end Go.Proofs.YtkppnamblmaokaaDoor.ModI

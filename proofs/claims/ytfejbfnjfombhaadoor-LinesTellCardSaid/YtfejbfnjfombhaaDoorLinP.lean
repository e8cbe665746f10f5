/- The document's numbers. -/
import Derived.Test.YtfejbfnjfombhaaDoorLinO
namespace Go.Proofs.YtfejbfnjfombhaaDoor.LinP
open Go.RowKit Go.Sort Go.Shelf Go.Lib Go.Proofs.YtfejbfnjfombhaaDoorW.PrintWords Go.Proofs.YtfejbfnjfombhaaDoorW.PrintLast Go.Proofs.YtfejbfnjfombhaaDoorW.PrintMore Go.Proofs.YtfejbfnjfombhaaDoor.LinA Go.Proofs.YtfejbfnjfombhaaDoor.LinB Go.Proofs.YtfejbfnjfombhaaDoor.LinC Go.Proofs.YtfejbfnjfombhaaDoor.LinD Go.Proofs.YtfejbfnjfombhaaDoor.LinE Go.Proofs.YtfejbfnjfombhaaDoor.LinF Go.Proofs.YtfejbfnjfombhaaDoor.LinG Go.Proofs.YtfejbfnjfombhaaDoor.LinH Go.Proofs.YtfejbfnjfombhaaDoor.LinI Go.Proofs.YtfejbfnjfombhaaDoor.LinM Go.Proofs.YtfejbfnjfombhaaDoor.LinN
set_option linter.unusedVariables false
set_option linter.unusedSimpArgs false
theorem nd_le : ∀ (k u : Nat), u < 10 ^ (k + 1) → nDigits u ≤ k + 1
  | 0, u, h => by rw [nDigits_small (by simpa using h)]; omega
  | k + 1, u, h => by
    by_cases h1 : u < 10
    · rw [nDigits_small h1]; omega
    · rw [nDigits_big h1]
      have : u / 10 < 10 ^ (k + 1) := by rw [Nat.pow_succ] at h; omega
      have := nd_le k (u / 10) this
      omega
theorem num_long {w : List UInt8} (h : w = [] ∨ 10 < w.length) : numVal w = none := by
  cases hv : numVal w with
  | none => rfl
  | some u =>
    obtain ⟨h1, h2⟩ := (num_iff _ _).1 hv
    rcases h with h | h
    · exact absurd (h1.symm.trans h) (dec_spell u).2.2
    · rw [h1, decDigits_length] at h
      have := nd_le 9 u (by omega)
      omega
theorem num_bad {w : List UInt8} {c : UInt8} (hm : c ∈ w) (hd : digit c = false) : numVal w = none := by
  cases hv : numVal w with
  | none => rfl
  | some u =>
    obtain ⟨h1, h2⟩ := (num_iff _ _).1 hv
    rw [h1] at hm
    rw [List.all_eq_true.1 (dec_spell u).1 c hm] at hd
    cases hd
theorem num_spell (w : List UInt8) : numVal w = if spell 0 w ≤ 4294967295 ∧ decDigits (spell 0 w) = w then some (spell 0 w) else none := by
  by_cases h : spell 0 w ≤ 4294967295 ∧ decDigits (spell 0 w) = w
  · rw [if_pos h, num_iff]; exact ⟨h.2.symm, h.1⟩
  · rw [if_neg h]
    cases hv : numVal w with
    | none => rfl
    | some u =>
      obtain ⟨h1, h2⟩ := (num_iff _ _).1 hv
      have : spell 0 w = u := by rw [h1]; exact (dec_spell u).2.1
      exact absurd ⟨by omega, by rw [this]; exact h1.symm⟩ h
theorem digit_iff (c : UInt8) : digit c = true ↔ 48 ≤ (c.toNat : Int) ∧ (c.toNat : Int) ≤ 57 := by
  unfold digit
  rw [Bool.and_eq_true, decide_eq_true_iff, decide_eq_true_iff]
  omega
theorem spell_next (l : List UInt8) (i : Nat) (c : UInt8) (h : l[i]? = some c) : spell 0 (l.take (i + 1)) = spell 0 (l.take i) * 10 + (c.toNat - 48) := by
  rw [List.take_add_one, h, Option.toList_some, spell_snoc]
def ansN (o : Option Nat) : Value := .agg #[.int .i64 (o.getD 0 : Nat), .bool o.isSome]
set_option maxHeartbeats 2000000 in
set_option maxRecDepth 100000 in
theorem numr_any (x : ByteArray) (w : World) :
    Calls Tryd.prog 21 #[.string x, .int .i64 4294967295] w fun e w' => e = .returned (ansN (numVal x.data.toList)) ∧ Below w.heap.size w w' := by
  have HSL := Aside0.mk (show x.data.toList.length = x.size from Array.length_toList)
  have BA := Aside0.mk (below_alloc (Below.refl w.heap.size w) (.cells #[.int .i64 0, .bool false] 54 (0, 0)))
  have RA := Aside0.mk (blk_new w (.cells #[.int .i64 0, .bool false] 54 (0, 0)))
  have hee := Aside0.mk (show x.toList.isEmpty = decide (x.data.toList = []) by rw [toList_data, Bool.eq_iff_iff, List.isEmpty_iff, decide_eq_true_iff])
  by_cases hne : x.data.toList = [] ∨ 10 < x.data.toList.length
  · have HN := Aside0.mk (num_long hne)
    by_cases h1 : x.data.toList = []
    · have he : x.toList.isEmpty = true := by rw [hee.out, decide_eq_true h1]
      clear h1 hne
      go_enter Tryd.func21, Tryd.ntmps21
      go_wp2_with fail
      refine bodyPost_ret (results_cell_row rfl _ _ w.heap.size 54 #[.int .i64 0, .bool false] (0, 0) _ rfl RA.out Tryd.underlying54 rfl (by kernel_rfl)) rfl ⟨?_, BA.out⟩
      rw [HN.out]; rfl
    · have he : x.toList.isEmpty = false := by rw [hee.out, decide_eq_false h1]
      have hl : 10 < x.size := by rcases hne with h | h; (· exact absurd h h1); (· rw [← HSL.out]; exact h)
      have hd : decide ((10 : Int) < (x.size : Int)) = true := by simp; omega
      clear h1 hne
      go_enter Tryd.func21, Tryd.ntmps21
      go_wp2_with fail
      refine bodyPost_ret (results_cell_row rfl _ _ w.heap.size 54 #[.int .i64 0, .bool false] (0, 0) _ rfl RA.out Tryd.underlying54 rfl (by kernel_rfl)) rfl ⟨?_, BA.out⟩
      rw [HN.out]; rfl
  · have h1 : x.data.toList ≠ [] := fun h => hne (.inl h)
    have he : x.toList.isEmpty = false := by rw [hee.out, decide_eq_false h1]
    have hl : x.size ≤ 10 := by
      have : ¬ 10 < x.data.toList.length := fun h => hne (.inr h)
      rw [HSL.out] at this; omega
    have hd : decide ((10 : Int) < (x.size : Int)) = false := by simp; omega
    clear h1 hne
    go_enter Tryd.func21, Tryd.ntmps21
    go_wp2_with fail
    have q0 := (blk_cell RA.out 0).trans (show _ = some (.int .i64 0) from rfl)
    have q1 := (blk_cell RA.out 1).trans (show _ = some (.bool false) from rfl)
    have f0 := blk_frozen RA.out 0
    have f1 := blk_frozen RA.out 1
    generalize w.alloc (.cells #[.int .i64 0, .bool false] 54 (0, 0)) = w1 at *
    generalize hrb : w.heap.size = rb at *
    go_loop [5, 6] (fun s5 s6 => ∃ i : Nat, i ≤ x.size ∧ s6 = .int .i64 i ∧ s5 = .int .i64 (spell 0 (x.data.toList.take i) : Nat) ∧ Aside0 (spell 0 (x.data.toList.take i) < 10 ^ i)) (fun _ s6 => x.size - (RowKit.intOf s6).toNat)
    case atStart => exact ⟨0, by omega, rfl, rfl, ⟨by show spell 0 [] < 1; rw [spell_nil]; omega⟩⟩
    case round =>
      obtain ⟨i, hi, rfl, rfl, HP⟩ := hrel
      have hsp : spell 0 (x.data.toList.take i) < 10000000000 := Nat.lt_of_lt_of_le HP.out (Nat.le_trans (Nat.pow_le_pow_right (by omega) (show i ≤ 10 by omega)) (by decide))
      by_cases hlt : i < x.size
      · have hd2 : decide ((i : Int) < (x.size : Int)) = true := by simp; omega
        have hc : x.data.toList[i]? = some (x[i]'hlt) := by rw [List.getElem?_eq_getElem (by have := HSL.out; omega)]; rfl
        have HC := Aside0.mk hc
        have HNX := Aside0.mk (spell_next _ _ _ hc)
        have hdi := digit_iff (x[i]'hlt)
        have HDI := Aside0.mk hdi
        clear hc hdi
        cases hb : digit (x[i]'hlt)
        · have HN := Aside0.mk (num_bad (List.mem_of_getElem? HC.out) hb)
          have HNo : Aside0 (¬ (48 ≤ ((x[i]'hlt).toNat : Int) ∧ ((x[i]'hlt).toNat : Int) ≤ 57)) := ⟨fun h => by rw [HDI.out.2 h] at hb; cases hb⟩
          clear hb
          generalize spell 0 (x.data.toList.take i) = sp at *
          by_cases g1 : ((x[i]'hlt).toNat : Int) < 48
          · go_wp2_with fail
            refine bodyPost_ret (results_cell_row rfl _ _ rb 54 #[.int .i64 0, .bool false] (0, 0) _ rfl (blk_put (blk_put RA.out 0 (.int .i64 0) rfl) 1 (.bool false) rfl) Tryd.underlying54 rfl (by kernel_rfl)) rfl ⟨?_, (BA.out.setCell (p := ⟨rb, 0, none⟩) (Nat.le_refl _) _).setCell (p := ⟨rb, 1, none⟩) (Nat.le_refl _) _⟩
            rw [HN.out]; rfl
          · have g2 : ((x[i]'hlt).toNat : Int) > 57 := by have := HNo.out; omega
            go_wp2_with fail
            refine bodyPost_ret (results_cell_row rfl _ _ rb 54 #[.int .i64 0, .bool false] (0, 0) _ rfl (blk_put (blk_put RA.out 0 (.int .i64 0) rfl) 1 (.bool false) rfl) Tryd.underlying54 rfl (by kernel_rfl)) rfl ⟨?_, (BA.out.setCell (p := ⟨rb, 0, none⟩) (Nat.le_refl _) _).setCell (p := ⟨rb, 1, none⟩) (Nat.le_refl _) _⟩
            rw [HN.out]; rfl
        · have HY := Aside0.mk (HDI.out.1 hb)
          have g1 : ¬ (((x[i]'hlt).toNat : Int) < 48) := by have := HY.out; omega
          have g2 : ¬ (((x[i]'hlt).toNat : Int) > 57) := by have := HY.out; omega
          have HP2 : Aside0 (spell 0 (x.data.toList.take (i + 1)) < 10 ^ (i + 1)) := ⟨by
            rw [HNX.out, Nat.pow_succ]; have := HP.out; have := HY.out; omega⟩
          have hs9 : spell 0 (x.data.toList.take i) < 1000000000 := Nat.lt_of_lt_of_le HP.out (Nat.le_trans (Nat.pow_le_pow_right (by omega) (show i ≤ 9 by omega)) (by decide))
          have hsub : IntKind.u8.wrap (((x[i]'hlt).toNat : Int) - 48) = ((x[i]'hlt).toNat : Int) - 48 := by rw [IntKind.wrap_u8]; have := HY.out; omega
          have HV : Aside0 (((spell 0 (x.data.toList.take (i + 1)) : Nat) : Int) = ((spell 0 (x.data.toList.take i) : Nat) : Int) * 10 + (((x[i]'hlt).toNat : Int) - 48)) := ⟨by rw [HNX.out]; have := HY.out; omega⟩
          have hy1 := HY.out.1
          have hy2 := HY.out.2
          clear hb
          generalize spell 0 (x.data.toList.take i) = sp at *
          go_wp2_with fail
          go_round
          case measure => simp [RowKit.intOf]; omega
          case rel => exact ⟨i + 1, by omega, by go_num, by rw [HV.out], HP2⟩
      · have : i = x.size := by omega
        subst this
        have hd2 : decide ((x.size : Int) < (x.size : Int)) = false := by simp
        have HSP := Aside0.mk (num_spell x.data.toList)
        rw [List.take_of_length_le (show x.data.toList.length ≤ x.size by rw [HSL.out]; exact Nat.le_refl _)] at hsp ⊢
        generalize spell 0 x.data.toList = u at *
        clear hlt hi
        by_cases hbig : 4294967295 < u
        · have hd3 : decide ((4294967295 : Int) < (u : Int)) = true := by simp; omega
          have HN := Aside0.mk (show numVal x.data.toList = none by rw [HSP.out, if_neg (fun h => by omega)])
          go_wp2_with fail
          refine bodyPost_ret (results_cell_row rfl _ _ rb 54 #[.int .i64 0, .bool false] (0, 0) _ rfl (blk_put (blk_put RA.out 0 (.int .i64 0) rfl) 1 (.bool false) rfl) Tryd.underlying54 rfl (by kernel_rfl)) rfl ⟨?_, (BA.out.setCell (p := ⟨rb, 0, none⟩) (Nat.le_refl _) _).setCell (p := ⟨rb, 1, none⟩) (Nat.le_refl _) _⟩
          rw [HN.out]; rfl
        · have hd3 : decide ((4294967295 : Int) < (u : Int)) = false := by simp; omega
          have HDc := Aside0.mk (decr_any u (by omega) w1)
          have hq := bytes_eqB (ofL (decDigits u)) x
          rw [ofL_data] at hq
          go_wp2_with fail
          refine HDc.out.mono ?_
          rintro e w2 ⟨rfl, hb⟩
          have B2 := Aside0.mk (below_then BA.out (Nat.le_of_lt (blk_lt RA.out)) hb)
          have R2 := Aside0.mk (blk_below RA.out hb)
          clear hb q0 q1 f0 f1 HDc
          have q0 := (blk_cell R2.out 0).trans (show _ = some (.int .i64 0) from rfl)
          have q1 := (blk_cell R2.out 1).trans (show _ = some (.bool false) from rfl)
          have f0 := blk_frozen R2.out 0
          have f1 := blk_frozen R2.out 1
          by_cases hdx : decDigits u = x.data.toList
          · rw [decide_eq_true hdx] at hq
            have HN := Aside0.mk (show numVal x.data.toList = some u by rw [HSP.out, if_pos ⟨by omega, hdx⟩])
            clear hdx
            go_wp2_with fail
            refine bodyPost_ret (results_cell_row rfl _ _ rb 54 #[.int .i64 (u : Int), .bool true] (0, 0) _ rfl (blk_put (blk_put R2.out 0 (.int .i64 (u : Int)) rfl) 1 (.bool true) rfl) Tryd.underlying54 rfl (by kernel_rfl)) rfl ⟨?_, by rw [hrb]; exact (B2.out.setCell (p := ⟨rb, 0, none⟩) (Nat.le_refl _) _).setCell (p := ⟨rb, 1, none⟩) (Nat.le_refl _) _⟩
            rw [HN.out]; rfl
          · rw [decide_eq_false hdx] at hq
            have HN := Aside0.mk (show numVal x.data.toList = none by rw [HSP.out, if_neg (fun h => hdx h.2)])
            clear hdx
            go_wp2_with fail
            refine bodyPost_ret (results_cell_row rfl _ _ rb 54 #[.int .i64 0, .bool false] (0, 0) _ rfl (blk_put (blk_put R2.out 0 (.int .i64 0) rfl) 1 (.bool false) rfl) Tryd.underlying54 rfl (by kernel_rfl)) rfl ⟨?_, by rw [hrb]; exact (B2.out.setCell (p := ⟨rb, 0, none⟩) (Nat.le_refl _) _).setCell (p := ⟨rb, 1, none⟩) (Nat.le_refl _) _⟩
            rw [HN.out]; rfl
end Go.Proofs.YtfejbfnjfombhaaDoor.LinP

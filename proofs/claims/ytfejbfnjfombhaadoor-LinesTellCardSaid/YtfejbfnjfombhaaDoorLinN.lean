/- The document's answers: a good name, a numeral. -/
import Derived.Test.YtfejbfnjfombhaaDoorLinM
namespace Go.Proofs.YtfejbfnjfombhaaDoor.LinN
open Go.RowKit Go.Sort Go.Shelf Go.Lib Go.Proofs.YtfejbfnjfombhaaDoorW.PrintWords Go.Proofs.YtfejbfnjfombhaaDoorW.PrintLast Go.Proofs.YtfejbfnjfombhaaDoorW.PrintMore Go.Proofs.YtfejbfnjfombhaaDoor.LinA Go.Proofs.YtfejbfnjfombhaaDoor.LinB Go.Proofs.YtfejbfnjfombhaaDoor.LinC Go.Proofs.YtfejbfnjfombhaaDoor.LinD Go.Proofs.YtfejbfnjfombhaaDoor.LinE Go.Proofs.YtfejbfnjfombhaaDoor.LinF Go.Proofs.YtfejbfnjfombhaaDoor.LinG Go.Proofs.YtfejbfnjfombhaaDoor.LinH Go.Proofs.YtfejbfnjfombhaaDoor.LinI Go.Proofs.YtfejbfnjfombhaaDoor.LinK Go.Proofs.YtfejbfnjfombhaaDoor.LinM
set_option linter.unusedVariables false
set_option linter.unusedSimpArgs false
def refGood (s : ByteArray) : Bool := decide (1 ≤ s.size) && decide (s.size ≤ 4) && s.data.toList.all lowB
theorem refGood_eq (s : ByteArray) : refGood s = goodL s.data.toList := by
  unfold refGood goodL
  rw [show s.data.toList.length = s.size from Array.length_toList]
theorem low_iff (c : UInt8) : lowB c = true ↔ 97 ≤ (c.toNat : Int) ∧ (c.toNat : Int) ≤ 122 := by
  unfold lowB
  rw [Bool.and_eq_true, decide_eq_true_iff, decide_eq_true_iff, UInt8.le_iff_toNat_le, UInt8.le_iff_toNat_le]
  simp
  omega
theorem all_take_succ (s : ByteArray) (k : Nat) (h : k < s.size) : (s.data.toList.take (k + 1)).all lowB = ((s.data.toList.take k).all lowB && lowB s[k]) := by
  have e : s.data.toList[k]? = some s[k] := by
    rw [List.getElem?_eq_getElem (by simpa using h)]
    rfl
  rw [List.take_add_one, e]
  simp
theorem bad_at (s : ByteArray) (k : Nat) (h : k < s.size) (hb : lowB s[k] = false) : refGood s = false := by
  unfold refGood
  have : s.data.toList.all lowB = false := by
    rw [List.all_eq_false]
    exact ⟨s[k], by
      have : s[k] = s.data.toList[k]'(by simpa using h) := rfl
      rw [this]
      exact List.getElem_mem _, by simp [hb]⟩
  rw [this, Bool.and_false]
theorem good_all (s : ByteArray) (h1 : 1 ≤ s.size) (h4 : s.size ≤ 4) (h : (s.data.toList.take s.size).all lowB = true) : refGood s = true := by
  unfold refGood
  have e : s.data.toList.take s.size = s.data.toList := List.take_of_length_le (by simp)
  rw [e] at h
  simp [h1, h4, h]

set_option maxHeartbeats 2000000 in
set_option maxRecDepth 100000 in
theorem good_q (s : ByteArray) (g : Nat) (w : World) (hc : w.cell? ⟨g, 0, none⟩ = some (.string s)) :
    Calls Tryd.prog 20 #[.slice (some ⟨g, 0, none⟩) 1 1] w fun e w' => e = .returned (.bool (refGood s)) ∧ Below w.heap.size w w' := by
  have BL := Aside0.mk (Below.refl w.heap.size w)
  by_cases h1 : s.size < 1
  · have HF : Aside0 (refGood s = false) := ⟨by unfold refGood; rw [decide_eq_false (by omega)]; rfl⟩
    go_enter Tryd.func20, Tryd.ntmps20
    go_wp2_with fail
    go_loop [3] (fun iv => iv = .int .i64 0) (fun _ => 0)
    case atStart => rfl
    case round =>
      obtain rfl := hrel
      go_wp2_with fail
      go_ret
      exact ⟨by rw [HF.out]; rfl, BL.out⟩
  · by_cases h4 : 4 < s.size
    · have HF : Aside0 (refGood s = false) := ⟨by unfold refGood; rw [decide_eq_false (show ¬ s.size ≤ 4 by omega)]; simp⟩
      go_enter Tryd.func20, Tryd.ntmps20
      go_wp2_with fail
      go_loop [3] (fun iv => iv = .int .i64 0) (fun _ => 0)
      case atStart => rfl
      case round =>
        obtain rfl := hrel
        go_wp2_with fail
        go_ret
        exact ⟨by rw [HF.out]; rfl, BL.out⟩
    · have HB := Aside0.mk (bad_at s)
      have HG := Aside0.mk (good_all s (by omega) (by omega))
      have HT := Aside0.mk (all_take_succ s)
      go_enter Tryd.func20, Tryd.ntmps20
      go_wp2_with fail
      go_loop [3] (fun iv => ∃ i : Nat, i ≤ 1 ∧ iv = .int .i64 i ∧ Aside0 (i = 1 → refGood s = true)) (fun iv => 1 - (RowKit.intOf iv).toNat)
      case atStart => exact ⟨0, by omega, rfl, ⟨fun h => by cases h⟩⟩
      case round =>
        obtain ⟨i, hi, rfl, HI⟩ := hrel
        by_cases h0 : i = 0
        · subst h0
          clear HI
          go_wp2_with fail
          go_loop [4] (fun kv => ∃ k : Nat, k ≤ s.size ∧ kv = .int .i64 k ∧ Aside0 ((s.data.toList.take k).all lowB = true)) (fun kv => s.size - (RowKit.intOf kv).toNat)
          case atStart => exact ⟨0, by omega, rfl, ⟨rfl⟩⟩
          case round =>
            obtain ⟨k, hk, rfl, HK⟩ := hrel
            by_cases hlt : k < s.size
            · have hlow := low_iff s[k]
              have hbyte : ((s[k]).toNat : Int) < 256 := by have := (s[k]).toNat_lt; omega
              have LOW := Aside0.mk hlow
              clear hlow
              cases hb : lowB s[k]
              · have HF := Aside0.mk (HB.out k hlt hb)
                have HN : Aside0 (¬ (97 ≤ ((s[k]).toNat : Int) ∧ ((s[k]).toNat : Int) ≤ 122)) := ⟨fun h => by rw [LOW.out.2 h] at hb; cases hb⟩
                clear hb LOW
                by_cases q1 : ((s[k]).toNat : Int) < 97
                · go_wp2_with fail
                  go_ret
                  exact ⟨by rw [HF.out]; rfl, BL.out⟩
                · have q2 : ((s[k]).toNat : Int) > 122 := by have := HN.out; omega
                  go_wp2_with fail
                  go_ret
                  exact ⟨by rw [HF.out]; rfl, BL.out⟩
              · have HN := Aside0.mk (LOW.out.1 hb)
                have HK2 : Aside0 ((s.data.toList.take (k + 1)).all lowB = true) := ⟨by rw [HT.out k hlt, HK.out, hb]; rfl⟩
                have q1 : ¬ (((s[k]).toNat : Int) < 97) := by have := HN.out; omega
                have q2 : ¬ (((s[k]).toNat : Int) > 122) := by have := HN.out; omega
                clear hb LOW HN
                go_wp2_with fail
                go_round
                case measure => simp [RowKit.intOf]; omega
                case rel => exact ⟨k + 1, by omega, by go_num, HK2⟩
            · have e : k = s.size := by omega
              subst e
              have HR := Aside0.mk (HG.out HK.out)
              go_wp2_with fail
              go_round
              case measure => simp [RowKit.intOf]
              case rel => exact ⟨1, by omega, by go_num, ⟨fun _ => HR.out⟩⟩
        · have e : i = 1 := by omega
          subst e
          have HR := Aside0.mk (HI.out rfl)
          go_wp2_with fail
          go_ret
          exact ⟨by rw [HR.out]; rfl, BL.out⟩


theorem goodr_any (s : ByteArray) (g : Nat) (w : World) (hc : w.cell? ⟨g, 0, none⟩ = some (.string s)) :
    Calls Tryd.prog 20 #[.slice (some ⟨g, 0, none⟩) 1 1] w fun e w' => e = .returned (.bool (goodL s.data.toList)) ∧ Below w.heap.size w w' := by
  rw [← refGood_eq]; exact good_q s g w hc
theorem dec_len2 (u : Nat) (h : u < 9223372036854775808) : (decDigits u).length ≤ 20 := by
  rw [decDigits_length]
  by_cases h1 : 1 ≤ u
  · have := Lib.numDigits_eq u h1 (by omega); split at this <;> omega
  · have : u = 0 := by omega
    subst this; rw [nDigits_small (by omega)]; omega
set_option maxHeartbeats 1000000 in
set_option maxRecDepth 100000 in
theorem decr_any (u : Nat) (hu : u < 9223372036854775808) (w : World) :
    Calls Tryd.prog 24 #[.int .i64 u] w fun e w' => e = .returned (.string (ofL (decDigits u))) ∧ Below w.heap.size w w' := by
  have BL := Aside0.mk (Below.refl w.heap.size w)
  have HD := Aside0.mk (dec_len2 u hu)
  go_enter Tryd.func24, Tryd.ntmps24
  go_wp2_with fail
  go_loopg [0, 3] u (fun g s0 s3 wr => ∃ b : ByteArray, g ≤ u ∧ s0 = .int .i64 g ∧ s3 = .string b ∧ Aside0 (decDigits u = decDigits g ++ b.data.toList) ∧ Aside0 (Below w.heap.size w wr))
  case atStart => exact ⟨⟨#[]⟩, Nat.le_refl _, rfl, rfl, ⟨(List.append_nil _).symm⟩, BL⟩
  case round =>
    clear BL
    obtain ⟨b, hg, rfl, rfl, HB, BL⟩ := hrel
    have hb20 : b.size ≤ 20 := by
      have h1 := congrArg List.length HB.out
      rw [List.length_append] at h1
      have h2 : b.data.toList.length = b.size := Array.length_toList
      have := HD.out
      omega
    have hmod : Int.tmod (gk : Int) 10 = ((gk % 10 : Nat) : Int) := by rw [Int.tmod_eq_emod_of_nonneg (by omega)]; rfl
    have hquo : Int.tdiv (gk : Int) 10 = ((gk / 10 : Nat) : Int) := by rw [Int.tdiv_eq_ediv_of_nonneg (by omega)]; rfl
    have hlt10 : gk % 10 < 10 := Nat.mod_lt _ (by omega)
    obtain ⟨c, hc0⟩ : ∃ c, UInt8.ofNat (48 + gk % 10) = c := ⟨_, rfl⟩
    have hcn : (c.toNat : Int) = 48 + (gk : Int) % 10 := by
      rw [← hc0, UInt8.toNat_ofNat_of_lt' (by show 48 + gk % 10 < 256; omega)]; omega
    have HC := Aside0.mk hc0
    clear hc0
    have hcv : (convert 59 9 (.slice (some ⟨wr.heap.size, 0, none⟩) 1 1)).run Tryd.prog (wr.alloc (.cells #[.int .u8 (48 + (gk : Int) % 10)] 5 (0, 0))) = .ok (.string ⟨#[c]⟩) (wr.alloc (.cells #[.int .u8 (48 + (gk : Int) % 10)] 5 (0, 0))) := by
      have h := run_convert_bytes_back (P := Tryd.prog) (wr.alloc (.cells #[.int .u8 (48 + (gk : Int) % 10)] 5 (0, 0))) 59 9 5 ⟨wr.heap.size, 0, none⟩ 1 [c] Tryd.underlying59 Tryd.underlying5 Tryd.underlying9 (fun j hj => by
        have h0 : j = 0 := by simpa using hj
        subst h0
        rw [Lib.add_plain, blk_cell (blk_new _ _) 0]
        simp only [List.getElem_cons_zero, hcn]
        rfl)
      exact h
    have hz1 : (⟨#[c]⟩ : ByteArray).size = 1 := rfl
    have HBD := Aside0.mk (show ((⟨#[c]⟩ : ByteArray) ++ b).data.toList = c :: b.data.toList by rw [app_data]; rfl)
    have BA := Aside0.mk (below_alloc BL.out (.cells #[.int .u8 (48 + (gk : Int) % 10)] 5 (0, 0)))
    clear hcn hmod hquo
    by_cases hz : gk < 10
    · have hz2 : ((gk : Int) / 10 == 0) = true := by simp; omega
      have HR := Aside0.mk (show (⟨#[c]⟩ : ByteArray) ++ b = ofL (decDigits u) by
        apply bytes_ext
        rw [HBD.out, ofL_data, HB.out, dec_small gk hz, ← HC.out, show gk % 10 = gk from Nat.mod_eq_of_lt hz]; rfl)
      have hz3 : (gk : Int) / 10 = 0 := by omega
      clear hz
      go_wp2_with fail
      go_ret
      exact ⟨by rw [← HR.out]; rfl, BA.out⟩
    · have hz2 : ((gk : Int) / 10 == 0) = false := by simp; omega
      have HR := Aside0.mk (show decDigits u = decDigits (gk / 10) ++ ((⟨#[c]⟩ : ByteArray) ++ b).data.toList by
        rw [HBD.out, HB.out, dec_big gk hz, HC.out, List.append_assoc]; rfl)
      have hz3 : ¬ (gk : Int) / 10 = 0 := by omega
      go_wp2_with fail
      go_roundg (gk / 10)
      case measure => omega
      case rel => exact ⟨_, by omega, by go_num, rfl, HR, BA⟩

end Go.Proofs.YtfejbfnjfombhaaDoor.LinN

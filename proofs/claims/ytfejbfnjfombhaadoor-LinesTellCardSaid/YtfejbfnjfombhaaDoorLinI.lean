/- LinesWords' walk. -/
import Derived.Test.YtfejbfnjfombhaaDoorLinH
namespace Go.Proofs.YtfejbfnjfombhaaDoor.LinI
open Go.RowKit Go.Sort Go.Shelf Go.Lib Go.Proofs.YtfejbfnjfombhaaDoorW.PrintWords Go.Proofs.YtfejbfnjfombhaaDoorW.PrintLast Go.Proofs.YtfejbfnjfombhaaDoorW.PrintMore Go.Proofs.YtfejbfnjfombhaaDoor.LinA Go.Proofs.YtfejbfnjfombhaaDoor.LinB Go.Proofs.YtfejbfnjfombhaaDoor.LinC Go.Proofs.YtfejbfnjfombhaaDoor.LinD Go.Proofs.YtfejbfnjfombhaaDoor.LinE Go.Proofs.YtfejbfnjfombhaaDoor.LinF Go.Proofs.YtfejbfnjfombhaaDoor.LinG Go.Proofs.YtfejbfnjfombhaaDoor.LinH
set_option linter.unusedVariables false
set_option linter.unusedSimpArgs false
theorem count_next (l : List UInt8) (i : Nat) (c : UInt8) (h : l[i]? = some c) : (l.take (i + 1)).count 32 = (l.take i).count 32 + (if c = 32 then 1 else 0) := by
  rw [List.take_add_one, h, List.count_append]
  simp only [Option.toList_some, List.count_cons, List.count_nil]
  by_cases e : c = 32
  · subst e; simp
  · simp [e]
theorem app_data (a b : ByteArray) : (a ++ b).data.toList = a.data.toList ++ b.data.toList := by simp
theorem join_next0 (xs : List (List UInt8)) (x : List UInt8) (h : xs[0]? = some x) : join (xs.take 1) [32] = x := by
  cases xs with
  | nil => simp at h
  | cons a r => simp at h; subst h; exact join_one _ _
theorem joinTail_snoc (sep : List UInt8) (l : List (List UInt8)) (x : List UInt8) : joinTail sep (l ++ [x]) = joinTail sep l ++ (sep ++ x) := by simp [joinTail]
theorem join_next (xs : List (List UInt8)) (i : Nat) (x : List UInt8) (hi : 0 < i) (h : xs[i]? = some x) : join (xs.take (i + 1)) [32] = join (xs.take i) [32] ++ [32] ++ x := by
  cases xs with
  | nil => simp at h
  | cons a r =>
    obtain ⟨j, rfl⟩ : ∃ j, i = j + 1 := ⟨i - 1, by omega⟩
    simp only [List.getElem?_cons_succ] at h
    rw [List.take_succ_cons, List.take_succ_cons, join_cons, join_cons, List.take_add_one, h, Option.toList_some, joinTail_snoc, List.append_assoc, List.append_assoc]
set_option maxHeartbeats 4000000 in
set_option maxRecDepth 100000 in
theorem words_walk (s : ByteArray) (w : World) (E : Env w) : Calls Tryd.prog 5 #[.string s] w fun e w' => e = .returned (.bool true) ∧ Below w.heap.size w w' := by
  have HE := Aside0.mk E
  clear E
  have BL := Aside0.mk (Below.refl w.heap.size w)
  by_cases hlen : 1000 < s.size
  · have hd : decide ((1000 : Int) < (s.size : Int)) = true := by simp; omega
    have HW := Aside0.mk (wakes_any w HE.out)
    clear hlen
    go_enter Tryd.func5, Tryd.ntmps5
    go_wp2_with fail
    refine HW.out.mono ?_
    rintro e w1 ⟨rfl, hb⟩
    have B1 := Aside0.mk hb
    clear hb
    go_wp2_with fail
    go_ret
    exact ⟨rfl, B1.out⟩
  · have hd : decide ((1000 : Int) < (s.size : Int)) = false := by simp; omega
    have HC := Aside0.mk (words_any s (by omega) w HE.out)
    have hsl : s.data.toList.length = s.size := Array.length_toList
    have hW : (wordsB s).length = s.data.toList.count 32 + 1 := by unfold wordsB; rw [List.length_map, words_len]
    have hcl : s.data.toList.count 32 ≤ s.size := by rw [← hsl]; exact List.count_le_length
    have HJ := Aside0.mk (join_words s.data.toList)
    have HN := Aside0.mk (words_noblank s.data.toList)
    have HM := Aside0.mk (show (wordsB s).map (·.data.toList) = wordsL s.data.toList by
      unfold wordsB; rw [List.map_map]; conv => rhs; rw [← List.map_id (wordsL _)]
      exact List.map_congr_left (fun a _ => ofL_data a))
    have HSZ := Aside0.mk (show ∀ x ∈ wordsB s, x.size ≤ 1000 from fun x hx => by
      unfold wordsB at hx
      obtain ⟨y, hy, rfl⟩ := List.mem_map.1 hx
      rw [ofL_size]
      have := word_le s.data.toList y hy
      omega)
    have HCX := Aside0.mk (show ∀ (j : Nat) x, (wordsB s)[j]? = some x → (((wordsB s).map Value.string).toArray)[j]? = some (.string x) from fun j x h => by
      rw [List.getElem?_toArray, List.getElem?_map, h]; rfl)
    have hsz : s.size ≤ 1000 := by omega
    clear hlen
    generalize hxs : wordsB s = xs at *
    have HXS := Aside0.mk hxs
    clear hxs
    generalize hcn : s.data.toList.count 32 = cn at *
    have HCN := Aside0.mk hcn
    clear hcn
    rw [hW] at HC
    have HSL := Aside0.mk hsl
    clear hsl
    have HWL := Aside0.mk hW
    clear hW
    go_enter Tryd.func5, Tryd.ntmps5
    go_wp2_with fail
    refine HC.out.mono ?_
    rintro e w1 ⟨rfl, rfl⟩
    have B1 := Aside0.mk (below_alloc BL.out (.cells ((xs.map Value.string).toArray) 9 (0, 0)))
    have X1 := Aside0.mk (blk_new w (.cells ((xs.map Value.string).toArray) 9 (0, 0)))
    generalize w.alloc (.cells ((xs.map Value.string).toArray) 9 (0, 0)) = w1 at *
    generalize ((xs.map Value.string).toArray) = C at *
    generalize hwb : w.heap.size = wb at *
    go_wp2_with fail
    go_loop [4, 6] (fun s4 s6 => ∃ i : Nat, i ≤ s.size ∧ s6 = .int .i64 i ∧ s4 = .int .i64 ((s.data.toList.take i).count 32 : Nat)) (fun _ s6 => s.size - (RowKit.intOf s6).toNat)
    case atStart => exact ⟨0, by omega, rfl, rfl⟩
    case round =>
      obtain ⟨i, hi, rfl, rfl⟩ := hrel
      have hci : (s.data.toList.take i).count 32 ≤ i := Nat.le_trans List.count_le_length (by rw [List.length_take]; omega)
      by_cases hlt : i < s.size
      · have hd2 : decide ((i : Int) < (s.size : Int)) = true := by simp; omega
        have hcx := Aside0.mk (count_next s.data.toList i (s[i]'hlt) (by rw [List.getElem?_eq_getElem (by have := HSL.out; omega)]; rfl))
        generalize hct : (s.data.toList.take i).count 32 = ct at *
        by_cases hb : s[i]'hlt = 32
        · have hbe : (((s[i]'hlt).toNat : Int) == 32) = true := by rw [hb]; rfl
          have HCT := Aside0.mk (show ((s.data.toList.take (i + 1)).count 32 : Nat) = ct + 1 by rw [hcx.out, if_pos hb])
          clear hb hct hcx
          go_wp2_with fail
          go_round
          case measure => simp [RowKit.intOf]; omega
          case rel => exact ⟨i + 1, by omega, by go_num, by rw [HCT.out]; go_num⟩
        · have hbe : (((s[i]'hlt).toNat : Int) == 32) = false := by
            simp only [beq_eq_false_iff_ne, ne_eq]
            intro h
            apply hb
            apply UInt8.toNat_inj.1
            have : (s[i]'hlt).toNat = 32 := by omega
            exact this
          have HCT := Aside0.mk (show ((s.data.toList.take (i + 1)).count 32 : Nat) = ct by rw [hcx.out, if_neg hb, Nat.add_zero])
          clear hb hct hcx
          go_wp2_with fail
          go_round
          case measure => simp [RowKit.intOf]; omega
          case rel => exact ⟨i + 1, by omega, by go_num, by rw [HCT.out]⟩
      · have : i = s.size := by omega
        subst this
        have hcc : (s.data.toList.take s.size).count 32 = cn := by rw [List.take_of_length_le (by have := HSL.out; omega)]; exact HCN.out
        have hd2 : decide ((s.size : Int) < (s.size : Int)) = false := by simp
        generalize (s.data.toList.take s.size).count 32 = cc at *
        subst hcc
        clear hci hlt
        go_wp2_with fail
        have HWK := Aside0.mk (wakes_any w1 (HE.out.below B1.out (by rw [← hwb]; exact HE.out.big)))
        have HXL := HWL.out
        go_loop [5, 7] (fun s5 s7 => ∃ (i : Nat) (b : ByteArray), i ≤ cc + 1 ∧ s7 = .int .i64 i ∧ s5 = .string b ∧ b.size ≤ i * 1001 ∧ Aside0 (b.data.toList = join ((wordsL s.data.toList).take i) [32])) (fun _ s7 => cc + 1 - (RowKit.intOf s7).toNat)
        case atStart => exact ⟨0, ⟨#[]⟩, by omega, rfl, rfl, Nat.zero_le _, ⟨rfl⟩⟩
        case round =>
          obtain ⟨i, b, hi, rfl, rfl, hbs, HB⟩ := hrel
          by_cases hlt : i < cc + 1
          · have hd3 : decide ((i : Int) < (cc : Int) + 1) = true := by simp; omega
            obtain ⟨x, hx⟩ : ∃ x, xs[i]? = some x := ⟨xs[i]'(by omega), List.getElem?_eq_getElem _⟩
            have hxW : (wordsL s.data.toList)[i]? = some x.data.toList := by rw [← HM.out, List.getElem?_map, hx]; rfl
            have hxn := Aside0.mk (HN.out x.data.toList (List.mem_of_getElem? hxW))
            have hxz := HSZ.out x (List.mem_of_getElem? hx)
            have c0 := (blk_cell X1.out i).trans (HCX.out i x hx)
            have HNX : Aside0 (0 < i → (b ++ ⟨#[32]⟩ ++ x).data.toList = join ((wordsL s.data.toList).take (i + 1)) [32]) := ⟨fun h0 => by
              rw [join_next _ i _ h0 hxW, ← HB.out, app_data, app_data]⟩
            have HN0 : Aside0 (i = 0 → (b ++ x).data.toList = join ((wordsL s.data.toList).take (i + 1)) [32]) := ⟨fun h0 => by
              subst h0
              rw [join_next0 _ _ hxW, app_data, HB.out]; rfl⟩
            have HXZ := Aside0.mk (show x.data.toList.length = x.size from Array.length_toList)
            clear hx hxW
            by_cases h0 : 0 < i
            · have hd4 : decide ((0 : Int) < (i : Int)) = true := by simp; omega
              have HBN := Aside0.mk (HNX.out h0)
              clear HNX HN0
              have hz1 : (b ++ ⟨#[32]⟩ : ByteArray).size = b.size + 1 := ByteArray.size_append
              have hz2 := Aside0.mk (show (b ++ ⟨#[32]⟩ ++ x : ByteArray).size ≤ (i + 1) * 1001 by rw [ByteArray.size_append, hz1]; omega)
              go_wp2_with fail
              go_loop [8] (fun s8 => ∃ k : Nat, k ≤ x.size ∧ s8 = .int .i64 k) (fun s8 => x.size - (RowKit.intOf s8).toNat)
              case atStart => exact ⟨0, by omega, rfl⟩
              case round =>
                obtain ⟨k, hk, rfl⟩ := hrel
                by_cases hkl : k < x.size
                · have hd5 : decide ((k : Int) < (x.size : Int)) = true := by simp; omega
                  have hbe : (((x[k]'hkl).toNat : Int) == 32) = false := by
                    simp only [beq_eq_false_iff_ne, ne_eq]
                    intro h
                    apply hxn.out (x[k]'hkl) (List.mem_of_getElem? (show x.data.toList[k]? = some (x[k]'hkl) by rw [List.getElem?_eq_getElem (by have := HXZ.out; omega)]; rfl))
                    apply UInt8.toNat_inj.1
                    have : (x[k]'hkl).toNat = 32 := by omega
                    exact this
                  go_wp2_with fail
                  go_round
                  case measure => simp [RowKit.intOf]; omega
                  case rel => exact ⟨k + 1, by omega, by go_num⟩
                · have : k = x.size := by omega
                  subst this
                  have hd5 : decide ((x.size : Int) < (x.size : Int)) = false := by simp
                  clear hkl
                  go_wp2_with fail
                  go_round
                  case measure => simp [RowKit.intOf]; omega
                  case rel => exact ⟨i + 1, _, by omega, by go_num, rfl, hz2.out, HBN⟩
            · have hd4 : decide ((0 : Int) < (i : Int)) = false := by simp; omega
              have HBN := Aside0.mk (HN0.out (by omega))
              clear HNX HN0
              have hz2 := Aside0.mk (show (b ++ x : ByteArray).size ≤ (i + 1) * 1001 by rw [ByteArray.size_append]; omega)
              go_wp2_with fail
              go_loop [8] (fun s8 => ∃ k : Nat, k ≤ x.size ∧ s8 = .int .i64 k) (fun s8 => x.size - (RowKit.intOf s8).toNat)
              case atStart => exact ⟨0, by omega, rfl⟩
              case round =>
                obtain ⟨k, hk, rfl⟩ := hrel
                by_cases hkl : k < x.size
                · have hd5 : decide ((k : Int) < (x.size : Int)) = true := by simp; omega
                  have hbe : (((x[k]'hkl).toNat : Int) == 32) = false := by
                    simp only [beq_eq_false_iff_ne, ne_eq]
                    intro h
                    apply hxn.out (x[k]'hkl) (List.mem_of_getElem? (show x.data.toList[k]? = some (x[k]'hkl) by rw [List.getElem?_eq_getElem (by have := HXZ.out; omega)]; rfl))
                    apply UInt8.toNat_inj.1
                    have : (x[k]'hkl).toNat = 32 := by omega
                    exact this
                  go_wp2_with fail
                  go_round
                  case measure => simp [RowKit.intOf]; omega
                  case rel => exact ⟨k + 1, by omega, by go_num⟩
                · have : k = x.size := by omega
                  subst this
                  have hd5 : decide ((x.size : Int) < (x.size : Int)) = false := by simp
                  clear hkl
                  go_wp2_with fail
                  go_round
                  case measure => simp [RowKit.intOf]; omega
                  case rel => exact ⟨i + 1, _, by omega, by go_num, rfl, hz2.out, HBN⟩
          · have : i = cc + 1 := by omega
            subst this
            have hd3 : decide (((cc + 1 : Nat) : Int) < (cc : Int) + 1) = false := by simp
            have hq : (b.toList == s.toList) = true := by
              rw [bytes_eqB, decide_eq_true]
              rw [HB.out, List.take_of_length_le (by rw [← HM.out, List.length_map]; omega)]
              exact HJ.out
            go_wp2_with fail
            refine HWK.out.mono ?_
            rintro e w2 ⟨rfl, hb⟩
            have B2 := Aside0.mk (below_step (by rw [hwb]; exact B1.out) hb)
            clear hb
            go_wp2_with fail
            go_ret
            exact ⟨rfl, B2.out⟩
end Go.Proofs.YtfejbfnjfombhaaDoor.LinI

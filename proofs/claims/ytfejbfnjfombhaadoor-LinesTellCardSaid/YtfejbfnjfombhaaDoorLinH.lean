/- What wakes, at its own inputs. -/
import Derived.Test.YtfejbfnjfombhaaDoorLinG
namespace Go.Proofs.YtfejbfnjfombhaaDoor.LinH
open Go.RowKit Go.Sort Go.Shelf Go.Lib Go.Proofs.YtfejbfnjfombhaaDoorW.PrintWords Go.Proofs.YtfejbfnjfombhaaDoorW.PrintLast Go.Proofs.YtfejbfnjfombhaaDoorW.PrintMore Go.Proofs.YtfejbfnjfombhaaDoor.LinA Go.Proofs.YtfejbfnjfombhaaDoor.LinB Go.Proofs.YtfejbfnjfombhaaDoor.LinC Go.Proofs.YtfejbfnjfombhaaDoor.LinD Go.Proofs.YtfejbfnjfombhaaDoor.LinE Go.Proofs.YtfejbfnjfombhaaDoor.LinF Go.Proofs.YtfejbfnjfombhaaDoor.LinG
set_option linter.unusedVariables false
set_option linter.unusedSimpArgs false

theorem list_eq_step (xs ys : List ByteArray) (i : Nat) (x y : ByteArray) (hl : xs.length = ys.length) (hx : xs[i]? = some x) (hy : ys[i]? = some y) (h : xs.take i = ys.take i) : (xs.take (i + 1) = ys.take (i + 1)) ↔ x = y := by
  rw [List.take_add_one, List.take_add_one, h, hx, hy]
  simp
set_option maxHeartbeats 1000000 in
theorem texts_any (ga ca gb cb : Nat) (xs ys : List ByteArray) (w : World) (hx : ∀ (j : Nat) x, xs[j]? = some x → w.cell? ⟨ga, j, none⟩ = some (.string x)) (hy : ∀ (j : Nat) x, ys[j]? = some x → w.cell? ⟨gb, j, none⟩ = some (.string x)) (hlx : xs.length < 4611686018427387904) :
    Calls Tryd.prog 13 #[.slice (some ⟨ga, 0, none⟩) xs.length ca, .slice (some ⟨gb, 0, none⟩) ys.length cb] w fun e w' => e = .returned (.bool (decide (xs = ys))) ∧ Below w.heap.size w w' := by
  have HX := Aside0.mk hx
  have HY := Aside0.mk hy
  clear hx hy
  have BL := Aside0.mk (Below.refl w.heap.size w)
  generalize hn : xs.length = n at *
  generalize hm : ys.length = m at *
  have HN := Aside0.mk hn
  have HM := Aside0.mk hm
  clear hn hm
  by_cases hnm : n = m
  · subst hnm
    go_enter Tryd.func13, Tryd.ntmps13
    go_wp2_with fail
    go_loopg [5] n (fun g s5 wr => ∃ i : Nat, i + g = n ∧ s5 = .int .i64 i ∧ Aside0 (Below w.heap.size w wr) ∧ Aside0 (xs.take i = ys.take i))
    case atStart => exact ⟨0, by omega, rfl, BL, ⟨rfl⟩⟩
    case round =>
      clear BL
      obtain ⟨i, hi, rfl, BL, HT⟩ := hrel
      cases gk with
      | zero =>
        have hd : decide ((i : Int) < (n : Int)) = false := by simp; omega
        have HE := Aside0.mk (show xs = ys by
          have := HT.out
          rw [List.take_of_length_le (by have := HN.out; omega), List.take_of_length_le (by have := HM.out; omega)] at this
          exact this)
        go_wp2_with fail
        go_ret
        exact ⟨by rw [decide_eq_true HE.out]; rfl, BL.out⟩
      | succ g =>
        have hd : decide ((i : Int) < (n : Int)) = true := by simp; omega
        obtain ⟨x, hx⟩ : ∃ x, xs[i]? = some x := ⟨xs[i]'(by have := HN.out; omega), List.getElem?_eq_getElem _⟩
        obtain ⟨y, hy⟩ : ∃ x, ys[i]? = some x := ⟨ys[i]'(by have := HM.out; omega), List.getElem?_eq_getElem _⟩
        have c0 := pw_cell_below BL.out (HX.out i x hx)
        have c1 := pw_cell_below BL.out (HY.out i y hy)
        have HS := Aside0.mk (list_eq_step xs ys i x y (by rw [HN.out, HM.out]) hx hy HT.out)
        have hq := bytes_eqB x y
        by_cases e : x.data.toList = y.data.toList
        · rw [decide_eq_true e] at hq
          have HT2 := Aside0.mk (HS.out.2 (bytes_ext e))
          have hin : i < n := by omega
          clear e hx hy HS
          go_wp2_with fail
          go_region
          go_wp2_with fail
          go_roundg g
          case measure => omega
          case rel => exact ⟨i + 1, by omega, by go_num, ⟨below_drew BL.out⟩, HT2⟩
        · rw [decide_eq_false e] at hq
          have HF := Aside0.mk (show decide (xs = ys) = false from decide_eq_false (fun h => e (by rw [HS.out.1 (by rw [h])])))
          have hin : i < n := by omega
          clear e hx hy HS
          go_wp2_with fail
          go_region
          go_wp2_with fail
          go_ret
          exact ⟨by rw [HF.out]; rfl, below_drew BL.out⟩
  · have hne : ((n : Int) == (m : Int)) = false := by simp; omega
    have HF := Aside0.mk (show decide (xs = ys) = false from decide_eq_false (fun h => hnm (by rw [← HN.out, ← HM.out, h])))
    clear hnm
    go_enter Tryd.func13, Tryd.ntmps13
    go_wp2_with fail
    go_ret
    exact ⟨by rw [HF.out]; rfl, BL.out⟩
theorem p1 : parseF ⟨#[109, 97, 107, 101, 32, 100, 97, 116, 97, 32, 50]⟩ = some ⟨1, ⟨#[100, 97, 116, 97]⟩, 2, 0⟩ := by decide +kernel
theorem p2 : parseF ⟨#[109, 105, 110, 116, 32, 42, 32, 51, 32, 52, 50, 57, 52, 57, 54, 55, 50, 57, 53]⟩ = some ⟨3, ⟨#[]⟩, 3, 4294967295⟩ := by decide +kernel
theorem p3 : parseF ⟨#[109, 97, 107, 101, 32, 68, 97, 116, 97, 32, 50]⟩ = none := by decide +kernel
theorem t4 : textF ⟨6, ⟨#[]⟩, 1, 0⟩ = some ⟨#[102, 111, 114, 99, 101, 32, 49]⟩ := by decide +kernel
theorem wds5 : wordsB ⟨#[97, 32, 32, 98]⟩ = [⟨#[97]⟩, ⟨#[]⟩, ⟨#[98]⟩] := by decide +kernel
set_option maxHeartbeats 2000000 in
theorem wakes_any (w : World) (E : Env w) : Calls Tryd.prog 7 #[] w fun e w' => e = .returned (.bool true) ∧ Below w.heap.size w w' := by
  have HE := Aside0.mk E
  have H1 := Aside0.mk (show Calls Tryd.prog 8 #[.string ⟨#[109, 97, 107, 101, 32, 100, 97, 116, 97, 32, 50]⟩] w fun e w' => e = .returned (.tuple #[.agg #[.int .i64 1, .string ⟨#[100, 97, 116, 97]⟩, .int .i64 2, .int .u32 0], .int .i64 0]) ∧ Below w.heap.size w w' from by
    have h := parse_any ⟨#[109, 97, 107, 101, 32, 100, 97, 116, 97, 32, 50]⟩ (by decide) w E
    rw [p1] at h; exact h)
  clear E
  go_enter Tryd.func7, Tryd.ntmps7
  go_wp2_with fail
  refine H1.out.mono ?_
  rintro e w1 ⟨rfl, hb⟩
  have BL := Aside0.mk (below_alloc hb (.cells #[.int .i64 1, .string ⟨#[100, 97, 116, 97]⟩, .int .i64 2, .int .u32 0] 24 (0, 0)))
  have A1 := Aside0.mk (blk_new w1 (.cells #[.int .i64 1, .string ⟨#[100, 97, 116, 97]⟩, .int .i64 2, .int .u32 0] 24 (0, 0)))
  clear hb
  go_wp2_with fail
  generalize w1.alloc (.cells #[.int .i64 1, .string ⟨#[100, 97, 116, 97]⟩, .int .i64 2, .int .u32 0] 24 (0, 0)) = w2 at *
  generalize w1.heap.size = ga at *
  have H2 := Aside0.mk (show Calls Tryd.prog 8 #[.string ⟨#[109, 105, 110, 116, 32, 42, 32, 51, 32, 52, 50, 57, 52, 57, 54, 55, 50, 57, 53]⟩] w2 fun e w' => e = .returned (.tuple #[.agg #[.int .i64 3, .string ⟨#[]⟩, .int .i64 3, .int .u32 4294967295], .int .i64 0]) ∧ Below w2.heap.size w2 w' from by
    have h := parse_any ⟨#[109, 105, 110, 116, 32, 42, 32, 51, 32, 52, 50, 57, 52, 57, 54, 55, 50, 57, 53]⟩ (by decide) w2 (HE.out.below BL.out HE.out.big)
    rw [p2] at h; exact h)
  refine H2.out.mono ?_
  rintro e w3 ⟨rfl, hb⟩
  replace BL := Aside0.mk (below_alloc (below_step BL.out hb) (.cells #[.int .i64 3, .string ⟨#[]⟩, .int .i64 3, .int .u32 4294967295] 24 (0, 0)))
  replace A1 := Aside0.mk (blk_alloc (blk_below A1.out hb) (.cells #[.int .i64 3, .string ⟨#[]⟩, .int .i64 3, .int .u32 4294967295] 24 (0, 0)))
  have A2 := Aside0.mk (blk_new w3 (.cells #[.int .i64 3, .string ⟨#[]⟩, .int .i64 3, .int .u32 4294967295] 24 (0, 0)))
  clear hb
  go_wp2_with fail
  generalize w3.alloc (.cells #[.int .i64 3, .string ⟨#[]⟩, .int .i64 3, .int .u32 4294967295] 24 (0, 0)) = w4 at *
  generalize w3.heap.size = gb at *
  have H3 := Aside0.mk (show Calls Tryd.prog 8 #[.string ⟨#[109, 97, 107, 101, 32, 68, 97, 116, 97, 32, 50]⟩] w4 fun e w' => e = .returned (.tuple #[.agg #[.int .i64 0, .string ⟨#[]⟩, .int .i64 0, .int .u32 0], .int .i64 11]) ∧ Below w4.heap.size w4 w' from by
    have h := parse_any ⟨#[109, 97, 107, 101, 32, 68, 97, 116, 97, 32, 50]⟩ (by decide) w4 (HE.out.below BL.out HE.out.big)
    rw [p3] at h; exact h)
  refine H3.out.mono ?_
  rintro e w5 ⟨rfl, hb⟩
  replace BL := Aside0.mk (below_alloc (below_step BL.out hb) (.cells #[.int .i64 0, .string ⟨#[]⟩, .int .i64 0, .int .u32 0] 24 (0, 0)))
  replace A1 := Aside0.mk (blk_alloc (blk_below A1.out hb) (.cells #[.int .i64 0, .string ⟨#[]⟩, .int .i64 0, .int .u32 0] 24 (0, 0)))
  replace A2 := Aside0.mk (blk_alloc (blk_below A2.out hb) (.cells #[.int .i64 0, .string ⟨#[]⟩, .int .i64 0, .int .u32 0] 24 (0, 0)))
  clear hb H1 H2 H3
  go_wp2_with fail
  generalize w5.alloc (.cells #[.int .i64 0, .string ⟨#[]⟩, .int .i64 0, .int .u32 0] 24 (0, 0)) = w6 at *
  have H4 := Aside0.mk (show Calls Tryd.prog 10 #[.agg #[.int .i64 6, .string ⟨#[]⟩, .int .i64 1, .int .u32 0]] w6 fun e w' => e = .returned (.tuple #[.string ⟨#[102, 111, 114, 99, 101, 32, 49]⟩, .int .i64 0]) ∧ Below w6.heap.size w6 w' from by
    have h := textfn_any ⟨6, ⟨#[]⟩, 1, 0⟩ ⟨by decide, by decide, by decide, by decide, by decide⟩ w6 (HE.out.below BL.out HE.out.big)
    rw [t4] at h; exact h)
  refine H4.out.mono ?_
  rintro e w7 ⟨rfl, hb⟩
  replace BL := Aside0.mk (below_step BL.out hb)
  replace A1 := Aside0.mk (blk_below A1.out hb)
  replace A2 := Aside0.mk (blk_below A2.out hb)
  clear hb H4
  have a0 := (blk_cell A1.out 0).trans (show _ = some (.int .i64 1) from rfl)
  have a1 := (blk_cell A1.out 1).trans (show _ = some (.string ⟨#[100, 97, 116, 97]⟩) from rfl)
  have a2 := (blk_cell A1.out 2).trans (show _ = some (.int .i64 2) from rfl)
  have b1 := (blk_cell A2.out 1).trans (show _ = some (.string ⟨#[]⟩) from rfl)
  have b2 := (blk_cell A2.out 2).trans (show _ = some (.int .i64 3) from rfl)
  have b3 := (blk_cell A2.out 3).trans (show _ = some (.int .u32 4294967295) from rfl)
  have H5 := Aside0.mk (words_any ⟨#[97, 32, 32, 98]⟩ (by decide) w7 (HE.out.below BL.out HE.out.big))
  rw [wds5] at H5
  go_wp2_with fail
  refine H5.out.mono ?_
  rintro e w8 ⟨rfl, rfl⟩
  have HQ := Aside0.mk (texts_any w7.heap.size 3 (w7.heap.size + 1) 3 [⟨#[97]⟩, ⟨#[]⟩, ⟨#[98]⟩] [⟨#[97]⟩, ⟨#[]⟩, ⟨#[98]⟩] ((w7.alloc (.cells #[.string ⟨#[97]⟩, .string ⟨#[]⟩, .string ⟨#[98]⟩] 9 (0, 0))).alloc (.cells #[.string ⟨#[97]⟩, .string ⟨#[]⟩, .string ⟨#[98]⟩] 9 (0, 0))) (fun j x hj => by
    rw [blk_cell (blk_alloc (blk_new w7 _) _) j]
    rw [show (#[Value.string ⟨#[97]⟩, Value.string ⟨#[]⟩, Value.string ⟨#[98]⟩])[j]? = ([⟨#[97]⟩, ⟨#[]⟩, ⟨#[98]⟩].map Value.string)[j]? by rw [← Array.getElem?_toList]; rfl, List.getElem?_map, hj]; rfl) (fun j x hj => by
    rw [← alloc_size' w7 (.cells #[.string ⟨#[97]⟩, .string ⟨#[]⟩, .string ⟨#[98]⟩] 9 (0, 0)), blk_cell (blk_new (w7.alloc _) _) j]
    rw [show (#[Value.string ⟨#[97]⟩, Value.string ⟨#[]⟩, Value.string ⟨#[98]⟩])[j]? = ([⟨#[97]⟩, ⟨#[]⟩, ⟨#[98]⟩].map Value.string)[j]? by rw [← Array.getElem?_toList]; rfl, List.getElem?_map, hj]; rfl) (by decide))
  have BQ := Aside0.mk (below_alloc (below_alloc BL.out (.cells #[.string ⟨#[97]⟩, .string ⟨#[]⟩, .string ⟨#[98]⟩] 9 (0, 0))) (.cells #[.string ⟨#[97]⟩, .string ⟨#[]⟩, .string ⟨#[98]⟩] 9 (0, 0)))
  go_wp2_with fail
  refine HQ.out.mono ?_
  rintro e w9 ⟨rfl, hb⟩
  have BZ := Aside0.mk (below_step BQ.out hb)
  clear hb
  go_wp2_with fail
  go_ret
  exact ⟨rfl, BZ.out⟩
end Go.Proofs.YtfejbfnjfombhaaDoor.LinH

/- LinesTell's walk. -/
import Derived.Test.YtfejbfnjfombhaaDoorLinU
namespace Go.Proofs.YtfejbfnjfombhaaDoor.LinV
open Go.RowKit Go.Sort Go.Shelf Go.Lib Go.Proofs.YtfejbfnjfombhaaDoorW.PrintWords Go.Proofs.YtfejbfnjfombhaaDoorW.PrintLast Go.Proofs.YtfejbfnjfombhaaDoorW.PrintMore Go.Proofs.YtfejbfnjfombhaaDoor.LinA Go.Proofs.YtfejbfnjfombhaaDoor.LinB Go.Proofs.YtfejbfnjfombhaaDoor.LinC Go.Proofs.YtfejbfnjfombhaaDoor.LinD Go.Proofs.YtfejbfnjfombhaaDoor.LinE Go.Proofs.YtfejbfnjfombhaaDoor.LinF Go.Proofs.YtfejbfnjfombhaaDoor.LinG Go.Proofs.YtfejbfnjfombhaaDoor.LinH Go.Proofs.YtfejbfnjfombhaaDoor.LinN Go.Proofs.YtfejbfnjfombhaaDoor.LinO Go.Proofs.YtfejbfnjfombhaaDoor.LinP Go.Proofs.YtfejbfnjfombhaaDoor.LinQ Go.Proofs.YtfejbfnjfombhaaDoor.LinS Go.Proofs.YtfejbfnjfombhaaDoor.LinT Go.Proofs.YtfejbfnjfombhaaDoor.LinU
set_option linter.unusedVariables false
set_option linter.unusedSimpArgs false
attribute [local go_sem high] eqA24 eqA29
theorem textr_n (l : Ln) (hl : Fit l) (h : textF l = none) (hb : l.verb < 1 ∨ 7 < l.verb ∨ l.n < 0) (w : World) :
    Calls Tryd.prog 11 #[.agg #[.int .i64 l.verb, .string l.name, .int .i64 l.n, .int .u32 l.till]] w fun e w' => e = .returned (ansT (textF l)) ∧ Below w.heap.size w w' := by
  have BX := Aside0.mk (below_alloc (Below.refl w.heap.size w) (.cells #[.int .i64 l.verb, .string l.name, .int .i64 l.n, .int .u32 l.till] 29 (0, 0)))
  have HR := Aside0.mk h
  clear h
  by_cases q1 : l.verb < 1
  · clear hb
    go_enter Tryd.func11, Tryd.ntmps11
    go_wp2
    go_ret2
    exact ⟨by rw [HR.out]; rfl, BX.out⟩
  · by_cases q2 : 7 < l.verb
    · clear hb
      go_enter Tryd.func11, Tryd.ntmps11
      go_wp2
      go_ret2
      exact ⟨by rw [HR.out]; rfl, BX.out⟩
    · have q3 : l.n < 0 := by omega
      clear hb
      go_enter Tryd.func11, Tryd.ntmps11
      go_wp2
      go_ret2
      exact ⟨by rw [HR.out]; rfl, BX.out⟩
theorem form_of (v : Int) (h1 : 1 ≤ v) (h2 : v ≤ 7) : ∃ f ∈ forms, (f.verb : Int) = v := by
  obtain ⟨k, rfl⟩ : ∃ k : Nat, v = (k : Int) := ⟨v.toNat, by omega⟩
  obtain ⟨f, hf, hv, _⟩ := verb_at k (by omega) (by omega)
  exact ⟨f, List.mem_of_getElem? hf, by rw [hv]⟩
theorem textr_any (l : Ln) (hl : Fit l) (w : World) :
    Calls Tryd.prog 11 #[.agg #[.int .i64 l.verb, .string l.name, .int .i64 l.n, .int .u32 l.till]] w fun e w' => e = .returned (ansT (textF l)) ∧ Below w.heap.size w w' := by
  by_cases h1 : l.verb < 1
  · exact textr_n l hl (LinR.text_verb (.inl h1)) (.inl h1) w
  · by_cases h2 : 7 < l.verb
    · exact textr_n l hl (LinR.text_verb (.inr h2)) (.inr (.inl h2)) w
    · by_cases h3 : l.n < 0
      · exact textr_n l hl (LinR.text_neg h3) (.inr (.inr h3)) w
      · obtain ⟨f, hf, hv⟩ := form_of l.verb (by omega) (by omega)
        obtain ⟨hn0, hn1, ht0, ht1, hs⟩ := hl
        obtain ⟨v, nm, n, t⟩ := l
        simp only at *
        subst hv
        obtain ⟨u, rfl⟩ : ∃ u : Nat, n = (u : Int) := ⟨n.toNat, by omega⟩
        obtain ⟨t, rfl⟩ : ∃ u : Nat, t = (u : Int) := ⟨t.toNat, by omega⟩
        exact textr_good f hf nm u t hs (by omega) (by omega) w
set_option maxHeartbeats 4000000 in
set_option maxRecDepth 100000 in
theorem tell_walk (s : ByteArray) (l : Ln) (hn : -9223372036854775808 ≤ l.n ∧ l.n ≤ 9223372036854775807) (ht : 0 ≤ l.till ∧ l.till ≤ 4294967295) (w : World) (E : Env w) :
    Calls Tryd.prog 3 #[.string s, .agg #[.int .i64 l.verb, .string l.name, .int .i64 l.n, .int .u32 l.till]] w fun e w' => e = .returned (.bool true) ∧ Below w.heap.size w w' := by
  have HE := Aside0.mk E
  clear E
  have BX := Aside0.mk (below_alloc (Below.refl w.heap.size w) (.cells #[.int .i64 l.verb, .string l.name, .int .i64 l.n, .int .u32 l.till] 24 (0, 0)))
  have LX := Aside0.mk (blk_new w (.cells #[.int .i64 l.verb, .string l.name, .int .i64 l.n, .int .u32 l.till] 24 (0, 0)))
  by_cases hlen : 1000 < s.size
  · have hd : decide ((1000 : Int) < (s.size : Int)) = true := by simp; omega
    have HW := Aside0.mk (wakes_any _ (HE.out.below BX.out HE.out.big))
    clear hlen
    go_enter Tryd.func3, Tryd.ntmps3
    go_wp2_with fail
    refine HW.out.mono ?_
    rintro e w1 ⟨rfl, hb⟩
    have B1 := Aside0.mk (below_step BX.out hb)
    clear hb
    go_wp2_with fail
    go_ret
    exact ⟨rfl, B1.out⟩
  · have hd : decide ((1000 : Int) < (s.size : Int)) = false := by simp; omega
    by_cases hnl : 300 < l.name.size
    · have hd2 : decide ((300 : Int) < (l.name.size : Int)) = true := by simp; omega
      have HW := Aside0.mk (wakes_any _ (HE.out.below BX.out HE.out.big))
      clear hlen hnl
      go_enter Tryd.func3, Tryd.ntmps3
      go_wp2_with fail
      refine HW.out.mono ?_
      rintro e w1 ⟨rfl, hb⟩
      have B1 := Aside0.mk (below_step BX.out hb)
      clear hb
      go_wp2_with fail
      go_ret
      exact ⟨rfl, B1.out⟩
    · have hd2 : decide ((300 : Int) < (l.name.size : Int)) = false := by simp; omega
      have HL := Aside0.mk (show Fit l from ⟨hn.1, hn.2, ht.1, ht.2, by omega⟩)
      obtain ⟨w0, r0, hW, hB⟩ := wordsB_ne s
      have hL : (wordsB s).length = r0.length + 1 := by rw [hB]; simp
      have hcl : s.data.toList.count 32 ≤ s.size := by rw [← show s.data.toList.length = s.size from Array.length_toList]; exact List.count_le_length
      have hW2 : (wordsB s).length = s.data.toList.count 32 + 1 := by unfold wordsB; rw [List.length_map, words_len]
      have HP := Aside0.mk (fun W (h : Env W) => parse_any s (by omega) W h)
      have HG := Aside0.mk (parser_any s)
      have HT := Aside0.mk (fun W (h : Env W) => textfn_any l HL.out W h)
      have HU := Aside0.mk (textr_any l HL.out)
      have H4 := Aside0.mk (fun W (h : Env W) => words_any s (by omega) W h)
      have H5 := Aside0.mk (wordsr_any s (by omega))
      have H3 := Aside0.mk (fun ga ca gb cb W hx hy => texts_any ga ca gb cb (wordsB s) (wordsB s) W hx hy (by omega))
      have HC := Aside0.mk (show ∀ (W : World) g, W.heap[g]? = some (.cells ((wordsB s).map Value.string).toArray 9 (0, 0)) → ∀ (j : Nat) x, (wordsB s)[j]? = some x → W.cell? ⟨g, j, none⟩ = some (.string x) from fun W g hg j x h => (blk_cell hg j).trans (by
        rw [List.getElem?_toArray, List.getElem?_map, h]; rfl))
      obtain ⟨m, ep, hA, hGv⟩ : ∃ (m : Ln) (ep : Int), ansP (parseF s) = .tuple #[.agg #[.int .i64 m.verb, .string m.name, .int .i64 m.n, .int .u32 m.till], .int .i64 ep] ∧ ansG (parseF s) = .agg #[.int .i64 m.verb, .string m.name, .int .i64 m.n, .int .u32 m.till, .int .i64 ep] := ⟨_, _, rfl, rfl⟩
      obtain ⟨tx, et, hTv⟩ : ∃ (tx : ByteArray) (et : Int), ansT (textF l) = .tuple #[.string tx, .int .i64 et] := ⟨_, _, rfl⟩
      rw [hL] at H4 H5
      rw [hA] at HP
      rw [hGv] at HG
      rw [hTv] at HT HU
      simp only [hL, decide_true] at H3
      have HM := Aside0.mk (own_any m)
      have HLN := Aside0.mk (own_any l)
      clear hlen hnl hn ht hW hB hL hcl hW2 hA hGv hTv
      have c0 := HE.out.big
      have HBIG := Aside0.mk c0
      clear c0
      have cl0 := (blk_cell LX.out 0).trans (show _ = some (.int .i64 l.verb) from rfl)
      have cl1 := (blk_cell LX.out 1).trans (show _ = some (.string l.name) from rfl)
      have cl2 := (blk_cell LX.out 2).trans (show _ = some (.int .i64 l.n) from rfl)
      have cl3 := (blk_cell LX.out 3).trans (show _ = some (.int .u32 l.till) from rfl)
      go_enter Tryd.func3, Tryd.ntmps3
      go_wp2_with fail
      clear cl0 cl1 cl2 cl3
      generalize w.alloc (.cells #[.int .i64 l.verb, .string l.name, .int .i64 l.n, .int .u32 l.till] 24 (0, 0)) = w1 at *
      generalize hrb : w.heap.size = rb at *
      refine (HP.out _ (HE.out.below BX.out HBIG.out)).mono ?_
      rintro e w2 ⟨rfl, hb⟩
      have hbx := Aside0.mk hb
      replace BX := Aside0.mk (below_then BX.out (Nat.le_of_lt (blk_lt LX.out)) hb)
      replace LX := Aside0.mk (blk_below LX.out hb)
      clear hb
      go_upto_region 4 with (fail)
      have MX := Aside0.mk (blk_new w2 (.cells #[.int .i64 m.verb, .string m.name, .int .i64 m.n, .int .u32 m.till] 24 (0, 0)))
      replace BX := Aside0.mk (BX.out.alloc (Nat.le_of_lt (blk_lt LX.out)) (.cells #[.int .i64 m.verb, .string m.name, .int .i64 m.n, .int .u32 m.till] 24 (0, 0)))
      replace LX := Aside0.mk (blk_alloc LX.out (.cells #[.int .i64 m.verb, .string m.name, .int .i64 m.n, .int .u32 m.till] 24 (0, 0)))
      generalize w2.alloc (.cells #[.int .i64 m.verb, .string m.name, .int .i64 m.n, .int .u32 m.till] 24 (0, 0)) = w3 at *
      generalize w2.heap.size = mb at *
      go_wp2_with fail
      refine (HG.out _).mono ?_
      rintro e w4 ⟨rfl, hb⟩
      have hbx := Aside0.mk hb
      replace BX := Aside0.mk (below_then BX.out (Nat.le_of_lt (blk_lt LX.out)) hb)
      replace LX := Aside0.mk (blk_below LX.out hb)
      clear hb
      replace MX := Aside0.mk (blk_below MX.out hbx.out)
      clear hbx
      go_upto_region 5 with (fail)
      have GX := Aside0.mk (blk_new w4 (.cells #[.int .i64 m.verb, .string m.name, .int .i64 m.n, .int .u32 m.till, .int .i64 ep] 31 (0, 0)))
      replace BX := Aside0.mk (BX.out.alloc (Nat.le_of_lt (blk_lt LX.out)) (.cells #[.int .i64 m.verb, .string m.name, .int .i64 m.n, .int .u32 m.till, .int .i64 ep] 31 (0, 0)))
      replace LX := Aside0.mk (blk_alloc LX.out (.cells #[.int .i64 m.verb, .string m.name, .int .i64 m.n, .int .u32 m.till, .int .i64 ep] 31 (0, 0)))
      replace MX := Aside0.mk (blk_alloc MX.out (.cells #[.int .i64 m.verb, .string m.name, .int .i64 m.n, .int .u32 m.till, .int .i64 ep] 31 (0, 0)))
      generalize w4.alloc (.cells #[.int .i64 m.verb, .string m.name, .int .i64 m.n, .int .u32 m.till, .int .i64 ep] 31 (0, 0)) = w5 at *
      generalize w4.heap.size = gb at *
      have cl0 := (blk_cell LX.out 0).trans (show _ = some (.int .i64 l.verb) from rfl)
      have cl1 := (blk_cell LX.out 1).trans (show _ = some (.string l.name) from rfl)
      have cl2 := (blk_cell LX.out 2).trans (show _ = some (.int .i64 l.n) from rfl)
      have cl3 := (blk_cell LX.out 3).trans (show _ = some (.int .u32 l.till) from rfl)
      go_wp2_with fail
      clear cl0 cl1 cl2 cl3
      refine (HT.out _ (HE.out.below BX.out HBIG.out)).mono ?_
      rintro e w6 ⟨rfl, hb⟩
      have hbx := Aside0.mk hb
      replace BX := Aside0.mk (below_then BX.out (Nat.le_of_lt (blk_lt LX.out)) hb)
      replace LX := Aside0.mk (blk_below LX.out hb)
      clear hb
      replace MX := Aside0.mk (blk_below MX.out hbx.out)
      replace GX := Aside0.mk (blk_below GX.out hbx.out)
      clear hbx
      have cl0 := (blk_cell LX.out 0).trans (show _ = some (.int .i64 l.verb) from rfl)
      have cl1 := (blk_cell LX.out 1).trans (show _ = some (.string l.name) from rfl)
      have cl2 := (blk_cell LX.out 2).trans (show _ = some (.int .i64 l.n) from rfl)
      have cl3 := (blk_cell LX.out 3).trans (show _ = some (.int .u32 l.till) from rfl)
      go_wp2_with fail
      clear cl0 cl1 cl2 cl3
      refine (HLN.out _).mono ?_
      rintro e w7 ⟨rfl, hb⟩
      have hbx := Aside0.mk hb
      replace BX := Aside0.mk (below_then BX.out (Nat.le_of_lt (blk_lt LX.out)) hb)
      replace LX := Aside0.mk (blk_below LX.out hb)
      clear hb
      replace MX := Aside0.mk (blk_below MX.out hbx.out)
      replace GX := Aside0.mk (blk_below GX.out hbx.out)
      clear hbx
      go_wp2_with fail
      refine (HU.out _).mono ?_
      rintro e w8 ⟨rfl, hb⟩
      have hbx := Aside0.mk hb
      replace BX := Aside0.mk (below_then BX.out (Nat.le_of_lt (blk_lt LX.out)) hb)
      replace LX := Aside0.mk (blk_below LX.out hb)
      clear hb
      replace MX := Aside0.mk (blk_below MX.out hbx.out)
      replace GX := Aside0.mk (blk_below GX.out hbx.out)
      clear hbx
      go_upto_region 7 with (fail)
      have hee := eq_ln m m
      rw [decide_eq_true rfl] at hee
      have he1 : (ep == ep) = true := by simp
      have he2 : (et == et) = true := by simp
      have he3 : (tx.toList == tx.toList) = true := by simp
      refine start_ (n := 32) (S := fun w' => w'.cell? ⟨mb, 0, none⟩ = some (.int .i64 m.verb) ∧ w'.cell? ⟨mb, 1, none⟩ = some (.string m.name) ∧ w'.cell? ⟨mb, 2, none⟩ = some (.int .i64 m.n) ∧ w'.cell? ⟨mb, 3, none⟩ = some (.int .u32 m.till) ∧ w'.cell? ⟨gb, 0, none⟩ = some (.int .i64 m.verb) ∧ w'.cell? ⟨gb, 1, none⟩ = some (.string m.name) ∧ w'.cell? ⟨gb, 2, none⟩ = some (.int .i64 m.n) ∧ w'.cell? ⟨gb, 3, none⟩ = some (.int .u32 m.till) ∧ w'.cell? ⟨gb, 4, none⟩ = some (.int .i64 ep)) (ds := []) #[false, false, false, false, false, false, false, false, false, false, false, false, false, false, false, false, false, false, false, false, false, false, false, false, false, false, false, false, false, false, false, false] (by kernel_rfl) rfl rfl ⟨(show w8.cell? ⟨mb, 0, none⟩ = some (.int .i64 m.verb) from blk_cell MX.out 0), (show w8.cell? ⟨mb, 1, none⟩ = some (.string m.name) from blk_cell MX.out 1), (show w8.cell? ⟨mb, 2, none⟩ = some (.int .i64 m.n) from blk_cell MX.out 2), (show w8.cell? ⟨mb, 3, none⟩ = some (.int .u32 m.till) from blk_cell MX.out 3), (show w8.cell? ⟨gb, 0, none⟩ = some (.int .i64 m.verb) from blk_cell GX.out 0), (show w8.cell? ⟨gb, 1, none⟩ = some (.string m.name) from blk_cell GX.out 1), (show w8.cell? ⟨gb, 2, none⟩ = some (.int .i64 m.n) from blk_cell GX.out 2), (show w8.cell? ⟨gb, 3, none⟩ = some (.int .u32 m.till) from blk_cell GX.out 3), (show w8.cell? ⟨gb, 4, none⟩ = some (.int .i64 ep) from blk_cell GX.out 4)⟩ (fun hHeld => ?_)
      replace BX := Aside0.mk (below_drew BX.out)
      replace LX := Aside0.mk (blk_drew LX.out)
      replace MX := Aside0.mk (blk_drew MX.out)
      replace GX := Aside0.mk (blk_drew GX.out)
      generalize w8.drew = w9 at BX LX MX GX hHeld ⊢
      refine pure_ (i := 2) (N := (some 42)) (v := ?_) (a' := ?_) #[false, false, true, false, false, false, false, false, false, false, false, false, false, false, false, false, false, false, false, false, false, false, false, false, false, false, false, false, false, false, false, false] rfl rfl (by kernel_rfl) (fun _ _ _ h => h) (Or.inl ⟨by rfl, ?_⟩) ?_ ?_
      rotate_left
      · intro w'
        go_simp
        with_reducible rfl
      rotate_left
      · simp only [Act.put, List.setIfInBounds_toArray, List.set_cons_zero, List.set_cons_succ, i64_w, i32_w]
        rfl
      refine take_ (i := 0) (N := (some 40)) (v := ?_) (a' := ?_) #[true, false, true, false, false, false, false, false, false, false, false, false, false, false, false, false, false, false, false, false, false, false, false, false, false, false, false, false, false, false, false, false] rfl rfl (by kernel_rfl) (fun _ _ _ h => h) (Or.inl ⟨by rfl, ?_⟩) hHeld ?_ ?_
      rotate_left
      · rintro w' ⟨s0, s1, s2, s3, s4, s5, s6, s7, s8⟩
        go_simp
        with_reducible rfl
      rotate_left
      · simp only [Act.put, List.setIfInBounds_toArray, List.set_cons_zero, List.set_cons_succ, i64_w, i32_w]
        rfl
      refine take_ (i := 3) (N := (some 43)) (v := ?_) (a' := ?_) #[true, false, true, true, false, false, false, false, false, false, false, false, false, false, false, false, false, false, false, false, false, false, false, false, false, false, false, false, false, false, false, false] rfl rfl (by kernel_rfl) (fun _ _ _ h => h) (Or.inl ⟨by rfl, ?_⟩) hHeld ?_ ?_
      rotate_left
      · rintro w' ⟨s0, s1, s2, s3, s4, s5, s6, s7, s8⟩
        go_simp
        with_reducible rfl
      rotate_left
      · simp only [Act.put, List.setIfInBounds_toArray, List.set_cons_zero, List.set_cons_succ, i64_w, i32_w]
        rfl
      refine one_ (i := 1) (N := (some 41)) #[true, true, true, true, false, false, false, false, false, false, false, false, false, false, false, false, false, false, false, false, false, false, false, false, false, false, false, false, false, false, false, false] rfl rfl (by kernel_rfl) (by decide) (fun K hK => ?_)
      refine goes_ Tryd.func12 (by kernel_rfl) rfl #[.agg #[.int .i64 m.verb, .string m.name, .int .i64 m.n, .int .u32 m.till]] (by rfl) rfl rfl (by first | (simp only [List.map_toArray, List.map_cons, List.map_nil]; done) | (simp only [List.map_toArray, List.map_cons, List.map_nil]; rfl)) ?_
      with_reducible refine (HM.out _).mono ?_
      rintro e wa ⟨rfl, hb⟩
      replace BX := Aside0.mk (below_then BX.out (Nat.le_of_lt (blk_lt LX.out)) hb)
      replace LX := Aside0.mk (blk_below LX.out hb)
      replace MX := Aside0.mk (blk_below MX.out hb)
      replace GX := Aside0.mk (blk_below GX.out hb)
      clear hb hHeld
      refine ⟨_, rfl, ?_⟩
      refine hK.out _ _ ⟨(show wa.cell? ⟨mb, 0, none⟩ = some (.int .i64 m.verb) from blk_cell MX.out 0), (show wa.cell? ⟨mb, 1, none⟩ = some (.string m.name) from blk_cell MX.out 1), (show wa.cell? ⟨mb, 2, none⟩ = some (.int .i64 m.n) from blk_cell MX.out 2), (show wa.cell? ⟨mb, 3, none⟩ = some (.int .u32 m.till) from blk_cell MX.out 3), (show wa.cell? ⟨gb, 0, none⟩ = some (.int .i64 m.verb) from blk_cell GX.out 0), (show wa.cell? ⟨gb, 1, none⟩ = some (.string m.name) from blk_cell GX.out 1), (show wa.cell? ⟨gb, 2, none⟩ = some (.int .i64 m.n) from blk_cell GX.out 2), (show wa.cell? ⟨gb, 3, none⟩ = some (.int .u32 m.till) from blk_cell GX.out 3), (show wa.cell? ⟨gb, 4, none⟩ = some (.int .i64 ep) from blk_cell GX.out 4)⟩ (fun hHeld => ?_)
      clear hK K
      refine norm_ (a' := ?_) ?_ ?_
      rotate_left
      · show Act.put _ (some 41) _ = _
        simp only [Act.put, List.setIfInBounds_toArray, List.set_cons_zero, List.set_cons_succ, i64_w, i32_w]
        rfl
      refine pure_ (i := 4) (N := (some 44)) (v := ?_) (a' := ?_) #[true, true, true, true, true, false, false, false, false, false, false, false, false, false, false, false, false, false, false, false, false, false, false, false, false, false, false, false, false, false, false, false] rfl rfl (by kernel_rfl) (fun _ _ _ h => h) (Or.inl ⟨by rfl, ?_⟩) ?_ ?_
      rotate_left
      · intro w'
        go_simp
        with_reducible rfl
      rotate_left
      · simp only [Act.put, List.setIfInBounds_toArray, List.set_cons_zero, List.set_cons_succ, i64_w, i32_w]
        rfl
      refine pure_ (i := 5) (N := (some 45)) (v := ?_) (a' := ?_) #[true, true, true, true, true, true, false, false, false, false, false, false, false, false, false, false, false, false, false, false, false, false, false, false, false, false, false, false, false, false, false, false] rfl rfl (by kernel_rfl) (fun _ _ _ h => h) (Or.inl ⟨by rfl, ?_⟩) ?_ ?_
      rotate_left
      · intro w'
        go_simp
        with_reducible rfl
      rotate_left
      · simp only [Act.put, List.setIfInBounds_toArray, List.set_cons_zero, List.set_cons_succ, i64_w, i32_w]
        rfl
      refine pure_ (i := 6) (N := (some 46)) (v := ?_) (a' := ?_) #[true, true, true, true, true, true, true, false, false, false, false, false, false, false, false, false, false, false, false, false, false, false, false, false, false, false, false, false, false, false, false, false] rfl rfl (by kernel_rfl) (fun _ _ _ h => h) (Or.inl ⟨by rfl, ?_⟩) ?_ ?_
      rotate_left
      · intro w'
        go_simp
        with_reducible rfl
      rotate_left
      · simp only [Act.put, List.setIfInBounds_toArray, List.set_cons_zero, List.set_cons_succ, i64_w, i32_w]
        rfl
      refine pure_ (i := 7) (N := (some 47)) (v := ?_) (a' := ?_) #[true, true, true, true, true, true, true, true, false, false, false, false, false, false, false, false, false, false, false, false, false, false, false, false, false, false, false, false, false, false, false, false] rfl rfl (by kernel_rfl) (fun _ _ _ h => h) (Or.inl ⟨by rfl, ?_⟩) ?_ ?_
      rotate_left
      · intro w'
        go_simp
        with_reducible rfl
      rotate_left
      · simp only [Act.put, List.setIfInBounds_toArray, List.set_cons_zero, List.set_cons_succ, i64_w, i32_w]
        rfl
      refine take_ (i := 8) (N := (some 48)) (v := ?_) (a' := ?_) #[true, true, true, true, true, true, true, true, true, false, false, false, false, false, false, false, false, false, false, false, false, false, false, false, false, false, false, false, false, false, false, false] rfl rfl (by kernel_rfl) (fun _ _ _ h => h) (Or.inl ⟨by rfl, ?_⟩) hHeld ?_ ?_
      rotate_left
      · rintro w' ⟨s0, s1, s2, s3, s4, s5, s6, s7, s8⟩
        go_simp
        with_reducible rfl
      rotate_left
      · simp only [Act.put, List.setIfInBounds_toArray, List.set_cons_zero, List.set_cons_succ, i64_w, i32_w]
        rfl
      refine pure_ (i := 9) (N := (some 49)) (v := ?_) (a' := ?_) #[true, true, true, true, true, true, true, true, true, true, false, false, false, false, false, false, false, false, false, false, false, false, false, false, false, false, false, false, false, false, false, false] rfl rfl (by kernel_rfl) (fun _ _ _ h => h) (Or.inl ⟨by rfl, ?_⟩) ?_ ?_
      rotate_left
      · intro w'
        go_simp
        with_reducible rfl
      rotate_left
      · simp only [Act.put, List.setIfInBounds_toArray, List.set_cons_zero, List.set_cons_succ, i64_w, i32_w]
        rfl
      refine pure_ (i := 10) (N := (some 50)) (v := ?_) (a' := ?_) #[true, true, true, true, true, true, true, true, true, true, true, false, false, false, false, false, false, false, false, false, false, false, false, false, false, false, false, false, false, false, false, false] rfl rfl (by kernel_rfl) (fun _ _ _ h => h) (Or.inl ⟨by rfl, ?_⟩) ?_ ?_
      rotate_left
      · intro w'
        go_simp
        with_reducible rfl
      rotate_left
      · simp only [Act.put, List.setIfInBounds_toArray, List.set_cons_zero, List.set_cons_succ, i64_w, i32_w]
        rfl
      refine pure_ (i := 11) (N := (some 51)) (v := ?_) (a' := ?_) #[true, true, true, true, true, true, true, true, true, true, true, true, false, false, false, false, false, false, false, false, false, false, false, false, false, false, false, false, false, false, false, false] rfl rfl (by kernel_rfl) (fun _ _ _ h => h) (Or.inl ⟨by rfl, ?_⟩) ?_ ?_
      rotate_left
      · intro w'
        go_simp
        with_reducible rfl
      rotate_left
      · simp only [Act.put, List.setIfInBounds_toArray, List.set_cons_zero, List.set_cons_succ, i64_w, i32_w]
        rfl
      refine pure_ (i := 12) (N := (some 52)) (v := ?_) (a' := ?_) #[true, true, true, true, true, true, true, true, true, true, true, true, true, false, false, false, false, false, false, false, false, false, false, false, false, false, false, false, false, false, false, false] rfl rfl (by kernel_rfl) (fun _ _ _ h => h) (Or.inl ⟨by rfl, ?_⟩) ?_ ?_
      rotate_left
      · intro w'
        go_simp
        with_reducible rfl
      rotate_left
      · simp only [Act.put, List.setIfInBounds_toArray, List.set_cons_zero, List.set_cons_succ, i64_w, i32_w]
        rfl
      refine pure_ (i := 13) (N := (some 53)) (v := ?_) (a' := ?_) #[true, true, true, true, true, true, true, true, true, true, true, true, true, true, false, false, false, false, false, false, false, false, false, false, false, false, false, false, false, false, false, false] rfl rfl (by kernel_rfl) (fun _ _ _ h => h) (Or.inl ⟨by rfl, ?_⟩) ?_ ?_
      rotate_left
      · intro w'
        go_simp
        with_reducible rfl
      rotate_left
      · simp only [Act.put, List.setIfInBounds_toArray, List.set_cons_zero, List.set_cons_succ, i64_w, i32_w]
        rfl
      refine pure_ (i := 14) (N := (some 54)) (v := ?_) (a' := ?_) #[true, true, true, true, true, true, true, true, true, true, true, true, true, true, true, false, false, false, false, false, false, false, false, false, false, false, false, false, false, false, false, false] rfl rfl (by kernel_rfl) (fun _ _ _ h => h) (Or.inl ⟨by rfl, ?_⟩) ?_ ?_
      rotate_left
      · intro w'
        go_simp
        with_reducible rfl
      rotate_left
      · simp only [Act.put, List.setIfInBounds_toArray, List.set_cons_zero, List.set_cons_succ, i64_w, i32_w]
        rfl
      refine pure_ (i := 15) (N := (some 55)) (v := ?_) (a' := ?_) #[true, true, true, true, true, true, true, true, true, true, true, true, true, true, true, true, false, false, false, false, false, false, false, false, false, false, false, false, false, false, false, false] rfl rfl (by kernel_rfl) (fun _ _ _ h => h) (Or.inl ⟨by rfl, ?_⟩) ?_ ?_
      rotate_left
      · intro w'
        go_simp
        with_reducible rfl
      rotate_left
      · simp only [Act.put, List.setIfInBounds_toArray, List.set_cons_zero, List.set_cons_succ, i64_w, i32_w]
        rfl
      refine pure_ (i := 16) (N := (some 56)) (v := ?_) (a' := ?_) #[true, true, true, true, true, true, true, true, true, true, true, true, true, true, true, true, true, false, false, false, false, false, false, false, false, false, false, false, false, false, false, false] rfl rfl (by kernel_rfl) (fun _ _ _ h => h) (Or.inl ⟨by rfl, ?_⟩) ?_ ?_
      rotate_left
      · intro w'
        go_simp
        with_reducible rfl
      rotate_left
      · simp only [Act.put, List.setIfInBounds_toArray, List.set_cons_zero, List.set_cons_succ, i64_w, i32_w]
        rfl
      refine pure_ (i := 17) (N := (some 57)) (v := ?_) (a' := ?_) #[true, true, true, true, true, true, true, true, true, true, true, true, true, true, true, true, true, true, false, false, false, false, false, false, false, false, false, false, false, false, false, false] rfl rfl (by kernel_rfl) (fun _ _ _ h => h) (Or.inl ⟨by rfl, ?_⟩) ?_ ?_
      rotate_left
      · intro w'
        go_simp
        with_reducible rfl
      rotate_left
      · simp only [Act.put, List.setIfInBounds_toArray, List.set_cons_zero, List.set_cons_succ, i64_w, i32_w]
        rfl
      refine pure_ (i := 18) (N := (some 58)) (v := ?_) (a' := ?_) #[true, true, true, true, true, true, true, true, true, true, true, true, true, true, true, true, true, true, true, false, false, false, false, false, false, false, false, false, false, false, false, false] rfl rfl (by kernel_rfl) (fun _ _ _ h => h) (Or.inl ⟨by rfl, ?_⟩) ?_ ?_
      rotate_left
      · intro w'
        go_simp
        with_reducible rfl
      rotate_left
      · simp only [Act.put, List.setIfInBounds_toArray, List.set_cons_zero, List.set_cons_succ, i64_w, i32_w]
        rfl
      refine pure_ (i := 19) (N := (some 59)) (v := ?_) (a' := ?_) #[true, true, true, true, true, true, true, true, true, true, true, true, true, true, true, true, true, true, true, true, false, false, false, false, false, false, false, false, false, false, false, false] rfl rfl (by kernel_rfl) (fun _ _ _ h => h) (Or.inl ⟨by rfl, ?_⟩) ?_ ?_
      rotate_left
      · intro w'
        go_simp
        with_reducible rfl
      rotate_left
      · simp only [Act.put, List.setIfInBounds_toArray, List.set_cons_zero, List.set_cons_succ, i64_w, i32_w]
        rfl
      refine pure_ (i := 20) (N := (some 60)) (v := ?_) (a' := ?_) #[true, true, true, true, true, true, true, true, true, true, true, true, true, true, true, true, true, true, true, true, true, false, false, false, false, false, false, false, false, false, false, false] rfl rfl (by kernel_rfl) (fun _ _ _ h => h) (Or.inl ⟨by rfl, ?_⟩) ?_ ?_
      rotate_left
      · intro w'
        go_simp
        with_reducible rfl
      rotate_left
      · simp only [Act.put, List.setIfInBounds_toArray, List.set_cons_zero, List.set_cons_succ, i64_w, i32_w]
        rfl
      refine pure_ (i := 21) (N := (some 61)) (v := ?_) (a' := ?_) #[true, true, true, true, true, true, true, true, true, true, true, true, true, true, true, true, true, true, true, true, true, true, false, false, false, false, false, false, false, false, false, false] rfl rfl (by kernel_rfl) (fun _ _ _ h => h) (Or.inl ⟨by rfl, ?_⟩) ?_ ?_
      rotate_left
      · intro w'
        go_simp
        with_reducible rfl
      rotate_left
      · simp only [Act.put, List.setIfInBounds_toArray, List.set_cons_zero, List.set_cons_succ, i64_w, i32_w]
        rfl
      refine pure_ (i := 22) (N := (some 62)) (v := ?_) (a' := ?_) #[true, true, true, true, true, true, true, true, true, true, true, true, true, true, true, true, true, true, true, true, true, true, true, false, false, false, false, false, false, false, false, false] rfl rfl (by kernel_rfl) (fun _ _ _ h => h) (Or.inl ⟨by rfl, ?_⟩) ?_ ?_
      rotate_left
      · intro w'
        go_simp
        with_reducible rfl
      rotate_left
      · simp only [Act.put, List.setIfInBounds_toArray, List.set_cons_zero, List.set_cons_succ, i64_w, i32_w]
        rfl
      refine pure_ (i := 24) (N := (some 64)) (v := ?_) (a' := ?_) #[true, true, true, true, true, true, true, true, true, true, true, true, true, true, true, true, true, true, true, true, true, true, true, false, true, false, false, false, false, false, false, false] rfl rfl (by kernel_rfl) (fun _ _ _ h => h) (Or.inl ⟨by rfl, ?_⟩) ?_ ?_
      rotate_left
      · intro w'
        go_simp
        with_reducible rfl
      rotate_left
      · simp only [Act.put, List.setIfInBounds_toArray, List.set_cons_zero, List.set_cons_succ, i64_w, i32_w]
        rfl
      refine one_ (i := 23) (N := (some 63)) #[true, true, true, true, true, true, true, true, true, true, true, true, true, true, true, true, true, true, true, true, true, true, true, true, true, false, false, false, false, false, false, false] rfl rfl (by kernel_rfl) (by decide) (fun K hK => ?_)
      refine goes_ Tryd.func14 (by kernel_rfl) rfl #[.string s] (by rfl) rfl rfl (by first | (simp only [List.map_toArray, List.map_cons, List.map_nil]; done) | (simp only [List.map_toArray, List.map_cons, List.map_nil]; rfl)) ?_
      with_reducible refine (H4.out _ (HE.out.below BX.out HBIG.out)).mono ?_
      rintro e wb0 ⟨rfl, rfl⟩
      have PX := Aside0.mk (blk_new wa (.cells ((wordsB s).map Value.string).toArray 9 (0, 0)))
      replace BX := Aside0.mk (BX.out.alloc (Nat.le_of_lt (blk_lt LX.out)) (.cells ((wordsB s).map Value.string).toArray 9 (0, 0)))
      replace LX := Aside0.mk (blk_alloc LX.out (.cells ((wordsB s).map Value.string).toArray 9 (0, 0)))
      replace MX := Aside0.mk (blk_alloc MX.out (.cells ((wordsB s).map Value.string).toArray 9 (0, 0)))
      replace GX := Aside0.mk (blk_alloc GX.out (.cells ((wordsB s).map Value.string).toArray 9 (0, 0)))
      clear hHeld
      generalize wa.alloc (.cells ((wordsB s).map Value.string).toArray 9 (0, 0)) = wb at *
      generalize wa.heap.size = pb at *
      refine ⟨_, rfl, ?_⟩
      refine hK.out _ _ ⟨(show wb.cell? ⟨mb, 0, none⟩ = some (.int .i64 m.verb) from blk_cell MX.out 0), (show wb.cell? ⟨mb, 1, none⟩ = some (.string m.name) from blk_cell MX.out 1), (show wb.cell? ⟨mb, 2, none⟩ = some (.int .i64 m.n) from blk_cell MX.out 2), (show wb.cell? ⟨mb, 3, none⟩ = some (.int .u32 m.till) from blk_cell MX.out 3), (show wb.cell? ⟨gb, 0, none⟩ = some (.int .i64 m.verb) from blk_cell GX.out 0), (show wb.cell? ⟨gb, 1, none⟩ = some (.string m.name) from blk_cell GX.out 1), (show wb.cell? ⟨gb, 2, none⟩ = some (.int .i64 m.n) from blk_cell GX.out 2), (show wb.cell? ⟨gb, 3, none⟩ = some (.int .u32 m.till) from blk_cell GX.out 3), (show wb.cell? ⟨gb, 4, none⟩ = some (.int .i64 ep) from blk_cell GX.out 4)⟩ (fun hHeld => ?_)
      clear hK K
      refine norm_ (a' := ?_) ?_ ?_
      rotate_left
      · show Act.put _ (some 63) _ = _
        simp only [Act.put, List.setIfInBounds_toArray, List.set_cons_zero, List.set_cons_succ, i64_w, i32_w]
        rfl
      refine one_ (i := 25) (N := (some 65)) #[true, true, true, true, true, true, true, true, true, true, true, true, true, true, true, true, true, true, true, true, true, true, true, true, true, true, false, false, false, false, false, false] rfl rfl (by kernel_rfl) (by decide) (fun K hK => ?_)
      refine goes_ Tryd.func15 (by kernel_rfl) rfl #[.string s] (by rfl) rfl rfl (by first | (simp only [List.map_toArray, List.map_cons, List.map_nil]; done) | (simp only [List.map_toArray, List.map_cons, List.map_nil]; rfl)) ?_
      with_reducible refine (H5.out _).mono ?_
      rintro e wc ⟨v, rfl, own, hb⟩
      obtain ⟨gw, cw, rfl, hgw, hcw, hcells⟩ := own_cells own
      have HQ := Aside0.mk (show ∀ (j : Nat) x, (wordsB s)[j]? = some x → wc.cell? ⟨gw, j, none⟩ = some (.string x) from fun j x h => by have := hcells j (.string x) (by rw [List.getElem?_map, h]; rfl); rwa [Nat.zero_add] at this)
      replace PX := Aside0.mk (blk_below PX.out hb)
      replace BX := Aside0.mk (below_then BX.out (Nat.le_of_lt (blk_lt LX.out)) hb)
      replace LX := Aside0.mk (blk_below LX.out hb)
      replace MX := Aside0.mk (blk_below MX.out hb)
      replace GX := Aside0.mk (blk_below GX.out hb)
      clear hb own hcells hgw hcw hHeld
      refine ⟨_, rfl, ?_⟩
      refine hK.out _ _ ⟨(show wc.cell? ⟨mb, 0, none⟩ = some (.int .i64 m.verb) from blk_cell MX.out 0), (show wc.cell? ⟨mb, 1, none⟩ = some (.string m.name) from blk_cell MX.out 1), (show wc.cell? ⟨mb, 2, none⟩ = some (.int .i64 m.n) from blk_cell MX.out 2), (show wc.cell? ⟨mb, 3, none⟩ = some (.int .u32 m.till) from blk_cell MX.out 3), (show wc.cell? ⟨gb, 0, none⟩ = some (.int .i64 m.verb) from blk_cell GX.out 0), (show wc.cell? ⟨gb, 1, none⟩ = some (.string m.name) from blk_cell GX.out 1), (show wc.cell? ⟨gb, 2, none⟩ = some (.int .i64 m.n) from blk_cell GX.out 2), (show wc.cell? ⟨gb, 3, none⟩ = some (.int .u32 m.till) from blk_cell GX.out 3), (show wc.cell? ⟨gb, 4, none⟩ = some (.int .i64 ep) from blk_cell GX.out 4)⟩ (fun hHeld => ?_)
      clear hK K
      refine norm_ (a' := ?_) ?_ ?_
      rotate_left
      · show Act.put _ (some 65) _ = _
        simp only [Act.put, List.setIfInBounds_toArray, List.set_cons_zero, List.set_cons_succ, i64_w, i32_w]
        rfl
      refine one_ (i := 26) (N := (some 66)) #[true, true, true, true, true, true, true, true, true, true, true, true, true, true, true, true, true, true, true, true, true, true, true, true, true, true, true, false, false, false, false, false] rfl rfl (by kernel_rfl) (by decide) (fun K hK => ?_)
      refine goes_ Tryd.func13 (by kernel_rfl) rfl #[.slice (some ⟨pb, 0, none⟩) (r0.length + 1) (r0.length + 1), .slice (some ⟨gw, 0, none⟩) (r0.length + 1) cw] (by rfl) rfl rfl (by first | (simp only [List.map_toArray, List.map_cons, List.map_nil]; done) | (simp only [List.map_toArray, List.map_cons, List.map_nil]; rfl)) ?_
      with_reducible refine (H3.out pb _ gw cw wc (HC.out _ _ PX.out) HQ.out).mono ?_
      rintro e wd ⟨rfl, hb⟩
      replace BX := Aside0.mk (below_then BX.out (Nat.le_of_lt (blk_lt LX.out)) hb)
      replace LX := Aside0.mk (blk_below LX.out hb)
      replace MX := Aside0.mk (blk_below MX.out hb)
      replace GX := Aside0.mk (blk_below GX.out hb)
      clear hb hHeld
      refine ⟨_, rfl, ?_⟩
      refine hK.out _ _ ⟨(show wd.cell? ⟨mb, 0, none⟩ = some (.int .i64 m.verb) from blk_cell MX.out 0), (show wd.cell? ⟨mb, 1, none⟩ = some (.string m.name) from blk_cell MX.out 1), (show wd.cell? ⟨mb, 2, none⟩ = some (.int .i64 m.n) from blk_cell MX.out 2), (show wd.cell? ⟨mb, 3, none⟩ = some (.int .u32 m.till) from blk_cell MX.out 3), (show wd.cell? ⟨gb, 0, none⟩ = some (.int .i64 m.verb) from blk_cell GX.out 0), (show wd.cell? ⟨gb, 1, none⟩ = some (.string m.name) from blk_cell GX.out 1), (show wd.cell? ⟨gb, 2, none⟩ = some (.int .i64 m.n) from blk_cell GX.out 2), (show wd.cell? ⟨gb, 3, none⟩ = some (.int .u32 m.till) from blk_cell GX.out 3), (show wd.cell? ⟨gb, 4, none⟩ = some (.int .i64 ep) from blk_cell GX.out 4)⟩ (fun hHeld => ?_)
      clear hK K
      refine norm_ (a' := ?_) ?_ ?_
      rotate_left
      · show Act.put _ (some 66) _ = _
        simp only [Act.put, List.setIfInBounds_toArray, List.set_cons_zero, List.set_cons_succ, i64_w, i32_w]
        rfl
      refine pure_ (i := 27) (N := (some 67)) (v := ?_) (a' := ?_) #[true, true, true, true, true, true, true, true, true, true, true, true, true, true, true, true, true, true, true, true, true, true, true, true, true, true, true, true, false, false, false, false] rfl rfl (by kernel_rfl) (fun _ _ _ h => h) (Or.inl ⟨by rfl, ?_⟩) ?_ ?_
      rotate_left
      · intro w'
        go_simp
        with_reducible rfl
      rotate_left
      · simp only [Act.put, List.setIfInBounds_toArray, List.set_cons_zero, List.set_cons_succ, i64_w, i32_w]
        rfl
      refine pure_ (i := 28) (N := (some 68)) (v := ?_) (a' := ?_) #[true, true, true, true, true, true, true, true, true, true, true, true, true, true, true, true, true, true, true, true, true, true, true, true, true, true, true, true, true, false, false, false] rfl rfl (by kernel_rfl) (fun _ _ _ h => h) (Or.inl ⟨by rfl, ?_⟩) ?_ ?_
      rotate_left
      · intro w'
        go_simp
        with_reducible rfl
      rotate_left
      · simp only [Act.put, List.setIfInBounds_toArray, List.set_cons_zero, List.set_cons_succ, i64_w, i32_w]
        rfl
      refine one_ (i := 29) (N := (some 69)) #[true, true, true, true, true, true, true, true, true, true, true, true, true, true, true, true, true, true, true, true, true, true, true, true, true, true, true, true, true, true, false, false] rfl rfl (by kernel_rfl) (by decide) (fun K hK => ?_)
      refine goes_ Tryd.func7 (by kernel_rfl) rfl #[] (by rfl) rfl rfl (by first | (simp only [List.map_toArray, List.map_cons, List.map_nil]; done) | (simp only [List.map_toArray, List.map_cons, List.map_nil]; rfl)) ?_
      with_reducible refine (wakes_any _ (HE.out.below BX.out HBIG.out)).mono ?_
      rintro e we ⟨rfl, hb⟩
      replace BX := Aside0.mk (below_then BX.out (Nat.le_of_lt (blk_lt LX.out)) hb)
      replace LX := Aside0.mk (blk_below LX.out hb)
      replace MX := Aside0.mk (blk_below MX.out hb)
      replace GX := Aside0.mk (blk_below GX.out hb)
      clear hb hHeld
      refine ⟨_, rfl, ?_⟩
      refine hK.out _ _ ⟨(show we.cell? ⟨mb, 0, none⟩ = some (.int .i64 m.verb) from blk_cell MX.out 0), (show we.cell? ⟨mb, 1, none⟩ = some (.string m.name) from blk_cell MX.out 1), (show we.cell? ⟨mb, 2, none⟩ = some (.int .i64 m.n) from blk_cell MX.out 2), (show we.cell? ⟨mb, 3, none⟩ = some (.int .u32 m.till) from blk_cell MX.out 3), (show we.cell? ⟨gb, 0, none⟩ = some (.int .i64 m.verb) from blk_cell GX.out 0), (show we.cell? ⟨gb, 1, none⟩ = some (.string m.name) from blk_cell GX.out 1), (show we.cell? ⟨gb, 2, none⟩ = some (.int .i64 m.n) from blk_cell GX.out 2), (show we.cell? ⟨gb, 3, none⟩ = some (.int .u32 m.till) from blk_cell GX.out 3), (show we.cell? ⟨gb, 4, none⟩ = some (.int .i64 ep) from blk_cell GX.out 4)⟩ (fun hHeld => ?_)
      clear hK K
      refine norm_ (a' := ?_) ?_ ?_
      rotate_left
      · show Act.put _ (some 69) _ = _
        simp only [Act.put, List.setIfInBounds_toArray, List.set_cons_zero, List.set_cons_succ, i64_w, i32_w]
        rfl
      refine pure_ (i := 30) (N := (some 70)) (v := ?_) (a' := ?_) #[true, true, true, true, true, true, true, true, true, true, true, true, true, true, true, true, true, true, true, true, true, true, true, true, true, true, true, true, true, true, true, false] rfl rfl (by kernel_rfl) (fun _ _ _ h => h) (Or.inl ⟨by rfl, ?_⟩) ?_ ?_
      rotate_left
      · intro w'
        go_simp
        with_reducible rfl
      rotate_left
      · simp only [Act.put, List.setIfInBounds_toArray, List.set_cons_zero, List.set_cons_succ, i64_w, i32_w]
        rfl
      refine pure_ (i := 31) (N := (some 4)) (v := ?_) (a' := ?_) #[true, true, true, true, true, true, true, true, true, true, true, true, true, true, true, true, true, true, true, true, true, true, true, true, true, true, true, true, true, true, true, true] rfl rfl (by kernel_rfl) (fun _ _ _ h => h) (Or.inl ⟨by rfl, ?_⟩) ?_ ?_
      rotate_left
      · intro w'
        go_simp
        with_reducible rfl
      rotate_left
      · simp only [Act.put, List.setIfInBounds_toArray, List.set_cons_zero, List.set_cons_succ, i64_w, i32_w]
        rfl
      refine done_ (by kernel_rfl) ?_
      go_wp2_with fail
      go_ret
      exact ⟨rfl, by first | exact BX.out | (rw [hrb]; exact BX.out)⟩
end Go.Proofs.YtfejbfnjfombhaaDoor.LinV

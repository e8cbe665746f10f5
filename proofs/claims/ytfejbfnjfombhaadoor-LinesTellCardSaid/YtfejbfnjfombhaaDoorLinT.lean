/- The document's line of a short text. -/
import Derived.Test.YtfejbfnjfombhaaDoorLinS
import Derived.Deep.LoopGhost
namespace Go.Proofs.YtfejbfnjfombhaaDoor.LinT
open Go.RowKit Go.Sort Go.Shelf Go.Lib Go.Proofs.YtfejbfnjfombhaaDoorW.PrintWords Go.Proofs.YtfejbfnjfombhaaDoorW.PrintLast Go.Proofs.YtfejbfnjfombhaaDoorW.PrintMore Go.Proofs.YtfejbfnjfombhaaDoor.LinA Go.Proofs.YtfejbfnjfombhaaDoor.LinB Go.Proofs.YtfejbfnjfombhaaDoor.LinC Go.Proofs.YtfejbfnjfombhaaDoor.LinD Go.Proofs.YtfejbfnjfombhaaDoor.LinE Go.Proofs.YtfejbfnjfombhaaDoor.LinF Go.Proofs.YtfejbfnjfombhaaDoor.LinG Go.Proofs.YtfejbfnjfombhaaDoor.LinN Go.Proofs.YtfejbfnjfombhaaDoor.LinO Go.Proofs.YtfejbfnjfombhaaDoor.LinP Go.Proofs.YtfejbfnjfombhaaDoor.LinQ Go.Proofs.YtfejbfnjfombhaaDoor.LinS
set_option linter.unusedVariables false
set_option linter.unusedSimpArgs false
theorem good_t (x : List UInt8) (g : Nat) (w : World) (h : goodL x = true) (hc : w.cell? ⟨g, 0, none⟩ = some (.string (ofL x))) :
    Calls Tryd.prog 20 #[.slice (some ⟨g, 0, none⟩) 1 1] w fun e w' => e = .returned (.bool true) ∧ Below w.heap.size w w' :=
  (LinN.goodr_any (ofL x) g w hc).mono fun e w' ⟨he, hb⟩ => ⟨by rw [he, ofL_data, h], hb⟩
theorem good_f (x : List UInt8) (g : Nat) (w : World) (h : goodL x = false) (hc : w.cell? ⟨g, 0, none⟩ = some (.string (ofL x))) :
    Calls Tryd.prog 20 #[.slice (some ⟨g, 0, none⟩) 1 1] w fun e w' => e = .returned (.bool false) ∧ Below w.heap.size w w' :=
  (LinN.goodr_any (ofL x) g w hc).mono fun e w' ⟨he, hb⟩ => ⟨by rw [he, ofL_data, h], hb⟩
theorem numr_s {x : List UInt8} {u : Nat} (h : numVal x = some u) (w : World) :
    Calls Tryd.prog 21 #[.string (ofL x), .int .i64 4294967295] w fun e w' => e = .returned (.agg #[.int .i64 (u : Int), .bool true]) ∧ Below w.heap.size w w' :=
  (numr_any (ofL x) w).mono fun e w' ⟨he, hb⟩ => ⟨by rw [he, ofL_data, h]; rfl, hb⟩
theorem numr_n {x : List UInt8} (h : numVal x = none) (w : World) :
    Calls Tryd.prog 21 #[.string (ofL x), .int .i64 4294967295] w fun e w' => e = .returned (.agg #[.int .i64 0, .bool false]) ∧ Below w.heap.size w w' :=
  (numr_any (ofL x) w).mono fun e w' ⟨he, hb⟩ => ⟨by rw [he, ofL_data, h]; rfl, hb⟩
theorem len0 {r : List (List UInt8)} (h : ([] : List UInt8).length = r.length) : r = [] := by
  cases r with
  | nil => rfl
  | cons _ _ => simp at h
theorem len1 {a : UInt8} {r : List (List UInt8)} (h : [a].length = r.length) : ∃ x, r = [x] := by
  match r, h with
  | [x], _ => exact ⟨x, rfl⟩
theorem len2 {a b : UInt8} {r : List (List UInt8)} (h : [a, b].length = r.length) : ∃ x y, r = [x, y] := by
  match r, h with
  | [x, y], _ => exact ⟨x, y, rfl⟩
theorem len3 {a b c : UInt8} {r : List (List UInt8)} (h : [a, b, c].length = r.length) : ∃ x y z, r = [x, y, z] := by
  match r, h with
  | [x, y, z], _ => exact ⟨x, y, z, rfl⟩
theorem tab_at : ∀ f ∈ forms, (#[Value.int .i64 0, .int .i64 3, .int .i64 2, .int .i64 4, .int .i64 1, .int .i64 2, .int .i64 2, .int .i64 1])[f.verb]? = some (.int .i64 ((f.has.length + 1 : Nat) : Int)) := by
  intro f hf
  simp only [forms, List.mem_cons, List.mem_nil_iff, or_false] at hf
  rcases hf with rfl | rfl | rfl | rfl | rfl | rfl | rfl <;> rfl
set_option maxHeartbeats 4000000 in
set_option maxRecDepth 100000 in
theorem parser_short (s : ByteArray) (hlen : s.size ≤ 200) (w : World) :
    Calls Tryd.prog 9 #[.string s] w fun e w' => e = .returned (ansG (parseF s)) ∧ Below w.heap.size w w' := by
  have hd : decide ((200 : Int) < (s.size : Int)) = false := by simp; omega
  obtain ⟨w0, r0, hW, hB⟩ := wordsB_ne s
  have HB := Aside0.mk hB
  have HW := Aside0.mk hW
  have hL : (wordsB s).length = r0.length + 1 := by rw [hB]; simp
  have R0 := blk_new w (.cells #[.int .i64 0, .string ⟨#[]⟩, .int .i64 0, .int .u32 0, .int .i64 0] 31 (0, 0))
  have hz : (w.alloc (.cells #[.int .i64 0, .string ⟨#[]⟩, .int .i64 0, .int .u32 0, .int .i64 0] 31 (0, 0))).heap.size = w.heap.size + 1 := alloc_size' _ _
  have Q0 := blk_new (w.alloc (.cells #[.int .i64 0, .string ⟨#[]⟩, .int .i64 0, .int .u32 0, .int .i64 0] 31 (0, 0))) (.cells #[.int .i64 0, .string ⟨#[]⟩, .int .i64 0, .int .u32 0, .int .i64 11] 31 (0, 0))
  rw [hz] at Q0
  have R1 := Aside0.mk (blk_alloc R0 (.cells #[.int .i64 0, .string ⟨#[]⟩, .int .i64 0, .int .u32 0, .int .i64 11] 31 (0, 0)))
  have Q1 := Aside0.mk Q0
  have B1 := Aside0.mk (below_alloc (below_alloc (Below.refl w.heap.size w) (.cells #[.int .i64 0, .string ⟨#[]⟩, .int .i64 0, .int .u32 0, .int .i64 0] 31 (0, 0))) (.cells #[.int .i64 0, .string ⟨#[]⟩, .int .i64 0, .int .u32 0, .int .i64 11] 31 (0, 0)))
  clear R0 Q0 hz hB hW
  go_enter Tryd.func9, Tryd.ntmps9
  go_wp2_with fail
  generalize (w.alloc (.cells #[.int .i64 0, .string ⟨#[]⟩, .int .i64 0, .int .u32 0, .int .i64 0] 31 (0, 0))).alloc (.cells #[.int .i64 0, .string ⟨#[]⟩, .int .i64 0, .int .u32 0, .int .i64 11] 31 (0, 0)) = w1 at *
  refine (wordsr_any s (by omega) w1).mono ?_
  rintro e w2 ⟨v, rfl, own, hb⟩
  rw [hL] at own
  obtain ⟨gw, cw, rfl, hgw, hcw, hcells⟩ := own_cells own
  have d0 : w2.cell? ⟨gw, 0, none⟩ = some (.string (ofL w0)) := hcells 0 _ (by rw [HB.out]; rfl)
  have HCE := Aside0.mk hcells
  have B2 := Aside0.mk (below_step B1.out hb)
  have R2 := Aside0.mk (blk_below R1.out hb)
  have Q2 := Aside0.mk (blk_below Q1.out hb)
  clear own hcells hb R1 Q1 B1
  go_wp2_with fail
  have L3 := Aside0.mk (blk_new w2 (.cells #[.int .i64 0, .string ⟨#[]⟩, .int .i64 0, .int .u32 0] 29 (0, 0)))
  have B3 := Aside0.mk (below_alloc B2.out (.cells #[.int .i64 0, .string ⟨#[]⟩, .int .i64 0, .int .u32 0] 29 (0, 0)))
  have R3 := Aside0.mk (blk_alloc R2.out (.cells #[.int .i64 0, .string ⟨#[]⟩, .int .i64 0, .int .u32 0] 29 (0, 0)))
  have Q3 := Aside0.mk (blk_alloc Q2.out (.cells #[.int .i64 0, .string ⟨#[]⟩, .int .i64 0, .int .u32 0] 29 (0, 0)))
  have HC3 := Aside0.mk (show ∀ (j : Nat) u, ((wordsB s).map Value.string)[j]? = some u → (w2.alloc (.cells #[.int .i64 0, .string ⟨#[]⟩, .int .i64 0, .int .u32 0] 29 (0, 0))).cell? ⟨gw, 0 + j, none⟩ = some u from fun j u h => pw_cell_below (below_alloc (Below.refl _ _) _) (HCE.out j u h))
  have hgw2 : gw < w2.heap.size := hgw
  have RL : Aside0 (w.heap.size + 1 < w2.heap.size) := ⟨blk_lt Q2.out⟩
  have HBG : Aside0 (w.heap.size ≤ w2.heap.size) := ⟨Nat.le_of_lt (Nat.lt_of_succ_lt RL.out)⟩
  clear R2 Q2 B2 HCE d0 hgw
  generalize w2.alloc (.cells #[.int .i64 0, .string ⟨#[]⟩, .int .i64 0, .int .u32 0] 29 (0, 0)) = w3 at *
  generalize w2.heap.size = lb at *
  generalize hrb : w.heap.size = rb at *
  go_loopg [6] 7 (fun g s6 wr => ∃ (i V : Nat), i + g = 8 ∧ 1 ≤ i ∧ s6 = .int .i64 i ∧ Aside0 (Below lb w3 wr) ∧ Aside0 (wr.heap[lb]? = some (.cells #[.int .i64 (V : Int), .string ⟨#[]⟩, .int .i64 0, .int .u32 0] 29 (0, 0))) ∧ Aside0 (∀ f ∈ forms, f.word = w0 → f.verb < i → V = f.verb) ∧ Aside0 (V = 0 ∨ ∃ f ∈ forms, f.word = w0 ∧ V = f.verb ∧ f.verb < i))
  case atStart => exact ⟨1, 0, by omega, by omega, rfl, ⟨Below.refl _ _⟩, L3, ⟨fun f hf _ h => by have := LinR.verb_fit f hf; omega⟩, ⟨.inl rfl⟩⟩
  case round =>
    obtain ⟨i, V, hi, hi1, rfl, BY, LY, HV1, HV2⟩ := hrel
    clear L3
    cases gk with
    | zero =>
      have e8 : i = 8 := by omega
      subst e8
      have hle : ¬ ((8 : Int) ≤ 7) := by omega
      have BX := Aside0.mk (B3.out.trans (BY.out.mono HBG.out))
      have RX := Aside0.mk ((BY.out.block rb (by have := RL.out; omega)).trans R3.out)
      have QX := Aside0.mk ((BY.out.block (rb + 1) RL.out).trans Q3.out)
      have LX := LY
      have HX := Aside0.mk (show ∀ (j : Nat) u, ((wordsB s).map Value.string)[j]? = some u → wr.cell? ⟨gw, 0 + j, none⟩ = some u from fun j u h => (BY.out.cell hgw2).trans (HC3.out j u h))
      clear B3 R3 Q3 HC3 LY BY
      rcases HV2.out with hv | ⟨f, hf, hw, hv, _⟩
      · subst hv
        have HP := Aside0.mk (parse_none_word HW.out (fun f hf e => by have := HV1.out f hf e (by have := LinR.verb_fit f hf; omega); have := LinR.verb_fit f hf; omega))
        have h00 : (((0 : Nat) : Int) == 0) = true := rfl
        have cl0 := (blk_cell LX.out 0).trans (show _ = some (.int .i64 ((0 : Nat) : Int)) from rfl)
        have cq0 := (blk_cell QX.out 0).trans (show _ = some (.int .i64 0) from rfl)
        have cq1 := (blk_cell QX.out 1).trans (show _ = some (.string ⟨#[]⟩) from rfl)
        have cq2 := (blk_cell QX.out 2).trans (show _ = some (.int .i64 0) from rfl)
        have cq3 := (blk_cell QX.out 3).trans (show _ = some (.int .u32 0) from rfl)
        have cq4 := (blk_cell QX.out 4).trans (show _ = some (.int .i64 11) from rfl)
        have cr0 := (blk_cell RX.out 0).trans (show _ = some (.int .i64 0) from rfl)
        have fr0 := blk_frozen RX.out 0
        have cr1 := (blk_cell RX.out 1).trans (show _ = some (.string ⟨#[]⟩) from rfl)
        have fr1 := blk_frozen RX.out 1
        have cr2 := (blk_cell RX.out 2).trans (show _ = some (.int .i64 0) from rfl)
        have fr2 := blk_frozen RX.out 2
        have cr3 := (blk_cell RX.out 3).trans (show _ = some (.int .u32 0) from rfl)
        have fr3 := blk_frozen RX.out 3
        have cr4 := (blk_cell RX.out 4).trans (show _ = some (.int .i64 0) from rfl)
        have fr4 := blk_frozen RX.out 4
        go_wp2_with fail
        refine bodyPost_ret (results_cell_row rfl _ _ rb 31 #[.int .i64 0, .string ⟨#[]⟩, .int .i64 0, .int .u32 0, .int .i64 11] (0, 0) _ rfl (blk_put (blk_put (blk_put (blk_put (blk_put (RX.out) 0 (.int .i64 0) rfl) 1 (.string ⟨#[]⟩) rfl) 2 (.int .i64 0) rfl) 3 (.int .u32 0) rfl) 4 (.int .i64 11) rfl) Tryd.underlying31 rfl (by kernel_rfl)) rfl ⟨?_, by first | exact (((((BX.out.setCell (p := ⟨rb, 0, none⟩) (Nat.le_refl _) _).setCell (p := ⟨rb, 1, none⟩) (Nat.le_refl _) _).setCell (p := ⟨rb, 2, none⟩) (Nat.le_refl _) _).setCell (p := ⟨rb, 3, none⟩) (Nat.le_refl _) _).setCell (p := ⟨rb, 4, none⟩) (Nat.le_refl _) _) | (rw [hrb]; exact (((((BX.out.setCell (p := ⟨rb, 0, none⟩) (Nat.le_refl _) _).setCell (p := ⟨rb, 1, none⟩) (Nat.le_refl _) _).setCell (p := ⟨rb, 2, none⟩) (Nat.le_refl _) _).setCell (p := ⟨rb, 3, none⟩) (Nat.le_refl _) _).setCell (p := ⟨rb, 4, none⟩) (Nat.le_refl _) _))⟩
        rw [HP.out]; rfl
      · subst hv
        have hv0 : ((f.verb : Int) == 0) = false := by have := LinR.verb_fit f hf; simp; omega
        have hv8 : (f.verb : Int) < 8 := by have := LinR.verb_fit f hf; omega
        have hvn : (0 : Int) ≤ (f.verb : Int) := by omega
        have cv0 := (blk_cell LX.out 0).trans (show _ = some (.int .i64 (f.verb : Int)) from rfl)
        replace RX := Aside0.mk (blk_alloc RX.out (.cells #[.int .i64 0, .int .i64 3, .int .i64 2, .int .i64 4, .int .i64 1, .int .i64 2, .int .i64 2, .int .i64 1] 3 (0, 0)))
        replace LX := Aside0.mk (blk_alloc LX.out (.cells #[.int .i64 0, .int .i64 3, .int .i64 2, .int .i64 4, .int .i64 1, .int .i64 2, .int .i64 2, .int .i64 1] 3 (0, 0)))
        replace HX := Aside0.mk (show ∀ (j : Nat) u, ((wordsB s).map Value.string)[j]? = some u → (wr.alloc (.cells #[.int .i64 0, .int .i64 3, .int .i64 2, .int .i64 4, .int .i64 1, .int .i64 2, .int .i64 2, .int .i64 1] 3 (0, 0))).cell? ⟨gw, 0 + j, none⟩ = some u from fun j u h => pw_cell_below (below_alloc (Below.refl _ _) _) (HX.out j u h))
        replace BX := Aside0.mk (BX.out.alloc (Nat.le_of_lt (Nat.lt_of_succ_lt (blk_lt QX.out))) (.cells #[.int .i64 0, .int .i64 3, .int .i64 2, .int .i64 4, .int .i64 1, .int .i64 2, .int .i64 2, .int .i64 1] 3 (0, 0)))
        replace QX := Aside0.mk (blk_alloc QX.out (.cells #[.int .i64 0, .int .i64 3, .int .i64 2, .int .i64 4, .int .i64 1, .int .i64 2, .int .i64 2, .int .i64 1] 3 (0, 0)))
        obtain ⟨m, hm⟩ : ∃ m : Nat, m = f.has.length + 1 := ⟨_, rfl⟩
        have HM := Aside0.mk hm
        have ctab : (wr.alloc (.cells #[.int .i64 0, .int .i64 3, .int .i64 2, .int .i64 4, .int .i64 1, .int .i64 2, .int .i64 2, .int .i64 1] 3 (0, 0))).cell? ⟨wr.heap.size, f.verb, none⟩ = some (.int .i64 (m : Int)) := (blk_cell (blk_new wr _) f.verb).trans (by rw [hm]; exact tab_at f hf)
        clear hm
        have cl0 := (blk_cell LX.out 0).trans (show _ = some (.int .i64 (f.verb : Int)) from rfl)
        by_cases hl : f.has.length = r0.length
        · have hne : ((r0.length : Int) + 1 != (m : Int)) = false := by have := HM.out; simp; omega
          go_upto_region 13 with (fail)
          clear cl0 cv0 ctab
          generalize wr.alloc (.cells #[.int .i64 0, .int .i64 3, .int .i64 2, .int .i64 4, .int .i64 1, .int .i64 2, .int .i64 2, .int .i64 1] 3 (0, 0)) = w4 at *
          generalize wr.heap.size = bt at *
          clear hne hv0 hv8 hvn HM HV1 HV2
          simp only [forms, List.mem_cons, List.mem_nil_iff, or_false] at hf
          rcases hf with rfl | rfl | rfl | rfl | rfl | rfl | rfl
          · skip
            obtain ⟨x, y, rfl⟩ := len2 hl
            replace LX : Aside0 (w4.heap[lb]? = some (.cells #[.int .i64 1, .string ⟨#[]⟩, .int .i64 0, .int .u32 0] 29 (0, 0))) := LX
            clear hl hcw hL
            have cw1 := HX.out 1 _ (show _ = some (Value.string (ofL x)) by rw [HB.out]; rfl)
            have cl0 := (blk_cell LX.out 0).trans (show _ = some (.int .i64 1) from rfl)
            have fl0 := blk_frozen LX.out 0
            have cl1 := (blk_cell LX.out 1).trans (show _ = some (.string ⟨#[]⟩) from rfl)
            have fl1 := blk_frozen LX.out 1
            have cl2 := (blk_cell LX.out 2).trans (show _ = some (.int .i64 0) from rfl)
            have fl2 := blk_frozen LX.out 2
            have cl3 := (blk_cell LX.out 3).trans (show _ = some (.int .u32 0) from rfl)
            have fl3 := blk_frozen LX.out 3
            go_upto_region 16 with (fail)
            clear cl0 cl1 cl2 cl3 fl0 fl1 fl2 fl3
            clear cw1
            replace RX := Aside0.mk (blk_far RX.out (p := ⟨lb, 1, none⟩) (by have := RL.out; show rb ≠ lb; omega) (.string (ofL x)))
            replace QX := Aside0.mk (blk_far QX.out (p := ⟨lb, 1, none⟩) (by have := RL.out; show rb + 1 ≠ lb; omega) (.string (ofL x)))
            replace LX := Aside0.mk (blk_put LX.out 1 (.string (ofL x)) rfl)
            replace HX := Aside0.mk (show ∀ (j : Nat) u, ((wordsB s).map Value.string)[j]? = some u → (w4.setCell ⟨lb, 1, none⟩ (.string (ofL x))).cell? ⟨gw, 0 + j, none⟩ = some u from fun j u h => (cell_far (show gw ≠ lb by omega) _).trans (HX.out j u h))
            replace BX := Aside0.mk (BX.out.setCell (p := ⟨lb, 1, none⟩) (by have := RL.out; show rb ≤ lb; omega) (.string (ofL x)))
            generalize w4.setCell ⟨lb, 1, none⟩ (.string (ofL x)) = w5 at *
            have cl0 := (blk_cell LX.out 0).trans (show _ = some (.int .i64 1) from rfl)
            have cl1 := (blk_cell LX.out 1).trans (show _ = some (.string (ofL x)) from rfl)
            have cl2 := (blk_cell LX.out 2).trans (show _ = some (.int .i64 0) from rfl)
            have cl3 := (blk_cell LX.out 3).trans (show _ = some (.int .u32 0) from rfl)
            go_wp2_with fail
            clear cl0 cl1 cl2 cl3
            replace RX := Aside0.mk (blk_alloc RX.out (.cells #[.string (ofL x)] 9 (0, 0)))
            replace LX := Aside0.mk (blk_alloc LX.out (.cells #[.string (ofL x)] 9 (0, 0)))
            replace HX := Aside0.mk (show ∀ (j : Nat) u, ((wordsB s).map Value.string)[j]? = some u → (w5.alloc (.cells #[.string (ofL x)] 9 (0, 0))).cell? ⟨gw, 0 + j, none⟩ = some u from fun j u h => pw_cell_below (below_alloc (Below.refl _ _) _) (HX.out j u h))
            replace BX := Aside0.mk (BX.out.alloc (Nat.le_of_lt (Nat.lt_of_succ_lt (blk_lt QX.out))) (.cells #[.string (ofL x)] 9 (0, 0)))
            replace QX := Aside0.mk (blk_alloc QX.out (.cells #[.string (ofL x)] 9 (0, 0)))
            have HC := Aside0.mk (blk_cell (blk_new w5 (.cells #[.string (ofL x)] 9 (0, 0))) 0)
            generalize w5.alloc (.cells #[.string (ofL x)] 9 (0, 0)) = w6 at *
            generalize w5.heap.size = gx at *
            by_cases hg : goodL x = true
            · skip
              refine (good_t x gx _ hg HC.out).mono ?_
              rintro e w7 ⟨rfl, hb⟩
              replace RX := Aside0.mk (blk_below RX.out hb)
              replace LX := Aside0.mk (blk_below LX.out hb)
              replace HX := Aside0.mk (show ∀ (j : Nat) u, ((wordsB s).map Value.string)[j]? = some u → w7.cell? ⟨gw, 0 + j, none⟩ = some u from fun j u h => pw_cell_below hb (HX.out j u h))
              replace BX := Aside0.mk (below_then BX.out (Nat.le_of_lt (Nat.lt_of_succ_lt (blk_lt QX.out))) hb)
              replace QX := Aside0.mk (blk_below QX.out hb)
              clear hb
              clear HC
              have cl0 := (blk_cell LX.out 0).trans (show _ = some (.int .i64 1) from rfl)
              have cl1 := (blk_cell LX.out 1).trans (show _ = some (.string (ofL x)) from rfl)
              have cl2 := (blk_cell LX.out 2).trans (show _ = some (.int .i64 0) from rfl)
              have cl3 := (blk_cell LX.out 3).trans (show _ = some (.int .u32 0) from rfl)
              go_upto_region 20 with (fail)
              clear cl0 cl1 cl2 cl3
              have cw2 := HX.out 2 _ (show _ = some (Value.string (ofL y)) by rw [HB.out]; rfl)
              have cl0 := (blk_cell LX.out 0).trans (show _ = some (.int .i64 1) from rfl)
              have cl1 := (blk_cell LX.out 1).trans (show _ = some (.string (ofL x)) from rfl)
              have cl2 := (blk_cell LX.out 2).trans (show _ = some (.int .i64 0) from rfl)
              have cl3 := (blk_cell LX.out 3).trans (show _ = some (.int .u32 0) from rfl)
              go_wp2_with fail
              clear cl0 cl1 cl2 cl3
              clear cw2
              cases hn2 : numVal y with
              | none =>
                refine (numr_n hn2 _).mono ?_
                rintro e w8 ⟨rfl, hb⟩
                replace RX := Aside0.mk (blk_below RX.out hb)
                replace LX := Aside0.mk (blk_below LX.out hb)
                replace HX := Aside0.mk (show ∀ (j : Nat) u, ((wordsB s).map Value.string)[j]? = some u → w8.cell? ⟨gw, 0 + j, none⟩ = some u from fun j u h => pw_cell_below hb (HX.out j u h))
                replace BX := Aside0.mk (below_then BX.out (Nat.le_of_lt (Nat.lt_of_succ_lt (blk_lt QX.out))) hb)
                replace QX := Aside0.mk (blk_below QX.out hb)
                clear hb
                go_upto_region 21 with (fail)
                replace RX := Aside0.mk (blk_alloc RX.out (.cells #[.int .i64 0, .bool false] 54 (0, 0)))
                replace LX := Aside0.mk (blk_alloc LX.out (.cells #[.int .i64 0, .bool false] 54 (0, 0)))
                replace HX := Aside0.mk (show ∀ (j : Nat) u, ((wordsB s).map Value.string)[j]? = some u → (w8.alloc (.cells #[.int .i64 0, .bool false] 54 (0, 0))).cell? ⟨gw, 0 + j, none⟩ = some u from fun j u h => pw_cell_below (below_alloc (Below.refl _ _) _) (HX.out j u h))
                replace BX := Aside0.mk (BX.out.alloc (Nat.le_of_lt (Nat.lt_of_succ_lt (blk_lt QX.out))) (.cells #[.int .i64 0, .bool false] 54 (0, 0)))
                replace QX := Aside0.mk (blk_alloc QX.out (.cells #[.int .i64 0, .bool false] 54 (0, 0)))
                have NX := Aside0.mk (blk_new w8 (.cells #[.int .i64 0, .bool false] 54 (0, 0)))
                generalize w8.alloc (.cells #[.int .i64 0, .bool false] 54 (0, 0)) = w9 at *
                generalize w8.heap.size = bn at *
                have cn0 := (blk_cell NX.out 0).trans (show _ = some (.int .i64 0) from rfl)
                have cn1 := (blk_cell NX.out 1).trans (show _ = some (.bool false) from rfl)
                have HP : Aside0 (parseF s = none) := ⟨by rw [parse_of (f := ⟨1, [109, 97, 107, 101], [78, 67]⟩) hlen (by decide) (by rw [HW.out, ← hw]), if_pos (by rfl)]; simp [readAll, readF, ofL_data, hg, hn2] <;> rfl⟩
                have cq0 := (blk_cell QX.out 0).trans (show _ = some (.int .i64 0) from rfl)
                have cq1 := (blk_cell QX.out 1).trans (show _ = some (.string ⟨#[]⟩) from rfl)
                have cq2 := (blk_cell QX.out 2).trans (show _ = some (.int .i64 0) from rfl)
                have cq3 := (blk_cell QX.out 3).trans (show _ = some (.int .u32 0) from rfl)
                have cq4 := (blk_cell QX.out 4).trans (show _ = some (.int .i64 11) from rfl)
                have cr0 := (blk_cell RX.out 0).trans (show _ = some (.int .i64 0) from rfl)
                have fr0 := blk_frozen RX.out 0
                have cr1 := (blk_cell RX.out 1).trans (show _ = some (.string ⟨#[]⟩) from rfl)
                have fr1 := blk_frozen RX.out 1
                have cr2 := (blk_cell RX.out 2).trans (show _ = some (.int .i64 0) from rfl)
                have fr2 := blk_frozen RX.out 2
                have cr3 := (blk_cell RX.out 3).trans (show _ = some (.int .u32 0) from rfl)
                have fr3 := blk_frozen RX.out 3
                have cr4 := (blk_cell RX.out 4).trans (show _ = some (.int .i64 0) from rfl)
                have fr4 := blk_frozen RX.out 4
                go_wp2_with fail
                refine bodyPost_ret (results_cell_row rfl _ _ rb 31 #[.int .i64 0, .string ⟨#[]⟩, .int .i64 0, .int .u32 0, .int .i64 11] (0, 0) _ rfl (blk_put (blk_put (blk_put (blk_put (blk_put (RX.out) 0 (.int .i64 0) rfl) 1 (.string ⟨#[]⟩) rfl) 2 (.int .i64 0) rfl) 3 (.int .u32 0) rfl) 4 (.int .i64 11) rfl) Tryd.underlying31 rfl (by kernel_rfl)) rfl ⟨?_, by first | exact (((((BX.out.setCell (p := ⟨rb, 0, none⟩) (Nat.le_refl _) _).setCell (p := ⟨rb, 1, none⟩) (Nat.le_refl _) _).setCell (p := ⟨rb, 2, none⟩) (Nat.le_refl _) _).setCell (p := ⟨rb, 3, none⟩) (Nat.le_refl _) _).setCell (p := ⟨rb, 4, none⟩) (Nat.le_refl _) _) | (rw [hrb]; exact (((((BX.out.setCell (p := ⟨rb, 0, none⟩) (Nat.le_refl _) _).setCell (p := ⟨rb, 1, none⟩) (Nat.le_refl _) _).setCell (p := ⟨rb, 2, none⟩) (Nat.le_refl _) _).setCell (p := ⟨rb, 3, none⟩) (Nat.le_refl _) _).setCell (p := ⟨rb, 4, none⟩) (Nat.le_refl _) _))⟩
                rw [HP.out]; rfl
              | some u2 =>
                refine (numr_s hn2 _).mono ?_
                rintro e w10 ⟨rfl, hb⟩
                replace RX := Aside0.mk (blk_below RX.out hb)
                replace LX := Aside0.mk (blk_below LX.out hb)
                replace HX := Aside0.mk (show ∀ (j : Nat) u, ((wordsB s).map Value.string)[j]? = some u → w10.cell? ⟨gw, 0 + j, none⟩ = some u from fun j u h => pw_cell_below hb (HX.out j u h))
                replace BX := Aside0.mk (below_then BX.out (Nat.le_of_lt (Nat.lt_of_succ_lt (blk_lt QX.out))) hb)
                replace QX := Aside0.mk (blk_below QX.out hb)
                clear hb
                go_upto_region 21 with (fail)
                replace RX := Aside0.mk (blk_alloc RX.out (.cells #[.int .i64 (u2 : Int), .bool true] 54 (0, 0)))
                replace LX := Aside0.mk (blk_alloc LX.out (.cells #[.int .i64 (u2 : Int), .bool true] 54 (0, 0)))
                replace HX := Aside0.mk (show ∀ (j : Nat) u, ((wordsB s).map Value.string)[j]? = some u → (w10.alloc (.cells #[.int .i64 (u2 : Int), .bool true] 54 (0, 0))).cell? ⟨gw, 0 + j, none⟩ = some u from fun j u h => pw_cell_below (below_alloc (Below.refl _ _) _) (HX.out j u h))
                replace BX := Aside0.mk (BX.out.alloc (Nat.le_of_lt (Nat.lt_of_succ_lt (blk_lt QX.out))) (.cells #[.int .i64 (u2 : Int), .bool true] 54 (0, 0)))
                replace QX := Aside0.mk (blk_alloc QX.out (.cells #[.int .i64 (u2 : Int), .bool true] 54 (0, 0)))
                have NX := Aside0.mk (blk_new w10 (.cells #[.int .i64 (u2 : Int), .bool true] 54 (0, 0)))
                generalize w10.alloc (.cells #[.int .i64 (u2 : Int), .bool true] 54 (0, 0)) = w11 at *
                generalize w10.heap.size = bn at *
                have cn0 := (blk_cell NX.out 0).trans (show _ = some (.int .i64 (u2 : Int)) from rfl)
                have cn1 := (blk_cell NX.out 1).trans (show _ = some (.bool true) from rfl)
                have cl0 := (blk_cell LX.out 0).trans (show _ = some (.int .i64 1) from rfl)
                have fl0 := blk_frozen LX.out 0
                have cl1 := (blk_cell LX.out 1).trans (show _ = some (.string (ofL x)) from rfl)
                have fl1 := blk_frozen LX.out 1
                have cl2 := (blk_cell LX.out 2).trans (show _ = some (.int .i64 0) from rfl)
                have fl2 := blk_frozen LX.out 2
                have cl3 := (blk_cell LX.out 3).trans (show _ = some (.int .u32 0) from rfl)
                have fl3 := blk_frozen LX.out 3
                go_upto_region 24 with (fail)
                clear cl0 cl1 cl2 cl3 fl0 fl1 fl2 fl3
                clear cn0 cn1
                clear NX
                replace RX := Aside0.mk (blk_far RX.out (p := ⟨lb, 2, none⟩) (by have := RL.out; show rb ≠ lb; omega) (.int .i64 (u2 : Int)))
                replace QX := Aside0.mk (blk_far QX.out (p := ⟨lb, 2, none⟩) (by have := RL.out; show rb + 1 ≠ lb; omega) (.int .i64 (u2 : Int)))
                replace LX := Aside0.mk (blk_put LX.out 2 (.int .i64 (u2 : Int)) rfl)
                replace HX := Aside0.mk (show ∀ (j : Nat) u, ((wordsB s).map Value.string)[j]? = some u → (w11.setCell ⟨lb, 2, none⟩ (.int .i64 (u2 : Int))).cell? ⟨gw, 0 + j, none⟩ = some u from fun j u h => (cell_far (show gw ≠ lb by omega) _).trans (HX.out j u h))
                replace BX := Aside0.mk (BX.out.setCell (p := ⟨lb, 2, none⟩) (by have := RL.out; show rb ≤ lb; omega) (.int .i64 (u2 : Int)))
                generalize w11.setCell ⟨lb, 2, none⟩ (.int .i64 (u2 : Int)) = w12 at *
                have HP : Aside0 (parseF s = some ⟨1, ofL x, (u2 : Int), 0⟩) := ⟨by rw [parse_of (f := ⟨1, [109, 97, 107, 101], [78, 67]⟩) hlen (by decide) (by rw [HW.out, ← hw]), if_pos (by rfl)]; simp [readAll, readF, ofL_data, hg, hn2] <;> rfl⟩
                have cl0 := (blk_cell LX.out 0).trans (show _ = some (.int .i64 1) from rfl)
                have cl1 := (blk_cell LX.out 1).trans (show _ = some (.string (ofL x)) from rfl)
                have cl2 := (blk_cell LX.out 2).trans (show _ = some (.int .i64 (u2 : Int)) from rfl)
                have cl3 := (blk_cell LX.out 3).trans (show _ = some (.int .u32 0) from rfl)
                have cr0 := (blk_cell RX.out 0).trans (show _ = some (.int .i64 0) from rfl)
                have fr0 := blk_frozen RX.out 0
                have cr1 := (blk_cell RX.out 1).trans (show _ = some (.string ⟨#[]⟩) from rfl)
                have fr1 := blk_frozen RX.out 1
                have cr2 := (blk_cell RX.out 2).trans (show _ = some (.int .i64 0) from rfl)
                have fr2 := blk_frozen RX.out 2
                have cr3 := (blk_cell RX.out 3).trans (show _ = some (.int .u32 0) from rfl)
                have fr3 := blk_frozen RX.out 3
                have cr4 := (blk_cell RX.out 4).trans (show _ = some (.int .i64 0) from rfl)
                have fr4 := blk_frozen RX.out 4
                go_wp2_with fail
                refine bodyPost_ret (results_cell_row rfl _ _ rb 31 #[.int .i64 1, .string (ofL x), .int .i64 (u2 : Int), .int .u32 0, .int .i64 0] (0, 0) _ rfl (blk_put (blk_put (blk_put (blk_put (blk_put (RX.out) 0 (.int .i64 1) rfl) 1 (.string (ofL x)) rfl) 2 (.int .i64 (u2 : Int)) rfl) 3 (.int .u32 0) rfl) 4 (.int .i64 0) rfl) Tryd.underlying31 rfl (by kernel_rfl)) rfl ⟨?_, by first | exact (((((BX.out.setCell (p := ⟨rb, 0, none⟩) (Nat.le_refl _) _).setCell (p := ⟨rb, 1, none⟩) (Nat.le_refl _) _).setCell (p := ⟨rb, 2, none⟩) (Nat.le_refl _) _).setCell (p := ⟨rb, 3, none⟩) (Nat.le_refl _) _).setCell (p := ⟨rb, 4, none⟩) (Nat.le_refl _) _) | (rw [hrb]; exact (((((BX.out.setCell (p := ⟨rb, 0, none⟩) (Nat.le_refl _) _).setCell (p := ⟨rb, 1, none⟩) (Nat.le_refl _) _).setCell (p := ⟨rb, 2, none⟩) (Nat.le_refl _) _).setCell (p := ⟨rb, 3, none⟩) (Nat.le_refl _) _).setCell (p := ⟨rb, 4, none⟩) (Nat.le_refl _) _))⟩
                rw [HP.out]; rfl
            · skip
              have hg : goodL x = false := by simpa using hg
              refine (good_f x gx _ hg HC.out).mono ?_
              rintro e w13 ⟨rfl, hb⟩
              replace RX := Aside0.mk (blk_below RX.out hb)
              replace LX := Aside0.mk (blk_below LX.out hb)
              replace HX := Aside0.mk (show ∀ (j : Nat) u, ((wordsB s).map Value.string)[j]? = some u → w13.cell? ⟨gw, 0 + j, none⟩ = some u from fun j u h => pw_cell_below hb (HX.out j u h))
              replace BX := Aside0.mk (below_then BX.out (Nat.le_of_lt (Nat.lt_of_succ_lt (blk_lt QX.out))) hb)
              replace QX := Aside0.mk (blk_below QX.out hb)
              clear hb
              clear HC
              have HP : Aside0 (parseF s = none) := ⟨by rw [parse_of (f := ⟨1, [109, 97, 107, 101], [78, 67]⟩) hlen (by decide) (by rw [HW.out, ← hw]), if_pos (by rfl)]; simp [readAll, readF, ofL_data, hg] <;> rfl⟩
              have cq0 := (blk_cell QX.out 0).trans (show _ = some (.int .i64 0) from rfl)
              have cq1 := (blk_cell QX.out 1).trans (show _ = some (.string ⟨#[]⟩) from rfl)
              have cq2 := (blk_cell QX.out 2).trans (show _ = some (.int .i64 0) from rfl)
              have cq3 := (blk_cell QX.out 3).trans (show _ = some (.int .u32 0) from rfl)
              have cq4 := (blk_cell QX.out 4).trans (show _ = some (.int .i64 11) from rfl)
              have cr0 := (blk_cell RX.out 0).trans (show _ = some (.int .i64 0) from rfl)
              have fr0 := blk_frozen RX.out 0
              have cr1 := (blk_cell RX.out 1).trans (show _ = some (.string ⟨#[]⟩) from rfl)
              have fr1 := blk_frozen RX.out 1
              have cr2 := (blk_cell RX.out 2).trans (show _ = some (.int .i64 0) from rfl)
              have fr2 := blk_frozen RX.out 2
              have cr3 := (blk_cell RX.out 3).trans (show _ = some (.int .u32 0) from rfl)
              have fr3 := blk_frozen RX.out 3
              have cr4 := (blk_cell RX.out 4).trans (show _ = some (.int .i64 0) from rfl)
              have fr4 := blk_frozen RX.out 4
              go_wp2_with fail
              refine bodyPost_ret (results_cell_row rfl _ _ rb 31 #[.int .i64 0, .string ⟨#[]⟩, .int .i64 0, .int .u32 0, .int .i64 11] (0, 0) _ rfl (blk_put (blk_put (blk_put (blk_put (blk_put (RX.out) 0 (.int .i64 0) rfl) 1 (.string ⟨#[]⟩) rfl) 2 (.int .i64 0) rfl) 3 (.int .u32 0) rfl) 4 (.int .i64 11) rfl) Tryd.underlying31 rfl (by kernel_rfl)) rfl ⟨?_, by first | exact (((((BX.out.setCell (p := ⟨rb, 0, none⟩) (Nat.le_refl _) _).setCell (p := ⟨rb, 1, none⟩) (Nat.le_refl _) _).setCell (p := ⟨rb, 2, none⟩) (Nat.le_refl _) _).setCell (p := ⟨rb, 3, none⟩) (Nat.le_refl _) _).setCell (p := ⟨rb, 4, none⟩) (Nat.le_refl _) _) | (rw [hrb]; exact (((((BX.out.setCell (p := ⟨rb, 0, none⟩) (Nat.le_refl _) _).setCell (p := ⟨rb, 1, none⟩) (Nat.le_refl _) _).setCell (p := ⟨rb, 2, none⟩) (Nat.le_refl _) _).setCell (p := ⟨rb, 3, none⟩) (Nat.le_refl _) _).setCell (p := ⟨rb, 4, none⟩) (Nat.le_refl _) _))⟩
              rw [HP.out]; rfl
          · skip
            obtain ⟨x, rfl⟩ := len1 hl
            replace LX : Aside0 (w4.heap[lb]? = some (.cells #[.int .i64 2, .string ⟨#[]⟩, .int .i64 0, .int .u32 0] 29 (0, 0))) := LX
            clear hl hcw hL
            have cw1 := HX.out 1 _ (show _ = some (Value.string (ofL x)) by rw [HB.out]; rfl)
            have cl0 := (blk_cell LX.out 0).trans (show _ = some (.int .i64 2) from rfl)
            have fl0 := blk_frozen LX.out 0
            have cl1 := (blk_cell LX.out 1).trans (show _ = some (.string ⟨#[]⟩) from rfl)
            have fl1 := blk_frozen LX.out 1
            have cl2 := (blk_cell LX.out 2).trans (show _ = some (.int .i64 0) from rfl)
            have fl2 := blk_frozen LX.out 2
            have cl3 := (blk_cell LX.out 3).trans (show _ = some (.int .u32 0) from rfl)
            have fl3 := blk_frozen LX.out 3
            go_upto_region 16 with (fail)
            clear cl0 cl1 cl2 cl3 fl0 fl1 fl2 fl3
            clear cw1
            replace RX := Aside0.mk (blk_far RX.out (p := ⟨lb, 1, none⟩) (by have := RL.out; show rb ≠ lb; omega) (.string (ofL x)))
            replace QX := Aside0.mk (blk_far QX.out (p := ⟨lb, 1, none⟩) (by have := RL.out; show rb + 1 ≠ lb; omega) (.string (ofL x)))
            replace LX := Aside0.mk (blk_put LX.out 1 (.string (ofL x)) rfl)
            replace HX := Aside0.mk (show ∀ (j : Nat) u, ((wordsB s).map Value.string)[j]? = some u → (w4.setCell ⟨lb, 1, none⟩ (.string (ofL x))).cell? ⟨gw, 0 + j, none⟩ = some u from fun j u h => (cell_far (show gw ≠ lb by omega) _).trans (HX.out j u h))
            replace BX := Aside0.mk (BX.out.setCell (p := ⟨lb, 1, none⟩) (by have := RL.out; show rb ≤ lb; omega) (.string (ofL x)))
            generalize w4.setCell ⟨lb, 1, none⟩ (.string (ofL x)) = w14 at *
            have cl0 := (blk_cell LX.out 0).trans (show _ = some (.int .i64 2) from rfl)
            have cl1 := (blk_cell LX.out 1).trans (show _ = some (.string (ofL x)) from rfl)
            have cl2 := (blk_cell LX.out 2).trans (show _ = some (.int .i64 0) from rfl)
            have cl3 := (blk_cell LX.out 3).trans (show _ = some (.int .u32 0) from rfl)
            go_wp2_with fail
            clear cl0 cl1 cl2 cl3
            replace RX := Aside0.mk (blk_alloc RX.out (.cells #[.string (ofL x)] 9 (0, 0)))
            replace LX := Aside0.mk (blk_alloc LX.out (.cells #[.string (ofL x)] 9 (0, 0)))
            replace HX := Aside0.mk (show ∀ (j : Nat) u, ((wordsB s).map Value.string)[j]? = some u → (w14.alloc (.cells #[.string (ofL x)] 9 (0, 0))).cell? ⟨gw, 0 + j, none⟩ = some u from fun j u h => pw_cell_below (below_alloc (Below.refl _ _) _) (HX.out j u h))
            replace BX := Aside0.mk (BX.out.alloc (Nat.le_of_lt (Nat.lt_of_succ_lt (blk_lt QX.out))) (.cells #[.string (ofL x)] 9 (0, 0)))
            replace QX := Aside0.mk (blk_alloc QX.out (.cells #[.string (ofL x)] 9 (0, 0)))
            have HC := Aside0.mk (blk_cell (blk_new w14 (.cells #[.string (ofL x)] 9 (0, 0))) 0)
            generalize w14.alloc (.cells #[.string (ofL x)] 9 (0, 0)) = w15 at *
            generalize w14.heap.size = gx at *
            by_cases hg : goodL x = true
            · skip
              refine (good_t x gx _ hg HC.out).mono ?_
              rintro e w16 ⟨rfl, hb⟩
              replace RX := Aside0.mk (blk_below RX.out hb)
              replace LX := Aside0.mk (blk_below LX.out hb)
              replace HX := Aside0.mk (show ∀ (j : Nat) u, ((wordsB s).map Value.string)[j]? = some u → w16.cell? ⟨gw, 0 + j, none⟩ = some u from fun j u h => pw_cell_below hb (HX.out j u h))
              replace BX := Aside0.mk (below_then BX.out (Nat.le_of_lt (Nat.lt_of_succ_lt (blk_lt QX.out))) hb)
              replace QX := Aside0.mk (blk_below QX.out hb)
              clear hb
              clear HC
              have HP : Aside0 (parseF s = some ⟨2, ofL x, 0, 0⟩) := ⟨by rw [parse_of (f := ⟨2, [103, 111, 110, 101], [78]⟩) hlen (by decide) (by rw [HW.out, ← hw]), if_pos (by rfl)]; simp [readAll, readF, ofL_data, hg] <;> rfl⟩
              have cl0 := (blk_cell LX.out 0).trans (show _ = some (.int .i64 2) from rfl)
              have cl1 := (blk_cell LX.out 1).trans (show _ = some (.string (ofL x)) from rfl)
              have cl2 := (blk_cell LX.out 2).trans (show _ = some (.int .i64 0) from rfl)
              have cl3 := (blk_cell LX.out 3).trans (show _ = some (.int .u32 0) from rfl)
              have cr0 := (blk_cell RX.out 0).trans (show _ = some (.int .i64 0) from rfl)
              have fr0 := blk_frozen RX.out 0
              have cr1 := (blk_cell RX.out 1).trans (show _ = some (.string ⟨#[]⟩) from rfl)
              have fr1 := blk_frozen RX.out 1
              have cr2 := (blk_cell RX.out 2).trans (show _ = some (.int .i64 0) from rfl)
              have fr2 := blk_frozen RX.out 2
              have cr3 := (blk_cell RX.out 3).trans (show _ = some (.int .u32 0) from rfl)
              have fr3 := blk_frozen RX.out 3
              have cr4 := (blk_cell RX.out 4).trans (show _ = some (.int .i64 0) from rfl)
              have fr4 := blk_frozen RX.out 4
              go_wp2_with fail
              refine bodyPost_ret (results_cell_row rfl _ _ rb 31 #[.int .i64 2, .string (ofL x), .int .i64 0, .int .u32 0, .int .i64 0] (0, 0) _ rfl (blk_put (blk_put (blk_put (blk_put (blk_put (RX.out) 0 (.int .i64 2) rfl) 1 (.string (ofL x)) rfl) 2 (.int .i64 0) rfl) 3 (.int .u32 0) rfl) 4 (.int .i64 0) rfl) Tryd.underlying31 rfl (by kernel_rfl)) rfl ⟨?_, by first | exact (((((BX.out.setCell (p := ⟨rb, 0, none⟩) (Nat.le_refl _) _).setCell (p := ⟨rb, 1, none⟩) (Nat.le_refl _) _).setCell (p := ⟨rb, 2, none⟩) (Nat.le_refl _) _).setCell (p := ⟨rb, 3, none⟩) (Nat.le_refl _) _).setCell (p := ⟨rb, 4, none⟩) (Nat.le_refl _) _) | (rw [hrb]; exact (((((BX.out.setCell (p := ⟨rb, 0, none⟩) (Nat.le_refl _) _).setCell (p := ⟨rb, 1, none⟩) (Nat.le_refl _) _).setCell (p := ⟨rb, 2, none⟩) (Nat.le_refl _) _).setCell (p := ⟨rb, 3, none⟩) (Nat.le_refl _) _).setCell (p := ⟨rb, 4, none⟩) (Nat.le_refl _) _))⟩
              rw [HP.out]; rfl
            · skip
              have hg : goodL x = false := by simpa using hg
              refine (good_f x gx _ hg HC.out).mono ?_
              rintro e w17 ⟨rfl, hb⟩
              replace RX := Aside0.mk (blk_below RX.out hb)
              replace LX := Aside0.mk (blk_below LX.out hb)
              replace HX := Aside0.mk (show ∀ (j : Nat) u, ((wordsB s).map Value.string)[j]? = some u → w17.cell? ⟨gw, 0 + j, none⟩ = some u from fun j u h => pw_cell_below hb (HX.out j u h))
              replace BX := Aside0.mk (below_then BX.out (Nat.le_of_lt (Nat.lt_of_succ_lt (blk_lt QX.out))) hb)
              replace QX := Aside0.mk (blk_below QX.out hb)
              clear hb
              clear HC
              have HP : Aside0 (parseF s = none) := ⟨by rw [parse_of (f := ⟨2, [103, 111, 110, 101], [78]⟩) hlen (by decide) (by rw [HW.out, ← hw]), if_pos (by rfl)]; simp [readAll, readF, ofL_data, hg] <;> rfl⟩
              have cq0 := (blk_cell QX.out 0).trans (show _ = some (.int .i64 0) from rfl)
              have cq1 := (blk_cell QX.out 1).trans (show _ = some (.string ⟨#[]⟩) from rfl)
              have cq2 := (blk_cell QX.out 2).trans (show _ = some (.int .i64 0) from rfl)
              have cq3 := (blk_cell QX.out 3).trans (show _ = some (.int .u32 0) from rfl)
              have cq4 := (blk_cell QX.out 4).trans (show _ = some (.int .i64 11) from rfl)
              have cr0 := (blk_cell RX.out 0).trans (show _ = some (.int .i64 0) from rfl)
              have fr0 := blk_frozen RX.out 0
              have cr1 := (blk_cell RX.out 1).trans (show _ = some (.string ⟨#[]⟩) from rfl)
              have fr1 := blk_frozen RX.out 1
              have cr2 := (blk_cell RX.out 2).trans (show _ = some (.int .i64 0) from rfl)
              have fr2 := blk_frozen RX.out 2
              have cr3 := (blk_cell RX.out 3).trans (show _ = some (.int .u32 0) from rfl)
              have fr3 := blk_frozen RX.out 3
              have cr4 := (blk_cell RX.out 4).trans (show _ = some (.int .i64 0) from rfl)
              have fr4 := blk_frozen RX.out 4
              go_wp2_with fail
              refine bodyPost_ret (results_cell_row rfl _ _ rb 31 #[.int .i64 0, .string ⟨#[]⟩, .int .i64 0, .int .u32 0, .int .i64 11] (0, 0) _ rfl (blk_put (blk_put (blk_put (blk_put (blk_put (RX.out) 0 (.int .i64 0) rfl) 1 (.string ⟨#[]⟩) rfl) 2 (.int .i64 0) rfl) 3 (.int .u32 0) rfl) 4 (.int .i64 11) rfl) Tryd.underlying31 rfl (by kernel_rfl)) rfl ⟨?_, by first | exact (((((BX.out.setCell (p := ⟨rb, 0, none⟩) (Nat.le_refl _) _).setCell (p := ⟨rb, 1, none⟩) (Nat.le_refl _) _).setCell (p := ⟨rb, 2, none⟩) (Nat.le_refl _) _).setCell (p := ⟨rb, 3, none⟩) (Nat.le_refl _) _).setCell (p := ⟨rb, 4, none⟩) (Nat.le_refl _) _) | (rw [hrb]; exact (((((BX.out.setCell (p := ⟨rb, 0, none⟩) (Nat.le_refl _) _).setCell (p := ⟨rb, 1, none⟩) (Nat.le_refl _) _).setCell (p := ⟨rb, 2, none⟩) (Nat.le_refl _) _).setCell (p := ⟨rb, 3, none⟩) (Nat.le_refl _) _).setCell (p := ⟨rb, 4, none⟩) (Nat.le_refl _) _))⟩
              rw [HP.out]; rfl
          · skip
            obtain ⟨x, y, z, rfl⟩ := len3 hl
            replace LX : Aside0 (w4.heap[lb]? = some (.cells #[.int .i64 3, .string ⟨#[]⟩, .int .i64 0, .int .u32 0] 29 (0, 0))) := LX
            clear hl hcw hL
            have hq := bytes_eqB (ofL x) ⟨#[42]⟩
            rw [ofL_data, show (⟨#[42]⟩ : ByteArray).toList = [42] from by rw [toList_data]] at hq
            replace hq : ((ofL x).toList == [42]) = decide (x = [42]) := hq
            have hqn : (!((ofL x).toList == [42])) = !decide (x = [42]) := by rw [hq]
            by_cases hw42 : x = [42]
            · rw [decide_eq_true hw42] at hq hqn
              have HW42 := Aside0.mk hw42
              clear hw42
              have cw1 := HX.out 1 _ (show _ = some (Value.string (ofL x)) by rw [HB.out]; rfl)
              have cl0 := (blk_cell LX.out 0).trans (show _ = some (.int .i64 3) from rfl)
              have cl1 := (blk_cell LX.out 1).trans (show _ = some (.string ⟨#[]⟩) from rfl)
              have cl2 := (blk_cell LX.out 2).trans (show _ = some (.int .i64 0) from rfl)
              have cl3 := (blk_cell LX.out 3).trans (show _ = some (.int .u32 0) from rfl)
              go_upto_region 18 with (fail)
              clear cl0 cl1 cl2 cl3
              clear cw1 hq hqn
              have cl0 := (blk_cell LX.out 0).trans (show _ = some (.int .i64 3) from rfl)
              have cl1 := (blk_cell LX.out 1).trans (show _ = some (.string ⟨#[]⟩) from rfl)
              have cl2 := (blk_cell LX.out 2).trans (show _ = some (.int .i64 0) from rfl)
              have cl3 := (blk_cell LX.out 3).trans (show _ = some (.int .u32 0) from rfl)
              go_upto_region 20 with (fail)
              clear cl0 cl1 cl2 cl3
              have cw2 := HX.out 2 _ (show _ = some (Value.string (ofL y)) by rw [HB.out]; rfl)
              have cl0 := (blk_cell LX.out 0).trans (show _ = some (.int .i64 3) from rfl)
              have cl1 := (blk_cell LX.out 1).trans (show _ = some (.string ⟨#[]⟩) from rfl)
              have cl2 := (blk_cell LX.out 2).trans (show _ = some (.int .i64 0) from rfl)
              have cl3 := (blk_cell LX.out 3).trans (show _ = some (.int .u32 0) from rfl)
              go_wp2_with fail
              clear cl0 cl1 cl2 cl3
              clear cw2
              cases hn2 : numVal y with
              | none =>
                refine (numr_n hn2 _).mono ?_
                rintro e w18 ⟨rfl, hb⟩
                replace RX := Aside0.mk (blk_below RX.out hb)
                replace LX := Aside0.mk (blk_below LX.out hb)
                replace HX := Aside0.mk (show ∀ (j : Nat) u, ((wordsB s).map Value.string)[j]? = some u → w18.cell? ⟨gw, 0 + j, none⟩ = some u from fun j u h => pw_cell_below hb (HX.out j u h))
                replace BX := Aside0.mk (below_then BX.out (Nat.le_of_lt (Nat.lt_of_succ_lt (blk_lt QX.out))) hb)
                replace QX := Aside0.mk (blk_below QX.out hb)
                clear hb
                go_upto_region 21 with (fail)
                replace RX := Aside0.mk (blk_alloc RX.out (.cells #[.int .i64 0, .bool false] 54 (0, 0)))
                replace LX := Aside0.mk (blk_alloc LX.out (.cells #[.int .i64 0, .bool false] 54 (0, 0)))
                replace HX := Aside0.mk (show ∀ (j : Nat) u, ((wordsB s).map Value.string)[j]? = some u → (w18.alloc (.cells #[.int .i64 0, .bool false] 54 (0, 0))).cell? ⟨gw, 0 + j, none⟩ = some u from fun j u h => pw_cell_below (below_alloc (Below.refl _ _) _) (HX.out j u h))
                replace BX := Aside0.mk (BX.out.alloc (Nat.le_of_lt (Nat.lt_of_succ_lt (blk_lt QX.out))) (.cells #[.int .i64 0, .bool false] 54 (0, 0)))
                replace QX := Aside0.mk (blk_alloc QX.out (.cells #[.int .i64 0, .bool false] 54 (0, 0)))
                have NX := Aside0.mk (blk_new w18 (.cells #[.int .i64 0, .bool false] 54 (0, 0)))
                generalize w18.alloc (.cells #[.int .i64 0, .bool false] 54 (0, 0)) = w19 at *
                generalize w18.heap.size = bn at *
                have cn0 := (blk_cell NX.out 0).trans (show _ = some (.int .i64 0) from rfl)
                have cn1 := (blk_cell NX.out 1).trans (show _ = some (.bool false) from rfl)
                have HP : Aside0 (parseF s = none) := ⟨by rw [parse_of (f := ⟨3, [109, 105, 110, 116], [65, 67, 85]⟩) hlen (by decide) (by rw [HW.out, ← hw]), if_pos (by rfl)]; simp [readAll, readF, ofL_data, HW42.out, hn2] <;> rfl⟩
                have cq0 := (blk_cell QX.out 0).trans (show _ = some (.int .i64 0) from rfl)
                have cq1 := (blk_cell QX.out 1).trans (show _ = some (.string ⟨#[]⟩) from rfl)
                have cq2 := (blk_cell QX.out 2).trans (show _ = some (.int .i64 0) from rfl)
                have cq3 := (blk_cell QX.out 3).trans (show _ = some (.int .u32 0) from rfl)
                have cq4 := (blk_cell QX.out 4).trans (show _ = some (.int .i64 11) from rfl)
                have cr0 := (blk_cell RX.out 0).trans (show _ = some (.int .i64 0) from rfl)
                have fr0 := blk_frozen RX.out 0
                have cr1 := (blk_cell RX.out 1).trans (show _ = some (.string ⟨#[]⟩) from rfl)
                have fr1 := blk_frozen RX.out 1
                have cr2 := (blk_cell RX.out 2).trans (show _ = some (.int .i64 0) from rfl)
                have fr2 := blk_frozen RX.out 2
                have cr3 := (blk_cell RX.out 3).trans (show _ = some (.int .u32 0) from rfl)
                have fr3 := blk_frozen RX.out 3
                have cr4 := (blk_cell RX.out 4).trans (show _ = some (.int .i64 0) from rfl)
                have fr4 := blk_frozen RX.out 4
                go_wp2_with fail
                refine bodyPost_ret (results_cell_row rfl _ _ rb 31 #[.int .i64 0, .string ⟨#[]⟩, .int .i64 0, .int .u32 0, .int .i64 11] (0, 0) _ rfl (blk_put (blk_put (blk_put (blk_put (blk_put (RX.out) 0 (.int .i64 0) rfl) 1 (.string ⟨#[]⟩) rfl) 2 (.int .i64 0) rfl) 3 (.int .u32 0) rfl) 4 (.int .i64 11) rfl) Tryd.underlying31 rfl (by kernel_rfl)) rfl ⟨?_, by first | exact (((((BX.out.setCell (p := ⟨rb, 0, none⟩) (Nat.le_refl _) _).setCell (p := ⟨rb, 1, none⟩) (Nat.le_refl _) _).setCell (p := ⟨rb, 2, none⟩) (Nat.le_refl _) _).setCell (p := ⟨rb, 3, none⟩) (Nat.le_refl _) _).setCell (p := ⟨rb, 4, none⟩) (Nat.le_refl _) _) | (rw [hrb]; exact (((((BX.out.setCell (p := ⟨rb, 0, none⟩) (Nat.le_refl _) _).setCell (p := ⟨rb, 1, none⟩) (Nat.le_refl _) _).setCell (p := ⟨rb, 2, none⟩) (Nat.le_refl _) _).setCell (p := ⟨rb, 3, none⟩) (Nat.le_refl _) _).setCell (p := ⟨rb, 4, none⟩) (Nat.le_refl _) _))⟩
                rw [HP.out]; rfl
              | some u2 =>
                refine (numr_s hn2 _).mono ?_
                rintro e w20 ⟨rfl, hb⟩
                replace RX := Aside0.mk (blk_below RX.out hb)
                replace LX := Aside0.mk (blk_below LX.out hb)
                replace HX := Aside0.mk (show ∀ (j : Nat) u, ((wordsB s).map Value.string)[j]? = some u → w20.cell? ⟨gw, 0 + j, none⟩ = some u from fun j u h => pw_cell_below hb (HX.out j u h))
                replace BX := Aside0.mk (below_then BX.out (Nat.le_of_lt (Nat.lt_of_succ_lt (blk_lt QX.out))) hb)
                replace QX := Aside0.mk (blk_below QX.out hb)
                clear hb
                go_upto_region 21 with (fail)
                replace RX := Aside0.mk (blk_alloc RX.out (.cells #[.int .i64 (u2 : Int), .bool true] 54 (0, 0)))
                replace LX := Aside0.mk (blk_alloc LX.out (.cells #[.int .i64 (u2 : Int), .bool true] 54 (0, 0)))
                replace HX := Aside0.mk (show ∀ (j : Nat) u, ((wordsB s).map Value.string)[j]? = some u → (w20.alloc (.cells #[.int .i64 (u2 : Int), .bool true] 54 (0, 0))).cell? ⟨gw, 0 + j, none⟩ = some u from fun j u h => pw_cell_below (below_alloc (Below.refl _ _) _) (HX.out j u h))
                replace BX := Aside0.mk (BX.out.alloc (Nat.le_of_lt (Nat.lt_of_succ_lt (blk_lt QX.out))) (.cells #[.int .i64 (u2 : Int), .bool true] 54 (0, 0)))
                replace QX := Aside0.mk (blk_alloc QX.out (.cells #[.int .i64 (u2 : Int), .bool true] 54 (0, 0)))
                have NX := Aside0.mk (blk_new w20 (.cells #[.int .i64 (u2 : Int), .bool true] 54 (0, 0)))
                generalize w20.alloc (.cells #[.int .i64 (u2 : Int), .bool true] 54 (0, 0)) = w21 at *
                generalize w20.heap.size = bn at *
                have cn0 := (blk_cell NX.out 0).trans (show _ = some (.int .i64 (u2 : Int)) from rfl)
                have cn1 := (blk_cell NX.out 1).trans (show _ = some (.bool true) from rfl)
                have cl0 := (blk_cell LX.out 0).trans (show _ = some (.int .i64 3) from rfl)
                have fl0 := blk_frozen LX.out 0
                have cl1 := (blk_cell LX.out 1).trans (show _ = some (.string ⟨#[]⟩) from rfl)
                have fl1 := blk_frozen LX.out 1
                have cl2 := (blk_cell LX.out 2).trans (show _ = some (.int .i64 0) from rfl)
                have fl2 := blk_frozen LX.out 2
                have cl3 := (blk_cell LX.out 3).trans (show _ = some (.int .u32 0) from rfl)
                have fl3 := blk_frozen LX.out 3
                go_upto_region 24 with (fail)
                clear cl0 cl1 cl2 cl3 fl0 fl1 fl2 fl3
                clear cn0 cn1
                clear NX
                replace RX := Aside0.mk (blk_far RX.out (p := ⟨lb, 2, none⟩) (by have := RL.out; show rb ≠ lb; omega) (.int .i64 (u2 : Int)))
                replace QX := Aside0.mk (blk_far QX.out (p := ⟨lb, 2, none⟩) (by have := RL.out; show rb + 1 ≠ lb; omega) (.int .i64 (u2 : Int)))
                replace LX := Aside0.mk (blk_put LX.out 2 (.int .i64 (u2 : Int)) rfl)
                replace HX := Aside0.mk (show ∀ (j : Nat) u, ((wordsB s).map Value.string)[j]? = some u → (w21.setCell ⟨lb, 2, none⟩ (.int .i64 (u2 : Int))).cell? ⟨gw, 0 + j, none⟩ = some u from fun j u h => (cell_far (show gw ≠ lb by omega) _).trans (HX.out j u h))
                replace BX := Aside0.mk (BX.out.setCell (p := ⟨lb, 2, none⟩) (by have := RL.out; show rb ≤ lb; omega) (.int .i64 (u2 : Int)))
                generalize w21.setCell ⟨lb, 2, none⟩ (.int .i64 (u2 : Int)) = w22 at *
                have cl0 := (blk_cell LX.out 0).trans (show _ = some (.int .i64 3) from rfl)
                have cl1 := (blk_cell LX.out 1).trans (show _ = some (.string ⟨#[]⟩) from rfl)
                have cl2 := (blk_cell LX.out 2).trans (show _ = some (.int .i64 (u2 : Int)) from rfl)
                have cl3 := (blk_cell LX.out 3).trans (show _ = some (.int .u32 0) from rfl)
                go_upto_region 25 with (fail)
                clear cl0 cl1 cl2 cl3
                have cw3 := HX.out 3 _ (show _ = some (Value.string (ofL z)) by rw [HB.out]; rfl)
                have cl0 := (blk_cell LX.out 0).trans (show _ = some (.int .i64 3) from rfl)
                have cl1 := (blk_cell LX.out 1).trans (show _ = some (.string ⟨#[]⟩) from rfl)
                have cl2 := (blk_cell LX.out 2).trans (show _ = some (.int .i64 (u2 : Int)) from rfl)
                have cl3 := (blk_cell LX.out 3).trans (show _ = some (.int .u32 0) from rfl)
                go_wp2_with fail
                clear cl0 cl1 cl2 cl3
                clear cw3
                cases hn3 : numVal z with
                | none =>
                  refine (numr_n hn3 _).mono ?_
                  rintro e w23 ⟨rfl, hb⟩
                  replace RX := Aside0.mk (blk_below RX.out hb)
                  replace LX := Aside0.mk (blk_below LX.out hb)
                  replace HX := Aside0.mk (show ∀ (j : Nat) u, ((wordsB s).map Value.string)[j]? = some u → w23.cell? ⟨gw, 0 + j, none⟩ = some u from fun j u h => pw_cell_below hb (HX.out j u h))
                  replace BX := Aside0.mk (below_then BX.out (Nat.le_of_lt (Nat.lt_of_succ_lt (blk_lt QX.out))) hb)
                  replace QX := Aside0.mk (blk_below QX.out hb)
                  clear hb
                  go_upto_region 26 with (fail)
                  replace RX := Aside0.mk (blk_alloc RX.out (.cells #[.int .i64 0, .bool false] 54 (0, 0)))
                  replace LX := Aside0.mk (blk_alloc LX.out (.cells #[.int .i64 0, .bool false] 54 (0, 0)))
                  replace HX := Aside0.mk (show ∀ (j : Nat) u, ((wordsB s).map Value.string)[j]? = some u → (w23.alloc (.cells #[.int .i64 0, .bool false] 54 (0, 0))).cell? ⟨gw, 0 + j, none⟩ = some u from fun j u h => pw_cell_below (below_alloc (Below.refl _ _) _) (HX.out j u h))
                  replace BX := Aside0.mk (BX.out.alloc (Nat.le_of_lt (Nat.lt_of_succ_lt (blk_lt QX.out))) (.cells #[.int .i64 0, .bool false] 54 (0, 0)))
                  replace QX := Aside0.mk (blk_alloc QX.out (.cells #[.int .i64 0, .bool false] 54 (0, 0)))
                  have NX := Aside0.mk (blk_new w23 (.cells #[.int .i64 0, .bool false] 54 (0, 0)))
                  generalize w23.alloc (.cells #[.int .i64 0, .bool false] 54 (0, 0)) = w24 at *
                  generalize w23.heap.size = bn at *
                  have cn0 := (blk_cell NX.out 0).trans (show _ = some (.int .i64 0) from rfl)
                  have cn1 := (blk_cell NX.out 1).trans (show _ = some (.bool false) from rfl)
                  have HP : Aside0 (parseF s = none) := ⟨by rw [parse_of (f := ⟨3, [109, 105, 110, 116], [65, 67, 85]⟩) hlen (by decide) (by rw [HW.out, ← hw]), if_pos (by rfl)]; simp [readAll, readF, ofL_data, HW42.out, hn2, hn3] <;> rfl⟩
                  have cq0 := (blk_cell QX.out 0).trans (show _ = some (.int .i64 0) from rfl)
                  have cq1 := (blk_cell QX.out 1).trans (show _ = some (.string ⟨#[]⟩) from rfl)
                  have cq2 := (blk_cell QX.out 2).trans (show _ = some (.int .i64 0) from rfl)
                  have cq3 := (blk_cell QX.out 3).trans (show _ = some (.int .u32 0) from rfl)
                  have cq4 := (blk_cell QX.out 4).trans (show _ = some (.int .i64 11) from rfl)
                  have cr0 := (blk_cell RX.out 0).trans (show _ = some (.int .i64 0) from rfl)
                  have fr0 := blk_frozen RX.out 0
                  have cr1 := (blk_cell RX.out 1).trans (show _ = some (.string ⟨#[]⟩) from rfl)
                  have fr1 := blk_frozen RX.out 1
                  have cr2 := (blk_cell RX.out 2).trans (show _ = some (.int .i64 0) from rfl)
                  have fr2 := blk_frozen RX.out 2
                  have cr3 := (blk_cell RX.out 3).trans (show _ = some (.int .u32 0) from rfl)
                  have fr3 := blk_frozen RX.out 3
                  have cr4 := (blk_cell RX.out 4).trans (show _ = some (.int .i64 0) from rfl)
                  have fr4 := blk_frozen RX.out 4
                  go_wp2_with fail
                  refine bodyPost_ret (results_cell_row rfl _ _ rb 31 #[.int .i64 0, .string ⟨#[]⟩, .int .i64 0, .int .u32 0, .int .i64 11] (0, 0) _ rfl (blk_put (blk_put (blk_put (blk_put (blk_put (RX.out) 0 (.int .i64 0) rfl) 1 (.string ⟨#[]⟩) rfl) 2 (.int .i64 0) rfl) 3 (.int .u32 0) rfl) 4 (.int .i64 11) rfl) Tryd.underlying31 rfl (by kernel_rfl)) rfl ⟨?_, by first | exact (((((BX.out.setCell (p := ⟨rb, 0, none⟩) (Nat.le_refl _) _).setCell (p := ⟨rb, 1, none⟩) (Nat.le_refl _) _).setCell (p := ⟨rb, 2, none⟩) (Nat.le_refl _) _).setCell (p := ⟨rb, 3, none⟩) (Nat.le_refl _) _).setCell (p := ⟨rb, 4, none⟩) (Nat.le_refl _) _) | (rw [hrb]; exact (((((BX.out.setCell (p := ⟨rb, 0, none⟩) (Nat.le_refl _) _).setCell (p := ⟨rb, 1, none⟩) (Nat.le_refl _) _).setCell (p := ⟨rb, 2, none⟩) (Nat.le_refl _) _).setCell (p := ⟨rb, 3, none⟩) (Nat.le_refl _) _).setCell (p := ⟨rb, 4, none⟩) (Nat.le_refl _) _))⟩
                  rw [HP.out]; rfl
                | some u3 =>
                  refine (numr_s hn3 _).mono ?_
                  rintro e w25 ⟨rfl, hb⟩
                  replace RX := Aside0.mk (blk_below RX.out hb)
                  replace LX := Aside0.mk (blk_below LX.out hb)
                  replace HX := Aside0.mk (show ∀ (j : Nat) u, ((wordsB s).map Value.string)[j]? = some u → w25.cell? ⟨gw, 0 + j, none⟩ = some u from fun j u h => pw_cell_below hb (HX.out j u h))
                  replace BX := Aside0.mk (below_then BX.out (Nat.le_of_lt (Nat.lt_of_succ_lt (blk_lt QX.out))) hb)
                  replace QX := Aside0.mk (blk_below QX.out hb)
                  clear hb
                  go_upto_region 26 with (fail)
                  replace RX := Aside0.mk (blk_alloc RX.out (.cells #[.int .i64 (u3 : Int), .bool true] 54 (0, 0)))
                  replace LX := Aside0.mk (blk_alloc LX.out (.cells #[.int .i64 (u3 : Int), .bool true] 54 (0, 0)))
                  replace HX := Aside0.mk (show ∀ (j : Nat) u, ((wordsB s).map Value.string)[j]? = some u → (w25.alloc (.cells #[.int .i64 (u3 : Int), .bool true] 54 (0, 0))).cell? ⟨gw, 0 + j, none⟩ = some u from fun j u h => pw_cell_below (below_alloc (Below.refl _ _) _) (HX.out j u h))
                  replace BX := Aside0.mk (BX.out.alloc (Nat.le_of_lt (Nat.lt_of_succ_lt (blk_lt QX.out))) (.cells #[.int .i64 (u3 : Int), .bool true] 54 (0, 0)))
                  replace QX := Aside0.mk (blk_alloc QX.out (.cells #[.int .i64 (u3 : Int), .bool true] 54 (0, 0)))
                  have NX := Aside0.mk (blk_new w25 (.cells #[.int .i64 (u3 : Int), .bool true] 54 (0, 0)))
                  generalize w25.alloc (.cells #[.int .i64 (u3 : Int), .bool true] 54 (0, 0)) = w26 at *
                  generalize w25.heap.size = bn at *
                  have cn0 := (blk_cell NX.out 0).trans (show _ = some (.int .i64 (u3 : Int)) from rfl)
                  have cn1 := (blk_cell NX.out 1).trans (show _ = some (.bool true) from rfl)
                  have hcv : IntKind.u32.wrap (u3 : Int) = (u3 : Int) := by rw [show IntKind.u32.wrap (u3 : Int) = (u3 : Int) % 4294967296 from rfl]; have := num_le hn3; omega
                  have hcv2 : (u3 : Int) % 4294967296 = (u3 : Int) := by have := num_le hn3; omega
                  have cl0 := (blk_cell LX.out 0).trans (show _ = some (.int .i64 3) from rfl)
                  have fl0 := blk_frozen LX.out 0
                  have cl1 := (blk_cell LX.out 1).trans (show _ = some (.string ⟨#[]⟩) from rfl)
                  have fl1 := blk_frozen LX.out 1
                  have cl2 := (blk_cell LX.out 2).trans (show _ = some (.int .i64 (u2 : Int)) from rfl)
                  have fl2 := blk_frozen LX.out 2
                  have cl3 := (blk_cell LX.out 3).trans (show _ = some (.int .u32 0) from rfl)
                  have fl3 := blk_frozen LX.out 3
                  go_upto_region 29 with (fail)
                  clear cl0 cl1 cl2 cl3 fl0 fl1 fl2 fl3
                  clear cn0 cn1
                  clear NX
                  replace RX := Aside0.mk (blk_far RX.out (p := ⟨lb, 3, none⟩) (by have := RL.out; show rb ≠ lb; omega) (.int .u32 (u3 : Int)))
                  replace QX := Aside0.mk (blk_far QX.out (p := ⟨lb, 3, none⟩) (by have := RL.out; show rb + 1 ≠ lb; omega) (.int .u32 (u3 : Int)))
                  replace LX := Aside0.mk (blk_put LX.out 3 (.int .u32 (u3 : Int)) rfl)
                  replace HX := Aside0.mk (show ∀ (j : Nat) u, ((wordsB s).map Value.string)[j]? = some u → (w26.setCell ⟨lb, 3, none⟩ (.int .u32 (u3 : Int))).cell? ⟨gw, 0 + j, none⟩ = some u from fun j u h => (cell_far (show gw ≠ lb by omega) _).trans (HX.out j u h))
                  replace BX := Aside0.mk (BX.out.setCell (p := ⟨lb, 3, none⟩) (by have := RL.out; show rb ≤ lb; omega) (.int .u32 (u3 : Int)))
                  generalize w26.setCell ⟨lb, 3, none⟩ (.int .u32 (u3 : Int)) = w27 at *
                  have HP : Aside0 (parseF s = some ⟨3, ⟨#[]⟩, (u2 : Int), (u3 : Int)⟩) := ⟨by rw [parse_of (f := ⟨3, [109, 105, 110, 116], [65, 67, 85]⟩) hlen (by decide) (by rw [HW.out, ← hw]), if_pos (by rfl)]; simp [readAll, readF, ofL_data, HW42.out, hn2, hn3] <;> rfl⟩
                  have cl0 := (blk_cell LX.out 0).trans (show _ = some (.int .i64 3) from rfl)
                  have cl1 := (blk_cell LX.out 1).trans (show _ = some (.string ⟨#[]⟩) from rfl)
                  have cl2 := (blk_cell LX.out 2).trans (show _ = some (.int .i64 (u2 : Int)) from rfl)
                  have cl3 := (blk_cell LX.out 3).trans (show _ = some (.int .u32 (u3 : Int)) from rfl)
                  have cr0 := (blk_cell RX.out 0).trans (show _ = some (.int .i64 0) from rfl)
                  have fr0 := blk_frozen RX.out 0
                  have cr1 := (blk_cell RX.out 1).trans (show _ = some (.string ⟨#[]⟩) from rfl)
                  have fr1 := blk_frozen RX.out 1
                  have cr2 := (blk_cell RX.out 2).trans (show _ = some (.int .i64 0) from rfl)
                  have fr2 := blk_frozen RX.out 2
                  have cr3 := (blk_cell RX.out 3).trans (show _ = some (.int .u32 0) from rfl)
                  have fr3 := blk_frozen RX.out 3
                  have cr4 := (blk_cell RX.out 4).trans (show _ = some (.int .i64 0) from rfl)
                  have fr4 := blk_frozen RX.out 4
                  go_wp2_with fail
                  refine bodyPost_ret (results_cell_row rfl _ _ rb 31 #[.int .i64 3, .string ⟨#[]⟩, .int .i64 (u2 : Int), .int .u32 (u3 : Int), .int .i64 0] (0, 0) _ rfl (blk_put (blk_put (blk_put (blk_put (blk_put (RX.out) 0 (.int .i64 3) rfl) 1 (.string ⟨#[]⟩) rfl) 2 (.int .i64 (u2 : Int)) rfl) 3 (.int .u32 (u3 : Int)) rfl) 4 (.int .i64 0) rfl) Tryd.underlying31 rfl (by kernel_rfl)) rfl ⟨?_, by first | exact (((((BX.out.setCell (p := ⟨rb, 0, none⟩) (Nat.le_refl _) _).setCell (p := ⟨rb, 1, none⟩) (Nat.le_refl _) _).setCell (p := ⟨rb, 2, none⟩) (Nat.le_refl _) _).setCell (p := ⟨rb, 3, none⟩) (Nat.le_refl _) _).setCell (p := ⟨rb, 4, none⟩) (Nat.le_refl _) _) | (rw [hrb]; exact (((((BX.out.setCell (p := ⟨rb, 0, none⟩) (Nat.le_refl _) _).setCell (p := ⟨rb, 1, none⟩) (Nat.le_refl _) _).setCell (p := ⟨rb, 2, none⟩) (Nat.le_refl _) _).setCell (p := ⟨rb, 3, none⟩) (Nat.le_refl _) _).setCell (p := ⟨rb, 4, none⟩) (Nat.le_refl _) _))⟩
                  rw [HP.out]; rfl
            · rw [decide_eq_false hw42] at hq hqn
              have cw1 := HX.out 1 _ (show _ = some (Value.string (ofL x)) by rw [HB.out]; rfl)
              have cl0 := (blk_cell LX.out 0).trans (show _ = some (.int .i64 3) from rfl)
              have cl1 := (blk_cell LX.out 1).trans (show _ = some (.string ⟨#[]⟩) from rfl)
              have cl2 := (blk_cell LX.out 2).trans (show _ = some (.int .i64 0) from rfl)
              have cl3 := (blk_cell LX.out 3).trans (show _ = some (.int .u32 0) from rfl)
              go_upto_region 15 with (fail)
              clear cl0 cl1 cl2 cl3
              clear cw1 hq hqn
              have cw1 := HX.out 1 _ (show _ = some (Value.string (ofL x)) by rw [HB.out]; rfl)
              have cl0 := (blk_cell LX.out 0).trans (show _ = some (.int .i64 3) from rfl)
              have fl0 := blk_frozen LX.out 0
              have cl1 := (blk_cell LX.out 1).trans (show _ = some (.string ⟨#[]⟩) from rfl)
              have fl1 := blk_frozen LX.out 1
              have cl2 := (blk_cell LX.out 2).trans (show _ = some (.int .i64 0) from rfl)
              have fl2 := blk_frozen LX.out 2
              have cl3 := (blk_cell LX.out 3).trans (show _ = some (.int .u32 0) from rfl)
              have fl3 := blk_frozen LX.out 3
              go_upto_region 16 with (fail)
              clear cl0 cl1 cl2 cl3 fl0 fl1 fl2 fl3
              clear cw1
              replace RX := Aside0.mk (blk_far RX.out (p := ⟨lb, 1, none⟩) (by have := RL.out; show rb ≠ lb; omega) (.string (ofL x)))
              replace QX := Aside0.mk (blk_far QX.out (p := ⟨lb, 1, none⟩) (by have := RL.out; show rb + 1 ≠ lb; omega) (.string (ofL x)))
              replace LX := Aside0.mk (blk_put LX.out 1 (.string (ofL x)) rfl)
              replace HX := Aside0.mk (show ∀ (j : Nat) u, ((wordsB s).map Value.string)[j]? = some u → (w4.setCell ⟨lb, 1, none⟩ (.string (ofL x))).cell? ⟨gw, 0 + j, none⟩ = some u from fun j u h => (cell_far (show gw ≠ lb by omega) _).trans (HX.out j u h))
              replace BX := Aside0.mk (BX.out.setCell (p := ⟨lb, 1, none⟩) (by have := RL.out; show rb ≤ lb; omega) (.string (ofL x)))
              generalize w4.setCell ⟨lb, 1, none⟩ (.string (ofL x)) = w28 at *
              have cl0 := (blk_cell LX.out 0).trans (show _ = some (.int .i64 3) from rfl)
              have cl1 := (blk_cell LX.out 1).trans (show _ = some (.string (ofL x)) from rfl)
              have cl2 := (blk_cell LX.out 2).trans (show _ = some (.int .i64 0) from rfl)
              have cl3 := (blk_cell LX.out 3).trans (show _ = some (.int .u32 0) from rfl)
              go_wp2_with fail
              clear cl0 cl1 cl2 cl3
              replace RX := Aside0.mk (blk_alloc RX.out (.cells #[.string (ofL x)] 9 (0, 0)))
              replace LX := Aside0.mk (blk_alloc LX.out (.cells #[.string (ofL x)] 9 (0, 0)))
              replace HX := Aside0.mk (show ∀ (j : Nat) u, ((wordsB s).map Value.string)[j]? = some u → (w28.alloc (.cells #[.string (ofL x)] 9 (0, 0))).cell? ⟨gw, 0 + j, none⟩ = some u from fun j u h => pw_cell_below (below_alloc (Below.refl _ _) _) (HX.out j u h))
              replace BX := Aside0.mk (BX.out.alloc (Nat.le_of_lt (Nat.lt_of_succ_lt (blk_lt QX.out))) (.cells #[.string (ofL x)] 9 (0, 0)))
              replace QX := Aside0.mk (blk_alloc QX.out (.cells #[.string (ofL x)] 9 (0, 0)))
              have HC := Aside0.mk (blk_cell (blk_new w28 (.cells #[.string (ofL x)] 9 (0, 0))) 0)
              generalize w28.alloc (.cells #[.string (ofL x)] 9 (0, 0)) = w29 at *
              generalize w28.heap.size = gx at *
              by_cases hg : goodL x = true
              · skip
                refine (good_t x gx _ hg HC.out).mono ?_
                rintro e w30 ⟨rfl, hb⟩
                replace RX := Aside0.mk (blk_below RX.out hb)
                replace LX := Aside0.mk (blk_below LX.out hb)
                replace HX := Aside0.mk (show ∀ (j : Nat) u, ((wordsB s).map Value.string)[j]? = some u → w30.cell? ⟨gw, 0 + j, none⟩ = some u from fun j u h => pw_cell_below hb (HX.out j u h))
                replace BX := Aside0.mk (below_then BX.out (Nat.le_of_lt (Nat.lt_of_succ_lt (blk_lt QX.out))) hb)
                replace QX := Aside0.mk (blk_below QX.out hb)
                clear hb
                clear HC
                have cl0 := (blk_cell LX.out 0).trans (show _ = some (.int .i64 3) from rfl)
                have cl1 := (blk_cell LX.out 1).trans (show _ = some (.string (ofL x)) from rfl)
                have cl2 := (blk_cell LX.out 2).trans (show _ = some (.int .i64 0) from rfl)
                have cl3 := (blk_cell LX.out 3).trans (show _ = some (.int .u32 0) from rfl)
                go_upto_region 20 with (fail)
                clear cl0 cl1 cl2 cl3
                have cw2 := HX.out 2 _ (show _ = some (Value.string (ofL y)) by rw [HB.out]; rfl)
                have cl0 := (blk_cell LX.out 0).trans (show _ = some (.int .i64 3) from rfl)
                have cl1 := (blk_cell LX.out 1).trans (show _ = some (.string (ofL x)) from rfl)
                have cl2 := (blk_cell LX.out 2).trans (show _ = some (.int .i64 0) from rfl)
                have cl3 := (blk_cell LX.out 3).trans (show _ = some (.int .u32 0) from rfl)
                go_wp2_with fail
                clear cl0 cl1 cl2 cl3
                clear cw2
                cases hn2 : numVal y with
                | none =>
                  refine (numr_n hn2 _).mono ?_
                  rintro e w31 ⟨rfl, hb⟩
                  replace RX := Aside0.mk (blk_below RX.out hb)
                  replace LX := Aside0.mk (blk_below LX.out hb)
                  replace HX := Aside0.mk (show ∀ (j : Nat) u, ((wordsB s).map Value.string)[j]? = some u → w31.cell? ⟨gw, 0 + j, none⟩ = some u from fun j u h => pw_cell_below hb (HX.out j u h))
                  replace BX := Aside0.mk (below_then BX.out (Nat.le_of_lt (Nat.lt_of_succ_lt (blk_lt QX.out))) hb)
                  replace QX := Aside0.mk (blk_below QX.out hb)
                  clear hb
                  go_upto_region 21 with (fail)
                  replace RX := Aside0.mk (blk_alloc RX.out (.cells #[.int .i64 0, .bool false] 54 (0, 0)))
                  replace LX := Aside0.mk (blk_alloc LX.out (.cells #[.int .i64 0, .bool false] 54 (0, 0)))
                  replace HX := Aside0.mk (show ∀ (j : Nat) u, ((wordsB s).map Value.string)[j]? = some u → (w31.alloc (.cells #[.int .i64 0, .bool false] 54 (0, 0))).cell? ⟨gw, 0 + j, none⟩ = some u from fun j u h => pw_cell_below (below_alloc (Below.refl _ _) _) (HX.out j u h))
                  replace BX := Aside0.mk (BX.out.alloc (Nat.le_of_lt (Nat.lt_of_succ_lt (blk_lt QX.out))) (.cells #[.int .i64 0, .bool false] 54 (0, 0)))
                  replace QX := Aside0.mk (blk_alloc QX.out (.cells #[.int .i64 0, .bool false] 54 (0, 0)))
                  have NX := Aside0.mk (blk_new w31 (.cells #[.int .i64 0, .bool false] 54 (0, 0)))
                  generalize w31.alloc (.cells #[.int .i64 0, .bool false] 54 (0, 0)) = w32 at *
                  generalize w31.heap.size = bn at *
                  have cn0 := (blk_cell NX.out 0).trans (show _ = some (.int .i64 0) from rfl)
                  have cn1 := (blk_cell NX.out 1).trans (show _ = some (.bool false) from rfl)
                  have HP : Aside0 (parseF s = none) := ⟨by rw [parse_of (f := ⟨3, [109, 105, 110, 116], [65, 67, 85]⟩) hlen (by decide) (by rw [HW.out, ← hw]), if_pos (by rfl)]; simp [readAll, readF, ofL_data, hg, hw42, hn2] <;> rfl⟩
                  have cq0 := (blk_cell QX.out 0).trans (show _ = some (.int .i64 0) from rfl)
                  have cq1 := (blk_cell QX.out 1).trans (show _ = some (.string ⟨#[]⟩) from rfl)
                  have cq2 := (blk_cell QX.out 2).trans (show _ = some (.int .i64 0) from rfl)
                  have cq3 := (blk_cell QX.out 3).trans (show _ = some (.int .u32 0) from rfl)
                  have cq4 := (blk_cell QX.out 4).trans (show _ = some (.int .i64 11) from rfl)
                  have cr0 := (blk_cell RX.out 0).trans (show _ = some (.int .i64 0) from rfl)
                  have fr0 := blk_frozen RX.out 0
                  have cr1 := (blk_cell RX.out 1).trans (show _ = some (.string ⟨#[]⟩) from rfl)
                  have fr1 := blk_frozen RX.out 1
                  have cr2 := (blk_cell RX.out 2).trans (show _ = some (.int .i64 0) from rfl)
                  have fr2 := blk_frozen RX.out 2
                  have cr3 := (blk_cell RX.out 3).trans (show _ = some (.int .u32 0) from rfl)
                  have fr3 := blk_frozen RX.out 3
                  have cr4 := (blk_cell RX.out 4).trans (show _ = some (.int .i64 0) from rfl)
                  have fr4 := blk_frozen RX.out 4
                  go_wp2_with fail
                  refine bodyPost_ret (results_cell_row rfl _ _ rb 31 #[.int .i64 0, .string ⟨#[]⟩, .int .i64 0, .int .u32 0, .int .i64 11] (0, 0) _ rfl (blk_put (blk_put (blk_put (blk_put (blk_put (RX.out) 0 (.int .i64 0) rfl) 1 (.string ⟨#[]⟩) rfl) 2 (.int .i64 0) rfl) 3 (.int .u32 0) rfl) 4 (.int .i64 11) rfl) Tryd.underlying31 rfl (by kernel_rfl)) rfl ⟨?_, by first | exact (((((BX.out.setCell (p := ⟨rb, 0, none⟩) (Nat.le_refl _) _).setCell (p := ⟨rb, 1, none⟩) (Nat.le_refl _) _).setCell (p := ⟨rb, 2, none⟩) (Nat.le_refl _) _).setCell (p := ⟨rb, 3, none⟩) (Nat.le_refl _) _).setCell (p := ⟨rb, 4, none⟩) (Nat.le_refl _) _) | (rw [hrb]; exact (((((BX.out.setCell (p := ⟨rb, 0, none⟩) (Nat.le_refl _) _).setCell (p := ⟨rb, 1, none⟩) (Nat.le_refl _) _).setCell (p := ⟨rb, 2, none⟩) (Nat.le_refl _) _).setCell (p := ⟨rb, 3, none⟩) (Nat.le_refl _) _).setCell (p := ⟨rb, 4, none⟩) (Nat.le_refl _) _))⟩
                  rw [HP.out]; rfl
                | some u2 =>
                  refine (numr_s hn2 _).mono ?_
                  rintro e w33 ⟨rfl, hb⟩
                  replace RX := Aside0.mk (blk_below RX.out hb)
                  replace LX := Aside0.mk (blk_below LX.out hb)
                  replace HX := Aside0.mk (show ∀ (j : Nat) u, ((wordsB s).map Value.string)[j]? = some u → w33.cell? ⟨gw, 0 + j, none⟩ = some u from fun j u h => pw_cell_below hb (HX.out j u h))
                  replace BX := Aside0.mk (below_then BX.out (Nat.le_of_lt (Nat.lt_of_succ_lt (blk_lt QX.out))) hb)
                  replace QX := Aside0.mk (blk_below QX.out hb)
                  clear hb
                  go_upto_region 21 with (fail)
                  replace RX := Aside0.mk (blk_alloc RX.out (.cells #[.int .i64 (u2 : Int), .bool true] 54 (0, 0)))
                  replace LX := Aside0.mk (blk_alloc LX.out (.cells #[.int .i64 (u2 : Int), .bool true] 54 (0, 0)))
                  replace HX := Aside0.mk (show ∀ (j : Nat) u, ((wordsB s).map Value.string)[j]? = some u → (w33.alloc (.cells #[.int .i64 (u2 : Int), .bool true] 54 (0, 0))).cell? ⟨gw, 0 + j, none⟩ = some u from fun j u h => pw_cell_below (below_alloc (Below.refl _ _) _) (HX.out j u h))
                  replace BX := Aside0.mk (BX.out.alloc (Nat.le_of_lt (Nat.lt_of_succ_lt (blk_lt QX.out))) (.cells #[.int .i64 (u2 : Int), .bool true] 54 (0, 0)))
                  replace QX := Aside0.mk (blk_alloc QX.out (.cells #[.int .i64 (u2 : Int), .bool true] 54 (0, 0)))
                  have NX := Aside0.mk (blk_new w33 (.cells #[.int .i64 (u2 : Int), .bool true] 54 (0, 0)))
                  generalize w33.alloc (.cells #[.int .i64 (u2 : Int), .bool true] 54 (0, 0)) = w34 at *
                  generalize w33.heap.size = bn at *
                  have cn0 := (blk_cell NX.out 0).trans (show _ = some (.int .i64 (u2 : Int)) from rfl)
                  have cn1 := (blk_cell NX.out 1).trans (show _ = some (.bool true) from rfl)
                  have cl0 := (blk_cell LX.out 0).trans (show _ = some (.int .i64 3) from rfl)
                  have fl0 := blk_frozen LX.out 0
                  have cl1 := (blk_cell LX.out 1).trans (show _ = some (.string (ofL x)) from rfl)
                  have fl1 := blk_frozen LX.out 1
                  have cl2 := (blk_cell LX.out 2).trans (show _ = some (.int .i64 0) from rfl)
                  have fl2 := blk_frozen LX.out 2
                  have cl3 := (blk_cell LX.out 3).trans (show _ = some (.int .u32 0) from rfl)
                  have fl3 := blk_frozen LX.out 3
                  go_upto_region 24 with (fail)
                  clear cl0 cl1 cl2 cl3 fl0 fl1 fl2 fl3
                  clear cn0 cn1
                  clear NX
                  replace RX := Aside0.mk (blk_far RX.out (p := ⟨lb, 2, none⟩) (by have := RL.out; show rb ≠ lb; omega) (.int .i64 (u2 : Int)))
                  replace QX := Aside0.mk (blk_far QX.out (p := ⟨lb, 2, none⟩) (by have := RL.out; show rb + 1 ≠ lb; omega) (.int .i64 (u2 : Int)))
                  replace LX := Aside0.mk (blk_put LX.out 2 (.int .i64 (u2 : Int)) rfl)
                  replace HX := Aside0.mk (show ∀ (j : Nat) u, ((wordsB s).map Value.string)[j]? = some u → (w34.setCell ⟨lb, 2, none⟩ (.int .i64 (u2 : Int))).cell? ⟨gw, 0 + j, none⟩ = some u from fun j u h => (cell_far (show gw ≠ lb by omega) _).trans (HX.out j u h))
                  replace BX := Aside0.mk (BX.out.setCell (p := ⟨lb, 2, none⟩) (by have := RL.out; show rb ≤ lb; omega) (.int .i64 (u2 : Int)))
                  generalize w34.setCell ⟨lb, 2, none⟩ (.int .i64 (u2 : Int)) = w35 at *
                  have cl0 := (blk_cell LX.out 0).trans (show _ = some (.int .i64 3) from rfl)
                  have cl1 := (blk_cell LX.out 1).trans (show _ = some (.string (ofL x)) from rfl)
                  have cl2 := (blk_cell LX.out 2).trans (show _ = some (.int .i64 (u2 : Int)) from rfl)
                  have cl3 := (blk_cell LX.out 3).trans (show _ = some (.int .u32 0) from rfl)
                  go_upto_region 25 with (fail)
                  clear cl0 cl1 cl2 cl3
                  have cw3 := HX.out 3 _ (show _ = some (Value.string (ofL z)) by rw [HB.out]; rfl)
                  have cl0 := (blk_cell LX.out 0).trans (show _ = some (.int .i64 3) from rfl)
                  have cl1 := (blk_cell LX.out 1).trans (show _ = some (.string (ofL x)) from rfl)
                  have cl2 := (blk_cell LX.out 2).trans (show _ = some (.int .i64 (u2 : Int)) from rfl)
                  have cl3 := (blk_cell LX.out 3).trans (show _ = some (.int .u32 0) from rfl)
                  go_wp2_with fail
                  clear cl0 cl1 cl2 cl3
                  clear cw3
                  cases hn3 : numVal z with
                  | none =>
                    refine (numr_n hn3 _).mono ?_
                    rintro e w36 ⟨rfl, hb⟩
                    replace RX := Aside0.mk (blk_below RX.out hb)
                    replace LX := Aside0.mk (blk_below LX.out hb)
                    replace HX := Aside0.mk (show ∀ (j : Nat) u, ((wordsB s).map Value.string)[j]? = some u → w36.cell? ⟨gw, 0 + j, none⟩ = some u from fun j u h => pw_cell_below hb (HX.out j u h))
                    replace BX := Aside0.mk (below_then BX.out (Nat.le_of_lt (Nat.lt_of_succ_lt (blk_lt QX.out))) hb)
                    replace QX := Aside0.mk (blk_below QX.out hb)
                    clear hb
                    go_upto_region 26 with (fail)
                    replace RX := Aside0.mk (blk_alloc RX.out (.cells #[.int .i64 0, .bool false] 54 (0, 0)))
                    replace LX := Aside0.mk (blk_alloc LX.out (.cells #[.int .i64 0, .bool false] 54 (0, 0)))
                    replace HX := Aside0.mk (show ∀ (j : Nat) u, ((wordsB s).map Value.string)[j]? = some u → (w36.alloc (.cells #[.int .i64 0, .bool false] 54 (0, 0))).cell? ⟨gw, 0 + j, none⟩ = some u from fun j u h => pw_cell_below (below_alloc (Below.refl _ _) _) (HX.out j u h))
                    replace BX := Aside0.mk (BX.out.alloc (Nat.le_of_lt (Nat.lt_of_succ_lt (blk_lt QX.out))) (.cells #[.int .i64 0, .bool false] 54 (0, 0)))
                    replace QX := Aside0.mk (blk_alloc QX.out (.cells #[.int .i64 0, .bool false] 54 (0, 0)))
                    have NX := Aside0.mk (blk_new w36 (.cells #[.int .i64 0, .bool false] 54 (0, 0)))
                    generalize w36.alloc (.cells #[.int .i64 0, .bool false] 54 (0, 0)) = w37 at *
                    generalize w36.heap.size = bn at *
                    have cn0 := (blk_cell NX.out 0).trans (show _ = some (.int .i64 0) from rfl)
                    have cn1 := (blk_cell NX.out 1).trans (show _ = some (.bool false) from rfl)
                    have HP : Aside0 (parseF s = none) := ⟨by rw [parse_of (f := ⟨3, [109, 105, 110, 116], [65, 67, 85]⟩) hlen (by decide) (by rw [HW.out, ← hw]), if_pos (by rfl)]; simp [readAll, readF, ofL_data, hg, hw42, hn2, hn3] <;> rfl⟩
                    have cq0 := (blk_cell QX.out 0).trans (show _ = some (.int .i64 0) from rfl)
                    have cq1 := (blk_cell QX.out 1).trans (show _ = some (.string ⟨#[]⟩) from rfl)
                    have cq2 := (blk_cell QX.out 2).trans (show _ = some (.int .i64 0) from rfl)
                    have cq3 := (blk_cell QX.out 3).trans (show _ = some (.int .u32 0) from rfl)
                    have cq4 := (blk_cell QX.out 4).trans (show _ = some (.int .i64 11) from rfl)
                    have cr0 := (blk_cell RX.out 0).trans (show _ = some (.int .i64 0) from rfl)
                    have fr0 := blk_frozen RX.out 0
                    have cr1 := (blk_cell RX.out 1).trans (show _ = some (.string ⟨#[]⟩) from rfl)
                    have fr1 := blk_frozen RX.out 1
                    have cr2 := (blk_cell RX.out 2).trans (show _ = some (.int .i64 0) from rfl)
                    have fr2 := blk_frozen RX.out 2
                    have cr3 := (blk_cell RX.out 3).trans (show _ = some (.int .u32 0) from rfl)
                    have fr3 := blk_frozen RX.out 3
                    have cr4 := (blk_cell RX.out 4).trans (show _ = some (.int .i64 0) from rfl)
                    have fr4 := blk_frozen RX.out 4
                    go_wp2_with fail
                    refine bodyPost_ret (results_cell_row rfl _ _ rb 31 #[.int .i64 0, .string ⟨#[]⟩, .int .i64 0, .int .u32 0, .int .i64 11] (0, 0) _ rfl (blk_put (blk_put (blk_put (blk_put (blk_put (RX.out) 0 (.int .i64 0) rfl) 1 (.string ⟨#[]⟩) rfl) 2 (.int .i64 0) rfl) 3 (.int .u32 0) rfl) 4 (.int .i64 11) rfl) Tryd.underlying31 rfl (by kernel_rfl)) rfl ⟨?_, by first | exact (((((BX.out.setCell (p := ⟨rb, 0, none⟩) (Nat.le_refl _) _).setCell (p := ⟨rb, 1, none⟩) (Nat.le_refl _) _).setCell (p := ⟨rb, 2, none⟩) (Nat.le_refl _) _).setCell (p := ⟨rb, 3, none⟩) (Nat.le_refl _) _).setCell (p := ⟨rb, 4, none⟩) (Nat.le_refl _) _) | (rw [hrb]; exact (((((BX.out.setCell (p := ⟨rb, 0, none⟩) (Nat.le_refl _) _).setCell (p := ⟨rb, 1, none⟩) (Nat.le_refl _) _).setCell (p := ⟨rb, 2, none⟩) (Nat.le_refl _) _).setCell (p := ⟨rb, 3, none⟩) (Nat.le_refl _) _).setCell (p := ⟨rb, 4, none⟩) (Nat.le_refl _) _))⟩
                    rw [HP.out]; rfl
                  | some u3 =>
                    refine (numr_s hn3 _).mono ?_
                    rintro e w38 ⟨rfl, hb⟩
                    replace RX := Aside0.mk (blk_below RX.out hb)
                    replace LX := Aside0.mk (blk_below LX.out hb)
                    replace HX := Aside0.mk (show ∀ (j : Nat) u, ((wordsB s).map Value.string)[j]? = some u → w38.cell? ⟨gw, 0 + j, none⟩ = some u from fun j u h => pw_cell_below hb (HX.out j u h))
                    replace BX := Aside0.mk (below_then BX.out (Nat.le_of_lt (Nat.lt_of_succ_lt (blk_lt QX.out))) hb)
                    replace QX := Aside0.mk (blk_below QX.out hb)
                    clear hb
                    go_upto_region 26 with (fail)
                    replace RX := Aside0.mk (blk_alloc RX.out (.cells #[.int .i64 (u3 : Int), .bool true] 54 (0, 0)))
                    replace LX := Aside0.mk (blk_alloc LX.out (.cells #[.int .i64 (u3 : Int), .bool true] 54 (0, 0)))
                    replace HX := Aside0.mk (show ∀ (j : Nat) u, ((wordsB s).map Value.string)[j]? = some u → (w38.alloc (.cells #[.int .i64 (u3 : Int), .bool true] 54 (0, 0))).cell? ⟨gw, 0 + j, none⟩ = some u from fun j u h => pw_cell_below (below_alloc (Below.refl _ _) _) (HX.out j u h))
                    replace BX := Aside0.mk (BX.out.alloc (Nat.le_of_lt (Nat.lt_of_succ_lt (blk_lt QX.out))) (.cells #[.int .i64 (u3 : Int), .bool true] 54 (0, 0)))
                    replace QX := Aside0.mk (blk_alloc QX.out (.cells #[.int .i64 (u3 : Int), .bool true] 54 (0, 0)))
                    have NX := Aside0.mk (blk_new w38 (.cells #[.int .i64 (u3 : Int), .bool true] 54 (0, 0)))
                    generalize w38.alloc (.cells #[.int .i64 (u3 : Int), .bool true] 54 (0, 0)) = w39 at *
                    generalize w38.heap.size = bn at *
                    have cn0 := (blk_cell NX.out 0).trans (show _ = some (.int .i64 (u3 : Int)) from rfl)
                    have cn1 := (blk_cell NX.out 1).trans (show _ = some (.bool true) from rfl)
                    have hcv : IntKind.u32.wrap (u3 : Int) = (u3 : Int) := by rw [show IntKind.u32.wrap (u3 : Int) = (u3 : Int) % 4294967296 from rfl]; have := num_le hn3; omega
                    have hcv2 : (u3 : Int) % 4294967296 = (u3 : Int) := by have := num_le hn3; omega
                    have cl0 := (blk_cell LX.out 0).trans (show _ = some (.int .i64 3) from rfl)
                    have fl0 := blk_frozen LX.out 0
                    have cl1 := (blk_cell LX.out 1).trans (show _ = some (.string (ofL x)) from rfl)
                    have fl1 := blk_frozen LX.out 1
                    have cl2 := (blk_cell LX.out 2).trans (show _ = some (.int .i64 (u2 : Int)) from rfl)
                    have fl2 := blk_frozen LX.out 2
                    have cl3 := (blk_cell LX.out 3).trans (show _ = some (.int .u32 0) from rfl)
                    have fl3 := blk_frozen LX.out 3
                    go_upto_region 29 with (fail)
                    clear cl0 cl1 cl2 cl3 fl0 fl1 fl2 fl3
                    clear cn0 cn1
                    clear NX
                    replace RX := Aside0.mk (blk_far RX.out (p := ⟨lb, 3, none⟩) (by have := RL.out; show rb ≠ lb; omega) (.int .u32 (u3 : Int)))
                    replace QX := Aside0.mk (blk_far QX.out (p := ⟨lb, 3, none⟩) (by have := RL.out; show rb + 1 ≠ lb; omega) (.int .u32 (u3 : Int)))
                    replace LX := Aside0.mk (blk_put LX.out 3 (.int .u32 (u3 : Int)) rfl)
                    replace HX := Aside0.mk (show ∀ (j : Nat) u, ((wordsB s).map Value.string)[j]? = some u → (w39.setCell ⟨lb, 3, none⟩ (.int .u32 (u3 : Int))).cell? ⟨gw, 0 + j, none⟩ = some u from fun j u h => (cell_far (show gw ≠ lb by omega) _).trans (HX.out j u h))
                    replace BX := Aside0.mk (BX.out.setCell (p := ⟨lb, 3, none⟩) (by have := RL.out; show rb ≤ lb; omega) (.int .u32 (u3 : Int)))
                    generalize w39.setCell ⟨lb, 3, none⟩ (.int .u32 (u3 : Int)) = w40 at *
                    have HP : Aside0 (parseF s = some ⟨3, ofL x, (u2 : Int), (u3 : Int)⟩) := ⟨by rw [parse_of (f := ⟨3, [109, 105, 110, 116], [65, 67, 85]⟩) hlen (by decide) (by rw [HW.out, ← hw]), if_pos (by rfl)]; simp [readAll, readF, ofL_data, hg, hw42, hn2, hn3] <;> rfl⟩
                    have cl0 := (blk_cell LX.out 0).trans (show _ = some (.int .i64 3) from rfl)
                    have cl1 := (blk_cell LX.out 1).trans (show _ = some (.string (ofL x)) from rfl)
                    have cl2 := (blk_cell LX.out 2).trans (show _ = some (.int .i64 (u2 : Int)) from rfl)
                    have cl3 := (blk_cell LX.out 3).trans (show _ = some (.int .u32 (u3 : Int)) from rfl)
                    have cr0 := (blk_cell RX.out 0).trans (show _ = some (.int .i64 0) from rfl)
                    have fr0 := blk_frozen RX.out 0
                    have cr1 := (blk_cell RX.out 1).trans (show _ = some (.string ⟨#[]⟩) from rfl)
                    have fr1 := blk_frozen RX.out 1
                    have cr2 := (blk_cell RX.out 2).trans (show _ = some (.int .i64 0) from rfl)
                    have fr2 := blk_frozen RX.out 2
                    have cr3 := (blk_cell RX.out 3).trans (show _ = some (.int .u32 0) from rfl)
                    have fr3 := blk_frozen RX.out 3
                    have cr4 := (blk_cell RX.out 4).trans (show _ = some (.int .i64 0) from rfl)
                    have fr4 := blk_frozen RX.out 4
                    go_wp2_with fail
                    refine bodyPost_ret (results_cell_row rfl _ _ rb 31 #[.int .i64 3, .string (ofL x), .int .i64 (u2 : Int), .int .u32 (u3 : Int), .int .i64 0] (0, 0) _ rfl (blk_put (blk_put (blk_put (blk_put (blk_put (RX.out) 0 (.int .i64 3) rfl) 1 (.string (ofL x)) rfl) 2 (.int .i64 (u2 : Int)) rfl) 3 (.int .u32 (u3 : Int)) rfl) 4 (.int .i64 0) rfl) Tryd.underlying31 rfl (by kernel_rfl)) rfl ⟨?_, by first | exact (((((BX.out.setCell (p := ⟨rb, 0, none⟩) (Nat.le_refl _) _).setCell (p := ⟨rb, 1, none⟩) (Nat.le_refl _) _).setCell (p := ⟨rb, 2, none⟩) (Nat.le_refl _) _).setCell (p := ⟨rb, 3, none⟩) (Nat.le_refl _) _).setCell (p := ⟨rb, 4, none⟩) (Nat.le_refl _) _) | (rw [hrb]; exact (((((BX.out.setCell (p := ⟨rb, 0, none⟩) (Nat.le_refl _) _).setCell (p := ⟨rb, 1, none⟩) (Nat.le_refl _) _).setCell (p := ⟨rb, 2, none⟩) (Nat.le_refl _) _).setCell (p := ⟨rb, 3, none⟩) (Nat.le_refl _) _).setCell (p := ⟨rb, 4, none⟩) (Nat.le_refl _) _))⟩
                    rw [HP.out]; rfl
              · skip
                have hg : goodL x = false := by simpa using hg
                refine (good_f x gx _ hg HC.out).mono ?_
                rintro e w41 ⟨rfl, hb⟩
                replace RX := Aside0.mk (blk_below RX.out hb)
                replace LX := Aside0.mk (blk_below LX.out hb)
                replace HX := Aside0.mk (show ∀ (j : Nat) u, ((wordsB s).map Value.string)[j]? = some u → w41.cell? ⟨gw, 0 + j, none⟩ = some u from fun j u h => pw_cell_below hb (HX.out j u h))
                replace BX := Aside0.mk (below_then BX.out (Nat.le_of_lt (Nat.lt_of_succ_lt (blk_lt QX.out))) hb)
                replace QX := Aside0.mk (blk_below QX.out hb)
                clear hb
                clear HC
                have HP : Aside0 (parseF s = none) := ⟨by rw [parse_of (f := ⟨3, [109, 105, 110, 116], [65, 67, 85]⟩) hlen (by decide) (by rw [HW.out, ← hw]), if_pos (by rfl)]; simp [readAll, readF, ofL_data, hg, hw42] <;> rfl⟩
                have cq0 := (blk_cell QX.out 0).trans (show _ = some (.int .i64 0) from rfl)
                have cq1 := (blk_cell QX.out 1).trans (show _ = some (.string ⟨#[]⟩) from rfl)
                have cq2 := (blk_cell QX.out 2).trans (show _ = some (.int .i64 0) from rfl)
                have cq3 := (blk_cell QX.out 3).trans (show _ = some (.int .u32 0) from rfl)
                have cq4 := (blk_cell QX.out 4).trans (show _ = some (.int .i64 11) from rfl)
                have cr0 := (blk_cell RX.out 0).trans (show _ = some (.int .i64 0) from rfl)
                have fr0 := blk_frozen RX.out 0
                have cr1 := (blk_cell RX.out 1).trans (show _ = some (.string ⟨#[]⟩) from rfl)
                have fr1 := blk_frozen RX.out 1
                have cr2 := (blk_cell RX.out 2).trans (show _ = some (.int .i64 0) from rfl)
                have fr2 := blk_frozen RX.out 2
                have cr3 := (blk_cell RX.out 3).trans (show _ = some (.int .u32 0) from rfl)
                have fr3 := blk_frozen RX.out 3
                have cr4 := (blk_cell RX.out 4).trans (show _ = some (.int .i64 0) from rfl)
                have fr4 := blk_frozen RX.out 4
                go_wp2_with fail
                refine bodyPost_ret (results_cell_row rfl _ _ rb 31 #[.int .i64 0, .string ⟨#[]⟩, .int .i64 0, .int .u32 0, .int .i64 11] (0, 0) _ rfl (blk_put (blk_put (blk_put (blk_put (blk_put (RX.out) 0 (.int .i64 0) rfl) 1 (.string ⟨#[]⟩) rfl) 2 (.int .i64 0) rfl) 3 (.int .u32 0) rfl) 4 (.int .i64 11) rfl) Tryd.underlying31 rfl (by kernel_rfl)) rfl ⟨?_, by first | exact (((((BX.out.setCell (p := ⟨rb, 0, none⟩) (Nat.le_refl _) _).setCell (p := ⟨rb, 1, none⟩) (Nat.le_refl _) _).setCell (p := ⟨rb, 2, none⟩) (Nat.le_refl _) _).setCell (p := ⟨rb, 3, none⟩) (Nat.le_refl _) _).setCell (p := ⟨rb, 4, none⟩) (Nat.le_refl _) _) | (rw [hrb]; exact (((((BX.out.setCell (p := ⟨rb, 0, none⟩) (Nat.le_refl _) _).setCell (p := ⟨rb, 1, none⟩) (Nat.le_refl _) _).setCell (p := ⟨rb, 2, none⟩) (Nat.le_refl _) _).setCell (p := ⟨rb, 3, none⟩) (Nat.le_refl _) _).setCell (p := ⟨rb, 4, none⟩) (Nat.le_refl _) _))⟩
                rw [HP.out]; rfl
          · skip
            obtain rfl := len0 hl
            replace LX : Aside0 (w4.heap[lb]? = some (.cells #[.int .i64 4, .string ⟨#[]⟩, .int .i64 0, .int .u32 0] 29 (0, 0))) := LX
            clear hl hcw hL
            have HP : Aside0 (parseF s = some ⟨4, ⟨#[]⟩, 0, 0⟩) := ⟨by rw [parse_of (f := ⟨4, [114, 101, 118, 111, 107, 101], []⟩) hlen (by decide) (by rw [HW.out, ← hw]), if_pos (by rfl)]; simp [readAll, readF, ofL_data] <;> rfl⟩
            have cl0 := (blk_cell LX.out 0).trans (show _ = some (.int .i64 4) from rfl)
            have cl1 := (blk_cell LX.out 1).trans (show _ = some (.string ⟨#[]⟩) from rfl)
            have cl2 := (blk_cell LX.out 2).trans (show _ = some (.int .i64 0) from rfl)
            have cl3 := (blk_cell LX.out 3).trans (show _ = some (.int .u32 0) from rfl)
            have cr0 := (blk_cell RX.out 0).trans (show _ = some (.int .i64 0) from rfl)
            have fr0 := blk_frozen RX.out 0
            have cr1 := (blk_cell RX.out 1).trans (show _ = some (.string ⟨#[]⟩) from rfl)
            have fr1 := blk_frozen RX.out 1
            have cr2 := (blk_cell RX.out 2).trans (show _ = some (.int .i64 0) from rfl)
            have fr2 := blk_frozen RX.out 2
            have cr3 := (blk_cell RX.out 3).trans (show _ = some (.int .u32 0) from rfl)
            have fr3 := blk_frozen RX.out 3
            have cr4 := (blk_cell RX.out 4).trans (show _ = some (.int .i64 0) from rfl)
            have fr4 := blk_frozen RX.out 4
            go_wp2_with fail
            refine bodyPost_ret (results_cell_row rfl _ _ rb 31 #[.int .i64 4, .string ⟨#[]⟩, .int .i64 0, .int .u32 0, .int .i64 0] (0, 0) _ rfl (blk_put (blk_put (blk_put (blk_put (blk_put (RX.out) 0 (.int .i64 4) rfl) 1 (.string ⟨#[]⟩) rfl) 2 (.int .i64 0) rfl) 3 (.int .u32 0) rfl) 4 (.int .i64 0) rfl) Tryd.underlying31 rfl (by kernel_rfl)) rfl ⟨?_, by first | exact (((((BX.out.setCell (p := ⟨rb, 0, none⟩) (Nat.le_refl _) _).setCell (p := ⟨rb, 1, none⟩) (Nat.le_refl _) _).setCell (p := ⟨rb, 2, none⟩) (Nat.le_refl _) _).setCell (p := ⟨rb, 3, none⟩) (Nat.le_refl _) _).setCell (p := ⟨rb, 4, none⟩) (Nat.le_refl _) _) | (rw [hrb]; exact (((((BX.out.setCell (p := ⟨rb, 0, none⟩) (Nat.le_refl _) _).setCell (p := ⟨rb, 1, none⟩) (Nat.le_refl _) _).setCell (p := ⟨rb, 2, none⟩) (Nat.le_refl _) _).setCell (p := ⟨rb, 3, none⟩) (Nat.le_refl _) _).setCell (p := ⟨rb, 4, none⟩) (Nat.le_refl _) _))⟩
            rw [HP.out]; rfl
          · skip
            obtain ⟨x, rfl⟩ := len1 hl
            replace LX : Aside0 (w4.heap[lb]? = some (.cells #[.int .i64 5, .string ⟨#[]⟩, .int .i64 0, .int .u32 0] 29 (0, 0))) := LX
            clear hl hcw hL
            have cl0 := (blk_cell LX.out 0).trans (show _ = some (.int .i64 5) from rfl)
            have cl1 := (blk_cell LX.out 1).trans (show _ = some (.string ⟨#[]⟩) from rfl)
            have cl2 := (blk_cell LX.out 2).trans (show _ = some (.int .i64 0) from rfl)
            have cl3 := (blk_cell LX.out 3).trans (show _ = some (.int .u32 0) from rfl)
            go_upto_region 31 with (fail)
            clear cl0 cl1 cl2 cl3
            have cw1 := HX.out 1 _ (show _ = some (Value.string (ofL x)) by rw [HB.out]; rfl)
            have cl0 := (blk_cell LX.out 0).trans (show _ = some (.int .i64 5) from rfl)
            have cl1 := (blk_cell LX.out 1).trans (show _ = some (.string ⟨#[]⟩) from rfl)
            have cl2 := (blk_cell LX.out 2).trans (show _ = some (.int .i64 0) from rfl)
            have cl3 := (blk_cell LX.out 3).trans (show _ = some (.int .u32 0) from rfl)
            go_wp2_with fail
            clear cl0 cl1 cl2 cl3
            clear cw1
            cases hn2 : numVal x with
            | none =>
              refine (numr_n hn2 _).mono ?_
              rintro e w42 ⟨rfl, hb⟩
              replace RX := Aside0.mk (blk_below RX.out hb)
              replace LX := Aside0.mk (blk_below LX.out hb)
              replace HX := Aside0.mk (show ∀ (j : Nat) u, ((wordsB s).map Value.string)[j]? = some u → w42.cell? ⟨gw, 0 + j, none⟩ = some u from fun j u h => pw_cell_below hb (HX.out j u h))
              replace BX := Aside0.mk (below_then BX.out (Nat.le_of_lt (Nat.lt_of_succ_lt (blk_lt QX.out))) hb)
              replace QX := Aside0.mk (blk_below QX.out hb)
              clear hb
              go_upto_region 32 with (fail)
              replace RX := Aside0.mk (blk_alloc RX.out (.cells #[.int .i64 0, .bool false] 54 (0, 0)))
              replace LX := Aside0.mk (blk_alloc LX.out (.cells #[.int .i64 0, .bool false] 54 (0, 0)))
              replace HX := Aside0.mk (show ∀ (j : Nat) u, ((wordsB s).map Value.string)[j]? = some u → (w42.alloc (.cells #[.int .i64 0, .bool false] 54 (0, 0))).cell? ⟨gw, 0 + j, none⟩ = some u from fun j u h => pw_cell_below (below_alloc (Below.refl _ _) _) (HX.out j u h))
              replace BX := Aside0.mk (BX.out.alloc (Nat.le_of_lt (Nat.lt_of_succ_lt (blk_lt QX.out))) (.cells #[.int .i64 0, .bool false] 54 (0, 0)))
              replace QX := Aside0.mk (blk_alloc QX.out (.cells #[.int .i64 0, .bool false] 54 (0, 0)))
              have NX := Aside0.mk (blk_new w42 (.cells #[.int .i64 0, .bool false] 54 (0, 0)))
              generalize w42.alloc (.cells #[.int .i64 0, .bool false] 54 (0, 0)) = w43 at *
              generalize w42.heap.size = bn at *
              have cn0 := (blk_cell NX.out 0).trans (show _ = some (.int .i64 0) from rfl)
              have cn1 := (blk_cell NX.out 1).trans (show _ = some (.bool false) from rfl)
              have HP : Aside0 (parseF s = none) := ⟨by rw [parse_of (f := ⟨5, [112, 114, 111, 109, 111, 116, 101], [67]⟩) hlen (by decide) (by rw [HW.out, ← hw]), if_pos (by rfl)]; simp [readAll, readF, ofL_data, hn2] <;> rfl⟩
              have cq0 := (blk_cell QX.out 0).trans (show _ = some (.int .i64 0) from rfl)
              have cq1 := (blk_cell QX.out 1).trans (show _ = some (.string ⟨#[]⟩) from rfl)
              have cq2 := (blk_cell QX.out 2).trans (show _ = some (.int .i64 0) from rfl)
              have cq3 := (blk_cell QX.out 3).trans (show _ = some (.int .u32 0) from rfl)
              have cq4 := (blk_cell QX.out 4).trans (show _ = some (.int .i64 11) from rfl)
              have cr0 := (blk_cell RX.out 0).trans (show _ = some (.int .i64 0) from rfl)
              have fr0 := blk_frozen RX.out 0
              have cr1 := (blk_cell RX.out 1).trans (show _ = some (.string ⟨#[]⟩) from rfl)
              have fr1 := blk_frozen RX.out 1
              have cr2 := (blk_cell RX.out 2).trans (show _ = some (.int .i64 0) from rfl)
              have fr2 := blk_frozen RX.out 2
              have cr3 := (blk_cell RX.out 3).trans (show _ = some (.int .u32 0) from rfl)
              have fr3 := blk_frozen RX.out 3
              have cr4 := (blk_cell RX.out 4).trans (show _ = some (.int .i64 0) from rfl)
              have fr4 := blk_frozen RX.out 4
              go_wp2_with fail
              refine bodyPost_ret (results_cell_row rfl _ _ rb 31 #[.int .i64 0, .string ⟨#[]⟩, .int .i64 0, .int .u32 0, .int .i64 11] (0, 0) _ rfl (blk_put (blk_put (blk_put (blk_put (blk_put (RX.out) 0 (.int .i64 0) rfl) 1 (.string ⟨#[]⟩) rfl) 2 (.int .i64 0) rfl) 3 (.int .u32 0) rfl) 4 (.int .i64 11) rfl) Tryd.underlying31 rfl (by kernel_rfl)) rfl ⟨?_, by first | exact (((((BX.out.setCell (p := ⟨rb, 0, none⟩) (Nat.le_refl _) _).setCell (p := ⟨rb, 1, none⟩) (Nat.le_refl _) _).setCell (p := ⟨rb, 2, none⟩) (Nat.le_refl _) _).setCell (p := ⟨rb, 3, none⟩) (Nat.le_refl _) _).setCell (p := ⟨rb, 4, none⟩) (Nat.le_refl _) _) | (rw [hrb]; exact (((((BX.out.setCell (p := ⟨rb, 0, none⟩) (Nat.le_refl _) _).setCell (p := ⟨rb, 1, none⟩) (Nat.le_refl _) _).setCell (p := ⟨rb, 2, none⟩) (Nat.le_refl _) _).setCell (p := ⟨rb, 3, none⟩) (Nat.le_refl _) _).setCell (p := ⟨rb, 4, none⟩) (Nat.le_refl _) _))⟩
              rw [HP.out]; rfl
            | some u2 =>
              refine (numr_s hn2 _).mono ?_
              rintro e w44 ⟨rfl, hb⟩
              replace RX := Aside0.mk (blk_below RX.out hb)
              replace LX := Aside0.mk (blk_below LX.out hb)
              replace HX := Aside0.mk (show ∀ (j : Nat) u, ((wordsB s).map Value.string)[j]? = some u → w44.cell? ⟨gw, 0 + j, none⟩ = some u from fun j u h => pw_cell_below hb (HX.out j u h))
              replace BX := Aside0.mk (below_then BX.out (Nat.le_of_lt (Nat.lt_of_succ_lt (blk_lt QX.out))) hb)
              replace QX := Aside0.mk (blk_below QX.out hb)
              clear hb
              go_upto_region 32 with (fail)
              replace RX := Aside0.mk (blk_alloc RX.out (.cells #[.int .i64 (u2 : Int), .bool true] 54 (0, 0)))
              replace LX := Aside0.mk (blk_alloc LX.out (.cells #[.int .i64 (u2 : Int), .bool true] 54 (0, 0)))
              replace HX := Aside0.mk (show ∀ (j : Nat) u, ((wordsB s).map Value.string)[j]? = some u → (w44.alloc (.cells #[.int .i64 (u2 : Int), .bool true] 54 (0, 0))).cell? ⟨gw, 0 + j, none⟩ = some u from fun j u h => pw_cell_below (below_alloc (Below.refl _ _) _) (HX.out j u h))
              replace BX := Aside0.mk (BX.out.alloc (Nat.le_of_lt (Nat.lt_of_succ_lt (blk_lt QX.out))) (.cells #[.int .i64 (u2 : Int), .bool true] 54 (0, 0)))
              replace QX := Aside0.mk (blk_alloc QX.out (.cells #[.int .i64 (u2 : Int), .bool true] 54 (0, 0)))
              have NX := Aside0.mk (blk_new w44 (.cells #[.int .i64 (u2 : Int), .bool true] 54 (0, 0)))
              generalize w44.alloc (.cells #[.int .i64 (u2 : Int), .bool true] 54 (0, 0)) = w45 at *
              generalize w44.heap.size = bn at *
              have cn0 := (blk_cell NX.out 0).trans (show _ = some (.int .i64 (u2 : Int)) from rfl)
              have cn1 := (blk_cell NX.out 1).trans (show _ = some (.bool true) from rfl)
              have cl0 := (blk_cell LX.out 0).trans (show _ = some (.int .i64 5) from rfl)
              have fl0 := blk_frozen LX.out 0
              have cl1 := (blk_cell LX.out 1).trans (show _ = some (.string ⟨#[]⟩) from rfl)
              have fl1 := blk_frozen LX.out 1
              have cl2 := (blk_cell LX.out 2).trans (show _ = some (.int .i64 0) from rfl)
              have fl2 := blk_frozen LX.out 2
              have cl3 := (blk_cell LX.out 3).trans (show _ = some (.int .u32 0) from rfl)
              have fl3 := blk_frozen LX.out 3
              go_upto_region 35 with (fail)
              clear cl0 cl1 cl2 cl3 fl0 fl1 fl2 fl3
              clear cn0 cn1
              clear NX
              replace RX := Aside0.mk (blk_far RX.out (p := ⟨lb, 2, none⟩) (by have := RL.out; show rb ≠ lb; omega) (.int .i64 (u2 : Int)))
              replace QX := Aside0.mk (blk_far QX.out (p := ⟨lb, 2, none⟩) (by have := RL.out; show rb + 1 ≠ lb; omega) (.int .i64 (u2 : Int)))
              replace LX := Aside0.mk (blk_put LX.out 2 (.int .i64 (u2 : Int)) rfl)
              replace HX := Aside0.mk (show ∀ (j : Nat) u, ((wordsB s).map Value.string)[j]? = some u → (w45.setCell ⟨lb, 2, none⟩ (.int .i64 (u2 : Int))).cell? ⟨gw, 0 + j, none⟩ = some u from fun j u h => (cell_far (show gw ≠ lb by omega) _).trans (HX.out j u h))
              replace BX := Aside0.mk (BX.out.setCell (p := ⟨lb, 2, none⟩) (by have := RL.out; show rb ≤ lb; omega) (.int .i64 (u2 : Int)))
              generalize w45.setCell ⟨lb, 2, none⟩ (.int .i64 (u2 : Int)) = w46 at *
              have HP : Aside0 (parseF s = some ⟨5, ⟨#[]⟩, (u2 : Int), 0⟩) := ⟨by rw [parse_of (f := ⟨5, [112, 114, 111, 109, 111, 116, 101], [67]⟩) hlen (by decide) (by rw [HW.out, ← hw]), if_pos (by rfl)]; simp [readAll, readF, ofL_data, hn2] <;> rfl⟩
              have cl0 := (blk_cell LX.out 0).trans (show _ = some (.int .i64 5) from rfl)
              have cl1 := (blk_cell LX.out 1).trans (show _ = some (.string ⟨#[]⟩) from rfl)
              have cl2 := (blk_cell LX.out 2).trans (show _ = some (.int .i64 (u2 : Int)) from rfl)
              have cl3 := (blk_cell LX.out 3).trans (show _ = some (.int .u32 0) from rfl)
              have cr0 := (blk_cell RX.out 0).trans (show _ = some (.int .i64 0) from rfl)
              have fr0 := blk_frozen RX.out 0
              have cr1 := (blk_cell RX.out 1).trans (show _ = some (.string ⟨#[]⟩) from rfl)
              have fr1 := blk_frozen RX.out 1
              have cr2 := (blk_cell RX.out 2).trans (show _ = some (.int .i64 0) from rfl)
              have fr2 := blk_frozen RX.out 2
              have cr3 := (blk_cell RX.out 3).trans (show _ = some (.int .u32 0) from rfl)
              have fr3 := blk_frozen RX.out 3
              have cr4 := (blk_cell RX.out 4).trans (show _ = some (.int .i64 0) from rfl)
              have fr4 := blk_frozen RX.out 4
              go_wp2_with fail
              refine bodyPost_ret (results_cell_row rfl _ _ rb 31 #[.int .i64 5, .string ⟨#[]⟩, .int .i64 (u2 : Int), .int .u32 0, .int .i64 0] (0, 0) _ rfl (blk_put (blk_put (blk_put (blk_put (blk_put (RX.out) 0 (.int .i64 5) rfl) 1 (.string ⟨#[]⟩) rfl) 2 (.int .i64 (u2 : Int)) rfl) 3 (.int .u32 0) rfl) 4 (.int .i64 0) rfl) Tryd.underlying31 rfl (by kernel_rfl)) rfl ⟨?_, by first | exact (((((BX.out.setCell (p := ⟨rb, 0, none⟩) (Nat.le_refl _) _).setCell (p := ⟨rb, 1, none⟩) (Nat.le_refl _) _).setCell (p := ⟨rb, 2, none⟩) (Nat.le_refl _) _).setCell (p := ⟨rb, 3, none⟩) (Nat.le_refl _) _).setCell (p := ⟨rb, 4, none⟩) (Nat.le_refl _) _) | (rw [hrb]; exact (((((BX.out.setCell (p := ⟨rb, 0, none⟩) (Nat.le_refl _) _).setCell (p := ⟨rb, 1, none⟩) (Nat.le_refl _) _).setCell (p := ⟨rb, 2, none⟩) (Nat.le_refl _) _).setCell (p := ⟨rb, 3, none⟩) (Nat.le_refl _) _).setCell (p := ⟨rb, 4, none⟩) (Nat.le_refl _) _))⟩
              rw [HP.out]; rfl
          · skip
            obtain ⟨x, rfl⟩ := len1 hl
            replace LX : Aside0 (w4.heap[lb]? = some (.cells #[.int .i64 6, .string ⟨#[]⟩, .int .i64 0, .int .u32 0] 29 (0, 0))) := LX
            clear hl hcw hL
            have cl0 := (blk_cell LX.out 0).trans (show _ = some (.int .i64 6) from rfl)
            have cl1 := (blk_cell LX.out 1).trans (show _ = some (.string ⟨#[]⟩) from rfl)
            have cl2 := (blk_cell LX.out 2).trans (show _ = some (.int .i64 0) from rfl)
            have cl3 := (blk_cell LX.out 3).trans (show _ = some (.int .u32 0) from rfl)
            go_upto_region 31 with (fail)
            clear cl0 cl1 cl2 cl3
            have cw1 := HX.out 1 _ (show _ = some (Value.string (ofL x)) by rw [HB.out]; rfl)
            have cl0 := (blk_cell LX.out 0).trans (show _ = some (.int .i64 6) from rfl)
            have cl1 := (blk_cell LX.out 1).trans (show _ = some (.string ⟨#[]⟩) from rfl)
            have cl2 := (blk_cell LX.out 2).trans (show _ = some (.int .i64 0) from rfl)
            have cl3 := (blk_cell LX.out 3).trans (show _ = some (.int .u32 0) from rfl)
            go_wp2_with fail
            clear cl0 cl1 cl2 cl3
            clear cw1
            cases hn2 : numVal x with
            | none =>
              refine (numr_n hn2 _).mono ?_
              rintro e w47 ⟨rfl, hb⟩
              replace RX := Aside0.mk (blk_below RX.out hb)
              replace LX := Aside0.mk (blk_below LX.out hb)
              replace HX := Aside0.mk (show ∀ (j : Nat) u, ((wordsB s).map Value.string)[j]? = some u → w47.cell? ⟨gw, 0 + j, none⟩ = some u from fun j u h => pw_cell_below hb (HX.out j u h))
              replace BX := Aside0.mk (below_then BX.out (Nat.le_of_lt (Nat.lt_of_succ_lt (blk_lt QX.out))) hb)
              replace QX := Aside0.mk (blk_below QX.out hb)
              clear hb
              go_upto_region 32 with (fail)
              replace RX := Aside0.mk (blk_alloc RX.out (.cells #[.int .i64 0, .bool false] 54 (0, 0)))
              replace LX := Aside0.mk (blk_alloc LX.out (.cells #[.int .i64 0, .bool false] 54 (0, 0)))
              replace HX := Aside0.mk (show ∀ (j : Nat) u, ((wordsB s).map Value.string)[j]? = some u → (w47.alloc (.cells #[.int .i64 0, .bool false] 54 (0, 0))).cell? ⟨gw, 0 + j, none⟩ = some u from fun j u h => pw_cell_below (below_alloc (Below.refl _ _) _) (HX.out j u h))
              replace BX := Aside0.mk (BX.out.alloc (Nat.le_of_lt (Nat.lt_of_succ_lt (blk_lt QX.out))) (.cells #[.int .i64 0, .bool false] 54 (0, 0)))
              replace QX := Aside0.mk (blk_alloc QX.out (.cells #[.int .i64 0, .bool false] 54 (0, 0)))
              have NX := Aside0.mk (blk_new w47 (.cells #[.int .i64 0, .bool false] 54 (0, 0)))
              generalize w47.alloc (.cells #[.int .i64 0, .bool false] 54 (0, 0)) = w48 at *
              generalize w47.heap.size = bn at *
              have cn0 := (blk_cell NX.out 0).trans (show _ = some (.int .i64 0) from rfl)
              have cn1 := (blk_cell NX.out 1).trans (show _ = some (.bool false) from rfl)
              have HP : Aside0 (parseF s = none) := ⟨by rw [parse_of (f := ⟨6, [102, 111, 114, 99, 101], [67]⟩) hlen (by decide) (by rw [HW.out, ← hw]), if_pos (by rfl)]; simp [readAll, readF, ofL_data, hn2] <;> rfl⟩
              have cq0 := (blk_cell QX.out 0).trans (show _ = some (.int .i64 0) from rfl)
              have cq1 := (blk_cell QX.out 1).trans (show _ = some (.string ⟨#[]⟩) from rfl)
              have cq2 := (blk_cell QX.out 2).trans (show _ = some (.int .i64 0) from rfl)
              have cq3 := (blk_cell QX.out 3).trans (show _ = some (.int .u32 0) from rfl)
              have cq4 := (blk_cell QX.out 4).trans (show _ = some (.int .i64 11) from rfl)
              have cr0 := (blk_cell RX.out 0).trans (show _ = some (.int .i64 0) from rfl)
              have fr0 := blk_frozen RX.out 0
              have cr1 := (blk_cell RX.out 1).trans (show _ = some (.string ⟨#[]⟩) from rfl)
              have fr1 := blk_frozen RX.out 1
              have cr2 := (blk_cell RX.out 2).trans (show _ = some (.int .i64 0) from rfl)
              have fr2 := blk_frozen RX.out 2
              have cr3 := (blk_cell RX.out 3).trans (show _ = some (.int .u32 0) from rfl)
              have fr3 := blk_frozen RX.out 3
              have cr4 := (blk_cell RX.out 4).trans (show _ = some (.int .i64 0) from rfl)
              have fr4 := blk_frozen RX.out 4
              go_wp2_with fail
              refine bodyPost_ret (results_cell_row rfl _ _ rb 31 #[.int .i64 0, .string ⟨#[]⟩, .int .i64 0, .int .u32 0, .int .i64 11] (0, 0) _ rfl (blk_put (blk_put (blk_put (blk_put (blk_put (RX.out) 0 (.int .i64 0) rfl) 1 (.string ⟨#[]⟩) rfl) 2 (.int .i64 0) rfl) 3 (.int .u32 0) rfl) 4 (.int .i64 11) rfl) Tryd.underlying31 rfl (by kernel_rfl)) rfl ⟨?_, by first | exact (((((BX.out.setCell (p := ⟨rb, 0, none⟩) (Nat.le_refl _) _).setCell (p := ⟨rb, 1, none⟩) (Nat.le_refl _) _).setCell (p := ⟨rb, 2, none⟩) (Nat.le_refl _) _).setCell (p := ⟨rb, 3, none⟩) (Nat.le_refl _) _).setCell (p := ⟨rb, 4, none⟩) (Nat.le_refl _) _) | (rw [hrb]; exact (((((BX.out.setCell (p := ⟨rb, 0, none⟩) (Nat.le_refl _) _).setCell (p := ⟨rb, 1, none⟩) (Nat.le_refl _) _).setCell (p := ⟨rb, 2, none⟩) (Nat.le_refl _) _).setCell (p := ⟨rb, 3, none⟩) (Nat.le_refl _) _).setCell (p := ⟨rb, 4, none⟩) (Nat.le_refl _) _))⟩
              rw [HP.out]; rfl
            | some u2 =>
              refine (numr_s hn2 _).mono ?_
              rintro e w49 ⟨rfl, hb⟩
              replace RX := Aside0.mk (blk_below RX.out hb)
              replace LX := Aside0.mk (blk_below LX.out hb)
              replace HX := Aside0.mk (show ∀ (j : Nat) u, ((wordsB s).map Value.string)[j]? = some u → w49.cell? ⟨gw, 0 + j, none⟩ = some u from fun j u h => pw_cell_below hb (HX.out j u h))
              replace BX := Aside0.mk (below_then BX.out (Nat.le_of_lt (Nat.lt_of_succ_lt (blk_lt QX.out))) hb)
              replace QX := Aside0.mk (blk_below QX.out hb)
              clear hb
              go_upto_region 32 with (fail)
              replace RX := Aside0.mk (blk_alloc RX.out (.cells #[.int .i64 (u2 : Int), .bool true] 54 (0, 0)))
              replace LX := Aside0.mk (blk_alloc LX.out (.cells #[.int .i64 (u2 : Int), .bool true] 54 (0, 0)))
              replace HX := Aside0.mk (show ∀ (j : Nat) u, ((wordsB s).map Value.string)[j]? = some u → (w49.alloc (.cells #[.int .i64 (u2 : Int), .bool true] 54 (0, 0))).cell? ⟨gw, 0 + j, none⟩ = some u from fun j u h => pw_cell_below (below_alloc (Below.refl _ _) _) (HX.out j u h))
              replace BX := Aside0.mk (BX.out.alloc (Nat.le_of_lt (Nat.lt_of_succ_lt (blk_lt QX.out))) (.cells #[.int .i64 (u2 : Int), .bool true] 54 (0, 0)))
              replace QX := Aside0.mk (blk_alloc QX.out (.cells #[.int .i64 (u2 : Int), .bool true] 54 (0, 0)))
              have NX := Aside0.mk (blk_new w49 (.cells #[.int .i64 (u2 : Int), .bool true] 54 (0, 0)))
              generalize w49.alloc (.cells #[.int .i64 (u2 : Int), .bool true] 54 (0, 0)) = w50 at *
              generalize w49.heap.size = bn at *
              have cn0 := (blk_cell NX.out 0).trans (show _ = some (.int .i64 (u2 : Int)) from rfl)
              have cn1 := (blk_cell NX.out 1).trans (show _ = some (.bool true) from rfl)
              have cl0 := (blk_cell LX.out 0).trans (show _ = some (.int .i64 6) from rfl)
              have fl0 := blk_frozen LX.out 0
              have cl1 := (blk_cell LX.out 1).trans (show _ = some (.string ⟨#[]⟩) from rfl)
              have fl1 := blk_frozen LX.out 1
              have cl2 := (blk_cell LX.out 2).trans (show _ = some (.int .i64 0) from rfl)
              have fl2 := blk_frozen LX.out 2
              have cl3 := (blk_cell LX.out 3).trans (show _ = some (.int .u32 0) from rfl)
              have fl3 := blk_frozen LX.out 3
              go_upto_region 35 with (fail)
              clear cl0 cl1 cl2 cl3 fl0 fl1 fl2 fl3
              clear cn0 cn1
              clear NX
              replace RX := Aside0.mk (blk_far RX.out (p := ⟨lb, 2, none⟩) (by have := RL.out; show rb ≠ lb; omega) (.int .i64 (u2 : Int)))
              replace QX := Aside0.mk (blk_far QX.out (p := ⟨lb, 2, none⟩) (by have := RL.out; show rb + 1 ≠ lb; omega) (.int .i64 (u2 : Int)))
              replace LX := Aside0.mk (blk_put LX.out 2 (.int .i64 (u2 : Int)) rfl)
              replace HX := Aside0.mk (show ∀ (j : Nat) u, ((wordsB s).map Value.string)[j]? = some u → (w50.setCell ⟨lb, 2, none⟩ (.int .i64 (u2 : Int))).cell? ⟨gw, 0 + j, none⟩ = some u from fun j u h => (cell_far (show gw ≠ lb by omega) _).trans (HX.out j u h))
              replace BX := Aside0.mk (BX.out.setCell (p := ⟨lb, 2, none⟩) (by have := RL.out; show rb ≤ lb; omega) (.int .i64 (u2 : Int)))
              generalize w50.setCell ⟨lb, 2, none⟩ (.int .i64 (u2 : Int)) = w51 at *
              have HP : Aside0 (parseF s = some ⟨6, ⟨#[]⟩, (u2 : Int), 0⟩) := ⟨by rw [parse_of (f := ⟨6, [102, 111, 114, 99, 101], [67]⟩) hlen (by decide) (by rw [HW.out, ← hw]), if_pos (by rfl)]; simp [readAll, readF, ofL_data, hn2] <;> rfl⟩
              have cl0 := (blk_cell LX.out 0).trans (show _ = some (.int .i64 6) from rfl)
              have cl1 := (blk_cell LX.out 1).trans (show _ = some (.string ⟨#[]⟩) from rfl)
              have cl2 := (blk_cell LX.out 2).trans (show _ = some (.int .i64 (u2 : Int)) from rfl)
              have cl3 := (blk_cell LX.out 3).trans (show _ = some (.int .u32 0) from rfl)
              have cr0 := (blk_cell RX.out 0).trans (show _ = some (.int .i64 0) from rfl)
              have fr0 := blk_frozen RX.out 0
              have cr1 := (blk_cell RX.out 1).trans (show _ = some (.string ⟨#[]⟩) from rfl)
              have fr1 := blk_frozen RX.out 1
              have cr2 := (blk_cell RX.out 2).trans (show _ = some (.int .i64 0) from rfl)
              have fr2 := blk_frozen RX.out 2
              have cr3 := (blk_cell RX.out 3).trans (show _ = some (.int .u32 0) from rfl)
              have fr3 := blk_frozen RX.out 3
              have cr4 := (blk_cell RX.out 4).trans (show _ = some (.int .i64 0) from rfl)
              have fr4 := blk_frozen RX.out 4
              go_wp2_with fail
              refine bodyPost_ret (results_cell_row rfl _ _ rb 31 #[.int .i64 6, .string ⟨#[]⟩, .int .i64 (u2 : Int), .int .u32 0, .int .i64 0] (0, 0) _ rfl (blk_put (blk_put (blk_put (blk_put (blk_put (RX.out) 0 (.int .i64 6) rfl) 1 (.string ⟨#[]⟩) rfl) 2 (.int .i64 (u2 : Int)) rfl) 3 (.int .u32 0) rfl) 4 (.int .i64 0) rfl) Tryd.underlying31 rfl (by kernel_rfl)) rfl ⟨?_, by first | exact (((((BX.out.setCell (p := ⟨rb, 0, none⟩) (Nat.le_refl _) _).setCell (p := ⟨rb, 1, none⟩) (Nat.le_refl _) _).setCell (p := ⟨rb, 2, none⟩) (Nat.le_refl _) _).setCell (p := ⟨rb, 3, none⟩) (Nat.le_refl _) _).setCell (p := ⟨rb, 4, none⟩) (Nat.le_refl _) _) | (rw [hrb]; exact (((((BX.out.setCell (p := ⟨rb, 0, none⟩) (Nat.le_refl _) _).setCell (p := ⟨rb, 1, none⟩) (Nat.le_refl _) _).setCell (p := ⟨rb, 2, none⟩) (Nat.le_refl _) _).setCell (p := ⟨rb, 3, none⟩) (Nat.le_refl _) _).setCell (p := ⟨rb, 4, none⟩) (Nat.le_refl _) _))⟩
              rw [HP.out]; rfl
          · skip
            obtain rfl := len0 hl
            replace LX : Aside0 (w4.heap[lb]? = some (.cells #[.int .i64 7, .string ⟨#[]⟩, .int .i64 0, .int .u32 0] 29 (0, 0))) := LX
            clear hl hcw hL
            have HP : Aside0 (parseF s = some ⟨7, ⟨#[]⟩, 0, 0⟩) := ⟨by rw [parse_of (f := ⟨7, [115, 116, 97, 116, 117, 115], []⟩) hlen (by decide) (by rw [HW.out, ← hw]), if_pos (by rfl)]; simp [readAll, readF, ofL_data] <;> rfl⟩
            have cl0 := (blk_cell LX.out 0).trans (show _ = some (.int .i64 7) from rfl)
            have cl1 := (blk_cell LX.out 1).trans (show _ = some (.string ⟨#[]⟩) from rfl)
            have cl2 := (blk_cell LX.out 2).trans (show _ = some (.int .i64 0) from rfl)
            have cl3 := (blk_cell LX.out 3).trans (show _ = some (.int .u32 0) from rfl)
            have cr0 := (blk_cell RX.out 0).trans (show _ = some (.int .i64 0) from rfl)
            have fr0 := blk_frozen RX.out 0
            have cr1 := (blk_cell RX.out 1).trans (show _ = some (.string ⟨#[]⟩) from rfl)
            have fr1 := blk_frozen RX.out 1
            have cr2 := (blk_cell RX.out 2).trans (show _ = some (.int .i64 0) from rfl)
            have fr2 := blk_frozen RX.out 2
            have cr3 := (blk_cell RX.out 3).trans (show _ = some (.int .u32 0) from rfl)
            have fr3 := blk_frozen RX.out 3
            have cr4 := (blk_cell RX.out 4).trans (show _ = some (.int .i64 0) from rfl)
            have fr4 := blk_frozen RX.out 4
            go_wp2_with fail
            refine bodyPost_ret (results_cell_row rfl _ _ rb 31 #[.int .i64 7, .string ⟨#[]⟩, .int .i64 0, .int .u32 0, .int .i64 0] (0, 0) _ rfl (blk_put (blk_put (blk_put (blk_put (blk_put (RX.out) 0 (.int .i64 7) rfl) 1 (.string ⟨#[]⟩) rfl) 2 (.int .i64 0) rfl) 3 (.int .u32 0) rfl) 4 (.int .i64 0) rfl) Tryd.underlying31 rfl (by kernel_rfl)) rfl ⟨?_, by first | exact (((((BX.out.setCell (p := ⟨rb, 0, none⟩) (Nat.le_refl _) _).setCell (p := ⟨rb, 1, none⟩) (Nat.le_refl _) _).setCell (p := ⟨rb, 2, none⟩) (Nat.le_refl _) _).setCell (p := ⟨rb, 3, none⟩) (Nat.le_refl _) _).setCell (p := ⟨rb, 4, none⟩) (Nat.le_refl _) _) | (rw [hrb]; exact (((((BX.out.setCell (p := ⟨rb, 0, none⟩) (Nat.le_refl _) _).setCell (p := ⟨rb, 1, none⟩) (Nat.le_refl _) _).setCell (p := ⟨rb, 2, none⟩) (Nat.le_refl _) _).setCell (p := ⟨rb, 3, none⟩) (Nat.le_refl _) _).setCell (p := ⟨rb, 4, none⟩) (Nat.le_refl _) _))⟩
            rw [HP.out]; rfl
        · have HP := Aside0.mk (parse_none_len hf (by rw [hw]; exact HW.out) hl)
          have hne : ((r0.length : Int) + 1 != (m : Int)) = true := by have := HM.out; simp; omega
          have cq0 := (blk_cell QX.out 0).trans (show _ = some (.int .i64 0) from rfl)
          have cq1 := (blk_cell QX.out 1).trans (show _ = some (.string ⟨#[]⟩) from rfl)
          have cq2 := (blk_cell QX.out 2).trans (show _ = some (.int .i64 0) from rfl)
          have cq3 := (blk_cell QX.out 3).trans (show _ = some (.int .u32 0) from rfl)
          have cq4 := (blk_cell QX.out 4).trans (show _ = some (.int .i64 11) from rfl)
          have cr0 := (blk_cell RX.out 0).trans (show _ = some (.int .i64 0) from rfl)
          have fr0 := blk_frozen RX.out 0
          have cr1 := (blk_cell RX.out 1).trans (show _ = some (.string ⟨#[]⟩) from rfl)
          have fr1 := blk_frozen RX.out 1
          have cr2 := (blk_cell RX.out 2).trans (show _ = some (.int .i64 0) from rfl)
          have fr2 := blk_frozen RX.out 2
          have cr3 := (blk_cell RX.out 3).trans (show _ = some (.int .u32 0) from rfl)
          have fr3 := blk_frozen RX.out 3
          have cr4 := (blk_cell RX.out 4).trans (show _ = some (.int .i64 0) from rfl)
          have fr4 := blk_frozen RX.out 4
          go_wp2_with fail
          refine bodyPost_ret (results_cell_row rfl _ _ rb 31 #[.int .i64 0, .string ⟨#[]⟩, .int .i64 0, .int .u32 0, .int .i64 11] (0, 0) _ rfl (blk_put (blk_put (blk_put (blk_put (blk_put (RX.out) 0 (.int .i64 0) rfl) 1 (.string ⟨#[]⟩) rfl) 2 (.int .i64 0) rfl) 3 (.int .u32 0) rfl) 4 (.int .i64 11) rfl) Tryd.underlying31 rfl (by kernel_rfl)) rfl ⟨?_, by first | exact (((((BX.out.setCell (p := ⟨rb, 0, none⟩) (Nat.le_refl _) _).setCell (p := ⟨rb, 1, none⟩) (Nat.le_refl _) _).setCell (p := ⟨rb, 2, none⟩) (Nat.le_refl _) _).setCell (p := ⟨rb, 3, none⟩) (Nat.le_refl _) _).setCell (p := ⟨rb, 4, none⟩) (Nat.le_refl _) _) | (rw [hrb]; exact (((((BX.out.setCell (p := ⟨rb, 0, none⟩) (Nat.le_refl _) _).setCell (p := ⟨rb, 1, none⟩) (Nat.le_refl _) _).setCell (p := ⟨rb, 2, none⟩) (Nat.le_refl _) _).setCell (p := ⟨rb, 3, none⟩) (Nat.le_refl _) _).setCell (p := ⟨rb, 4, none⟩) (Nat.le_refl _) _))⟩
          rw [HP.out]; rfl
    | succ g =>
      obtain ⟨f, hf, hfv, hcell⟩ := verb_at i hi1 (by omega)
      have HF := Aside0.mk (List.mem_of_getElem? hf)
      have HFV := Aside0.mk hfv
      have HVC := Aside0.mk (show ∀ W : World, (W.alloc (.cells verbCells 9 (0, 0))).cell? ⟨W.heap.size, i, none⟩ = some (.string (ofL f.word)) from fun W => (blk_cell (blk_new W _) i).trans hcell)
      clear hf hfv hcell
      have hi7 : decide ((i : Int) ≤ 7) = true := by simp; omega
      have hle : (i : Int) ≤ 7 := by omega
      have hlt8 : (i : Int) < 8 := by omega
      have hge : (0 : Int) ≤ (i : Int) := by omega
      have hpos : 0 < r0.length + 1 := by omega
      have hlbw : Aside0 (lb ≤ wr.heap.size) := ⟨Nat.le_of_lt (blk_lt LY.out)⟩
      have d0 : wr.cell? ⟨gw, 0, none⟩ = some (.string (ofL w0)) := (BY.out.cell hgw2).trans (HC3.out 0 _ (by rw [HB.out]; rfl))
      have hq1 := bytes_eqB (ofL f.word) (ofL w0)
      rw [ofL_data, ofL_data] at hq1
      by_cases e1 : f.word = w0
      · rw [decide_eq_true e1] at hq1
        have HE1 := Aside0.mk e1
        clear e1
        go_wp2_with fail
        refine start_ (n := 8) (S := fun w' => w'.cell? ⟨gw, 0, none⟩ = some (.string (ofL w0))) (ds := []) #[false, false, false, false, false, false, false, false] (by kernel_rfl) rfl rfl (d0) (fun hHeld => ?_)
        replace BY := Aside0.mk (below_drew BY.out)
        replace LY := Aside0.mk (blk_drew LY.out)
        replace hlbw : Aside0 (lb ≤ wr.drew.heap.size) := hlbw
        clear d0
        generalize wr.drew = wd at BY LY hlbw hHeld ⊢
        refine pure_ (i := 1) (N := (some 23)) (v := ?_) (a' := ?_) #[false, true, false, false, false, false, false, false] rfl rfl (by kernel_rfl) (fun _ _ _ h => h) (Or.inl ⟨by rfl, ?_⟩) ?_ ?_
        rotate_left
        · intro w'
          go_simp
          with_reducible rfl
        rotate_left
        · simp only [Act.put, List.setIfInBounds_toArray, List.set_cons_zero, List.set_cons_succ, i64_w, i32_w]
          rfl
        refine pure_ (i := 4) (N := (some 26)) (v := ?_) (a' := ?_) #[false, true, false, false, true, false, false, false] rfl rfl (by kernel_rfl) (fun _ _ _ h => h) (Or.inl ⟨by rfl, ?_⟩) ?_ ?_
        rotate_left
        · intro w'
          go_simp
          with_reducible rfl
        rotate_left
        · simp only [Act.put, List.setIfInBounds_toArray, List.set_cons_zero, List.set_cons_succ, i64_w, i32_w]
          rfl
        refine pure_ (i := 5) (N := (some 27)) (v := ?_) (a' := ?_) #[false, true, false, false, true, true, false, false] rfl rfl (by kernel_rfl) (fun _ _ _ h => h) (Or.inl ⟨by rfl, ?_⟩) ?_ ?_
        rotate_left
        · intro w'
          go_simp
          with_reducible rfl
        rotate_left
        · simp only [Act.put, List.setIfInBounds_toArray, List.set_cons_zero, List.set_cons_succ, i64_w, i32_w]
          rfl
        refine take_ (i := 6) (N := (some 28)) (v := ?_) (a' := ?_) #[false, true, false, false, true, true, true, false] rfl rfl (by kernel_rfl) (fun _ _ _ h => h) (Or.inl ⟨by rfl, ?_⟩) hHeld ?_ ?_
        rotate_left
        · intro w' s0
          go_simp
          with_reducible rfl
        rotate_left
        · simp only [Act.put, List.setIfInBounds_toArray, List.set_cons_zero, List.set_cons_succ, i64_w, i32_w]
          rfl
        refine one_ (i := 0) (N := (some 22)) #[true, true, false, false, true, true, true, false] rfl rfl (by kernel_rfl) (by decide) (fun K hK => ?_)
        refine goes_ Tryd.func19 (by kernel_rfl) rfl #[] (by rfl) rfl rfl (by first | (simp only [List.map_toArray, List.map_cons, List.map_nil]; done) | (simp only [List.map_toArray, List.map_cons, List.map_nil]; rfl)) ?_
        with_reducible refine (verbs_any _).mono ?_
        rintro e w5 ⟨rfl, rfl⟩
        have e5 := HVC.out wd
        have s5 := pw_cell_below (below_alloc (Below.refl _ _) (.cells verbCells 9 (0, 0))) hHeld
        replace BY := Aside0.mk (BY.out.alloc hlbw.out (.cells verbCells 9 (0, 0)))
        replace LY := Aside0.mk (blk_alloc LY.out (.cells verbCells 9 (0, 0)))
        clear hHeld
        generalize wd.alloc (.cells verbCells 9 (0, 0)) = w5 at *
        generalize wd.heap.size = Tm at *
        refine ⟨_, rfl, ?_⟩
        refine hK.out _ _ (s5) (fun hHeld => ?_)
        clear hK K
        refine norm_ (a' := ?_) ?_ ?_
        rotate_left
        · show Act.put _ (some 22) _ = _
          simp only [Act.put, List.setIfInBounds_toArray, List.set_cons_zero, List.set_cons_succ, i64_w, i32_w]
          rfl
        refine pure_ (i := 2) (N := (some 24)) (v := ?_) (a' := ?_) #[true, true, true, false, true, true, true, false] rfl rfl (by kernel_rfl) (fun _ _ _ h => h) (Or.inl ⟨by rfl, ?_⟩) ?_ ?_
        rotate_left
        · intro w'
          go_simp
          with_reducible rfl
        rotate_left
        · simp only [Act.put, List.setIfInBounds_toArray, List.set_cons_zero, List.set_cons_succ, i64_w, i32_w]
          rfl
        refine one_ (i := 3) (N := (some 25)) #[true, true, true, true, true, true, true, false] rfl rfl (by kernel_rfl) (by decide) (fun K hK => ?_)
        refine value_ (w1 := ?_) (v := ?_) (by rfl) rfl ?_ ?_
        rotate_left 2
        · go_simp
          constructor
          · rfl
          · rfl
        refine hK.out _ _ ((by assumption)) (fun hHeld => ?_)
        clear hK K
        refine norm_ (a' := ?_) ?_ ?_
        rotate_left
        · show Act.put _ (some 25) _ = _
          simp only [Act.put, List.setIfInBounds_toArray, List.set_cons_zero, List.set_cons_succ, i64_w, i32_w]
          rfl
        refine pure_ (i := 7) (N := (some 29)) (v := ?_) (a' := ?_) #[true, true, true, true, true, true, true, true] rfl rfl (by kernel_rfl) (fun _ _ _ h => h) (Or.inl ⟨by rfl, ?_⟩) ?_ ?_
        rotate_left
        · intro w'
          go_simp
          with_reducible rfl
        rotate_left
        · simp only [Act.put, List.setIfInBounds_toArray, List.set_cons_zero, List.set_cons_succ, i64_w, i32_w]
          rfl
        refine done_ (by kernel_rfl) ?_
        have l0 := (blk_cell LY.out 0).trans (show _ = some (.int .i64 (V : Int)) from rfl)
        have fr0 := blk_frozen LY.out 0
        go_wp2_with fail
        go_roundg g
        case measure => omega
        case rel => exact ⟨i + 1, i, by omega, by omega, by go_num, ⟨BY.out.setCell (p := ⟨lb, 0, none⟩) (Nat.le_refl _) _⟩, ⟨blk_put LY.out 0 _ rfl⟩, ⟨fun f2 h1 h2 _ => by rw [word_one f2 h1 f HF.out (h2.trans HE1.out.symm)]; exact HFV.out.symm⟩, ⟨.inr ⟨f, HF.out, HE1.out, HFV.out.symm, by have := HFV.out; omega⟩⟩⟩
      · rw [decide_eq_false e1] at hq1
        have HE1 := Aside0.mk e1
        clear e1
        go_wp2_with fail
        refine start_ (n := 8) (S := fun w' => w'.cell? ⟨gw, 0, none⟩ = some (.string (ofL w0))) (ds := []) #[false, false, false, false, false, false, false, false] (by kernel_rfl) rfl rfl (d0) (fun hHeld => ?_)
        replace BY := Aside0.mk (below_drew BY.out)
        replace LY := Aside0.mk (blk_drew LY.out)
        replace hlbw : Aside0 (lb ≤ wr.drew.heap.size) := hlbw
        clear d0
        generalize wr.drew = wd at BY LY hlbw hHeld ⊢
        refine pure_ (i := 1) (N := (some 23)) (v := ?_) (a' := ?_) #[false, true, false, false, false, false, false, false] rfl rfl (by kernel_rfl) (fun _ _ _ h => h) (Or.inl ⟨by rfl, ?_⟩) ?_ ?_
        rotate_left
        · intro w'
          go_simp
          with_reducible rfl
        rotate_left
        · simp only [Act.put, List.setIfInBounds_toArray, List.set_cons_zero, List.set_cons_succ, i64_w, i32_w]
          rfl
        refine pure_ (i := 4) (N := (some 26)) (v := ?_) (a' := ?_) #[false, true, false, false, true, false, false, false] rfl rfl (by kernel_rfl) (fun _ _ _ h => h) (Or.inl ⟨by rfl, ?_⟩) ?_ ?_
        rotate_left
        · intro w'
          go_simp
          with_reducible rfl
        rotate_left
        · simp only [Act.put, List.setIfInBounds_toArray, List.set_cons_zero, List.set_cons_succ, i64_w, i32_w]
          rfl
        refine pure_ (i := 5) (N := (some 27)) (v := ?_) (a' := ?_) #[false, true, false, false, true, true, false, false] rfl rfl (by kernel_rfl) (fun _ _ _ h => h) (Or.inl ⟨by rfl, ?_⟩) ?_ ?_
        rotate_left
        · intro w'
          go_simp
          with_reducible rfl
        rotate_left
        · simp only [Act.put, List.setIfInBounds_toArray, List.set_cons_zero, List.set_cons_succ, i64_w, i32_w]
          rfl
        refine take_ (i := 6) (N := (some 28)) (v := ?_) (a' := ?_) #[false, true, false, false, true, true, true, false] rfl rfl (by kernel_rfl) (fun _ _ _ h => h) (Or.inl ⟨by rfl, ?_⟩) hHeld ?_ ?_
        rotate_left
        · intro w' s0
          go_simp
          with_reducible rfl
        rotate_left
        · simp only [Act.put, List.setIfInBounds_toArray, List.set_cons_zero, List.set_cons_succ, i64_w, i32_w]
          rfl
        refine one_ (i := 0) (N := (some 22)) #[true, true, false, false, true, true, true, false] rfl rfl (by kernel_rfl) (by decide) (fun K hK => ?_)
        refine goes_ Tryd.func19 (by kernel_rfl) rfl #[] (by rfl) rfl rfl (by first | (simp only [List.map_toArray, List.map_cons, List.map_nil]; done) | (simp only [List.map_toArray, List.map_cons, List.map_nil]; rfl)) ?_
        with_reducible refine (verbs_any _).mono ?_
        rintro e w5 ⟨rfl, rfl⟩
        have e5 := HVC.out wd
        have s5 := pw_cell_below (below_alloc (Below.refl _ _) (.cells verbCells 9 (0, 0))) hHeld
        replace BY := Aside0.mk (BY.out.alloc hlbw.out (.cells verbCells 9 (0, 0)))
        replace LY := Aside0.mk (blk_alloc LY.out (.cells verbCells 9 (0, 0)))
        clear hHeld
        generalize wd.alloc (.cells verbCells 9 (0, 0)) = w5 at *
        generalize wd.heap.size = Tm at *
        refine ⟨_, rfl, ?_⟩
        refine hK.out _ _ (s5) (fun hHeld => ?_)
        clear hK K
        refine norm_ (a' := ?_) ?_ ?_
        rotate_left
        · show Act.put _ (some 22) _ = _
          simp only [Act.put, List.setIfInBounds_toArray, List.set_cons_zero, List.set_cons_succ, i64_w, i32_w]
          rfl
        refine pure_ (i := 2) (N := (some 24)) (v := ?_) (a' := ?_) #[true, true, true, false, true, true, true, false] rfl rfl (by kernel_rfl) (fun _ _ _ h => h) (Or.inl ⟨by rfl, ?_⟩) ?_ ?_
        rotate_left
        · intro w'
          go_simp
          with_reducible rfl
        rotate_left
        · simp only [Act.put, List.setIfInBounds_toArray, List.set_cons_zero, List.set_cons_succ, i64_w, i32_w]
          rfl
        refine one_ (i := 3) (N := (some 25)) #[true, true, true, true, true, true, true, false] rfl rfl (by kernel_rfl) (by decide) (fun K hK => ?_)
        refine value_ (w1 := ?_) (v := ?_) (by rfl) rfl ?_ ?_
        rotate_left 2
        · go_simp
          constructor
          · rfl
          · rfl
        refine hK.out _ _ ((by assumption)) (fun hHeld => ?_)
        clear hK K
        refine norm_ (a' := ?_) ?_ ?_
        rotate_left
        · show Act.put _ (some 25) _ = _
          simp only [Act.put, List.setIfInBounds_toArray, List.set_cons_zero, List.set_cons_succ, i64_w, i32_w]
          rfl
        refine pure_ (i := 7) (N := (some 29)) (v := ?_) (a' := ?_) #[true, true, true, true, true, true, true, true] rfl rfl (by kernel_rfl) (fun _ _ _ h => h) (Or.inl ⟨by rfl, ?_⟩) ?_ ?_
        rotate_left
        · intro w'
          go_simp
          with_reducible rfl
        rotate_left
        · simp only [Act.put, List.setIfInBounds_toArray, List.set_cons_zero, List.set_cons_succ, i64_w, i32_w]
          rfl
        refine done_ (by kernel_rfl) ?_
        go_wp2_with fail
        go_roundg g
        case measure => omega
        case rel => exact ⟨i + 1, V, by omega, by omega, by go_num, BY, LY, ⟨fun f2 h1 h2 h3 => by
            by_cases hv : f2.verb = i
            · exact absurd ((congrArg Form.word (verb_one f HF.out f2 h1 (HFV.out.trans hv.symm))).trans h2) HE1.out
            · exact HV1.out f2 h1 h2 (by omega)⟩, ⟨HV2.out.imp id fun ⟨f2, h1, h2, h3, h4⟩ => ⟨f2, h1, h2, h3, by omega⟩⟩⟩
end Go.Proofs.YtfejbfnjfombhaaDoor.LinT

/- The document's text of a line. -/
import Derived.Test.YtfejbfnjfombhaaDoorLinT
import Derived.Deep.CutRange
import Derived.Deep.CutBlock
namespace Go.Proofs.YtfejbfnjfombhaaDoor.LinU
open Go.RowKit Go.Sort Go.Shelf Go.Lib Go.Proofs.YtfejbfnjfombhaaDoorW.PrintWords Go.Proofs.YtfejbfnjfombhaaDoorW.PrintLast Go.Proofs.YtfejbfnjfombhaaDoorW.PrintMore Go.Proofs.YtfejbfnjfombhaaDoor.LinA Go.Proofs.YtfejbfnjfombhaaDoor.LinB Go.Proofs.YtfejbfnjfombhaaDoor.LinC Go.Proofs.YtfejbfnjfombhaaDoor.LinD Go.Proofs.YtfejbfnjfombhaaDoor.LinE Go.Proofs.YtfejbfnjfombhaaDoor.LinF Go.Proofs.YtfejbfnjfombhaaDoor.LinG Go.Proofs.YtfejbfnjfombhaaDoor.LinN Go.Proofs.YtfejbfnjfombhaaDoor.LinO Go.Proofs.YtfejbfnjfombhaaDoor.LinP Go.Proofs.YtfejbfnjfombhaaDoor.LinQ Go.Proofs.YtfejbfnjfombhaaDoor.LinS Go.Proofs.YtfejbfnjfombhaaDoor.LinT
set_option linter.unusedVariables false
set_option linter.unusedSimpArgs false
theorem eqA29 (d : Nat) (w : World) (x0 y0 : Int) (x1 y1 : ByteArray) (x2 y2 x3 y3 : Int) :
    (Op.equalIn (d + 2) 29 (.agg #[.int .i64 x0, .string x1, .int .i64 x2, .int .u32 x3]) (.agg #[.int .i64 y0, .string y1, .int .i64 y2, .int .u32 y3])).run Tryd.prog w = .ok (x0 == y0 && (x1.toList == y1.toList && (x2 == y2 && (x3 == y3)))) w := by
  refine eqA_of Tryd.underlying29 (by kernel_rfl) ?_
  refine eqf_cons (by rfl) (by go_simp; rfl) (by go_simp; rfl) (by go_simp) ?_
  refine eqf_cons (by rfl) (by go_simp; rfl) (by go_simp; rfl) (by go_simp) ?_
  refine eqf_cons (by rfl) (by go_simp; rfl) (by go_simp; rfl) (by go_simp) ?_
  exact eqf_last (by rfl) (by go_simp; rfl) (by go_simp; rfl) (by go_simp)
attribute [local go_sem high] eqA29
theorem parser_any (s : ByteArray) (w : World) :
    Calls Tryd.prog 9 #[.string s] w fun e w' => e = .returned (ansG (parseF s)) ∧ Below w.heap.size w w' := by
  by_cases h : 200 < s.size
  · exact parser_long s h w
  · exact parser_short s (by omega) w
theorem parser_s (s : ByteArray) (m : Ln) (h : parseF s = some m) (w : World) :
    Calls Tryd.prog 9 #[.string s] w fun e w' => e = .returned (.agg #[.int .i64 m.verb, .string m.name, .int .i64 m.n, .int .u32 m.till, .int .i64 0]) ∧ Below w.heap.size w w' := by
  have c := parser_any s w
  rw [h] at c; exact c
theorem parser_n (s : ByteArray) (h : parseF s = none) (w : World) :
    Calls Tryd.prog 9 #[.string s] w fun e w' => e = .returned (.agg #[.int .i64 0, .string ⟨#[]⟩, .int .i64 0, .int .u32 0, .int .i64 11]) ∧ Below w.heap.size w w' := by
  have c := parser_any s w
  rw [h] at c; exact c
theorem word_len : ∀ f ∈ forms, f.word.length ≤ 10 := by decide
theorem ofL_size (l : List UInt8) : (ofL l).size = l.length := by simp [ofL, ByteArray.size]
/-- The document's text, by the plain one. -/
theorem line_at (l : Ln) (f : LinB.Form) (b : ByteArray) (h : b.data.toList = join (f.word :: f.has.map (textOf l)) [32]) : b = lineOf l f := bytes_ext (by rw [h]; exact (ofL_data _).symm)
set_option maxHeartbeats 4000000 in
set_option maxRecDepth 100000 in
theorem textr_good (f : LinB.Form) (hf : f ∈ forms) (nm : ByteArray) (u t : Nat) (hnm : nm.size ≤ 1000) (hu : u < 9223372036854775808) (ht : t ≤ 4294967295) (w : World) :
    Calls Tryd.prog 11 #[.agg #[.int .i64 (f.verb : Int), .string nm, .int .i64 (u : Int), .int .u32 (t : Int)]] w fun e w' => e = .returned (ansT (textF (⟨(f.verb : Int), nm, (u : Int), (t : Int)⟩ : Ln))) ∧ Below w.heap.size w w' := by
  have hfit := LinR.verb_fit f hf
  have LX := Aside0.mk (blk_new w (.cells #[.int .i64 (f.verb : Int), .string nm, .int .i64 (u : Int), .int .u32 (t : Int)] 29 (0, 0)))
  have BX := Aside0.mk (below_alloc (Below.refl w.heap.size w) (.cells #[.int .i64 (f.verb : Int), .string nm, .int .i64 (u : Int), .int .u32 (t : Int)] 29 (0, 0)))
  have HF := Aside0.mk hf
  have HT := Aside0.mk (text_of (l := (⟨(f.verb : Int), nm, (u : Int), (t : Int)⟩ : Ln)) hf rfl)
  have hcv : IntKind.i64.wrap (t : Int) = (t : Int) := IntWalk.i64_in _ (by omega)
  have hz32 : (⟨#[32]⟩ : ByteArray).size = 1 := rfl
  have hz42 : (⟨#[42]⟩ : ByteArray).size = 1 := rfl
  have hwl : (ofL f.word).size ≤ 10 := by rw [ofL_size]; exact word_len f hf
  have hdu : (ofL (decDigits u)).size ≤ 20 := by rw [ofL_size]; exact LinN.dec_len2 u hu
  have hdt : (ofL (decDigits t)).size ≤ 20 := by rw [ofL_size]; exact LinN.dec_len2 t (by omega)
  have q1 : (1 : Int) ≤ (f.verb : Int) := by omega
  have q2 : (f.verb : Int) ≤ 7 := by omega
  have q3 : (0 : Int) ≤ (u : Int) := by omega
  have q4 : (f.verb : Int) < 8 := by omega
  have q5 : (0 : Int) ≤ (f.verb : Int) := by omega
  have HVC := Aside0.mk (show ∀ W : World, (W.alloc (.cells verbCells 9 (0, 0))).cell? ⟨W.heap.size, f.verb, none⟩ = some (.string (ofL f.word)) from fun W => (blk_cell (blk_new W _) f.verb).trans (by
    obtain ⟨g, h1, h2, h3⟩ := verb_at f.verb hfit.1 hfit.2
    rw [h3, verb_one g (List.mem_of_getElem? h1) f hf h2]))
  have cl0 := (blk_cell LX.out 0).trans (show _ = some (.int .i64 (f.verb : Int)) from rfl)
  have cl1 := (blk_cell LX.out 1).trans (show _ = some (.string nm) from rfl)
  have cl2 := (blk_cell LX.out 2).trans (show _ = some (.int .i64 (u : Int)) from rfl)
  have cl3 := (blk_cell LX.out 3).trans (show _ = some (.int .u32 (t : Int)) from rfl)
  clear hf hfit
  go_enter Tryd.func11, Tryd.ntmps11
  go_upto_region 3 with (fail)
  clear cl1 cl2 cl3
  generalize w.alloc (.cells #[.int .i64 (f.verb : Int), .string nm, .int .i64 (u : Int), .int .u32 (t : Int)] 29 (0, 0)) = w1 at *
  generalize hrb : w.heap.size = rb at *
  refine start_ (n := 6) (S := fun w' => w'.cell? ⟨rb, 0, none⟩ = some (.int .i64 (f.verb : Int))) (ds := []) #[false, false, false, false, false, false] (by kernel_rfl) rfl rfl (cl0) (fun hHeld => ?_)
  replace BX := Aside0.mk (below_drew BX.out)
  replace LX := Aside0.mk (blk_drew LX.out)
  clear cl0
  generalize w1.drew = wd at BX LX hHeld ⊢
  refine pure_ (i := 1) (N := (some 21)) (v := ?_) (a' := ?_) #[false, true, false, false, false, false] rfl rfl (by kernel_rfl) (fun _ _ _ h => h) (Or.inl ⟨by rfl, ?_⟩) ?_ ?_
  rotate_left
  · intro w'
    go_simp
    with_reducible rfl
  rotate_left
  · simp only [Act.put, List.setIfInBounds_toArray, List.set_cons_zero, List.set_cons_succ, i64_w, i32_w]
    rfl
  refine take_ (i := 2) (N := (some 22)) (v := ?_) (a' := ?_) #[false, true, true, false, false, false] rfl rfl (by kernel_rfl) (fun _ _ _ h => h) (Or.inl ⟨by rfl, ?_⟩) hHeld ?_ ?_
  rotate_left
  · intro w' s0
    go_simp
    with_reducible rfl
  rotate_left
  · simp only [Act.put, List.setIfInBounds_toArray, List.set_cons_zero, List.set_cons_succ, i64_w, i32_w]
    rfl
  refine one_ (i := 0) (N := (some 20)) #[true, true, true, false, false, false] rfl rfl (by kernel_rfl) (by decide) (fun K hK => ?_)
  refine goes_ Tryd.func19 (by kernel_rfl) rfl #[] (by rfl) rfl rfl (by first | (simp only [List.map_toArray, List.map_cons, List.map_nil]; done) | (simp only [List.map_toArray, List.map_cons, List.map_nil]; rfl)) ?_
  with_reducible refine (verbs_any _).mono ?_
  rintro e w5 ⟨rfl, rfl⟩
  have e5 := HVC.out wd
  have s5 := pw_cell_below (below_alloc (Below.refl _ _) (.cells verbCells 9 (0, 0))) hHeld
  replace BX := Aside0.mk (BX.out.alloc (Nat.le_of_lt (blk_lt LX.out)) (.cells verbCells 9 (0, 0)))
  replace LX := Aside0.mk (blk_alloc LX.out (.cells verbCells 9 (0, 0)))
  clear hHeld
  generalize wd.alloc (.cells verbCells 9 (0, 0)) = w5 at *
  generalize wd.heap.size = Tm at *
  refine ⟨_, rfl, ?_⟩
  refine hK.out _ _ (s5) (fun hHeld => ?_)
  clear hK K
  refine norm_ (a' := ?_) ?_ ?_
  rotate_left
  · show Act.put _ (some 20) _ = _
    simp only [Act.put, List.setIfInBounds_toArray, List.set_cons_zero, List.set_cons_succ, i64_w, i32_w]
    rfl
  refine pure_ (i := 3) (N := (some 23)) (v := ?_) (a' := ?_) #[true, true, true, true, false, false] rfl rfl (by kernel_rfl) (fun _ _ _ h => h) (Or.inl ⟨by rfl, ?_⟩) ?_ ?_
  rotate_left
  · intro w'
    go_simp
    with_reducible rfl
  rotate_left
  · simp only [Act.put, List.setIfInBounds_toArray, List.set_cons_zero, List.set_cons_succ, i64_w, i32_w]
    rfl
  refine one_ (i := 4) (N := (some 24)) #[true, true, true, true, true, false] rfl rfl (by kernel_rfl) (by decide) (fun K hK => ?_)
  refine value_ (w1 := ?_) (v := ?_) (by rfl) rfl ?_ ?_
  rotate_left 2
  · go_simp
    constructor
    · rfl
    · rfl
  refine hK.out _ _ ((by assumption)) (fun hHeld => ?_)
  clear hK K
  refine norm_ (a' := ?_) ?_ ?_
  rotate_left
  · show Act.put _ (some 24) _ = _
    simp only [Act.put, List.setIfInBounds_toArray, List.set_cons_zero, List.set_cons_succ, i64_w, i32_w]
    rfl
  refine pure_ (i := 5) (N := (some 4)) (v := ?_) (a' := ?_) #[true, true, true, true, true, true] rfl rfl (by kernel_rfl) (fun _ _ _ h => h) (Or.inl ⟨by rfl, ?_⟩) ?_ ?_
  rotate_left
  · intro w'
    go_simp
    with_reducible rfl
  rotate_left
  · simp only [Act.put, List.setIfInBounds_toArray, List.set_cons_zero, List.set_cons_succ, i64_w, i32_w]
    rfl
  refine done_ (by kernel_rfl) ?_
  have hem := Aside0.mk (show nm.toList.isEmpty = decide (nm.data.toList = []) by rw [toList_data, Bool.eq_iff_iff, List.isEmpty_iff, decide_eq_true_iff])
  by_cases h3 : f.verb = 3
  · have hd3 : ((f.verb : Int) == 3) = true := by simp; omega
    by_cases hne : nm.data.toList = []
    · have hee : nm.toList.isEmpty = true := by rw [hem.out, decide_eq_true hne]
      have HEM := Aside0.mk hne
      clear hne hem
      have cl0 := (blk_cell LX.out 0).trans (show _ = some (.int .i64 (f.verb : Int)) from rfl)
      have cl1 := (blk_cell LX.out 1).trans (show _ = some (.string nm) from rfl)
      have cl2 := (blk_cell LX.out 2).trans (show _ = some (.int .i64 (u : Int)) from rfl)
      have cl3 := (blk_cell LX.out 3).trans (show _ = some (.int .u32 (t : Int)) from rfl)
      go_upto_block 0 with (fail)
      clear cl0 cl1 cl2 cl3
      go_cut [4] from 36 to 78 (fun s4 wx => s4 = .string (lineOf (⟨(f.verb : Int), nm, (u : Int), (t : Int)⟩ : Ln) f) ∧ Aside0 (Below rb w wx) ∧ Aside0 (wx.heap[rb]? = some (.cells #[.int .i64 (f.verb : Int), .string nm, .int .i64 (u : Int), .int .u32 (t : Int)] 29 (0, 0))))
      case first =>
        obtain rfl : f = ⟨3, [109, 105, 110, 116], [65, 67, 85]⟩ := verb_one f HF.out _ (by decide) h3
        have hws : (ofL [109, 105, 110, 116]).size = 4 := rfl
        go_upto_region 13 with (fail)
        refine start_ (n := 16) (S := fun w' => w'.cell? ⟨rb, 2, none⟩ = some (.int .i64 (u : Int)) ∧ w'.cell? ⟨rb, 3, none⟩ = some (.int .u32 (t : Int))) (ds := []) #[false, false, false, false, false, false, false, false, false, false, false, false, false, false, false, false] (by kernel_rfl) rfl rfl ⟨(show w5.cell? ⟨rb, 2, none⟩ = some (.int .i64 (u : Int)) from blk_cell LX.out 2), (show w5.cell? ⟨rb, 3, none⟩ = some (.int .u32 (t : Int)) from blk_cell LX.out 3)⟩ (fun hHeld => ?_)
        replace BX := Aside0.mk (below_drew BX.out)
        replace LX := Aside0.mk (blk_drew LX.out)
        generalize w5.drew = wd2 at BX LX hHeld ⊢
        refine pure_ (i := 0) (N := (some 55)) (v := ?_) (a' := ?_) #[true, false, false, false, false, false, false, false, false, false, false, false, false, false, false, false] rfl rfl (by kernel_rfl) (fun _ _ _ h => h) (Or.inl ⟨by rfl, ?_⟩) ?_ ?_
        rotate_left
        · intro w'
          go_simp
          with_reducible rfl
        rotate_left
        · simp only [Act.put, List.setIfInBounds_toArray, List.set_cons_zero, List.set_cons_succ, i64_w, i32_w]
          rfl
        refine pure_ (i := 1) (N := (some 56)) (v := ?_) (a' := ?_) #[true, true, false, false, false, false, false, false, false, false, false, false, false, false, false, false] rfl rfl (by kernel_rfl) (fun _ _ _ h => h) (Or.inl ⟨by rfl, ?_⟩) ?_ ?_
        rotate_left
        · intro w'
          go_simp
          with_reducible rfl
        rotate_left
        · simp only [Act.put, List.setIfInBounds_toArray, List.set_cons_zero, List.set_cons_succ, i64_w, i32_w]
          rfl
        refine pure_ (i := 2) (N := (some 57)) (v := ?_) (a' := ?_) #[true, true, true, false, false, false, false, false, false, false, false, false, false, false, false, false] rfl rfl (by kernel_rfl) (fun _ _ _ h => h) (Or.inl ⟨by rfl, ?_⟩) ?_ ?_
        rotate_left
        · intro w'
          go_simp
          first | (with_reducible rfl) | (rw [if_neg (by omega)])
        rotate_left
        · simp only [Act.put, List.setIfInBounds_toArray, List.set_cons_zero, List.set_cons_succ, i64_w, i32_w]
          rfl
        refine pure_ (i := 3) (N := (some 58)) (v := ?_) (a' := ?_) #[true, true, true, true, false, false, false, false, false, false, false, false, false, false, false, false] rfl rfl (by kernel_rfl) (fun _ _ _ h => h) (Or.inl ⟨by rfl, ?_⟩) ?_ ?_
        rotate_left
        · intro w'
          go_simp
          first | (with_reducible rfl) | (rw [if_neg (by omega)])
        rotate_left
        · simp only [Act.put, List.setIfInBounds_toArray, List.set_cons_zero, List.set_cons_succ, i64_w, i32_w]
          rfl
        refine pure_ (i := 4) (N := (some 59)) (v := ?_) (a' := ?_) #[true, true, true, true, true, false, false, false, false, false, false, false, false, false, false, false] rfl rfl (by kernel_rfl) (fun _ _ _ h => h) (Or.inl ⟨by rfl, ?_⟩) ?_ ?_
        rotate_left
        · intro w'
          go_simp
          with_reducible rfl
        rotate_left
        · simp only [Act.put, List.setIfInBounds_toArray, List.set_cons_zero, List.set_cons_succ, i64_w, i32_w]
          rfl
        refine pure_ (i := 9) (N := (some 64)) (v := ?_) (a' := ?_) #[true, true, true, true, true, false, false, false, false, true, false, false, false, false, false, false] rfl rfl (by kernel_rfl) (fun _ _ _ h => h) (Or.inl ⟨by rfl, ?_⟩) ?_ ?_
        rotate_left
        · intro w'
          go_simp
          with_reducible rfl
        rotate_left
        · simp only [Act.put, List.setIfInBounds_toArray, List.set_cons_zero, List.set_cons_succ, i64_w, i32_w]
          rfl
        refine take_ (i := 5) (N := (some 60)) (v := ?_) (a' := ?_) #[true, true, true, true, true, true, false, false, false, true, false, false, false, false, false, false] rfl rfl (by kernel_rfl) (fun _ _ _ h => h) (Or.inl ⟨by rfl, ?_⟩) hHeld ?_ ?_
        rotate_left
        · rintro w' ⟨s0, s1⟩
          go_simp
          with_reducible rfl
        rotate_left
        · simp only [Act.put, List.setIfInBounds_toArray, List.set_cons_zero, List.set_cons_succ, i64_w, i32_w]
          rfl
        refine take_ (i := 10) (N := (some 65)) (v := ?_) (a' := ?_) #[true, true, true, true, true, true, false, false, false, true, true, false, false, false, false, false] rfl rfl (by kernel_rfl) (fun _ _ _ h => h) (Or.inl ⟨by rfl, ?_⟩) hHeld ?_ ?_
        rotate_left
        · rintro w' ⟨s0, s1⟩
          go_simp
          with_reducible rfl
        rotate_left
        · simp only [Act.put, List.setIfInBounds_toArray, List.set_cons_zero, List.set_cons_succ, i64_w, i32_w]
          rfl
        refine pure_ (i := 11) (N := (some 66)) (v := ?_) (a' := ?_) #[true, true, true, true, true, true, false, false, false, true, true, true, false, false, false, false] rfl rfl (by kernel_rfl) (fun _ _ _ h => h) (Or.inl ⟨by rfl, ?_⟩) ?_ ?_
        rotate_left
        · intro w'
          go_simp
          first | (with_reducible rfl) | (rw [hcv])
        rotate_left
        · simp only [Act.put, List.setIfInBounds_toArray, List.set_cons_zero, List.set_cons_succ, i64_w, i32_w]
          rfl
        refine one_ (i := 6) (N := (some 61)) #[true, true, true, true, true, true, true, false, false, true, true, true, false, false, false, false] rfl rfl (by kernel_rfl) (by decide) (fun K hK => ?_)
        refine goes_ Tryd.func24 (by kernel_rfl) rfl #[.int .i64 (u : Int)] (by rfl) rfl rfl (by first | (simp only [List.map_toArray, List.map_cons, List.map_nil]; done) | (simp only [List.map_toArray, List.map_cons, List.map_nil]; rfl)) ?_
        with_reducible refine (LinN.decr_any u (hu) _).mono ?_
        rintro e w7 ⟨rfl, hb⟩
        replace BX := Aside0.mk (below_then BX.out (Nat.le_of_lt (blk_lt LX.out)) hb)
        replace LX := Aside0.mk (blk_below LX.out hb)
        clear hb hHeld
        refine ⟨_, rfl, ?_⟩
        refine hK.out _ _ ⟨(show w7.cell? ⟨rb, 2, none⟩ = some (.int .i64 (u : Int)) from blk_cell LX.out 2), (show w7.cell? ⟨rb, 3, none⟩ = some (.int .u32 (t : Int)) from blk_cell LX.out 3)⟩ (fun hHeld => ?_)
        clear hK K
        refine norm_ (a' := ?_) ?_ ?_
        rotate_left
        · show Act.put _ (some 61) _ = _
          simp only [Act.put, List.setIfInBounds_toArray, List.set_cons_zero, List.set_cons_succ, i64_w, i32_w]
          rfl
        refine pure_ (i := 7) (N := (some 62)) (v := ?_) (a' := ?_) #[true, true, true, true, true, true, true, true, false, true, true, true, false, false, false, false] rfl rfl (by kernel_rfl) (fun _ _ _ h => h) (Or.inl ⟨by rfl, ?_⟩) ?_ ?_
        rotate_left
        · intro w'
          go_simp
          first | (with_reducible rfl) | (rw [if_neg (by omega)])
        rotate_left
        · simp only [Act.put, List.setIfInBounds_toArray, List.set_cons_zero, List.set_cons_succ, i64_w, i32_w]
          rfl
        refine pure_ (i := 8) (N := (some 63)) (v := ?_) (a' := ?_) #[true, true, true, true, true, true, true, true, true, true, true, true, false, false, false, false] rfl rfl (by kernel_rfl) (fun _ _ _ h => h) (Or.inl ⟨by rfl, ?_⟩) ?_ ?_
        rotate_left
        · intro w'
          go_simp
          first | (with_reducible rfl) | (rw [if_neg (by omega)])
        rotate_left
        · simp only [Act.put, List.setIfInBounds_toArray, List.set_cons_zero, List.set_cons_succ, i64_w, i32_w]
          rfl
        refine one_ (i := 12) (N := (some 67)) #[true, true, true, true, true, true, true, true, true, true, true, true, true, false, false, false] rfl rfl (by kernel_rfl) (by decide) (fun K hK => ?_)
        refine goes_ Tryd.func24 (by kernel_rfl) rfl #[.int .i64 (t : Int)] (by rfl) rfl rfl (by first | (simp only [List.map_toArray, List.map_cons, List.map_nil]; done) | (simp only [List.map_toArray, List.map_cons, List.map_nil]; rfl)) ?_
        with_reducible refine (LinN.decr_any t (by omega) _).mono ?_
        rintro e w8 ⟨rfl, hb⟩
        replace BX := Aside0.mk (below_then BX.out (Nat.le_of_lt (blk_lt LX.out)) hb)
        replace LX := Aside0.mk (blk_below LX.out hb)
        clear hb hHeld
        refine ⟨_, rfl, ?_⟩
        refine hK.out _ _ ⟨(show w8.cell? ⟨rb, 2, none⟩ = some (.int .i64 (u : Int)) from blk_cell LX.out 2), (show w8.cell? ⟨rb, 3, none⟩ = some (.int .u32 (t : Int)) from blk_cell LX.out 3)⟩ (fun hHeld => ?_)
        clear hK K
        refine norm_ (a' := ?_) ?_ ?_
        rotate_left
        · show Act.put _ (some 67) _ = _
          simp only [Act.put, List.setIfInBounds_toArray, List.set_cons_zero, List.set_cons_succ, i64_w, i32_w]
          rfl
        refine pure_ (i := 13) (N := (some 68)) (v := ?_) (a' := ?_) #[true, true, true, true, true, true, true, true, true, true, true, true, true, true, false, false] rfl rfl (by kernel_rfl) (fun _ _ _ h => h) (Or.inl ⟨by rfl, ?_⟩) ?_ ?_
        rotate_left
        · intro w'
          go_simp
          first | (with_reducible rfl) | (rw [if_neg (by omega)])
        rotate_left
        · simp only [Act.put, List.setIfInBounds_toArray, List.set_cons_zero, List.set_cons_succ, i64_w, i32_w]
          rfl
        refine pure_ (i := 14) (N := (some 69)) (v := ?_) (a' := ?_) #[true, true, true, true, true, true, true, true, true, true, true, true, true, true, true, false] rfl rfl (by kernel_rfl) (fun _ _ _ h => h) (Or.inl ⟨by rfl, ?_⟩) ?_ ?_
        rotate_left
        · intro w'
          go_simp
          first | (with_reducible rfl) | (rw [if_neg (by omega)])
        rotate_left
        · simp only [Act.put, List.setIfInBounds_toArray, List.set_cons_zero, List.set_cons_succ, i64_w, i32_w]
          rfl
        refine pure_ (i := 15) (N := (some 4)) (v := ?_) (a' := ?_) #[true, true, true, true, true, true, true, true, true, true, true, true, true, true, true, true] rfl rfl (by kernel_rfl) (fun _ _ _ h => h) (Or.inl ⟨by rfl, ?_⟩) ?_ ?_
        rotate_left
        · intro w'
          go_simp
          with_reducible rfl
        rotate_left
        · simp only [Act.put, List.setIfInBounds_toArray, List.set_cons_zero, List.set_cons_succ, i64_w, i32_w]
          rfl
        refine done_ (by kernel_rfl) ?_
        go_wp2_with fail
        go_meet
        exact ⟨congrArg Value.string (line_at _ _ _ (by simp [LinI.app_data, ofL_data, join, textOf, itoa_nat, HEM.out])), BX, LX⟩
      case rest =>
        obtain ⟨rfl, BX, LX⟩ := hcut
        clear h3 hd3 hee
        skip
        cases hp : parseF (lineOf (⟨(f.verb : Int), nm, (u : Int), (t : Int)⟩ : Ln) f) with
        | none =>
          have HP := Aside0.mk hp
          clear hp
          go_wp2_with fail
          refine (parser_n _ HP.out _).mono ?_
          rintro e w9 ⟨rfl, hb⟩
          replace BX := Aside0.mk (below_then BX.out (Nat.le_of_lt (blk_lt LX.out)) hb)
          replace LX := Aside0.mk (blk_below LX.out hb)
          clear hb
          go_upto_region 18 with (fail)
          have GX := Aside0.mk (blk_new w9 (.cells #[.int .i64 0, .string ⟨#[]⟩, .int .i64 0, .int .u32 0, .int .i64 11] 31 (0, 0)))
          replace BX := Aside0.mk (BX.out.alloc (Nat.le_of_lt (blk_lt LX.out)) (.cells #[.int .i64 0, .string ⟨#[]⟩, .int .i64 0, .int .u32 0, .int .i64 11] 31 (0, 0)))
          replace LX := Aside0.mk (blk_alloc LX.out (.cells #[.int .i64 0, .string ⟨#[]⟩, .int .i64 0, .int .u32 0, .int .i64 11] 31 (0, 0)))
          generalize w9.alloc (.cells #[.int .i64 0, .string ⟨#[]⟩, .int .i64 0, .int .u32 0, .int .i64 11] 31 (0, 0)) = w10 at *
          generalize w9.heap.size = bg at *
          have cg0 := (blk_cell GX.out 0).trans (show _ = some (.int .i64 0) from rfl)
          have cg1 := (blk_cell GX.out 1).trans (show _ = some (.string ⟨#[]⟩) from rfl)
          have cg2 := (blk_cell GX.out 2).trans (show _ = some (.int .i64 0) from rfl)
          have cg3 := (blk_cell GX.out 3).trans (show _ = some (.int .u32 0) from rfl)
          have cg4 := (blk_cell GX.out 4).trans (show _ = some (.int .i64 11) from rfl)
          have HR := Aside0.mk (show textF (⟨(f.verb : Int), nm, (u : Int), (t : Int)⟩ : Ln) = none by rw [HT.out, HP.out, if_neg (fun h => by cases h)])
          go_wp2_with fail
          go_ret2
          exact ⟨by rw [HR.out]; rfl, by first | exact BX.out | (rw [hrb]; exact BX.out)⟩
        | some m =>
          have HP := Aside0.mk hp
          clear hp
          go_wp2_with fail
          refine (parser_s _ m HP.out _).mono ?_
          rintro e w9 ⟨rfl, hb⟩
          replace BX := Aside0.mk (below_then BX.out (Nat.le_of_lt (blk_lt LX.out)) hb)
          replace LX := Aside0.mk (blk_below LX.out hb)
          clear hb
          go_upto_region 18 with (fail)
          have GX := Aside0.mk (blk_new w9 (.cells #[.int .i64 m.verb, .string m.name, .int .i64 m.n, .int .u32 m.till, .int .i64 0] 31 (0, 0)))
          replace BX := Aside0.mk (BX.out.alloc (Nat.le_of_lt (blk_lt LX.out)) (.cells #[.int .i64 m.verb, .string m.name, .int .i64 m.n, .int .u32 m.till, .int .i64 0] 31 (0, 0)))
          replace LX := Aside0.mk (blk_alloc LX.out (.cells #[.int .i64 m.verb, .string m.name, .int .i64 m.n, .int .u32 m.till, .int .i64 0] 31 (0, 0)))
          generalize w9.alloc (.cells #[.int .i64 m.verb, .string m.name, .int .i64 m.n, .int .u32 m.till, .int .i64 0] 31 (0, 0)) = w10 at *
          generalize w9.heap.size = bg at *
          have cg0 := (blk_cell GX.out 0).trans (show _ = some (.int .i64 m.verb) from rfl)
          have cg1 := (blk_cell GX.out 1).trans (show _ = some (.string m.name) from rfl)
          have cg2 := (blk_cell GX.out 2).trans (show _ = some (.int .i64 m.n) from rfl)
          have cg3 := (blk_cell GX.out 3).trans (show _ = some (.int .u32 m.till) from rfl)
          have cg4 := (blk_cell GX.out 4).trans (show _ = some (.int .i64 0) from rfl)
          have cl0 := (blk_cell LX.out 0).trans (show _ = some (.int .i64 (f.verb : Int)) from rfl)
          have cl1 := (blk_cell LX.out 1).trans (show _ = some (.string nm) from rfl)
          have cl2 := (blk_cell LX.out 2).trans (show _ = some (.int .i64 (u : Int)) from rfl)
          have cl3 := (blk_cell LX.out 3).trans (show _ = some (.int .u32 (t : Int)) from rfl)
          have heq := eq_ln m (⟨(f.verb : Int), nm, (u : Int), (t : Int)⟩ : Ln)
          by_cases hml : m = (⟨(f.verb : Int), nm, (u : Int), (t : Int)⟩ : Ln)
          · rw [decide_eq_true hml] at heq
            have HR := Aside0.mk (show textF (⟨(f.verb : Int), nm, (u : Int), (t : Int)⟩ : Ln) = some (lineOf (⟨(f.verb : Int), nm, (u : Int), (t : Int)⟩ : Ln) f) by rw [HT.out, HP.out, if_pos (by rw [hml])])
            clear hml
            go_wp2_with fail
            go_ret2
            exact ⟨by rw [HR.out]; rfl, by first | exact BX.out | (rw [hrb]; exact BX.out)⟩
          · rw [decide_eq_false hml] at heq
            have HR := Aside0.mk (show textF (⟨(f.verb : Int), nm, (u : Int), (t : Int)⟩ : Ln) = none by rw [HT.out, HP.out, if_neg (fun h => hml (Option.some.inj h))])
            clear hml
            go_wp2_with fail
            go_ret2
            exact ⟨by rw [HR.out]; rfl, by first | exact BX.out | (rw [hrb]; exact BX.out)⟩
    · have hee : nm.toList.isEmpty = false := by rw [hem.out, decide_eq_false hne]
      have hem := hne
      clear hne
      have cl0 := (blk_cell LX.out 0).trans (show _ = some (.int .i64 (f.verb : Int)) from rfl)
      have cl1 := (blk_cell LX.out 1).trans (show _ = some (.string nm) from rfl)
      have cl2 := (blk_cell LX.out 2).trans (show _ = some (.int .i64 (u : Int)) from rfl)
      have cl3 := (blk_cell LX.out 3).trans (show _ = some (.int .u32 (t : Int)) from rfl)
      go_upto_block 0 with (fail)
      clear cl0 cl1 cl2 cl3
      go_cut [4] from 36 to 78 (fun s4 wx => s4 = .string (lineOf (⟨(f.verb : Int), nm, (u : Int), (t : Int)⟩ : Ln) f) ∧ Aside0 (Below rb w wx) ∧ Aside0 (wx.heap[rb]? = some (.cells #[.int .i64 (f.verb : Int), .string nm, .int .i64 (u : Int), .int .u32 (t : Int)] 29 (0, 0))))
      case first =>
        obtain rfl : f = ⟨3, [109, 105, 110, 116], [65, 67, 85]⟩ := verb_one f HF.out _ (by decide) h3
        have hws : (ofL [109, 105, 110, 116]).size = 4 := rfl
        go_upto_region 13 with (fail)
        refine start_ (n := 16) (S := fun w' => w'.cell? ⟨rb, 2, none⟩ = some (.int .i64 (u : Int)) ∧ w'.cell? ⟨rb, 3, none⟩ = some (.int .u32 (t : Int))) (ds := []) #[false, false, false, false, false, false, false, false, false, false, false, false, false, false, false, false] (by kernel_rfl) rfl rfl ⟨(show w5.cell? ⟨rb, 2, none⟩ = some (.int .i64 (u : Int)) from blk_cell LX.out 2), (show w5.cell? ⟨rb, 3, none⟩ = some (.int .u32 (t : Int)) from blk_cell LX.out 3)⟩ (fun hHeld => ?_)
        replace BX := Aside0.mk (below_drew BX.out)
        replace LX := Aside0.mk (blk_drew LX.out)
        generalize w5.drew = wd2 at BX LX hHeld ⊢
        refine pure_ (i := 0) (N := (some 55)) (v := ?_) (a' := ?_) #[true, false, false, false, false, false, false, false, false, false, false, false, false, false, false, false] rfl rfl (by kernel_rfl) (fun _ _ _ h => h) (Or.inl ⟨by rfl, ?_⟩) ?_ ?_
        rotate_left
        · intro w'
          go_simp
          with_reducible rfl
        rotate_left
        · simp only [Act.put, List.setIfInBounds_toArray, List.set_cons_zero, List.set_cons_succ, i64_w, i32_w]
          rfl
        refine pure_ (i := 1) (N := (some 56)) (v := ?_) (a' := ?_) #[true, true, false, false, false, false, false, false, false, false, false, false, false, false, false, false] rfl rfl (by kernel_rfl) (fun _ _ _ h => h) (Or.inl ⟨by rfl, ?_⟩) ?_ ?_
        rotate_left
        · intro w'
          go_simp
          with_reducible rfl
        rotate_left
        · simp only [Act.put, List.setIfInBounds_toArray, List.set_cons_zero, List.set_cons_succ, i64_w, i32_w]
          rfl
        refine pure_ (i := 2) (N := (some 57)) (v := ?_) (a' := ?_) #[true, true, true, false, false, false, false, false, false, false, false, false, false, false, false, false] rfl rfl (by kernel_rfl) (fun _ _ _ h => h) (Or.inl ⟨by rfl, ?_⟩) ?_ ?_
        rotate_left
        · intro w'
          go_simp
          first | (with_reducible rfl) | (rw [if_neg (by omega)])
        rotate_left
        · simp only [Act.put, List.setIfInBounds_toArray, List.set_cons_zero, List.set_cons_succ, i64_w, i32_w]
          rfl
        refine pure_ (i := 3) (N := (some 58)) (v := ?_) (a' := ?_) #[true, true, true, true, false, false, false, false, false, false, false, false, false, false, false, false] rfl rfl (by kernel_rfl) (fun _ _ _ h => h) (Or.inl ⟨by rfl, ?_⟩) ?_ ?_
        rotate_left
        · intro w'
          go_simp
          first | (with_reducible rfl) | (rw [if_neg (by omega)])
        rotate_left
        · simp only [Act.put, List.setIfInBounds_toArray, List.set_cons_zero, List.set_cons_succ, i64_w, i32_w]
          rfl
        refine pure_ (i := 4) (N := (some 59)) (v := ?_) (a' := ?_) #[true, true, true, true, true, false, false, false, false, false, false, false, false, false, false, false] rfl rfl (by kernel_rfl) (fun _ _ _ h => h) (Or.inl ⟨by rfl, ?_⟩) ?_ ?_
        rotate_left
        · intro w'
          go_simp
          with_reducible rfl
        rotate_left
        · simp only [Act.put, List.setIfInBounds_toArray, List.set_cons_zero, List.set_cons_succ, i64_w, i32_w]
          rfl
        refine pure_ (i := 9) (N := (some 64)) (v := ?_) (a' := ?_) #[true, true, true, true, true, false, false, false, false, true, false, false, false, false, false, false] rfl rfl (by kernel_rfl) (fun _ _ _ h => h) (Or.inl ⟨by rfl, ?_⟩) ?_ ?_
        rotate_left
        · intro w'
          go_simp
          with_reducible rfl
        rotate_left
        · simp only [Act.put, List.setIfInBounds_toArray, List.set_cons_zero, List.set_cons_succ, i64_w, i32_w]
          rfl
        refine take_ (i := 5) (N := (some 60)) (v := ?_) (a' := ?_) #[true, true, true, true, true, true, false, false, false, true, false, false, false, false, false, false] rfl rfl (by kernel_rfl) (fun _ _ _ h => h) (Or.inl ⟨by rfl, ?_⟩) hHeld ?_ ?_
        rotate_left
        · rintro w' ⟨s0, s1⟩
          go_simp
          with_reducible rfl
        rotate_left
        · simp only [Act.put, List.setIfInBounds_toArray, List.set_cons_zero, List.set_cons_succ, i64_w, i32_w]
          rfl
        refine take_ (i := 10) (N := (some 65)) (v := ?_) (a' := ?_) #[true, true, true, true, true, true, false, false, false, true, true, false, false, false, false, false] rfl rfl (by kernel_rfl) (fun _ _ _ h => h) (Or.inl ⟨by rfl, ?_⟩) hHeld ?_ ?_
        rotate_left
        · rintro w' ⟨s0, s1⟩
          go_simp
          with_reducible rfl
        rotate_left
        · simp only [Act.put, List.setIfInBounds_toArray, List.set_cons_zero, List.set_cons_succ, i64_w, i32_w]
          rfl
        refine pure_ (i := 11) (N := (some 66)) (v := ?_) (a' := ?_) #[true, true, true, true, true, true, false, false, false, true, true, true, false, false, false, false] rfl rfl (by kernel_rfl) (fun _ _ _ h => h) (Or.inl ⟨by rfl, ?_⟩) ?_ ?_
        rotate_left
        · intro w'
          go_simp
          first | (with_reducible rfl) | (rw [hcv])
        rotate_left
        · simp only [Act.put, List.setIfInBounds_toArray, List.set_cons_zero, List.set_cons_succ, i64_w, i32_w]
          rfl
        refine one_ (i := 6) (N := (some 61)) #[true, true, true, true, true, true, true, false, false, true, true, true, false, false, false, false] rfl rfl (by kernel_rfl) (by decide) (fun K hK => ?_)
        refine goes_ Tryd.func24 (by kernel_rfl) rfl #[.int .i64 (u : Int)] (by rfl) rfl rfl (by first | (simp only [List.map_toArray, List.map_cons, List.map_nil]; done) | (simp only [List.map_toArray, List.map_cons, List.map_nil]; rfl)) ?_
        with_reducible refine (LinN.decr_any u (hu) _).mono ?_
        rintro e w7 ⟨rfl, hb⟩
        replace BX := Aside0.mk (below_then BX.out (Nat.le_of_lt (blk_lt LX.out)) hb)
        replace LX := Aside0.mk (blk_below LX.out hb)
        clear hb hHeld
        refine ⟨_, rfl, ?_⟩
        refine hK.out _ _ ⟨(show w7.cell? ⟨rb, 2, none⟩ = some (.int .i64 (u : Int)) from blk_cell LX.out 2), (show w7.cell? ⟨rb, 3, none⟩ = some (.int .u32 (t : Int)) from blk_cell LX.out 3)⟩ (fun hHeld => ?_)
        clear hK K
        refine norm_ (a' := ?_) ?_ ?_
        rotate_left
        · show Act.put _ (some 61) _ = _
          simp only [Act.put, List.setIfInBounds_toArray, List.set_cons_zero, List.set_cons_succ, i64_w, i32_w]
          rfl
        refine pure_ (i := 7) (N := (some 62)) (v := ?_) (a' := ?_) #[true, true, true, true, true, true, true, true, false, true, true, true, false, false, false, false] rfl rfl (by kernel_rfl) (fun _ _ _ h => h) (Or.inl ⟨by rfl, ?_⟩) ?_ ?_
        rotate_left
        · intro w'
          go_simp
          first | (with_reducible rfl) | (rw [if_neg (by omega)])
        rotate_left
        · simp only [Act.put, List.setIfInBounds_toArray, List.set_cons_zero, List.set_cons_succ, i64_w, i32_w]
          rfl
        refine pure_ (i := 8) (N := (some 63)) (v := ?_) (a' := ?_) #[true, true, true, true, true, true, true, true, true, true, true, true, false, false, false, false] rfl rfl (by kernel_rfl) (fun _ _ _ h => h) (Or.inl ⟨by rfl, ?_⟩) ?_ ?_
        rotate_left
        · intro w'
          go_simp
          first | (with_reducible rfl) | (rw [if_neg (by omega)])
        rotate_left
        · simp only [Act.put, List.setIfInBounds_toArray, List.set_cons_zero, List.set_cons_succ, i64_w, i32_w]
          rfl
        refine one_ (i := 12) (N := (some 67)) #[true, true, true, true, true, true, true, true, true, true, true, true, true, false, false, false] rfl rfl (by kernel_rfl) (by decide) (fun K hK => ?_)
        refine goes_ Tryd.func24 (by kernel_rfl) rfl #[.int .i64 (t : Int)] (by rfl) rfl rfl (by first | (simp only [List.map_toArray, List.map_cons, List.map_nil]; done) | (simp only [List.map_toArray, List.map_cons, List.map_nil]; rfl)) ?_
        with_reducible refine (LinN.decr_any t (by omega) _).mono ?_
        rintro e w8 ⟨rfl, hb⟩
        replace BX := Aside0.mk (below_then BX.out (Nat.le_of_lt (blk_lt LX.out)) hb)
        replace LX := Aside0.mk (blk_below LX.out hb)
        clear hb hHeld
        refine ⟨_, rfl, ?_⟩
        refine hK.out _ _ ⟨(show w8.cell? ⟨rb, 2, none⟩ = some (.int .i64 (u : Int)) from blk_cell LX.out 2), (show w8.cell? ⟨rb, 3, none⟩ = some (.int .u32 (t : Int)) from blk_cell LX.out 3)⟩ (fun hHeld => ?_)
        clear hK K
        refine norm_ (a' := ?_) ?_ ?_
        rotate_left
        · show Act.put _ (some 67) _ = _
          simp only [Act.put, List.setIfInBounds_toArray, List.set_cons_zero, List.set_cons_succ, i64_w, i32_w]
          rfl
        refine pure_ (i := 13) (N := (some 68)) (v := ?_) (a' := ?_) #[true, true, true, true, true, true, true, true, true, true, true, true, true, true, false, false] rfl rfl (by kernel_rfl) (fun _ _ _ h => h) (Or.inl ⟨by rfl, ?_⟩) ?_ ?_
        rotate_left
        · intro w'
          go_simp
          first | (with_reducible rfl) | (rw [if_neg (by omega)])
        rotate_left
        · simp only [Act.put, List.setIfInBounds_toArray, List.set_cons_zero, List.set_cons_succ, i64_w, i32_w]
          rfl
        refine pure_ (i := 14) (N := (some 69)) (v := ?_) (a' := ?_) #[true, true, true, true, true, true, true, true, true, true, true, true, true, true, true, false] rfl rfl (by kernel_rfl) (fun _ _ _ h => h) (Or.inl ⟨by rfl, ?_⟩) ?_ ?_
        rotate_left
        · intro w'
          go_simp
          first | (with_reducible rfl) | (rw [if_neg (by omega)])
        rotate_left
        · simp only [Act.put, List.setIfInBounds_toArray, List.set_cons_zero, List.set_cons_succ, i64_w, i32_w]
          rfl
        refine pure_ (i := 15) (N := (some 4)) (v := ?_) (a' := ?_) #[true, true, true, true, true, true, true, true, true, true, true, true, true, true, true, true] rfl rfl (by kernel_rfl) (fun _ _ _ h => h) (Or.inl ⟨by rfl, ?_⟩) ?_ ?_
        rotate_left
        · intro w'
          go_simp
          with_reducible rfl
        rotate_left
        · simp only [Act.put, List.setIfInBounds_toArray, List.set_cons_zero, List.set_cons_succ, i64_w, i32_w]
          rfl
        refine done_ (by kernel_rfl) ?_
        go_wp2_with fail
        go_meet
        exact ⟨congrArg Value.string (line_at _ _ _ (by simp [LinI.app_data, ofL_data, join, textOf, itoa_nat, hem])), BX, LX⟩
      case rest =>
        obtain ⟨rfl, BX, LX⟩ := hcut
        clear h3 hd3 hee
        skip
        cases hp : parseF (lineOf (⟨(f.verb : Int), nm, (u : Int), (t : Int)⟩ : Ln) f) with
        | none =>
          have HP := Aside0.mk hp
          clear hp
          go_wp2_with fail
          refine (parser_n _ HP.out _).mono ?_
          rintro e w9 ⟨rfl, hb⟩
          replace BX := Aside0.mk (below_then BX.out (Nat.le_of_lt (blk_lt LX.out)) hb)
          replace LX := Aside0.mk (blk_below LX.out hb)
          clear hb
          go_upto_region 18 with (fail)
          have GX := Aside0.mk (blk_new w9 (.cells #[.int .i64 0, .string ⟨#[]⟩, .int .i64 0, .int .u32 0, .int .i64 11] 31 (0, 0)))
          replace BX := Aside0.mk (BX.out.alloc (Nat.le_of_lt (blk_lt LX.out)) (.cells #[.int .i64 0, .string ⟨#[]⟩, .int .i64 0, .int .u32 0, .int .i64 11] 31 (0, 0)))
          replace LX := Aside0.mk (blk_alloc LX.out (.cells #[.int .i64 0, .string ⟨#[]⟩, .int .i64 0, .int .u32 0, .int .i64 11] 31 (0, 0)))
          generalize w9.alloc (.cells #[.int .i64 0, .string ⟨#[]⟩, .int .i64 0, .int .u32 0, .int .i64 11] 31 (0, 0)) = w10 at *
          generalize w9.heap.size = bg at *
          have cg0 := (blk_cell GX.out 0).trans (show _ = some (.int .i64 0) from rfl)
          have cg1 := (blk_cell GX.out 1).trans (show _ = some (.string ⟨#[]⟩) from rfl)
          have cg2 := (blk_cell GX.out 2).trans (show _ = some (.int .i64 0) from rfl)
          have cg3 := (blk_cell GX.out 3).trans (show _ = some (.int .u32 0) from rfl)
          have cg4 := (blk_cell GX.out 4).trans (show _ = some (.int .i64 11) from rfl)
          have HR := Aside0.mk (show textF (⟨(f.verb : Int), nm, (u : Int), (t : Int)⟩ : Ln) = none by rw [HT.out, HP.out, if_neg (fun h => by cases h)])
          go_wp2_with fail
          go_ret2
          exact ⟨by rw [HR.out]; rfl, by first | exact BX.out | (rw [hrb]; exact BX.out)⟩
        | some m =>
          have HP := Aside0.mk hp
          clear hp
          go_wp2_with fail
          refine (parser_s _ m HP.out _).mono ?_
          rintro e w9 ⟨rfl, hb⟩
          replace BX := Aside0.mk (below_then BX.out (Nat.le_of_lt (blk_lt LX.out)) hb)
          replace LX := Aside0.mk (blk_below LX.out hb)
          clear hb
          go_upto_region 18 with (fail)
          have GX := Aside0.mk (blk_new w9 (.cells #[.int .i64 m.verb, .string m.name, .int .i64 m.n, .int .u32 m.till, .int .i64 0] 31 (0, 0)))
          replace BX := Aside0.mk (BX.out.alloc (Nat.le_of_lt (blk_lt LX.out)) (.cells #[.int .i64 m.verb, .string m.name, .int .i64 m.n, .int .u32 m.till, .int .i64 0] 31 (0, 0)))
          replace LX := Aside0.mk (blk_alloc LX.out (.cells #[.int .i64 m.verb, .string m.name, .int .i64 m.n, .int .u32 m.till, .int .i64 0] 31 (0, 0)))
          generalize w9.alloc (.cells #[.int .i64 m.verb, .string m.name, .int .i64 m.n, .int .u32 m.till, .int .i64 0] 31 (0, 0)) = w10 at *
          generalize w9.heap.size = bg at *
          have cg0 := (blk_cell GX.out 0).trans (show _ = some (.int .i64 m.verb) from rfl)
          have cg1 := (blk_cell GX.out 1).trans (show _ = some (.string m.name) from rfl)
          have cg2 := (blk_cell GX.out 2).trans (show _ = some (.int .i64 m.n) from rfl)
          have cg3 := (blk_cell GX.out 3).trans (show _ = some (.int .u32 m.till) from rfl)
          have cg4 := (blk_cell GX.out 4).trans (show _ = some (.int .i64 0) from rfl)
          have cl0 := (blk_cell LX.out 0).trans (show _ = some (.int .i64 (f.verb : Int)) from rfl)
          have cl1 := (blk_cell LX.out 1).trans (show _ = some (.string nm) from rfl)
          have cl2 := (blk_cell LX.out 2).trans (show _ = some (.int .i64 (u : Int)) from rfl)
          have cl3 := (blk_cell LX.out 3).trans (show _ = some (.int .u32 (t : Int)) from rfl)
          have heq := eq_ln m (⟨(f.verb : Int), nm, (u : Int), (t : Int)⟩ : Ln)
          by_cases hml : m = (⟨(f.verb : Int), nm, (u : Int), (t : Int)⟩ : Ln)
          · rw [decide_eq_true hml] at heq
            have HR := Aside0.mk (show textF (⟨(f.verb : Int), nm, (u : Int), (t : Int)⟩ : Ln) = some (lineOf (⟨(f.verb : Int), nm, (u : Int), (t : Int)⟩ : Ln) f) by rw [HT.out, HP.out, if_pos (by rw [hml])])
            clear hml
            go_wp2_with fail
            go_ret2
            exact ⟨by rw [HR.out]; rfl, by first | exact BX.out | (rw [hrb]; exact BX.out)⟩
          · rw [decide_eq_false hml] at heq
            have HR := Aside0.mk (show textF (⟨(f.verb : Int), nm, (u : Int), (t : Int)⟩ : Ln) = none by rw [HT.out, HP.out, if_neg (fun h => hml (Option.some.inj h))])
            clear hml
            go_wp2_with fail
            go_ret2
            exact ⟨by rw [HR.out]; rfl, by first | exact BX.out | (rw [hrb]; exact BX.out)⟩
  · have hd3 : ((f.verb : Int) == 3) = false := by simp; omega
    clear hem
    have cl0 := (blk_cell LX.out 0).trans (show _ = some (.int .i64 (f.verb : Int)) from rfl)
    have cl1 := (blk_cell LX.out 1).trans (show _ = some (.string nm) from rfl)
    have cl2 := (blk_cell LX.out 2).trans (show _ = some (.int .i64 (u : Int)) from rfl)
    have cl3 := (blk_cell LX.out 3).trans (show _ = some (.int .u32 (t : Int)) from rfl)
    go_upto_block 0 with (fail)
    clear cl0 cl1 cl2 cl3
    go_cut [4] from 36 to 78 (fun s4 wx => s4 = .string (lineOf (⟨(f.verb : Int), nm, (u : Int), (t : Int)⟩ : Ln) f) ∧ Aside0 (Below rb w wx) ∧ Aside0 (wx.heap[rb]? = some (.cells #[.int .i64 (f.verb : Int), .string nm, .int .i64 (u : Int), .int .u32 (t : Int)] 29 (0, 0))))
    case first =>
      have hff := HF.out
      simp only [forms, List.mem_cons, List.mem_nil_iff, or_false] at hff
      clear hd3
      rcases hff with rfl | rfl | rfl | rfl | rfl | rfl | rfl
      · skip
        have hws : (ofL [109, 97, 107, 101]).size = 4 := rfl
        have cl0 := (blk_cell LX.out 0).trans (show _ = some (.int .i64 1) from rfl)
        have cl1 := (blk_cell LX.out 1).trans (show _ = some (.string nm) from rfl)
        have cl2 := (blk_cell LX.out 2).trans (show _ = some (.int .i64 (u : Int)) from rfl)
        have cl3 := (blk_cell LX.out 3).trans (show _ = some (.int .u32 (t : Int)) from rfl)
        go_wp2_with fail
        refine (LinN.decr_any u (hu) _).mono ?_
        clear cl0 cl1 cl2 cl3
        rintro e w8 ⟨rfl, hb⟩
        replace BX := Aside0.mk (below_then BX.out (Nat.le_of_lt (blk_lt LX.out)) hb)
        replace LX := Aside0.mk (blk_below LX.out hb)
        clear hb
        go_wp2_with fail
        go_meet
        exact ⟨congrArg Value.string (line_at _ _ _ (by simp [LinI.app_data, ofL_data, join, textOf, itoa_nat])), BX, LX⟩
      · skip
        have hws : (ofL [103, 111, 110, 101]).size = 4 := rfl
        go_wp2_with fail
        go_meet
        exact ⟨congrArg Value.string (line_at _ _ _ (by simp [LinI.app_data, ofL_data, join, textOf, itoa_nat])), BX, LX⟩
      · skip
        exact absurd rfl h3
      · skip
        have hws : (ofL [114, 101, 118, 111, 107, 101]).size = 6 := rfl
        go_wp2_with fail
        go_meet
        exact ⟨congrArg Value.string (line_at _ _ _ (by simp [LinI.app_data, ofL_data, join, textOf, itoa_nat])), BX, LX⟩
      · skip
        have hws : (ofL [112, 114, 111, 109, 111, 116, 101]).size = 7 := rfl
        have cl0 := (blk_cell LX.out 0).trans (show _ = some (.int .i64 5) from rfl)
        have cl1 := (blk_cell LX.out 1).trans (show _ = some (.string nm) from rfl)
        have cl2 := (blk_cell LX.out 2).trans (show _ = some (.int .i64 (u : Int)) from rfl)
        have cl3 := (blk_cell LX.out 3).trans (show _ = some (.int .u32 (t : Int)) from rfl)
        go_wp2_with fail
        refine (LinN.decr_any u (hu) _).mono ?_
        clear cl0 cl1 cl2 cl3
        rintro e w8 ⟨rfl, hb⟩
        replace BX := Aside0.mk (below_then BX.out (Nat.le_of_lt (blk_lt LX.out)) hb)
        replace LX := Aside0.mk (blk_below LX.out hb)
        clear hb
        go_wp2_with fail
        go_meet
        exact ⟨congrArg Value.string (line_at _ _ _ (by simp [LinI.app_data, ofL_data, join, textOf, itoa_nat])), BX, LX⟩
      · skip
        have hws : (ofL [102, 111, 114, 99, 101]).size = 5 := rfl
        have cl0 := (blk_cell LX.out 0).trans (show _ = some (.int .i64 6) from rfl)
        have cl1 := (blk_cell LX.out 1).trans (show _ = some (.string nm) from rfl)
        have cl2 := (blk_cell LX.out 2).trans (show _ = some (.int .i64 (u : Int)) from rfl)
        have cl3 := (blk_cell LX.out 3).trans (show _ = some (.int .u32 (t : Int)) from rfl)
        go_wp2_with fail
        refine (LinN.decr_any u (hu) _).mono ?_
        clear cl0 cl1 cl2 cl3
        rintro e w8 ⟨rfl, hb⟩
        replace BX := Aside0.mk (below_then BX.out (Nat.le_of_lt (blk_lt LX.out)) hb)
        replace LX := Aside0.mk (blk_below LX.out hb)
        clear hb
        go_wp2_with fail
        go_meet
        exact ⟨congrArg Value.string (line_at _ _ _ (by simp [LinI.app_data, ofL_data, join, textOf, itoa_nat])), BX, LX⟩
      · skip
        have hws : (ofL [115, 116, 97, 116, 117, 115]).size = 6 := rfl
        go_wp2_with fail
        go_meet
        exact ⟨congrArg Value.string (line_at _ _ _ (by simp [LinI.app_data, ofL_data, join, textOf, itoa_nat])), BX, LX⟩
    case rest =>
      obtain ⟨rfl, BX, LX⟩ := hcut
      clear h3 hd3
      skip
      cases hp : parseF (lineOf (⟨(f.verb : Int), nm, (u : Int), (t : Int)⟩ : Ln) f) with
      | none =>
        have HP := Aside0.mk hp
        clear hp
        go_wp2_with fail
        refine (parser_n _ HP.out _).mono ?_
        rintro e w9 ⟨rfl, hb⟩
        replace BX := Aside0.mk (below_then BX.out (Nat.le_of_lt (blk_lt LX.out)) hb)
        replace LX := Aside0.mk (blk_below LX.out hb)
        clear hb
        go_upto_region 18 with (fail)
        have GX := Aside0.mk (blk_new w9 (.cells #[.int .i64 0, .string ⟨#[]⟩, .int .i64 0, .int .u32 0, .int .i64 11] 31 (0, 0)))
        replace BX := Aside0.mk (BX.out.alloc (Nat.le_of_lt (blk_lt LX.out)) (.cells #[.int .i64 0, .string ⟨#[]⟩, .int .i64 0, .int .u32 0, .int .i64 11] 31 (0, 0)))
        replace LX := Aside0.mk (blk_alloc LX.out (.cells #[.int .i64 0, .string ⟨#[]⟩, .int .i64 0, .int .u32 0, .int .i64 11] 31 (0, 0)))
        generalize w9.alloc (.cells #[.int .i64 0, .string ⟨#[]⟩, .int .i64 0, .int .u32 0, .int .i64 11] 31 (0, 0)) = w10 at *
        generalize w9.heap.size = bg at *
        have cg0 := (blk_cell GX.out 0).trans (show _ = some (.int .i64 0) from rfl)
        have cg1 := (blk_cell GX.out 1).trans (show _ = some (.string ⟨#[]⟩) from rfl)
        have cg2 := (blk_cell GX.out 2).trans (show _ = some (.int .i64 0) from rfl)
        have cg3 := (blk_cell GX.out 3).trans (show _ = some (.int .u32 0) from rfl)
        have cg4 := (blk_cell GX.out 4).trans (show _ = some (.int .i64 11) from rfl)
        have HR := Aside0.mk (show textF (⟨(f.verb : Int), nm, (u : Int), (t : Int)⟩ : Ln) = none by rw [HT.out, HP.out, if_neg (fun h => by cases h)])
        go_wp2_with fail
        go_ret2
        exact ⟨by rw [HR.out]; rfl, by first | exact BX.out | (rw [hrb]; exact BX.out)⟩
      | some m =>
        have HP := Aside0.mk hp
        clear hp
        go_wp2_with fail
        refine (parser_s _ m HP.out _).mono ?_
        rintro e w9 ⟨rfl, hb⟩
        replace BX := Aside0.mk (below_then BX.out (Nat.le_of_lt (blk_lt LX.out)) hb)
        replace LX := Aside0.mk (blk_below LX.out hb)
        clear hb
        go_upto_region 18 with (fail)
        have GX := Aside0.mk (blk_new w9 (.cells #[.int .i64 m.verb, .string m.name, .int .i64 m.n, .int .u32 m.till, .int .i64 0] 31 (0, 0)))
        replace BX := Aside0.mk (BX.out.alloc (Nat.le_of_lt (blk_lt LX.out)) (.cells #[.int .i64 m.verb, .string m.name, .int .i64 m.n, .int .u32 m.till, .int .i64 0] 31 (0, 0)))
        replace LX := Aside0.mk (blk_alloc LX.out (.cells #[.int .i64 m.verb, .string m.name, .int .i64 m.n, .int .u32 m.till, .int .i64 0] 31 (0, 0)))
        generalize w9.alloc (.cells #[.int .i64 m.verb, .string m.name, .int .i64 m.n, .int .u32 m.till, .int .i64 0] 31 (0, 0)) = w10 at *
        generalize w9.heap.size = bg at *
        have cg0 := (blk_cell GX.out 0).trans (show _ = some (.int .i64 m.verb) from rfl)
        have cg1 := (blk_cell GX.out 1).trans (show _ = some (.string m.name) from rfl)
        have cg2 := (blk_cell GX.out 2).trans (show _ = some (.int .i64 m.n) from rfl)
        have cg3 := (blk_cell GX.out 3).trans (show _ = some (.int .u32 m.till) from rfl)
        have cg4 := (blk_cell GX.out 4).trans (show _ = some (.int .i64 0) from rfl)
        have cl0 := (blk_cell LX.out 0).trans (show _ = some (.int .i64 (f.verb : Int)) from rfl)
        have cl1 := (blk_cell LX.out 1).trans (show _ = some (.string nm) from rfl)
        have cl2 := (blk_cell LX.out 2).trans (show _ = some (.int .i64 (u : Int)) from rfl)
        have cl3 := (blk_cell LX.out 3).trans (show _ = some (.int .u32 (t : Int)) from rfl)
        have heq := eq_ln m (⟨(f.verb : Int), nm, (u : Int), (t : Int)⟩ : Ln)
        by_cases hml : m = (⟨(f.verb : Int), nm, (u : Int), (t : Int)⟩ : Ln)
        · rw [decide_eq_true hml] at heq
          have HR := Aside0.mk (show textF (⟨(f.verb : Int), nm, (u : Int), (t : Int)⟩ : Ln) = some (lineOf (⟨(f.verb : Int), nm, (u : Int), (t : Int)⟩ : Ln) f) by rw [HT.out, HP.out, if_pos (by rw [hml])])
          clear hml
          go_wp2_with fail
          go_ret2
          exact ⟨by rw [HR.out]; rfl, by first | exact BX.out | (rw [hrb]; exact BX.out)⟩
        · rw [decide_eq_false hml] at heq
          have HR := Aside0.mk (show textF (⟨(f.verb : Int), nm, (u : Int), (t : Int)⟩ : Ln) = none by rw [HT.out, HP.out, if_neg (fun h => hml (Option.some.inj h))])
          clear hml
          go_wp2_with fail
          go_ret2
          exact ⟨by rw [HR.out]; rfl, by first | exact BX.out | (rw [hrb]; exact BX.out)⟩
end Go.Proofs.YtfejbfnjfombhaaDoor.LinU

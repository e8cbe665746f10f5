/- A text's line. -/
import Derived.Test.YtfejbfnjfombhaaDoorLinD
import Derived.Deep.LoopGhost
namespace Go.Proofs.YtfejbfnjfombhaaDoor.LinE
open Go.RowKit Go.Sort Go.Shelf Go.Lib Go.Proofs.YtfejbfnjfombhaaDoorW.PrintWords Go.Proofs.YtfejbfnjfombhaaDoorW.PrintLast Go.Proofs.YtfejbfnjfombhaaDoorW.PrintMore Go.Proofs.YtfejbfnjfombhaaDoor.LinA Go.Proofs.YtfejbfnjfombhaaDoor.LinB Go.Proofs.YtfejbfnjfombhaaDoor.LinC Go.Proofs.YtfejbfnjfombhaaDoor.LinD
set_option linter.unusedVariables false
set_option linter.unusedSimpArgs false

theorem form_at (i : Nat) (hi : i < 7) : ∃ f, forms[i]? = some f ∧ f ∈ forms ∧ formCells[i * 3]? = some (.int .i64 f.verb) ∧ formCells[i * 3 + 1]? = some (.string (ofL f.word)) ∧ formCells[i * 3 + 2]? = some (.string (ofL f.has)) := by
  have : i = 0 ∨ i = 1 ∨ i = 2 ∨ i = 3 ∨ i = 4 ∨ i = 5 ∨ i = 6 := by omega
  rcases this with rfl | rfl | rfl | rfl | rfl | rfl | rfl <;> exact ⟨_, rfl, by decide, rfl, rfl, rfl⟩
theorem forms_has : ∀ f ∈ forms, f.verb ≤ 7 ∧ f.has.length ≤ 3 ∧ ∀ c ∈ f.has, c = 78 ∨ c = 65 ∨ c = 67 ∨ c = 85 := by decide
theorem parse_find (s : ByteArray) (hs : s.size ≤ 200) (i : Nat) (hn : ∀ f ∈ forms.take i, tryForm (wordsB s) f = none) (f : LinB.Form) (hf : forms[i]? = some f) (m : Ln) (hm : tryForm (wordsB s) f = some m) : parseF s = some m := by
  unfold parseF
  rw [if_neg (by omega)]
  have hlt := (List.getElem?_eq_some_iff.1 hf).1
  rw [show forms = forms.take i ++ f :: forms.drop (i + 1) by
    rw [← (List.getElem?_eq_some_iff.1 hf).2, List.getElem_cons_drop, List.take_append_drop]]
  rw [List.findSome?_append, List.findSome?_eq_none_iff.2 hn, List.findSome?_cons, hm]
  rfl
theorem parse_end (s : ByteArray) (hn : ∀ f ∈ forms.take 7, tryForm (wordsB s) f = none) : parseF s = none := by
  unfold parseF
  split
  · rfl
  · rw [List.findSome?_eq_none_iff]; exact hn
theorem take_next (i : Nat) (P : LinB.Form → Prop) (f : LinB.Form) (hf : forms[i]? = some f) (h : ∀ x ∈ forms.take i, P x) (hp : P f) : ∀ x ∈ forms.take (i + 1), P x := by
  intro x hx
  rw [List.take_add_one, hf, List.mem_append] at hx
  rcases hx with hx | hx
  · exact h x hx
  · simp at hx; subst hx; exact hp
theorem ofL_size (l : List UInt8) : (ofL l).size = l.length := by simp [ofL, ByteArray.size]
theorem word_le (l : List UInt8) : ∀ y ∈ wordsL l, y.length ≤ l.length := by
  induction l with
  | nil => simp [wordsL]
  | cons c r ih =>
    intro y hy
    rw [wordsL] at hy
    split at hy
    · rcases List.mem_cons.1 hy with rfl | hy
      · simp
      · have := ih y hy; simp; omega
    · rcases List.mem_cons.1 hy with rfl | hy
      · have := words_headtail r
        have hm : (wordsL r).headD [] ∈ wordsL r := by rw [← this]; simp
        have := ih _ hm
        rw [List.length_cons, List.length_cons]; omega
      · have hm : y ∈ wordsL r := by rw [← words_headtail r]; simp [hy]
        have := ih y hm; simp; omega
theorem slice_one (wb n : Nat) : ∃ A : Option Addr, (∀ W, (Instr.sliceAt 39 (.slice (some ⟨wb, 0, none⟩) (n + 1) (n + 1)) (some (.int .i64 1)) none none).run Tryd.prog W = .ok (.slice A n n) W) ∧ (0 < n → A = some ⟨wb, 1, none⟩) := by
  by_cases h : n = 0
  · subst h
    exact ⟨some ⟨wb, 0, none⟩, fun W => by go_simp, fun h => by omega⟩
  · refine ⟨some ⟨wb, 1, none⟩, fun W => ?_, fun _ => rfl⟩
    go_simp
    intro h2
    omega
def ansP (o : Option Ln) : Value := .tuple #[.agg (lnCells (o.getD Ln.zero)), .int .i64 (if o.isSome then 0 else 11)]
structure Mem (B rb wb fb : Nat) (C : Array Value) (w : World) : Prop where
  r : w.heap[rb]? = some (.cells (lnCells Ln.zero) 24 (0, 0))
  s : w.heap[wb]? = some (.cells C 9 (0, 0))
  f : w.heap[fb]? = some (.cells formCells 48 (0, 0))
theorem Mem.below {B rb wb fb : Nat} {C : Array Value} {w w' : World} (h : Mem B rb wb fb C w) (k : Below w.heap.size w w') : Mem B rb wb fb C w' := ⟨blk_below h.r k, blk_below h.s k, blk_below h.f k⟩
theorem Mem.alloc {B rb wb fb : Nat} {C : Array Value} {w : World} (h : Mem B rb wb fb C w) (o : Obj) : Mem B rb wb fb C (w.alloc o) := h.below ((Below.refl _ _).alloc (Nat.le_refl _) o)

set_option maxHeartbeats 4000000 in
set_option maxRecDepth 100000 in
theorem parse_any (s : ByteArray) (hs : s.size ≤ 281474976710656) (w : World) (E : Env w) :
    Calls Tryd.prog 8 #[.string s] w fun e w' => e = .returned (ansP (parseF s)) ∧ Below w.heap.size w w' := by
  have HE := Aside0.mk E
  clear E
  by_cases hlen : 200 < s.size
  · have hd : decide ((200 : Int) < (s.size : Int)) = true := by simp; omega
    have HP := Aside0.mk (show parseF s = none by unfold parseF; rw [if_pos hlen])
    clear hlen
    go_enter Tryd.func8, Tryd.ntmps8
    go_wp2
    go_step3
    go_wp2
    rw [Exit.noGoto_ret]
    refine bodyPost_ret (results_ct rfl _ _ w.heap.size 24 (lnCells Ln.zero) (0, 0) _ rfl (blk_new _ _) Tryd.underlying24 rfl (by kernel_rfl)) rfl ⟨?_, below_alloc (Below.refl _ _) _⟩
    rw [HP.out]; rfl
  · have hd : decide ((200 : Int) < (s.size : Int)) = false := by simp; omega
    have hs2 : s.size ≤ 200 := by omega
    obtain ⟨w0, r0, hW, hB⟩ := wordsB_ne s
    have hcnt : r0.length ≤ 200 := by
      have h1 := words_len s.data.toList
      have h2 : s.data.toList.count 32 ≤ s.data.toList.length := List.count_le_length
      rw [hW] at h1
      simp at h1 h2
      have h3 : s.data.size = s.size := rfl
      omega
    have hwl : ∀ x ∈ wordsB s, x.size ≤ 281474976710656 := by
      intro x hx
      unfold wordsB at hx
      obtain ⟨y, hy, rfl⟩ := List.mem_map.1 hx
      rw [ofL_size]
      have := word_le s.data.toList y hy
      have h3 : s.data.toList.length = s.size := Array.length_toList
      omega
    have HW := Aside0.mk hW
    have HB := Aside0.mk hB
    have HS := Aside0.mk hs2
    have HWL := Aside0.mk hwl
    clear hW hB hs2 hlen hwl
    have BA := Aside0.mk (below_alloc (Below.refl w.heap.size w) (.cells (lnCells Ln.zero) 24 (0, 0)))
    have RA := Aside0.mk (blk_new w (.cells (lnCells Ln.zero) 24 (0, 0)))
    have HC := Aside0.mk (words_any s (by have := HS.out; omega) (w.alloc (.cells (lnCells Ln.zero) 24 (0, 0))) (HE.out.below BA.out HE.out.big))
    go_enter Tryd.func8, Tryd.ntmps8
    go_wp2
    go_step3
    go_wp2_with fail
    refine (show Calls Tryd.prog 14 #[.string s] (w.alloc (.cells #[.int .i64 0, .string ⟨#[]⟩, .int .i64 0, .int .u32 0] 24 (0, 0))) _ from HC.out).mono ?_
    rintro e w2 ⟨rfl, rfl⟩
    have hL : (wordsB s).length = r0.length + 1 := by rw [HB.out]; simp
    rw [hL]
    clear HC
    generalize hg1 : w.alloc (.cells (lnCells Ln.zero) 24 (0, 0)) = w1 at *
    have hlt1 : w.heap.size < w1.heap.size := blk_lt RA.out
    have B2 := Aside0.mk (below_alloc BA.out (.cells ((wordsB s).map Value.string).toArray 9 (0, 0)))
    have R2 := Aside0.mk (blk_alloc RA.out (.cells ((wordsB s).map Value.string).toArray 9 (0, 0)))
    have S2 := Aside0.mk (blk_new w1 (.cells ((wordsB s).map Value.string).toArray 9 (0, 0)))
    clear hg1 BA RA
    generalize w1.alloc (.cells ((wordsB s).map Value.string).toArray 9 (0, 0)) = w2 at *
    have B3 := Aside0.mk (below_alloc B2.out (.cells formCells 48 (0, 0)))
    have M3 := Aside0.mk (Mem.mk (B := w.heap.size) (blk_alloc R2.out (.cells formCells 48 (0, 0))) (blk_alloc S2.out (.cells formCells 48 (0, 0))) (blk_new w2 (.cells formCells 48 (0, 0))))
    have hlt2 : w1.heap.size < w2.heap.size := blk_lt S2.out
    go_wp2_with fail
    go_step3
    go_wp2_with fail
    refine (forms_any w2).mono ?_
    rintro e w3 ⟨rfl, rfl⟩
    generalize w2.alloc (.cells formCells 48 (0, 0)) = w3 at *
    clear R2 S2
    clear B2
    generalize w2.heap.size = fb at *
    generalize w1.heap.size = wb at *
    have hbase : w.heap.size < wb ∧ wb < fb := ⟨hlt1, hlt2⟩
    generalize hrb : w.heap.size = rb at *
    have CW := Aside0.mk (show ∀ (j : Nat) (x : ByteArray), (wordsB s)[j]? = some x → (((wordsB s).map Value.string).toArray)[j]? = some (.string x) from fun j x h => by
      rw [List.getElem?_toArray, List.getElem?_map, h]; rfl)
    generalize ((wordsB s).map Value.string).toArray = C at *
    go_wp2_with fail
    go_loopg [18] 7 (fun g s18 wr => ∃ i : Nat, i + g = 7 ∧ s18 = .int .i64 i ∧ Aside0 (∀ f ∈ forms.take i, tryForm (wordsB s) f = none) ∧ Aside0 (Below rb w wr) ∧ Aside0 (Mem rb rb wb fb C wr))
    case atStart => exact ⟨0, by omega, rfl, ⟨by simp⟩, B3, M3⟩
    case round =>
      obtain ⟨i, hi, rfl, HI, BL, MM⟩ := hrel
      clear M3 B3
      cases gk with
      | zero =>
        have : i = 7 := by omega
        subst this
        have HEnd := Aside0.mk (parse_end s HI.out)
        have hr := MM.out.r
        have q0 := blk_cell hr 0
        have q1 := blk_cell hr 1
        have q2 := blk_cell hr 2
        have q3 := blk_cell hr 3
        have f0 := blk_frozen hr 0
        have f1 := blk_frozen hr 1
        have f2 := blk_frozen hr 2
        have f3 := blk_frozen hr 3
        simp only [lnCells, List.getElem?_toArray, List.getElem?_cons_succ, List.getElem?_cons_zero] at q0 q1 q2 q3
        have R4 := Aside0.mk (blk_put (blk_put (blk_put (blk_put hr 0 (.int .i64 0) rfl) 1 (.string ⟨#[]⟩) rfl) 2 (.int .i64 0) rfl) 3 (.int .u32 0) rfl)
        have B4 := Aside0.mk ((((BL.out.setCell (p := ⟨rb, 0, none⟩) (Nat.le_refl _) (.int .i64 0)).setCell (p := ⟨rb, 1, none⟩) (Nat.le_refl _) (.string ⟨#[]⟩)).setCell (p := ⟨rb, 2, none⟩) (Nat.le_refl _) (.int .i64 0)).setCell (p := ⟨rb, 3, none⟩) (Nat.le_refl _) (.int .u32 0))
        clear hr
        go_wp2_with fail
        refine bodyPost_ret (results_ct rfl _ _ rb 24 (lnCells Ln.zero) (0, 0) _ rfl R4.out Tryd.underlying24 rfl (by kernel_rfl)) rfl ⟨?_, ?_⟩
        · rw [HEnd.out]; rfl
        · rw [hrb]; exact B4.out
      | succ g =>
        obtain ⟨f, hf, hfm, k0, k1, k2⟩ := form_at i (by omega)
        have c0 := (blk_cell MM.out.f _).trans k0
        have c1 := (blk_cell MM.out.f _).trans k1
        have c2 := (blk_cell MM.out.f _).trans k2
        clear k0 k1 k2
        have hi7 : decide ((i : Int) < 7) = true := by simp; omega
        go_wp2_with fail
        have hbw : rb ≤ wr.heap.size := by have := blk_lt MM.out.r; omega
        have BF := Aside0.mk (BL.out.alloc hbw (.cells #[.int .i64 f.verb, .string (ofL f.word), .string (ofL f.has)] 48 (0, 0)))
        have MF := Aside0.mk (MM.out.alloc (.cells #[.int .i64 f.verb, .string (ofL f.word), .string (ofL f.has)] 48 (0, 0)))
        have FF := Aside0.mk (blk_new wr (.cells #[.int .i64 f.verb, .string (ofL f.word), .string (ofL f.has)] 48 (0, 0)))
        generalize wr.alloc (.cells #[.int .i64 f.verb, .string (ofL f.word), .string (ofL f.has)] 48 (0, 0)) = wf at *
        clear hbw c0 c1 c2 MM BL
        generalize wr.heap.size = vb at *
        have c0 := blk_cell FF.out 0
        have c1 := blk_cell FF.out 1
        have c2 := blk_cell FF.out 2
        simp only [List.getElem?_toArray, List.getElem?_cons_succ, List.getElem?_cons_zero] at c0 c1 c2
        have d0 : wf.cell? ⟨wb, 0, none⟩ = some (.string (ofL w0)) := (blk_cell MF.out.s 0).trans (CW.out 0 _ (by rw [HB.out]; rfl))
        have hq1 := Aside0.mk (bytes_eqB (ofL f.word) (ofL w0))
        rw [ofL_data, ofL_data] at hq1
        have hsub : IntKind.i64.wrap (((r0.length + 1 : Nat) : Int) - 1) = (r0.length : Int) := by rw [IntKind.wrap_i64]; omega
        have hsz : (ofL f.has).size = f.has.length := ofL_size _
        have HTF := Aside0.mk (show tryForm (wordsB s) f = if w0 = f.word ∧ f.has.length = r0.length then readAll f.has (r0.map ofL) ⟨f.verb, ByteArray.empty, 0, 0⟩ else none by
          unfold tryForm; rw [HB.out]; simp only [List.headD_cons, List.tail_cons, ofL_data, List.length_map])
        by_cases e1 : f.word = w0
        · have hq : ((ofL f.word).toList == (ofL w0).toList) = true := by rw [hq1.out, decide_eq_true e1]
          by_cases e2 : f.has.length = r0.length
          · have hl : (((ofL f.has).size : Int) == (r0.length : Int)) = true := by rw [hsz, e2]; simp
            obtain ⟨A, hsl, hA⟩ : ∃ A : Option Addr, (∀ W, (Instr.sliceAt 39 (.slice (some ⟨wb, 0, none⟩) (r0.length + 1) (r0.length + 1)) (some (.int .i64 1)) none none).run Tryd.prog W = .ok (.slice A r0.length r0.length) W) ∧ (0 < r0.length → A = some ⟨wb, 1, none⟩) := slice_one wb r0.length
            have HA := Aside0.mk hA
            have HQ := Aside0.mk (show tryForm (wordsB s) f = readAll f.has (r0.map ofL) ⟨f.verb, ByteArray.empty, 0, 0⟩ by rw [HTF.out, if_pos ⟨e1.symm, e2⟩])
            clear HTF hA e1
            go_region
            go_wp2_with fail
            have hbf : rb ≤ wf.heap.size := by have := blk_lt MF.out.r; omega
            have hvl : vb < wf.heap.size := blk_lt FF.out
            have hwl2 : wb < wf.heap.size := blk_lt MF.out.s
            have hfl2 : fb < wf.heap.size := blk_lt MF.out.f
            have BG := Aside0.mk (below_drew (BF.out.alloc hbf (.cells #[.int .i64 f.verb, .string ⟨#[]⟩, .int .i64 0, .int .u32 0] 24 (0, 0))))
            have MG := Aside0.mk (show Mem rb rb wb fb C (wf.alloc (.cells #[.int .i64 f.verb, .string ⟨#[]⟩, .int .i64 0, .int .u32 0] 24 (0, 0))).drew from ⟨(MF.out.alloc _).r, (MF.out.alloc _).s, (MF.out.alloc _).f⟩)
            have FG := Aside0.mk (show (wf.alloc (.cells #[.int .i64 f.verb, .string ⟨#[]⟩, .int .i64 0, .int .u32 0] 24 (0, 0))).drew.heap[vb]? = _ from blk_alloc FF.out _)
            have LG := Aside0.mk (show (wf.alloc (.cells #[.int .i64 f.verb, .string ⟨#[]⟩, .int .i64 0, .int .u32 0] 24 (0, 0))).drew.heap[wf.heap.size]? = some (.cells (lnCells ⟨f.verb, ByteArray.empty, 0, 0⟩) 24 (0, 0)) from blk_new _ _)
            clear FF MF BF c0 c1 c2 d0 hq hq1
            generalize (wf.alloc (.cells #[.int .i64 f.verb, .string ⟨#[]⟩, .int .i64 0, .int .u32 0] 24 (0, 0))).drew = wl at *
            generalize wf.heap.size = lb at *
            have hX := Aside0.mk (show ∀ (k : Nat) (x : ByteArray), (r0.map ofL)[k]? = some x → C[1 + k]? = some (.string x) ∧ x.size ≤ 281474976710656 from fun k x h => by
              have e : (wordsB s)[1 + k]? = some x := by rw [HB.out, Nat.add_comm, List.getElem?_cons_succ]; exact h
              exact ⟨CW.out _ _ e, HWL.out x (List.mem_of_getElem? e)⟩)
            have hXl : (r0.map ofL).length = r0.length := by simp
            have hHas := Aside0.mk (forms_has f hfm)
            generalize r0.map ofL = xs at *
            go_loopg [43] r0.length (fun g2 s43 wy => ∃ (k : Nat) (l : Ln), k + g2 = r0.length ∧ s43 = .int .i64 k ∧ Aside0 (Below lb wl wy) ∧ Aside0 (wy.heap[lb]? = some (.cells (lnCells l) 24 (0, 0))) ∧ Aside0 (tryForm (wordsB s) f = readAll (f.has.drop k) (xs.drop k) l))
            case atStart => exact ⟨0, _, by omega, rfl, ⟨Below.refl _ _⟩, LG, HQ⟩
            case round =>
              obtain ⟨k, l, hk, rfl, BY, LY, HR⟩ := hrel
              clear LG HQ
              have BW := Aside0.mk (BG.out.trans (BY.out.mono (by omega : rb ≤ lb)))
              cases gk with
              | zero =>
                have hkn : k = r0.length := by omega
                have HT := Aside0.mk (show tryForm (wordsB s) f = some l by
                  rw [HR.out, List.drop_eq_nil_of_le (by omega), List.drop_eq_nil_of_le (by omega)]; rfl)
                have hkd : decide ((k : Int) < (r0.length : Int)) = false := by simp; omega
                have HEnd := Aside0.mk (parse_find s HS.out i HI.out f hf l HT.out)
                have hr : wr.heap[rb]? = _ := (BY.out.block rb (by omega)).trans MG.out.r
                have q0 := blk_cell hr 0
                have q1 := blk_cell hr 1
                have q2 := blk_cell hr 2
                have q3 := blk_cell hr 3
                have f0 := blk_frozen hr 0
                have f1 := blk_frozen hr 1
                have f2 := blk_frozen hr 2
                have f3 := blk_frozen hr 3
                simp only [lnCells, List.getElem?_toArray, List.getElem?_cons_succ, List.getElem?_cons_zero] at q0 q1 q2 q3
                have l0 := blk_cell LY.out 0
                have l1 := blk_cell LY.out 1
                have l2 := blk_cell LY.out 2
                have l3 := blk_cell LY.out 3
                simp only [lnCells, List.getElem?_toArray, List.getElem?_cons_succ, List.getElem?_cons_zero] at l0 l1 l2 l3
                have R4 := Aside0.mk (blk_put (blk_put (blk_put (blk_put hr 0 (.int .i64 l.verb) rfl) 1 (.string l.name) rfl) 2 (.int .i64 l.n) rfl) 3 (.int .u32 l.till) rfl)
                have B4 := Aside0.mk ((((BW.out.setCell (p := ⟨rb, 0, none⟩) (Nat.le_refl _) (.int .i64 l.verb)).setCell (p := ⟨rb, 1, none⟩) (Nat.le_refl _) (.string l.name)).setCell (p := ⟨rb, 2, none⟩) (Nat.le_refl _) (.int .i64 l.n)).setCell (p := ⟨rb, 3, none⟩) (Nat.le_refl _) (.int .u32 l.till))
                clear hr hsl
                go_wp2_with fail
                rw [Exit.noGoto_ret]
                refine bodyPost_ret (results_ct rfl _ _ rb 24 (lnCells l) (0, 0) _ rfl R4.out Tryd.underlying24 rfl (by kernel_rfl)) rfl ⟨?_, ?_⟩
                · rw [HEnd.out]; rfl
                · rw [hrb]; exact B4.out
              | succ g2 =>
                have hkd : decide ((k : Int) < (r0.length : Int)) = true := by simp; omega
                have hAe := HA.out (by omega)
                subst hAe
                obtain ⟨x, hx⟩ : ∃ x, xs[k]? = some x := ⟨_, List.getElem?_eq_getElem (by omega)⟩
                have hbk : k < (ofL f.has).size := by rw [hsz]; omega
                have hc : f.has[k]? = some ((ofL f.has)[k]) := List.getElem?_eq_getElem (by omega)
                have hdc0 : f.has.drop k = (ofL f.has)[k] :: f.has.drop (k + 1) := Lib.drop_at hc
                have HK := Aside0.mk hbk
                have hdx : xs.drop k = x :: xs.drop (k + 1) := Lib.drop_at hx
                obtain ⟨hX1, hX2⟩ := hX.out k x hx
                have hc4 := Aside0.mk (hHas.out.2.2 _ (List.mem_of_getElem? hc))
                have fy : wr.heap[vb]? = _ := (BY.out.block vb hvl).trans FG.out
                have c2 := blk_cell fy 2
                simp only [List.getElem?_toArray, List.getElem?_cons_succ, List.getElem?_cons_zero] at c2
                have d1 := (blk_cell ((BY.out.block wb hwl2).trans MG.out.s) (1 + k)).trans hX1
                have HRd := Aside0.mk (read_any _ hc4.out l lb x hX2 wr (HE.out.below BW.out (by have := HE.out.big; omega)) LY.out)
                have HR2 := Aside0.mk (show tryForm (wordsB s) f = (readF ((ofL f.has)[k]) x l).bind (readAll (f.has.drop (k + 1)) (xs.drop (k + 1))) by
                  rw [HR.out, hdc0, hdx]; rfl)
                clear hX1 hX2 fy hdx hdc0 hx hc hsl HR hc4
                go_wp2_with fail
                refine HRd.out.mono ?_
                rintro e w5 ⟨l', rfl, h1, h2, h3⟩
                have BZ := Aside0.mk (BY.out.trans h3)
                have L5 := Aside0.mk h1
                clear HRd h1
                cases hv : readF ((ofL f.has)[k]) x l with
                | none =>
                  rw [hv] at HR2
                  have HN := Aside0.mk (show tryForm (wordsB s) f = none from HR2.out)
                  have MZ := Aside0.mk (Mem.mk (B := rb) ((BZ.out.block rb (by omega)).trans MG.out.r) ((BZ.out.block wb hwl2).trans MG.out.s) ((BZ.out.block fb hfl2).trans MG.out.f))
                  have BV := Aside0.mk (BW.out.trans (h3.mono (by omega : rb ≤ lb)))
                  clear h2 h3 hv
                  go_wp2_with fail
                  go_roundg g
                  case measure => omega
                  case rel => exact ⟨i + 1, by omega, by go_num, ⟨take_next i _ f hf HI.out HN.out⟩, BV, MZ⟩
                | some m =>
                  rw [hv] at HR2
                  have hm := h2 m hv
                  subst hm
                  have HR3 := Aside0.mk (show tryForm (wordsB s) f = readAll (f.has.drop (k + 1)) (xs.drop (k + 1)) l' from HR2.out)
                  clear h2 h3 hv
                  go_wp2_with fail
                  go_roundg g2
                  case measure => omega
                  case rel => exact ⟨k + 1, l', by omega, by go_num, BZ, L5, HR3⟩
          · have hl : (((ofL f.has).size : Int) == (r0.length : Int)) = false := by rw [hsz]; simp; omega
            have HN := Aside0.mk (show tryForm (wordsB s) f = none by rw [HTF.out, if_neg (fun h => e2 h.2)])
            clear e2
            go_region
            go_wp2_with fail
            go_roundg g
            case measure => omega
            case rel => exact ⟨i + 1, by omega, by go_num, ⟨take_next i _ f hf HI.out HN.out⟩, ⟨below_drew BF.out⟩, ⟨⟨MF.out.r, MF.out.s, MF.out.f⟩⟩⟩
        · have hq : ((ofL f.word).toList == (ofL w0).toList) = false := by rw [hq1.out, decide_eq_false e1]
          have HN := Aside0.mk (show tryForm (wordsB s) f = none by rw [HTF.out, if_neg (fun h => e1 h.1.symm)])
          clear e1
          go_region
          go_wp2_with fail
          go_roundg g
          case measure => omega
          case rel => exact ⟨i + 1, by omega, by go_num, ⟨take_next i _ f hf HI.out HN.out⟩, ⟨below_drew BF.out⟩, ⟨⟨MF.out.r, MF.out.s, MF.out.f⟩⟩⟩
end Go.Proofs.YtfejbfnjfombhaaDoor.LinE

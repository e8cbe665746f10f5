/- The document's words. -/
import Derived.Test.YtfejbfnjfombhaaDoorLinN
namespace Go.Proofs.YtfejbfnjfombhaaDoor.LinO
open Go.RowKit Go.Sort Go.Shelf Go.Lib Go.Proofs.YtfejbfnjfombhaaDoorW.PrintWords Go.Proofs.YtfejbfnjfombhaaDoorW.PrintLast Go.Proofs.YtfejbfnjfombhaaDoorW.PrintMore Go.Proofs.YtfejbfnjfombhaaDoor.LinA Go.Proofs.YtfejbfnjfombhaaDoor.LinB Go.Proofs.YtfejbfnjfombhaaDoor.LinC Go.Proofs.YtfejbfnjfombhaaDoor.LinD Go.Proofs.YtfejbfnjfombhaaDoor.LinE Go.Proofs.YtfejbfnjfombhaaDoor.LinF Go.Proofs.YtfejbfnjfombhaaDoor.LinG Go.Proofs.YtfejbfnjfombhaaDoor.LinH Go.Proofs.YtfejbfnjfombhaaDoor.LinI
set_option linter.unusedVariables false
set_option linter.unusedSimpArgs false
def Stop (p : Prop) : Prop := p
theorem stop {p : Prop} (h : Stop p) : p := h
theorem cut_eq (s : ByteArray) (f i : Nat) : s.extract f i = ofL ((s.data.toList.drop f).take (i - f)) := by
  apply bytes_ext
  rw [ofL_data, ByteArray.data_extract, Array.toList_extract]
theorem slice_str (s : ByteArray) (f i : Nat) (h1 : f ≤ i) (h2 : i ≤ s.size) (W : World) : (Instr.slice 9 (.string s) (some (.int .i64 (f : Int))) (some (.int .i64 (i : Int))) none).run Tryd.prog W = .ok (.string (ofL ((s.data.toList.drop f).take (i - f)))) W := by
  have h := run_slice_string (P := Tryd.prog) (w := W) 9 s .i64 .i64 (f : Int) (i : Int) Tryd.underlying9 (by omega) (by omega) (by omega)
  rw [h, ← cut_eq]
  rfl
structure Sofar (l : List UInt8) (i f : Nat) (ws : List (List UInt8)) : Prop where
  go : i ≤ l.length → f ≤ i ∧ (∀ x ∈ (l.drop f).take (i - f), x ≠ 32) ∧ wordsL l = ws ++ wordsL (l.drop f)
  stop : i = l.length + 1 → wordsL l = ws
  len : ws.length ≤ i
theorem Sofar.zero (l : List UInt8) : Sofar l 0 0 [] := ⟨fun _ => ⟨Nat.le_refl _, by simp, rfl⟩, fun h => by omega, Nat.zero_le _⟩
theorem Sofar.next {l : List UInt8} {i f : Nat} {ws : List (List UInt8)} (h : Sofar l i f ws) {c : UInt8} (hc : l[i]? = some c) (h32 : c ≠ 32) : Sofar l (i + 1) f ws := by
  have hi : i < l.length := (List.getElem?_eq_some_iff.1 hc).1
  obtain ⟨h1, h2, h3⟩ := h.go (by omega)
  refine ⟨fun _ => ⟨by omega, ?_, h3⟩, fun e => by omega, by have := h.len; omega⟩
  rw [show i + 1 - f = (i - f) + 1 by omega, List.take_add_one]
  intro x hx
  rcases List.mem_append.1 hx with hx | hx
  · exact h2 x hx
  · rw [List.getElem?_drop, show f + (i - f) = i by omega, hc] at hx
    simp at hx; subst hx; exact h32
theorem Sofar.cut {l : List UInt8} {i f : Nat} {ws : List (List UInt8)} (h : Sofar l i f ws) (hc : l[i]? = some 32) : Sofar l (i + 1) (i + 1) (ws ++ [(l.drop f).take (i - f)]) := by
  have hi : i < l.length := (List.getElem?_eq_some_iff.1 hc).1
  obtain ⟨h1, h2, h3⟩ := h.go (by omega)
  refine ⟨fun _ => ⟨Nat.le_refl _, by simp, ?_⟩, fun e => by omega, by rw [List.length_append]; have := h.len; simp; omega⟩
  have e : l.drop f = (l.drop f).take (i - f) ++ 32 :: l.drop (i + 1) := by
    conv => lhs; rw [← List.take_append_drop (i - f) (l.drop f)]
    congr 1
    rw [List.drop_drop, show f + (i - f) = i by omega]
    rw [Lib.drop_at hc]
  rw [h3]
  conv => lhs; rw [e]
  rw [words_cut _ _ h2, List.append_assoc]
  rfl
theorem Sofar.fin {l : List UInt8} {f : Nat} {ws : List (List UInt8)} (h : Sofar l l.length f ws) : Sofar l (l.length + 1) (l.length + 1) (ws ++ [(l.drop f).take (l.length - f)]) := by
  obtain ⟨h1, h2, h3⟩ := h.go (Nat.le_refl _)
  refine ⟨fun e => by omega, fun _ => ?_, by rw [List.length_append]; have := h.len; simp; omega⟩
  have e : (l.drop f).take (l.length - f) = l.drop f := List.take_of_length_le (by simp)
  rw [e] at h2 ⊢
  rw [h3, words_clean _ h2]
def vals (ws : List (List UInt8)) : List Value := ws.map fun w => Value.string (ofL w)
theorem vals_snoc (ws : List (List UInt8)) (x : List UInt8) : vals (ws ++ [x]) = vals ws ++ [.string (ofL x)] := by simp [vals]
set_option maxHeartbeats 2000000 in
set_option maxRecDepth 100000 in
theorem wordsr_any (s : ByteArray) (hs : s.size ≤ 1000000) (w : World) :
    Calls Tryd.prog 15 #[.string s] w fun e w' => ∃ v, e = .returned v ∧ w'.ownsRow w.heap.size 9 1 v (wordsB s).length ((wordsB s).map Value.string) ∧ Below w.heap.size w w' := by
  have BL := Aside0.mk (Below.refl w.heap.size w)
  have HSL := Aside0.mk (show s.data.toList.length = s.size from Array.length_toList)
  obtain ⟨i9, hi9, hz, hsz, hby⟩ := info_parts info9
  have I9 := Aside0.mk hi9
  have Z9 := Aside0.mk hz
  have S9 := Aside0.mk hsz
  have Y9 := Aside0.mk hby
  clear hi9 hz hsz hby
  go_enter Tryd.func15, Tryd.ntmps15
  go_wp2_with fail
  go_loopg [3, 4, 5] (s.size + 1) (fun g s3 s4 s5 wr => ∃ (i f : Nat) (ws : List (List UInt8)), i + g = s.size + 1 ∧ s5 = .int .i64 i ∧ s4 = .int .i64 f ∧ Aside0 (Sofar s.data.toList i f ws) ∧ Aside0 (wr.ownsRow w.heap.size 9 1 s3 ws.length (vals ws)) ∧ Aside0 (Below w.heap.size w wr))
  case atStart => exact ⟨0, 0, [], by omega, rfl, rfl, ⟨Sofar.zero _⟩, ⟨World.ownsRow_nil _ _ _ _⟩, BL⟩
  case round =>
    clear BL
    obtain ⟨i, f, ws, hi, rfl, rfl, HF, OW, BL⟩ := hrel
    cases gk with
    | zero =>
      have hd : decide ((i : Int) ≤ (s.size : Int)) = false := by simp; omega
      have HE := Aside0.mk (HF.out.stop (by have := HSL.out; omega))
      have hlt : ¬ i ≤ s.size := by omega
      go_wp2_with fail
      go_ret
      refine ⟨_, rfl, ?_, BL.out⟩
      have e1 : (wordsB s).length = ws.length := by unfold wordsB; rw [List.length_map, HE.out]
      have e2 : (wordsB s).map Value.string = vals ws := by unfold wordsB vals; rw [HE.out, List.map_map]; rfl
      rw [e1, e2]
      exact OW.out
    | succ g =>
      have hle : i ≤ s.size := by omega
      have hd : decide ((i : Int) ≤ (s.size : Int)) = true := by simp; omega
      have hfi := (HF.out.go (by have := HSL.out; omega)).1
      have hln := HF.out.len
      by_cases hend : i = s.size
      · subst hend
        have HF2 := Aside0.mk (show Sofar s.data.toList (s.size + 1) (s.size + 1) (ws ++ [(s.data.toList.drop f).take (s.size - f)]) by
          have h := HF.out
          rw [← HSL.out] at h ⊢
          exact h.fin)
        clear hle
        have hcut := slice_str s f s.size hfi (Nat.le_refl _)
        go_wp2_with (at_builtin; apply stop)
        unfold Stop
        refine wpList_append_own _ rfl (.tmp 22) (.tmp 27) 39 rfl w.heap.size 9 i9 _ 1 16 Tryd.underlying39 I9.out Z9.out S9.out Y9.out rfl (by decide) _ ws.length (vals ws) rfl (OW.out.alloc _) ⟨wr.heap.size, 0, none⟩ 1 1 [.string (ofL ((s.data.toList.drop f).take (s.size - f)))] rfl rfl ?_ ?_ ?_ ?_ ?_ ?_
        · intro j u hu
          have hj : j < 1 := by have := (List.getElem?_eq_some_iff.1 hu).1; simpa using this
          rw [Addr.add_mid, cell_of_row _ _ _ _ 9 (0, 0) (blk_new _ _)]
          simpa using hu
        · intro u hu
          simp at hu
          subst hu
          rfl
        · unfold maxLen; omega
        · omega
        · exact Nat.le_trans BL.out.size (by rw [alloc_size']; omega)
        intro v' w1 own' grow' _
        have OZ := Aside0.mk (show w1.ownsRow w.heap.size 9 1 v' (ws ++ [(s.data.toList.drop f).take (s.size - f)]).length (vals (ws ++ [(s.data.toList.drop f).take (s.size - f)])) by
          rw [vals_snoc, List.length_append]; exact own')
        have BZ := Aside0.mk ((below_alloc BL.out (.cells #[.string (ofL ((s.data.toList.drop f).take (s.size - f)))] 9 (0, 0))).grown grow' (by rw [alloc_size']; have := BL.out.size; omega) (fun k hk => own_base OW.out k hk))
        clear own' grow' OW BL
        go_wp2_with fail
        go_roundg g
        case measure => omega
        case rel => exact ⟨s.size + 1, s.size + 1, _, by omega, by go_num, by go_num, HF2, OZ, BZ⟩
      · have hlt : i < s.size := by omega
        have hq : ((i : Int) == (s.size : Int)) = false := by simp; omega
        have hc : s.data.toList[i]? = some (s[i]'hlt) := by rw [List.getElem?_eq_getElem (by have := HSL.out; omega)]; rfl
        have HC := Aside0.mk hc
        clear hc
        by_cases hb : s[i]'hlt = 32
        · have hbe : (((s[i]'hlt).toNat : Int) == 32) = true := by rw [hb]; rfl
          have HF2 := Aside0.mk (HF.out.cut (by rw [HC.out, hb]))
          clear hb
          have hcut := slice_str s f i hfi (by omega)
          go_wp2_with (at_builtin; apply stop)
          unfold Stop
          refine wpList_append_own _ rfl (.tmp 22) (.tmp 27) 39 rfl w.heap.size 9 i9 _ 1 16 Tryd.underlying39 I9.out Z9.out S9.out Y9.out rfl (by decide) _ ws.length (vals ws) rfl (OW.out.alloc _) ⟨wr.heap.size, 0, none⟩ 1 1 [.string (ofL ((s.data.toList.drop f).take (i - f)))] rfl rfl ?_ ?_ ?_ ?_ ?_ ?_
          · intro j u hu
            have hj : j < 1 := by have := (List.getElem?_eq_some_iff.1 hu).1; simpa using this
            rw [Addr.add_mid, cell_of_row _ _ _ _ 9 (0, 0) (blk_new _ _)]
            simpa using hu
          · intro u hu
            simp at hu
            subst hu
            rfl
          · unfold maxLen; omega
          · omega
          · exact Nat.le_trans BL.out.size (by rw [alloc_size']; omega)
          intro v' w1 own' grow' _
          have OZ := Aside0.mk (show w1.ownsRow w.heap.size 9 1 v' (ws ++ [(s.data.toList.drop f).take (i - f)]).length (vals (ws ++ [(s.data.toList.drop f).take (i - f)])) by
            rw [vals_snoc, List.length_append]; exact own')
          have BZ := Aside0.mk ((below_alloc BL.out (.cells #[.string (ofL ((s.data.toList.drop f).take (i - f)))] 9 (0, 0))).grown grow' (by rw [alloc_size']; have := BL.out.size; omega) (fun k hk => own_base OW.out k hk))
          clear own' grow' OW BL
          go_wp2_with fail
          go_roundg g
          case measure => omega
          case rel => exact ⟨i + 1, i + 1, _, by omega, by go_num, by go_num, HF2, OZ, BZ⟩
        · have hbe : (((s[i]'hlt).toNat : Int) == 32) = false := by
            simp only [beq_eq_false_iff_ne, ne_eq]
            intro h
            apply hb
            apply UInt8.toNat_inj.1
            have : (s[i]'hlt).toNat = 32 := by omega
            exact this
          have HF2 := Aside0.mk (HF.out.next HC.out hb)
          clear hb
          go_wp2_with fail
          go_roundg g
          case measure => omega
          case rel => exact ⟨i + 1, f, ws, by omega, by go_num, rfl, HF2, OW, BL⟩
end Go.Proofs.YtfejbfnjfombhaaDoor.LinO

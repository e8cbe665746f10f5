/- Two lists of texts, compared. -/
import Derived.Test.YtkppnamblmaokaaDoorModK
import Derived.Test.YtkppnamblmaokaaDoorGrow
namespace Go.Proofs.YtkppnamblmaokaaDoor.ModL
open Go.RowKit Go.Proofs.YtkppnamblmaokaaDoorW.PrintWords Go.Proofs.YtkppnamblmaokaaDoorW.PrintLast Go.Proofs.YtkppnamblmaokaaDoorW.PrintMore Go.Proofs.YtkppnamblmaokaaDoor.ModA Go.Proofs.YtkppnamblmaokaaDoor.ModB Go.Proofs.YtkppnamblmaokaaDoor.ModC Go.Proofs.YtkppnamblmaokaaDoor.ModD Go.Proofs.YtkppnamblmaokaaDoor.ModE Go.Proofs.YtkppnamblmaokaaDoor.ModF Go.Proofs.YtkppnamblmaokaaDoor.ModG Go.Proofs.YtkppnamblmaokaaDoor.ModK Go.Proofs.YtkppnamblmaokaaDoor.Grow
set_option linter.unusedVariables false
set_option linter.unusedSimpArgs false

/-- A slice of texts, read. -/
def TRow (w : World) (u : Value) (xs : List ByteArray) : Prop :=
  ∃ A cap, u = .slice A xs.length cap ∧ xs.length ≤ cap ∧ cap ≤ maxLen ∧ (0 < xs.length → ∃ g, A = some ⟨g, 0, none⟩ ∧ ∀ j x, xs[j]? = some x → w.cell? ⟨g, j, none⟩ = some (.string x))
theorem trow_below {w w' : World} {u : Value} {xs : List ByteArray} (h : TRow w u xs) (hb : Below w.heap.size w w') : TRow w' u xs := by
  obtain ⟨A, cap, h1, h2, h3, h4⟩ := h
  exact ⟨A, cap, h1, h2, h3, fun h => by
    obtain ⟨g, e, k⟩ := h4 h
    exact ⟨g, e, fun j x hx => pw_cell_below hb (k j x hx)⟩⟩
theorem trow_own {w : World} {base n : Nat} {u : Value} {xs : List ByteArray} (h : w.ownsRow base 9 1 u n (xs.map .string)) (hn : n = xs.length) : TRow w u xs := by
  subst hn
  have hc : ∀ g, u.ownBlock = some g → ∀ j x, (xs.map Value.string)[j]? = some x → w.cell? ((⟨g, 0, none⟩ : Addr).add j) = some x := fun g hg => h.cells hg
  rcases h with ⟨h1, ⟨e1, e2⟩ | ⟨g, cap, cur, e1, h2, h3, h4, h5, h6⟩⟩
  · exact ⟨none, 0, by rw [e1, e2], by omega, by omega, fun h => absurd e2 (by omega)⟩
  · refine ⟨some ⟨g, 0, none⟩, cap, e1, h4, h5, fun _ => ⟨g, rfl, fun j x hx => ?_⟩⟩
    have := hc g (by rw [e1]; rfl) j (.string x) (by simp [hx])
    rw [Addr.add_mid] at this
    simpa using this

theorem texts_step {xs ys : List ByteArray} {i : Nat} {x y : ByteArray} (hx : xs[i]? = some x) (hy : ys[i]? = some y) (h : xs.take i = ys.take i) : (x = y ↔ xs.take (i + 1) = ys.take (i + 1)) := by
  rw [List.take_add_one, List.take_add_one, hx, hy, h]
  simp

set_option maxHeartbeats 1000000 in
set_option maxRecDepth 100000 in
theorem texts_any {w : World} {u v : Value} {xs ys : List ByteArray} (hu : TRow w u xs) (hv : TRow w v ys) :
    Calls Tryd.prog 17 #[u, v] w fun e w' => e = .returned (.bool (decide (xs = ys))) ∧ Below w.heap.size w w' := by
  obtain ⟨A, c1, rfl, h1, h2, h3⟩ := hu
  obtain ⟨B, c2, rfl, h4, h5, h6⟩ := hv
  have BL := Aside0.mk (Below.refl w.heap.size w)
  by_cases hn : xs.length ≠ ys.length
  · have hne : (((xs.length : Int) != (ys.length : Int)) = true) := by simpa using by omega
    have hd : decide (xs = ys) = false := by simp; rintro rfl; exact hn rfl
    have HD := Aside0.mk hd
    clear hd
    go_enter Tryd.func17, Tryd.ntmps17
    go_wp2_with fail
    go_ret
    exact ⟨by rw [HD.out]; rfl, BL.out⟩
  · replace hn := Decidable.not_not.1 hn
    rcases Nat.eq_zero_or_pos xs.length with h0 | hpos
    · have e1 : xs = [] := List.eq_nil_of_length_eq_zero h0
      have e2 : ys = [] := List.eq_nil_of_length_eq_zero (by omega)
      subst e1 e2
      clear h3 h6 hn h0
      go_enter Tryd.func17, Tryd.ntmps17
      go_wp2_with fail
      go_loopw [5] (fun iv wr => iv = .int .i64 0 ∧ Aside0 (Below w.heap.size w wr)) (fun _ _ => 0)
      case atStart => exact ⟨rfl, BL⟩
      case round =>
        clear BL
        obtain ⟨rfl, BL⟩ := hrel
        go_wp2_with fail
        go_ret
        exact ⟨by simp, BL.out⟩
    · obtain ⟨g, rfl, k1⟩ := h3 hpos
      obtain ⟨g', rfl, k2⟩ := h6 (by omega)
      have K1 := Aside0.mk k1
      have K2 := Aside0.mk k2
      have hall : Aside0 (xs.take xs.length = ys.take xs.length ↔ xs = ys) := ⟨by rw [List.take_length, hn, List.take_length]⟩
      have TX := Aside0.mk (@texts_step xs ys)
      have GX : Aside0 (∀ i, i < xs.length → ∃ x y, xs[i]? = some x ∧ ys[i]? = some y) := ⟨fun i hi => ⟨xs[i], ys[i], by simp, by simp⟩⟩
      clear k1 k2 h3 h6
      rw [← hn] at h4 ⊢
      clear hn
      generalize hlen : xs.length = len at *
      have HL := Aside0.mk hlen
      clear hlen
      have hmx : len ≤ 9223372036854775807 := by unfold maxLen at h2; omega
      go_enter Tryd.func17, Tryd.ntmps17
      go_wp2_with fail
      go_loopw [5] (fun iv wr => ∃ i : Nat, i ≤ len ∧ iv = .int .i64 i ∧ Aside0 (xs.take i = ys.take i) ∧ Aside0 (Below w.heap.size w wr)) (fun iv _ => len - (intOf iv).toNat)
      case atStart => exact ⟨0, by omega, rfl, ⟨by simp⟩, BL⟩
      case round =>
        clear BL
        obtain ⟨i, hi, rfl, TK, BL⟩ := hrel
        by_cases hlt : i < len
        · obtain ⟨x, y, hx, hy⟩ := GX.out i hlt
          have F : Aside0 (∀ w', Ext wr w' → w'.cell? ⟨g, i, none⟩ = some (.string x) ∧ w'.cell? ⟨g', i, none⟩ = some (.string y)) := ⟨fun w' hw' =>
            have hb := (Ext.step BL.out hw'.out).out
            ⟨pw_cell_below hb (K1.out i x hx), pw_cell_below hb (K2.out i y hy)⟩⟩
          have TI := Aside0.mk (TX.out hx hy TK.out)
          have TD : Aside0 (xs = ys → x = y) := ⟨by rintro rfl; rw [hx] at hy; injection hy⟩
          clear hx hy
          go_wp2_with fail
          refine wp_region_ext rfl (by kernel_rfl) ?_
          repeat (first
            | (refine wpQuiet_step (fun K hK => ?_); go_simp; (first | (refine hK _ ?_) | (refine ⟨_, fun _ _ => rfl, hK _ ?_⟩)); clear hK K)
            | (refine wpQuiet_step (fun K hK => ?_); refine q_val (v := ?_) ?_ ?_ ?_; rotate_left; (rfl); (intro w' hw'; have c0 := (F.out w' hw').1; have c1 := (F.out w' hw').2; go_simp; with_reducible rfl); go_simp; refine hK _ ?_; clear hK K))
          refine wpQuiet_nil ?_
          intro w4 E4
          generalize hbb : (!x.toList == y.toList) = bb
          cases bb
          · have hxy : x = y := by simpa [ByteArray.toList_eq, ByteArray.ext_iff] using hbb
            clear hbb
            go_wp2_with fail
            go_roundw
            case measure => simp [intOf]; omega
            case rel => exact ⟨i + 1, by omega, by go_num, ⟨TI.out.1 hxy⟩, ⟨(Ext.step BL.out E4.out).out⟩⟩
          · have hxy : ¬ x = y := by rintro rfl; simp at hbb
            clear hbb
            have HD : Aside0 (decide (xs = ys) = false) := ⟨by simp; exact fun h => hxy (TD.out h)⟩
            go_wp2_with fail
            go_ret
            exact ⟨by rw [HD.out]; rfl, (Ext.step BL.out E4.out).out⟩
        · have : i = len := by omega
          subst this
          have HD : Aside0 (decide (xs = ys) = true) := ⟨by simp; exact hall.out.1 TK.out⟩
          go_wp2_with fail
          go_ret
          exact ⟨by rw [HD.out]; rfl, BL.out⟩

end Go.Proofs.YtkppnamblmaokaaDoor.ModL

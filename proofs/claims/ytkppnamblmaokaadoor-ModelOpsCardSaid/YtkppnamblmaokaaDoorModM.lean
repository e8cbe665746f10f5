/- A volume taken out of a model's row. -/
import Derived.Test.YtkppnamblmaokaaDoorModJ
import Derived.Test.YtkppnamblmaokaaDoorModK
import Derived.Deep.RegionLaw
namespace Go.Proofs.YtkppnamblmaokaaDoor.ModM
open Go.RowKit Go.Proofs.YtkppnamblmaokaaDoorW.PrintWords Go.Proofs.YtkppnamblmaokaaDoorW.PrintLast Go.Proofs.YtkppnamblmaokaaDoorW.PrintMore Go.Proofs.YtkppnamblmaokaaDoor.ModA Go.Proofs.YtkppnamblmaokaaDoor.ModB Go.Proofs.YtkppnamblmaokaaDoor.ModC Go.Proofs.YtkppnamblmaokaaDoor.ModD Go.Proofs.YtkppnamblmaokaaDoor.ModE Go.Proofs.YtkppnamblmaokaaDoor.ModF Go.Proofs.YtkppnamblmaokaaDoor.ModG Go.Proofs.YtkppnamblmaokaaDoor.ModJ Go.Proofs.YtkppnamblmaokaaDoor.ModK
set_option linter.unusedVariables false
set_option linter.unusedSimpArgs false

theorem volCells_erase : ∀ (L : List Vol) (gs : List Nat) (i : Nat), gs.length = L.length → i < L.length →
    volCells (L.eraseIdx i) (gs.eraseIdx i) = (volCells L gs).take (i * 2) ++ (volCells L gs).drop ((i + 1) * 2)
  | v :: L, g :: gs, 0, h, _ => by simp [volCells, Vol.cells]
  | v :: L, g :: gs, i + 1, h, h2 => by
    have e1 : (i + 1) * 2 = i * 2 + 2 := by omega
    have e2 : (i + 1 + 1) * 2 = (i + 1) * 2 + 2 := by omega
    rw [List.eraseIdx_cons_succ, List.eraseIdx_cons_succ, volCells, volCells_erase L gs i (by simpa using h) (by simpa using h2), volCells, e2]
    conv => rhs; rw [e1]
    simp [Vol.cells, e1]
  | [], _, _, _, h2 => by simp at h2
  | _ :: _, [], _, h, _ => by simp at h

theorem touch_setCells (w : World) (g o : Nat) (vs : List Value) : ModG.Touch [g] w (w.setCells g o vs) := by
  have hb := setCells_below (w := w) (Nat.le_refl g) vs o w (Below.refl _ _)
  exact ⟨hb.os, hb.tape, hb.output, hb.size, fun j _ hn => setCells_other g _ _ w j (by simpa using hn)⟩

theorem run_clear_one {P : Program} (w : World) (t e ty : TypeId) (x y : Value) (ht : P.underlying t = some (.slice e)) (hv : ∀ w, (zeroValue e).run P w = .ok (.agg #[x, y]) w) (hx : x.cells = #[x]) (hy : y.cells = #[y]) (h1 : x.oneCell' = true) (h2 : y.oneCell' = true) (b o c : Nat)
    (hc : ∀ j, j < 2 → (w.cell? ⟨b, o + j, none⟩).isSome = true) (hf : ∀ j, j < 2 → w.frozen? ⟨b, o + j, none⟩ = false) :
    (Builtin.clear_ #[t] ty #[.slice (some ⟨b, o, none⟩) 1 c]).run P w = .ok (.tuple #[]) (w.setCells b o [x, y]) := by
  have hcells : (Value.agg #[x, y]).cells = #[x, y] := by simp [Value.cells, hx, hy]
  have hzc : (Builtin.zeroCells (Value.agg #[x, y]).cells 1).toList = [x, y] := by
    rw [hcells]
    apply List.ext_getElem
    · simp [Builtin.zeroCells]
    · intro i h1 h2
      have : i = 0 ∨ i = 1 := by simp at h2; omega
      rcases this with rfl | rfl <;> simp [Builtin.zeroCells]
  have hst := run_storeCells_cells (P := P) b o [x, y] 0 w (by simpa using hc) (by simpa using hf) (by simp [h1, h2])
  simp only [Nat.add_zero] at hst
  simp [Builtin.clear_, run_underlying ht, hv, hzc, hst]

theorem wpList_clear {P : Program} {ops : Array Oper} {rest : List Oper} {o : Oper} {a : Act} {w : World} {Q : Exit → Act → World → Prop} (hgd : o.guard = none) (x : Operand) (t : TypeId)
    (ho : o.op = .call { callee := .builtin .clear, args := #[x], argTypes := #[t] }) (v : Value) (hx : a.eval x = v) (w' : World)
    (hr : (Builtin.clear_ #[t] o.type #[v]).run P w = .ok (.tuple #[]) w') (h : wpList P ops Q rest (a.put o.dst (.tuple #[])) w') : wpList P ops Q (o :: rest) a w := by
  refine wpList_plain hgd fun K hK => ?_
  unfold Oper.wp execOp
  simp only [ho, resolve, invoke, builtin, Sem.run_bind, Sem.run_pure, Result.andThen_ok, List.map_toArray, List.map_cons, List.map_nil, hx, hr]
  exact hK _ _ h

theorem volCells_one : ∀ (L : List Vol) (gs : List Nat), ∀ u ∈ volCells L gs, u.oneCell' = true
  | v :: L, g :: gs, u, h => by
    simp only [volCells, Vol.cells, List.cons_append, List.nil_append, List.mem_cons] at h
    rcases h with rfl | rfl | h
    · rfl
    · rfl
    · exact volCells_one L gs u h
  | [], _, _, h => by simp [volCells] at h
  | _ :: _, [], _, h => by simp [volCells] at h

set_option maxHeartbeats 1600000 in
set_option maxRecDepth 1000000 in
theorem delete_walk (w : World) (ga n cap i : Nat) (cur : Array Value) (news : List Value) (hg : w.heap[ga]? = some (.cells cur 74 (0, 0))) (hi : i < n) (hn : n ≤ 3) (h1 : n ≤ cap) (h2 : cap ≤ maxLen) (hs : cur.size = cap * 2)
    (hnews : news = (cur.toList.take (n * 2)).drop ((i + 1) * 2)) (hone : ∀ u ∈ news, u.oneCell' = true) :
    Calls Tryd.prog 32 #[.slice (some ⟨ga, 0, none⟩) n cap, .int .i64 i, .int .i64 (i + 1)] w fun e w' => e = .returned (.slice (some ⟨ga, 0, none⟩) (n - 1) cap) ∧ ModG.Touch [ga] w w' ∧
      w'.heap[ga]? = some (.cells (splice (splice cur (i * 2) news) ((n - 1) * 2) [.string ByteArray.empty, .slice none 0 0]) 74 (0, 0)) := by
  obtain ⟨i0, hi0, hz0, hz1, hz2⟩ := info_parts info74
  have hnl : news.length = (n - (i + 1)) * 2 := by rw [hnews]; simp [hs]; omega
  have hget : ∀ j u, news[j]? = some u → w.cell? ⟨ga, (i + 1) * 2 + j, none⟩ = some u := by
    intro j u hu
    have hj : j < (n - (i + 1)) * 2 := by rw [← hnl]; exact (List.getElem?_eq_some_iff.1 hu).1
    rw [blk_cell hg]
    rw [hnews, List.getElem?_drop, List.getElem?_take_of_lt (by omega)] at hu
    simpa using hu
  obtain ⟨A, hA, hnews'⟩ : ∃ A : Addr, (if cap = i + 1 then some (⟨ga, 0, none⟩ : Addr) else some ⟨ga, (i + 1) * 2, none⟩) = some A ∧ Aside0 (∀ j u, news[j]? = some u → w.drew.cell? (A.add j) = some u) := by
    by_cases h : cap = i + 1
    · refine ⟨⟨ga, 0, none⟩, by simp [h], ⟨fun j u hu => ?_⟩⟩
      have h0 : news.length = 0 := by omega
      rw [List.length_eq_zero_iff.1 h0] at hu
      simp at hu
    · refine ⟨⟨ga, (i + 1) * 2, none⟩, by simp [h], ⟨fun j u hu => ?_⟩⟩
      rw [Addr.add_lit]
      exact hget j u hu
  have s1 := Aside0.mk hnl
  have s2 := Aside0.mk hone
  have s3 : Aside0 (∀ j, j < news.length → (w.drew.cell? ⟨ga, 0 + i * 2 + j, none⟩).isSome = true ∧ w.drew.frozen? ⟨ga, 0 + i * 2 + j, none⟩ = false) := ⟨by
    intro j hj
    refine ⟨?_, blk_frozen (w := w) hg _⟩
    show (w.cell? _).isSome = true
    rw [blk_cell hg]
    have : 0 + i * 2 + j < cur.size := by omega
    rw [Array.getElem?_eq_getElem this]; rfl⟩
  have hH := Aside0.mk (setCells_heap ga news (0 + i * 2) w.drew cur 74 hg)
  have hT : Aside0 (ModG.Touch [ga] w (w.drew.setCells ga (0 + i * 2) news)) := by
    have t := touch_setCells w.drew ga (0 + i * 2) news
    exact ⟨⟨t.os, t.tape, t.output, t.size, t.block⟩⟩
  have hZ : Aside0 (∀ w, (zeroValue 74).run Tryd.prog w = .ok (.agg #[.string ByteArray.empty, .slice none 0 0]) w) := ⟨fun w => by simp [zeroValue, typeInfo, hi0, hz0]⟩
  have hic : i ≤ cap := by omega
  have hwr : IntKind.i64.wrap ((i : Int) + 1) = (i : Int) + 1 := by rw [IntKind.wrap_i64]; omega
  have hp0 : (0 : Int) ≤ (i : Int) + 1 := by omega
  have hp1 : (i : Int) + 1 ≤ (n : Int) := by omega
  have hp2 : ((i : Int) + 1).toNat = i + 1 := by omega
  have hne : ((i : Int) == (i : Int) + 1) = false := by simp; omega
  have hpc : (i : Int) + 1 ≤ (cap : Int) := by omega
  have HS := Aside0.mk hs
  clear hget hnl hone hnews hg hs
  go_enter Tryd.func32, Tryd.ntmps32
  go_wp2_with fail
  go_region_law (refine step_append_room rfl (.tmp 22) (.tmp 25) 69 rfl 74 i0 2 Tryd.underlying69 hi0 hz1 ga 0 i cap (by simp [Act.eval, Act.put]) A (n - (i + 1)) (cap - (i + 1)) news (by simp [Act.eval, Act.put]) s1.out hnews'.out s2.out (by omega) s3.out ?_)
  have hm1 : i + (n - (i + 1)) = n - 1 := by omega
  have hlt : n - 1 < cap := by omega
  have h1n : n - (n - 1) = 1 := by omega
  have hH2 := Aside0.mk (Nat.zero_add (i * 2) ▸ hH.out)
  have hT2 := Aside0.mk (Nat.zero_add (i * 2) ▸ hT.out)
  have hcl : (Builtin.clear_ #[69] 0 #[.slice (some ⟨ga, (n - 1) * 2, none⟩) 1 (cap - (n - 1))]).run Tryd.prog (w.drew.setCells ga (i * 2) news) = .ok (.tuple #[]) ((w.drew.setCells ga (i * 2) news).setCells ga ((n - 1) * 2) [.string ByteArray.empty, .slice none 0 0]) := by
    refine run_clear_one _ 69 74 0 _ _ Tryd.underlying69 hZ.out (by simp [Value.cells]) (by simp [Value.cells]) rfl rfl ga _ _ ?_ (fun j _ => blk_frozen hH2.out _)
    intro j hj
    rw [blk_cell hH2.out]
    have : (n - 1) * 2 + j < (splice cur (i * 2) news).size := by rw [splice_size, HS.out]; omega
    rw [Array.getElem?_eq_getElem this]; rfl
  have HC := Aside0.mk hcl
  have hH3 := Aside0.mk (setCells_heap ga [.string ByteArray.empty, .slice none 0 0] ((n - 1) * 2) _ _ _ hH2.out)
  have hT3 := Aside0.mk (hT2.out.trans (touch_setCells _ ga ((n - 1) * 2) [.string ByteArray.empty, .slice none 0 0]))
  clear hnews' s3 hcl hH hT
  rw [hm1]
  go_wp2_with fail
  rw [HC.out]
  go_wp2
  go_ret
  exact ⟨rfl, hT3.out, hH3.out⟩

theorem delete_any {base : Nat} {w : World} {L : List Vol} {gs : List Nat} {v : Value} (own : w.ownsRow base 74 2 v L.length (volCells L gs)) (hgl : gs.length = L.length) (few : L.length ≤ 3) {i : Nat} (hi : i < L.length) :
    ∃ ga, v.ownBlock = some ga ∧ Calls Tryd.prog 32 #[v, .int .i64 i, .int .i64 (i + 1)] w fun e w' => ∃ v', e = .returned v' ∧ v'.ownBlock = some ga ∧ ModG.Touch [ga] w w' ∧
      w'.ownsRow base 74 2 v' (L.eraseIdx i).length (volCells (L.eraseIdx i) (gs.eraseIdx i)) := by
  rcases own.2 with ⟨_, h0⟩ | ⟨ga, cap, cur, rfl, hb, hg, h1, h2, h3, h4⟩
  · omega
  refine ⟨ga, rfl, (delete_walk w ga L.length cap i cur ((cur.toList.take (L.length * 2)).drop ((i + 1) * 2)) hg hi few h1 h2 h3 rfl ?_).mono ?_⟩
  · intro u hu
    rw [h4] at hu
    exact volCells_one L gs u (List.mem_of_mem_drop hu)
  · rintro e w' ⟨rfl, hT, hH⟩
    have hle : (L.eraseIdx i).length = L.length - 1 := by rw [List.length_eraseIdx, if_pos hi]
    have hlv : (volCells L gs).length = L.length * 2 := own.1
    rw [hle]
    refine ⟨_, rfl, rfl, hT, ?_, .inr ⟨ga, cap, _, rfl, hb, hH, by omega, h2, by rw [splice_size, splice_size]; exact h3, ?_⟩⟩
    · rw [volCells_erase L gs i hgl hi]
      simp [hlv]; omega
    · rw [volCells_erase L gs i hgl hi, ← h4]
      apply List.ext_getElem?
      intro j
      have hs1 : ((cur.toList.take (L.length * 2)).drop ((i + 1) * 2)).length = (L.length - (i + 1)) * 2 := by simp [h3]; omega
      by_cases hj : j < (L.length - 1) * 2
      · rw [List.getElem?_take_of_lt hj, Array.getElem?_toList, splice_get _ _ _ _ (by rw [splice_size, h3]; simp; omega), if_neg (by omega), splice_get _ _ _ _ (by rw [h3, hs1]; omega), hs1]
        by_cases hji : j < i * 2
        · rw [if_neg (by omega), List.getElem?_append_left (by simp [h3]; omega), List.getElem?_take_of_lt hji, List.getElem?_take_of_lt (by omega), Array.getElem?_toList]
        · rw [if_pos (by omega), List.getElem?_append_right (by simp [h3]; omega)]
          congr 1
          simp [h3]; omega
      · rw [List.getElem?_eq_none (by simp [splice_size, h3]; omega), List.getElem?_eq_none (by simp [h3]; omega)]

end Go.Proofs.YtkppnamblmaokaaDoor.ModM

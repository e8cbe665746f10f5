/- A model's volumes beside a table's. -/
import Derived.Test.YtkppnamblmaokaaDoorModS
import Derived.Test.YtkppnamblmaokaaDoorCsY
namespace Go.Proofs.YtkppnamblmaokaaDoor.OpsP
open Go.RowKit Go.Proofs.YtkppnamblmaokaaDoorW.PrintWords Go.Proofs.YtkppnamblmaokaaDoorW.PrintLast Go.Proofs.YtkppnamblmaokaaDoorW.PrintMore
set_option linter.unusedVariables false
set_option linter.unusedSimpArgs false

theorem idx_same (name : ByteArray) : ∀ ns, ModB.idx name ns = CsD.idx name ns
  | [] => rfl
  | s :: r => by unfold ModB.idx CsD.idx; rw [idx_same name r]
theorem good_same (s : ByteArray) : ModH.goodName s = CsH.goodL s.data.toList := (show ModH.goodName s = CsH.goodName s from rfl).trans (CsH.good_eq s)
/-- The same names, and as many blocks. -/
def Corr (L : List ModC.Vol) (l : List CsA.Vo) : Prop := L.map (fun v => (v.name, v.blocks.length)) = l.map (fun x => (x.name, x.blocks.length))
theorem Corr.len {L l} (h : Corr L l) : L.length = l.length := by have := congrArg List.length h; simpa using this
theorem Corr.names {L l} (h : Corr L l) : L.map (·.name) = l.map (·.name) := by
  have := congrArg (List.map Prod.fst) h
  simpa [List.map_map, Function.comp_def] using this
theorem Corr.lens {L l} (h : Corr L l) : L.map (·.blocks.length) = l.map (·.blocks.length) := by
  have := congrArg (List.map Prod.snd) h
  simpa [List.map_map, Function.comp_def] using this
theorem Corr.ix {L l} (h : Corr L l) (name : ByteArray) : ModS.ix L name = CsD.idx name (l.map (·.name)) := by
  unfold ModS.ix
  rw [h.names, idx_same]
theorem flat_sum (l : List CsA.Vo) : (l.flatMap (·.blocks)).length = (l.map (·.blocks.length)).sum := by
  rw [List.length_flatMap]
theorem map_erase {α β : Type} (f : α → β) : ∀ (l : List α) (i : Nat), (l.eraseIdx i).map f = (l.map f).eraseIdx i
  | [], i => rfl
  | a :: r, 0 => rfl
  | a :: r, i + 1 => by rw [List.eraseIdx_cons_succ, List.map_cons, List.map_cons, List.eraseIdx_cons_succ, map_erase f r i]
theorem Corr.erase {L l} (h : Corr L l) (i : Nat) : Corr (L.eraseIdx i) (l.eraseIdx i) := by
  unfold Corr at *
  rw [map_erase, map_erase, h]
theorem Corr.push {L l} (h : Corr L l) (name : ByteArray) (n : Nat) (ts : List Nat) (ht : ts.length = n) : Corr (L ++ [ModJ.newVol name n]) (l ++ [⟨name, ts⟩]) := by
  unfold Corr at *
  rw [List.map_append, List.map_append, h]
  simp [ModJ.newVol, ht]
theorem blocksOf_sum (L : List ModC.Vol) : ModD.blocksOf L = (L.map (·.blocks.length)).sum := rfl
theorem Corr.free {L l} (h : Corr L l) (hg : CsI.GoodT l) : ModD.freeOf L = ((CsC.freeL (CsA.usedN l)).length : Int) := by
  have hp := hg.pool.free
  rw [flat_sum] at hp
  unfold ModD.freeOf
  rw [blocksOf_sum, h.lens]
  omega
theorem last_put {w : World} {B k : Nat} {pv : Value} {ps : List CsO.Pu} {p : CsO.Pu} (own : w.ownsRow B 59 33 pv (k + 1) (CsO.puCells (ps ++ [p]))) (hp : p.data.length = 32) :
    ∃ g cap, pv = .slice (some ⟨g, 0, none⟩) (k + 1) cap ∧ k + 1 ≤ cap ∧ B ≤ g ∧ w.rangeAt g (k * 33 + 1) (p.data.map (Value.int .u8)) := by
  have hlen : (CsO.puCells (ps ++ [p])).length = (k + 1) * 33 := own.1
  rw [CsO.puCells_snoc] at hlen own
  rw [List.length_append, CsO.Pu.size p hp] at hlen
  rcases CsI.own_cells own (by rw [List.length_append, CsO.Pu.size p hp]; omega) with ⟨_, _, _, h0⟩ | ⟨g, cap, hv, h1, h2, hc⟩
  · omega
  · refine ⟨g, cap, hv, h1, h2, fun j v hj => ?_⟩
    refine hc (k * 33 + 1 + j) v ?_
    rw [List.getElem?_append_right (by omega), show k * 33 + 1 + j - (CsO.puCells ps).length = j + 1 by omega]
    unfold CsO.Pu.cells
    simpa using hj
/-- What Make says, and the table that it tells. -/
structure Told (B : Nat) (w' : World) (pv : Value) (L : List ModC.Vol) : Prop where
  ex : ∃ l' k g cap, CsI.GoodT l' ∧ Corr L l' ∧ pv = .slice (some ⟨g, 0, none⟩) (k + 1) cap ∧ k + 1 ≤ cap ∧ k ≤ 10 ∧ B ≤ g ∧ w'.rangeAt g (k * 33 + 1) ((CsK.enc l').map (Value.int .u8))
theorem enc_len {l : List CsA.Vo} (hg : CsI.GoodT l) : (CsK.enc l).length = 32 := CsK.encTo_len hg _ (Nat.le_refl _)
theorem omake_any {L : List ModC.Vol} {l : List CsA.Vo} (C : Corr L l) (hg : CsI.GoodT l) (name : ByteArray) (n : Int) (hsz : name.size ≤ 1000) (hn : -9223372036854775808 ≤ n ∧ n ≤ 9223372036854775807) (w : World) :
    Calls Tryd.prog 23 #[.agg (CsE.arr (CsK.enc l)), .string name, .int .i64 n] w fun e w' => ∃ pv, e = .returned (.tuple #[pv, .int .i64 (ModI.makeRes L name n)]) ∧ Below w.heap.size w w' ∧ (ModI.makeRes L name n = 0 → Told w.heap.size w' pv (ModS.makeL L name n)) := by
  have hix : ModB.idx name (L.map (·.name)) = CsD.idx name (l.map (·.name)) := by rw [C.names, idx_same]
  have hfr := C.free hg
  have err : ∀ k : Int, k ≠ 0 → ModI.makeRes L name n = k → Calls Tryd.prog 23 #[.agg (CsE.arr (CsK.enc l)), .string name, .int .i64 n] w (fun e w' => e = .returned (.tuple #[.slice none 0 0, .int .i64 k]) ∧ Below w.heap.size w w') →
      Calls Tryd.prog 23 #[.agg (CsE.arr (CsK.enc l)), .string name, .int .i64 n] w fun e w' => ∃ pv, e = .returned (.tuple #[pv, .int .i64 (ModI.makeRes L name n)]) ∧ Below w.heap.size w w' ∧ (ModI.makeRes L name n = 0 → Told w.heap.size w' pv (ModS.makeL L name n)) :=
    fun k hk hr h => h.mono fun e w' ⟨he, hb⟩ => ⟨.slice none 0 0, by rw [he, hr], hb, fun h0 => absurd (hr.symm.trans h0) hk⟩
  by_cases h1 : CsH.goodL name.data.toList = false
  · exact err 11 (by decide) (by unfold ModI.makeRes; rw [good_same, h1]; rfl) (CsR.make_11 l name n hsz hn w hg h1)
  have h1 : CsH.goodL name.data.toList = true := by simpa using h1
  by_cases h2 : 0 ≤ CsD.idx name (l.map (·.name))
  · exact err 16 (by decide) (by unfold ModI.makeRes; rw [good_same, h1, hix, if_neg (by simp), if_pos h2]) (CsR.make_16 l name n hsz hn w hg h1 h2)
  by_cases h3 : n < 1 ∨ 4 < n
  · exact err 17 (by decide) (by unfold ModI.makeRes; rw [good_same, h1, hix, if_neg (by simp), if_neg h2, if_pos h3]) (CsR.make_17 l name n hsz hn w hg h1 (by omega) h3)
  by_cases h5 : 3 ≤ l.length
  · exact err 18 (by decide) (by unfold ModI.makeRes; rw [good_same, h1, hix, if_neg (by simp), if_neg h2, if_neg h3, if_pos (.inl (by rw [C.len]; exact h5))]) (CsR.make_18a l name n hsz hn w hg h1 (by omega) (by omega) (by omega) h5)
  by_cases h6 : ((CsC.freeL (CsA.usedN l)).length : Int) < n
  · exact err 18 (by decide) (by unfold ModI.makeRes; rw [good_same, h1, hix, if_neg (by simp), if_neg h2, if_neg h3, if_pos (.inr (by rw [hfr]; exact h6))]) (CsR.make_18b l name n hsz hn w hg h1 (by omega) (by omega) (by omega) (by omega) h6)
  obtain ⟨u, rfl⟩ : ∃ u : Nat, n = (u : Int) := ⟨n.toNat, by omega⟩
  have hr : ModI.makeRes L name u = 0 := by
    unfold ModI.makeRes; rw [good_same, h1, hix, if_neg (by simp), if_neg h2, if_neg h3, if_neg (by rw [C.len, hfr]; omega)]
  have hL : ModS.makeL L name u = L ++ [ModJ.newVol name u] := by unfold ModS.makeL; rw [if_pos hr, Int.toNat_natCast]
  refine (CsS.make_ok l name u hsz hn w hg h1 (by omega) u rfl (by omega) (by omega) (by omega) (by omega)).mono ?_
  rintro e w' ⟨pv, rfl, own, hb⟩
  have hgm := CsS.GoodT.more hg h1 (by omega) (show 1 ≤ u by omega) (by omega) (by omega) (show u ≤ _ by omega)
  obtain ⟨g, cap, hv, hc, hB, hrg⟩ := last_put own (enc_len hgm)
  exact ⟨pv, by rw [hr], hb, fun _ => ⟨_, u, g, cap, hgm, by rw [hL]; exact C.push name u _ (CsS.takeL_len l u (by omega)), hv, hc, by omega, hB, hrg⟩⟩
theorem ogone_any {L : List ModC.Vol} {l : List CsA.Vo} (C : Corr L l) (hg : CsI.GoodT l) (name : ByteArray) (w : World) :
    Calls Tryd.prog 24 #[.agg (CsE.arr (CsK.enc l)), .string name] w fun e w' => ∃ pv, e = .returned (.tuple #[pv, .int .i64 (ModS.goneRes L name)]) ∧ Below w.heap.size w w' ∧ (ModS.goneRes L name = 0 → Told w.heap.size w' pv (ModS.goneL L name)) := by
  have hix := C.ix name
  by_cases h : CsD.idx name (l.map (·.name)) < 0
  · have hr : ModS.goneRes L name = 16 := by unfold ModS.goneRes; rw [hix, if_pos h]
    refine (CsQ.gone_no l name w hg h).mono ?_
    rintro e w' ⟨rfl, hb⟩
    exact ⟨_, by rw [hr], hb, fun h0 => by rw [hr] at h0; cases h0⟩
  · obtain ⟨i, hi⟩ : ∃ i : Nat, CsD.idx name (l.map (·.name)) = i := ⟨(CsD.idx name (l.map (·.name))).toNat, by omega⟩
    have hr : ModS.goneRes L name = 0 := by unfold ModS.goneRes; rw [hix, if_neg h]
    have hL : ModS.goneL L name = L.eraseIdx i := by unfold ModS.goneL; rw [hix, if_neg h, hi, Int.toNat_natCast]
    refine (CsQ.gone_ok l name i w hg hi).mono ?_
    rintro e w' ⟨pv, rfl, own, hb⟩
    have hge := CsQ.GoodT.sub hg (List.eraseIdx_sublist l i)
    obtain ⟨g, cap, hv, hc, hB, hrg⟩ := last_put (ps := []) own (enc_len hge)
    exact ⟨pv, by rw [hr], hb, fun _ => ⟨_, 0, g, cap, hge, by rw [hL]; exact C.erase i, hv, hc, by omega, hB, hrg⟩⟩
theorem oplace_any {L : List ModC.Vol} {l : List CsA.Vo} (C : Corr L l) (hg : CsI.GoodT l) (name : ByteArray) (n : Int) (hn : -9223372036854775808 ≤ n ∧ n ≤ 9223372036854775807) (w : World) :
    Calls Tryd.prog 25 #[.agg (CsE.arr (CsK.enc l)), .string name, .int .i64 n] w fun e w' => e = .returned (.tuple #[.int .i64 (CsN.placeN l name n), .int .i64 (ModS.atRes L name n)]) ∧ Below w.heap.size w w' := by
  have hix := C.ix name
  have he : CsN.placeE l name n = ModS.atRes L name n := by
    unfold CsN.placeE ModS.atRes ModS.volOf
    rw [hix]
    by_cases h : CsD.idx name (l.map (·.name)) < 0
    · rw [if_pos h, if_pos h]
    · rw [if_neg h, if_neg h]
      obtain ⟨i, hi⟩ : ∃ i : Nat, CsD.idx name (l.map (·.name)) = i := ⟨(CsD.idx name (l.map (·.name))).toNat, by omega⟩
      have hlt := CsD.idx_lt name (l.map (·.name))
      rw [List.length_map] at hlt
      have hil : i < l.length := by omega
      rw [hi, Int.toNat_natCast]
      have hLl := C.len
      have e1 : l[i]? = some l[i] := by simp
      have e2 : L[i]? = some (L[i]'(by omega)) := by simp
      have e3 : (L[i]'(by omega)).blocks.length = l[i].blocks.length := by
        have := congrArg (fun x => x[i]?) C.lens
        simp only [List.getElem?_map, e1, e2, Option.map_some, Option.some.injEq] at this
        exact this
      rw [e1, List.getD, e2, Option.getD_some]
      simp only
      rw [e3]
  rw [← he]
  exact CsN.place_any l name n hn w hg
end Go.Proofs.YtkppnamblmaokaaDoor.OpsP

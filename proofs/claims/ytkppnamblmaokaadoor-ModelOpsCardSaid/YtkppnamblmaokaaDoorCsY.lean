/- The volumes of a table's bytes. -/
import Derived.Test.YtkppnamblmaokaaDoorCsX
import Derived.ChangeKeysEq
import Derived.Laws.Cover3
import Derived.Deep.RegionLaw
import Derived.Great.BuildSlice
namespace Go.Proofs.YtkppnamblmaokaaDoor.CsL
open Go.RowKit Go.Proofs.YtkppnamblmaokaaDoorW.PrintWords Go.Proofs.YtkppnamblmaokaaDoorW.PrintLast Go.Proofs.YtkppnamblmaokaaDoorW.PrintMore Go.Proofs.YtkppnamblmaokaaDoor.CsA Go.Proofs.YtkppnamblmaokaaDoor.CsW Go.Proofs.YtkppnamblmaokaaDoor.CsB Go.Proofs.YtkppnamblmaokaaDoor.CsC Go.Proofs.YtkppnamblmaokaaDoor.CsD Go.Proofs.YtkppnamblmaokaaDoor.CsE Go.Proofs.YtkppnamblmaokaaDoor.CsH Go.Proofs.YtkppnamblmaokaaDoor.CsF Go.Proofs.YtkppnamblmaokaaDoor.CsI Go.Proofs.YtkppnamblmaokaaDoor.CsJ Go.Proofs.YtkppnamblmaokaaDoor.CsK
set_option linter.unusedVariables false
set_option linter.unusedSimpArgs false
theorem part5 (a : List Int) (j : Nat) (x : Int) (h : a[j]? = some x) (w : World) : (part 5 (arr a) j).run Tryd.prog w = .ok (.int .u8 x) w := by
  have h1 : (arr a)[j]? = some (.int .u8 x) := by simp [arr, h]
  simp [part, isAgg, run_underlying Tryd.underlying5, h1]
theorem eqItems5 (a b : List Int) (hab : a.length = b.length) (w : World) : ∀ is : List Nat, (∀ j ∈ is, j < a.length) →
    (Op.eqItems 9999 5 1 (arr a) (arr b) is).run Tryd.prog w = .ok (is.all fun j => a[j]? == b[j]?) w
  | [], _ => by simp [Op.eqItems]
  | j :: is, h => by
    have hj := h j (by simp)
    have e1 : a[j]? = some a[j] := by simp
    have e2 : b[j]? = some (b[j]'(by omega)) := by simp
    simp only [Op.eqItems, Sem.run_bind, Nat.mul_one, part5 a j _ e1, part5 b j _ e2, Result.andThen_ok, run_equalIn_int w 9998 5 .u8 .u8 _ _ Tryd.underlying5]
    cases hh : (a[j] == (b[j]'(by omega)))
    · simp only [Bool.not_false, if_true, Sem.run_pure, List.all_cons, e1, e2, Option.some_beq_some, hh, Bool.false_and]
    · simp only [Bool.not_true, Bool.false_eq_true, if_false, List.all_cons, e1, e2, Option.some_beq_some, hh, Bool.true_and]
      exact eqItems5 a b hab w is (fun k hk => h k (by simp [hk]))
theorem eq_key (a b : List Int) (ha : a.length = 32) (hb : b.length = 32) : ((List.range 32).all fun j => a[j]? == b[j]?) = decide (a = b) := by
  generalize hn : 32 = n at *
  rw [Bool.eq_iff_iff, List.all_eq_true, decide_eq_true_iff]
  constructor
  · intro h
    apply List.ext_getElem?
    intro j
    by_cases hj : j < n
    · simpa using h j (List.mem_range.2 hj)
    · rw [List.getElem?_eq_none (by omega), List.getElem?_eq_none (by omega)]
  · rintro rfl j _
    simp
theorem eq32 (a b : List Int) (ha : a.length = 32) (hb : b.length = 32) (w : World) : (Op.equalIn 10000 32 (.agg (arr a)) (.agg (arr b))).run Tryd.prog w = .ok (decide (a = b)) w := by
  obtain ⟨i5, hi, hz, hsz, hby⟩ := info_parts infoU8
  have hc : Tryd.prog.cellsOf 5 = 1 := by kernel_rfl
  have h := run_equalIn_array (P := Tryd.prog) w 9999 (arr a) (arr b) Tryd.underlying32 hi
  rw [hc] at h
  refine h.trans ((eqItems5 a b (by omega) w _ (fun j hj => by rw [ha]; exact List.mem_range.1 hj)).trans ?_)
  have key : ((List.range 32).all fun j => a[j]? == b[j]?) = decide (a = b) := eq_key a b ha hb
  rw [key]
theorem putAt_get (l : List Int) (o : Nat) (xs : List Int) (j : Nat) (h : o + xs.length ≤ l.length) : (putAt l o xs)[j]? = if o ≤ j ∧ j < o + xs.length then xs[j - o]? else l[j]? := by
  unfold putAt
  by_cases h1 : j < o
  · rw [if_neg (by omega), List.append_assoc, List.getElem?_append_left (by rw [List.length_take]; omega), List.getElem?_take_of_lt h1]
  · by_cases h2 : j < o + xs.length
    · rw [if_pos ⟨by omega, h2⟩, List.getElem?_append_left (by rw [List.length_append, List.length_take]; omega), List.getElem?_append_right (by rw [List.length_take]; omega), List.length_take]
      rw [show j - min o l.length = j - o by omega]
    · rw [if_neg (by omega), List.getElem?_append_right (by rw [List.length_append, List.length_take]; omega), List.getElem?_drop]
      rw [show o + xs.length + (j - (List.take o l ++ xs).length) = j by rw [List.length_append, List.length_take]; omega]
theorem encTo_head {l : List Vo} (hg : GoodT l) : ∀ m, m ≤ l.length → (encTo l m)[0]? = some (l.length : Int)
  | 0, _ => rfl
  | m + 1, h => by
    have ih := encTo_head hg m (by omega)
    obtain ⟨x, hx⟩ : ∃ x, l[m]? = some x := ⟨l[m], by simp [show m < l.length by omega]⟩
    have h3 := hg.few
    have hm := List.mem_of_getElem? hx
    have h4 := (hg.ln x hm).2
    rw [encTo_next l m x hx, putAt_get _ _ _ _ (by rw [partP_len hg hm, encTo_len hg m (by omega)]; omega), if_neg (by omega), ih]
theorem encTo_at {l : List Vo} (hg : GoodT l) (i : Nat) (x : Vo) (hx : l[i]? = some x) (q : Nat) (hq : q < 5 + x.blocks.length) : ∀ m, m ≤ l.length → i < m → (encTo l m)[1 + 9 * i + q]? = (partP x x.blocks.length)[q]?
  | 0, _, h => by omega
  | m + 1, h, him => by
    obtain ⟨y, hy⟩ : ∃ y, l[m]? = some y := ⟨l[m], by simp [show m < l.length by omega]⟩
    have h3 := hg.few
    have hm := List.mem_of_getElem? hy
    have h4 := (hg.ln y hm).2
    have h5 := (hg.ln x (List.mem_of_getElem? hx)).2
    rw [encTo_next l m y hy, putAt_get _ _ _ _ (by rw [partP_len hg hm, encTo_len hg m (by omega)]; omega)]
    by_cases e : i = m
    · subst e
      rw [hx] at hy
      injection hy with hy
      subst hy
      rw [partP_len hg hm, if_pos (by omega)]
      rw [show 1 + 9 * i + q - (1 + 9 * i) = q by omega]
    · rw [if_neg (by omega)]
      exact encTo_at hg i x hx q hq m (by omega) (by omega)
theorem partP_pad {l : List Vo} (hg : GoodT l) {x : Vo} (hx : x ∈ l) (k q : Nat) (hq : q < 4) : (partP x k)[q]? = (padB x.name.data.toList)[q]? := by
  unfold partP
  rw [List.append_assoc, List.getElem?_append_left (by rw [padB_len _ (name_len hg hx)]; exact hq)]
theorem partP_n {l : List Vo} (hg : GoodT l) {x : Vo} (hx : x ∈ l) (k : Nat) : (partP x k)[4]? = some (x.blocks.length : Int) := by
  unfold partP
  rw [List.append_assoc, List.getElem?_append_right (by rw [padB_len _ (name_len hg hx)]; omega), padB_len _ (name_len hg hx)]
  rfl
theorem partP_b {l : List Vo} (hg : GoodT l) {x : Vo} (hx : x ∈ l) (j : Nat) (y : Nat) (hy : x.blocks[j]? = some y) : (partP x x.blocks.length)[5 + j]? = some (y : Int) := by
  have hj := (List.getElem?_eq_some_iff.1 hy).1
  unfold partP
  rw [List.getElem?_append_right (by rw [List.length_append, padB_len _ (name_len hg hx)]; simp)]
  rw [List.length_append, padB_len _ (name_len hg hx), List.getElem?_map, List.take_length]
  rw [show 5 + j - (4 + [(x.blocks.length : Int)].length) = j by simp, hy]
  rfl
/-- How own volumes lie: the row, and each one's blocks. -/
def IntsIn (w : World) (B : Nat) (u : Value) (xs : List Nat) : Prop := ∃ b c cur, u = .slice (some ⟨b, 0, none⟩) xs.length c ∧ B ≤ b ∧ w.heap[b]? = some (.cells cur 3 (0, 0)) ∧ xs.length ≤ c ∧ ∀ (j : Nat) x, xs[j]? = some x → cur[j]? = some (.int .i64 (x : Int))
def tabCells : List Vo → List Value → List Value
  | x :: l, u :: us => .string x.name :: u :: tabCells l us
  | _, _ => []
def Tab (B : Nat) (w : World) (v : Value) (l : List Vo) : Prop := ∃ us : List Value, us.length = l.length ∧ w.ownsRow B 67 2 v l.length (tabCells l us) ∧ ∀ (i : Nat) x u, l[i]? = some x → us[i]? = some u → IntsIn w B u x.blocks
theorem IntsIn.at_ {w : World} {B : Nat} {u : Value} {xs : List Nat} (h : IntsIn w B u xs) : IntsAt w u xs := by
  obtain ⟨b, c, cur, h1, _, h2, h3, h4⟩ := h
  exact ⟨b, 0, c, h1, h3, fun j x hx => by rw [Nat.zero_add, blk_cell h2 j]; exact h4 j x hx⟩
theorem IntsIn.below {w w' : World} {B : Nat} {u : Value} {xs : List Nat} (h : IntsIn w B u xs) (hb : Below w.heap.size w w') : IntsIn w' B u xs := by
  obtain ⟨b, c, cur, h1, h5, h2, h3, h4⟩ := h
  exact ⟨b, c, cur, h1, h5, blk_below h2 hb, h3, h4⟩
theorem IntsIn.grown {w w' : World} {B : Nat} {u : Value} {xs : List Nat} {row : Option Nat} (h : IntsIn w B u xs) (hg : w.grownBy w' row) (hr : ∀ b c, u = .slice (some ⟨b, 0, none⟩) xs.length c → some b ≠ row) : IntsIn w' B u xs := by
  obtain ⟨b, c, cur, h1, h5, h2, h3, h4⟩ := h
  exact ⟨b, c, cur, h1, h5, blk_grown h2 hg (hr b c h1), h3, h4⟩
theorem tabCells_len : ∀ (l : List Vo) (us : List Value), us.length = l.length → (tabCells l us).length = l.length * 2
  | [], [], _ => rfl
  | x :: l, u :: us, h => by
    simp only [tabCells, List.length_cons]
    rw [tabCells_len l us (by simpa using h)]
    omega
  | [], _ :: _, h => by simp at h
  | _ :: _, [], h => by simp at h
theorem tabCells_get : ∀ (l : List Vo) (us : List Value) (i : Nat) (x : Vo) (u : Value), l[i]? = some x → us[i]? = some u → (tabCells l us)[i * 2]? = some (.string x.name) ∧ (tabCells l us)[i * 2 + 1]? = some u
  | y :: l, v :: us, 0, x, u, h1, h2 => by simp at h1 h2; subst h1 h2; simp [tabCells]
  | y :: l, v :: us, i + 1, x, u, h1, h2 => by
    simp at h1 h2
    have := tabCells_get l us i x u h1 h2
    rw [show (i + 1) * 2 = i * 2 + 2 by omega]
    simpa [tabCells] using this
  | [], _, _, _, _, h1, _ => by simp at h1
  | _ :: _, [], _, _, _, _, h2 => by simp at h2
theorem tabCells_snoc : ∀ (l : List Vo) (us : List Value) (x : Vo) (u : Value), us.length = l.length → tabCells (l ++ [x]) (us ++ [u]) = tabCells l us ++ [.string x.name, u]
  | [], [], _, _, _ => rfl
  | y :: l, v :: us, x, u, h => by
    simp only [List.cons_append, tabCells]
    rw [tabCells_snoc l us x u (by simpa using h)]
  | [], _ :: _, _, _, h => by simp at h
  | _ :: _, [], _, _, h => by simp at h
theorem Tab.nil (B : Nat) (w : World) : Tab B w (.slice none 0 0) [] := ⟨[], rfl, World.ownsRow_nil _ _ _ _, fun i x u h => by simp at h⟩
theorem Tab.vols {B : Nat} {w : World} {v : Value} {l : List Vo} (h : Tab B w v l) : VolsAt w v l := by
  obtain ⟨us, hl, own, hi⟩ := h
  rcases own_cells own (tabCells_len l us hl) with ⟨A, c, hv, h0⟩ | ⟨g, cap, hv, h1, _, hc⟩
  · exact .inl ⟨List.eq_nil_of_length_eq_zero h0, A, c, hv⟩
  · refine .inr ⟨g, cap, hv, h1, fun i x hx => ?_⟩
    obtain ⟨u, hu⟩ : ∃ u, us[i]? = some u := ⟨us[i]'(by rw [hl]; exact (List.getElem?_eq_some_iff.1 hx).1), by simp⟩
    obtain ⟨k1, k2⟩ := tabCells_get l us i x u hx hu
    exact ⟨u, hc _ _ k1, hc _ _ k2, (hi i x u hx hu).at_⟩
theorem Tab.below {B : Nat} {w w' : World} {v : Value} {l : List Vo} (h : Tab B w v l) (hb : Below w.heap.size w w') : Tab B w' v l := by
  obtain ⟨us, hl, own, hi⟩ := h
  exact ⟨us, hl, own_below own hb, fun i x u h1 h2 => (hi i x u h1 h2).below hb⟩
end Go.Proofs.YtkppnamblmaokaaDoor.CsL

namespace Go.Proofs.YtkppnamblmaokaaDoor.CsM
open Go.RowKit Go.Proofs.YtkppnamblmaokaaDoorW.PrintWords Go.Proofs.YtkppnamblmaokaaDoorW.PrintLast Go.Proofs.YtkppnamblmaokaaDoorW.PrintMore Go.Proofs.YtkppnamblmaokaaDoor.CsA Go.Proofs.YtkppnamblmaokaaDoor.CsW Go.Proofs.YtkppnamblmaokaaDoor.CsB Go.Proofs.YtkppnamblmaokaaDoor.CsC Go.Proofs.YtkppnamblmaokaaDoor.CsD Go.Proofs.YtkppnamblmaokaaDoor.CsE Go.Proofs.YtkppnamblmaokaaDoor.CsH Go.Proofs.YtkppnamblmaokaaDoor.CsF Go.Proofs.YtkppnamblmaokaaDoor.CsI Go.Proofs.YtkppnamblmaokaaDoor.CsJ Go.Proofs.YtkppnamblmaokaaDoor.CsK Go.Proofs.YtkppnamblmaokaaDoor.CsL
set_option linter.unusedVariables false
set_option linter.unusedSimpArgs false
theorem part_at (bb i : Nat) (hi : i ≤ 2) (W : World) : (Instr.sliceAt 32 (.pointer (some ⟨bb, 0, none⟩)) (some (.int .i64 (1 + 9 * (i : Int)))) (some (.int .i64 (1 + 9 * ((i : Int) + 1)))) none).run Tryd.prog W = .ok (.slice (some ⟨bb, 1 + 9 * i, none⟩) 9 (31 - 9 * i)) W := by
  have : i = 0 ∨ i = 1 ∨ i = 2 := by omega
  rcases this with rfl | rfl | rfl
  all_goals go_simp
theorem four_of (l : List Int) (h : l.length = 4) : ∃ a b c d, l = [a, b, c, d] := by
  match l, h with
  | [a, b, c, d], _ => exact ⟨a, b, c, d, rfl⟩
theorem infoVo : (Tryd.prog.info? 67).map (fun i => (i.zero, i.size, i.bytes)) = some (some (.agg #[.string ByteArray.empty, .slice none 0 0]), 2, 40) := by kernel_rfl
theorem own_type {w : World} {B e s n : Nat} {v : Value} {xs : List Value} (h : w.ownsRow B e s v n xs) {g : Nat} {cur : Array Value} {t : TypeId} (hg : w.heap[g]? = some (.cells cur t (0, 0))) (hne : t ≠ e) : some g ≠ v.ownBlock := by
  rcases h.2 with ⟨hv, _⟩ | ⟨g2, cap, cur2, hv, _, hh, _⟩
  · rw [hv]; simp [Value.ownBlock]
  · rw [hv]
    intro h2
    simp only [Value.ownBlock, Option.some.injEq] at h2
    subst h2
    rw [hg] at hh
    injection hh with hh
    injection hh with _ ht
    exact hne ht
theorem own_ints {w : World} {B n : Nat} {s : Value} {xs : List Nat} (h : w.ownsRow B 3 1 s n (ints xs)) (hn : xs.length = n) (h1 : 1 ≤ n) : IntsIn w B s xs := by
  rcases h.2 with ⟨_, h0⟩ | ⟨g, cap, cur, hv, hb, hh, k1, k2, k3, k4⟩
  · omega
  · refine ⟨g, cap, cur, by rw [hn]; exact hv, hb, hh, by omega, fun j x hx => ?_⟩
    have hj := (List.getElem?_eq_some_iff.1 hx).1
    have e : (ints xs)[j]? = some (.int .i64 (x : Int)) := by unfold ints; rw [List.getElem?_map, hx]; rfl
    rw [← k4, List.getElem?_take_of_lt (by omega)] at e
    simpa using e
theorem IntsIn.mono {w : World} {B B2 : Nat} {u : Value} {xs : List Nat} (h : IntsIn w B u xs) (hb : B2 ≤ B) : IntsIn w B2 u xs := by
  obtain ⟨b, c, cur, h1, h5, h2, h3, h4⟩ := h
  exact ⟨b, c, cur, h1, by omega, h2, h3, h4⟩
theorem tab_push {B : Nat} {w w1 : World} {v v1 : Value} {l : List Vo} {us : List Value} {x : Vo} {s : Value} (hus : us.length = l.length) (own : w.ownsRow B 67 2 v l.length (tabCells l us)) (hin : ∀ (i : Nat) x u, l[i]? = some x → us[i]? = some u → IntsIn w B u x.blocks)
    (hs : IntsIn w B s x.blocks) (own' : w1.ownsRow B 67 2 v1 (l.length + 1) (tabCells l us ++ [.string x.name, s])) (grow : w.grownBy w1 v.ownBlock) : Tab B w1 v1 (l ++ [x]) := by
  have keep : ∀ (u : Value) (xs : List Nat), IntsIn w B u xs → IntsIn w1 B u xs := fun u xs h => h.grown grow (fun b c hu => by
    obtain ⟨b2, c2, cur, h1, _, h2, _⟩ := h
    rw [hu] at h1
    injection h1 with h1
    injection h1 with h1
    injection h1 with h1
    subst h1
    exact own_type own h2 (by decide))
  refine ⟨us ++ [s], by simp [hus], by rw [tabCells_snoc l us x s hus, List.length_append]; exact own', fun i y u h1 h2 => ?_⟩
  by_cases hi : i < l.length
  · rw [List.getElem?_append_left hi] at h1
    rw [List.getElem?_append_left (by omega)] at h2
    exact keep u y.blocks (hin i y u h1 h2)
  · rw [List.getElem?_append_right (by omega)] at h1
    rw [List.getElem?_append_right (by omega), hus] at h2
    have e : i - l.length = 0 := by
      rcases Nat.eq_zero_or_pos (i - l.length) with e | e
      · exact e
      · rw [List.getElem?_eq_none (by simp; omega)] at h1; cases h1
    rw [e] at h1 h2
    simp at h1 h2
    subst h1 h2
    exact keep s x.blocks hs
set_option maxHeartbeats 2000000 in
set_option maxRecDepth 100000 in
theorem decode_any (l : List Vo) (w : World) (hg : GoodT l) :
    Calls Tryd.prog 38 #[.agg (arr (enc l))] w fun e w' => ∃ v, e = .returned (.tuple #[v, .int .i64 0]) ∧ Tab w.heap.size w' v l ∧ Below w.heap.size w w' := by
  have HG := Aside0.mk hg
  have hfew := hg.few
  have HEL := Aside0.mk (show (arr (enc l)).size = 32 by rw [arr_size]; exact encTo_len hg _ (Nat.le_refl _))
  have QX := Aside0.mk (blk_new w (.cells (arr (enc l)) 32 (0, 0)))
  have BX := Aside0.mk (below_alloc (Below.refl w.heap.size w) (.cells (arr (enc l)) 32 (0, 0)))
  have HAT := Aside0.mk (fun i x (hx : l[i]? = some x) q hq => encTo_at hg i x hx q hq l.length (Nat.le_refl _) (List.getElem?_eq_some_iff.1 hx).1)
  have c0 := (blk_cell QX.out 0).trans (show _ = some (.int .u8 (l.length : Int)) by rw [arr_get]; show Option.map _ (encTo l l.length)[0]? = _; rw [encTo_head hg _ (Nat.le_refl _)]; rfl)
  have HE32 := Aside0.mk (show ∀ W : World, (Op.equalIn 10000 32 (.agg (arr (enc l))) (.agg (arr (enc l)))).run Tryd.prog W = .ok true W from fun (W : World) => by rw [eq32 (enc l) (enc l) (encTo_len hg _ (Nat.le_refl _)) (encTo_len hg _ (Nat.le_refl _)) W]; simp)
  obtain ⟨i3, hi3, hz, hsz, hby⟩ := info_parts info3
  have I3 := Aside0.mk hi3
  have Z3 := Aside0.mk hz
  have S3 := Aside0.mk hsz
  have Y3 := Aside0.mk hby
  clear hi3 hz hsz hby
  obtain ⟨iV, hiV, hz, hsz, hby⟩ := info_parts infoVo
  have IV := Aside0.mk hiV
  have ZV := Aside0.mk hz
  have SV := Aside0.mk hsz
  have YV := Aside0.mk hby
  clear hiV hz hsz hby hg
  generalize hE : arr (enc l) = E at *
  have HE := Aside0.mk hE
  clear hE
  have hcv : IntKind.i64.wrap (l.length : Int) = (l.length : Int) := IntWalk.i64_in _ (by omega)
  go_enter Tryd.func38, Tryd.ntmps38
  go_wp2_with fail
  generalize w.alloc (.cells E 32 (0, 0)) = w1 at *
  generalize hrb : w.heap.size = rb at *
  have HRB := Aside0.mk hrb
  clear c0
  go_loopg [4, 21] l.length (fun k s4 s21 wr => ∃ i : Nat, i + k = l.length ∧ s21 = .int .i64 i ∧ Aside0 (Tab rb wr s4 (l.take i)) ∧ Aside0 (wr.heap[rb]? = some (.cells E 32 (0, 0))) ∧ Aside0 (Below rb w wr))
  case atStart => exact ⟨0, by omega, rfl, ⟨Tab.nil _ _⟩, QX, BX⟩
  case round =>
    clear QX BX
    obtain ⟨i, hi, rfl, TX, QX, BX⟩ := hrel
    cases gk with
    | zero =>
      have e : i = l.length := by omega
      subst e
      have hd : decide ((l.length : Int) < (l.length : Int)) = false := by simp
      have HLR := Aside0.mk (show rb ≤ wr.heap.size by have := blk_lt QX.out; omega)
      have TL := Aside0.mk (show Tab rb wr u4 l by have := TX.out; rwa [List.take_length] at this)
      obtain ⟨us, hus, own, hin⟩ := TL.out
      obtain ⟨A4, c4, rfl⟩ := own_form own
      have HEN := Aside0.mk (encode_any _ l wr TL.out.vols HG.out)
      rw [HE.out] at HEN
      clear hus own hin us
      go_wp2_with fail
      refine HEN.out.mono ?_
      rintro e w4 ⟨rfl, hb⟩
      replace TX := Aside0.mk (TL.out.below hb)
      replace QX := Aside0.mk (blk_below QX.out hb)
      replace BX := Aside0.mk (below_then BX.out HLR.out hb)
      clear hb HEN TL HLR
      have N0 := Aside0.mk (blk_new w4 (.cells #[.int .u8 0, .int .u8 0, .int .u8 0, .int .u8 0, .int .u8 0, .int .u8 0, .int .u8 0, .int .u8 0, .int .u8 0, .int .u8 0, .int .u8 0, .int .u8 0, .int .u8 0, .int .u8 0, .int .u8 0, .int .u8 0, .int .u8 0, .int .u8 0, .int .u8 0, .int .u8 0, .int .u8 0, .int .u8 0, .int .u8 0, .int .u8 0, .int .u8 0, .int .u8 0, .int .u8 0, .int .u8 0, .int .u8 0, .int .u8 0, .int .u8 0, .int .u8 0] 32 (0, 0)))
      go_wp2_with (first | (refine wpList_store_row rfl 32 (.tmp 13) (.tmp 77) rfl w4.heap.size E rfl rfl 32 _ N0.out (by rw [HEL.out]; kernel_rfl) (by rw [HEL.out]; rfl) (by rw [← HE.out]; exact arr_one _) (stop ?_)))
      unfold Stop
      rw [World.setRow_alloc_new]
      replace N0 := Aside0.mk (blk_new w4 (.cells E 32 (0, 0)))
      have HLR := Aside0.mk (show rb ≤ w4.heap.size by have := blk_lt QX.out; omega)
      replace TX := Aside0.mk (TX.out.below (below_alloc (Below.refl _ _) (.cells E 32 (0, 0))))
      replace QX := Aside0.mk (blk_alloc QX.out (.cells E 32 (0, 0)))
      replace BX := Aside0.mk (BX.out.alloc HLR.out (.cells E 32 (0, 0)))
      have hee := HE32.out
      clear HLR
      generalize w4.alloc (.cells E 32 (0, 0)) = w5 at *
      generalize w4.heap.size = nb at *
      go_wp2_with (first | (refine wpList_load_row_g (by rfl) 32 _ rfl nb rfl 32 E (0, 0) _ N0.out Tryd.underlying32 rfl (by rw [HEL.out]; kernel_rfl) ?_) | (refine wpList_load_row_g (by rfl) 32 _ rfl rb rfl 32 E (0, 0) _ QX.out Tryd.underlying32 rfl (by rw [HEL.out]; kernel_rfl) ?_))
      go_ret2
      exact ⟨_, rfl, by first | exact TX.out | (rw [hrb]; exact TX.out), by first | exact BX.out | (rw [hrb]; exact BX.out)⟩
    | succ k =>
      have hil : i < l.length := by omega
      have hlt : ((i : Int) < (l.length : Int)) := by omega
      obtain ⟨x, hx⟩ : ∃ x, l[i]? = some x := ⟨l[i], by simp [hil]⟩
      have hxm : x ∈ l := List.mem_of_getElem? hx
      have hl1 := (HG.out.ln x hxm).1
      have hl4 := (HG.out.ln x hxm).2
      have HXM := Aside0.mk hxm
      have HTK := Aside0.mk (show l.take (i + 1) = l.take i ++ [x] by rw [List.take_add_one, hx]; rfl)
      have HCB := Aside0.mk (show ∀ (W : World), W.heap[rb]? = some (.cells E 32 (0, 0)) → ∀ q z, q < 5 + x.blocks.length → (partP x x.blocks.length)[q]? = some z → W.cell? ⟨rb, 1 + 9 * i + q, none⟩ = some (.int .u8 z) from fun W hW q z hq hz => (blk_cell hW _).trans (by
        rw [← HE.out, arr_get]
        show Option.map _ (encTo l l.length)[1 + 9 * i + q]? = _
        rw [HAT.out i x hx q hq, hz]; rfl))
      obtain ⟨p0, p1, p2, p3, hp⟩ := four_of (padB x.name.data.toList) (padB_len _ (name_len HG.out hxm))
      have hpp : ∀ q, q < 4 → (partP x x.blocks.length)[q]? = [p0, p1, p2, p3][q]? := fun q hq => by rw [partP_pad HG.out hxm _ q hq, hp]
      have cp0 : wr.cell? ⟨rb, 1 + 9 * i, none⟩ = some (.int .u8 p0) := HCB.out wr QX.out 0 p0 (by omega) (hpp 0 (by omega))
      have cp1 := HCB.out wr QX.out 1 p1 (by omega) (hpp 1 (by omega))
      have cp2 := HCB.out wr QX.out 2 p2 (by omega) (hpp 2 (by omega))
      have cp3 := HCB.out wr QX.out 3 p3 (by omega) (hpp 3 (by omega))
      have HCU := Aside0.mk (cut_any x.name (HG.out.nm x hxm))
      rw [hp] at HCU
      have hps := part_at rb i (by omega)
      have hi2 : (i : Int) ≤ 2 := by omega
      have hi0 : (0 : Int) ≤ (i : Int) := by omega
      have h4c : (4 : Int) ≤ ((31 - 9 * i : Nat) : Int) := by omega
      have h4n : 4 ≤ 31 - 9 * i := by omega
      clear hx hxm hp hpp
      go_upto_region 8 with (fail)
      clear hps
      have har := fun W => run_arrayAt (P := Tryd.prog) (w := W) 99 5 4 (some ⟨rb, 1 + 9 * i, none⟩) 4 (31 - 9 * i) Tryd.underlying99 (by omega)
      go_wp2_with fail
      refine (HCU.out _).mono ?_
      rintro e w4 ⟨rfl, hb⟩
      have HLE := Aside0.mk (show rb ≤ wr.heap.size by have := blk_lt QX.out; omega)
      replace TX := Aside0.mk (TX.out.below hb)
      replace QX := Aside0.mk (blk_below QX.out hb)
      replace BX := Aside0.mk (below_then BX.out HLE.out hb)
      clear hb HCU har cp0 cp1 cp2 cp3 HLE
      have cp4 := HCB.out w4 QX.out 4 _ (by omega) (partP_n HG.out HXM.out _)
      have hcn : IntKind.i64.wrap (x.blocks.length : Int) = (x.blocks.length : Int) := IntWalk.i64_in _ (by omega)
      have h9 : (4 : Int) < 9 := by omega
      have hn4 : decide ((4 : Int) < (x.blocks.length : Int)) = false := by simp; omega
      go_upto_region 13 with (fail)
      have VB := Aside0.mk (blk_new w4 (.cells #[.string x.name, .slice none 0 0] 67 (0, 0)))
      have BV := Aside0.mk (below_alloc (Below.refl w4.heap.size w4) (.cells #[.string x.name, .slice none 0 0] 67 (0, 0)))
      have HSB := Aside0.mk (blk_lt QX.out)
      clear cp4
      generalize w4.alloc (.cells #[.string x.name, .slice none 0 0] 67 (0, 0)) = w5 at *
      generalize hsb : w4.heap.size = sb at *
      have HSBE := Aside0.mk hsb
      clear hsb
      have hs5 : (5 : Int) + (x.blocks.length : Int) ≤ ((31 - 9 * i : Nat) : Int) := by omega
      have hs5n : 5 + x.blocks.length ≤ 31 - 9 * i := by omega
      have hs0 : (0 : Int) ≤ 5 + (x.blocks.length : Int) := by omega
      have hs1 : (5 : Int) ≤ 5 + (x.blocks.length : Int) := by omega
      have hs2 : ((5 : Int) + (x.blocks.length : Int)).toNat = 5 + x.blocks.length := by omega
      have hs3 : 5 + x.blocks.length - 5 = x.blocks.length := by omega
      go_wp2_with fail
      clear hs5 hs5n hs0 hs1 hs2 hs3
      go_loopg [57] x.blocks.length (fun k s57 wi => ∃ (j : Nat) (s : Value), j + k = x.blocks.length ∧ s57 = .int .i64 j ∧ Aside0 (wi.heap[sb]? = some (.cells #[.string x.name, s] 67 (0, 0))) ∧ Aside0 (wi.ownsRow sb 3 1 s j (ints (x.blocks.take j))) ∧ Aside0 (Below sb w4 wi))
      case atStart => exact ⟨0, .slice none 0 0, by omega, rfl, VB, ⟨World.ownsRow_nil _ _ _ _⟩, BV⟩
      case round =>
        clear VB BV
        obtain ⟨j, s, hj, rfl, VB, OS, BS⟩ := hrel
        replace TX := Aside0.mk (TX.out.below (show Below w4.heap.size w4 wr by rw [HSBE.out]; exact BS.out))
        replace QX := Aside0.mk ((BS.out.block rb HSB.out).trans QX.out)
        replace BX := Aside0.mk (BX.out.trans (BS.out.mono (Nat.le_of_lt HSB.out)))
        have HLS := Aside0.mk (show sb ≤ wr.heap.size from Nat.le_of_lt (blk_lt VB.out))
        have HLR := Aside0.mk (Nat.le_trans (Nat.le_of_lt HSB.out) HLS.out)
        obtain ⟨A, cs, rfl⟩ := own_form OS.out
        cases gk with
        | zero =>
          have e : j = x.blocks.length := by omega
          subst e
          have hd : decide ((x.blocks.length : Int) < (x.blocks.length : Int)) = false := by simp
          have cv0 := (blk_cell VB.out 0).trans (show _ = some (.string x.name) from rfl)
          have cv1 := (blk_cell VB.out 1).trans (show _ = some (.slice A x.blocks.length cs) from rfl)
          have OS2 := Aside0.mk (show wr.ownsRow sb 3 1 (.slice A x.blocks.length cs) x.blocks.length (ints x.blocks) by have := OS.out; rwa [List.take_length] at this)
          have SI := Aside0.mk (IntsIn.mono (own_ints OS2.out rfl hl1) (Nat.le_of_lt HSB.out))
          obtain ⟨us, hus, own, hin⟩ := TX.out
          obtain ⟨A4, c4, rfl⟩ := own_form own
          have HUS := Aside0.mk hus
          have HIN := Aside0.mk hin
          have OA := Aside0.mk (own.alloc (.cells #[.string x.name, .slice A x.blocks.length cs] 67 (0, 0)))
          have TA := Aside0.mk (blk_new wr (.cells #[.string x.name, .slice A x.blocks.length cs] 67 (0, 0)))
          have BA := Aside0.mk (BX.out.alloc HLR.out (.cells #[.string x.name, .slice A x.blocks.length cs] 67 (0, 0)))
          have QA := Aside0.mk (blk_alloc QX.out (.cells #[.string x.name, .slice A x.blocks.length cs] 67 (0, 0)))
          have SA := Aside0.mk (SI.out.below (below_alloc (Below.refl _ _) (.cells #[.string x.name, .slice A x.blocks.length cs] 67 (0, 0))))
          have HIA := Aside0.mk (fun (i2 : Nat) x2 u2 h1 h2 => (HIN.out i2 x2 u2 h1 h2).below (below_alloc (Below.refl _ _) (.cells #[.string x.name, .slice A x.blocks.length cs] 67 (0, 0))))
          have hli : (l.take i).length = i := by rw [List.length_take]; omega
          have hli2 : (l.take i).length ≤ 3 := by omega
          clear hus own hin hli
          go_wp2_with (at_builtin; apply stop)
          unfold Stop
          refine wpList_append_own _ rfl (.tmp 69) (.tmp 71) 63 rfl rb 67 iV _ 2 40 Tryd.underlying63 IV.out ZV.out SV.out YV.out rfl (by decide) _ (l.take i).length (tabCells (l.take i) us) rfl OA.out ⟨wr.heap.size, 0, none⟩ 1 1 [.string x.name, .slice A x.blocks.length cs] rfl rfl ?_ ?_ ?_ ?_ ?_ ?_
          · intro j u hu
            have hj : j < 2 := by have := (List.getElem?_eq_some_iff.1 hu).1; simpa using this
            rw [Addr.add_mid, Nat.zero_add, cell_of_row _ _ _ _ 67 (0, 0) TA.out]
            simpa using hu
          · intro u hu
            simp at hu
            rcases hu with rfl | rfl <;> rfl
          · unfold maxLen; omega
          · omega
          · exact (Nat.le_trans HLR.out (le_alloc _ _))
          intro v1 w1 own' grow' _
          have TN := Aside0.mk (show Tab rb w1 v1 (l.take (i + 1)) by rw [HTK.out]; exact tab_push HUS.out OA.out HIA.out SA.out own' grow')
          replace BX : Aside0 (Below rb w w1) := ⟨BA.out.grown grow' (Nat.le_trans HLR.out (le_alloc _ _)) (fun q hq => (OA.out.lt q hq).1)⟩
          replace QX := Aside0.mk (blk_grown QA.out grow' (own_type OA.out QA.out (by decide)))
          clear own' grow' OA TA BA QA SA HIA cv0 cv1 OS2 SI VB OS BS TX
          go_wp2_with fail
          go_roundg k
          case measure => omega
          case rel => exact ⟨i + 1, by omega, by go_num, TN, QX, BX⟩
        | succ k2 =>
          have hjl : j < x.blocks.length := by omega
          have hd : decide ((j : Int) < (x.blocks.length : Int)) = true := by simp; omega
          obtain ⟨y, hy⟩ : ∃ y, x.blocks[j]? = some y := ⟨x.blocks[j], by simp [hjl]⟩
          have cq : wr.cell? ⟨rb, 1 + 9 * i + 5 + j, none⟩ = some (.int .u8 (y : Int)) := by
            have := HCB.out wr QX.out (5 + j) (y : Int) (by omega) (partP_b HG.out HXM.out j y hy)
            rwa [← Nat.add_assoc] at this
          have hyr := HG.out.pool.rng x HXM.out y (List.mem_of_getElem? hy)
          have hcy : IntKind.i64.wrap (y : Int) = (y : Int) := IntWalk.i64_in _ (by omega)
          have cv1 := (blk_cell VB.out 1).trans (show _ = some (.slice A j cs) from rfl)
          have HNX := Aside0.mk (show x.blocks.take (j + 1) = x.blocks.take j ++ [y] by rw [List.take_add_one, hy]; rfl)
          have OA := Aside0.mk (OS.out.alloc (.cells #[.int .i64 (y : Int)] 3 (0, 0)))
          have TA := Aside0.mk (blk_new wr (.cells #[.int .i64 (y : Int)] 3 (0, 0)))
          have BA := Aside0.mk (BS.out.alloc HLS.out (.cells #[.int .i64 (y : Int)] 3 (0, 0)))
          have VA := Aside0.mk (blk_alloc VB.out (.cells #[.int .i64 (y : Int)] 3 (0, 0)))
          have hle16 : x.blocks.length ≤ 4 := hl4
          clear hy hyr
          go_wp2_with (at_builtin; apply stop)
          unfold Stop
          refine wpList_append_own _ rfl (.tmp 62) (.tmp 65) 65 rfl sb 3 i3 _ 1 8 Tryd.underlying65 I3.out Z3.out S3.out Y3.out rfl (by decide) _ j (ints (x.blocks.take j)) rfl OA.out ⟨wr.heap.size, 0, none⟩ 1 1 [.int .i64 (y : Int)] rfl rfl ?_ ?_ ?_ ?_ ?_ ?_
          · intro j u hu
            have hj : j < 1 := by have := (List.getElem?_eq_some_iff.1 hu).1; simpa using this
            rw [Addr.add_mid, Nat.zero_add, cell_of_row _ _ _ _ 3 (0, 0) TA.out]
            simpa using hu
          · intro u hu
            simp at hu
            subst hu; rfl
          · unfold maxLen; omega
          · omega
          · exact (Nat.le_trans HLS.out (le_alloc _ _))
          intro v1 w1 own' grow' _
          have VN := Aside0.mk (blk_grown VA.out grow' (own_type OA.out VA.out (by decide)))
          have cn1 := (blk_cell VN.out 1).trans (show _ = some (.slice A j cs) from rfl)
          have fn1 := blk_frozen VN.out 1
          have ON := Aside0.mk (show w1.ownsRow sb 3 1 v1 (j + 1) (ints (x.blocks.take (j + 1))) by rw [HNX.out]; unfold ints at own' ⊢; rw [List.map_append]; exact own')
          have BN : Aside0 (Below sb w4 w1) := ⟨BA.out.grown grow' (Nat.le_trans HLS.out (le_alloc _ _)) (fun q hq => (OA.out.lt q hq).1)⟩
          obtain ⟨An, cn, rfl⟩ := own_form ON.out
          clear own' grow' OA TA BA VA cq cv1 VB OS BS
          go_wp2_with fail
          go_roundg k2
          case measure => omega
          case rel => exact ⟨j + 1, _, by omega, by go_num, ⟨blk_put VN.out 1 _ rfl⟩, ⟨own_setCell ON.out (p := ⟨sb, 1, none⟩) (own_type ON.out VN.out (by decide)) _⟩, ⟨BN.out.setCell (p := ⟨sb, 1, none⟩) (Nat.le_refl _) _⟩⟩
end Go.Proofs.YtkppnamblmaokaaDoor.CsM

namespace Go.Proofs.YtkppnamblmaokaaDoor.CsN
open Go.RowKit Go.Proofs.YtkppnamblmaokaaDoorW.PrintWords Go.Proofs.YtkppnamblmaokaaDoorW.PrintLast Go.Proofs.YtkppnamblmaokaaDoorW.PrintMore Go.Proofs.YtkppnamblmaokaaDoor.CsA Go.Proofs.YtkppnamblmaokaaDoor.CsW Go.Proofs.YtkppnamblmaokaaDoor.CsB Go.Proofs.YtkppnamblmaokaaDoor.CsC Go.Proofs.YtkppnamblmaokaaDoor.CsD Go.Proofs.YtkppnamblmaokaaDoor.CsE Go.Proofs.YtkppnamblmaokaaDoor.CsH Go.Proofs.YtkppnamblmaokaaDoor.CsF Go.Proofs.YtkppnamblmaokaaDoor.CsI Go.Proofs.YtkppnamblmaokaaDoor.CsJ Go.Proofs.YtkppnamblmaokaaDoor.CsK Go.Proofs.YtkppnamblmaokaaDoor.CsL Go.Proofs.YtkppnamblmaokaaDoor.CsM
set_option linter.unusedVariables false
set_option linter.unusedSimpArgs false
theorem Tab.mono {B B2 : Nat} {w : World} {v : Value} {l : List Vo} (h : Tab B w v l) (hb : B2 ≤ B) : Tab B2 w v l := by
  obtain ⟨us, hl, own, hi⟩ := h
  refine ⟨us, hl, ⟨own.1, ?_⟩, fun i x u h1 h2 => IntsIn.mono (hi i x u h1 h2) hb⟩
  rcases own.2 with h | ⟨g, cap, cur, h1, h2, h3⟩
  · exact .inl h
  · exact .inr ⟨g, cap, cur, h1, by omega, h3⟩
set_option maxHeartbeats 1000000 in
set_option maxRecDepth 100000 in
theorem volumes_any (l : List Vo) (w : World) (hg : GoodT l) :
    Calls Tryd.prog 26 #[.agg (arr (enc l))] w fun e w' => ∃ v, e = .returned v ∧ Tab w.heap.size w' v l ∧ Below w.heap.size w w' := by
  have HD := Aside0.mk (fun W => decode_any l W hg)
  have HEL := Aside0.mk (show (arr (enc l)).size = 32 by rw [arr_size]; exact encTo_len hg _ (Nat.le_refl _))
  have QX := Aside0.mk (blk_new w (.cells (arr (enc l)) 32 (0, 0)))
  have BX := Aside0.mk (below_alloc (Below.refl w.heap.size w) (.cells (arr (enc l)) 32 (0, 0)))
  generalize arr (enc l) = E at *
  clear hg
  go_enter Tryd.func26, Tryd.ntmps26
  go_upto_region 1 with (fail)
  generalize w.alloc (.cells E 32 (0, 0)) = w1 at *
  generalize hrb : w.heap.size = rb at *
  have HRB := Aside0.mk hrb
  go_wp2_with (first | (refine wpList_load_row_g (by rfl) 32 _ rfl rb rfl 32 E (0, 0) _ QX.out Tryd.underlying32 rfl (by rw [HEL.out]; kernel_rfl) ?_))
  refine (HD.out _).mono ?_
  rintro e w2 ⟨v, rfl, tab, hb⟩
  have HLR := Aside0.mk (show rb ≤ w1.heap.size by have := blk_lt QX.out; omega)
  have TX := Aside0.mk (Tab.mono tab HLR.out)
  replace BX := Aside0.mk (below_then BX.out HLR.out hb)
  clear tab hb HD
  go_wp2_with fail
  go_ret
  exact ⟨_, rfl, by first | exact TX.out | (rw [hrb]; exact TX.out), by first | exact BX.out | (rw [hrb]; exact BX.out)⟩
theorem Tab.belowd {B : Nat} {w w' : World} {v : Value} {l : List Vo} (h : Tab B w v l) (hb : Below w.heap.size w w') : Tab B w' v l := Tab.below h hb
/-- The error of Place, and its block. -/
def placeE (l : List Vo) (name : ByteArray) (at_ : Int) : Int :=
  if idx name (l.map (·.name)) < 0 then 16 else match l[(idx name (l.map (·.name))).toNat]? with
    | none => 17
    | some x => if at_ < 0 ∨ (x.blocks.length : Int) ≤ at_ then 17 else 0
def placeN (l : List Vo) (name : ByteArray) (at_ : Int) : Nat :=
  if placeE l name at_ = 0 then ((l[(idx name (l.map (·.name))).toNat]?).bind fun x => x.blocks[at_.toNat]?).getD 0 else 0
set_option maxHeartbeats 2000000 in
set_option maxRecDepth 100000 in
theorem place_any (l : List Vo) (name : ByteArray) (at_ : Int) (h0 : -9223372036854775808 ≤ at_ ∧ at_ ≤ 9223372036854775807) (w : World) (hg : GoodT l) :
    Calls Tryd.prog 25 #[.agg (arr (enc l)), .string name, .int .i64 at_] w fun e w' => e = .returned (.tuple #[.int .i64 (placeN l name at_), .int .i64 (placeE l name at_)]) ∧ Below w.heap.size w w' := by
  have HV := Aside0.mk (fun W => volumes_any l W hg)
  have hfew := hg.few
  have HEL := Aside0.mk (show (arr (enc l)).size = 32 by rw [arr_size]; exact encTo_len hg _ (Nat.le_refl _))
  have QX := Aside0.mk (blk_new w (.cells (arr (enc l)) 32 (0, 0)))
  have BX := Aside0.mk (below_alloc (Below.refl w.heap.size w) (.cells (arr (enc l)) 32 (0, 0)))
  have HG := Aside0.mk hg
  generalize arr (enc l) = E at *
  clear hg
  go_enter Tryd.func25, Tryd.ntmps25
  go_upto_region 1 with (fail)
  generalize w.alloc (.cells E 32 (0, 0)) = w1 at *
  generalize hrb : w.heap.size = rb at *
  have HRB := Aside0.mk hrb
  go_wp2_with (first | (refine wpList_load_row_g (by rfl) 32 _ rfl rb rfl 32 E (0, 0) _ QX.out Tryd.underlying32 rfl (by rw [HEL.out]; kernel_rfl) ?_))
  refine (HV.out _).mono ?_
  rintro e w2 ⟨v, rfl, tab, hb⟩
  have HLR := Aside0.mk (show rb ≤ w1.heap.size by have := blk_lt QX.out; omega)
  have TX := Aside0.mk (Tab.mono tab HLR.out)
  replace BX := Aside0.mk (below_then BX.out HLR.out hb)
  have HL2 := Aside0.mk (Nat.le_trans HLR.out hb.size)
  clear tab hb HV HLR QX
  go_wp2_with fail
  refine (find_any name v l w2 TX.out.vols (by omega)).mono ?_
  rintro e w3 ⟨rfl, hb⟩
  replace TX := Aside0.mk (TX.out.below hb)
  replace BX := Aside0.mk (below_then BX.out HL2.out hb)
  clear hb HL2
  have hge := idx_ge name (l.map (·.name))
  have hlt := idx_lt name (l.map (·.name))
  rw [List.length_map] at hlt
  by_cases hneg : idx name (l.map (·.name)) < 0
  · have HE := Aside0.mk (show placeE l name at_ = 16 by unfold placeE; rw [if_pos hneg])
    have HN := Aside0.mk (show placeN l name at_ = 0 by unfold placeN; rw [HE.out]; rfl)
    generalize idx name (l.map (·.name)) = ix at *
    go_wp2_with fail
    go_ret2
    exact ⟨by rw [HE.out, HN.out]; rfl, by first | exact BX.out | (rw [hrb]; exact BX.out)⟩
  · obtain ⟨i, hi⟩ : ∃ i : Nat, idx name (l.map (·.name)) = i := ⟨(idx name (l.map (·.name))).toNat, by omega⟩
    have hil : i < l.length := by omega
    obtain ⟨x, hx⟩ : ∃ x, l[i]? = some x := ⟨l[i], by simp [hil]⟩
    have HPE := Aside0.mk (show placeE l name at_ = if at_ < 0 ∨ (x.blocks.length : Int) ≤ at_ then 17 else 0 by
      unfold placeE; rw [if_neg hneg, hi, Int.toNat_natCast, hx])
    have HPN := Aside0.mk (show placeN l name at_ = if placeE l name at_ = 0 then (x.blocks[at_.toNat]?).getD 0 else 0 by
      unfold placeN; rw [hi, Int.toNat_natCast, hx]; rfl)
    rw [hi]
    have hl1 := (HG.out.ln x (List.mem_of_getElem? hx)).1
    rcases TX.out.vols with ⟨h0, _⟩ | ⟨g, c, rfl, hc, hcell⟩
    · rw [h0] at hil; simp at hil
    · obtain ⟨u, k1, k2, b, o, c2, rfl, hc2, k3⟩ := hcell i x hx
      have hil2 : (i : Int) < (l.length : Int) := by omega
      have hi0 : (0 : Int) ≤ (i : Int) := by omega
      have hng : decide ((i : Int) < 0) = false := by simp
      have K3 := Aside0.mk k3
      clear hneg hge hlt hx hcell k3 k1 hi
      by_cases ha : at_ < 0
      · have HE := Aside0.mk (show placeE l name at_ = 17 by rw [HPE.out, if_pos (.inl ha)])
        have HN := Aside0.mk (show placeN l name at_ = 0 by rw [HPN.out, HE.out]; rfl)
        go_wp2_with fail
        go_ret2
        exact ⟨by rw [HE.out, HN.out]; rfl, by first | exact BX.out | (rw [hrb]; exact BX.out)⟩
      · by_cases hb : (x.blocks.length : Int) ≤ at_
        · have HE := Aside0.mk (show placeE l name at_ = 17 by rw [HPE.out, if_pos (.inr hb)])
          have HN := Aside0.mk (show placeN l name at_ = 0 by rw [HPN.out, HE.out]; rfl)
          go_wp2_with fail
          go_ret2
          exact ⟨by rw [HE.out, HN.out]; rfl, by first | exact BX.out | (rw [hrb]; exact BX.out)⟩
        · obtain ⟨k, rfl⟩ : ∃ k : Nat, at_ = (k : Int) := ⟨at_.toNat, by omega⟩
          obtain ⟨y, hy⟩ : ∃ y, x.blocks[k]? = some y := ⟨x.blocks[k]'(by omega), by simp [show k < x.blocks.length by omega]⟩
          have HE := Aside0.mk (show placeE l name k = 0 by rw [HPE.out, if_neg (by omega)])
          have HN := Aside0.mk (show placeN l name k = y by rw [HPN.out, HE.out, if_pos rfl, Int.toNat_natCast, hy]; rfl)
          have n1 := K3.out k y hy
          have hk0 : (0 : Int) ≤ (k : Int) := by omega
          have hkl : (k : Int) < (x.blocks.length : Int) := by omega
          have hkd : decide ((x.blocks.length : Int) ≤ (k : Int)) = false := by simp; omega
          clear hy ha hb
          go_wp2_with fail
          go_ret2
          exact ⟨by rw [HE.out, HN.out]; rfl, by first | exact BX.out | (rw [hrb]; exact BX.out)⟩
end Go.Proofs.YtkppnamblmaokaaDoor.CsN

namespace Go.Proofs.YtkppnamblmaokaaDoor.CsP
open Go.RowKit Go.Proofs.YtkppnamblmaokaaDoorW.PrintWords Go.Proofs.YtkppnamblmaokaaDoorW.PrintLast Go.Proofs.YtkppnamblmaokaaDoorW.PrintMore Go.Proofs.YtkppnamblmaokaaDoor.CsA Go.Proofs.YtkppnamblmaokaaDoor.CsW Go.Proofs.YtkppnamblmaokaaDoor.CsB Go.Proofs.YtkppnamblmaokaaDoor.CsC Go.Proofs.YtkppnamblmaokaaDoor.CsD Go.Proofs.YtkppnamblmaokaaDoor.CsE Go.Proofs.YtkppnamblmaokaaDoor.CsH Go.Proofs.YtkppnamblmaokaaDoor.CsF Go.Proofs.YtkppnamblmaokaaDoor.CsI Go.Proofs.YtkppnamblmaokaaDoor.CsJ Go.Proofs.YtkppnamblmaokaaDoor.CsK Go.Proofs.YtkppnamblmaokaaDoor.CsL Go.Proofs.YtkppnamblmaokaaDoor.CsM Go.Proofs.YtkppnamblmaokaaDoor.CsN
set_option linter.unusedVariables false
set_option linter.unusedSimpArgs false
structure Touch (bs : List Nat) (w w' : World) : Prop where
  os : w'.os = w.os
  tape : w'.tape = w.tape
  output : w'.output = w.output
  size : w.heap.size ≤ w'.heap.size
  block : ∀ k, k < w.heap.size → k ∉ bs → w'.heap[k]? = w.heap[k]?
theorem Touch.of_below {bs : List Nat} {w w' : World} (h : Below w.heap.size w w') : Touch bs w w' := ⟨h.os, h.tape, h.output, h.size, fun k hk _ => h.block k hk⟩
theorem Touch.trans {bs : List Nat} {w w1 w2 : World} (h : Touch bs w w1) (k : Touch bs w1 w2) : Touch bs w w2 :=
  ⟨k.os.trans h.os, k.tape.trans h.tape, k.output.trans h.output, Nat.le_trans h.size k.size, fun i hi hn => (k.block i (Nat.lt_of_lt_of_le hi h.size) hn).trans (h.block i hi hn)⟩
theorem Touch.mono {bs bs' : List Nat} {w w' : World} (h : Touch bs w w') (hs : ∀ k, k < w.heap.size → k ∈ bs → k ∈ bs') : Touch bs' w w' :=
  ⟨h.os, h.tape, h.output, h.size, fun k hk hn => h.block k hk (fun hm => hn (hs k hk hm))⟩
theorem Touch.below {bs : List Nat} {w w' : World} {base : Nat} (h : Touch bs w w') (hb : ∀ k ∈ bs, base ≤ k) (hw : base ≤ w.heap.size) : Below base w w' :=
  ⟨h.os, h.tape, h.output, h.size, fun k hk => h.block k (by omega) (fun hm => by have := hb k hm; omega)⟩
theorem Touch.blk {bs : List Nat} {w w' : World} (h : Touch bs w w') {g : Nat} {o : Obj} (hg : w.heap[g]? = some o) (hn : g ∉ bs) : w'.heap[g]? = some o :=
  (h.block g (blk_lt hg) hn).trans hg
theorem touch_setCells (w : World) (g o : Nat) (vs : List Value) : Touch [g] w (w.setCells g o vs) := by
  have hb := setCells_below (w := w) (Nat.le_refl g) vs o w (Below.refl _ _)
  exact ⟨hb.os, hb.tape, hb.output, hb.size, fun j _ hn => setCells_other g _ _ w j (by simpa using hn)⟩

theorem run_clear_one {P : Program} (w : World) (t e ty : TypeId) (x y : Value) (ht : P.underlying t = some (.slice e)) (hv : ∀ w, (zeroValue e).run P w = .ok (.agg #[x, y]) w) (hx : x.cells = #[x]) (hy : y.cells = #[y]) (h1 : x.oneCell' = true) (h2 : y.oneCell' = true) (b o c : Nat)
    (hc : ∀ j, j < 2 → (w.cell? ⟨b, o + j, none⟩).isSome = true) (hf : ∀ j, j < 2 → w.frozen? ⟨b, o + j, none⟩ = false) :
    (Builtin.clear_ #[t] ty #[.slice (some ⟨b, o, none⟩) 1 c]).run P w = .ok (.tuple #[]) (w.setCells b o [x, y]) := by
  have hcells : (Value.agg #[x, y]).cells = #[x, y] := by simp [Value.cells, hx, hy]
  have hzc : (Builtin.zeroCells (Value.agg #[x, y]).cells 1).toList = [x, y] := by
    rw [hcells]
    apply List.ext_getElem
    · simp [Builtin.zeroCells]
    · intro i h1 h2
      have : i = 0 ∨ i = 1 := by simp at h2; omega
      rcases this with rfl | rfl <;> simp [Builtin.zeroCells]
  have hst := run_storeCells_cells (P := P) b o [x, y] 0 w (by simpa using hc) (by simpa using hf) (by simp [h1, h2])
  simp only [Nat.add_zero] at hst
  simp [Builtin.clear_, run_underlying ht, hv, hzc, hst]

theorem wpList_clear {P : Program} {ops : Array Oper} {rest : List Oper} {o : Oper} {a : Act} {w : World} {Q : Exit → Act → World → Prop} (hgd : o.guard = none) (x : Operand) (t : TypeId)
    (ho : o.op = .call { callee := .builtin .clear, args := #[x], argTypes := #[t] }) (v : Value) (hx : a.eval x = v) (w' : World)
    (hr : (Builtin.clear_ #[t] o.type #[v]).run P w = .ok (.tuple #[]) w') (h : wpList P ops Q rest (a.put o.dst (.tuple #[])) w') : wpList P ops Q (o :: rest) a w := by
  refine wpList_plain hgd fun K hK => ?_
  unfold Oper.wp execOp
  simp only [ho, resolve, invoke, builtin, Sem.run_bind, Sem.run_pure, Result.andThen_ok, List.map_toArray, List.map_cons, List.map_nil, hx, hr]
  exact hK _ _ h
theorem tabCells_erase : ∀ (L : List Vo) (us : List Value) (i : Nat), us.length = L.length → i < L.length →
    tabCells (L.eraseIdx i) (us.eraseIdx i) = (tabCells L us).take (i * 2) ++ (tabCells L us).drop ((i + 1) * 2)
  | v :: L, g :: us, 0, h, _ => by simp [tabCells]
  | v :: L, g :: us, i + 1, h, h2 => by
    have e1 : (i + 1) * 2 = i * 2 + 2 := by omega
    have e2 : (i + 1 + 1) * 2 = (i + 1) * 2 + 2 := by omega
    rw [List.eraseIdx_cons_succ, List.eraseIdx_cons_succ, tabCells, tabCells_erase L us i (by simpa using h) (by simpa using h2), tabCells, e2]
    conv => rhs; rw [e1]
    simp [e1]
  | [], _, _, _, h2 => by simp at h2
  | _ :: _, [], _, h, _ => by simp at h
theorem tabCells_one : ∀ (L : List Vo) (us : List Value), (∀ u ∈ us, u.oneCell' = true) → ∀ u ∈ tabCells L us, u.oneCell' = true
  | v :: L, g :: us, hu, u, h => by
    simp only [tabCells, List.mem_cons] at h
    rcases h with rfl | rfl | h
    · rfl
    · exact hu _ (by simp)
    · exact tabCells_one L us (fun x hx => hu x (by simp [hx])) u h
  | [], _, _, _, h => by simp [tabCells] at h
  | _ :: _, [], _, _, h => by simp [tabCells] at h
set_option maxHeartbeats 1600000 in
set_option maxRecDepth 1000000 in
theorem delete_walk (w : World) (ga n cap i : Nat) (cur : Array Value) (news : List Value) (hg : w.heap[ga]? = some (.cells cur 67 (0, 0))) (hi : i < n) (hn : n ≤ 3) (h1 : n ≤ cap) (h2 : cap ≤ maxLen) (hs : cur.size = cap * 2)
    (hnews : news = (cur.toList.take (n * 2)).drop ((i + 1) * 2)) (hone : ∀ u ∈ news, u.oneCell' = true) :
    Calls Tryd.prog 37 #[.slice (some ⟨ga, 0, none⟩) n cap, .int .i64 i, .int .i64 (i + 1)] w fun e w' => e = .returned (.slice (some ⟨ga, 0, none⟩) (n - 1) cap) ∧ Touch [ga] w w' ∧
      w'.heap[ga]? = some (.cells (CsE.splice (CsE.splice cur (i * 2) news) ((n - 1) * 2) [.string ByteArray.empty, .slice none 0 0]) 67 (0, 0)) := by
  obtain ⟨i0, hi0, hz0, hz1, hz2⟩ := info_parts infoVo
  have hnl : news.length = (n - (i + 1)) * 2 := by rw [hnews]; simp [hs]; omega
  have hget : ∀ j u, news[j]? = some u → w.cell? ⟨ga, (i + 1) * 2 + j, none⟩ = some u := by
    intro j u hu
    have hj : j < (n - (i + 1)) * 2 := by rw [← hnl]; exact (List.getElem?_eq_some_iff.1 hu).1
    rw [blk_cell hg]
    rw [hnews, List.getElem?_drop, List.getElem?_take_of_lt (by omega)] at hu
    simpa using hu
  obtain ⟨A, hA, hnews'⟩ : ∃ A : Addr, (if cap = i + 1 then some (⟨ga, 0, none⟩ : Addr) else some ⟨ga, (i + 1) * 2, none⟩) = some A ∧ Aside0 (∀ j u, news[j]? = some u → w.drew.cell? (A.add j) = some u) := by
    by_cases h : cap = i + 1
    · refine ⟨⟨ga, 0, none⟩, by simp [h], ⟨fun j u hu => ?_⟩⟩
      have h0 : news.length = 0 := by omega
      rw [List.length_eq_zero_iff.1 h0] at hu
      simp at hu
    · refine ⟨⟨ga, (i + 1) * 2, none⟩, by simp [h], ⟨fun j u hu => ?_⟩⟩
      rw [Addr.add_lit]
      exact hget j u hu
  have s1 := Aside0.mk hnl
  have s2 := Aside0.mk hone
  have s3 : Aside0 (∀ j, j < news.length → (w.drew.cell? ⟨ga, 0 + i * 2 + j, none⟩).isSome = true ∧ w.drew.frozen? ⟨ga, 0 + i * 2 + j, none⟩ = false) := ⟨by
    intro j hj
    refine ⟨?_, blk_frozen (w := w) hg _⟩
    show (w.cell? _).isSome = true
    rw [blk_cell hg]
    have : 0 + i * 2 + j < cur.size := by omega
    rw [Array.getElem?_eq_getElem this]; rfl⟩
  have hH := Aside0.mk (setCells_heap ga news (0 + i * 2) w.drew cur 67 hg)
  have hT : Aside0 (Touch [ga] w (w.drew.setCells ga (0 + i * 2) news)) := by
    have t := touch_setCells w.drew ga (0 + i * 2) news
    exact ⟨⟨t.os, t.tape, t.output, t.size, t.block⟩⟩
  have hZ : Aside0 (∀ w, (zeroValue 67).run Tryd.prog w = .ok (.agg #[.string ByteArray.empty, .slice none 0 0]) w) := ⟨fun w => by simp [zeroValue, typeInfo, hi0, hz0]⟩
  have hic : i ≤ cap := by omega
  have hwr : IntKind.i64.wrap ((i : Int) + 1) = (i : Int) + 1 := by rw [IntKind.wrap_i64]; omega
  have hp0 : (0 : Int) ≤ (i : Int) + 1 := by omega
  have hp1 : (i : Int) + 1 ≤ (n : Int) := by omega
  have hp2 : ((i : Int) + 1).toNat = i + 1 := by omega
  have hne : ((i : Int) == (i : Int) + 1) = false := by simp; omega
  have hpc : (i : Int) + 1 ≤ (cap : Int) := by omega
  have HS := Aside0.mk hs
  clear hget hnl hone hnews hg hs
  go_enter Tryd.func37, Tryd.ntmps37
  go_wp2_with fail
  go_region_law (refine step_append_room rfl (.tmp 22) (.tmp 25) 63 rfl 67 i0 2 Tryd.underlying63 hi0 hz1 ga 0 i cap (by simp [Act.eval, Act.put]) A (n - (i + 1)) (cap - (i + 1)) news (by simp [Act.eval, Act.put]) s1.out hnews'.out s2.out (by omega) s3.out ?_)
  have hm1 : i + (n - (i + 1)) = n - 1 := by omega
  have hlt : n - 1 < cap := by omega
  have h1n : n - (n - 1) = 1 := by omega
  have hH2 := Aside0.mk (Nat.zero_add (i * 2) ▸ hH.out)
  have hT2 := Aside0.mk (Nat.zero_add (i * 2) ▸ hT.out)
  have hcl : (Builtin.clear_ #[63] 0 #[.slice (some ⟨ga, (n - 1) * 2, none⟩) 1 (cap - (n - 1))]).run Tryd.prog (w.drew.setCells ga (i * 2) news) = .ok (.tuple #[]) ((w.drew.setCells ga (i * 2) news).setCells ga ((n - 1) * 2) [.string ByteArray.empty, .slice none 0 0]) := by
    refine run_clear_one _ 63 67 0 _ _ Tryd.underlying63 hZ.out (by simp [Value.cells]) (by simp [Value.cells]) rfl rfl ga _ _ ?_ (fun j _ => blk_frozen hH2.out _)
    intro j hj
    rw [blk_cell hH2.out]
    have : (n - 1) * 2 + j < (CsE.splice cur (i * 2) news).size := by rw [splice_size, HS.out]; omega
    rw [Array.getElem?_eq_getElem this]; rfl
  have HC := Aside0.mk hcl
  have hH3 := Aside0.mk (setCells_heap ga [.string ByteArray.empty, .slice none 0 0] ((n - 1) * 2) _ _ _ hH2.out)
  have hT3 := Aside0.mk (hT2.out.trans (touch_setCells _ ga ((n - 1) * 2) [.string ByteArray.empty, .slice none 0 0]))
  clear hnews' s3 hcl hH hT
  rw [hm1]
  go_wp2_with fail
  rw [HC.out]
  go_wp2
  go_ret
  exact ⟨rfl, hT3.out, hH3.out⟩
theorem IntsIn.touch {w w' : World} {B g : Nat} {u : Value} {xs : List Nat} (h : IntsIn w B u xs) (hT : Touch [g] w w') {cur : Array Value} (hg : w.heap[g]? = some (.cells cur 67 (0, 0))) : IntsIn w' B u xs := by
  obtain ⟨b, c, cur2, h1, h5, h2, h3, h4⟩ := h
  have hne : b ≠ g := by
    rintro rfl
    rw [h2] at hg
    injection hg with hg
    injection hg with _ ht
    exact absurd ht (by decide)
  exact ⟨b, c, cur2, h1, h5, hT.blk h2 (by simpa using hne), h3, h4⟩
theorem delete_any {base : Nat} {w : World} {L : List Vo} {v : Value} (tab : Tab base w v L) (few : L.length ≤ 3) {i : Nat} (hi : i < L.length) :
    Calls Tryd.prog 37 #[v, .int .i64 i, .int .i64 (i + 1)] w fun e w' => ∃ v', e = .returned v' ∧ Tab base w' v' (L.eraseIdx i) ∧ Below base w w' := by
  have hbw : base ≤ w.heap.size := by
    obtain ⟨us, hus, own, hin⟩ := tab
    rcases own.2 with ⟨_, h0⟩ | ⟨ga, cap, cur, rfl, hb, hg, _⟩
    · omega
    · have := blk_lt hg; omega
  obtain ⟨us, hus, own, hin⟩ := tab
  rcases own.2 with ⟨_, h0⟩ | ⟨ga, cap, cur, rfl, hb, hg, h1, h2, h3, h4⟩
  · omega
  have hone : ∀ u ∈ us, u.oneCell' = true := fun u hu => by
    obtain ⟨k, hk, rfl⟩ := List.mem_iff_getElem.1 hu
    exact ints_one (hin k (L[k]'(by omega)) us[k] (by simp) (by simp)).at_
  refine (delete_walk w ga L.length cap i cur ((cur.toList.take (L.length * 2)).drop ((i + 1) * 2)) hg hi few h1 h2 h3 rfl ?_).mono ?_
  · intro u hu
    rw [h4] at hu
    exact tabCells_one L us hone u (List.mem_of_mem_drop hu)
  · rintro e w' ⟨rfl, hT, hH⟩
    have hle : (L.eraseIdx i).length = L.length - 1 := by rw [List.length_eraseIdx, if_pos hi]
    have hlv : (tabCells L us).length = L.length * 2 := own.1
    refine ⟨_, rfl, ⟨us.eraseIdx i, by rw [List.length_eraseIdx, List.length_eraseIdx, hus], ?_, fun k x u k1 k2 => ?_⟩, hT.below (fun k hk => by simp at hk; omega) hbw⟩
    · rw [hle]
      refine ⟨?_, .inr ⟨ga, cap, _, rfl, hb, hH, by omega, h2, by rw [splice_size, splice_size]; exact h3, ?_⟩⟩
      · rw [tabCells_erase L us i hus hi]
        simp [hlv]; omega
      · rw [tabCells_erase L us i hus hi, ← h4]
        apply List.ext_getElem?
        intro j
        have hs1 : ((cur.toList.take (L.length * 2)).drop ((i + 1) * 2)).length = (L.length - (i + 1)) * 2 := by simp [h3]; omega
        by_cases hj : j < (L.length - 1) * 2
        · rw [List.getElem?_take_of_lt hj, Array.getElem?_toList, splice_get _ _ _ _ (by rw [splice_size, h3]; simp; omega), if_neg (by omega), splice_get _ _ _ _ (by rw [h3, hs1]; omega), hs1]
          by_cases hji : j < i * 2
          · rw [if_neg (by omega), List.getElem?_append_left (by simp [h3]; omega), List.getElem?_take_of_lt hji, List.getElem?_take_of_lt (by omega), Array.getElem?_toList]
          · rw [if_pos (by omega), List.getElem?_append_right (by simp [h3]; omega)]
            congr 1
            simp [h3]; omega
        · rw [List.getElem?_eq_none (by simp [splice_size, h3]; omega), List.getElem?_eq_none (by simp [h3]; omega)]


    · have hx : ∃ q : Nat, L[q]? = some x ∧ us[q]? = some u := by
        rw [List.getElem?_eraseIdx] at k1 k2
        split at k1
        · rename_i hk; rw [if_pos hk] at k2; exact ⟨k, k1, k2⟩
        · rename_i hk; rw [if_neg hk] at k2; exact ⟨k + 1, k1, k2⟩
      obtain ⟨k2', q1, q2⟩ := hx
      exact IntsIn.touch (hin k2' x u q1 q2) hT hg
end Go.Proofs.YtkppnamblmaokaaDoor.CsP

namespace Go.Proofs.YtkppnamblmaokaaDoor.CsO
open Go.RowKit Go.Proofs.YtkppnamblmaokaaDoorW.PrintWords Go.Proofs.YtkppnamblmaokaaDoorW.PrintLast Go.Proofs.YtkppnamblmaokaaDoorW.PrintMore Go.Proofs.YtkppnamblmaokaaDoor.CsA Go.Proofs.YtkppnamblmaokaaDoor.CsW Go.Proofs.YtkppnamblmaokaaDoor.CsB Go.Proofs.YtkppnamblmaokaaDoor.CsC Go.Proofs.YtkppnamblmaokaaDoor.CsD Go.Proofs.YtkppnamblmaokaaDoor.CsE Go.Proofs.YtkppnamblmaokaaDoor.CsH Go.Proofs.YtkppnamblmaokaaDoor.CsF Go.Proofs.YtkppnamblmaokaaDoor.CsI Go.Proofs.YtkppnamblmaokaaDoor.CsJ Go.Proofs.YtkppnamblmaokaaDoor.CsK Go.Proofs.YtkppnamblmaokaaDoor.CsL Go.Proofs.YtkppnamblmaokaaDoor.CsM Go.Proofs.YtkppnamblmaokaaDoor.CsN Go.Proofs.YtkppnamblmaokaaDoor.CsP
set_option linter.unusedVariables false
set_option linter.unusedSimpArgs false
theorem fold_set (l : List Value) : ∀ (k : Nat) (arr : Array Value), arr.size = k + l.length →
    (l.zipIdx k).foldl (fun cs (p : Value × Nat) => cs.setIfInBounds (0 + p.2) p.1) arr = (arr.toList.take k ++ l).toArray := by
  induction l with
  | nil =>
    intro k arr h
    have : arr.toList.take k = arr.toList := List.take_of_length_le (by simp at h ⊢; omega)
    simp [this]
  | cons c l ih =>
    intro k arr h
    simp only [List.length_cons] at h
    rw [List.zipIdx_cons, List.foldl_cons, ih (k + 1) _ (by simp; omega)]
    have hk : k < arr.toList.length := by simp; omega
    congr 1
    simp only [Nat.zero_add, Array.toList_setIfInBounds]
    rw [List.take_add_one, List.getElem?_set_self hk, List.take_set_of_le (Nat.le_refl k)]
    simp
theorem agg_cells (cs : Array Value) (h : cs.all (·.oneCell') = true) : (Value.agg cs).cells = cs := by
  simp [Value.cells, h]
theorem fill_one (cs zs : Array Value) (m : Nat) (h : cs.size = m) (hz : zs.size = m) (h1 : (Value.agg cs).cells = cs) : Instr.fill (fun i => some (i * m, m)) zs [(0, .agg cs)] = some cs := by
  have hf := fold_set cs.toList 0 zs (by simp; omega)
  simp only [Instr.fill, h1, Nat.zero_mul, Nat.zero_add, h, hz]
  rw [if_neg (by simp)]
  congr 1
  rw [← Array.foldl_toList, Array.toList_zipIdx]
  simpa using hf
/-- A write's cells. -/
structure Pu where
  at_ : Nat
  data : List Int
def Pu.cells (p : Pu) : List Value := .int .i64 (p.at_ : Int) :: p.data.map (Value.int .u8)
def puCells (ps : List Pu) : List Value := ps.flatMap Pu.cells
theorem puCells_snoc (ps : List Pu) (p : Pu) : puCells (ps ++ [p]) = puCells ps ++ p.cells := by simp [puCells]
theorem infoPut : (Tryd.prog.info? 59).map (fun i => (i.zero, i.size, i.bytes)) = some (some (.agg (#[.int .i64 0] ++ arr (List.replicate 32 0))), 33, 40) := by kernel_rfl
theorem wpList_build {P : Program} {ops : Array Oper} {rest : List Oper} {o : Oper} {a : Act} {w : World} {Q : Exit → Act → World → Prop} (hgd : o.guard = none) (t : TypeId) (parts : Array (Nat × Operand)) (ho : o.op = .build t parts) (v : Value)
    (hr : (Instr.build t (parts.map fun (i, x) => (i, a.eval x))).run P w = .ok v w) (h : wpList P ops Q rest (a.put o.dst v) w) : wpList P ops Q (o :: rest) a w := by
  refine wpList_plain hgd fun K hK => ?_
  unfold Oper.wp execOp
  simp only [ho, Sem.run_bind, hr, Result.andThen_ok]
  exact hK _ _ h
theorem wpList_bslice {P : Program} {ops : Array Oper} {rest : List Oper} {o : Oper} {a : Act} {w w' : World} {Q : Exit → Act → World → Prop} (hgd : o.guard = none) (t : TypeId) (n : Nat) (parts : Array (Nat × Operand)) (ho : o.op = .buildSlice t n parts) (v : Value)
    (hr : (Instr.buildSlice t n (parts.map fun (i, x) => (i, a.eval x))).run P w = .ok v w') (h : wpList P ops Q rest (a.put o.dst v) w') : wpList P ops Q (o :: rest) a w := by
  refine wpList_plain hgd fun K hK => ?_
  unfold Oper.wp execOp
  simp only [ho, Sem.run_bind, hr, Result.andThen_ok]
  exact hK _ _ h
theorem run_buildOne {P : Program} (w : World) (t e : TypeId) (cs : Array Value) (ie : TypeInfo) (z : Value) (n : Nat) (hu : P.underlying t = some (.slice e)) (hie : P.info? e = some ie) (hz : ie.zero = some z) (hs : ie.size = n) (h0 : 0 < n) (hn : n < 1000) (hc : cs.size = n) (h1 : cs.all (·.oneCell') = true) :
    (Instr.buildSlice t 1 #[(0, .agg cs)]).run P w = .ok (.slice (some ⟨w.heap.size, 0, none⟩) 1 1) (w.alloc (.cells cs e)) :=
  run_buildSlice w t e 1 _ cs ie z hu hie hz (by rw [hs]; omega) (by rw [hs]; omega) (by rw [hs]; exact fill_one cs _ n hc (by simp) (agg_cells cs h1))
theorem fold_splice (o : Nat) : ∀ (l : List Value) (k : Nat) (cur : Array Value), List.foldl (fun cs x => cs.setIfInBounds (o + x.2) x.1) cur (l.zipIdx k) = CsE.splice cur (o + k) l
  | [], _, _ => rfl
  | v :: r, k, cur => by
    rw [List.zipIdx_cons, List.foldl_cons, fold_splice o r (k + 1)]
    rfl
theorem Pu.size (p : Pu) (h : p.data.length = 32) : p.cells.length = 33 := by simp [Pu.cells, h]
theorem Pu.one (p : Pu) : p.cells.toArray.all (·.oneCell') = true := by
  rw [Array.all_eq_true_iff_forall_mem]
  intro v hv
  simp only [Pu.cells, List.mem_toArray, List.mem_cons, List.mem_map] at hv
  rcases hv with rfl | ⟨x, _, rfl⟩ <;> rfl
theorem put_data (d : List Int) (h : d.length = 32) : CsE.splice (#[.int .i64 0] ++ arr (List.replicate 32 0)) 1 (d.map (Value.int .u8)) = (Pu.cells ⟨0, d⟩).toArray := by
  apply Array.ext_getElem?
  intro j
  rw [splice_get _ _ _ _ (by simp [arr_size, h])]
  simp only [List.length_map, h]
  cases j with
  | zero => rw [if_neg (by omega)]; rfl
  | succ j =>
    have e : (Pu.cells ⟨0, d⟩).toArray[j + 1]? = (d.map (Value.int .u8))[j]? := by simp [Pu.cells]
    rw [e]
    by_cases hj : j < 32
    · rw [if_pos (by omega), Nat.add_sub_cancel]
    · rw [if_neg (by omega), List.getElem?_eq_none (by simp [h]; omega)]
      exact Array.getElem?_eq_none (by simp [arr_size]; omega)
theorem build_put (d : List Int) (h : d.length = 32) (W : World) : (Instr.build 59 #[(1, .agg (arr d))]).run Tryd.prog W = .ok (.agg (Pu.cells ⟨0, d⟩).toArray) W := by
  have hs : (arr d).size = 32 := by rw [arr_size, h]
  have hone := arr_one d
  have e := fold_splice 1 (d.map (Value.int .u8)) 0 (#[.int .i64 0] ++ arr (List.replicate 32 0))
  rw [put_data d h] at e
  go_simp
  have hz : (arr d).zipIdx.size = 32 := by simp [hs]
  refine Eq.trans ?_ e
  have hfl := Array.foldl_toList (xs := (arr d).zipIdx) (f := fun (cs : Array Value) x => cs.setIfInBounds (1 + x.2) x.1) (init := (#[Value.int .i64 0] ++ arr (List.replicate 32 0)))
  rw [hz, Array.toList_zipIdx] at hfl
  exact hfl.symm
set_option maxHeartbeats 2000000 in
set_option maxRecDepth 100000 in
theorem tabled_any (v : Value) (l : List Vo) (B : Nat) (pv : Value) (ps : List Pu) (w : World) (hv : VolsAt w v l) (hg : GoodT l) (own : w.ownsRow B 59 33 pv ps.length (puCells ps)) (hps : ps.length ≤ 10) (hB : B ≤ w.heap.size) :
    Calls Tryd.prog 36 #[v, pv] w fun e w' => ∃ pv', e = .returned (.tuple #[pv', .int .i64 0]) ∧ w'.ownsRow B 59 33 pv' (ps.length + 1) (puCells (ps ++ [⟨0, enc l⟩])) ∧ w.grownBy w' pv.ownBlock := by
  have HEN := Aside0.mk (encode_any v l w hv hg)
  have HEL := Aside0.mk (show (arr (enc l)).size = 32 by rw [arr_size]; exact encTo_len hg _ (Nat.le_refl _))
  obtain ⟨A, c, hlv⟩ : ∃ A c, v = .slice A l.length c := by
    rcases hv with ⟨rfl, A, c, h⟩ | ⟨g, c, h, _⟩
    · exact ⟨A, c, h⟩
    · exact ⟨_, c, h⟩
  subst hlv
  obtain ⟨Ap, cp, rfl⟩ := own_form own
  have OX := Aside0.mk own
  obtain ⟨iP, hiP, hz, hsz, hby⟩ := info_parts infoPut
  have IP := Aside0.mk hiP
  have ZP := Aside0.mk hz
  have SP := Aside0.mk hsz
  have YP := Aside0.mk hby
  clear hv hg own hiP hz hsz hby
  generalize hE : arr (enc l) = E at *
  have HE := Aside0.mk hE
  clear hE
  go_enter Tryd.func36, Tryd.ntmps36
  go_wp2_with fail
  refine HEN.out.mono ?_
  rintro e w2 ⟨rfl, hb⟩
  have BX := Aside0.mk hb
  replace OX := Aside0.mk (own_below OX.out hb)
  have HB2 := Aside0.mk (Nat.le_trans hB hb.size)
  clear hb HEN
  have N0 := Aside0.mk (blk_new w2 (.cells #[.int .u8 0, .int .u8 0, .int .u8 0, .int .u8 0, .int .u8 0, .int .u8 0, .int .u8 0, .int .u8 0, .int .u8 0, .int .u8 0, .int .u8 0, .int .u8 0, .int .u8 0, .int .u8 0, .int .u8 0, .int .u8 0, .int .u8 0, .int .u8 0, .int .u8 0, .int .u8 0, .int .u8 0, .int .u8 0, .int .u8 0, .int .u8 0, .int .u8 0, .int .u8 0, .int .u8 0, .int .u8 0, .int .u8 0, .int .u8 0, .int .u8 0, .int .u8 0] 32 (0, 0)))
  go_wp2_with (first | (refine wpList_store_row rfl 32 (.tmp 6) (.tmp 11) rfl w2.heap.size E rfl rfl 32 _ N0.out (by rw [HEL.out]; kernel_rfl) (by rw [HEL.out]; rfl) (by rw [← HE.out]; exact arr_one _) (stop ?_)))
  unfold Stop
  rw [World.setRow_alloc_new]
  replace N0 := Aside0.mk (blk_new w2 (.cells E 32 (0, 0)))
  replace OX := Aside0.mk (OX.out.alloc (.cells E 32 (0, 0)))
  replace BX := Aside0.mk (BX.out.alloc BX.out.size (.cells E 32 (0, 0)))
  replace HB2 := Aside0.mk (Nat.le_trans HB2.out (le_alloc w2 (.cells E 32 (0, 0))))
  generalize w2.alloc (.cells E 32 (0, 0)) = w3 at *
  generalize w2.heap.size = nb at *
  go_upto_region 4 with (fail)
  have HBP := Aside0.mk (fun W => build_put (enc l) (by have := HEL.out; rw [← HE.out, arr_size] at this; exact this) W)
  rw [HE.out] at HBP
  have HPL := Aside0.mk (show (Pu.cells ⟨0, enc l⟩).toArray.size = 33 by rw [List.size_toArray]; exact Pu.size _ (by have := HEL.out; rw [← HE.out, arr_size] at this; exact this))
  have HP1 := Aside0.mk (Pu.one ⟨0, enc l⟩)
  generalize hpc : (Pu.cells ⟨0, enc l⟩).toArray = PC at *
  have HPC := Aside0.mk hpc
  clear hpc
  have FL : Aside0 (Instr.fill (fun i => some (i * iP.size, iP.size)) ((Array.range (1 * iP.size)).map ((Value.agg (#[.int .i64 0] ++ arr (List.replicate 32 0))).cells[· % (Value.agg (#[.int .i64 0] ++ arr (List.replicate 32 0))).cells.size]!)) [(0, .agg PC)] = some PC) := ⟨by
    rw [SP.out]
    exact fill_one PC _ 33 HPL.out (by simp) (agg_cells PC HP1.out)⟩
  go_wp2_with (first | (refine wpList_load_row_g (by rfl) 32 _ rfl nb rfl 32 E (0, 0) _ N0.out Tryd.underlying32 rfl (by rw [HEL.out]; kernel_rfl) ?_) | (refine wpList_build rfl 59 _ rfl (.agg PC) (by simp only [List.map_toArray, List.map_cons, List.map_nil]; exact HBP.out _) ?_) | (refine wpList_buildSlice rfl 55 59 1 _ rfl PC iP _ Tryd.underlying55 IP.out ZP.out (by rw [SP.out]; decide) (by rw [SP.out]; decide) (by rw [Array.toList_map]; exact FL.out) ?_) | (at_builtin; apply stop))
  unfold Stop
  have OA := Aside0.mk (OX.out.alloc (.cells PC 59 (0, 0)))
  have TA := Aside0.mk (blk_new w3 (.cells PC 59 (0, 0)))
  have BA := Aside0.mk (BX.out.alloc BX.out.size (.cells PC 59 (0, 0)))
  have HLN := Aside0.mk (show (Pu.cells ⟨0, enc l⟩).length = 33 by have := HPL.out; rwa [← HPC.out, List.size_toArray] at this)
  have HON := Aside0.mk (show ∀ u ∈ Pu.cells ⟨0, enc l⟩, u.oneCell' = true from fun u hu => by
    have := Array.all_eq_true_iff_forall_mem.1 (Pu.one ⟨0, enc l⟩) u (by simpa using hu); exact this)
  refine wpList_append_own _ rfl (.tmp 16) (.tmp 19) 55 rfl B 59 iP _ 33 40 Tryd.underlying55 IP.out ZP.out SP.out YP.out (by kernel_rfl) (by decide) _ ps.length (puCells ps) rfl OA.out ⟨w3.heap.size, 0, none⟩ 1 1 (Pu.cells ⟨0, enc l⟩) rfl (by rw [HLN.out]) ?_ ?_ ?_ ?_ ?_ ?_
  · intro j u hu
    rw [Addr.add_mid, Nat.zero_add, cell_of_row _ _ _ _ 59 (0, 0) TA.out, ← HPC.out]
    simpa using hu
  · exact HON.out
  · unfold maxLen; omega
  · omega
  · exact Nat.le_trans HB2.out (le_alloc _ _)
  intro v1 w1 own' grow' _
  have OF := Aside0.mk (show w1.ownsRow B 59 33 v1 (ps.length + 1) (puCells (ps ++ [⟨0, enc l⟩])) by rw [puCells_snoc]; exact own')
  have GF := Aside0.mk (show w.grownBy w1 (Value.slice Ap ps.length cp).ownBlock from (grown_of_below BA.out _).trans grow')
  clear own' grow' OA TA BA OX BX N0
  go_wp2_with fail
  go_ret2
  exact ⟨_, rfl, OF.out, GF.out⟩
end Go.Proofs.YtkppnamblmaokaaDoor.CsO

namespace Go.Proofs.YtkppnamblmaokaaDoor.CsQ
open Go.RowKit Go.Proofs.YtkppnamblmaokaaDoorW.PrintWords Go.Proofs.YtkppnamblmaokaaDoorW.PrintLast Go.Proofs.YtkppnamblmaokaaDoorW.PrintMore Go.Proofs.YtkppnamblmaokaaDoor.CsA Go.Proofs.YtkppnamblmaokaaDoor.CsW Go.Proofs.YtkppnamblmaokaaDoor.CsB Go.Proofs.YtkppnamblmaokaaDoor.CsC Go.Proofs.YtkppnamblmaokaaDoor.CsD Go.Proofs.YtkppnamblmaokaaDoor.CsE Go.Proofs.YtkppnamblmaokaaDoor.CsH Go.Proofs.YtkppnamblmaokaaDoor.CsF Go.Proofs.YtkppnamblmaokaaDoor.CsI Go.Proofs.YtkppnamblmaokaaDoor.CsJ Go.Proofs.YtkppnamblmaokaaDoor.CsK Go.Proofs.YtkppnamblmaokaaDoor.CsL Go.Proofs.YtkppnamblmaokaaDoor.CsM Go.Proofs.YtkppnamblmaokaaDoor.CsN Go.Proofs.YtkppnamblmaokaaDoor.CsP Go.Proofs.YtkppnamblmaokaaDoor.CsO
set_option linter.unusedVariables false
set_option linter.unusedSimpArgs false
theorem flat_sub {l l' : List Vo} (h : List.Sublist l' l) : List.Sublist (l'.flatMap (·.blocks)) (l.flatMap (·.blocks)) := by
  induction h with
  | slnil => exact List.Sublist.refl _
  | cons a _ ih => simp only [List.flatMap_cons]; exact ih.trans (List.sublist_append_right _ _)
  | cons_cons a _ ih => simp only [List.flatMap_cons]; exact List.Sublist.append (List.Sublist.refl _) ih
theorem GoodT.sub {l l' : List Vo} (hg : GoodT l) (h : List.Sublist l' l) : GoodT l' :=
  ⟨Nat.le_trans h.length_le hg.few, fun v hv => hg.nm v (h.subset hv), hg.un.sublist (h.map _), fun v hv => hg.ln v (h.subset hv), ⟨fun v hv => hg.pool.rng v (h.subset hv), hg.pool.one.sublist (flat_sub h)⟩⟩
set_option maxHeartbeats 2000000 in
set_option maxRecDepth 100000 in
theorem gone_no (l : List Vo) (name : ByteArray) (w : World) (hg : GoodT l) (hneg : idx name (l.map (·.name)) < 0) :
    Calls Tryd.prog 24 #[.agg (arr (enc l)), .string name] w fun e w' => e = .returned (.tuple #[.slice none 0 0, .int .i64 16]) ∧ Below w.heap.size w w' := by
  have HV := Aside0.mk (fun W => volumes_any l W hg)
  have hfew := hg.few
  have HEL := Aside0.mk (show (arr (enc l)).size = 32 by rw [arr_size]; exact encTo_len hg _ (Nat.le_refl _))
  have QX := Aside0.mk (blk_new w (.cells (arr (enc l)) 32 (0, 0)))
  have BX := Aside0.mk (below_alloc (Below.refl w.heap.size w) (.cells (arr (enc l)) 32 (0, 0)))
  generalize arr (enc l) = E at *
  clear hg
  go_enter Tryd.func24, Tryd.ntmps24
  go_upto_region 1 with (fail)
  generalize w.alloc (.cells E 32 (0, 0)) = w1 at *
  generalize hrb : w.heap.size = rb at *
  go_wp2_with (first | (refine wpList_load_row_g (by rfl) 32 _ rfl rb rfl 32 E (0, 0) _ QX.out Tryd.underlying32 rfl (by rw [HEL.out]; kernel_rfl) ?_))
  refine (HV.out _).mono ?_
  rintro e w2 ⟨v, rfl, tab, hb⟩
  have HLR := Aside0.mk (show rb ≤ w1.heap.size by have := blk_lt QX.out; omega)
  have TX := Aside0.mk (Tab.mono tab HLR.out)
  replace BX := Aside0.mk (below_then BX.out HLR.out hb)
  have HL2 := Aside0.mk (Nat.le_trans HLR.out hb.size)
  clear tab hb HV HLR QX
  go_wp2_with fail
  refine (find_any name v l w2 TX.out.vols (by omega)).mono ?_
  rintro e w3 ⟨rfl, hb⟩
  replace BX := Aside0.mk (below_then BX.out HL2.out hb)
  clear hb HL2 TX
  generalize idx name (l.map (·.name)) = ix at *
  go_wp2_with fail
  go_ret2
  exact ⟨rfl, by first | exact BX.out | (rw [hrb]; exact BX.out)⟩
set_option maxHeartbeats 2000000 in
set_option maxRecDepth 100000 in
theorem gone_ok (l : List Vo) (name : ByteArray) (i : Nat) (w : World) (hg : GoodT l) (hi : idx name (l.map (·.name)) = i) :
    Calls Tryd.prog 24 #[.agg (arr (enc l)), .string name] w fun e w' => ∃ pv, e = .returned (.tuple #[pv, .int .i64 0]) ∧ w'.ownsRow w.heap.size 59 33 pv 1 (puCells [⟨0, enc (l.eraseIdx i)⟩]) ∧ Below w.heap.size w w' := by
  have HV := Aside0.mk (fun W => volumes_any l W hg)
  have hfew := hg.few
  have hil : i < l.length := by have := idx_lt name (l.map (·.name)); rw [List.length_map] at this; omega
  have HEL := Aside0.mk (show (arr (enc l)).size = 32 by rw [arr_size]; exact encTo_len hg _ (Nat.le_refl _))
  have QX := Aside0.mk (blk_new w (.cells (arr (enc l)) 32 (0, 0)))
  have BX := Aside0.mk (below_alloc (Below.refl w.heap.size w) (.cells (arr (enc l)) 32 (0, 0)))
  have HG := Aside0.mk hg
  have HI := Aside0.mk hi
  generalize arr (enc l) = E at *
  clear hg hi
  go_enter Tryd.func24, Tryd.ntmps24
  go_upto_region 1 with (fail)
  generalize w.alloc (.cells E 32 (0, 0)) = w1 at *
  generalize hrb : w.heap.size = rb at *
  have HRB := Aside0.mk hrb
  go_wp2_with (first | (refine wpList_load_row_g (by rfl) 32 _ rfl rb rfl 32 E (0, 0) _ QX.out Tryd.underlying32 rfl (by rw [HEL.out]; kernel_rfl) ?_))
  refine (HV.out _).mono ?_
  rintro e w2 ⟨v, rfl, tab, hb⟩
  have HLR := Aside0.mk (show rb ≤ w1.heap.size by have := blk_lt QX.out; omega)
  have TX := Aside0.mk (Tab.mono tab HLR.out)
  replace BX := Aside0.mk (below_then BX.out HLR.out hb)
  have HL2 := Aside0.mk (Nat.le_trans HLR.out hb.size)
  clear tab hb HV HLR QX
  go_wp2_with fail
  have HF := Aside0.mk (find_any name v l w2 TX.out.vols (by omega))
  rw [HI.out] at HF
  refine HF.out.mono ?_
  rintro e w3 ⟨rfl, hb⟩
  replace TX := Aside0.mk (TX.out.below hb)
  replace BX := Aside0.mk (below_then BX.out HL2.out hb)
  replace HL2 := Aside0.mk (Nat.le_trans HL2.out hb.size)
  clear hb HF
  have hng : decide ((i : Int) < 0) = false := by simp
  have hwi : IntKind.i64.wrap ((i : Int) + 1) = (i : Int) + 1 := by rw [IntKind.wrap_i64]; omega
  have hi3 : (i : Int) ≤ 3 := by omega
  go_wp2_with fail
  refine (delete_any TX.out (by omega) hil).mono ?_
  rintro e w4 ⟨v2, rfl, tab2, hb⟩
  replace BX := Aside0.mk (BX.out.trans hb)
  replace HL2 := Aside0.mk (Nat.le_trans HL2.out hb.size)
  have T2 := Aside0.mk tab2
  clear hb tab2 TX
  go_wp2_with fail
  refine (tabled_any v2 (l.eraseIdx i) rb (.slice none 0 0) [] w4 (Tab.vols T2.out) (GoodT.sub HG.out (List.eraseIdx_sublist l i)) (World.ownsRow_nil _ _ _ _) (by simp) HL2.out).mono ?_
  rintro e w5 ⟨pv, rfl, own, gr⟩
  have OX := Aside0.mk own
  replace BX := Aside0.mk (show Below rb w w5 from BX.out.grown gr HL2.out (by simp [Value.ownBlock]))
  clear own gr T2 HL2
  go_wp2_with fail
  go_ret2
  exact ⟨_, rfl, by first | exact OX.out | (rw [hrb]; exact OX.out), by first | exact BX.out | (rw [hrb]; exact BX.out)⟩
end Go.Proofs.YtkppnamblmaokaaDoor.CsQ

namespace Go.Proofs.YtkppnamblmaokaaDoor.CsR
open Go.RowKit Go.Proofs.YtkppnamblmaokaaDoorW.PrintWords Go.Proofs.YtkppnamblmaokaaDoorW.PrintLast Go.Proofs.YtkppnamblmaokaaDoorW.PrintMore Go.Proofs.YtkppnamblmaokaaDoor.CsA Go.Proofs.YtkppnamblmaokaaDoor.CsW Go.Proofs.YtkppnamblmaokaaDoor.CsB Go.Proofs.YtkppnamblmaokaaDoor.CsC Go.Proofs.YtkppnamblmaokaaDoor.CsD Go.Proofs.YtkppnamblmaokaaDoor.CsE Go.Proofs.YtkppnamblmaokaaDoor.CsH Go.Proofs.YtkppnamblmaokaaDoor.CsF Go.Proofs.YtkppnamblmaokaaDoor.CsI Go.Proofs.YtkppnamblmaokaaDoor.CsJ Go.Proofs.YtkppnamblmaokaaDoor.CsK Go.Proofs.YtkppnamblmaokaaDoor.CsL Go.Proofs.YtkppnamblmaokaaDoor.CsM Go.Proofs.YtkppnamblmaokaaDoor.CsN Go.Proofs.YtkppnamblmaokaaDoor.CsP Go.Proofs.YtkppnamblmaokaaDoor.CsO Go.Proofs.YtkppnamblmaokaaDoor.CsQ
set_option linter.unusedVariables false
set_option linter.unusedSimpArgs false
set_option maxHeartbeats 4000000 in
set_option maxRecDepth 100000 in
theorem make_11 (l : List Vo) (name : ByteArray) (n : Int) (hsz : name.size ≤ 1000) (hn : -9223372036854775808 ≤ n ∧ n ≤ 9223372036854775807) (w : World) (hg : GoodT l) (h1 : goodL name.data.toList = false) :
    Calls Tryd.prog 23 #[.agg (arr (enc l)), .string name, .int .i64 n] w fun e w' => e = .returned (.tuple #[.slice none 0 0, .int .i64 11]) ∧ Below w.heap.size w w' := by
  have HGD := Aside0.mk (fun gx W hcx => good_any name gx W (by omega) hcx)
  rw [h1] at HGD
  clear h1
  have HV := Aside0.mk (fun W => volumes_any l W hg)
  have hfew := hg.few
  have HEL := Aside0.mk (show (arr (enc l)).size = 32 by rw [arr_size]; exact encTo_len hg _ (Nat.le_refl _))
  have QX := Aside0.mk (blk_new w (.cells (arr (enc l)) 32 (0, 0)))
  have BX := Aside0.mk (below_alloc (Below.refl w.heap.size w) (.cells (arr (enc l)) 32 (0, 0)))
  have HG := Aside0.mk hg
  generalize arr (enc l) = E at *
  clear hg
  go_enter Tryd.func23, Tryd.ntmps23
  go_upto_region 1 with (fail)
  generalize w.alloc (.cells E 32 (0, 0)) = w1 at *
  generalize hrb : w.heap.size = rb at *
  have HRB := Aside0.mk hrb
  go_wp2_with (first | (refine wpList_load_row_g (by rfl) 32 _ rfl rb rfl 32 E (0, 0) _ QX.out Tryd.underlying32 rfl (by rw [HEL.out]; kernel_rfl) ?_))
  refine (HV.out _).mono ?_
  rintro e w2 ⟨v, rfl, tab, hb⟩
  have HLR := Aside0.mk (show rb ≤ w1.heap.size by have := blk_lt QX.out; omega)
  have TX := Aside0.mk (Tab.mono tab HLR.out)
  replace BX := Aside0.mk (below_then BX.out HLR.out hb)
  have HL2 := Aside0.mk (Nat.le_trans HLR.out hb.size)
  clear tab hb HV HLR QX
  go_wp2_with fail
  have CS := Aside0.mk (blk_cell (blk_new w2 (.cells #[.string name] 9 (0, 0))) 0)
  replace TX := Aside0.mk (TX.out.below (below_alloc (Below.refl _ _) (.cells #[.string name] 9 (0, 0))))
  replace BX := Aside0.mk (BX.out.alloc HL2.out (.cells #[.string name] 9 (0, 0)))
  replace HL2 := Aside0.mk (Nat.le_trans HL2.out (le_alloc w2 (.cells #[.string name] 9 (0, 0))))
  generalize w2.alloc (.cells #[.string name] 9 (0, 0)) = w3 at *
  generalize w2.heap.size = gs at *
  refine (HGD.out gs w3 CS.out).mono ?_
  rintro e w4 ⟨rfl, hb⟩
  replace TX := Aside0.mk (TX.out.below hb)
  replace BX := Aside0.mk (below_then BX.out HL2.out hb)
  replace HL2 := Aside0.mk (Nat.le_trans HL2.out hb.size)
  clear hb CS HGD
  go_wp2_with fail
  go_ret2
  exact ⟨rfl, by first | exact BX.out | (rw [hrb]; exact BX.out)⟩

set_option maxHeartbeats 4000000 in
set_option maxRecDepth 100000 in
theorem make_16 (l : List Vo) (name : ByteArray) (n : Int) (hsz : name.size ≤ 1000) (hn : -9223372036854775808 ≤ n ∧ n ≤ 9223372036854775807) (w : World) (hg : GoodT l) (h1 : goodL name.data.toList = true) (h2 : 0 ≤ idx name (l.map (·.name))) :
    Calls Tryd.prog 23 #[.agg (arr (enc l)), .string name, .int .i64 n] w fun e w' => e = .returned (.tuple #[.slice none 0 0, .int .i64 16]) ∧ Below w.heap.size w w' := by
  have HGD := Aside0.mk (fun gx W hcx => good_any name gx W (by omega) hcx)
  rw [h1] at HGD
  clear h1
  have HV := Aside0.mk (fun W => volumes_any l W hg)
  have hfew := hg.few
  have HEL := Aside0.mk (show (arr (enc l)).size = 32 by rw [arr_size]; exact encTo_len hg _ (Nat.le_refl _))
  have QX := Aside0.mk (blk_new w (.cells (arr (enc l)) 32 (0, 0)))
  have BX := Aside0.mk (below_alloc (Below.refl w.heap.size w) (.cells (arr (enc l)) 32 (0, 0)))
  have HG := Aside0.mk hg
  generalize arr (enc l) = E at *
  clear hg
  go_enter Tryd.func23, Tryd.ntmps23
  go_upto_region 1 with (fail)
  generalize w.alloc (.cells E 32 (0, 0)) = w1 at *
  generalize hrb : w.heap.size = rb at *
  have HRB := Aside0.mk hrb
  go_wp2_with (first | (refine wpList_load_row_g (by rfl) 32 _ rfl rb rfl 32 E (0, 0) _ QX.out Tryd.underlying32 rfl (by rw [HEL.out]; kernel_rfl) ?_))
  refine (HV.out _).mono ?_
  rintro e w2 ⟨v, rfl, tab, hb⟩
  have HLR := Aside0.mk (show rb ≤ w1.heap.size by have := blk_lt QX.out; omega)
  have TX := Aside0.mk (Tab.mono tab HLR.out)
  replace BX := Aside0.mk (below_then BX.out HLR.out hb)
  have HL2 := Aside0.mk (Nat.le_trans HLR.out hb.size)
  clear tab hb HV HLR QX
  go_wp2_with fail
  have CS := Aside0.mk (blk_cell (blk_new w2 (.cells #[.string name] 9 (0, 0))) 0)
  replace TX := Aside0.mk (TX.out.below (below_alloc (Below.refl _ _) (.cells #[.string name] 9 (0, 0))))
  replace BX := Aside0.mk (BX.out.alloc HL2.out (.cells #[.string name] 9 (0, 0)))
  replace HL2 := Aside0.mk (Nat.le_trans HL2.out (le_alloc w2 (.cells #[.string name] 9 (0, 0))))
  generalize w2.alloc (.cells #[.string name] 9 (0, 0)) = w3 at *
  generalize w2.heap.size = gs at *
  refine (HGD.out gs w3 CS.out).mono ?_
  rintro e w4 ⟨rfl, hb⟩
  replace TX := Aside0.mk (TX.out.below hb)
  replace BX := Aside0.mk (below_then BX.out HL2.out hb)
  replace HL2 := Aside0.mk (Nat.le_trans HL2.out hb.size)
  clear hb CS HGD
  go_wp2_with fail
  have HF := Aside0.mk (find_any name v l w4 TX.out.vols (by omega))
  generalize hix : idx name (l.map (·.name)) = ix at *
  refine HF.out.mono ?_
  rintro e w5 ⟨rfl, hb⟩
  replace TX := Aside0.mk (TX.out.below hb)
  replace BX := Aside0.mk (below_then BX.out HL2.out hb)
  replace HL2 := Aside0.mk (Nat.le_trans HL2.out hb.size)
  clear hb HF
  clear hix
  go_wp2_with fail
  go_ret2
  exact ⟨rfl, by first | exact BX.out | (rw [hrb]; exact BX.out)⟩

set_option maxHeartbeats 4000000 in
set_option maxRecDepth 100000 in
theorem make_17 (l : List Vo) (name : ByteArray) (n : Int) (hsz : name.size ≤ 1000) (hn : -9223372036854775808 ≤ n ∧ n ≤ 9223372036854775807) (w : World) (hg : GoodT l) (h1 : goodL name.data.toList = true) (h2 : idx name (l.map (·.name)) < 0) (h3 : n < 1 ∨ 4 < n) :
    Calls Tryd.prog 23 #[.agg (arr (enc l)), .string name, .int .i64 n] w fun e w' => e = .returned (.tuple #[.slice none 0 0, .int .i64 17]) ∧ Below w.heap.size w w' := by
  have HGD := Aside0.mk (fun gx W hcx => good_any name gx W (by omega) hcx)
  rw [h1] at HGD
  clear h1
  have HV := Aside0.mk (fun W => volumes_any l W hg)
  have hfew := hg.few
  have HEL := Aside0.mk (show (arr (enc l)).size = 32 by rw [arr_size]; exact encTo_len hg _ (Nat.le_refl _))
  have QX := Aside0.mk (blk_new w (.cells (arr (enc l)) 32 (0, 0)))
  have BX := Aside0.mk (below_alloc (Below.refl w.heap.size w) (.cells (arr (enc l)) 32 (0, 0)))
  have HG := Aside0.mk hg
  generalize arr (enc l) = E at *
  clear hg
  go_enter Tryd.func23, Tryd.ntmps23
  go_upto_region 1 with (fail)
  generalize w.alloc (.cells E 32 (0, 0)) = w1 at *
  generalize hrb : w.heap.size = rb at *
  have HRB := Aside0.mk hrb
  go_wp2_with (first | (refine wpList_load_row_g (by rfl) 32 _ rfl rb rfl 32 E (0, 0) _ QX.out Tryd.underlying32 rfl (by rw [HEL.out]; kernel_rfl) ?_))
  refine (HV.out _).mono ?_
  rintro e w2 ⟨v, rfl, tab, hb⟩
  have HLR := Aside0.mk (show rb ≤ w1.heap.size by have := blk_lt QX.out; omega)
  have TX := Aside0.mk (Tab.mono tab HLR.out)
  replace BX := Aside0.mk (below_then BX.out HLR.out hb)
  have HL2 := Aside0.mk (Nat.le_trans HLR.out hb.size)
  clear tab hb HV HLR QX
  go_wp2_with fail
  have CS := Aside0.mk (blk_cell (blk_new w2 (.cells #[.string name] 9 (0, 0))) 0)
  replace TX := Aside0.mk (TX.out.below (below_alloc (Below.refl _ _) (.cells #[.string name] 9 (0, 0))))
  replace BX := Aside0.mk (BX.out.alloc HL2.out (.cells #[.string name] 9 (0, 0)))
  replace HL2 := Aside0.mk (Nat.le_trans HL2.out (le_alloc w2 (.cells #[.string name] 9 (0, 0))))
  generalize w2.alloc (.cells #[.string name] 9 (0, 0)) = w3 at *
  generalize w2.heap.size = gs at *
  refine (HGD.out gs w3 CS.out).mono ?_
  rintro e w4 ⟨rfl, hb⟩
  replace TX := Aside0.mk (TX.out.below hb)
  replace BX := Aside0.mk (below_then BX.out HL2.out hb)
  replace HL2 := Aside0.mk (Nat.le_trans HL2.out hb.size)
  clear hb CS HGD
  go_wp2_with fail
  have HF := Aside0.mk (find_any name v l w4 TX.out.vols (by omega))
  generalize hix : idx name (l.map (·.name)) = ix at *
  refine HF.out.mono ?_
  rintro e w5 ⟨rfl, hb⟩
  replace TX := Aside0.mk (TX.out.below hb)
  replace BX := Aside0.mk (below_then BX.out HL2.out hb)
  replace HL2 := Aside0.mk (Nat.le_trans HL2.out hb.size)
  clear hb HF
  clear hix
  by_cases h4 : n < 1
  · clear h3
    go_wp2_with fail
    go_ret2
    exact ⟨rfl, by first | exact BX.out | (rw [hrb]; exact BX.out)⟩
  
  · have h5 : 4 < n := by omega
    clear h3
    go_wp2_with fail
    go_ret2
    exact ⟨rfl, by first | exact BX.out | (rw [hrb]; exact BX.out)⟩
  
set_option maxHeartbeats 4000000 in
set_option maxRecDepth 100000 in
theorem make_18a (l : List Vo) (name : ByteArray) (n : Int) (hsz : name.size ≤ 1000) (hn : -9223372036854775808 ≤ n ∧ n ≤ 9223372036854775807) (w : World) (hg : GoodT l) (h1 : goodL name.data.toList = true) (h2 : idx name (l.map (·.name)) < 0) (h3 : 1 ≤ n) (h4 : n ≤ 4) (h5 : 3 ≤ l.length) :
    Calls Tryd.prog 23 #[.agg (arr (enc l)), .string name, .int .i64 n] w fun e w' => e = .returned (.tuple #[.slice none 0 0, .int .i64 18]) ∧ Below w.heap.size w w' := by
  have HGD := Aside0.mk (fun gx W hcx => good_any name gx W (by omega) hcx)
  rw [h1] at HGD
  clear h1
  have HV := Aside0.mk (fun W => volumes_any l W hg)
  have hfew := hg.few
  have HEL := Aside0.mk (show (arr (enc l)).size = 32 by rw [arr_size]; exact encTo_len hg _ (Nat.le_refl _))
  have QX := Aside0.mk (blk_new w (.cells (arr (enc l)) 32 (0, 0)))
  have BX := Aside0.mk (below_alloc (Below.refl w.heap.size w) (.cells (arr (enc l)) 32 (0, 0)))
  have HG := Aside0.mk hg
  generalize arr (enc l) = E at *
  clear hg
  go_enter Tryd.func23, Tryd.ntmps23
  go_upto_region 1 with (fail)
  generalize w.alloc (.cells E 32 (0, 0)) = w1 at *
  generalize hrb : w.heap.size = rb at *
  have HRB := Aside0.mk hrb
  go_wp2_with (first | (refine wpList_load_row_g (by rfl) 32 _ rfl rb rfl 32 E (0, 0) _ QX.out Tryd.underlying32 rfl (by rw [HEL.out]; kernel_rfl) ?_))
  refine (HV.out _).mono ?_
  rintro e w2 ⟨v, rfl, tab, hb⟩
  have HLR := Aside0.mk (show rb ≤ w1.heap.size by have := blk_lt QX.out; omega)
  have TX := Aside0.mk (Tab.mono tab HLR.out)
  replace BX := Aside0.mk (below_then BX.out HLR.out hb)
  have HL2 := Aside0.mk (Nat.le_trans HLR.out hb.size)
  clear tab hb HV HLR QX
  go_wp2_with fail
  have CS := Aside0.mk (blk_cell (blk_new w2 (.cells #[.string name] 9 (0, 0))) 0)
  replace TX := Aside0.mk (TX.out.below (below_alloc (Below.refl _ _) (.cells #[.string name] 9 (0, 0))))
  replace BX := Aside0.mk (BX.out.alloc HL2.out (.cells #[.string name] 9 (0, 0)))
  replace HL2 := Aside0.mk (Nat.le_trans HL2.out (le_alloc w2 (.cells #[.string name] 9 (0, 0))))
  generalize w2.alloc (.cells #[.string name] 9 (0, 0)) = w3 at *
  generalize w2.heap.size = gs at *
  refine (HGD.out gs w3 CS.out).mono ?_
  rintro e w4 ⟨rfl, hb⟩
  replace TX := Aside0.mk (TX.out.below hb)
  replace BX := Aside0.mk (below_then BX.out HL2.out hb)
  replace HL2 := Aside0.mk (Nat.le_trans HL2.out hb.size)
  clear hb CS HGD
  go_wp2_with fail
  have HF := Aside0.mk (find_any name v l w4 TX.out.vols (by omega))
  generalize hix : idx name (l.map (·.name)) = ix at *
  refine HF.out.mono ?_
  rintro e w5 ⟨rfl, hb⟩
  replace TX := Aside0.mk (TX.out.below hb)
  replace BX := Aside0.mk (below_then BX.out HL2.out hb)
  replace HL2 := Aside0.mk (Nat.le_trans HL2.out hb.size)
  clear hb HF
  clear hix
  obtain ⟨A, c, rfl⟩ : ∃ A c, v = .slice A l.length c := by
    rcases TX.out.vols with ⟨rfl, A, c, h⟩ | ⟨g, c, h, _⟩
    · exact ⟨A, c, h⟩
    · exact ⟨_, c, h⟩
  go_wp2_with fail
  go_ret2
  exact ⟨rfl, by first | exact BX.out | (rw [hrb]; exact BX.out)⟩

set_option maxHeartbeats 4000000 in
set_option maxRecDepth 100000 in
theorem make_18b (l : List Vo) (name : ByteArray) (n : Int) (hsz : name.size ≤ 1000) (hn : -9223372036854775808 ≤ n ∧ n ≤ 9223372036854775807) (w : World) (hg : GoodT l) (h1 : goodL name.data.toList = true) (h2 : idx name (l.map (·.name)) < 0) (h3 : 1 ≤ n) (h4 : n ≤ 4) (h5 : l.length < 3) (h6 : ((freeL (usedN l)).length : Int) < n) :
    Calls Tryd.prog 23 #[.agg (arr (enc l)), .string name, .int .i64 n] w fun e w' => e = .returned (.tuple #[.slice none 0 0, .int .i64 18]) ∧ Below w.heap.size w w' := by
  have HGD := Aside0.mk (fun gx W hcx => good_any name gx W (by omega) hcx)
  rw [h1] at HGD
  clear h1
  have HF18 := Aside0.mk h6
  clear h6
  have HV := Aside0.mk (fun W => volumes_any l W hg)
  have hfew := hg.few
  have HEL := Aside0.mk (show (arr (enc l)).size = 32 by rw [arr_size]; exact encTo_len hg _ (Nat.le_refl _))
  have QX := Aside0.mk (blk_new w (.cells (arr (enc l)) 32 (0, 0)))
  have BX := Aside0.mk (below_alloc (Below.refl w.heap.size w) (.cells (arr (enc l)) 32 (0, 0)))
  have HG := Aside0.mk hg
  generalize arr (enc l) = E at *
  clear hg
  go_enter Tryd.func23, Tryd.ntmps23
  go_upto_region 1 with (fail)
  generalize w.alloc (.cells E 32 (0, 0)) = w1 at *
  generalize hrb : w.heap.size = rb at *
  have HRB := Aside0.mk hrb
  go_wp2_with (first | (refine wpList_load_row_g (by rfl) 32 _ rfl rb rfl 32 E (0, 0) _ QX.out Tryd.underlying32 rfl (by rw [HEL.out]; kernel_rfl) ?_))
  refine (HV.out _).mono ?_
  rintro e w2 ⟨v, rfl, tab, hb⟩
  have HLR := Aside0.mk (show rb ≤ w1.heap.size by have := blk_lt QX.out; omega)
  have TX := Aside0.mk (Tab.mono tab HLR.out)
  replace BX := Aside0.mk (below_then BX.out HLR.out hb)
  have HL2 := Aside0.mk (Nat.le_trans HLR.out hb.size)
  clear tab hb HV HLR QX
  go_wp2_with fail
  have CS := Aside0.mk (blk_cell (blk_new w2 (.cells #[.string name] 9 (0, 0))) 0)
  replace TX := Aside0.mk (TX.out.below (below_alloc (Below.refl _ _) (.cells #[.string name] 9 (0, 0))))
  replace BX := Aside0.mk (BX.out.alloc HL2.out (.cells #[.string name] 9 (0, 0)))
  replace HL2 := Aside0.mk (Nat.le_trans HL2.out (le_alloc w2 (.cells #[.string name] 9 (0, 0))))
  generalize w2.alloc (.cells #[.string name] 9 (0, 0)) = w3 at *
  generalize w2.heap.size = gs at *
  refine (HGD.out gs w3 CS.out).mono ?_
  rintro e w4 ⟨rfl, hb⟩
  replace TX := Aside0.mk (TX.out.below hb)
  replace BX := Aside0.mk (below_then BX.out HL2.out hb)
  replace HL2 := Aside0.mk (Nat.le_trans HL2.out hb.size)
  clear hb CS HGD
  go_wp2_with fail
  have HF := Aside0.mk (find_any name v l w4 TX.out.vols (by omega))
  generalize hix : idx name (l.map (·.name)) = ix at *
  refine HF.out.mono ?_
  rintro e w5 ⟨rfl, hb⟩
  replace TX := Aside0.mk (TX.out.below hb)
  replace BX := Aside0.mk (below_then BX.out HL2.out hb)
  replace HL2 := Aside0.mk (Nat.le_trans HL2.out hb.size)
  clear hb HF
  clear hix
  obtain ⟨A, c, rfl⟩ : ∃ A c, v = .slice A l.length c := by
    rcases TX.out.vols with ⟨rfl, A, c, h⟩ | ⟨g, c, h, _⟩
    · exact ⟨A, c, h⟩
    · exact ⟨_, c, h⟩
  obtain ⟨u, rfl⟩ : ∃ u : Nat, n = (u : Int) := ⟨n.toNat, by omega⟩
  go_wp2_with fail
  refine (take_few u _ l w5 TX.out.vols (by omega) (fun x hx => by have := (HG.out.ln x hx).2; omega) HG.out.pool.inR (by omega) (by omega) (by have := HF18.out; omega)).mono ?_
  rintro e w6 ⟨rfl, hb⟩
  replace BX := Aside0.mk (below_then BX.out HL2.out hb)
  clear hb
  go_wp2_with fail
  go_ret2
  exact ⟨rfl, by first | exact BX.out | (rw [hrb]; exact BX.out)⟩
end Go.Proofs.YtkppnamblmaokaaDoor.CsR

namespace Go.Proofs.YtkppnamblmaokaaDoor.CsS
open Go.RowKit Go.Proofs.YtkppnamblmaokaaDoorW.PrintWords Go.Proofs.YtkppnamblmaokaaDoorW.PrintLast Go.Proofs.YtkppnamblmaokaaDoorW.PrintMore Go.Proofs.YtkppnamblmaokaaDoor.CsA Go.Proofs.YtkppnamblmaokaaDoor.CsW Go.Proofs.YtkppnamblmaokaaDoor.CsB Go.Proofs.YtkppnamblmaokaaDoor.CsC Go.Proofs.YtkppnamblmaokaaDoor.CsD Go.Proofs.YtkppnamblmaokaaDoor.CsE Go.Proofs.YtkppnamblmaokaaDoor.CsH Go.Proofs.YtkppnamblmaokaaDoor.CsF Go.Proofs.YtkppnamblmaokaaDoor.CsI Go.Proofs.YtkppnamblmaokaaDoor.CsJ Go.Proofs.YtkppnamblmaokaaDoor.CsK Go.Proofs.YtkppnamblmaokaaDoor.CsL Go.Proofs.YtkppnamblmaokaaDoor.CsM Go.Proofs.YtkppnamblmaokaaDoor.CsN Go.Proofs.YtkppnamblmaokaaDoor.CsP Go.Proofs.YtkppnamblmaokaaDoor.CsO Go.Proofs.YtkppnamblmaokaaDoor.CsQ Go.Proofs.YtkppnamblmaokaaDoor.CsR
set_option linter.unusedVariables false
set_option linter.unusedSimpArgs false
theorem idx_no (name : ByteArray) : ∀ ns : List ByteArray, idx name ns < 0 → name ∉ ns
  | [], _ => by simp
  | s :: r, h => by
    unfold idx at h
    split at h
    · omega
    · rename_i h1
      rw [same_bytes, decide_eq_true_iff] at h1
      split at h
      · rename_i h2
        have := idx_no name r h2
        simp only [List.mem_cons, not_or]
        exact ⟨fun e => h1 e.symm, this⟩
      · have := idx_ge name r
        omega
def takeL (l : List Vo) (n : Nat) : List Nat := (freeL (usedN l)).take n
theorem takeL_len (l : List Vo) (n : Nat) (h : n ≤ (freeL (usedN l)).length) : (takeL l n).length = n := by unfold takeL; rw [List.length_take]; omega
theorem GoodT.more {l : List Vo} (hg : GoodT l) {name : ByteArray} {n : Nat} (h1 : goodL name.data.toList = true) (h2 : idx name (l.map (·.name)) < 0) (n1 : 1 ≤ n) (n4 : n ≤ 4) (h5 : l.length < 3) (h6 : n ≤ (freeL (usedN l)).length) : GoodT (l ++ [⟨name, takeL l n⟩]) := by
  have hl := takeL_len l n h6
  have hfr : ∀ b ∈ takeL l n, b ∈ freeL (usedN l) := fun b hb => List.mem_of_mem_take hb
  refine ⟨by simp; omega, fun v hv => ?_, ?_, fun v hv => ?_, ⟨fun v hv b hb => ?_, ?_⟩⟩
  · rcases List.mem_append.1 hv with h | h
    · exact hg.nm v h
    · simp at h; subst h; exact h1
  · rw [List.map_append]
    refine List.nodup_append.2 ⟨hg.un, by simp, fun a ha b hb => ?_⟩
    simp at hb
    subst hb
    rintro rfl
    exact idx_no _ _ h2 ha
  · rcases List.mem_append.1 hv with h | h
    · exact hg.ln v h
    · simp at h; subst h; simp only; omega
  · rcases List.mem_append.1 hv with h | h
    · exact hg.pool.rng v h b hb
    · simp at h; subst h
      exact ((mem_free l b).1 (hfr b hb)).1
  · rw [List.flatMap_append]
    refine List.nodup_append.2 ⟨hg.pool.one, ?_, fun a ha b hb => ?_⟩
    · simp only [List.flatMap_cons, List.flatMap_nil, List.append_nil]
      exact (freeL_nodup _).sublist (List.take_sublist _ _)
    · simp only [List.flatMap_cons, List.flatMap_nil, List.append_nil] at hb
      rintro rfl
      exact ((mem_free l a).1 (hfr a hb)).2 ha
theorem own_two {w : World} {B e s n B2 e2 s2 n2 : Nat} {v v2 : Value} {xs xs2 : List Value} (h : w.ownsRow B e s v n xs) (h2 : w.ownsRow B2 e2 s2 v2 n2 xs2) (hne : e ≠ e2) : v.ownBlock = none ∨ v.ownBlock ≠ v2.ownBlock := by
  rcases h.2 with ⟨hv, _⟩ | ⟨g, cap, cur, hv, _, hh, _⟩
  · left; rw [hv]; rfl
  · right
    rw [hv]
    exact own_type h2 hh hne
theorem own_mono {w : World} {B B2 e s n : Nat} {v : Value} {xs : List Value} (h : w.ownsRow B e s v n xs) (hb : B2 ≤ B) : w.ownsRow B2 e s v n xs := by
  refine ⟨h.1, ?_⟩
  rcases h.2 with h | ⟨g, cap, cur, h1, h2, h3⟩
  · exact .inl h
  · exact .inr ⟨g, cap, cur, h1, by omega, h3⟩
def zp (ts : List Nat) : List Pu := ts.map fun (b : Nat) => ⟨b, List.replicate 32 0⟩
theorem zp_len (ts : List Nat) : (zp ts).length = ts.length := List.length_map ..
theorem zp_next (ts : List Nat) (j y : Nat) (h : ts[j]? = some y) : zp (ts.take (j + 1)) = zp (ts.take j) ++ [⟨y, List.replicate 32 0⟩] := by
  unfold zp
  rw [List.take_add_one, h]
  simp
theorem pu_lit (y : Nat) : (Pu.cells ⟨y, List.replicate 32 0⟩).toArray = #[.int .i64 (y : Int), .int .u8 0, .int .u8 0, .int .u8 0, .int .u8 0, .int .u8 0, .int .u8 0, .int .u8 0, .int .u8 0, .int .u8 0, .int .u8 0, .int .u8 0, .int .u8 0, .int .u8 0, .int .u8 0, .int .u8 0, .int .u8 0, .int .u8 0, .int .u8 0, .int .u8 0, .int .u8 0, .int .u8 0, .int .u8 0, .int .u8 0, .int .u8 0, .int .u8 0, .int .u8 0, .int .u8 0, .int .u8 0, .int .u8 0, .int .u8 0, .int .u8 0, .int .u8 0] := rfl
set_option maxHeartbeats 4000000 in
set_option maxRecDepth 100000 in
theorem make_ok (l : List Vo) (name : ByteArray) (n : Int) (hsz : name.size ≤ 1000) (hn : -9223372036854775808 ≤ n ∧ n ≤ 9223372036854775807) (w : World) (hg : GoodT l) (h1 : goodL name.data.toList = true) (h2 : idx name (l.map (·.name)) < 0) (u : Nat) (hnu : n = (u : Int)) (h3 : 1 ≤ u) (h4 : u ≤ 4) (h5 : l.length < 3) (h6 : u ≤ (freeL (usedN l)).length) :
    Calls Tryd.prog 23 #[.agg (arr (enc l)), .string name, .int .i64 n] w fun e w' => ∃ pv, e = .returned (.tuple #[pv, .int .i64 0]) ∧ w'.ownsRow w.heap.size 59 33 pv (u + 1) (puCells (zp (takeL l u) ++ [⟨0, enc (l ++ [⟨name, takeL l u⟩])⟩])) ∧ Below w.heap.size w w' := by
  subst hnu
  have HGM := Aside0.mk (GoodT.more hg h1 h2 h3 h4 h5 h6)
  have HGD := Aside0.mk (fun gx W hcx => good_any name gx W (by omega) hcx)
  rw [h1] at HGD
  clear h1
  have H6 := Aside0.mk h6
  have hn : True := trivial
  obtain ⟨iP, hiP, hz, hsz, hby⟩ := info_parts infoPut
  have IP := Aside0.mk hiP
  have ZP := Aside0.mk hz
  have SP := Aside0.mk hsz
  have YP := Aside0.mk hby
  clear hiP hz hsz hby
  obtain ⟨iV, hiV, hz, hsz, hby⟩ := info_parts infoVo
  have IV := Aside0.mk hiV
  have ZV := Aside0.mk hz
  have SV := Aside0.mk hsz
  have YV := Aside0.mk hby
  clear hiV hz hsz hby h6
  have HV := Aside0.mk (fun W => volumes_any l W hg)
  have hfew := hg.few
  have HEL := Aside0.mk (show (arr (enc l)).size = 32 by rw [arr_size]; exact encTo_len hg _ (Nat.le_refl _))
  have QX := Aside0.mk (blk_new w (.cells (arr (enc l)) 32 (0, 0)))
  have BX := Aside0.mk (below_alloc (Below.refl w.heap.size w) (.cells (arr (enc l)) 32 (0, 0)))
  have HG := Aside0.mk hg
  generalize arr (enc l) = E at *
  clear hg
  go_enter Tryd.func23, Tryd.ntmps23
  go_upto_region 1 with (fail)
  generalize w.alloc (.cells E 32 (0, 0)) = w1 at *
  generalize hrb : w.heap.size = rb at *
  have HRB := Aside0.mk hrb
  go_wp2_with (first | (refine wpList_load_row_g (by rfl) 32 _ rfl rb rfl 32 E (0, 0) _ QX.out Tryd.underlying32 rfl (by rw [HEL.out]; kernel_rfl) ?_))
  refine (HV.out _).mono ?_
  rintro e w2 ⟨v, rfl, tab, hb⟩
  have HLR := Aside0.mk (show rb ≤ w1.heap.size by have := blk_lt QX.out; omega)
  have TX := Aside0.mk (Tab.mono tab HLR.out)
  replace BX := Aside0.mk (below_then BX.out HLR.out hb)
  have HL2 := Aside0.mk (Nat.le_trans HLR.out hb.size)
  clear tab hb HV HLR QX
  go_wp2_with fail
  have CS := Aside0.mk (blk_cell (blk_new w2 (.cells #[.string name] 9 (0, 0))) 0)
  replace TX := Aside0.mk (TX.out.below (below_alloc (Below.refl _ _) (.cells #[.string name] 9 (0, 0))))
  replace BX := Aside0.mk (BX.out.alloc HL2.out (.cells #[.string name] 9 (0, 0)))
  replace HL2 := Aside0.mk (Nat.le_trans HL2.out (le_alloc w2 (.cells #[.string name] 9 (0, 0))))
  generalize w2.alloc (.cells #[.string name] 9 (0, 0)) = w3 at *
  generalize w2.heap.size = gs at *
  refine (HGD.out gs w3 CS.out).mono ?_
  rintro e w4 ⟨rfl, hb⟩
  replace TX := Aside0.mk (TX.out.below hb)
  replace BX := Aside0.mk (below_then BX.out HL2.out hb)
  replace HL2 := Aside0.mk (Nat.le_trans HL2.out hb.size)
  clear hb CS HGD
  go_wp2_with fail
  have HF := Aside0.mk (find_any name v l w4 TX.out.vols (by omega))
  generalize hix : idx name (l.map (·.name)) = ix at *
  refine HF.out.mono ?_
  rintro e w5 ⟨rfl, hb⟩
  replace TX := Aside0.mk (TX.out.below hb)
  replace BX := Aside0.mk (below_then BX.out HL2.out hb)
  replace HL2 := Aside0.mk (Nat.le_trans HL2.out hb.size)
  clear hb HF
  clear hix
  obtain ⟨A, c, rfl⟩ : ∃ A c, v = .slice A l.length c := by
    rcases TX.out.vols with ⟨rfl, A, c, h⟩ | ⟨g, c, h, _⟩
    · exact ⟨A, c, h⟩
    · exact ⟨_, c, h⟩
  have hu4 : (u : Int) ≤ 4 := by omega
  have hu1 : (1 : Int) ≤ (u : Int) := by omega
  go_wp2_with fail
  refine (take_any u _ l w5 TX.out.vols (by omega) (fun x hx => by have := (HG.out.ln x hx).2; omega) HG.out.pool.inR h3 h4 H6.out).mono ?_
  rintro e w6 ⟨bv, rfl, own, hb⟩
  have OB := Aside0.mk own
  replace TX := Aside0.mk (TX.out.below hb)
  replace BX := Aside0.mk (below_then BX.out HL2.out hb)
  have HL5 := Aside0.mk HL2.out
  replace HL2 := Aside0.mk (Nat.le_trans HL2.out hb.size)
  have HTL := Aside0.mk (takeL_len l u H6.out)
  clear own hb
  replace OB : Aside0 (w6.ownsRow w5.heap.size 3 1 bv u (ints (takeL l u))) := OB
  generalize hts : takeL l u = ts at *
  have H9 := Aside0.mk hts
  clear hts
  obtain ⟨Au, cu, rfl⟩ := own_form OB.out
  have SI := Aside0.mk (IntsIn.mono (own_ints OB.out HTL.out h3) HL5.out)
  clear OB
  go_wp2_with fail
  have HSZ6 := Aside0.mk (show ∃ k, w6.heap.size = k from ⟨_, rfl⟩)
  generalize hqb : w6.heap.size = qb at HSZ6
  have HQB := Aside0.mk hqb
  clear HSZ6
  obtain ⟨gb, hgb, hcu, hbc⟩ : ∃ gb, Au = some ⟨gb, 0, none⟩ ∧ u ≤ cu ∧ Aside0 (∀ (j : Nat) y, ts[j]? = some y → w6.cell? ⟨gb, j, none⟩ = some (.int .i64 (y : Int))) := by
    obtain ⟨b, c2, cur, k1, _, k2, k3, k4⟩ := SI.out
    injection k1 with k1 k5 k6
    exact ⟨b, k1, by omega, ⟨fun j y hy => by rw [blk_cell k2]; exact k4 j y hy⟩⟩
  subst hgb
  clear hqb
  go_loopg [11, 48] u (fun k s11 s48 wi => ∃ j : Nat, j + k = u ∧ s48 = .int .i64 j ∧ Aside0 (wi.ownsRow qb 59 33 s11 j (puCells (zp (ts.take j)))) ∧ Aside0 (Below qb w6 wi))
  case atStart => exact ⟨0, by omega, rfl, ⟨World.ownsRow_nil _ _ _ _⟩, ⟨Below.refl _ _⟩⟩
  case round =>
    obtain ⟨j, hj, rfl, OP, BP⟩ := hrel
    have HLP := Aside0.mk (show qb ≤ wr.heap.size by have := BP.out.size; have := HQB.out; omega)
    cases gk with
    | zero =>
      have e : j = u := by omega
      subst e
      have hd : decide ((j : Int) < (j : Int)) = false := by simp
      replace TX := Aside0.mk (TX.out.below (show Below w6.heap.size w6 wr by rw [HQB.out]; exact BP.out))
      replace SI := Aside0.mk (IntsIn.below SI.out (show Below w6.heap.size w6 wr by rw [HQB.out]; exact BP.out))
      replace BX := Aside0.mk (BX.out.trans (BP.out.mono (show rb ≤ qb by have := HL2.out; have := HQB.out; omega)))
      have OP2 := Aside0.mk (show wr.ownsRow qb 59 33 u11 j (puCells (zp ts)) by have := OP.out; rwa [List.take_of_length_le (by rw [HTL.out]; exact Nat.le_refl _)] at this)
      have HLR := Aside0.mk (show rb ≤ wr.heap.size by have := HLP.out; have := HL2.out; have := HQB.out; omega)
      obtain ⟨us, hus, own, hin⟩ := TX.out
      have HUS := Aside0.mk hus
      have HIN := Aside0.mk hin
      have OA := Aside0.mk (own.alloc (.cells #[.string name, .slice (some ⟨gb, 0, none⟩) j cu] 67 (0, 0)))
      have TA := Aside0.mk (blk_new wr (.cells #[.string name, .slice (some ⟨gb, 0, none⟩) j cu] 67 (0, 0)))
      have BA := Aside0.mk (BX.out.alloc HLR.out (.cells #[.string name, .slice (some ⟨gb, 0, none⟩) j cu] 67 (0, 0)))
      have SA := Aside0.mk (IntsIn.below SI.out (below_alloc (Below.refl _ _) (.cells #[.string name, .slice (some ⟨gb, 0, none⟩) j cu] 67 (0, 0))))
      have OPA := Aside0.mk (OP2.out.alloc (.cells #[.string name, .slice (some ⟨gb, 0, none⟩) j cu] 67 (0, 0)))
      have HIA := Aside0.mk (fun (i2 : Nat) x2 u2 h1 h2 => IntsIn.below (HIN.out i2 x2 u2 h1 h2) (below_alloc (Below.refl _ _) (.cells #[.string name, .slice (some ⟨gb, 0, none⟩) j cu] 67 (0, 0))))
      clear hus own hin
      obtain ⟨A11, c11, rfl⟩ := own_form OP2.out
      go_wp2_with (at_builtin; apply stop)
      unfold Stop
      refine wpList_append_own _ rfl (.tmp 58) (.tmp 62) 63 rfl rb 67 iV _ 2 40 Tryd.underlying63 IV.out ZV.out SV.out YV.out rfl (by decide) _ l.length (tabCells l us) rfl OA.out ⟨wr.heap.size, 0, none⟩ 1 1 [.string name, .slice (some ⟨gb, 0, none⟩) j cu] rfl rfl ?_ ?_ ?_ ?_ ?_ ?_
      · intro j u hu
        have hj : j < 2 := by have := (List.getElem?_eq_some_iff.1 hu).1; simpa using this
        rw [Addr.add_mid, Nat.zero_add, cell_of_row _ _ _ _ 67 (0, 0) TA.out]
        simpa using hu
      · intro u hu
        simp at hu
        rcases hu with rfl | rfl <;> rfl
      · unfold maxLen; omega
      · omega
      · exact (Nat.le_trans HLR.out (le_alloc _ _))
      intro v1 w1 own' grow' _
      have TN := Aside0.mk (show Tab rb w1 v1 (l ++ [⟨name, ts⟩]) from tab_push HUS.out OA.out HIA.out SA.out own' grow')
      have ON := Aside0.mk (OPA.out.kept grow' (own_two OPA.out OA.out (by decide)))
      replace BX : Aside0 (Below rb w w1) := ⟨BA.out.grown grow' (Nat.le_trans HLR.out (le_alloc _ _)) (fun q hq => (OA.out.lt q hq).1)⟩
      have HLN := Aside0.mk (show rb ≤ w1.heap.size by have := BX.out.size; have := HRB.out; omega)
      clear own' grow' OA TA BA SA HIA OPA OP2 OP TX SI BP
      go_wp2_with fail
      refine (tabled_any v1 (l ++ [⟨name, ts⟩]) rb _ (zp ts) w1 (Tab.vols TN.out) HGM.out (own_mono (by rw [zp_len, HTL.out]; exact ON.out) (show rb ≤ qb by have := HL2.out; have := HQB.out; omega)) (by rw [zp_len, HTL.out]; omega) HLN.out).mono ?_
      rintro e w8 ⟨pv, rfl, own8, gr8⟩
      have OF := Aside0.mk (show w8.ownsRow rb 59 33 pv (j + 1) (puCells (zp ts ++ [⟨0, enc (l ++ [⟨name, ts⟩])⟩])) by rw [zp_len, HTL.out] at own8; exact own8)
      replace BX := Aside0.mk (show Below rb w w8 from BX.out.grown gr8 HLN.out (fun q hq => by have := (ON.out.lt q hq).1; have := HL2.out; have := HQB.out; omega))
      clear own8 gr8
      go_wp2_with fail
      go_ret2
      exact ⟨pv, rfl, by first | (rw [H9.out]; exact OF.out) | (rw [hrb, H9.out]; exact OF.out), by first | exact BX.out | (rw [hrb]; exact BX.out)⟩
    | succ k2 =>
      have hjl : j < u := by omega
      have hd : decide ((j : Int) < (u : Int)) = true := by simp; omega
      obtain ⟨y, hy⟩ : ∃ y, ts[j]? = some y := ⟨ts[j]'(by rw [HTL.out]; exact hjl), by simp [HTL.out, hjl]⟩
      have cb := (BP.out.cell (p := ⟨gb, j, none⟩) (by have h1 : gb < w6.heap.size := World.block_lt_of_cell? w6 _ (hbc.out j y hy); have := HQB.out; show gb < qb; omega)).trans (hbc.out j y hy)
      have HNX := Aside0.mk (zp_next ts j y hy)
      have HON := Aside0.mk (show ∀ x ∈ Pu.cells ⟨y, List.replicate 32 0⟩, x.oneCell' = true from fun x hx => Array.all_eq_true_iff_forall_mem.1 (Pu.one ⟨y, List.replicate 32 0⟩) x (by simpa using hx))
      have FL0 := fill_one (Pu.cells ⟨y, List.replicate 32 0⟩).toArray ((Array.range (1 * 33)).map ((Value.agg (#[.int .i64 0] ++ arr (List.replicate 32 0))).cells[· % (Value.agg (#[.int .i64 0] ++ arr (List.replicate 32 0))).cells.size]!)) 33 (by rw [List.size_toArray]; exact Pu.size _ (by simp)) (by simp) (agg_cells _ (Pu.one ⟨y, List.replicate 32 0⟩))
      rw [pu_lit] at FL0
      have FL := Aside0.mk FL0
      clear FL0
      have OA := Aside0.mk (OP.out.alloc (.cells #[.int .i64 (y : Int), .int .u8 0, .int .u8 0, .int .u8 0, .int .u8 0, .int .u8 0, .int .u8 0, .int .u8 0, .int .u8 0, .int .u8 0, .int .u8 0, .int .u8 0, .int .u8 0, .int .u8 0, .int .u8 0, .int .u8 0, .int .u8 0, .int .u8 0, .int .u8 0, .int .u8 0, .int .u8 0, .int .u8 0, .int .u8 0, .int .u8 0, .int .u8 0, .int .u8 0, .int .u8 0, .int .u8 0, .int .u8 0, .int .u8 0, .int .u8 0, .int .u8 0, .int .u8 0] 59 (0, 0)))
      have TA := Aside0.mk (blk_new wr (.cells #[.int .i64 (y : Int), .int .u8 0, .int .u8 0, .int .u8 0, .int .u8 0, .int .u8 0, .int .u8 0, .int .u8 0, .int .u8 0, .int .u8 0, .int .u8 0, .int .u8 0, .int .u8 0, .int .u8 0, .int .u8 0, .int .u8 0, .int .u8 0, .int .u8 0, .int .u8 0, .int .u8 0, .int .u8 0, .int .u8 0, .int .u8 0, .int .u8 0, .int .u8 0, .int .u8 0, .int .u8 0, .int .u8 0, .int .u8 0, .int .u8 0, .int .u8 0, .int .u8 0, .int .u8 0] 59 (0, 0)))
      have BA := Aside0.mk (BP.out.alloc HLP.out (.cells #[.int .i64 (y : Int), .int .u8 0, .int .u8 0, .int .u8 0, .int .u8 0, .int .u8 0, .int .u8 0, .int .u8 0, .int .u8 0, .int .u8 0, .int .u8 0, .int .u8 0, .int .u8 0, .int .u8 0, .int .u8 0, .int .u8 0, .int .u8 0, .int .u8 0, .int .u8 0, .int .u8 0, .int .u8 0, .int .u8 0, .int .u8 0, .int .u8 0, .int .u8 0, .int .u8 0, .int .u8 0, .int .u8 0, .int .u8 0, .int .u8 0, .int .u8 0, .int .u8 0, .int .u8 0] 59 (0, 0)))
      clear hy
      obtain ⟨A11, c11, rfl⟩ := own_form OP.out
      go_wp2_with (first | (refine wpList_buildSlice rfl 55 59 1 _ rfl #[.int .i64 (y : Int), .int .u8 0, .int .u8 0, .int .u8 0, .int .u8 0, .int .u8 0, .int .u8 0, .int .u8 0, .int .u8 0, .int .u8 0, .int .u8 0, .int .u8 0, .int .u8 0, .int .u8 0, .int .u8 0, .int .u8 0, .int .u8 0, .int .u8 0, .int .u8 0, .int .u8 0, .int .u8 0, .int .u8 0, .int .u8 0, .int .u8 0, .int .u8 0, .int .u8 0, .int .u8 0, .int .u8 0, .int .u8 0, .int .u8 0, .int .u8 0, .int .u8 0, .int .u8 0] iP _ Tryd.underlying55 IP.out ZP.out (by rw [SP.out]; decide) (by rw [SP.out]; decide) (by rw [Array.toList_map, SP.out]; exact FL.out) ?_) | (at_builtin; apply stop))
      unfold Stop
      refine wpList_append_own _ rfl (.tmp 52) (.tmp 55) 55 rfl qb 59 iP _ 33 40 Tryd.underlying55 IP.out ZP.out SP.out YP.out (by kernel_rfl) (by decide) _ j (puCells (zp (ts.take j))) rfl OA.out ⟨wr.heap.size, 0, none⟩ 1 1 (Pu.cells ⟨y, List.replicate 32 0⟩) rfl rfl ?_ ?_ ?_ ?_ ?_ ?_
      · intro q z hz
        rw [Addr.add_mid, Nat.zero_add, cell_of_row _ _ _ _ 59 (0, 0) TA.out]
        rw [← pu_lit]
        simpa using hz
      · exact HON.out
      · unfold maxLen; omega
      · omega
      · exact Nat.le_trans HLP.out (le_alloc _ _)
      intro v1 w1 own' grow' _
      have OF := Aside0.mk (show w1.ownsRow qb 59 33 v1 (j + 1) (puCells (zp (ts.take (j + 1)))) by rw [HNX.out, puCells_snoc]; exact own')
      have BF : Aside0 (Below qb w6 w1) := ⟨BA.out.grown grow' (Nat.le_trans HLP.out (le_alloc _ _)) (fun q hq => (OA.out.lt q hq).1)⟩
      clear own' grow' OA TA BA OP BP FL cb
      go_wp2_with fail
      go_roundg k2
      case measure => omega
      case rel => exact ⟨j + 1, by omega, by go_num, OF, BF⟩
end Go.Proofs.YtkppnamblmaokaaDoor.CsS

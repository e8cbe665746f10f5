/- walk -/
import Derived.Test.YtipiooolplgjjaaPDeskBackx4
import Derived.Test.YtipiooolplgjjaaGrow
namespace Go.Proofs.Ytipiooolplgjjaa.BackWalk
open Go.Proofs.Ytipiooolplgjjaa.Grow Go.RowKit Go.Proofs.Ytipiooolplgjjaa.PDeskBack Go.Proofs.YtipiooolplgjjaaW.PrintWords Go.Proofs.YtipiooolplgjjaaW.PrintLast Go.Proofs.YtipiooolplgjjaaW.PrintMore
set_option linter.unusedVariables false
attribute [local go_sem high] eqA24
theorem wf_u8 {a : Int} (h : (Lit.int .u8 a).wf = true) : 0 ≤ a ∧ a < 256 := by
  simp [Lit.wf, IntKind.min, IntKind.max, IntKind.signed, IntKind.bits] at h; omega
theorem wf_u32 {a : Int} (h : (Lit.int .u32 a).wf = true) : 0 ≤ a ∧ a < 4294967296 := by
  simp [Lit.wf, IntKind.min, IntKind.max, IntKind.signed, IntKind.bits] at h; omega
theorem w64 {x : Int} (h : -9223372036854775808 ≤ x) (h' : x < 9223372036854775808) : wrap64 x = x := by
  unfold wrap64; omega
theorem other_f (p e : Int) (b : Bool) (h0 : 0 ≤ p) (h1 : p ≤ 1) : desk_Desk_Other.f p e b = some (1 - p) := by
  have c : p = 0 ∨ p = 1 := by omega
  unfold desk_Desk_Other.f desk_node.f
  rcases c with rfl | rfl
  · simp only [if_true, Option.bind_some]; rw [w64 (by omega) (by omega)]
  · rw [if_neg (by omega)]; simp only [BEq.rfl, Option.bind_some, if_true]; rw [w64 (by omega) (by omega)]
theorem turn_f (p e : Int) (b : Bool) (n d : Int) : desk_Desk_Turn.f p e b n d = some (n, (e + 1) % 4294967296, (d == 0)) := rfl
theorem may_yes (p e n : Int) (f : Bool) (h0 : 0 ≤ p) (h1 : p ≤ 1) (h : n = 1 - p) : desk_Desk_May.f 1 p e true n true f = some 0 := by
  have c : p = 0 ∨ p = 1 := by omega
  unfold desk_Desk_May.f desk_node.f
  subst h
  rcases c with rfl | rfl <;> simp [desk_Desk_May.j0]
theorem may_no (p e n : Int) (f : Bool) (h0 : 0 ≤ p) (h1 : p ≤ 1) (h : n ≠ 1 - p) : desk_Desk_May.f 1 p e true n true f = some 1 := by
  unfold desk_Desk_May.f desk_node.f
  by_cases c0 : n = 0
  · have : p = 0 := by omega
    subst this; subst c0; simp [desk_Desk_May.j0]
  · rw [if_neg c0]
    by_cases c1 : n = 1
    · have : p = 1 := by omega
      subst this; subst c1; simp [desk_Desk_May.j0]
    · have : (n == 1) = false := by simpa using c1
      rw [this]; simp [desk_Desk_May.j0]
theorem wakes_f : tollhouselaw23_wakes.f 1 = some true := by decide +kernel

theorem store3 {w : World} {g : Nat} {t : TypeId} {a b c : Value} (h : w.heap[g]? = some (.cells #[a, b, c] t (0, 0))) (x y z : Value) :
    (((w.setCell ⟨g, 0, none⟩ x).setCell ⟨g, 1, none⟩ y).setCell ⟨g, 2, none⟩ z).heap[g]? = some (.cells #[x, y, z] t (0, 0)) ∧
    (∀ g', g' ≠ g → (((w.setCell ⟨g, 0, none⟩ x).setCell ⟨g, 1, none⟩ y).setCell ⟨g, 2, none⟩ z).heap[g']? = w.heap[g']?) ∧
    (∀ B w0, Below B w0 w → B ≤ g → Below B w0 (((w.setCell ⟨g, 0, none⟩ x).setCell ⟨g, 1, none⟩ y).setCell ⟨g, 2, none⟩ z)) := by
  refine ⟨?_, ?_, ?_⟩
  · exact blk_put (cs := #[x, y, c]) (blk_put (cs := #[x, b, c]) (blk_put (cs := #[a, b, c]) h 0 _ rfl) 1 _ rfl) 2 _ rfl
  · intro g' hg
    rw [Below.heap_setCell _ ⟨g, 2, none⟩ _ _ hg, Below.heap_setCell _ ⟨g, 1, none⟩ _ _ hg, Below.heap_setCell _ ⟨g, 0, none⟩ _ _ hg]
  · intro B w0 hb hg
    exact ((hb.setCell hg _).setCell hg _).setCell hg _

def Box3 (w : World) (b : Nat) (p e : Int) (s : Bool) : Prop := w.heap[b]? = some (.cells #[.int .i64 p, .int .u32 e, .bool s] 24 (0, 0))

set_option maxHeartbeats 1000000 in
set_option maxRecDepth 100000 in
theorem back_walk (a0 a1 : Int) (w : World) (h0 : 0 ≤ a0) (h1 : a0 < 256) (h4 : 0 ≤ a1) (h5 : a1 < 4294967296) :
    Calls Try.prog 5 #[.int .u8 a0, .int .u32 a1] w fun e w' => e = .returned (.bool true) ∧ Below w.heap.size w w' := by
  have hu24 := Try.underlying24
  have HB := Aside0.mk (Below.refl w.heap.size w)
  have e3 : Aside0 (0 ≤ a0 % 2 ∧ a0 % 2 ≤ 1) := ⟨by omega⟩
  go_enter Try.func5, Try.ntmps5
  go_wp2_with fail
  have p0 := e3.out.1
  have p1 := e3.out.2
  clear e3
  have BL := Aside0.mk (Below.alloc (Below.refl w.heap.size w) (Nat.le_refl _) (Obj.cells #[Value.int IntKind.i64 (a0 % 2), Value.int IntKind.u32 a1, Value.bool true] 24))
  have bk : Box3 (w.alloc (Obj.cells #[Value.int IntKind.i64 (a0 % 2), Value.int IntKind.u32 a1, Value.bool true] 24)) w.heap.size (a0 % 2) a1 true := by
    exact blk_new w _
  generalize w.alloc (Obj.cells #[Value.int IntKind.i64 (a0 % 2), Value.int IntKind.u32 a1, Value.bool true] 24) = w1 at *
  have GE5 := Aside0.mk (Nat.le_refl w.heap.size)
  generalize hB5 : w.heap.size = B5 at bk GE5 ⊢
  have HB5 := Aside0.mk hB5
  clear hB5
  generalize a0 % 2 = p at *
  have c50 := blk_cell bk 0
  have c51 := blk_cell bk 1
  have c52 := blk_cell bk 2
  simp only [List.getElem?_toArray, List.getElem?_cons_zero, List.getElem?_cons_succ] at c50 c51 c52
  have BK := Aside0.mk bk
  clear bk
  refine grow [⟨0, 15, []⟩, ⟨1, 16, []⟩, ⟨2, 17, [1]⟩, ⟨3, 18, [0, 2]⟩, ⟨4, 6, []⟩] [5]
    [Is (.agg #[.int .i64 p, .int .u32 a1, .bool true]), Is (.agg #[.int .i64 p, .int .u32 a1, .bool true]), Is (.int .i64 (1 - p)), Is (.agg #[.int .i64 (1 - p), .int .u32 ((a1 + 1) % 4294967296), .bool true]), New w1.heap.size (.cells #[.int .i64 0, .int .u32 0, .bool false] 24 (0, 0))]
    rfl (by kernel_rfl) ⟨.is _, .is _, .is _, .is _, .new _ _, trivial⟩ ⟨?_, ?_, ?_, ?_, ?_, trivial⟩ ?_
  · intro vs w2 a2 ha hb _
    simp only [fills, pairs, List.map_cons, List.map_nil, Act.put, List.setIfInBounds_toArray, List.set_cons_zero, List.set_cons_succ] at ha
    subst ha
    refine ob (i := 0) (d := 15) rfl rfl (fun K hK => ?_)
    have BK2 := blk_below (w := w1) BK.out hb
    have c50 := blk_cell BK2 0
    have c51 := blk_cell BK2 1
    have c52 := blk_cell BK2 2
    simp only [List.getElem?_toArray, List.getElem?_cons_zero, List.getElem?_cons_succ] at c50 c51 c52
    refine value_ (v := .agg #[.int .i64 p, .int .u32 a1, .bool true]) (w1 := w2) ?_ ?_ ?_ ?_
    · rfl
    · rfl
    · first | (go_simp; done) | (go_simp; rfl)
    · exact hK.out _ _ rfl (Below.refl _ _)
  · intro vs w2 a2 ha hb _
    simp only [fills, pairs, List.map_cons, List.map_nil, Act.put, List.setIfInBounds_toArray, List.set_cons_zero, List.set_cons_succ] at ha
    subst ha
    refine ob (i := 1) (d := 16) rfl rfl (fun K hK => ?_)
    have BK2 := blk_below (w := w1) BK.out hb
    have c50 := blk_cell BK2 0
    have c51 := blk_cell BK2 1
    have c52 := blk_cell BK2 2
    simp only [List.getElem?_toArray, List.getElem?_cons_zero, List.getElem?_cons_succ] at c50 c51 c52
    refine value_ (v := .agg #[.int .i64 p, .int .u32 a1, .bool true]) (w1 := w2) ?_ ?_ ?_ ?_
    · rfl
    · rfl
    · first | (go_simp; done) | (go_simp; rfl)
    · exact hK.out _ _ rfl (Below.refl _ _)
  · intro vs w2 a2 ha hb hf
    have e1 : vs 1 = .agg #[.int .i64 p, .int .u32 a1, .bool true] := hf.1
    simp only [e1, fills, pairs, List.map_cons, List.map_nil, Act.put, List.setIfInBounds_toArray, List.set_cons_zero, List.set_cons_succ] at ha
    subst ha
    refine ob (i := 2) (d := 17) rfl rfl (fun K hK => ?_)
    refine goes_ Try.func11 (by kernel_rfl) rfl #[.agg #[.int .i64 p, .int .u32 a1, .bool true]] ?_ ?_ rfl ?_ ?_
    · rfl
    · rfl
    · simp only [List.map_toArray, List.map_cons, List.map_nil]; rfl
    with_reducible refine (desk_Desk_Other.calls p a1 true _ _ (other_f p a1 true (by omega) (by omega))).mono ?_
    rintro e w3 ⟨rfl, hb3⟩
    exact ⟨_, rfl, hK.out _ _ (rfl) hb3⟩
  · intro vs w2 a2 ha hb hf
    have e0 : vs 0 = .agg #[.int .i64 p, .int .u32 a1, .bool true] := hf.1
    have e2 : vs 2 = .int .i64 (1 - p) := hf.2.1
    simp only [e0, e2, fills, pairs, List.map_cons, List.map_nil, Act.put, List.setIfInBounds_toArray, List.set_cons_zero, List.set_cons_succ] at ha
    subst ha
    refine ob (i := 3) (d := 18) rfl rfl (fun K hK => ?_)
    refine goes_ Try.func17 (by kernel_rfl) rfl #[.agg #[.int .i64 p, .int .u32 a1, .bool true], .int .i64 (1 - p), .int .u16 0] ?_ ?_ rfl ?_ ?_
    · rfl
    · rfl
    · simp only [List.map_toArray, List.map_cons, List.map_nil]; rfl
    with_reducible refine (desk_Desk_Turn.calls p a1 true (1 - p) 0 _ _ _ _ (turn_f ..)).mono ?_
    rintro e w3 ⟨rfl, hb3⟩
    exact ⟨_, rfl, hK.out _ _ rfl hb3⟩
  · intro vs w2 a2 ha hb _
    simp only [fills, pairs, List.map_cons, List.map_nil, Act.put, List.setIfInBounds_toArray, List.set_cons_zero, List.set_cons_succ] at ha
    subst ha
    refine ob (i := 4) (d := 6) rfl rfl (fun K hK => ?_)
    refine value_ (v := .pointer (some ⟨w2.heap.size, 0, none⟩)) (w1 := w2.alloc (.cells #[.int .i64 0, .int .u32 0, .bool false] 24 (0, 0))) ?_ ?_ ?_ ?_
    · rfl
    · rfl
    · first | (go_simp; done) | (go_simp; rfl)
    · exact hK.out _ _ ⟨w2.heap.size, rfl, hb.size, blk_new w2 _⟩ (below_alloc (Below.refl _ _) _)
  intro vs w2 a2 ha hb2 hf
  obtain ⟨e0, e1, e2, e3, ⟨B6, e4, ge6, bk6⟩, _⟩ := hf
  replace e0 : vs 0 = _ := e0
  replace e1 : vs 1 = _ := e1
  replace e2 : vs 2 = _ := e2
  replace e3 : vs 3 = _ := e3
  replace e4 : vs 4 = _ := e4
  simp only [e0, e1, e2, e3, e4, fills, pairs, List.map_cons, List.map_nil, Act.put, List.setIfInBounds_toArray, List.set_cons_zero, List.set_cons_succ] at ha
  subst ha
  clear e0 e1 e2 e3 e4
  refine any_one #[true, true, true, true, true, true] (i := 5) rfl rfl (by kernel_rfl) (fun K hK => ?_)
  have c60 := blk_cell bk6 0
  have c61 := blk_cell bk6 1
  have c62 := blk_cell bk6 2
  simp only [List.getElem?_toArray, List.getElem?_cons_zero, List.getElem?_cons_succ] at c60 c61 c62
  have f60 := blk_frozen bk6 0
  have f61 := blk_frozen bk6 1
  have f62 := blk_frozen bk6 2
  refine skip_ (w1 := ?_) (by rfl) rfl ?_ ?_
  rotate_left
  · go_simp
    rfl
  refine hK.out _ _ ?_
  clear hK K c60 c61 c62 f60 f61 f62
  have st := store3 bk6 (.int .i64 (1 - p)) (.int .u32 ((a1 + 1) % 4294967296)) (.bool true)
  generalize (((w2.setCell ⟨B6, 0, none⟩ (.int .i64 (1 - p))).setCell ⟨B6, 1, none⟩ (.int .u32 ((a1 + 1) % 4294967296))).setCell ⟨B6, 2, none⟩ (.bool true)) = w3 at st ⊢
  refine any_done (by kernel_rfl) ?_ _
  have ne56 : B5 ≠ B6 := fun h => by have := blk_lt BK.out; omega
  have BK5 := Aside0.mk ((st.2.1 B5 ne56).trans (blk_below (w := w1) BK.out hb2))
  have BK6 := Aside0.mk st.1
  have BL3 := Aside0.mk (st.2.2 _ _ (BL.out.trans ⟨hb2.os, hb2.tape, hb2.output, hb2.size, fun k hk => hb2.block k (by have := BL.out.size; omega)⟩) (by have := BL.out.size; omega))
  clear BL BK st hb2 bk6 ge6
  go_wp2_with fail
  refine grow [⟨0, 19, []⟩, ⟨1, 20, []⟩, ⟨2, 21, [1]⟩, ⟨3, 22, [0, 2]⟩, ⟨4, 7, []⟩] [5]
    [Is (.agg #[.int .i64 (1 - p), .int .u32 ((a1 + 1) % 4294967296), .bool true]), Is (.agg #[.int .i64 (1 - p), .int .u32 ((a1 + 1) % 4294967296), .bool true]), Is (.int .i64 p), Is (.agg #[.int .i64 p, .int .u32 ((a1 + 2) % 4294967296), .bool true]), New w3.heap.size (.cells #[.int .i64 0, .int .u32 0, .bool false] 24 (0, 0))]
    rfl (by kernel_rfl) ⟨.is _, .is _, .is _, .is _, .new _ _, trivial⟩ ⟨?_, ?_, ?_, ?_, ?_, trivial⟩ ?_
  · intro vs w4 a2 ha hb _
    simp only [fills, pairs, List.map_cons, List.map_nil, Act.put, List.setIfInBounds_toArray, List.set_cons_zero, List.set_cons_succ] at ha
    subst ha
    refine ob (i := 0) (d := 19) rfl rfl (fun K hK => ?_)
    have BK2 := blk_below (w := w3) BK6.out hb
    have c60 := blk_cell BK2 0
    have c61 := blk_cell BK2 1
    have c62 := blk_cell BK2 2
    simp only [List.getElem?_toArray, List.getElem?_cons_zero, List.getElem?_cons_succ] at c60 c61 c62
    refine value_ (v := .agg #[.int .i64 (1 - p), .int .u32 ((a1 + 1) % 4294967296), .bool true]) (w1 := w4) ?_ ?_ ?_ ?_
    · rfl
    · rfl
    · first | (go_simp; done) | (go_simp; rfl)
    · exact hK.out _ _ rfl (Below.refl _ _)
  · intro vs w4 a2 ha hb _
    simp only [fills, pairs, List.map_cons, List.map_nil, Act.put, List.setIfInBounds_toArray, List.set_cons_zero, List.set_cons_succ] at ha
    subst ha
    refine ob (i := 1) (d := 20) rfl rfl (fun K hK => ?_)
    have BK2 := blk_below (w := w3) BK6.out hb
    have c60 := blk_cell BK2 0
    have c61 := blk_cell BK2 1
    have c62 := blk_cell BK2 2
    simp only [List.getElem?_toArray, List.getElem?_cons_zero, List.getElem?_cons_succ] at c60 c61 c62
    refine value_ (v := .agg #[.int .i64 (1 - p), .int .u32 ((a1 + 1) % 4294967296), .bool true]) (w1 := w4) ?_ ?_ ?_ ?_
    · rfl
    · rfl
    · first | (go_simp; done) | (go_simp; rfl)
    · exact hK.out _ _ rfl (Below.refl _ _)
  · intro vs w4 a2 ha hb hf
    have e1 : vs 1 = .agg #[.int .i64 (1 - p), .int .u32 ((a1 + 1) % 4294967296), .bool true] := hf.1
    simp only [e1, fills, pairs, List.map_cons, List.map_nil, Act.put, List.setIfInBounds_toArray, List.set_cons_zero, List.set_cons_succ] at ha
    subst ha
    refine ob (i := 2) (d := 21) rfl rfl (fun K hK => ?_)
    refine goes_ Try.func11 (by kernel_rfl) rfl #[.agg #[.int .i64 (1 - p), .int .u32 ((a1 + 1) % 4294967296), .bool true]] ?_ ?_ rfl ?_ ?_
    · rfl
    · rfl
    · simp only [List.map_toArray, List.map_cons, List.map_nil]; rfl
    with_reducible refine (desk_Desk_Other.calls (1 - p) ((a1 + 1) % 4294967296) true _ _ (other_f (1 - p) ((a1 + 1) % 4294967296) true (by omega) (by omega))).mono ?_
    rintro e w3 ⟨rfl, hb3⟩
    exact ⟨_, rfl, hK.out _ _ (by show Value.int .i64 (1 - (1 - p)) = .int .i64 p; rw [show 1 - (1 - p) = p by omega]) hb3⟩
  · intro vs w4 a2 ha hb hf
    have e0 : vs 0 = .agg #[.int .i64 (1 - p), .int .u32 ((a1 + 1) % 4294967296), .bool true] := hf.1
    have e2 : vs 2 = .int .i64 p := hf.2.1
    simp only [e0, e2, fills, pairs, List.map_cons, List.map_nil, Act.put, List.setIfInBounds_toArray, List.set_cons_zero, List.set_cons_succ] at ha
    subst ha
    refine ob (i := 3) (d := 22) rfl rfl (fun K hK => ?_)
    refine goes_ Try.func17 (by kernel_rfl) rfl #[.agg #[.int .i64 (1 - p), .int .u32 ((a1 + 1) % 4294967296), .bool true], .int .i64 p, .int .u16 0] ?_ ?_ rfl ?_ ?_
    · rfl
    · rfl
    · simp only [List.map_toArray, List.map_cons, List.map_nil]; rfl
    with_reducible refine (desk_Desk_Turn.calls (1 - p) ((a1 + 1) % 4294967296) true p 0 _ _ _ _ (turn_f ..)).mono ?_
    rintro e w3 ⟨rfl, hb3⟩
    exact ⟨_, rfl, hK.out _ _ (by show Value.agg #[.int .i64 p, .int .u32 (((a1 + 1) % 4294967296 + 1) % 4294967296), .bool true] = .agg #[.int .i64 p, .int .u32 ((a1 + 2) % 4294967296), .bool true]; rw [show ((a1 + 1) % 4294967296 + 1) % 4294967296 = (a1 + 2) % 4294967296 by omega]) hb3⟩
  · intro vs w4 a2 ha hb _
    simp only [fills, pairs, List.map_cons, List.map_nil, Act.put, List.setIfInBounds_toArray, List.set_cons_zero, List.set_cons_succ] at ha
    subst ha
    refine ob (i := 4) (d := 7) rfl rfl (fun K hK => ?_)
    refine value_ (v := .pointer (some ⟨w4.heap.size, 0, none⟩)) (w1 := w4.alloc (.cells #[.int .i64 0, .int .u32 0, .bool false] 24 (0, 0))) ?_ ?_ ?_ ?_
    · rfl
    · rfl
    · first | (go_simp; done) | (go_simp; rfl)
    · exact hK.out _ _ ⟨w4.heap.size, rfl, hb.size, blk_new w4 _⟩ (below_alloc (Below.refl _ _) _)
  intro vs w4 a2 ha hb4 hf
  obtain ⟨e0, e1, e2, e3, ⟨B7, e4, ge7, bk7⟩, _⟩ := hf
  replace e0 : vs 0 = _ := e0
  replace e1 : vs 1 = _ := e1
  replace e2 : vs 2 = _ := e2
  replace e3 : vs 3 = _ := e3
  replace e4 : vs 4 = _ := e4
  simp only [e0, e1, e2, e3, e4, fills, pairs, List.map_cons, List.map_nil, Act.put, List.setIfInBounds_toArray, List.set_cons_zero, List.set_cons_succ] at ha
  subst ha
  clear e0 e1 e2 e3 e4
  refine any_one #[true, true, true, true, true, true] (i := 5) rfl rfl (by kernel_rfl) (fun K hK => ?_)
  have c60 := blk_cell bk7 0
  have c61 := blk_cell bk7 1
  have c62 := blk_cell bk7 2
  simp only [List.getElem?_toArray, List.getElem?_cons_zero, List.getElem?_cons_succ] at c60 c61 c62
  have f60 := blk_frozen bk7 0
  have f61 := blk_frozen bk7 1
  have f62 := blk_frozen bk7 2
  refine skip_ (w1 := ?_) (by rfl) rfl ?_ ?_
  rotate_left
  · go_simp
    rfl
  refine hK.out _ _ ?_
  clear hK K c60 c61 c62 f60 f61 f62
  have st := store3 bk7 (.int .i64 p) (.int .u32 ((a1 + 2) % 4294967296)) (.bool true)
  generalize (((w4.setCell ⟨B7, 0, none⟩ (.int .i64 p)).setCell ⟨B7, 1, none⟩ (.int .u32 ((a1 + 2) % 4294967296))).setCell ⟨B7, 2, none⟩ (.bool true)) = w5 at st ⊢
  refine any_done (by kernel_rfl) ?_ _
  have ne57 : B5 ≠ B7 := fun h => by have := blk_lt BK5.out; omega
  have ne67 : B6 ≠ B7 := fun h => by have := blk_lt BK6.out; omega
  have DK5 := Aside0.mk ((st.2.1 B5 ne57).trans (blk_below (w := w3) BK5.out hb4))
  have DK6 := Aside0.mk ((st.2.1 B6 ne67).trans (blk_below (w := w3) BK6.out hb4))
  have DK7 := Aside0.mk st.1
  have BL5 := Aside0.mk (st.2.2 _ _ (BL3.out.trans ⟨hb4.os, hb4.tape, hb4.output, hb4.size, fun k hk => hb4.block k (by have := BL3.out.size; omega)⟩) (by have := BL3.out.size; omega))
  clear BL3 BK5 BK6 st hb4 bk7 ge7
  have BL6 : Aside0 (Below B5 w w5) := ⟨HB5.out ▸ BL5.out⟩
  clear BL5
  go_wp2_with fail
  have hfd : ∀ (x y z : Value) (w : World), (Instr.field 24 (.agg #[x, y, z]) 2).run Try.prog w = .ok z w := fun _ _ _ _ => by kernel_rfl
  go_loopw [8] (fun v w' => ∃ k : Int, -2 ≤ k ∧ k ≤ 4 ∧ v = .int .i64 k ∧ Aside0 (w'.heap[B5]? = some (.cells #[.int .i64 p, .int .u32 a1, .bool true] 24 (0, 0))) ∧ Aside0 (w'.heap[B6]? = some (.cells #[.int .i64 (1 - p), .int .u32 ((a1 + 1) % 4294967296), .bool true] 24 (0, 0))) ∧ Aside0 (w'.heap[B7]? = some (.cells #[.int .i64 p, .int .u32 ((a1 + 2) % 4294967296), .bool true] 24 (0, 0))) ∧ Aside0 (Below B5 w w')) (fun v _ => (4 - intOf v).toNat)
  case atStart => exact ⟨-2, by omega, by omega, rfl, DK5, DK6, DK7, BL6⟩
  case round =>
    clear BL6 DK5 DK6 DK7 ne56 ne57 ne67
    obtain ⟨k, k0, k1, rfl, X5, X6, X7, XB⟩ := hrel
    have c50 := blk_cell X5.out 0
    have c51 := blk_cell X5.out 1
    have c52 := blk_cell X5.out 2
    simp only [List.getElem?_toArray, List.getElem?_cons_zero, List.getElem?_cons_succ] at c50 c51 c52
    by_cases hlt : k < 4
    · by_cases hk0 : k = 1 - p
      · subst hk0
        have hkb : ((1 - p : Int) == 1 - p) = true := by simp
        have hk : (1 - p : Int) = 1 - p := rfl
        have hkk := Aside0.mk hk
        clear hk
        go_wp2_with fail
        (with_reducible refine (desk_Desk_Other.calls p a1 true _ _ (other_f p a1 true p0 p1)).mono ?_)
        rintro e w7 ⟨rfl, hb⟩
        have Y5 := Aside0.mk (blk_below X5.out hb)
        have Y6 := Aside0.mk (blk_below X6.out hb)
        have Y7 := Aside0.mk (blk_below X7.out hb)
        have YB := Aside0.mk (XB.out.trans ⟨hb.os, hb.tape, hb.output, hb.size, fun k hk => hb.block k (by have := XB.out.size; have := HB5.out; omega)⟩)
        clear X5 X6 X7 XB c50 c51 c52
        have X5 := Y5
        have X6 := Y6
        have X7 := Y7
        have XB := YB
        clear Y5 Y6 Y7 YB
        have c50 := blk_cell X5.out 0
        have c51 := blk_cell X5.out 1
        have c52 := blk_cell X5.out 2
        simp only [List.getElem?_toArray, List.getElem?_cons_zero, List.getElem?_cons_succ] at c50 c51 c52
        clear hb
        go_wp2_with fail
        (with_reducible refine (desk_Desk_May.calls 1 p a1 true (1 - p) true false _ _ (may_yes p a1 (1 - p) false p0 p1 rfl)).mono ?_)
        rintro e w8 ⟨rfl, hb⟩
        have Y5 := Aside0.mk (blk_below X5.out hb)
        have Y6 := Aside0.mk (blk_below X6.out hb)
        have Y7 := Aside0.mk (blk_below X7.out hb)
        have YB := Aside0.mk (XB.out.trans ⟨hb.os, hb.tape, hb.output, hb.size, fun k hk => hb.block k (by have := XB.out.size; have := HB5.out; omega)⟩)
        clear X5 X6 X7 XB c50 c51 c52
        have X5 := Y5
        have X6 := Y6
        have X7 := Y7
        have XB := YB
        clear Y5 Y6 Y7 YB
        have c50 := blk_cell X5.out 0
        have c51 := blk_cell X5.out 1
        have c52 := blk_cell X5.out 2
        simp only [List.getElem?_toArray, List.getElem?_cons_zero, List.getElem?_cons_succ] at c50 c51 c52
        clear hb
        go_wp2_with fail
        (with_reducible refine (desk_Desk_May.calls 1 p a1 true (1 - p) true true _ _ (may_yes p a1 (1 - p) true p0 p1 rfl)).mono ?_)
        rintro e w9 ⟨rfl, hb⟩
        have Y5 := Aside0.mk (blk_below X5.out hb)
        have Y6 := Aside0.mk (blk_below X6.out hb)
        have Y7 := Aside0.mk (blk_below X7.out hb)
        have YB := Aside0.mk (XB.out.trans ⟨hb.os, hb.tape, hb.output, hb.size, fun k hk => hb.block k (by have := XB.out.size; have := HB5.out; omega)⟩)
        clear X5 X6 X7 XB c50 c51 c52
        have X5 := Y5
        have X6 := Y6
        have X7 := Y7
        have XB := YB
        clear Y5 Y6 Y7 YB
        have c50 := blk_cell X5.out 0
        have c51 := blk_cell X5.out 1
        have c52 := blk_cell X5.out 2
        simp only [List.getElem?_toArray, List.getElem?_cons_zero, List.getElem?_cons_succ] at c50 c51 c52
        clear hb
        go_wp2_with fail
        go_roundw
        case measure => simp [intOf]; omega
        case rel => exact ⟨1 - p + 1, by omega, by omega, rfl, X5, X6, X7, XB⟩
      · skip
        have hkb : (k == 1 - p) = false := by simp; omega
        have hk : k ≠ 1 - p := by omega
        have hkk := Aside0.mk hk
        clear hk
        go_wp2_with fail
        (with_reducible refine (desk_Desk_Other.calls p a1 true _ _ (other_f p a1 true p0 p1)).mono ?_)
        rintro e w7 ⟨rfl, hb⟩
        have Y5 := Aside0.mk (blk_below X5.out hb)
        have Y6 := Aside0.mk (blk_below X6.out hb)
        have Y7 := Aside0.mk (blk_below X7.out hb)
        have YB := Aside0.mk (XB.out.trans ⟨hb.os, hb.tape, hb.output, hb.size, fun k hk => hb.block k (by have := XB.out.size; have := HB5.out; omega)⟩)
        clear X5 X6 X7 XB c50 c51 c52
        have X5 := Y5
        have X6 := Y6
        have X7 := Y7
        have XB := YB
        clear Y5 Y6 Y7 YB
        have c50 := blk_cell X5.out 0
        have c51 := blk_cell X5.out 1
        have c52 := blk_cell X5.out 2
        simp only [List.getElem?_toArray, List.getElem?_cons_zero, List.getElem?_cons_succ] at c50 c51 c52
        clear hb
        go_wp2_with fail
        (with_reducible refine (desk_Desk_May.calls 1 p a1 true k true false _ _ (may_no p a1 k false p0 p1 hkk.out)).mono ?_)
        rintro e w8 ⟨rfl, hb⟩
        have Y5 := Aside0.mk (blk_below X5.out hb)
        have Y6 := Aside0.mk (blk_below X6.out hb)
        have Y7 := Aside0.mk (blk_below X7.out hb)
        have YB := Aside0.mk (XB.out.trans ⟨hb.os, hb.tape, hb.output, hb.size, fun k hk => hb.block k (by have := XB.out.size; have := HB5.out; omega)⟩)
        clear X5 X6 X7 XB c50 c51 c52
        have X5 := Y5
        have X6 := Y6
        have X7 := Y7
        have XB := YB
        clear Y5 Y6 Y7 YB
        have c50 := blk_cell X5.out 0
        have c51 := blk_cell X5.out 1
        have c52 := blk_cell X5.out 2
        simp only [List.getElem?_toArray, List.getElem?_cons_zero, List.getElem?_cons_succ] at c50 c51 c52
        clear hb
        go_wp2_with fail
        (with_reducible refine (desk_Desk_May.calls 1 p a1 true k true true _ _ (may_no p a1 k true p0 p1 hkk.out)).mono ?_)
        rintro e w9 ⟨rfl, hb⟩
        have Y5 := Aside0.mk (blk_below X5.out hb)
        have Y6 := Aside0.mk (blk_below X6.out hb)
        have Y7 := Aside0.mk (blk_below X7.out hb)
        have YB := Aside0.mk (XB.out.trans ⟨hb.os, hb.tape, hb.output, hb.size, fun k hk => hb.block k (by have := XB.out.size; have := HB5.out; omega)⟩)
        clear X5 X6 X7 XB c50 c51 c52
        have X5 := Y5
        have X6 := Y6
        have X7 := Y7
        have XB := YB
        clear Y5 Y6 Y7 YB
        have c50 := blk_cell X5.out 0
        have c51 := blk_cell X5.out 1
        have c52 := blk_cell X5.out 2
        simp only [List.getElem?_toArray, List.getElem?_cons_zero, List.getElem?_cons_succ] at c50 c51 c52
        clear hb
        go_wp2_with fail
        go_roundw
        case measure => simp [intOf]; omega
        case rel => exact ⟨k + 1, by omega, by omega, rfl, X5, X6, X7, XB⟩
    · have : k = 4 := by omega
      subst this
      have c60 := blk_cell X6.out 0
      have c61 := blk_cell X6.out 1
      have c62 := blk_cell X6.out 2
      simp only [List.getElem?_toArray, List.getElem?_cons_zero, List.getElem?_cons_succ] at c60 c61 c62
      have c70 := blk_cell X7.out 0
      have c71 := blk_cell X7.out 1
      have c72 := blk_cell X7.out 2
      simp only [List.getElem?_toArray, List.getElem?_cons_zero, List.getElem?_cons_succ] at c70 c71 c72
      go_wp2_with fail
      (with_reducible refine (desk_Desk_Turn.calls p a1 true 1 1 _ _ _ _ (turn_f ..)).mono ?_)
      rintro e w7 ⟨rfl, hb⟩
      have YB := Aside0.mk (XB.out.trans ⟨hb.os, hb.tape, hb.output, hb.size, fun k hk => hb.block k (by have := XB.out.size; have := HB5.out; omega)⟩)
      clear hb XB X5 X6 X7 c50 c51 c52 c60 c61 c62 c70 c71 c72
      go_wp2_with fail
      (with_reducible refine (tollhouselaw23_wakes.calls 1 _ _ wakes_f).mono ?_)
      rintro e w8 ⟨rfl, hb⟩
      have ZB := Aside0.mk (YB.out.trans ⟨hb.os, hb.tape, hb.output, hb.size, fun k hk => hb.block k (by have := YB.out.size; have := HB5.out; omega)⟩)
      clear hb YB
      go_wp2
      go_ret
      exact ⟨rfl, HB5.out ▸ ZB.out⟩

end Go.Proofs.Ytipiooolplgjjaa.BackWalk

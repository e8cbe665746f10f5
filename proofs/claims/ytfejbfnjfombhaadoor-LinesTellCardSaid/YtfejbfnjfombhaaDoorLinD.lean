/- A word is read into a line. -/
import Derived.Test.YtfejbfnjfombhaaDoorLinC
namespace Go.Proofs.YtfejbfnjfombhaaDoor.LinD
open Go.RowKit Go.Sort Go.Shelf Go.Lib Go.Proofs.YtfejbfnjfombhaaDoorW.PrintWords Go.Proofs.YtfejbfnjfombhaaDoorW.PrintLast Go.Proofs.YtfejbfnjfombhaaDoorW.PrintMore Go.Proofs.YtfejbfnjfombhaaDoor.LinA Go.Proofs.YtfejbfnjfombhaaDoor.LinB Go.Proofs.YtfejbfnjfombhaaDoor.LinC
set_option linter.unusedVariables false
set_option linter.unusedSimpArgs false

def lnCells (l : Ln) : Array Value := #[.int .i64 l.verb, .string l.name, .int .i64 l.n, .int .u32 l.till]
theorem readN (w : ByteArray) (l : Ln) : readF 78 w l = if goodL w.data.toList = true then some { l with name := w } else none := by unfold readF; rw [if_pos rfl]
theorem readA (w : ByteArray) (l : Ln) : readF 65 w l = if w.data.toList = [42] then some { l with name := ByteArray.empty } else if goodL w.data.toList = true then some { l with name := w } else none := by
  unfold readF; rw [if_neg (by decide), if_pos rfl]
theorem readC (w : ByteArray) (l : Ln) : readF 67 w l = Option.map (fun u : Nat => ({ l with n := (u : Int) } : Ln)) (numVal w.data.toList) := by
  unfold readF; rw [if_neg (by decide), if_neg (by decide), if_pos rfl]
theorem readU (w : ByteArray) (l : Ln) : readF 85 w l = Option.map (fun u : Nat => ({ l with till := (u : Int) } : Ln)) (numVal w.data.toList) := by
  unfold readF; rw [if_neg (by decide), if_neg (by decide), if_neg (by decide), if_pos rfl]
theorem star_eq (x : ByteArray) : (x.toList == [42]) = decide (x.data.toList = [42]) := by
  rw [toList_data, Bool.eq_iff_iff, beq_iff_eq, decide_eq_true_iff]
def Post (c : UInt8) (l : Ln) (x : ByteArray) (g : Nat) (w : World) (e : Ending) (w' : World) : Prop :=
  ∃ l' : Ln, e = .returned (.bool (readF c x l).isSome) ∧ w'.heap[g]? = some (.cells (lnCells l') 24 (0, 0)) ∧ (∀ m, readF c x l = some m → l' = m) ∧ Below g w w'
theorem below_g {g : Nat} {w w1 w2 : World} (h : Below g w w1) (hg : g < w1.heap.size) (k : Below w1.heap.size w1 w2) : Below g w w2 := below_then h (by omega) k
set_option maxHeartbeats 1000000 in
theorem read_N (l : Ln) (g : Nat) (x : ByteArray) (hs : x.size ≤ 281474976710656) (w : World) (E : Env w) (hg : w.heap[g]? = some (.cells (lnCells l) 24 (0, 0))) :
    Calls Tryd.prog 18 #[.pointer (some ⟨g, 0, none⟩), .int .u8 78, .string x] w (Post 78 l x g w) := by
  have L0 := Aside0.mk hg
  have hlt := Aside0.mk (blk_lt hg)
  clear hg E
  go_enter Tryd.func18, Tryd.ntmps18
  go_wp2_with fail
  have B0 := Aside0.mk ((Below.refl g w).alloc (by have := hlt.out; omega) (.cells #[.string x] 9 (0, 0)))
  have L1 := Aside0.mk (blk_alloc L0.out (.cells #[.string x] 9 (0, 0)))
  have C1 := Aside0.mk (blk_new w (.cells #[.string x] 9 (0, 0)))
  generalize w.alloc (.cells #[.string x] 9 (0, 0)) = w1 at *
  refine (good_any x w.heap.size w1 (by omega) (by rw [blk_cell C1.out 0]; rfl)).mono ?_
  rintro e w2 ⟨rfl, hb⟩
  have B2 := Aside0.mk (below_g B0.out (blk_lt L1.out) hb)
  have L2 := Aside0.mk (blk_below L1.out hb)
  clear hb
  have c1 := blk_cell L2.out 1
  have f1 := blk_frozen L2.out 1
  simp only [lnCells, List.getElem?_toArray, List.getElem?_cons_succ, List.getElem?_cons_zero] at c1
  have HQ := Aside0.mk (readN x l)
  go_wp2_with fail
  go_ret
  refine ⟨{ l with name := x }, ?_, blk_put L2.out 1 _ rfl, ?_, B2.out.setCell (Nat.le_refl _) _⟩
  · rw [HQ.out]; cases goodL x.data.toList <;> rfl
  · intro m hm
    rw [HQ.out] at hm
    split at hm
    · injection hm
    · cases hm
set_option maxHeartbeats 1000000 in
theorem read_A (l : Ln) (g : Nat) (x : ByteArray) (hs : x.size ≤ 281474976710656) (w : World) (E : Env w) (hg : w.heap[g]? = some (.cells (lnCells l) 24 (0, 0))) :
    Calls Tryd.prog 18 #[.pointer (some ⟨g, 0, none⟩), .int .u8 65, .string x] w (Post 65 l x g w) := by
  have L0 := Aside0.mk hg
  have hlt := Aside0.mk (blk_lt hg)
  clear hg E
  go_enter Tryd.func18, Tryd.ntmps18
  go_wp2_with fail
  have B0 := Aside0.mk ((Below.refl g w).alloc (by have := hlt.out; omega) (.cells #[.string x] 9 (0, 0)))
  have L1 := Aside0.mk (blk_alloc L0.out (.cells #[.string x] 9 (0, 0)))
  have C1 := Aside0.mk (blk_new w (.cells #[.string x] 9 (0, 0)))
  generalize w.alloc (.cells #[.string x] 9 (0, 0)) = w1 at *
  refine (good_any x w.heap.size w1 (by omega) (by rw [blk_cell C1.out 0]; rfl)).mono ?_
  rintro e w2 ⟨rfl, hb⟩
  have B2 := Aside0.mk (below_g B0.out (blk_lt L1.out) hb)
  have L2 := Aside0.mk (blk_below L1.out hb)
  clear hb
  have c1 := blk_cell L2.out 1
  have f1 := blk_frozen L2.out 1
  simp only [lnCells, List.getElem?_toArray, List.getElem?_cons_succ, List.getElem?_cons_zero] at c1
  have HQ := Aside0.mk (readA x l)
  have L3 := Aside0.mk (blk_put L2.out 1 (.string x) rfl)
  have c3 := blk_cell L3.out 1
  have f3 := blk_frozen L3.out 1
  simp only [lnCells, List.setIfInBounds_toArray, List.set_cons_succ, List.set_cons_zero, List.getElem?_toArray, List.getElem?_cons_succ, List.getElem?_cons_zero] at c3
  have hs42 := Aside0.mk (star_eq x)
  by_cases q : x.data.toList = [42]
  · have hq : (x.toList == [42]) = true := by rw [hs42.out, decide_eq_true q]
    have HQ2 := Aside0.mk q
    clear q
    go_wp2_with fail
    go_ret
    refine ⟨{ l with name := ByteArray.empty }, ?_, blk_put L3.out 1 _ rfl, ?_, (B2.out.setCell (Nat.le_refl _) _).setCell (Nat.le_refl _) _⟩
    · rw [HQ.out, if_pos HQ2.out]; rfl
    · intro m hm
      rw [HQ.out, if_pos HQ2.out] at hm
      injection hm
  · have hq : (x.toList == [42]) = false := by rw [hs42.out, decide_eq_false q]
    have HQ2 := Aside0.mk q
    clear q
    go_wp2_with fail
    go_ret
    refine ⟨{ l with name := x }, ?_, L3.out, ?_, B2.out.setCell (Nat.le_refl _) _⟩
    · rw [HQ.out, if_neg HQ2.out]; cases goodL x.data.toList <;> rfl
    · intro m hm
      rw [HQ.out, if_neg HQ2.out] at hm
      split at hm
      · injection hm
      · cases hm

set_option maxHeartbeats 1000000 in
theorem read_C (l : Ln) (g : Nat) (x : ByteArray) (hs : x.size ≤ 281474976710656) (w : World) (E : Env w) (hg : w.heap[g]? = some (.cells (lnCells l) 24 (0, 0))) :
    Calls Tryd.prog 18 #[.pointer (some ⟨g, 0, none⟩), .int .u8 67, .string x] w (Post 67 l x g w) := by
  have L0 := Aside0.mk hg
  have HN := Aside0.mk (number_any x hs w E)
  clear hg E
  go_enter Tryd.func18, Tryd.ntmps18
  go_wp2_with fail
  refine HN.out.mono ?_
  rintro e w2 ⟨u, rfl, hu, he, hb⟩
  have hwr : IntKind.u32.wrap (u : Int) = (u : Int) := by rw [IntKind.wrap_u32]; omega
  have B2 := Aside0.mk (below_g (Below.refl g w) (blk_lt L0.out) hb)
  have L2 := Aside0.mk (blk_below L0.out hb)
  have HE := Aside0.mk he
  clear hb he
  have c1 := blk_cell L2.out 2
  have f1 := blk_frozen L2.out 2
  simp only [lnCells, List.getElem?_toArray, List.getElem?_cons_succ, List.getElem?_cons_zero] at c1
  have HQ := Aside0.mk (readC x l)
  go_wp2_with fail
  go_ret
  refine ⟨{ l with n := (u : Int) }, ?_, blk_put L2.out 2 _ rfl, ?_, B2.out.setCell (Nat.le_refl _) _⟩
  · rw [HQ.out]; cases numVal x.data.toList <;> rfl
  · intro m hm
    rw [HQ.out] at hm
    obtain ⟨v, h1, h2⟩ := Option.map_eq_some_iff.1 hm
    rw [HE.out v h1]
    exact h2

set_option maxHeartbeats 1000000 in
theorem read_U (l : Ln) (g : Nat) (x : ByteArray) (hs : x.size ≤ 281474976710656) (w : World) (E : Env w) (hg : w.heap[g]? = some (.cells (lnCells l) 24 (0, 0))) :
    Calls Tryd.prog 18 #[.pointer (some ⟨g, 0, none⟩), .int .u8 85, .string x] w (Post 85 l x g w) := by
  have L0 := Aside0.mk hg
  have HN := Aside0.mk (number_any x hs w E)
  clear hg E
  go_enter Tryd.func18, Tryd.ntmps18
  go_wp2_with fail
  refine HN.out.mono ?_
  rintro e w2 ⟨u, rfl, hu, he, hb⟩
  have hwr : IntKind.u32.wrap (u : Int) = (u : Int) := by rw [IntKind.wrap_u32]; omega
  have B2 := Aside0.mk (below_g (Below.refl g w) (blk_lt L0.out) hb)
  have L2 := Aside0.mk (blk_below L0.out hb)
  have HE := Aside0.mk he
  clear hb he
  have c1 := blk_cell L2.out 3
  have f1 := blk_frozen L2.out 3
  simp only [lnCells, List.getElem?_toArray, List.getElem?_cons_succ, List.getElem?_cons_zero] at c1
  have HQ := Aside0.mk (readU x l)
  go_wp2_with fail
  go_ret
  refine ⟨{ l with till := (u : Int) }, ?_, blk_put L2.out 3 _ rfl, ?_, B2.out.setCell (Nat.le_refl _) _⟩
  · rw [HQ.out]; cases numVal x.data.toList <;> rfl
  · intro m hm
    rw [HQ.out] at hm
    obtain ⟨v, h1, h2⟩ := Option.map_eq_some_iff.1 hm
    rw [HE.out v h1]
    exact h2

theorem read_any (c : UInt8) (hc : c = 78 ∨ c = 65 ∨ c = 67 ∨ c = 85) (l : Ln) (g : Nat) (x : ByteArray) (hs : x.size ≤ 281474976710656) (w : World) (E : Env w) (hg : w.heap[g]? = some (.cells (lnCells l) 24 (0, 0))) :
    Calls Tryd.prog 18 #[.pointer (some ⟨g, 0, none⟩), .int .u8 (c.toNat : Int), .string x] w (Post c l x g w) := by
  rcases hc with rfl | rfl | rfl | rfl
  · exact read_N l g x hs w E hg
  · exact read_A l g x hs w E hg
  · exact read_C l g x hs w E hg
  · exact read_U l g x hs w E hg
end Go.Proofs.YtfejbfnjfombhaaDoor.LinD

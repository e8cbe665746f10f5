/- Blocks of a model's volumes are read, and written. -/
import Derived.Test.YtkppnamblmaokaaDoorModE
namespace Go.Proofs.YtkppnamblmaokaaDoor.ModF
open Go.RowKit Go.Proofs.YtkppnamblmaokaaDoorW.PrintWords Go.Proofs.YtkppnamblmaokaaDoorW.PrintLast Go.Proofs.YtkppnamblmaokaaDoorW.PrintMore Go.Proofs.YtkppnamblmaokaaDoor.ModA Go.Proofs.YtkppnamblmaokaaDoor.ModB Go.Proofs.YtkppnamblmaokaaDoor.ModC Go.Proofs.YtkppnamblmaokaaDoor.ModD Go.Proofs.YtkppnamblmaokaaDoor.ModE
set_option linter.unusedVariables false
set_option linter.unusedSimpArgs false

theorem blkCells_get : ∀ (bs : List (List Int)) (j : Nat), (∀ b ∈ bs, b.length = 32) → (blkCells bs)[j]? = (bs[j / 32]?).bind fun b => (b[j % 32]?).map (Value.int .u8)
  | [], j, _ => by simp [blkCells]
  | b :: bs, j, h => by
    have hb : b.length = 32 := h b (by simp)
    have ih := blkCells_get bs (j - 32) (fun x hx => h x (by simp [hx]))
    show (b.map (Value.int .u8) ++ blkCells bs)[j]? = _
    by_cases c : j < 32
    · rw [List.getElem?_append_left (by simpa [hb] using c), Nat.div_eq_of_lt c, Nat.mod_eq_of_lt c]
      simp
    · rw [List.getElem?_append_right (by simp [hb]; omega)]
      simp only [List.length_map, hb]
      rw [ih]
      have e1 : j / 32 = (j - 32) / 32 + 1 := by omega
      have e2 : j % 32 = (j - 32) % 32 := by omega
      rw [e1, e2]
      simp
theorem blkCells_len (bs : List (List Int)) (h : ∀ b ∈ bs, b.length = 32) : (blkCells bs).length = bs.length * 32 := by
  induction bs with
  | nil => rfl
  | cons b r ih =>
    show (b.map (Value.int .u8) ++ blkCells r).length = _
    rw [List.length_append, ih (fun x hx => h x (by simp [hx])), List.length_map, h b (by simp), List.length_cons]
    omega
theorem blkCells_one (bs : List (List Int)) : ∀ v ∈ blkCells bs, v.oneCell' = true := by
  intro v hv
  simp only [blkCells, List.mem_flatMap, List.mem_map] at hv
  obtain ⟨b, _, n, _, rfl⟩ := hv
  rfl
theorem blk_range {w : World} {g : Nat} {bs : List (List Int)} (hg : w.heap[g]? = some (.cells (blkCells bs).toArray 32 (0, 0))) (h : ∀ b ∈ bs, b.length = 32) {k : Nat} {b : List Int} (hb : bs[k]? = some b) :
    w.rangeAt g (k * 32) (b.map (Value.int .u8)) := by
  intro j v hv
  have hl : b.length = 32 := h b (List.mem_of_getElem? hb)
  have hj : j < 32 := by have := (List.getElem?_eq_some_iff.1 hv).1; simpa [hl] using this
  rw [cell_of_row w g _ _ 32 (0, 0) hg]
  have e1 : (k * 32 + j) / 32 = k := by omega
  have e2 : (k * 32 + j) % 32 = j := by omega
  have := blkCells_get bs (k * 32 + j) h
  rw [e1, e2, hb] at this
  simp at hv ⊢
  rw [this]
  simpa using hv
theorem blk_there {w : World} {g : Nat} {bs : List (List Int)} (hg : w.heap[g]? = some (.cells (blkCells bs).toArray 32 (0, 0))) (h : ∀ b ∈ bs, b.length = 32) {k : Nat} (hk : k < bs.length) : w.there g (k * 32) 32 := by
  intro j hj
  have hl := blkCells_len bs h
  constructor
  · rw [cell_of_row w g _ _ 32 (0, 0) hg]
    have : k * 32 + j < (blkCells bs).length := by rw [hl]; omega
    simp [this]
  · exact blk_frozen hg _

def splice (cur : Array Value) : Nat → List Value → Array Value
  | _, [] => cur
  | o, v :: r => splice (cur.setIfInBounds o v) (o + 1) r
theorem splice_size : ∀ (vs : List Value) (cur : Array Value) (o : Nat), (splice cur o vs).size = cur.size
  | [], _, _ => rfl
  | v :: r, cur, o => by unfold splice; rw [splice_size r]; simp
theorem splice_get : ∀ (vs : List Value) (cur : Array Value) (o j : Nat), o + vs.length ≤ cur.size → (splice cur o vs)[j]? = if o ≤ j ∧ j < o + vs.length then vs[j - o]? else cur[j]?
  | [], cur, o, j, _ => by simp [splice]; intro h1 h2; omega
  | v :: r, cur, o, j, h => by
    simp only [List.length_cons] at h
    unfold splice
    rw [splice_get r _ (o + 1) j (by simp; omega)]
    by_cases c1 : o + 1 ≤ j ∧ j < o + 1 + r.length
    · rw [if_pos c1, if_pos (by simp; omega)]
      have : j - o = (j - (o + 1)) + 1 := by omega
      rw [this]; simp
    · rw [if_neg c1]
      by_cases c2 : j = o
      · subst c2
        rw [if_pos (by simp)]
        have : j < cur.size := by omega
        simp [this]
      · rw [if_neg (by simp; omega), Array.getElem?_setIfInBounds_ne (by omega)]
theorem setCells_heap (b : Nat) : ∀ (vs : List Value) (o : Nat) (w : World) (cur : Array Value) (t : TypeId), w.heap[b]? = some (.cells cur t (0, 0)) → (w.setCells b o vs).heap[b]? = some (.cells (splice cur o vs) t (0, 0))
  | [], _, _, _, _, h => h
  | v :: r, o, w, cur, t, h => setCells_heap b r (o + 1) _ _ t (blk_set h o v)
theorem setCells_other (b : Nat) : ∀ (vs : List Value) (o : Nat) (w : World) (k : Nat), k ≠ b → (w.setCells b o vs).heap[k]? = w.heap[k]?
  | [], _, _, _, _ => rfl
  | v :: r, o, w, k, h => (setCells_other b r (o + 1) _ k h).trans (Below.heap_setCell w ⟨b, o, none⟩ v k h)
theorem setCells_below {B b : Nat} {w : World} (hb : B ≤ b) : ∀ (vs : List Value) (o : Nat) (W : World), Below B w W → Below B w (W.setCells b o vs)
  | [], _, _, h => h
  | v :: r, o, W, h => setCells_below hb r (o + 1) _ (h.setCell hb _)
theorem splice_blk (bs : List (List Int)) (h : ∀ b ∈ bs, b.length = 32) (k : Nat) (hk : k < bs.length) (d : List Int) (hd : d.length = 32) :
    splice (blkCells bs).toArray (k * 32) (d.map (Value.int .u8)) = (blkCells (bs.set k d)).toArray := by
  have hl := blkCells_len bs h
  have hset : ∀ b ∈ bs.set k d, b.length = 32 := fun b hb => by
    rcases List.mem_or_eq_of_mem_set hb with hb | rfl
    · exact h b hb
    · exact hd
  have hl2 := blkCells_len (bs.set k d) hset
  apply Array.ext_getElem?
  intro j
  rw [splice_get _ _ _ _ (by simp [hl, hd]; omega)]
  simp only [List.length_map, hd, List.getElem?_toArray]
  rw [blkCells_get _ _ hset]
  by_cases c : k * 32 ≤ j ∧ j < k * 32 + 32
  · rw [if_pos c]
    have e1 : j / 32 = k := by omega
    have e2 : j % 32 = j - k * 32 := by omega
    rw [e1, e2, List.getElem?_set_self hk]
    simp
  · rw [if_neg c, blkCells_get _ _ h, List.getElem?_set_ne (by omega)]

set_option maxHeartbeats 1000000 in
theorem read_err {base : Nat} {w : World} {mb : Nat} {L : List Vol} {gs : List Nat} {v : Value} (r : Rep base w mb L gs v) (name : ByteArray) (at_ e : Int) (he : e ≠ 0)
    (hc : Calls Tryd.prog 33 #[.pointer (some ⟨mb, 0, none⟩), .string name, .int .i64 at_] (w.alloc (.cells (fillN 0 0) 32 (0, 0))) fun r w' => r = .returned (.tuple #[.pointer none, .int .i64 e]) ∧ Below (w.alloc (.cells (fillN 0 0) 32 (0, 0))).heap.size (w.alloc (.cells (fillN 0 0) 32 (0, 0))) w') :
    Calls Tryd.prog 16 #[.pointer (some ⟨mb, 0, none⟩), .string name, .int .i64 at_] w fun r w' => r = .returned (.tuple #[.agg (fillN 0 0), .int .i64 e]) ∧ Below w.heap.size w w' := by
  have HC := Aside0.mk hc
  have BL := Aside0.mk (below_alloc (Below.refl w.heap.size w) (.cells (fillN 0 0) 32 (0, 0)))
  have B6 := Aside0.mk (blk_new w (.cells (fillN 0 0) 32 (0, 0)))
  have heb : (e == 0) = false := by simp [he]
  have hen : (e != 0) = true := by simp [he]
  clear hc r he
  go_enter Tryd.func16, Tryd.ntmps16
  go_wp2_with fail
  rw [← zeros32]
  refine HC.out.mono ?_
  rintro r w1 ⟨rfl, hb⟩
  have B6' := Aside0.mk (blk_below B6.out hb)
  have BL' := Aside0.mk (below_step BL.out hb)
  clear hb
  go_wp2_with (refine wpList_store_row rfl 32 _ _ rfl w.heap.size (fillN 0 0) rfl rfl 32 (fillN 0 0) B6'.out (by kernel_rfl) rfl (fillN_one 0 0) ?_)
  refine bodyPost_ret (results_ct rfl _ _ w.heap.size 32 (fillN 0 0) (0, 0) _ rfl (setRow_heap w1 w.heap.size (fillN 0 0) (fillN 0 0) 32 (0, 0) B6'.out) Tryd.underlying32 rfl (by kernel_rfl)) rfl ⟨rfl, ?_⟩
  exact below_setRow BL'.out (Nat.le_refl _) _

theorem rep_alloc {base : Nat} {w : World} {mb : Nat} {L : List Vol} {gs : List Nat} {v : Value} (r : Rep base w mb L gs v) (o : Obj) : Rep base (w.alloc o) mb L gs v :=
  r.below (below_alloc (Below.refl _ _) o)
def blkArr (b : List Int) : Array Value := (b.map (Value.int .u8)).toArray
theorem blkArr_size (b : List Int) : (blkArr b).size = b.length := by simp [blkArr]
theorem blkArr_one (b : List Int) : (blkArr b).all (·.oneCell') = true := by
  rw [Array.all_eq_true_iff_forall_mem]
  intro x hx
  simp only [blkArr, List.mem_toArray, List.mem_map] at hx
  obtain ⟨j, _, rfl⟩ := hx
  rfl

set_option maxHeartbeats 1000000 in
theorem read_ok {base : Nat} {w : World} {mb : Nat} {L : List Vol} {gs : List Nat} {v : Value} (r : Rep base w mb L gs v) (name : ByteArray) (k i : Nat) (x : Vol) (g : Nat) (b : List Int)
    (hi : idx name (L.map (·.name)) = i) (hx : L[i]? = some x) (hg : gs[i]? = some g) (hb : x.blocks[k]? = some b) :
    Calls Tryd.prog 16 #[.pointer (some ⟨mb, 0, none⟩), .string name, .int .i64 k] w fun r w' => r = .returned (.tuple #[.agg (blkArr b), .int .i64 0]) ∧ Below w.heap.size w w' := by
  have hk : k < x.blocks.length := (List.getElem?_eq_some_iff.1 hb).1
  have hc := block_some (rep_alloc r (.cells (fillN 0 0) 32 (0, 0))) name k i x g hi hx hg
  rw [if_neg (by omega), Int.toNat_natCast] at hc
  have HC := Aside0.mk hc
  have hsz := (r.size i x hx).2
  have HR := Aside0.mk (blk_range (blk_alloc (r.blk i x g hx hg).2 (.cells (fillN 0 0) 32 (0, 0))) hsz hb)
  have hl : (b.map (Value.int .u8)).length = 32 := by rw [List.length_map]; exact hsz b (List.mem_of_getElem? hb)
  have HL := Aside0.mk hl
  have BL := Aside0.mk (below_alloc (Below.refl w.heap.size w) (.cells (fillN 0 0) 32 (0, 0)))
  have B6 := Aside0.mk (blk_new w (.cells (fillN 0 0) 32 (0, 0)))
  clear hc r hsz hl hi hx hg hb hk
  go_enter Tryd.func16, Tryd.ntmps16
  go_wp2_with fail
  rw [← zeros32]
  refine HC.out.mono ?_
  rintro r w1 ⟨rfl, hb⟩
  have B6' := Aside0.mk (blk_below B6.out hb)
  have BL' := Aside0.mk (below_step BL.out hb)
  have HR' : Aside0 (w1.rangeAt g (k * 32) (b.map (Value.int .u8))) := ⟨fun j u hu => pw_cell_below hb (HR.out j u hu)⟩
  clear hb
  go_wp2_with (first | (refine wpList_load_mid rfl 32 _ rfl g (k * 32) rfl (b.map (Value.int .u8)) _ HR'.out Tryd.underlying32 rfl (by rw [HL.out]; kernel_rfl) ?_) | (refine wpList_store_row rfl 32 _ _ rfl w.heap.size (blkArr b) rfl rfl 32 (fillN 0 0) B6'.out (by rw [blkArr_size, ← List.length_map (f := Value.int .u8), HL.out]; kernel_rfl) (by rw [blkArr_size, ← List.length_map (f := Value.int .u8), HL.out]; exact fillN_size 0 0) (blkArr_one b) ?_))
  refine bodyPost_ret (results_ct rfl _ _ w.heap.size 32 (blkArr b) (0, 0) _ rfl (setRow_heap w1 w.heap.size (fillN 0 0) (blkArr b) 32 (0, 0) B6'.out) Tryd.underlying32 rfl (by rw [blkArr_size, ← List.length_map (f := Value.int .u8), HL.out]; kernel_rfl)) rfl ⟨rfl, ?_⟩
  exact below_setRow BL'.out (Nat.le_refl _) _

set_option maxHeartbeats 1000000 in
theorem write_err {base : Nat} {w : World} {mb : Nat} {L : List Vol} {gs : List Nat} {v : Value} (r : Rep base w mb L gs v) (name : ByteArray) (at_ e : Int) (d : Array Value) (he : e ≠ 0)
    (hc : Calls Tryd.prog 33 #[.pointer (some ⟨mb, 0, none⟩), .string name, .int .i64 at_] (w.alloc (.cells d 32 (0, 0))) fun r w' => r = .returned (.tuple #[.pointer none, .int .i64 e]) ∧ Below (w.alloc (.cells d 32 (0, 0))).heap.size (w.alloc (.cells d 32 (0, 0))) w') :
    Calls Tryd.prog 15 #[.pointer (some ⟨mb, 0, none⟩), .string name, .int .i64 at_, .agg d] w fun r w' => r = .returned (.int .i64 e) ∧ Below w.heap.size w w' := by
  have HC := Aside0.mk hc
  have BL := Aside0.mk (below_alloc (Below.refl w.heap.size w) (.cells d 32 (0, 0)))
  have heb : (e == 0) = false := by simp [he]
  clear hc r he
  go_enter Tryd.func15, Tryd.ntmps15
  go_wp2_with fail
  refine HC.out.mono ?_
  rintro r w1 ⟨rfl, hb⟩
  have BL' := Aside0.mk (below_step BL.out hb)
  clear hb
  go_wp2
  go_ret
  exact ⟨rfl, BL'.out⟩

end Go.Proofs.YtkppnamblmaokaaDoor.ModF

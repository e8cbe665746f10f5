/- Two volumes of five blocks: what is asked of them, in plain lists. -/
import Derived.Test.YtkppnamblmaokaaDoorModT
namespace Go.Proofs.YtkppnamblmaokaaDoor.ModV
open Go.RowKit Go.Proofs.YtkppnamblmaokaaDoorW.PrintWords Go.Proofs.YtkppnamblmaokaaDoorW.PrintLast Go.Proofs.YtkppnamblmaokaaDoorW.PrintMore Go.Proofs.YtkppnamblmaokaaDoor.ModA Go.Proofs.YtkppnamblmaokaaDoor.ModB Go.Proofs.YtkppnamblmaokaaDoor.ModC Go.Proofs.YtkppnamblmaokaaDoor.ModD Go.Proofs.YtkppnamblmaokaaDoor.ModE Go.Proofs.YtkppnamblmaokaaDoor.ModF Go.Proofs.YtkppnamblmaokaaDoor.ModG Go.Proofs.YtkppnamblmaokaaDoor.ModH Go.Proofs.YtkppnamblmaokaaDoor.ModI Go.Proofs.YtkppnamblmaokaaDoor.ModJ Go.Proofs.YtkppnamblmaokaaDoor.ModK Go.Proofs.YtkppnamblmaokaaDoor.ModL Go.Proofs.YtkppnamblmaokaaDoor.ModN Go.Proofs.YtkppnamblmaokaaDoor.ModO Go.Proofs.YtkppnamblmaokaaDoor.ModP Go.Proofs.YtkppnamblmaokaaDoor.ModQ Go.Proofs.YtkppnamblmaokaaDoor.ModR Go.Proofs.YtkppnamblmaokaaDoor.ModS Go.Proofs.YtkppnamblmaokaaDoor.ModT
set_option linter.unusedVariables false
set_option linter.unusedSimpArgs false

theorem blk_range_t {t : TypeId} {w : World} {g : Nat} {bs : List (List Int)} (hg : w.heap[g]? = some (.cells (blkCells bs).toArray t (0, 0))) (h : ∀ b ∈ bs, b.length = 32) {k : Nat} {b : List Int} (hb : bs[k]? = some b) :
    w.rangeAt g (k * 32) (b.map (Value.int .u8)) := by
  intro j v hv
  have hl : b.length = 32 := h b (List.mem_of_getElem? hb)
  have hj : j < 32 := by have := (List.getElem?_eq_some_iff.1 hv).1; simpa [hl] using this
  rw [cell_of_row w g _ _ t (0, 0) hg]
  have e1 : (k * 32 + j) / 32 = k := by omega
  have e2 : (k * 32 + j) % 32 = j := by omega
  have := blkCells_get bs (k * 32 + j) h
  rw [e1, e2, hb] at this
  simp at hv ⊢
  rw [this]
  simpa using hv
theorem blk_there_t {t : TypeId} {w : World} {g : Nat} {bs : List (List Int)} (hg : w.heap[g]? = some (.cells (blkCells bs).toArray t (0, 0))) (h : ∀ b ∈ bs, b.length = 32) {k : Nat} (hk : k < bs.length) : w.there g (k * 32) 32 := by
  intro j hj
  have hl := blkCells_len bs h
  constructor
  · rw [cell_of_row w g _ _ t (0, 0) hg]
    have : k * 32 + j < (blkCells bs).length := by rw [hl]; omega
    simp [this]
  · exact blk_frozen hg _

def modF (n m : Int) : Int := ((n.tmod m) + m).tmod m
theorem tmod5 (n : Int) : -5 < n.tmod 5 ∧ n.tmod 5 < 5 := by
  rcases Int.le_total 0 n with h | h
  · rw [Int.tmod_eq_emod_of_nonneg h]; omega
  · have : n.tmod 5 = -((-n).tmod 5) := by rw [Int.neg_tmod]; simp
    rw [this, Int.tmod_eq_emod_of_nonneg (by omega)]; omega
theorem mod_five (n : Int) : ∃ k : Nat, k < 5 ∧ modF n 5 = k := by
  have h := tmod5 n
  unfold modF
  rw [Int.tmod_eq_emod_of_nonneg (by omega)]
  exact ⟨((n.tmod 5 + 5) % 5).toNat, by omega, by omega⟩
set_option maxHeartbeats 400000 in
theorem mod_any (n : Int) (w : World) : Calls Tryd.prog 22 #[.int .i64 n, .int .i64 5] w fun e w' => (∃ k : Nat, k < 5 ∧ e = .returned (.int .i64 k)) ∧ w' = w := by
  obtain ⟨k, hk, he⟩ := mod_five n
  have HE := Aside0.mk he
  have h5 := tmod5 n
  have HM : Aside0 (modF n 5 = (n.tmod 5 + 5) % 5) := ⟨by unfold modF; rw [Int.tmod_eq_emod_of_nonneg (show 0 ≤ n.tmod 5 + 5 by omega)]⟩
  have hw : Go.RowKit.wrap64 (n.tmod 5) = n.tmod 5 := by unfold Go.RowKit.wrap64; omega
  go_enter Tryd.func22, Tryd.ntmps22
  go_wp2
  go_ret
  refine ⟨⟨k, hk, ?_⟩, rfl⟩
  rw [← HE.out]
  rw [HM.out]
  rfl

def nv : ByteArray := ⟨#[118]⟩
def nw : ByteArray := ⟨#[119]⟩
def modelOf (W : List (List Int)) : List Vol := [⟨⟨#[118]⟩, W.take 3⟩, ⟨⟨#[119]⟩, W.drop 3⟩]
theorem five {α : Type} {W : List α} (h : W.length = 5) : ∃ a b c d e, W = [a, b, c, d, e] := by
  match W, h with
  | [a, b, c, d, e], _ => exact ⟨a, b, c, d, e, rfl⟩
theorem v_three (a b c d e : List Int) : ix (modelOf [a, b, c, d, e]) ⟨#[118]⟩ = 0 ∧ ix (modelOf [a, b, c, d, e]) ⟨#[119]⟩ = 1 := ⟨by kernel_rfl, by kernel_rfl⟩
theorem vol_v (a b c d e : List Int) : volOf (modelOf [a, b, c, d, e]) ⟨#[118]⟩ = ⟨⟨#[118]⟩, [a, b, c]⟩ ∧ volOf (modelOf [a, b, c, d, e]) ⟨#[119]⟩ = ⟨⟨#[119]⟩, [d, e]⟩ := ⟨by kernel_rfl, by kernel_rfl⟩
theorem at_v (a b c d e : List Int) (k : Nat) (h : k < 3) : atRes (modelOf [a, b, c, d, e]) ⟨#[118]⟩ k = 0 := by
  unfold atRes
  rw [(v_three a b c d e).1, (vol_v a b c d e).1, if_neg (by omega), if_neg (by simp; omega)]
theorem at_w (a b c d e : List Int) (k : Nat) (h : k < 2) : atRes (modelOf [a, b, c, d, e]) ⟨#[119]⟩ k = 0 := by
  unfold atRes
  rw [(v_three a b c d e).2, (vol_v a b c d e).2, if_neg (by omega), if_neg (by simp; omega)]
theorem write_v {W : List (List Int)} (hW : W.length = 5) (k : Nat) (h : k < 3) (x : List Int) : atRes (modelOf W) ⟨#[118]⟩ k = 0 ∧ writeL (modelOf W) ⟨#[118]⟩ k x = modelOf (W.set k x) ∧ readVal (modelOf W) ⟨#[118]⟩ k = W.getD k zero32 := by
  obtain ⟨a, b, c, d, e, rfl⟩ := five hW
  have h0 := at_v a b c d e k h
  refine ⟨h0, ?_, ?_⟩
  · unfold writeL
    rw [if_pos h0, (v_three a b c d e).1, (vol_v a b c d e).1]
    match k, h with
    | 0, _ => rfl
    | 1, _ => rfl
    | 2, _ => rfl
  · unfold readVal
    rw [if_pos h0, (vol_v a b c d e).1]
    match k, h with
    | 0, _ => rfl
    | 1, _ => rfl
    | 2, _ => rfl
theorem write_w {W : List (List Int)} (hW : W.length = 5) (k : Nat) (h : k < 2) (x : List Int) : atRes (modelOf W) ⟨#[119]⟩ k = 0 ∧ writeL (modelOf W) ⟨#[119]⟩ k x = modelOf (W.set (k + 3) x) ∧ readVal (modelOf W) ⟨#[119]⟩ k = W.getD (k + 3) zero32 := by
  obtain ⟨a, b, c, d, e, rfl⟩ := five hW
  have h0 := at_w a b c d e k h
  refine ⟨h0, ?_, ?_⟩
  · unfold writeL
    rw [if_pos h0, (v_three a b c d e).2, (vol_v a b c d e).2]
    match k, h with
    | 0, _ => rfl
    | 1, _ => rfl
  · unfold readVal
    rw [if_pos h0, (vol_v a b c d e).2]
    match k, h with
    | 0, _ => rfl
    | 1, _ => rfl
/-- The model behind: the first volume gone, and made anew. -/
def modelEnd (W : List (List Int)) : List Vol := [⟨⟨#[119]⟩, W.drop 3⟩, ⟨⟨#[118]⟩, [zero32, zero32, zero32, zero32]⟩]
theorem gone_v {W : List (List Int)} (hW : W.length = 5) : goneRes (modelOf W) ⟨#[118]⟩ = 0 ∧ goneL (modelOf W) ⟨#[118]⟩ = [⟨⟨#[119]⟩, W.drop 3⟩] := by
  obtain ⟨a, b, c, d, e, rfl⟩ := five hW
  exact ⟨by kernel_rfl, by kernel_rfl⟩
theorem good_v : goodName ⟨#[118]⟩ = true := by kernel_rfl
theorem good_w : goodName ⟨#[119]⟩ = true := by kernel_rfl
theorem make_v {W : List (List Int)} (hW : W.length = 5) : makeRes [⟨⟨#[119]⟩, W.drop 3⟩] ⟨#[118]⟩ 4 = 0 ∧ makeL [⟨⟨#[119]⟩, W.drop 3⟩] ⟨#[118]⟩ 4 = modelEnd W := by
  obtain ⟨a, b, c, d, e, rfl⟩ := five hW
  have h0 : makeRes [⟨⟨#[119]⟩, List.drop 3 [a, b, c, d, e]⟩] ⟨#[118]⟩ 4 = 0 := by kernel_rfl
  exact ⟨h0, by unfold makeL; rw [if_pos h0]; rfl⟩
theorem free_end {W : List (List Int)} (hW : W.length = 5) : freeOf (modelEnd W) = 5 := by
  obtain ⟨a, b, c, d, e, rfl⟩ := five hW
  rfl
theorem read_end {W : List (List Int)} (hW : W.length = 5) (k : Nat) (h : k < 4) : atRes (modelEnd W) ⟨#[118]⟩ k = 0 ∧ readVal (modelEnd W) ⟨#[118]⟩ k = zero32 := by
  obtain ⟨a, b, c, d, e, rfl⟩ := five hW
  match k, h with
  | 0, _ => exact ⟨by kernel_rfl, by kernel_rfl⟩
  | 1, _ => exact ⟨by kernel_rfl, by kernel_rfl⟩
  | 2, _ => exact ⟨by kernel_rfl, by kernel_rfl⟩
  | 3, _ => exact ⟨by kernel_rfl, by kernel_rfl⟩
theorem read_last {W : List (List Int)} (hW : W.length = 5) : atRes (modelEnd W) ⟨#[119]⟩ 1 = 0 ∧ readVal (modelEnd W) ⟨#[119]⟩ 1 = W.getD 4 zero32 := by
  obtain ⟨a, b, c, d, e, rfl⟩ := five hW
  exact ⟨by kernel_rfl, by kernel_rfl⟩
def zeros5 : List (List Int) := [zero32, zero32, zero32, zero32, zero32]
theorem make_1 : makeRes [] ⟨#[118]⟩ 3 = 0 ∧ makeL [] ⟨#[118]⟩ 3 = [newVol ⟨#[118]⟩ 3] := ⟨by kernel_rfl, by kernel_rfl⟩
theorem make_2 : makeRes [newVol ⟨#[118]⟩ 3] ⟨#[119]⟩ 2 = 0 ∧ makeL [newVol ⟨#[118]⟩ 3] ⟨#[119]⟩ 2 = modelOf zeros5 := ⟨by kernel_rfl, by kernel_rfl⟩

end Go.Proofs.YtkppnamblmaokaaDoor.ModV

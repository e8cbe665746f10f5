/- A model's calls, each told by one contract: what is answered, and the model then. -/
import Derived.Test.YtkppnamblmaokaaDoorModR
import Derived.Test.YtkppnamblmaokaaDoorModL
namespace Go.Proofs.YtkppnamblmaokaaDoor.ModS
open Go.RowKit Go.Proofs.YtkppnamblmaokaaDoorW.PrintWords Go.Proofs.YtkppnamblmaokaaDoorW.PrintLast Go.Proofs.YtkppnamblmaokaaDoorW.PrintMore Go.Proofs.YtkppnamblmaokaaDoor.ModA Go.Proofs.YtkppnamblmaokaaDoor.ModB Go.Proofs.YtkppnamblmaokaaDoor.ModC Go.Proofs.YtkppnamblmaokaaDoor.ModD Go.Proofs.YtkppnamblmaokaaDoor.ModE Go.Proofs.YtkppnamblmaokaaDoor.ModF Go.Proofs.YtkppnamblmaokaaDoor.ModG Go.Proofs.YtkppnamblmaokaaDoor.ModH Go.Proofs.YtkppnamblmaokaaDoor.ModI Go.Proofs.YtkppnamblmaokaaDoor.ModJ Go.Proofs.YtkppnamblmaokaaDoor.ModK Go.Proofs.YtkppnamblmaokaaDoor.ModL Go.Proofs.YtkppnamblmaokaaDoor.ModN Go.Proofs.YtkppnamblmaokaaDoor.ModO Go.Proofs.YtkppnamblmaokaaDoor.ModP Go.Proofs.YtkppnamblmaokaaDoor.ModQ
set_option linter.unusedVariables false
set_option linter.unusedSimpArgs false

def ix (L : List Vol) (name : ByteArray) : Int := idx name (L.map (·.name))
theorem ix_lt (L : List Vol) (name : ByteArray) : ix L name < L.length := by
  have := idx_lt name (L.map (·.name))
  simpa [ix] using this
def makeL (L : List Vol) (name : ByteArray) (n : Int) : List Vol := if makeRes L name n = 0 then L ++ [newVol name n.toNat] else L
def goneRes (L : List Vol) (name : ByteArray) : Int := if ix L name < 0 then 16 else 0
def goneL (L : List Vol) (name : ByteArray) : List Vol := if ix L name < 0 then L else L.eraseIdx (ix L name).toNat
def volOf (L : List Vol) (name : ByteArray) : Vol := L.getD (ix L name).toNat ⟨name, []⟩
/-- Why a block is not there; 0: it is. -/
def atRes (L : List Vol) (name : ByteArray) (at_ : Int) : Int :=
  if ix L name < 0 then 16 else if at_ < 0 ∨ ((volOf L name).blocks.length : Int) ≤ at_ then 17 else 0
def writeL (L : List Vol) (name : ByteArray) (at_ : Int) (d : List Int) : List Vol :=
  if atRes L name at_ = 0 then setBlk L (ix L name).toNat at_.toNat (volOf L name) d else L
def readVal (L : List Vol) (name : ByteArray) (at_ : Int) : List Int :=
  if atRes L name at_ = 0 then (volOf L name).blocks.getD at_.toNat zero32 else zero32
theorem zero_blk : fillN 0 0 = blkArr zero32 := by kernel_rfl

theorem at_ok {L : List Vol} {name : ByteArray} {at_ : Int} (h : atRes L name at_ = 0) :
    ∃ i k : Nat, ix L name = i ∧ at_ = k ∧ L[i]? = some (volOf L name) ∧ k < (volOf L name).blocks.length := by
  unfold atRes at h
  split at h
  · omega
  · split at h
    · omega
    · rename_i h1 h2
      have hl := ix_lt L name
      obtain ⟨i, hi⟩ := Int.eq_ofNat_of_zero_le (show 0 ≤ ix L name by omega)
      obtain ⟨k, rfl⟩ := Int.eq_ofNat_of_zero_le (show 0 ≤ at_ by omega)
      refine ⟨i, k, hi, rfl, ?_, by omega⟩
      have hlt : i < L.length := by omega
      unfold volOf
      simp [hi, hlt]
theorem at_no {L : List Vol} {name : ByteArray} {at_ : Int} (h : atRes L name at_ ≠ 0) :
    (ix L name < 0 ∧ atRes L name at_ = 16) ∨ ∃ i : Nat, ix L name = i ∧ L[i]? = some (volOf L name) ∧ (at_ < 0 ∨ ((volOf L name).blocks.length : Int) ≤ at_) ∧ atRes L name at_ = 17 := by
  unfold atRes at h ⊢
  split at h
  · rename_i h1
    exact .inl ⟨h1, by rw [if_pos h1]⟩
  · split at h
    · rename_i h1 h2
      have hl := ix_lt L name
      obtain ⟨i, hi⟩ := Int.eq_ofNat_of_zero_le (show 0 ≤ ix L name by omega)
      refine .inr ⟨i, hi, ?_, h2, by rw [if_neg h1, if_pos h2]⟩
      have hlt : i < L.length := by omega
      unfold volOf
      simp [hi, hlt]
    · omega

/-- What was there is written in F alone; what is held then lies in F, or is new. -/
structure Moves (F F' : List Nat) (w w' : World) : Prop where
  touch : ModG.Touch F w w'
  new : ∀ k ∈ F', k ∈ F ∨ w.heap.size ≤ k
theorem Moves.of_below {F : List Nat} {w w' : World} (h : Below w.heap.size w w') : Moves F F w w' := ⟨.of_below h, fun _ h => .inl h⟩
theorem Moves.trans {F F1 F2 : List Nat} {w w1 w2 : World} (h : Moves F F1 w w1) (k : Moves F1 F2 w1 w2) : Moves F F2 w w2 :=
  ⟨⟨k.touch.os.trans h.touch.os, k.touch.tape.trans h.touch.tape, k.touch.output.trans h.touch.output, Nat.le_trans h.touch.size k.touch.size, fun i hi hn => by
      refine (k.touch.block i (Nat.lt_of_lt_of_le hi h.touch.size) (fun hm => ?_)).trans (h.touch.block i hi hn)
      rcases h.new i hm with h1 | h1
      · exact hn h1
      · omega⟩,
    fun i hi => by
      rcases k.new i hi with h1 | h1
      · exact h.new i h1
      · exact .inr (Nat.le_trans h.touch.size h1)⟩
theorem Moves.below {F F' : List Nat} {w w' : World} {base : Nat} (h : Moves F F' w w') (hb : ∀ k ∈ F, base ≤ k) (hw : base ≤ w.heap.size) : Below base w w' := h.touch.below hb hw

section
variable {base : Nat} {w : World} {mb : Nat} {L : List Vol} {gs : List Nat} {v : Value}
theorem make_any (r : Rep base w mb L gs v) (name : ByteArray) (n : Int) (hs : name.size ≤ 9223372036854775807) :
    Calls Tryd.prog 10 #[.pointer (some ⟨mb, 0, none⟩), .string name, .int .i64 n] w fun e w' => e = .returned (.int .i64 (makeRes L name n)) ∧ ∃ gs' v', Rep base w' mb (makeL L name n) gs' v' ∧ Moves (foot mb gs v) (foot mb gs' v') w w' := by
  by_cases he : makeRes L name n = 0
  · have hd := he
    unfold makeRes at hd
    split at hd
    · omega
    split at hd
    · omega
    split at hd
    · omega
    split at hd
    · omega
    rename_i h1 h2 h3 h4
    obtain ⟨k, rfl⟩ := Int.eq_ofNat_of_zero_le (show 0 ≤ n by omega)
    refine (make_ok r name k hs (by simpa using h1) (by omega) (by omega) (by omega) (by omega) (by omega)).mono ?_
    rintro e w' ⟨rfl, g, v', R, hg, hv, hT⟩
    refine ⟨by rw [he], gs ++ [g], v', ?_, hT, ?_⟩
    · unfold makeL; rw [if_pos he, Int.toNat_natCast]; exact R
    · intro j hj
      simp only [foot, List.mem_cons, List.mem_append, Option.mem_toList, List.not_mem_nil, or_false] at hj
      rcases hj with rfl | (hj | rfl) | hj
      · exact .inl (by simp [foot])
      · exact .inl (by simp [foot, hj])
      · exact .inr hg
      · rcases hv j hj with h | h
        · exact .inl (by simp [foot, h])
        · exact .inr h
  · refine (make_err r name n hs he).mono ?_
    rintro e w' ⟨rfl, hb⟩
    exact ⟨rfl, gs, v, by unfold makeL; rw [if_neg he]; exact r.below hb, .of_below hb⟩
theorem gone_any (r : Rep base w mb L gs v) (name : ByteArray) :
    Calls Tryd.prog 12 #[.pointer (some ⟨mb, 0, none⟩), .string name] w fun e w' => e = .returned (.int .i64 (goneRes L name)) ∧ ∃ gs' v', Rep base w' mb (goneL L name) gs' v' ∧ Moves (foot mb gs v) (foot mb gs' v') w w' := by
  by_cases hi : ix L name < 0
  · refine (gone_err r name hi).mono ?_
    rintro e w' ⟨rfl, hb⟩
    exact ⟨by unfold goneRes; rw [if_pos hi], gs, v, by unfold goneL; rw [if_pos hi]; exact r.below hb, .of_below hb⟩
  · obtain ⟨i, hi'⟩ := Int.eq_ofNat_of_zero_le (show 0 ≤ ix L name by omega)
    refine (gone_ok r name i hi').mono ?_
    rintro e w' ⟨rfl, v', R, hv, hT⟩
    refine ⟨by unfold goneRes; rw [if_neg hi], gs.eraseIdx i, v', by unfold goneL; rw [if_neg hi, hi', Int.toNat_natCast]; exact R, hT, ?_⟩
    intro j hj
    simp only [foot, List.mem_cons, List.mem_append, Option.mem_toList] at hj
    rcases hj with rfl | hj | hj
    · exact .inl (by simp [foot])
    · exact .inl (by simp [foot, (List.eraseIdx_sublist gs i).subset hj])
    · exact .inl (by rw [hv] at hj; simp [foot, hj])
theorem block_no17 (r : Rep base w mb L gs v) (name : ByteArray) (at_ : Int) (he : atRes L name at_ ≠ 0) :
    Calls Tryd.prog 33 #[.pointer (some ⟨mb, 0, none⟩), .string name, .int .i64 at_] w fun e w' => e = .returned (.tuple #[.pointer none, .int .i64 (atRes L name at_)]) ∧ Below w.heap.size w w' := by
  rcases at_no he with ⟨h, e⟩ | ⟨i, hi, hx, h, e⟩
  · rw [e]
    exact block_no r name at_ h
  · have hil : i < L.length := (List.getElem?_eq_some_iff.1 hx).1
    have hg : gs[i]? = some (gs[i]'(by rw [r.len]; exact hil)) := by simp
    have := block_some r name at_ i (volOf L name) _ hi hx hg
    rw [if_pos h] at this
    rw [e]
    exact this
theorem write_any (r : Rep base w mb L gs v) (name : ByteArray) (at_ : Int) (d : List Int) (hd : d.length = 32) :
    Calls Tryd.prog 15 #[.pointer (some ⟨mb, 0, none⟩), .string name, .int .i64 at_, .agg (blkArr d)] w fun e w' => e = .returned (.int .i64 (atRes L name at_)) ∧ Rep base w' mb (writeL L name at_ d) gs v ∧ Moves (foot mb gs v) (foot mb gs v) w w' := by
  by_cases he : atRes L name at_ = 0
  · obtain ⟨i, k, hi, rfl, hx, hk⟩ := at_ok he
    have hil : i < L.length := (List.getElem?_eq_some_iff.1 hx).1
    have hg : gs[i]? = some (gs[i]'(by rw [r.len]; exact hil)) := by simp
    refine (write_ok r name k i (volOf L name) _ d hi hx hg hk hd).mono ?_
    rintro e w' ⟨rfl, R, hT⟩
    refine ⟨by rw [he], by unfold writeL; rw [if_pos he, hi, Int.toNat_natCast, Int.toNat_natCast]; exact R, hT.mono (fun j _ hj => ?_), fun _ h => .inl h⟩
    have e : j = gs[i]'(by rw [r.len]; exact hil) := by simpa using hj
    have := List.getElem_mem (l := gs) (n := i) (by rw [r.len]; exact hil)
    rw [← e] at this
    simp [foot, this]
  · refine (write_err r name at_ _ (blkArr d) he (block_no17 (rep_alloc r _) name at_ he)).mono ?_
    rintro e w' ⟨rfl, hb⟩
    exact ⟨rfl, by unfold writeL; rw [if_neg he]; exact r.below hb, .of_below hb⟩
theorem read_any (r : Rep base w mb L gs v) (name : ByteArray) (at_ : Int) :
    Calls Tryd.prog 16 #[.pointer (some ⟨mb, 0, none⟩), .string name, .int .i64 at_] w fun e w' => e = .returned (.tuple #[.agg (blkArr (readVal L name at_)), .int .i64 (atRes L name at_)]) ∧ Below w.heap.size w w' := by
  by_cases he : atRes L name at_ = 0
  · obtain ⟨i, k, hi, rfl, hx, hk⟩ := at_ok he
    have hil : i < L.length := (List.getElem?_eq_some_iff.1 hx).1
    have hg : gs[i]? = some (gs[i]'(by rw [r.len]; exact hil)) := by simp
    have hb : (volOf L name).blocks[k]? = some ((volOf L name).blocks.getD k zero32) := by simp [hk]
    refine (read_ok r name k i (volOf L name) _ _ hi hx hg hb).mono ?_
    rintro e w' ⟨rfl, hb⟩
    refine ⟨?_, hb⟩
    rw [he]
    unfold readVal
    rw [if_pos he, Int.toNat_natCast]
  · have := read_err r name at_ _ he (block_no17 (rep_alloc r _) name at_ he)
    rw [zero_blk] at this
    refine this.mono ?_
    rintro e w' ⟨rfl, hb⟩
    exact ⟨by unfold readVal; rw [if_neg he], hb⟩
end

end Go.Proofs.YtkppnamblmaokaaDoor.ModS

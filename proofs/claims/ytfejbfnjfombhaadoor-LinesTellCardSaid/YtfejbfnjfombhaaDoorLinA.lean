/- Words and numbers, in plain lists of bytes. -/
import Derived.Lib.SplitLaws
import Derived.Lib.ParseIntB
import Derived.Lib.ItoaMem
import Derived.Lib.Join
import Derived.Lib.Strings
import Derived.Lib.SlTrimSet
namespace Go.Proofs.YtfejbfnjfombhaaDoor.LinA
open Go.Lib
set_option linter.unusedVariables false
set_option linter.unusedSimpArgs false

/-- What stands between blanks. -/
def wordsL : List UInt8 → List (List UInt8)
  | [] => [[]]
  | c :: r => if c = 32 then [] :: wordsL r else (c :: (wordsL r).headD []) :: (wordsL r).tail
theorem words_ne (l : List UInt8) : wordsL l ≠ [] := by
  cases l with
  | nil => simp [wordsL]
  | cons c r => unfold wordsL; split <;> simp
theorem words_headtail (l : List UInt8) : (wordsL l).headD [] :: (wordsL l).tail = wordsL l := by
  have := words_ne l
  cases h : wordsL l with
  | nil => exact absurd h this
  | cons a r => rfl
theorem words_clean (a : List UInt8) (h : ∀ x ∈ a, x ≠ 32) : wordsL a = [a] := by
  induction a with
  | nil => rfl
  | cons c r ih =>
    unfold wordsL
    rw [if_neg (h c (by simp)), ih (fun x hx => h x (by simp [hx]))]
    rfl
theorem words_cut (a b : List UInt8) (h : ∀ x ∈ a, x ≠ 32) : wordsL (a ++ 32 :: b) = a :: wordsL b := by
  induction a with
  | nil => simp [wordsL]
  | cons c r ih =>
    have e : wordsL (c :: (r ++ 32 :: b)) = (c :: (wordsL (r ++ 32 :: b)).headD []) :: (wordsL (r ++ 32 :: b)).tail := by
      rw [wordsL, if_neg (h c (by simp))]
    rw [List.cons_append, e, ih (fun x hx => h x (by simp [hx]))]
    rfl
theorem words_len (l : List UInt8) : (wordsL l).length = l.count 32 + 1 := by
  induction l with
  | nil => rfl
  | cons c r ih =>
    unfold wordsL
    have := words_headtail r
    by_cases hc : c = 32
    · subst hc
      rw [if_pos rfl]
      simp [ih]
    · rw [if_neg hc, List.count_cons_of_ne hc, ← ih]
      conv => rhs; rw [← this]
      simp
theorem words_noblank (l : List UInt8) : ∀ w ∈ wordsL l, ∀ x ∈ w, x ≠ 32 := by
  induction l with
  | nil => intro w hw x hx; simp [wordsL] at hw; subst hw; simp at hx
  | cons c r ih =>
    intro w hw x hx
    unfold wordsL at hw
    have ht := words_headtail r
    by_cases hc : c = 32
    · rw [if_pos hc] at hw
      rcases List.mem_cons.1 hw with rfl | hw
      · simp at hx
      · exact ih w hw x hx
    · rw [if_neg hc] at hw
      rcases List.mem_cons.1 hw with rfl | hw
      · rcases List.mem_cons.1 hx with rfl | hx
        · exact hc
        · exact ih _ (by rw [← ht]; simp) x hx
      · exact ih w (by rw [← ht]; simp [hw]) x hx
theorem joinTail_cons (x : List UInt8) (r : List (List UInt8)) (sep : List UInt8) : joinTail sep (x :: r) = sep ++ x ++ joinTail sep r := by simp [joinTail]
theorem join_words (l : List UInt8) : join (wordsL l) [32] = l := by
  induction l with
  | nil => rfl
  | cons c r ih =>
    unfold wordsL
    have ht := words_headtail r
    by_cases hc : c = 32
    · subst hc
      rw [if_pos rfl, ← ht, join_cons, joinTail_cons]
      rw [← ht, join_cons] at ih
      simp only [List.nil_append, List.singleton_append, List.cons_append, List.nil_append]
      rw [ih]
    · rw [if_neg hc, join_cons]
      rw [← ht, join_cons] at ih
      rw [List.cons_append, ih]
theorem words_join (w : List UInt8) (ws : List (List UInt8)) (h : ∀ v ∈ w :: ws, ∀ x ∈ v, x ≠ 32) : wordsL (join (w :: ws) [32]) = w :: ws := by
  rw [join_cons]
  induction ws generalizing w with
  | nil => simp [joinTail]; exact words_clean w (h w (by simp))
  | cons v r ih =>
    rw [joinTail_cons]
    have e : w ++ ([32] ++ v ++ joinTail [32] r) = w ++ 32 :: (v ++ joinTail [32] r) := by simp
    rw [e, words_cut w _ (h w (by simp)), ih v (fun u hu => h u (by simp at hu ⊢; rcases hu with rfl | hu <;> simp [*]))]
/-- The library's split at a blank. -/
theorem occ_blank (l : List UInt8) (i : Nat) : occAt l [32] i = (l[i]? == some 32) := by
  unfold occAt
  rw [List.drop_eq_getElem?_toList_append]
  cases h : l[i]? with
  | none =>
    have : l.length ≤ i := by simpa using h
    simp [List.drop_of_length_le (Nat.le_succ_of_le this)]
  | some c =>
    show (([32] : List UInt8).isPrefixOf (c :: l.drop (i + 1))) = _
    have e : (([32] : List UInt8).isPrefixOf (c :: l.drop (i + 1))) = (32 == c) := by simp [List.isPrefixOf]
    rw [e, Bool.eq_iff_iff, beq_iff_eq, beq_iff_eq, Option.some.injEq]
    exact eq_comm
theorem cut_first : ∀ l : List UInt8, 32 ∈ l → ∃ a b, l = a ++ 32 :: b ∧ 32 ∉ a
  | [], h => by simp at h
  | c :: r, h => by
    by_cases hc : c = 32
    · subst hc
      exact ⟨[], r, rfl, by simp⟩
    · have hr : 32 ∈ r := by
        rcases List.mem_cons.1 h with h | h
        · exact absurd h.symm hc
        · exact h
      obtain ⟨a, b, h1, h2⟩ := cut_first r hr
      exact ⟨c :: a, b, by rw [h1]; rfl, by simp [h2]; exact fun h => hc h.symm⟩
theorem splitK_words : ∀ (k : Nat) (l : List UInt8), l.count 32 = k → splitK [32] 0 k l = wordsL l
  | 0, l, h => by
    unfold splitK
    rw [words_clean]
    intro x hx e
    subst e
    exact absurd h (by have := List.count_pos_iff.2 hx; omega)
  | k + 1, l, h => by
    have hm : (32 : UInt8) ∈ l := List.count_pos_iff.1 (by omega)
    obtain ⟨a, b, rfl, hna⟩ := cut_first l hm
    have hi : index (a ++ 32 :: b) [32] = (a.length : Int) := by
      refine index_first (by simp) ?_ (fun j hj => ?_)
      · rw [occ_blank]
        simp
      · rw [occ_blank, List.getElem?_append_left hj]
        have : a[j]? ≠ some 32 := fun e => hna (List.mem_of_getElem? e)
        simpa using this
    have hc : b.count 32 = k := by
      have h0 : a.count 32 = 0 := List.count_eq_zero.2 hna
      rw [List.count_append, h0, List.count_cons_self] at h
      omega
    have hm1 : ¬ ((index (a ++ 32 :: b) [32] == -1) = true) := by rw [hi, beq_iff_eq]; omega
    unfold splitK
    rw [if_neg hm1, hi]
    have e0 : ((a.length : Int)).toNat = a.length := Int.toNat_natCast _
    have e1 : (a ++ 32 :: b).take ((a.length : Int).toNat + 0) = a := by simp
    have e2 : (a ++ 32 :: b).drop ((a.length : Int).toNat + ([32] : List UInt8).length) = b := by
      have : a ++ 32 :: b = (a ++ [32]) ++ b := by simp
      rw [this, List.drop_left' (by simp)]
    rw [e1, e2, splitK_words k b hc, words_cut a b (fun x hx e => hna (e ▸ hx))]
theorem split_words (l : List UInt8) : split l [32] = wordsL l := by
  unfold split
  rw [count_one]
  exact splitK_words _ l rfl

/-- The number of a word; none: it is none. -/
def numVal (w : List UInt8) : Option Nat :=
  match parseUintB 32 w with
  | .ok u => if decDigits u = w then some u else none
  | _ => none
theorem num_some {w : List UInt8} {u : Nat} (h : numVal w = some u) : w = decDigits u ∧ parseUintB 32 w = .ok u := by
  unfold numVal at h
  split at h
  · rename_i v hv
    split at h
    · rename_i he
      injection h with h
      subst h
      exact ⟨he.symm, hv⟩
    · cases h
  · cases h
/-- What the reading of no digits at all ends with. -/
def noNum : NumEnd Nat := parseUintB 32 []
theorem noNum_ne (u : Nat) : noNum ≠ .ok u := by
  intro h
  unfold noNum parseUintB at h
  simp at h
theorem parseB_eq (l : List UInt8) : parseUintB 32 l = if l = [] then noNum else parseUintM 4294967295 0 l := by
  have e : (2 : Nat) ^ 32 - 1 = 4294967295 := by decide
  by_cases h : l = []
  · subst h
    rw [if_pos rfl]
    rfl
  · rw [if_neg h]
    unfold parseUintB
    rw [e, if_neg h]
theorem parseM_le {M : Nat} : ∀ (l : List UInt8) (acc u : Nat), acc ≤ M → parseUintM M acc l = .ok u → u ≤ M
  | [], acc, u, ha, h => by
    have h : NumEnd.ok acc = NumEnd.ok u := h
    injection h with h
    omega
  | c :: r, acc, u, ha, h => by
    unfold parseUintM at h
    split at h
    · split at h
      · cases h
      · split at h
        · cases h
        · exact parseM_le r _ u (by omega) h
    · cases h
theorem num_le {w : List UInt8} {u : Nat} (h : numVal w = some u) : u ≤ 4294967295 := by
  have := (num_some h).2
  rw [parseB_eq] at this
  split at this
  · exact absurd this (noNum_ne u)
  · exact parseM_le w 0 u (by omega) this
/-- What digits spell, behind a number. -/
def spell (acc : Nat) (l : List UInt8) : Nat := l.foldl (fun acc c => acc * 10 + (c.toNat - 48)) acc
theorem spell_nil (a : Nat) : spell a [] = a := by simp only [spell, List.foldl_nil]
theorem spell_cons (a : Nat) (c : UInt8) (r : List UInt8) : spell a (c :: r) = spell (a * 10 + (c.toNat - 48)) r := by simp only [spell, List.foldl_cons]
theorem spell_snoc (l : List UInt8) (a : Nat) (c : UInt8) : spell a (l ++ [c]) = spell a l * 10 + (c.toNat - 48) := by simp only [spell, List.foldl_append, List.foldl_cons, List.foldl_nil]
def digit (c : UInt8) : Bool := decide (48 ≤ c.toNat) && decide (c.toNat ≤ 57)
theorem spell_mono : ∀ (l : List UInt8) (a : Nat), a ≤ spell a l
  | [], a => by rw [spell_nil]; exact Nat.le_refl a
  | c :: r, a => by
    rw [spell_cons]
    exact Nat.le_trans (by omega) (spell_mono r _)
theorem parseM_ok {M : Nat} (hM : M < 1844674407370955162) : ∀ (l : List UInt8) (acc : Nat), l.all digit = true → spell acc l ≤ M → parseUintM M acc l = .ok (spell acc l)
  | [], acc, _, _ => by rw [spell_nil]; rfl
  | c :: r, acc, hd, h => by
    simp only [List.all_cons, Bool.and_eq_true, digit, decide_eq_true_eq] at hd
    have h' : spell (acc * 10 + (c.toNat - 48)) r ≤ M := by rw [← spell_cons]; exact h
    have hm := spell_mono r (acc * 10 + (c.toNat - 48))
    have ih := parseM_ok hM r (acc * 10 + (c.toNat - 48)) (by simpa [digit] using hd.2) h'
    rw [spell_cons, ← ih, parseUintM, if_pos ⟨hd.1.1, hd.1.2⟩, if_neg (by omega), if_neg (by omega)]
theorem parseM_all {M : Nat} : ∀ (l : List UInt8) (acc u : Nat), parseUintM M acc l = .ok u → l.all digit = true ∧ u = spell acc l
  | [], acc, u, h => by
    have h : NumEnd.ok acc = NumEnd.ok u := h
    injection h with h
    exact ⟨rfl, by rw [spell_nil]; exact h.symm⟩
  | c :: r, acc, u, h => by
    unfold parseUintM at h
    split at h
    · rename_i hc
      split at h
      · cases h
      · split at h
        · cases h
        · obtain ⟨h1, h2⟩ := parseM_all r _ u h
          refine ⟨?_, by rw [spell_cons]; exact h2⟩
          simp only [List.all_cons, h1, Bool.and_true, digit, Bool.and_eq_true, decide_eq_true_eq]
          exact hc
    · cases h
theorem dig_toNat (d : Nat) (h : d < 10) : (UInt8.ofNat (48 + d)).toNat = 48 + d := by
  simp; omega
theorem dec_spell (u : Nat) : (decDigits u).all digit = true ∧ spell 0 (decDigits u) = u ∧ decDigits u ≠ [] := by
  induction u using Nat.strongRecOn with
  | _ u ih =>
    rw [decDigits]
    split
    · rename_i h
      have := dig_toNat u h
      refine ⟨?_, ?_, by simp⟩
      · simp only [List.all_cons, List.all_nil, Bool.and_true, digit, this]
        simp
        omega
      · rw [spell_cons, spell_nil, this]
        omega
    · rename_i h
      obtain ⟨h1, h2, h3⟩ := ih (u / 10) (by omega)
      have := dig_toNat (u % 10) (by omega)
      refine ⟨?_, ?_, by simp⟩
      · rw [List.all_append, h1]
        simp only [List.all_cons, List.all_nil, Bool.and_true, digit, this]
        simp
        omega
      · rw [spell_snoc, h2, this]
        omega
theorem num_dec (u : Nat) (h : u ≤ 4294967295) : numVal (decDigits u) = some u := by
  obtain ⟨h1, h2, h3⟩ := dec_spell u
  unfold numVal
  rw [parseB_eq, if_neg h3, parseM_ok (by omega) _ 0 h1 (by rw [h2]; omega), h2]
  simp
theorem parse_ok_iff (w : List UInt8) (u : Nat) : parseUintB 32 w = .ok u ↔ w ≠ [] ∧ w.all digit = true ∧ spell 0 w = u ∧ u ≤ 4294967295 := by
  rw [parseB_eq]
  constructor
  · intro h
    split at h
    · exact absurd h (noNum_ne u)
    · rename_i hne
      obtain ⟨h1, h2⟩ := parseM_all w 0 u h
      exact ⟨hne, h1, h2.symm, parseM_le w 0 u (by omega) h⟩
  · rintro ⟨h0, h1, rfl, h3⟩
    rw [if_neg h0]
    exact parseM_ok (by omega) w 0 h1 (by omega)
theorem num_iff (w : List UInt8) (u : Nat) : numVal w = some u ↔ w = decDigits u ∧ u ≤ 4294967295 := by
  constructor
  · intro h
    exact ⟨(num_some h).1, num_le h⟩
  · rintro ⟨rfl, h⟩
    exact num_dec u h
end Go.Proofs.YtfejbfnjfombhaaDoor.LinA

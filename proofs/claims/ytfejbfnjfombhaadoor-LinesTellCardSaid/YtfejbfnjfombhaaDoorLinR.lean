/- Plain laws for the document's text of a line. -/
import Derived.Test.YtfejbfnjfombhaaDoorLinB
namespace Go.Proofs.YtfejbfnjfombhaaDoor.LinR
open Go.Lib Go.Proofs.YtfejbfnjfombhaaDoor.LinA Go.Proofs.YtfejbfnjfombhaaDoor.LinB
set_option linter.unusedVariables false
theorem read_nonneg (c : UInt8) (x : ByteArray) (l l' : Ln) (h0 : 0 ≤ l.n) (hh : readF c x l = some l') : 0 ≤ l'.n := by
  unfold readF at hh
  split at hh
  · split at hh
    · injection hh with hh; subst hh; exact h0
    · cases hh
  · split at hh
    · split at hh
      · injection hh with hh; subst hh; exact h0
      · split at hh
        · injection hh with hh; subst hh; exact h0
        · cases hh
    · split at hh
      · obtain ⟨u, h1, h2⟩ := Option.map_eq_some_iff.1 hh
        subst h2
        show (0 : Int) ≤ (u : Int)
        omega
      · split at hh
        · obtain ⟨u, h1, h2⟩ := Option.map_eq_some_iff.1 hh
          subst h2; exact h0
        · cases hh
theorem all_nonneg : ∀ (cs : List UInt8) (xs : List ByteArray) (l l' : Ln), 0 ≤ l.n → readAll cs xs l = some l' → 0 ≤ l'.n := by
  intro cs
  induction cs with
  | nil =>
    intro xs l l' h0 hh
    cases xs with
    | nil => simp [readAll] at hh; subst hh; exact h0
    | cons _ _ => simp [readAll] at hh
  | cons c cs ih =>
    intro xs l l' h0 hh
    cases xs with
    | nil => simp [readAll] at hh
    | cons x xs =>
      simp only [readAll] at hh
      obtain ⟨l2, h1, h2⟩ := Option.bind_eq_some_iff.1 hh
      exact ih xs l2 l' (read_nonneg c x l l2 h0 h1) h2
theorem parse_nonneg {s : ByteArray} {m : Ln} (h : parseF s = some m) : 0 ≤ m.n := by
  obtain ⟨_, f, _, r, _, _, hr⟩ := parse_some h
  exact all_nonneg _ _ _ _ (Int.le_refl _) hr
/-- No text of a line whose number is below nought. -/
theorem text_neg {l : Ln} (h : l.n < 0) : textF l = none := by
  cases ht : textF l with
  | none => rfl
  | some t => have := parse_nonneg (text_line ht); omega
theorem verb_fit : ∀ f ∈ forms, 1 ≤ f.verb ∧ f.verb ≤ 7 := by decide
/-- No text of a line with another verb. -/
theorem text_verb {l : Ln} (h : l.verb < 1 ∨ 7 < l.verb) : textF l = none := by
  unfold textF
  rw [List.findSome?_eq_none_iff]
  intro f hf
  rw [if_neg]
  intro e
  have := verb_fit f hf
  omega
end Go.Proofs.YtfejbfnjfombhaaDoor.LinR

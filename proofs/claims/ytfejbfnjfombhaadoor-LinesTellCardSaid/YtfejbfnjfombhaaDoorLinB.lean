/- A line of a text, a text of a line, in plain lists of bytes. -/
import Derived.Test.YtfejbfnjfombhaaDoorLinA
namespace Go.Proofs.YtfejbfnjfombhaaDoor.LinB
open Go.Lib Go.Proofs.YtfejbfnjfombhaaDoor.LinA
set_option linter.unusedVariables false
set_option linter.unusedSimpArgs false

def ofL (l : List UInt8) : ByteArray := ⟨l.toArray⟩
theorem ofL_data (l : List UInt8) : (ofL l).data.toList = l := by simp [ofL]
theorem data_ofL (s : ByteArray) : ofL s.data.toList = s := by cases s; rfl
theorem bytes_ext {a b : ByteArray} (h : a.data.toList = b.data.toList) : a = b := by rw [← data_ofL a, ← data_ofL b, h]
def lowB (c : UInt8) : Bool := 97 ≤ c && c ≤ 122
def goodL (w : List UInt8) : Bool := decide (1 ≤ w.length) && decide (w.length ≤ 4) && w.all lowB
structure Ln where
  verb : Int
  name : ByteArray
  n : Int
  till : Int
  deriving DecidableEq
def Ln.zero : Ln := ⟨0, ByteArray.empty, 0, 0⟩
structure Form where
  verb : Nat
  word : List UInt8
  has : List UInt8
  deriving DecidableEq
def forms : List Form := [⟨1, [109, 97, 107, 101], [78, 67]⟩, ⟨2, [103, 111, 110, 101], [78]⟩, ⟨3, [109, 105, 110, 116], [65, 67, 85]⟩, ⟨4, [114, 101, 118, 111, 107, 101], []⟩, ⟨5, [112, 114, 111, 109, 111, 116, 101], [67]⟩, ⟨6, [102, 111, 114, 99, 101], [67]⟩, ⟨7, [115, 116, 97, 116, 117, 115], []⟩]
def readF (what : UInt8) (w : ByteArray) (l : Ln) : Option Ln :=
  if what = 78 then (if goodL w.data.toList = true then some { l with name := w } else none)
  else if what = 65 then (if w.data.toList = [42] then some { l with name := ByteArray.empty } else if goodL w.data.toList = true then some { l with name := w } else none)
  else if what = 67 then Option.map (fun u : Nat => ({ l with n := (u : Int) } : Ln)) (numVal w.data.toList)
  else if what = 85 then Option.map (fun u : Nat => ({ l with till := (u : Int) } : Ln)) (numVal w.data.toList)
  else none
def readAll : List UInt8 → List ByteArray → Ln → Option Ln
  | [], [], l => some l
  | c :: cs, w :: ws, l => (readF c w l).bind (readAll cs ws)
  | _, _, _ => none
def wordsB (s : ByteArray) : List ByteArray := (wordsL s.data.toList).map ofL
def tryForm (ws : List ByteArray) (f : Form) : Option Ln :=
  if (ws.headD ByteArray.empty).data.toList = f.word ∧ f.has.length = ws.tail.length then readAll f.has ws.tail ⟨f.verb, ByteArray.empty, 0, 0⟩ else none
def parseF (s : ByteArray) : Option Ln := if 200 < s.size then none else forms.findSome? (tryForm (wordsB s))
def textOf (l : Ln) (c : UInt8) : List UInt8 :=
  if c = 67 then itoa l.n else if c = 85 then decDigits l.till.toNat else if c = 65 ∧ l.name.data.toList = [] then [42] else l.name.data.toList
def lineOf (l : Ln) (f : Form) : ByteArray := ofL (join (f.word :: f.has.map (textOf l)) [32])
def textF (l : Ln) : Option ByteArray :=
  forms.findSome? fun f => if (f.verb : Int) = l.verb then (if parseF (lineOf l f) = some l then some (lineOf l f) else none) else none

theorem wordsB_ne (s : ByteArray) : ∃ w r, wordsL s.data.toList = w :: r ∧ wordsB s = ofL w :: r.map ofL := by
  have := words_ne s.data.toList
  cases h : wordsL s.data.toList with
  | nil => exact absurd h this
  | cons w r => exact ⟨w, r, rfl, by simp [wordsB, h]⟩
theorem parse_some {s : ByteArray} {m : Ln} (h : parseF s = some m) : s.size ≤ 200 ∧ ∃ f ∈ forms, ∃ r, wordsL s.data.toList = f.word :: r ∧ f.has.length = r.length ∧ readAll f.has (r.map ofL) ⟨f.verb, ByteArray.empty, 0, 0⟩ = some m := by
  unfold parseF at h
  split at h
  · cases h
  · rename_i h2
    refine ⟨by omega, ?_⟩
    obtain ⟨f, hf, ht⟩ := List.exists_of_findSome?_eq_some h
    obtain ⟨w, r, hw, hB⟩ := wordsB_ne s
    unfold tryForm at ht
    rw [hB] at ht
    simp only [List.headD_cons, List.tail_cons, ofL_data, List.length_map] at ht
    split at ht
    · rename_i hc
      exact ⟨f, hf, r, by rw [hw, hc.1], hc.2, ht⟩
    · cases ht
theorem word_one : ∀ f ∈ forms, ∀ g ∈ forms, f.word = g.word → f = g := by decide
theorem verb_one : ∀ f ∈ forms, ∀ g ∈ forms, f.verb = g.verb → f = g := by decide
theorem find_only {α β : Type} (p : α → Option β) : ∀ (l : List α) (f : α), f ∈ l → (∀ g ∈ l, g ≠ f → p g = none) → l.findSome? p = p f
  | [], _, h, _ => by simp at h
  | a :: r, f, h, hn => by
    by_cases e : a = f
    · subst e
      rw [List.findSome?_cons]
      cases hp : p a with
      | some b => rfl
      | none =>
        have : r.findSome? p = none := by
          rw [List.findSome?_eq_none_iff]
          intro g hg
          by_cases e : g = a
          · subst e; exact hp
          · exact hn g (by simp [hg]) e
        simp [this]
    · have hf : f ∈ r := by
        rcases List.mem_cons.1 h with h | h
        · exact absurd h.symm e
        · exact h
      rw [List.findSome?_cons, hn a (by simp) e]
      exact find_only p r f hf (fun g hg => hn g (by simp [hg]))
theorem parse_of {s : ByteArray} {f : Form} {r : List (List UInt8)} (hs : s.size ≤ 200) (hf : f ∈ forms) (hw : wordsL s.data.toList = f.word :: r) :
    parseF s = if f.has.length = r.length then readAll f.has (r.map ofL) ⟨f.verb, ByteArray.empty, 0, 0⟩ else none := by
  obtain ⟨w, r', hw', hB⟩ := wordsB_ne s
  rw [hw] at hw'
  injection hw' with e1 e2
  subst e1 e2
  unfold parseF
  rw [if_neg (by omega), find_only (tryForm (wordsB s)) forms f hf (fun g hg hne => ?_)]
  · unfold tryForm
    rw [hB]
    simp only [List.headD_cons, List.tail_cons, ofL_data, List.length_map, true_and]
  · unfold tryForm
    rw [hB]
    simp only [List.headD_cons, List.tail_cons, ofL_data]
    rw [if_neg (fun h => hne (word_one f hf g hg h.1).symm)]
/-- No text begins with a word that is none. -/
theorem parse_none_word {s : ByteArray} {w : List UInt8} {r : List (List UInt8)} (hw : wordsL s.data.toList = w :: r) (h : ∀ f ∈ forms, f.word ≠ w) : parseF s = none := by
  cases hp : parseF s with
  | none => rfl
  | some m =>
    obtain ⟨_, f, hf, r', h1, _⟩ := parse_some hp
    rw [hw] at h1
    injection h1 with h1 _
    exact absurd h1.symm (h f hf)
theorem parse_none_len {s : ByteArray} {f : Form} {r : List (List UInt8)} (hf : f ∈ forms) (hw : wordsL s.data.toList = f.word :: r) (hl : f.has.length ≠ r.length) : parseF s = none := by
  by_cases hs : s.size ≤ 200
  · rw [parse_of hs hf hw, if_neg hl]
  · unfold parseF; rw [if_pos (by omega)]
theorem words_append (a b : List UInt8) : wordsL (a ++ 32 :: b) = wordsL a ++ wordsL b := by
  induction a with
  | nil => simp [wordsL]
  | cons c r ih =>
    rw [List.cons_append]
    have ht := words_headtail r
    by_cases hc : c = 32
    · subst hc
      rw [wordsL, if_pos rfl, ih, wordsL, if_pos rfl, List.cons_append]
    · rw [wordsL, if_neg hc, ih]
      conv => rhs; rw [wordsL, if_neg hc]
      rw [← ht]
      rfl

theorem good_ne {w : List UInt8} (h : goodL w = true) : w ≠ [] ∧ w ≠ [42] := by
  constructor
  · rintro rfl
    simp [goodL] at h
  · rintro rfl
    revert h
    decide
theorem itoa_nat (u : Nat) : itoa (u : Int) = decDigits u := itoa_nonneg u
theorem text_C (l : Ln) : textOf l 67 = itoa l.n := by unfold textOf; rw [if_pos rfl]
theorem text_U (l : Ln) : textOf l 85 = decDigits l.till.toNat := by unfold textOf; rw [if_neg (by decide), if_pos rfl]
theorem text_N (l : Ln) : textOf l 78 = l.name.data.toList := by unfold textOf; rw [if_neg (by decide), if_neg (by decide), if_neg (fun h => absurd h.1 (by decide))]
theorem text_A0 (l : Ln) (h : l.name.data.toList = []) : textOf l 65 = [42] := by unfold textOf; rw [if_neg (by decide), if_neg (by decide), if_pos ⟨rfl, h⟩]
theorem text_A1 (l : Ln) (h : l.name.data.toList ≠ []) : textOf l 65 = l.name.data.toList := by unfold textOf; rw [if_neg (by decide), if_neg (by decide), if_neg (fun k => h k.2)]
/-- What was read is written as it was. -/
theorem read_back : ∀ f ∈ forms, ∀ (ws : List ByteArray) (m : Ln), readAll f.has ws ⟨f.verb, ByteArray.empty, 0, 0⟩ = some m → m.verb = f.verb ∧ f.has.map (textOf m) = ws.map (·.data.toList) := by
  have num : ∀ {w : ByteArray} {u : Nat}, numVal w.data.toList = some u → decDigits u = w.data.toList := fun h => ((num_iff _ _).1 h).1.symm
  have rd0 : ∀ (l m : Ln), ∀ ws, readAll [] ws l = some m → ws = [] ∧ m = l := by
    intro l m ws h
    cases ws with
    | nil => simp [readAll] at h; exact ⟨rfl, h.symm⟩
    | cons a r => simp [readAll] at h
  have rdc : ∀ (c : UInt8) (cs : List UInt8) (ws : List ByteArray) (l m : Ln), readAll (c :: cs) ws l = some m → ∃ w r l', ws = w :: r ∧ readF c w l = some l' ∧ readAll cs r l' = some m := by
    intro c cs ws l m h
    cases ws with
    | nil => simp [readAll] at h
    | cons w r =>
      simp only [readAll] at h
      obtain ⟨l', h1, h2⟩ := Option.bind_eq_some_iff.1 h
      exact ⟨w, r, l', rfl, h1, h2⟩
  have rN : ∀ {w : ByteArray} {l l' : Ln}, readF 78 w l = some l' → l' = { l with name := w } ∧ goodL w.data.toList = true := by
    intro w l l' h
    unfold readF at h
    rw [if_pos rfl] at h
    split at h
    · rename_i hg; injection h with h; exact ⟨h.symm, hg⟩
    · cases h
  have rC : ∀ {w : ByteArray} {l l' : Ln}, readF 67 w l = some l' → ∃ u : Nat, l' = { l with n := (u : Int) } ∧ numVal w.data.toList = some u := by
    intro w l l' h
    unfold readF at h
    rw [if_neg (by decide), if_neg (by decide), if_pos rfl] at h
    obtain ⟨u, h1, h2⟩ := Option.map_eq_some_iff.1 h
    exact ⟨u, h2.symm, h1⟩
  have rU : ∀ {w : ByteArray} {l l' : Ln}, readF 85 w l = some l' → ∃ u : Nat, l' = { l with till := (u : Int) } ∧ numVal w.data.toList = some u := by
    intro w l l' h
    unfold readF at h
    rw [if_neg (by decide), if_neg (by decide), if_neg (by decide), if_pos rfl] at h
    obtain ⟨u, h1, h2⟩ := Option.map_eq_some_iff.1 h
    exact ⟨u, h2.symm, h1⟩
  have rA : ∀ {w : ByteArray} {l l' : Ln}, readF 65 w l = some l' → (l' = { l with name := ByteArray.empty } ∧ w.data.toList = [42]) ∨ (l' = { l with name := w } ∧ goodL w.data.toList = true) := by
    intro w l l' h
    unfold readF at h
    rw [if_neg (by decide), if_pos rfl] at h
    split at h
    · rename_i hg; injection h with h; exact .inl ⟨h.symm, hg⟩
    · split at h
      · rename_i hg; injection h with h; exact .inr ⟨h.symm, hg⟩
      · cases h
  intro f hf ws m h
  simp only [forms, List.mem_cons, List.not_mem_nil, or_false] at hf
  rcases hf with rfl | rfl | rfl | rfl | rfl | rfl | rfl
  · obtain ⟨w1, r1, l1, rfl, q1, h⟩ := rdc _ _ _ _ _ h
    obtain ⟨w2, r2, l2, rfl, q2, h⟩ := rdc _ _ _ _ _ h
    obtain ⟨rfl, rfl⟩ := rd0 _ _ _ h
    obtain ⟨rfl, g1⟩ := rN q1
    obtain ⟨u, rfl, g2⟩ := rC q2
    exact ⟨rfl, by simp only [List.map_cons, List.map_nil, text_N, text_C, itoa_nat, num g2]⟩
  · obtain ⟨w1, r1, l1, rfl, q1, h⟩ := rdc _ _ _ _ _ h
    obtain ⟨rfl, rfl⟩ := rd0 _ _ _ h
    obtain ⟨rfl, g1⟩ := rN q1
    exact ⟨rfl, by simp only [List.map_cons, List.map_nil, text_N]⟩
  · obtain ⟨w1, r1, l1, rfl, q1, h⟩ := rdc _ _ _ _ _ h
    obtain ⟨w2, r2, l2, rfl, q2, h⟩ := rdc _ _ _ _ _ h
    obtain ⟨w3, r3, l3, rfl, q3, h⟩ := rdc _ _ _ _ _ h
    obtain ⟨rfl, rfl⟩ := rd0 _ _ _ h
    obtain ⟨u, rfl, g2⟩ := rC q2
    obtain ⟨u3, rfl, g3⟩ := rU q3
    rcases rA q1 with ⟨rfl, g1⟩ | ⟨rfl, g1⟩
    · exact ⟨rfl, by simp only [List.map_cons, List.map_nil, text_C, text_U, itoa_nat, num g2, Int.toNat_natCast, num g3, g1]; rw [text_A0 _ rfl]⟩
    · have := (good_ne g1).1
      exact ⟨rfl, by simp only [List.map_cons, List.map_nil, text_C, text_U, itoa_nat, num g2, Int.toNat_natCast, num g3]; rw [text_A1 _ this]⟩
  · obtain ⟨rfl, rfl⟩ := rd0 _ _ _ h
    exact ⟨rfl, rfl⟩
  · obtain ⟨w1, r1, l1, rfl, q1, h⟩ := rdc _ _ _ _ _ h
    obtain ⟨rfl, rfl⟩ := rd0 _ _ _ h
    obtain ⟨u, rfl, g2⟩ := rC q1
    exact ⟨rfl, by simp only [List.map_cons, List.map_nil, text_C, itoa_nat, num g2]⟩
  · obtain ⟨w1, r1, l1, rfl, q1, h⟩ := rdc _ _ _ _ _ h
    obtain ⟨rfl, rfl⟩ := rd0 _ _ _ h
    obtain ⟨u, rfl, g2⟩ := rC q1
    exact ⟨rfl, by simp only [List.map_cons, List.map_nil, text_C, itoa_nat, num g2]⟩
  · obtain ⟨rfl, rfl⟩ := rd0 _ _ _ h
    exact ⟨rfl, rfl⟩
theorem text_of {l : Ln} {f : Form} (hf : f ∈ forms) (hv : (f.verb : Int) = l.verb) : textF l = if parseF (lineOf l f) = some l then some (lineOf l f) else none := by
  unfold textF
  rw [find_only _ forms f hf (fun g hg hne => ?_)]
  · simp only [hv, if_true]
  · rw [if_neg (fun h => hne (verb_one f hf g hg (by omega)).symm)]
/-- The text of a text's line is it. -/
theorem back_text {s : ByteArray} {m : Ln} (h : parseF s = some m) : textF m = some s := by
  obtain ⟨hs, f, hf, r, hw, hl, hr⟩ := parse_some h
  obtain ⟨hv, ht⟩ := read_back f hf _ m hr
  have e : lineOf m f = s := by
    unfold lineOf
    rw [ht, List.map_map]
    have : (r.map ((·.data.toList) ∘ ofL)) = r := by
      conv => rhs; rw [← List.map_id r]
      apply List.map_congr_left
      intro a _
      exact ofL_data a
    rw [this, ← hw, join_words]
    exact data_ofL s
  rw [text_of hf hv.symm, e, if_pos h]
theorem text_line {l : Ln} {t : ByteArray} (h : textF l = some t) : parseF t = some l := by
  unfold textF at h
  obtain ⟨f, hf, ht⟩ := List.exists_of_findSome?_eq_some h
  split at ht
  · split at ht
    · rename_i hp
      injection ht with ht
      rw [← ht]; exact hp
    · cases ht
  · cases ht
/-- A blank or words more make none. -/
theorem more_none {t : ByteArray} {l : Ln} (h : parseF t = some l) (b : List UInt8) : parseF (ofL (t.data.toList ++ 32 :: b)) = none := by
  obtain ⟨_, f, hf, r, hw, hl, _⟩ := parse_some h
  refine parse_none_len hf (r := r ++ wordsL b) (by rw [ofL_data, words_append, hw]; rfl) ?_
  have := words_ne b
  rw [List.length_append, hl]
  cases hb : wordsL b with
  | nil => exact absurd hb this
  | cons _ _ => simp
theorem ahead_none (b : List UInt8) : parseF (ofL (32 :: b)) = none := by
  refine parse_none_word (w := []) (r := wordsL b) (by rw [ofL_data, wordsL, if_pos rfl]) ?_
  decide
end Go.Proofs.YtfejbfnjfombhaaDoor.LinB

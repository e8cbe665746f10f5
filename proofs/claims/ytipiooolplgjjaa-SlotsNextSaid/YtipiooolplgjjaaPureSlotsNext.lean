/- For every place, start and number of turns, the next turn is the first one above, and so many turns on is so many times four ticks on (SlotsNext). There are no conditions. -/
import Derived.Test.YtipiooolplgjjaaPSlotsNextx2
namespace Go.Proofs.Ytipiooolplgjjaa.Pure
open Go.RowKit Go.Proofs.Ytipiooolplgjjaa.PSlotsNext Go.Proofs.YtipiooolplgjjaaW.PrintWords Go.Proofs.YtipiooolplgjjaaW.PrintLast
set_option linter.unusedVariables false
theorem w64 {x : Int} (h : -9223372036854775808 ≤ x) (h' : x < 9223372036854775808) : wrap64 x = x := by
  unfold wrap64; omega
theorem wf_u8 {a : Int} (h : (Lit.int .u8 a).wf = true) : 0 ≤ a ∧ a < 256 := by
  simp [Lit.wf, IntKind.min, IntKind.max, IntKind.signed, IntKind.bits] at h; omega
theorem wf_u16 {a : Int} (h : (Lit.int .u16 a).wf = true) : 0 ≤ a ∧ a < 65536 := by
  simp [Lit.wf, IntKind.min, IntKind.max, IntKind.signed, IntKind.bits] at h; omega
theorem wf_u32 {a : Int} (h : (Lit.int .u32 a).wf = true) : 0 ≤ a ∧ a < 4294967296 := by
  simp [Lit.wf, IntKind.min, IntKind.max, IntKind.signed, IntKind.bits] at h; omega
theorem owner {t : Int} (h0 : 0 ≤ t) (h1 : t < 4294967296) : slots_Owner.f t = some (t % 4) := by
  unfold slots_Owner.f; rw [Int.tmod_eq_emod_of_nonneg h0, w64 (by omega) (by omega)]
theorem has_yes {k : Nat} {p : Int} (hk : 2 ≤ k) (h0 : 0 ≤ p) (h1 : p < 4) : slots_has.f k [p] = some true := by
  obtain ⟨k, rfl⟩ : ∃ m, k = m + 2 := ⟨k - 2, by omega⟩
  have e : wrap64 (0 + 1) = 1 := w64 (by omega) (by omega)
  have r : rd [p] 0 = p := rfl
  unfold slots_has.f
  simp only [slots_has.l0, List.length_cons, List.length_nil]
  rw [if_pos (by decide), if_pos (by decide), if_pos (by decide), r, if_neg (by omega), if_neg (by omega), e, if_neg (by decide)]
def nx (p t : Int) : Int := (t + ((p - t - 1) % 4 + 1)) % 4294967296
theorem next_yes {k : Nat} {p t : Int} (hk : 5 ≤ k) (h0 : 0 ≤ p) (h1 : p < 4) (h2 : 0 ≤ t) (h3 : t < 4294967296) : slots_Next.f k p t = some (nx p t, 0) := by
  obtain ⟨k, rfl⟩ : ∃ m, k = m + 5 := ⟨k - 5, by omega⟩
  unfold slots_Next.f
  rw [has_yes (by omega) h0 h1]
  simp only [Option.bind_some, if_true, slots_Next.l0]
  have c : (p - t - 1) % 4 = 0 ∨ (p - t - 1) % 4 = 1 ∨ (p - t - 1) % 4 = 2 ∨ (p - t - 1) % 4 = 3 := by omega
  unfold nx
  rcases c with c | c | c | c <;> rw [c]
  · rw [owner (by omega) (by omega)]; simp only [Option.bind_some]; rw [if_pos (by omega)]; congr 2
  · rw [owner (by omega) (by omega)]; simp only [Option.bind_some]; rw [if_neg (by omega)]
    rw [owner (by omega) (by omega)]; simp only [Option.bind_some]; rw [if_pos (by omega)]; congr 2; omega
  · rw [owner (by omega) (by omega)]; simp only [Option.bind_some]; rw [if_neg (by omega)]
    rw [owner (by omega) (by omega)]; simp only [Option.bind_some]; rw [if_neg (by omega)]
    rw [owner (by omega) (by omega)]; simp only [Option.bind_some]; rw [if_pos (by omega)]; congr 2; omega
  · rw [owner (by omega) (by omega)]; simp only [Option.bind_some]; rw [if_neg (by omega)]
    rw [owner (by omega) (by omega)]; simp only [Option.bind_some]; rw [if_neg (by omega)]
    rw [owner (by omega) (by omega)]; simp only [Option.bind_some]; rw [if_neg (by omega)]
    rw [owner (by omega) (by omega)]; simp only [Option.bind_some]; rw [if_pos (by omega)]; congr 2; omega
theorem nx_bd (p t : Int) : 0 ≤ nx p t ∧ nx p t < 4294967296 := by unfold nx; omega
theorem upto {p t : Int} (h0 : 0 ≤ p) (h1 : p < 4) (h2 : 0 ≤ t) (h3 : t < 4294967296) : slots_upto.f p t = some ((t + 4 - p) / 4) := by
  unfold slots_upto.f
  rw [w64 (x := t) (by omega) (by omega), w64 (x := t + 4) (by omega) (by omega), w64 (x := t + 4 - p) (by omega) (by omega), Int.tdiv_eq_ediv_of_nonneg (by omega), w64 (by omega) (by omega)]
def cnt (p a b : Int) : Int := if b ≤ a then 0 else (b + 4 - p) / 4 - (a + 4 - p) / 4
theorem count_yes {k : Nat} {p a b : Int} (hk : 2 ≤ k) (h0 : 0 ≤ p) (h1 : p < 4) (h2 : 0 ≤ a) (h3 : a < 4294967296) (h4 : 0 ≤ b) (h5 : b < 4294967296) :
    slots_Count.f k p a b = some (cnt p a b) := by
  obtain ⟨k, rfl⟩ : ∃ m, k = m + 2 := ⟨k - 2, by omega⟩
  unfold slots_Count.f cnt
  rw [has_yes (by omega) h0 h1]
  simp only [Option.bind_some, if_true, slots_Count.j0]
  by_cases c : b ≤ a
  · rw [if_pos (by simpa using c), if_pos c]
  · rw [if_neg (by simpa using c), if_neg c, upto h0 h1 h4 h5, upto h0 h1 h2 h3]
    simp only [Option.bind_some]; rw [w64 (by omega) (by omega)]
theorem bound_yes {n : Int} (h0 : 1 ≤ n) (h1 : n ≤ 1000) : slots_Bound.f n = some (80 * n + 32) := by
  unfold slots_Bound.f
  rw [if_neg (by omega), if_neg (by omega), w64 (x := 20 * n) (by omega) (by omega), w64 (x := 20 * n + 8) (by omega) (by omega), w64 (by omega) (by omega)]
  congr 1; omega
theorem wakes_yes {k : Nat} (hk : 6 ≤ k) : tollhouselaw19_wakes.f k = some true :=
  at_rounds tollhouselaw19_wakes.mono hk (by decide +kernel)

theorem upto_l0 {k : Nat} {x1 x2 x7 x8 : Int} (h0 : 0 ≤ x7) (h1 : x7 < 4) (h2 : 0 ≤ x2) (h3 : x2 < 4294967296) (h8 : x8 = nx x7 x2) (d : Nat) :
    ∀ (i : Int), 1 ≤ i → i ≤ (x8 - x2) % 4294967296 → (x8 - x2) % 4294967296 - i = d → tollhouselaw19_SlotsNext.l0 (k + d + 1) x1 x2 x7 x8 i = tollhouselaw19_SlotsNext.l1 k x1 x7 x8 x8 0 := by
  have hn : (x8 - x2) % 4294967296 = (x7 - x2 - 1) % 4 + 1 := by rw [h8]; unfold nx; omega
  induction d with
  | zero =>
    intro i a b c
    simp only [tollhouselaw19_SlotsNext.l0]
    rw [if_neg (by omega)]
  | succ d ih =>
    intro i a b c
    simp only [tollhouselaw19_SlotsNext.l0]
    rw [if_pos (by omega), owner (by omega) (by omega)]
    simp only [Option.bind_some]
    rw [if_neg (by omega), show (i + 1) % 4294967296 = i + 1 by omega]
    exact ih (i + 1) (by omega) (by omega) (by omega)

theorem upto_l1 {x1 x7 x8 : Int} (g0 : 0 ≤ x1) (g1 : x1 < 256) (h0 : 0 ≤ x7) (h1 : x7 < 4) (h2 : 0 ≤ x8) (h3 : x8 < 4294967296) (h4 : x8 % 4 = x7) (d : Nat) :
    ∀ (k : Nat) (i u : Int), 0 ≤ i → i ≤ x1 → x1 - i = d → u = (x8 + 4 * i) % 4294967296 → tollhouselaw19_SlotsNext.l1 (k + d + 10) x1 x7 x8 u i = some true := by
  induction d with
  | zero =>
    intro k i u a b c e
    simp only [tollhouselaw19_SlotsNext.l1]
    rw [w64 (x := x1) (by omega) (by omega), if_neg (by omega), if_pos (by omega), wakes_yes (by omega)]; rfl
  | succ d ih =>
    intro k i u a b c e
    rw [show k + (d + 1) + 10 = (k + d + 10) + 1 by omega, tollhouselaw19_SlotsNext.l1]
    rw [w64 (x := x1) (by omega) (by omega), if_pos (by omega), next_yes (by omega) h0 h1 (by omega) (by omega)]
    simp only [Option.bind_some]
    have hn : nx x7 u = (u + 4) % 4294967296 := by unfold nx; omega
    rw [if_pos trivial, if_pos hn, w64 (x := i + 1) (by omega) (by omega)]
    exact ih k (i + 1) (nx x7 u) (by omega) (by omega) (by omega) (by rw [hn]; omega)

theorem SlotsNext : tollhouselaw19_SlotsNext.Pure := by
  intro a0 a1 a2 w0 w1 w2
  obtain ⟨h0, h1⟩ := wf_u8 w0
  obtain ⟨h2, h3⟩ := wf_u8 w1
  obtain ⟨h4, h5⟩ := wf_u32 w2
  unfold tollhouselaw19_SlotsNext.f
  rw [w64 (x := a0) (by omega) (by omega), Int.tmod_eq_emod_of_nonneg h0]
  generalize hp : a0 % 4 = p
  have g0 : 0 ≤ p := by omega
  have g1 : p < 4 := by omega
  clear hp
  have hb := nx_bd p a2
  have hn : (nx p a2 - a2) % 4294967296 = (p - a2 - 1) % 4 + 1 := by unfold nx; omega
  have ho : nx p a2 % 4 = p := by unfold nx; omega
  refine ⟨400 + (((nx p a2 - a2) % 4294967296 - 1).toNat + 1 + 1), ?_⟩
  rw [next_yes (by omega) g0 g1 h4 h5]
  simp only [Option.bind_some]
  rw [if_pos trivial, owner (by omega) (by omega)]
  simp only [Option.bind_some]
  rw [if_pos ho, if_neg (by omega)]
  show tollhouselaw19_SlotsNext.j0 ((400 + (((nx p a2 - a2) % 4294967296 - 1).toNat + 1)) + 1) _ _ _ _ _ = _
  simp only [tollhouselaw19_SlotsNext.j0]
  rw [if_neg (by simp; omega)]
  show tollhouselaw19_SlotsNext.l0 (400 + ((nx p a2 - a2) % 4294967296 - 1).toNat + 1) _ _ _ _ _ = _
  rw [upto_l0 g0 g1 h4 h5 rfl _ 1 (by omega) (by omega) (by omega)]
  have e : 400 = (390 - a1.toNat) + a1.toNat + 10 := by omega
  rw [e]
  exact upto_l1 h2 h3 g0 g1 hb.1 hb.2 ho _ _ 0 _ (by omega) (by omega) (by omega) (by omega)

end Go.Proofs.Ytipiooolplgjjaa.Pure

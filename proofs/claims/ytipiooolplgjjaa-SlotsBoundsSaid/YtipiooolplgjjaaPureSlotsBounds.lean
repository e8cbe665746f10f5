/- For every k and start, a bound grows by eighty ticks with each k, and has as many own slots of each place as twenty times k and eight (SlotsBounds). There are no conditions. -/
import Derived.Test.YtipiooolplgjjaaPSlotsBoundsx1
namespace Go.Proofs.Ytipiooolplgjjaa.Pure
open Go.RowKit Go.Proofs.Ytipiooolplgjjaa.PSlotsBounds Go.Proofs.YtipiooolplgjjaaW.PrintWords Go.Proofs.YtipiooolplgjjaaW.PrintLast
set_option linter.unusedVariables false
theorem w64 {x : Int} (h : -9223372036854775808 ≤ x) (h' : x < 9223372036854775808) : wrap64 x = x := by
  unfold wrap64; omega
theorem wf_u8 {a : Int} (h : (Lit.int .u8 a).wf = true) : 0 ≤ a ∧ a < 256 := by
  simp [Lit.wf, IntKind.min, IntKind.max, IntKind.signed, IntKind.bits] at h; omega
theorem wf_u16 {a : Int} (h : (Lit.int .u16 a).wf = true) : 0 ≤ a ∧ a < 65536 := by
  simp [Lit.wf, IntKind.min, IntKind.max, IntKind.signed, IntKind.bits] at h; omega
theorem wf_u32 {a : Int} (h : (Lit.int .u32 a).wf = true) : 0 ≤ a ∧ a < 4294967296 := by
  simp [Lit.wf, IntKind.min, IntKind.max, IntKind.signed, IntKind.bits] at h; omega
theorem owner {t : Int} (h0 : 0 ≤ t) (h1 : t < 4294967296) : slots_Owner.f t = some (t % 4) := by
  unfold slots_Owner.f; rw [Int.tmod_eq_emod_of_nonneg h0, w64 (by omega) (by omega)]
theorem has_yes {k : Nat} {p : Int} (hk : 2 ≤ k) (h0 : 0 ≤ p) (h1 : p < 4) : slots_has.f k [p] = some true := by
  obtain ⟨k, rfl⟩ : ∃ m, k = m + 2 := ⟨k - 2, by omega⟩
  have e : wrap64 (0 + 1) = 1 := w64 (by omega) (by omega)
  have r : rd [p] 0 = p := rfl
  unfold slots_has.f
  simp only [slots_has.l0, List.length_cons, List.length_nil]
  rw [if_pos (by decide), if_pos (by decide), if_pos (by decide), r, if_neg (by omega), if_neg (by omega), e, if_neg (by decide)]
def nx (p t : Int) : Int := (t + ((p - t - 1) % 4 + 1)) % 4294967296
theorem next_yes {k : Nat} {p t : Int} (hk : 5 ≤ k) (h0 : 0 ≤ p) (h1 : p < 4) (h2 : 0 ≤ t) (h3 : t < 4294967296) : slots_Next.f k p t = some (nx p t, 0) := by
  obtain ⟨k, rfl⟩ : ∃ m, k = m + 5 := ⟨k - 5, by omega⟩
  unfold slots_Next.f
  rw [has_yes (by omega) h0 h1]
  simp only [Option.bind_some, if_true, slots_Next.l0]
  have c : (p - t - 1) % 4 = 0 ∨ (p - t - 1) % 4 = 1 ∨ (p - t - 1) % 4 = 2 ∨ (p - t - 1) % 4 = 3 := by omega
  unfold nx
  rcases c with c | c | c | c <;> rw [c]
  · rw [owner (by omega) (by omega)]; simp only [Option.bind_some]; rw [if_pos (by omega)]; congr 2
  · rw [owner (by omega) (by omega)]; simp only [Option.bind_some]; rw [if_neg (by omega)]
    rw [owner (by omega) (by omega)]; simp only [Option.bind_some]; rw [if_pos (by omega)]; congr 2; omega
  · rw [owner (by omega) (by omega)]; simp only [Option.bind_some]; rw [if_neg (by omega)]
    rw [owner (by omega) (by omega)]; simp only [Option.bind_some]; rw [if_neg (by omega)]
    rw [owner (by omega) (by omega)]; simp only [Option.bind_some]; rw [if_pos (by omega)]; congr 2; omega
  · rw [owner (by omega) (by omega)]; simp only [Option.bind_some]; rw [if_neg (by omega)]
    rw [owner (by omega) (by omega)]; simp only [Option.bind_some]; rw [if_neg (by omega)]
    rw [owner (by omega) (by omega)]; simp only [Option.bind_some]; rw [if_neg (by omega)]
    rw [owner (by omega) (by omega)]; simp only [Option.bind_some]; rw [if_pos (by omega)]; congr 2; omega
theorem nx_bd (p t : Int) : 0 ≤ nx p t ∧ nx p t < 4294967296 := by unfold nx; omega
theorem upto {p t : Int} (h0 : 0 ≤ p) (h1 : p < 4) (h2 : 0 ≤ t) (h3 : t < 4294967296) : slots_upto.f p t = some ((t + 4 - p) / 4) := by
  unfold slots_upto.f
  rw [w64 (x := t) (by omega) (by omega), w64 (x := t + 4) (by omega) (by omega), w64 (x := t + 4 - p) (by omega) (by omega), Int.tdiv_eq_ediv_of_nonneg (by omega), w64 (by omega) (by omega)]
def cnt (p a b : Int) : Int := if b ≤ a then 0 else (b + 4 - p) / 4 - (a + 4 - p) / 4
theorem count_yes {k : Nat} {p a b : Int} (hk : 2 ≤ k) (h0 : 0 ≤ p) (h1 : p < 4) (h2 : 0 ≤ a) (h3 : a < 4294967296) (h4 : 0 ≤ b) (h5 : b < 4294967296) :
    slots_Count.f k p a b = some (cnt p a b) := by
  obtain ⟨k, rfl⟩ : ∃ m, k = m + 2 := ⟨k - 2, by omega⟩
  unfold slots_Count.f cnt
  rw [has_yes (by omega) h0 h1]
  simp only [Option.bind_some, if_true, slots_Count.j0]
  by_cases c : b ≤ a
  · rw [if_pos (by simpa using c), if_pos c]
  · rw [if_neg (by simpa using c), if_neg c, upto h0 h1 h4 h5, upto h0 h1 h2 h3]
    simp only [Option.bind_some]; rw [w64 (by omega) (by omega)]
theorem bound_yes {n : Int} (h0 : 1 ≤ n) (h1 : n ≤ 1000) : slots_Bound.f n = some (80 * n + 32) := by
  unfold slots_Bound.f
  rw [if_neg (by omega), if_neg (by omega), w64 (x := 20 * n) (by omega) (by omega), w64 (x := 20 * n + 8) (by omega) (by omega), w64 (by omega) (by omega)]
  congr 1; omega
theorem wakes_yes {k : Nat} (hk : 6 ≤ k) : tollhouselaw19_wakes.f k = some true :=
  at_rounds tollhouselaw19_wakes.mono hk (by decide +kernel)

theorem round {k : Nat} {n f p : Int} (h0 : 0 ≤ p) (h1 : p < 4) (h2 : 0 ≤ f) (h3 : f < 1073741824) (h4 : 1 ≤ n) (h5 : n < 300) :
    tollhouselaw19_SlotsBounds.l0 (k + 20) n (80 * n + 32) f p = tollhouselaw19_SlotsBounds.l0 (k + 19) n (80 * n + 32) f (p + 1) := by
  simp only [tollhouselaw19_SlotsBounds.l0]
  rw [if_pos h1, show (f + (80 * n + 32) % 4294967296) % 4294967296 = f + (80 * n + 32) by omega, count_yes (by omega) h0 h1 h2 (by omega) (by omega) (by omega)]
  simp only [Option.bind_some]
  rw [w64 (x := 20 * n) (by omega) (by omega), w64 (x := 20 * n + 8) (by omega) (by omega), if_pos (by unfold cnt; rw [if_neg (by omega)]; omega), w64 (x := p + 1) (by omega) (by omega)]

theorem SlotsBounds : tollhouselaw19_SlotsBounds.Pure := by
  intro a0 a1 w0 w1
  obtain ⟨h0, h1⟩ := wf_u8 w0
  obtain ⟨h2, h3⟩ := wf_u32 w1
  refine ⟨40, ?_⟩
  unfold tollhouselaw19_SlotsBounds.f
  rw [w64 (x := a0) (by omega) (by omega), w64 (x := 1 + a0) (by omega) (by omega), Int.tmod_eq_emod_of_nonneg h2, bound_yes (by omega) (by omega)]
  simp only [Option.bind_some]
  generalize hf : a1 % 1073741824 = f
  have g0 : 0 ≤ f := by omega
  have g1 : f < 1073741824 := by omega
  clear hf
  rw [round (k := 20) (by omega) (by omega) g0 g1 (by omega) (by omega), round (k := 19) (by omega) (by omega) g0 g1 (by omega) (by omega),
    round (k := 18) (by omega) (by omega) g0 g1 (by omega) (by omega), round (k := 17) (by omega) (by omega) g0 g1 (by omega) (by omega)]
  simp only [tollhouselaw19_SlotsBounds.l0, Int.reduceAdd]
  rw [if_neg (by omega), w64 (x := 1 + a0 + 1) (by omega) (by omega), bound_yes (by omega) (by omega)]
  simp only [Option.bind_some]
  rw [w64 (x := 80 * (1 + a0) + 32 + 80) (by omega) (by omega), if_pos (by omega), w64 (x := 80 * (1 + a0)) (by omega) (by omega), w64 (by omega) (by omega), if_pos rfl, wakes_yes (by omega)]
  rfl

end Go.Proofs.Ytipiooolplgjjaa.Pure

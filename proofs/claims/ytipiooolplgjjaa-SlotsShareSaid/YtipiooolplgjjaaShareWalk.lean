/- walk -/
import Derived.Test.YtipiooolplgjjaaPSlotsSharex1
namespace Go.Proofs.Ytipiooolplgjjaa.ShareWalk
open Go.RowKit Go.Proofs.Ytipiooolplgjjaa.PSlotsShare Go.Proofs.YtipiooolplgjjaaW.PrintWords Go.Proofs.YtipiooolplgjjaaW.PrintLast Go.Proofs.YtipiooolplgjjaaW.PrintMore
set_option linter.unusedVariables false
theorem w64 {x : Int} (h : -9223372036854775808 ≤ x) (h' : x < 9223372036854775808) : wrap64 x = x := by
  unfold wrap64; omega
theorem wf_u8 {a : Int} (h : (Lit.int .u8 a).wf = true) : 0 ≤ a ∧ a < 256 := by
  simp [Lit.wf, IntKind.min, IntKind.max, IntKind.signed, IntKind.bits] at h; omega
theorem wf_u16 {a : Int} (h : (Lit.int .u16 a).wf = true) : 0 ≤ a ∧ a < 65536 := by
  simp [Lit.wf, IntKind.min, IntKind.max, IntKind.signed, IntKind.bits] at h; omega
theorem wf_u32 {a : Int} (h : (Lit.int .u32 a).wf = true) : 0 ≤ a ∧ a < 4294967296 := by
  simp [Lit.wf, IntKind.min, IntKind.max, IntKind.signed, IntKind.bits] at h; omega
theorem owner {t : Int} (h0 : 0 ≤ t) (h1 : t < 4294967296) : slots_Owner.f t = some (t % 4) := by
  unfold slots_Owner.f; rw [Int.tmod_eq_emod_of_nonneg h0, w64 (by omega) (by omega)]
theorem has_yes {k : Nat} {p : Int} (hk : 2 ≤ k) (h0 : 0 ≤ p) (h1 : p < 4) : slots_has.f k [p] = some true := by
  obtain ⟨k, rfl⟩ : ∃ m, k = m + 2 := ⟨k - 2, by omega⟩
  have e : wrap64 (0 + 1) = 1 := w64 (by omega) (by omega)
  have r : rd [p] 0 = p := rfl
  unfold slots_has.f
  simp only [slots_has.l0, List.length_cons, List.length_nil]
  rw [if_pos (by decide), if_pos (by decide), if_pos (by decide), r, if_neg (by omega), if_neg (by omega), e, if_neg (by decide)]
def nx (p t : Int) : Int := (t + ((p - t - 1) % 4 + 1)) % 4294967296
theorem next_yes {k : Nat} {p t : Int} (hk : 5 ≤ k) (h0 : 0 ≤ p) (h1 : p < 4) (h2 : 0 ≤ t) (h3 : t < 4294967296) : slots_Next.f k p t = some (nx p t, 0) := by
  obtain ⟨k, rfl⟩ : ∃ m, k = m + 5 := ⟨k - 5, by omega⟩
  unfold slots_Next.f
  rw [has_yes (by omega) h0 h1]
  simp only [Option.bind_some, if_true, slots_Next.l0]
  have c : (p - t - 1) % 4 = 0 ∨ (p - t - 1) % 4 = 1 ∨ (p - t - 1) % 4 = 2 ∨ (p - t - 1) % 4 = 3 := by omega
  unfold nx
  rcases c with c | c | c | c <;> rw [c]
  · rw [owner (by omega) (by omega)]; simp only [Option.bind_some]; rw [if_pos (by omega)]; congr 2
  · rw [owner (by omega) (by omega)]; simp only [Option.bind_some]; rw [if_neg (by omega)]
    rw [owner (by omega) (by omega)]; simp only [Option.bind_some]; rw [if_pos (by omega)]; congr 2; omega
  · rw [owner (by omega) (by omega)]; simp only [Option.bind_some]; rw [if_neg (by omega)]
    rw [owner (by omega) (by omega)]; simp only [Option.bind_some]; rw [if_neg (by omega)]
    rw [owner (by omega) (by omega)]; simp only [Option.bind_some]; rw [if_pos (by omega)]; congr 2; omega
  · rw [owner (by omega) (by omega)]; simp only [Option.bind_some]; rw [if_neg (by omega)]
    rw [owner (by omega) (by omega)]; simp only [Option.bind_some]; rw [if_neg (by omega)]
    rw [owner (by omega) (by omega)]; simp only [Option.bind_some]; rw [if_neg (by omega)]
    rw [owner (by omega) (by omega)]; simp only [Option.bind_some]; rw [if_pos (by omega)]; congr 2; omega
theorem nx_bd (p t : Int) : 0 ≤ nx p t ∧ nx p t < 4294967296 := by unfold nx; omega
theorem upto {p t : Int} (h0 : 0 ≤ p) (h1 : p < 4) (h2 : 0 ≤ t) (h3 : t < 4294967296) : slots_upto.f p t = some ((t + 4 - p) / 4) := by
  unfold slots_upto.f
  rw [w64 (x := t) (by omega) (by omega), w64 (x := t + 4) (by omega) (by omega), w64 (x := t + 4 - p) (by omega) (by omega), Int.tdiv_eq_ediv_of_nonneg (by omega), w64 (by omega) (by omega)]
def cnt (p a b : Int) : Int := if b ≤ a then 0 else (b + 4 - p) / 4 - (a + 4 - p) / 4
theorem count_yes {k : Nat} {p a b : Int} (hk : 2 ≤ k) (h0 : 0 ≤ p) (h1 : p < 4) (h2 : 0 ≤ a) (h3 : a < 4294967296) (h4 : 0 ≤ b) (h5 : b < 4294967296) :
    slots_Count.f k p a b = some (cnt p a b) := by
  obtain ⟨k, rfl⟩ : ∃ m, k = m + 2 := ⟨k - 2, by omega⟩
  unfold slots_Count.f cnt
  rw [has_yes (by omega) h0 h1]
  simp only [Option.bind_some, if_true, slots_Count.j0]
  by_cases c : b ≤ a
  · rw [if_pos (by simpa using c), if_pos c]
  · rw [if_neg (by simpa using c), if_neg c, upto h0 h1 h4 h5, upto h0 h1 h2 h3]
    simp only [Option.bind_some]; rw [w64 (by omega) (by omega)]
theorem bound_yes {n : Int} (h0 : 1 ≤ n) (h1 : n ≤ 1000) : slots_Bound.f n = some (80 * n + 32) := by
  unfold slots_Bound.f
  rw [if_neg (by omega), if_neg (by omega), w64 (x := 20 * n) (by omega) (by omega), w64 (x := 20 * n + 8) (by omega) (by omega), w64 (by omega) (by omega)]
  congr 1; omega
theorem wakes_yes {k : Nat} (hk : 6 ≤ k) : tollhouselaw19_wakes.f k = some true :=
  at_rounds tollhouselaw19_wakes.mono hk (by decide +kernel)

theorem share_round {a n p : Int} (h0 : 0 ≤ p) (h1 : p < 4) (h2 : 0 ≤ a) (h3 : a < 2147483648) (h4 : 0 ≤ n) (h5 : n < 65536) :
    cnt p a (a + 4) = 1 ∧ 0 ≤ cnt p a (a + n) ∧ n / 4 ≤ cnt p a (a + n) ∧ cnt p a (a + n) ≤ n / 4 + 1 ∧ a < nx p a ∧ nx p a ≤ a + 4 ∧ nx p a % 4 = p ∧ nx p (nx p a) = nx p a + 4 := by
  have hc : cnt p a (a + n) = if a + n ≤ a then 0 else (a + n + 4 - p) / 4 - (a + 4 - p) / 4 := rfl
  have hd : cnt p a (a + 4) = 1 := by unfold cnt; rw [if_neg (by omega)]; omega
  have hn : nx p a = a + ((p - a - 1) % 4 + 1) := by unfold nx; omega
  have hn' : nx p (nx p a) = nx p a + 4 := by rw [hn]; unfold nx; omega
  have hcb : 0 ≤ cnt p a (a + n) ∧ n / 4 ≤ cnt p a (a + n) ∧ cnt p a (a + n) ≤ n / 4 + 1 := by rw [hc]; split <;> omega
  exact ⟨hd, hcb.1, hcb.2.1, hcb.2.2, by omega, by omega, by omega, hn'⟩
def sums (a n p : Int) : Int := (if 1 ≤ p then cnt 0 a (a + n) else 0) + (if 2 ≤ p then cnt 1 a (a + n) else 0) + (if 3 ≤ p then cnt 2 a (a + n) else 0) + (if 4 ≤ p then cnt 3 a (a + n) else 0)
theorem sums_next {a n p : Int} (h0 : 0 ≤ p) (h1 : p < 4) : sums a n (p + 1) = sums a n p + cnt p a (a + n) := by
  have c : p = 0 ∨ p = 1 ∨ p = 2 ∨ p = 3 := by omega
  rcases c with rfl | rfl | rfl | rfl <;> simp [sums]
theorem sums_zero {a n : Int} : sums a n 0 = 0 := by simp [sums]
theorem sums_bd {a n p : Int} (h2 : 0 ≤ a) (h4 : 0 ≤ n) (h5 : n < 65536) : 0 ≤ sums a n p ∧ sums a n p ≤ 1000000 := by
  have c (q : Int) : 0 ≤ cnt q a (a + n) ∧ cnt q a (a + n) ≤ 100000 := by unfold cnt; split <;> omega
  have c0 := c 0
  have c1 := c 1
  have c2 := c 2
  have c3 := c 3
  clear c
  unfold sums
  generalize cnt 0 a (a + n) = x0 at *
  generalize cnt 1 a (a + n) = x1 at *
  generalize cnt 2 a (a + n) = x2 at *
  generalize cnt 3 a (a + n) = x3 at *
  constructor <;> (split <;> split <;> split <;> split <;> omega)
theorem four_parts (t : Int) : (t + 4 - 0) / 4 + (t + 4 - 1) / 4 + (t + 4 - 2) / 4 + (t + 4 - 3) / 4 = t + 1 := by
  obtain ⟨q, r, rfl, h0, h1⟩ : ∃ q r : Int, t = 4 * q + r ∧ 0 ≤ r ∧ r < 4 := ⟨t / 4, t % 4, by omega, by omega, by omega⟩
  have c : r = 0 ∨ r = 1 ∨ r = 2 ∨ r = 3 := by omega
  rcases c with rfl | rfl | rfl | rfl <;> omega
theorem sums_four {a n : Int} (h4 : 0 ≤ n) : sums a n 4 = n := by
  have e : sums a n 4 = cnt 0 a (a + n) + cnt 1 a (a + n) + cnt 2 a (a + n) + cnt 3 a (a + n) := by simp [sums]
  rw [e]
  unfold cnt
  by_cases c : a + n ≤ a
  · simp only [if_pos c]; omega
  · simp only [if_neg c]
    have f1 := four_parts (a + n)
    have f2 := four_parts a
    generalize (a + n + 4 - 0) / 4 = x0 at *
    generalize (a + n + 4 - 1) / 4 = x1 at *
    generalize (a + n + 4 - 2) / 4 = x2 at *
    generalize (a + n + 4 - 3) / 4 = x3 at *
    generalize (a + 4 - 0) / 4 = y0 at *
    generalize (a + 4 - 1) / 4 = y1 at *
    generalize (a + 4 - 2) / 4 = y2 at *
    generalize (a + 4 - 3) / 4 = y3 at *
    omega

set_option maxHeartbeats 1000000 in
set_option maxRecDepth 100000 in
theorem share_walk (a0 n : Int) (w : World) (h0 : 0 ≤ a0) (h1 : a0 < 4294967296) (h4 : 0 ≤ n) (h5 : n < 65536) :
    Calls Try.prog 7 #[.int .u32 a0, .int .u16 n] w fun e w' => e = .returned (.bool true) ∧ Below w.heap.size w w' := by
  have HB := Aside0.mk (Below.refl w.heap.size w)
  have e3 : Aside0 (0 ≤ a0 % 2147483648 ∧ a0 % 2147483648 < 2147483648) := ⟨by omega⟩
  go_enter Try.func7, Try.ntmps7
  go_wp2
  have g0 := e3.out.1
  have g1 := e3.out.2
  clear e3
  generalize a0 % 2147483648 = a at *
  go_loopw [7, 8] (fun s p w' => ∃ pi : Int, 0 ≤ pi ∧ pi ≤ 4 ∧ p = .int .i64 pi ∧ s = .int .i64 (sums a n pi) ∧ Aside0 (Below w.heap.size w w')) (fun _ p _ => (4 - intOf p).toNat)
  case atStart => exact ⟨0, by omega, by omega, rfl, by rw [sums_zero], HB⟩
  case round =>
    clear HB
    obtain ⟨p, hp0, hp1, rfl, rfl, HB⟩ := hrel
    by_cases hlt : p < 4
    · have R := Aside0.mk (share_round hp0 hlt g0 g1 h4 h5)
      have S := Aside0.mk (sums_next (a := a) (n := n) hp0 hlt)
      have r1 := R.out.2.1
      have r2 := R.out.2.2.1
      have r3 := R.out.2.2.2.1
      have r4 := R.out.2.2.2.2.1
      have r5 := R.out.2.2.2.2.2.1
      have r6 := (sums_bd (p := p) g0 h4 h5).1
      have r7 := (sums_bd (p := p) g0 h4 h5).2
      have r8 : cnt p a (a + n) ≤ 100000 := by omega
      have K1 := Aside0.mk (count_yes (k := 5) (by omega) hp0 hlt g0 (by omega) (b := a + n) (by omega) (by omega))
      have K2 := Aside0.mk (count_yes (k := 5) (by omega) hp0 hlt g0 (by omega) (b := a + 4) (by omega) (by omega))
      have N1 := Aside0.mk (next_yes (k := 5) (by omega) hp0 hlt g0 (by omega))
      have N2 := Aside0.mk (next_yes (k := 5) (t := nx p a) (by omega) hp0 hlt (by omega) (by omega))
      go_wp2_with fail
      (with_reducible refine (slots_Count.calls 5 p a (a + n) _ _ K1.out).mono ?_)
      rintro e w1 ⟨rfl, hb1⟩
      have B1 := Aside0.mk (below_step HB.out hb1)
      clear hb1 HB
      generalize cnt p a (a + n) = c at *
      go_wp2_with fail
      (with_reducible refine (slots_Count.calls 5 p a (a + 4) _ _ K2.out).mono ?_)
      rintro e w2 ⟨rfl, hb2⟩
      rw [R.out.1]
      have B2 := Aside0.mk (below_step B1.out hb2)
      clear hb2 B1
      go_wp2_with fail
      (with_reducible refine (slots_Next.calls 5 p a _ _ _ N1.out).mono ?_)
      rintro e w3 ⟨rfl, hb3⟩
      have B3 := Aside0.mk (below_step B2.out hb3)
      clear hb3 B2
      go_wp2_with fail
      (with_reducible refine (slots_Owner.calls _ _ _ (owner (t := nx p a) (by omega) (by omega))).mono ?_)
      rintro e w4 ⟨rfl, hd4⟩
      rw [R.out.2.2.2.2.2.2.1]
      have B4 := Aside0.mk (below_step B3.out hd4.below)
      clear hd4 B3
      go_wp2_with fail
      (with_reducible refine (slots_Next.calls 5 p (nx p a) _ _ _ N2.out).mono ?_)
      rintro e w5 ⟨rfl, hb5⟩
      rw [R.out.2.2.2.2.2.2.2]
      have B5 := Aside0.mk (below_step B4.out hb5)
      clear hb5 B4 N1 N2 K1 K2 R
      generalize nx p a = t at *
      go_wp2_with fail
      go_roundw
      case measure => simp [intOf]; omega
      case rel => exact ⟨p + 1, by omega, by omega, rfl, by rw [S.out], B5⟩
    · have : p = 4 := by omega
      subst this
      have F := Aside0.mk (sums_four (a := a) h4)
      rw [F.out]
      clear F
      go_wp2_with fail
      (with_reducible refine (tollhouselaw19_wakes.calls 6 _ _ (wakes_yes (by omega))).mono ?_)
      rintro e w6 ⟨rfl, hb6⟩
      have B6 := Aside0.mk (below_step HB.out hb6)
      clear hb6 HB
      go_wp2
      go_ret
      exact ⟨rfl, B6.out⟩

end Go.Proofs.Ytipiooolplgjjaa.ShareWalk

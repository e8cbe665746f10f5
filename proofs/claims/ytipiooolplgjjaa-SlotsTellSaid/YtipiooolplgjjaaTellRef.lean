/- The reference's functions of the slots, walked for all inputs in range. -/
import Derived.Test.YtipiooolplgjjaaPSlotsSharex1
import Derived.Test.YtipiooolplgjjaaGrow
namespace Go.Proofs.Ytipiooolplgjjaa.TellRef
open Go.RowKit Go.Proofs.Ytipiooolplgjjaa.PSlotsShare Go.Proofs.YtipiooolplgjjaaW.PrintWords Go.Proofs.YtipiooolplgjjaaW.PrintLast Go.Proofs.YtipiooolplgjjaaW.PrintMore Go.Proofs.Ytipiooolplgjjaa.Grow
set_option linter.unusedVariables false
theorem w64 {x : Int} (h : -9223372036854775808 ≤ x) (h' : x < 9223372036854775808) : wrap64 x = x := by
  unfold wrap64; omega
theorem wf_u8 {a : Int} (h : (Lit.int .u8 a).wf = true) : 0 ≤ a ∧ a < 256 := by
  simp [Lit.wf, IntKind.min, IntKind.max, IntKind.signed, IntKind.bits] at h; omega
theorem wf_u16 {a : Int} (h : (Lit.int .u16 a).wf = true) : 0 ≤ a ∧ a < 65536 := by
  simp [Lit.wf, IntKind.min, IntKind.max, IntKind.signed, IntKind.bits] at h; omega
theorem wf_u32 {a : Int} (h : (Lit.int .u32 a).wf = true) : 0 ≤ a ∧ a < 4294967296 := by
  simp [Lit.wf, IntKind.min, IntKind.max, IntKind.signed, IntKind.bits] at h; omega
theorem owner {t : Int} (h0 : 0 ≤ t) (h1 : t < 4294967296) : slots_Owner.f t = some (t % 4) := by
  unfold slots_Owner.f; rw [Int.tmod_eq_emod_of_nonneg h0, w64 (by omega) (by omega)]
theorem has_yes {k : Nat} {p : Int} (hk : 2 ≤ k) (h0 : 0 ≤ p) (h1 : p < 4) : slots_has.f k [p] = some true := by
  obtain ⟨k, rfl⟩ : ∃ m, k = m + 2 := ⟨k - 2, by omega⟩
  have e : wrap64 (0 + 1) = 1 := w64 (by omega) (by omega)
  have r : rd [p] 0 = p := rfl
  unfold slots_has.f
  simp only [slots_has.l0, List.length_cons, List.length_nil]
  rw [if_pos (by decide), if_pos (by decide), if_pos (by decide), r, if_neg (by omega), if_neg (by omega), e, if_neg (by decide)]
def nx (p t : Int) : Int := (t + ((p - t - 1) % 4 + 1)) % 4294967296
theorem next_yes {k : Nat} {p t : Int} (hk : 5 ≤ k) (h0 : 0 ≤ p) (h1 : p < 4) (h2 : 0 ≤ t) (h3 : t < 4294967296) : slots_Next.f k p t = some (nx p t, 0) := by
  obtain ⟨k, rfl⟩ : ∃ m, k = m + 5 := ⟨k - 5, by omega⟩
  unfold slots_Next.f
  rw [has_yes (by omega) h0 h1]
  simp only [Option.bind_some, if_true, slots_Next.l0]
  have c : (p - t - 1) % 4 = 0 ∨ (p - t - 1) % 4 = 1 ∨ (p - t - 1) % 4 = 2 ∨ (p - t - 1) % 4 = 3 := by omega
  unfold nx
  rcases c with c | c | c | c <;> rw [c]
  · rw [owner (by omega) (by omega)]; simp only [Option.bind_some]; rw [if_pos (by omega)]; congr 2
  · rw [owner (by omega) (by omega)]; simp only [Option.bind_some]; rw [if_neg (by omega)]
    rw [owner (by omega) (by omega)]; simp only [Option.bind_some]; rw [if_pos (by omega)]; congr 2; omega
  · rw [owner (by omega) (by omega)]; simp only [Option.bind_some]; rw [if_neg (by omega)]
    rw [owner (by omega) (by omega)]; simp only [Option.bind_some]; rw [if_neg (by omega)]
    rw [owner (by omega) (by omega)]; simp only [Option.bind_some]; rw [if_pos (by omega)]; congr 2; omega
  · rw [owner (by omega) (by omega)]; simp only [Option.bind_some]; rw [if_neg (by omega)]
    rw [owner (by omega) (by omega)]; simp only [Option.bind_some]; rw [if_neg (by omega)]
    rw [owner (by omega) (by omega)]; simp only [Option.bind_some]; rw [if_neg (by omega)]
    rw [owner (by omega) (by omega)]; simp only [Option.bind_some]; rw [if_pos (by omega)]; congr 2; omega
theorem nx_bd (p t : Int) : 0 ≤ nx p t ∧ nx p t < 4294967296 := by unfold nx; omega
theorem upto {p t : Int} (h0 : 0 ≤ p) (h1 : p < 4) (h2 : 0 ≤ t) (h3 : t < 4294967296) : slots_upto.f p t = some ((t + 4 - p) / 4) := by
  unfold slots_upto.f
  rw [w64 (x := t) (by omega) (by omega), w64 (x := t + 4) (by omega) (by omega), w64 (x := t + 4 - p) (by omega) (by omega), Int.tdiv_eq_ediv_of_nonneg (by omega), w64 (by omega) (by omega)]
def cnt (p a b : Int) : Int := if b ≤ a then 0 else (b + 4 - p) / 4 - (a + 4 - p) / 4
theorem count_yes {k : Nat} {p a b : Int} (hk : 2 ≤ k) (h0 : 0 ≤ p) (h1 : p < 4) (h2 : 0 ≤ a) (h3 : a < 4294967296) (h4 : 0 ≤ b) (h5 : b < 4294967296) :
    slots_Count.f k p a b = some (cnt p a b) := by
  obtain ⟨k, rfl⟩ : ∃ m, k = m + 2 := ⟨k - 2, by omega⟩
  unfold slots_Count.f cnt
  rw [has_yes (by omega) h0 h1]
  simp only [Option.bind_some, if_true, slots_Count.j0]
  by_cases c : b ≤ a
  · rw [if_pos (by simpa using c), if_pos c]
  · rw [if_neg (by simpa using c), if_neg c, upto h0 h1 h4 h5, upto h0 h1 h2 h3]
    simp only [Option.bind_some]; rw [w64 (by omega) (by omega)]
theorem bound_yes {n : Int} (h0 : 1 ≤ n) (h1 : n ≤ 1000) : slots_Bound.f n = some (80 * n + 32) := by
  unfold slots_Bound.f
  rw [if_neg (by omega), if_neg (by omega), w64 (x := 20 * n) (by omega) (by omega), w64 (x := 20 * n + 8) (by omega) (by omega), w64 (by omega) (by omega)]
  congr 1; omega
theorem wakes_yes {k : Nat} (hk : 6 ≤ k) : tollhouselaw19_wakes.f k = some true :=
  at_rounds tollhouselaw19_wakes.mono hk (by decide +kernel)

theorem has_no {k : Nat} {p : Int} (hk : 2 ≤ k) (h : p < 0 ∨ 4 ≤ p) : slots_has.f k [p] = some false := by
  obtain ⟨k, rfl⟩ : ∃ m, k = m + 2 := ⟨k - 2, by omega⟩
  have r : rd [p] 0 = p := rfl
  unfold slots_has.f
  simp only [slots_has.l0, List.length_cons, List.length_nil]
  rw [if_pos (by decide), if_pos (by decide), if_pos (by decide), r]
  by_cases c : p < 0
  · rw [if_pos c]
  · rw [if_neg c, if_pos (by omega)]
theorem next_no {k : Nat} {p t : Int} (hk : 2 ≤ k) (h : p < 0 ∨ 4 ≤ p) : slots_Next.f k p t = some (0, 1) := by
  unfold slots_Next.f
  rw [has_no hk h]
  simp
theorem count_no {k : Nat} {p a b : Int} (hk : 2 ≤ k) (h : p < 0 ∨ 4 ≤ p) : slots_Count.f k p a b = some 0 := by
  obtain ⟨k, rfl⟩ : ∃ m, k = m + 2 := ⟨k - 2, by omega⟩
  unfold slots_Count.f
  rw [has_no hk h]
  simp [slots_Count.j0]

set_option maxHeartbeats 400000 in
theorem ref_owner (t : Int) (w : World) (h0 : 0 ≤ t) (h1 : t < 4294967296) :
    Calls Try.prog 24 #[.int .u32 t] w fun e w' => e = .returned (.int .i64 (t % 4)) ∧ w = w' := by
  go_enter Try.func24, Try.ntmps24
  go_wp2
  go_ret
  exact ⟨rfl, rfl⟩

set_option maxHeartbeats 400000 in
theorem ref_next_no (p t : Int) (w : World) (h : p < 0 ∨ 4 ≤ p) (h2 : 0 ≤ t) (h3 : t < 4294967296) :
    Calls Try.prog 22 #[.int .i64 p, .int .u32 t] w fun e w' => e = .returned (.tuple #[.int .u32 0, .int .i64 1]) ∧ w = w' := by
  have H := Aside0.mk h
  clear h
  go_enter Try.func22, Try.ntmps22
  go_wp2_with fail
  go_loop [6] (fun v => ∃ k : Int, 1 ≤ k ∧ k ≤ 5 ∧ v = .int .u32 k) (fun v => (5 - intOf v).toNat)
  case atStart => exact ⟨1, by omega, by omega, rfl⟩
  case round =>
    obtain ⟨k, k0, k1, rfl⟩ := hrel
    by_cases hlt : k ≤ 4
    · have b0 : 0 ≤ (t + k) % 4294967296 := by omega
      have b1 : (t + k) % 4294967296 < 4294967296 := by omega
      have hne : ((t + k) % 4294967296 % 4 == p) = false := by have := H.out; simp; omega
      have HN := Aside0.mk hne
      clear hne
      go_wp2_with fail
      refine (ref_owner _ _ b0 b1).mono ?_
      rintro e w1 ⟨rfl, rfl⟩
      generalize (t + k) % 4294967296 % 4 = x at *
      have hne := HN.out
      go_wp2_with fail
      go_round
      case rel => exact ⟨k + 1, by omega, by omega, rfl⟩
      case measure => simp [intOf]; omega
    · have : k = 5 := by omega
      subst this
      go_wp2_with fail
      go_ret2
      exact ⟨rfl, rfl⟩

set_option maxHeartbeats 400000 in
theorem ref_next_yes (p t : Int) (w : World) (h0 : 0 ≤ p) (h1 : p < 4) (h2 : 0 ≤ t) (h3 : t < 4294967296) :
    Calls Try.prog 22 #[.int .i64 p, .int .u32 t] w fun e w' => e = .returned (.tuple #[.int .u32 (nx p t), .int .i64 0]) ∧ w = w' := by
  go_enter Try.func22, Try.ntmps22
  go_wp2_with fail
  go_loop [6] (fun v => ∃ k : Int, 1 ≤ k ∧ k ≤ 4 ∧ k ≤ (p - t - 1) % 4 + 1 ∧ v = .int .u32 k) (fun v => (5 - intOf v).toNat)
  case atStart => exact ⟨1, by omega, by omega, by omega, rfl⟩
  case round =>
    obtain ⟨k, k0, k1, k2, rfl⟩ := hrel
    have b0 : 0 ≤ (t + k) % 4294967296 := by omega
    have b1 : (t + k) % 4294967296 < 4294967296 := by omega
    by_cases hlt : k < (p - t - 1) % 4 + 1
    · have hne : ((t + k) % 4294967296 % 4 == p) = false := by simp; omega
      have HN := Aside0.mk hne
      clear hne
      go_wp2_with fail
      refine (ref_owner _ _ b0 b1).mono ?_
      rintro e w1 ⟨rfl, rfl⟩
      generalize (t + k) % 4294967296 % 4 = x at *
      have hne := HN.out
      go_wp2_with fail
      go_round
      case rel => exact ⟨k + 1, by omega, by omega, by omega, rfl⟩
      case measure => simp [intOf]; omega
    · have he : ((t + k) % 4294967296 % 4 == p) = true := by simp; omega
      have HN := Aside0.mk he
      have HX : Aside0 (nx p t = (t + k) % 4294967296) := ⟨by unfold nx; omega⟩
      clear he
      go_wp2_with fail
      refine (ref_owner _ _ b0 b1).mono ?_
      rintro e w1 ⟨rfl, rfl⟩
      have he := HN.out
      generalize (t + k) % 4294967296 % 4 = x at *
      go_wp2_with fail
      go_ret2
      exact ⟨by rw [HX.out]; rfl, rfl⟩

def cval (p a b : Int) : Int := if 0 ≤ p ∧ p < 4 then cnt p a b else 0
theorem cval_no {p a b : Int} (h : p < 0 ∨ 4 ≤ p) : cval p a b = 0 := by unfold cval; rw [if_neg (by omega)]
theorem cval_le {p a b : Int} (h : b ≤ a) : cval p a b = 0 := by unfold cval cnt; rw [if_pos h]; split <;> rfl
theorem cval_yes {p a b : Int} (h0 : 0 ≤ p) (h1 : p < 4) (h : a < b) : cval p a b = (b + 4 - p) / 4 - (a + 4 - p) / 4 := by
  unfold cval cnt; rw [if_pos ⟨h0, h1⟩, if_neg (by omega)]
theorem cnt_step (p a k : Int) (h0 : 0 ≤ p) (h1 : p < 4) (h2 : 0 ≤ a) (hk : 1 ≤ k) : (a + k + 4 - p) / 4 = (a + k - 1 + 4 - p) / 4 + (if (a + k) % 4 = p then 1 else 0) := by
  split <;> omega
theorem cnt_end (p a b : Int) : (b - a) / 4 + ((a + (b - a) % 4 + 4 - p) / 4 - (a + 4 - p) / 4) = (b + 4 - p) / 4 - (a + 4 - p) / 4 := by
  obtain ⟨q, r, e, r0, r1⟩ : ∃ q r : Int, b - a = 4 * q + r ∧ 0 ≤ r ∧ r < 4 := ⟨(b - a) / 4, (b - a) % 4, by omega, by omega, by omega⟩
  have e1 : (b - a) / 4 = q := by omega
  have e2 : (b - a) % 4 = r := by omega
  have e3 : b + 4 - p = (a + r + 4 - p) + 4 * q := by omega
  rw [e1, e2, e3]
  omega

set_option maxHeartbeats 400000 in
theorem ref_count_no (p a b : Int) (w : World) (h : p < 0 ∨ 4 ≤ p) (h2 : 0 ≤ a) (h3 : a < 4294967296) (h4 : 0 ≤ b) (h5 : b < 4294967296) :
    Calls Try.prog 26 #[.int .i64 p, .int .u32 a, .int .u32 b] w fun e w' => e = .returned (.int .i64 0) ∧ w = w' := by
  rcases h with h | h
  · go_enter Try.func26, Try.ntmps26
    go_wp2
    go_ret
    exact ⟨rfl, rfl⟩
  · have h' : ¬ p < 0 := by omega
    go_enter Try.func26, Try.ntmps26
    go_wp2
    go_ret
    exact ⟨rfl, rfl⟩

set_option maxHeartbeats 400000 in
theorem ref_count_le (p a b : Int) (w : World) (h0 : 0 ≤ p) (h1 : p < 4) (h : b ≤ a) (h2 : 0 ≤ a) (h3 : a < 4294967296) (h4 : 0 ≤ b) (h5 : b < 4294967296) :
    Calls Try.prog 26 #[.int .i64 p, .int .u32 a, .int .u32 b] w fun e w' => e = .returned (.int .i64 0) ∧ w = w' := by
  go_enter Try.func26, Try.ntmps26
  go_wp2
  go_ret
  exact ⟨rfl, rfl⟩

set_option maxHeartbeats 800000 in
theorem ref_count_yes (p a b : Int) (w : World) (h0 : 0 ≤ p) (h1 : p < 4) (h : a < b) (h2 : 0 ≤ a) (h3 : a < 4294967296) (h4 : 0 ≤ b) (h5 : b < 4294967296) :
    Calls Try.prog 26 #[.int .i64 p, .int .u32 a, .int .u32 b] w fun e w' => e = .returned (.int .i64 (cval p a b)) ∧ w = w' := by
  have HV := Aside0.mk (cval_yes h0 h1 h)
  have HE := Aside0.mk (cnt_end p a b)
  have hn0 : 0 ≤ (b - a) % 4 := by omega
  have hn1 : (b - a) % 4 < 4 := by omega
  have hba : 0 ≤ b - a := by omega
  have hbb : b - a < 4294967296 := by omega
  have hp3 : p ≤ 3 := by omega
  go_enter Try.func26, Try.ntmps26
  go_wp2_with fail
  go_loop [8, 9] (fun c v => ∃ k : Int, 1 ≤ k ∧ k ≤ (b - a) % 4 + 1 ∧ v = .int .u32 k ∧ c = .int .i64 ((b - a) / 4 + ((a + k - 1 + 4 - p) / 4 - (a + 4 - p) / 4))) (fun _ v => (5 - intOf v).toNat)
  case atStart => exact ⟨1, by omega, by omega, rfl, by congr 1; omega⟩
  case round =>
    obtain ⟨k, k0, k1, rfl, rfl⟩ := hrel
    have HS := Aside0.mk (cnt_step p a k h0 h1 h2 k0)
    have q0 : 0 ≤ (b - a) / 4 + ((a + k - 1 + 4 - p) / 4 - (a + 4 - p) / 4) := by omega
    have q1 : (b - a) / 4 + ((a + k - 1 + 4 - p) / 4 - (a + 4 - p) / 4) < 4294967296 := by omega
    have HQ := Aside0.mk q1
    generalize hg : (b - a) / 4 + ((a + k - 1 + 4 - p) / 4 - (a + 4 - p) / 4) = c at *
    have HG := Aside0.mk hg
    clear hg
    by_cases hlt : k ≤ (b - a) % 4
    · have b0 : 0 ≤ a + k := by omega
      have b1 : a + k < 4294967296 := by omega
      by_cases he : (a + k) % 4 = p
      · have heb : ((a + k) % 4 == p) = true := by simp [he]
        have HB := Aside0.mk heb
        have HE2 := Aside0.mk he
        clear heb he
        go_wp2_with fail
        refine (ref_owner _ _ b0 b1).mono ?_
        rintro e w1 ⟨rfl, rfl⟩
        have heb := HB.out
        generalize (a + k) % 4 = x at *
        go_wp2_with fail
        go_round
        case rel => exact ⟨k + 1, by omega, by omega, rfl, by congr 1; have h6 := HS.out; rw [if_pos HE2.out] at h6; have h7 := HG.out; rw [show a + (k + 1) - 1 + 4 - p = a + k + 4 - p by omega, h6]; omega⟩
        case measure => simp [intOf]; omega
      · have heb : ((a + k) % 4 == p) = false := by simp [he]
        have HB := Aside0.mk heb
        have HE2 := Aside0.mk he
        clear heb he
        go_wp2_with fail
        refine (ref_owner _ _ b0 b1).mono ?_
        rintro e w1 ⟨rfl, rfl⟩
        have heb := HB.out
        generalize (a + k) % 4 = x at *
        go_wp2_with fail
        go_round
        case rel => exact ⟨k + 1, by omega, by omega, rfl, by congr 1; have h6 := HS.out; rw [if_neg HE2.out] at h6; have h7 := HG.out; rw [show a + (k + 1) - 1 + 4 - p = a + k + 4 - p by omega, h6]; omega⟩
        case measure => simp [intOf]; omega
    · have hk : k = (b - a) % 4 + 1 := by omega
      have HK := Aside0.mk hk
      clear hk
      go_wp2_with fail
      go_ret
      exact ⟨by have e : cval p a b = c := by { rw [HV.out, ← HE.out, ← HG.out, show a + k - 1 + 4 - p = a + (b - a) % 4 + 4 - p by have := HK.out; omega] }; rw [e]; rfl, rfl⟩

def bval (n : Int) : Int := if n < 1 ∨ 1000 < n then 0 else 80 * n + 32
set_option maxHeartbeats 400000 in
theorem ref_bound (n : Int) (w : World) : Calls Try.prog 28 #[.int .i64 n] w fun e w' => e = .returned (.int .i64 (bval n)) ∧ w = w' := by
  by_cases c : n < 1
  · have HE : Aside0 (bval n = 0) := ⟨by unfold bval; rw [if_pos (.inl c)]⟩
    go_enter Try.func28, Try.ntmps28
    go_wp2
    go_ret
    exact ⟨by rw [HE.out]; rfl, rfl⟩
  · by_cases d : 1000 < n
    · have HE : Aside0 (bval n = 0) := ⟨by unfold bval; rw [if_pos (.inr d)]⟩
      go_enter Try.func28, Try.ntmps28
      go_wp2
      go_ret
      exact ⟨by rw [HE.out]; rfl, rfl⟩
    · have HE : Aside0 (bval n = 4 * (20 * n + 8)) := ⟨by unfold bval; rw [if_neg (by omega)]; omega⟩
      have c1 : 1 ≤ n := by omega
      have d1 : n ≤ 1000 := by omega
      go_enter Try.func28, Try.ntmps28
      go_wp2
      go_ret
      exact ⟨by rw [HE.out]; rfl, rfl⟩
theorem bound_any (n : Int) : slots_Bound.f n = some (bval n) := by
  by_cases c : 1 ≤ n ∧ n ≤ 1000
  · rw [bound_yes c.1 c.2]; unfold bval; rw [if_neg (by omega)]
  · unfold slots_Bound.f bval
    by_cases d : n < 1
    · rw [if_pos d, if_pos (.inl d)]
    · rw [if_neg d, if_pos (by omega), if_pos (.inr (by omega))]
theorem next_any {p t : Int} (h2 : 0 ≤ t) (h3 : t < 4294967296) : slots_Next.f 5 p t = some (if 0 ≤ p ∧ p < 4 then (nx p t, 0) else (0, 1)) := by
  by_cases c : 0 ≤ p ∧ p < 4
  · rw [next_yes (by omega) c.1 c.2 h2 h3, if_pos c]
  · rw [next_no (by omega) (by omega), if_neg c]
theorem count_any {p a b : Int} (h2 : 0 ≤ a) (h3 : a < 4294967296) (h4 : 0 ≤ b) (h5 : b < 4294967296) : slots_Count.f 5 p a b = some (cval p a b) := by
  by_cases c : 0 ≤ p ∧ p < 4
  · rw [count_yes (by omega) c.1 c.2 h2 h3 h4 h5]; unfold cval; rw [if_pos c]
  · rw [count_no (by omega) (by omega), cval_no (by omega)]
theorem ref_count_any (p a b : Int) (w : World) (h2 : 0 ≤ a) (h3 : a < 4294967296) (h4 : 0 ≤ b) (h5 : b < 4294967296) :
    Calls Try.prog 26 #[.int .i64 p, .int .u32 a, .int .u32 b] w fun e w' => e = .returned (.int .i64 (cval p a b)) ∧ w = w' := by
  by_cases c : 0 ≤ p ∧ p < 4
  · by_cases d : a < b
    · exact ref_count_yes p a b w c.1 c.2 d h2 h3 h4 h5
    · rw [cval_le (by omega)]; exact ref_count_le p a b w c.1 c.2 (by omega) h2 h3 h4 h5
  · rw [cval_no (by omega)]; exact ref_count_no p a b w (by omega) h2 h3 h4 h5
/-- The next turn of a place, and whether there is one. -/
def nt (p t : Int) : Int := if 0 ≤ p ∧ p < 4 then nx p t else 0
def ne_ (p : Int) : Int := if 0 ≤ p ∧ p < 4 then 0 else 1
theorem next_any2 {p t : Int} (h2 : 0 ≤ t) (h3 : t < 4294967296) : slots_Next.f 5 p t = some (nt p t, ne_ p) := by
  rw [next_any h2 h3]; unfold nt ne_; split <;> rfl
theorem ref_next_any (p t : Int) (w : World) (h2 : 0 ≤ t) (h3 : t < 4294967296) :
    Calls Try.prog 22 #[.int .i64 p, .int .u32 t] w fun e w' => e = .returned (.tuple #[.int .u32 (nt p t), .int .i64 (ne_ p)]) ∧ w = w' := by
  by_cases c : 0 ≤ p ∧ p < 4
  · have := ref_next_yes p t w c.1 c.2 h2 h3
    unfold nt ne_; rw [if_pos c, if_pos c]; exact this
  · have := ref_next_no p t w (by omega) h2 h3
    unfold nt ne_; rw [if_neg c, if_neg c]; exact this

end Go.Proofs.Ytipiooolplgjjaa.TellRef

/- The reference's functions of the desk, walked for all inputs. -/
import Derived.Test.YtipiooolplgjjaaPDeskTurnsx4
import Derived.Test.YtipiooolplgjjaaGrow
namespace Go.Proofs.Ytipiooolplgjjaa.DeskRef
open Go.RowKit Go.Proofs.Ytipiooolplgjjaa.PDeskTurns Go.Proofs.YtipiooolplgjjaaW.PrintWords Go.Proofs.YtipiooolplgjjaaW.PrintLast Go.Proofs.YtipiooolplgjjaaW.PrintMore Go.Proofs.Ytipiooolplgjjaa.Grow
set_option linter.unusedVariables false
set_option linter.unusedSimpArgs false

/-- The other node, as both texts have it. -/
def oth (p : Int) : Int := if p = 0 then 1 else 0
def mayv (p : Int) (s : Bool) (n : Int) (up force : Bool) : Int :=
  if (n ≠ 0 ∧ n ≠ 1) ∨ n = p then 1 else if up = false then 20 else if s = false ∧ force = false then 22 else 0
def fd (d l : Int) (s : Bool) : Int := if s = true then Go.bits .or .u16 l d else 4095

set_option maxHeartbeats 400000 in
theorem ref_other (p e : Int) (s : Bool) (w : World) :
    Calls Try.prog 12 #[.agg #[.int .i64 p, .int .u32 e, .bool s]] w fun e w' => e = .returned (.int .i64 (oth p)) ∧ Below w.heap.size w w' := by
  have hu30 := Try.underlying30
  by_cases c : p = 0
  · have HE : Aside0 (oth p = 1) := ⟨by unfold oth; rw [if_pos c]⟩
    have cb : (p == 0) = true := by simp [c]
    clear c
    go_enter Try.func12, Try.ntmps12
    go_wp2
    go_ret
    exact ⟨by rw [HE.out]; rfl, below_alloc (Below.refl _ _) _⟩
  · have HE : Aside0 (oth p = 0) := ⟨by unfold oth; rw [if_neg c]⟩
    have cb : (p == 0) = false := by simp [c]
    clear c
    go_enter Try.func12, Try.ntmps12
    go_wp2
    go_ret
    exact ⟨by rw [HE.out]; rfl, below_alloc (Below.refl _ _) _⟩

set_option maxHeartbeats 400000 in
theorem ref_own (p e : Int) (s : Bool) (w : World) :
    Calls Try.prog 10 #[.agg #[.int .i64 p, .int .u32 e, .bool s]] w fun r w' => r = .returned (.agg #[.int .i64 p, .int .u32 e, .bool s]) ∧ Below w.heap.size w w' := by
  have hu24 := Try.underlying24
  have hu30 := Try.underlying30
  go_enter Try.func10, Try.ntmps10
  go_wp2
  exact bodyPost_ret (v := .agg #[.int .i64 p, .int .u32 e, .bool s]) (by simp [results, Try.results10, go_sem]) rfl ⟨rfl, below_alloc (below_alloc (Below.refl _ _) _) _⟩

set_option maxHeartbeats 400000 in
theorem ref_turn (p e : Int) (s : Bool) (n d : Int) (w : World) :
    Calls Try.prog 18 #[.agg #[.int .i64 p, .int .u32 e, .bool s], .int .i64 n, .int .u16 d] w fun r w' => r = .returned (.agg #[.int .i64 n, .int .u32 ((e + 1) % 4294967296), .bool (d == 0)]) ∧ Below w.heap.size w w' := by
  have hu30 := Try.underlying30
  go_enter Try.func18, Try.ntmps18
  go_wp2
  exact bodyPost_ret (v := .agg #[.int .i64 n, .int .u32 ((e + 1) % 4294967296), .bool (d == 0)]) (by simp [results, Try.results18, go_sem]) rfl ⟨rfl, below_alloc (below_alloc (Below.refl _ _) _) _⟩

set_option maxHeartbeats 1000000 in
theorem ref_may (p e : Int) (s : Bool) (n : Int) (up force : Bool) (w : World) :
    Calls Try.prog 14 #[.agg #[.int .i64 p, .int .u32 e, .bool s], .int .i64 n, .bool up, .bool force] w fun r w' => r = .returned (.int .i64 (mayv p s n up force)) ∧ Below w.heap.size w w' := by
  have hu30 := Try.underlying30
  have key : ∀ (c0 c1 c2 : Bool), (n == 0) = c0 → (n == 1) = c1 → (n == p) = c2 → Calls Try.prog 14 #[.agg #[.int .i64 p, .int .u32 e, .bool s], .int .i64 n, .bool up, .bool force] w fun r w' => r = .returned (.int .i64 (mayv p s n up force)) ∧ Below w.heap.size w w' := by
    intro c0 c1 c2 h0 h1 h2
    have hv : Aside0 (mayv p s n up force = if (c0 = false ∧ c1 = false) ∨ c2 = true then 1 else if up = false then 20 else if s = false ∧ force = false then 22 else 0) := ⟨by
      unfold mayv
      have e0 : (n ≠ 0) ↔ c0 = false := by rw [← h0]; simp
      have e1 : (n ≠ 1) ↔ c1 = false := by rw [← h1]; simp
      have e2 : (n = p) ↔ c2 = true := by rw [← h2]; simp
      simp only [e0, e1, e2]⟩
    have g0 : (n != 0) = !c0 := by rw [← h0]; rfl
    have g1 : (n != 1) = !c1 := by rw [← h1]; rfl
    cases c0 <;> cases c1 <;> cases c2 <;> cases up <;> cases s <;> cases force <;>
      (go_enter Try.func14, Try.ntmps14
       go_wp2
       go_ret
       exact ⟨by rw [hv.out]; rfl, below_alloc (Below.refl _ _) _⟩)
  exact key _ _ _ rfl rfl rfl

theorem bits_or_comm (a b : Int) : Go.bits .or .u16 a b = Go.bits .or .u16 b a := by simp only [Go.bits, BitVec.or_comm]

set_option maxHeartbeats 1000000 in
theorem ref_fresh (p e : Int) (s : Bool) (a b c d l : Int) (w : World) :
    Calls Try.prog 16 #[.agg #[.int .i64 p, .int .u32 e, .bool s], .agg #[.int .u32 a, .int .u32 b, .int .u32 c, .int .u16 d, .int .u16 l]] w fun r w' => r = .returned (.agg #[.int .u32 ((e + 1) % 4294967296), .int .u32 0, .int .u32 1, .int .u16 (fd d l s), .int .u16 0]) ∧ Below w.heap.size w w' := by
  have hu30 := Try.underlying30
  have hu27 := Try.underlying27
  cases s
  · have HE : Aside0 (fd d l false = 4095) := ⟨rfl⟩
    rw [HE.out]
    clear HE
    go_enter Try.func16, Try.ntmps16
    go_wp2
    exact bodyPost_ret (v := .agg #[.int .u32 ((e + 1) % 4294967296), .int .u32 0, .int .u32 1, .int .u16 4095, .int .u16 0]) (by simp [results, Try.results16, go_sem]) rfl ⟨rfl, below_alloc (below_alloc (below_alloc (below_alloc (Below.refl _ _) _) _) _) _⟩
  · have HE : Aside0 (fd d l true = Go.bits .or .u16 d l) := ⟨bits_or_comm l d⟩
    rw [HE.out]
    clear HE
    go_enter Try.func16, Try.ntmps16
    go_wp2
    exact bodyPost_ret (v := .agg #[.int .u32 ((e + 1) % 4294967296), .int .u32 0, .int .u32 1, .int .u16 (Go.bits .or .u16 d l), .int .u16 0]) (by simp [results, Try.results16, go_sem]) rfl ⟨rfl, below_alloc (below_alloc (below_alloc (below_alloc (Below.refl _ _) _) _) _) _⟩

end Go.Proofs.Ytipiooolplgjjaa.DeskRef

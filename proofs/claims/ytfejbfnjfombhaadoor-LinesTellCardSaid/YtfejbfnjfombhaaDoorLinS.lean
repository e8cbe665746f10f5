/- The document's line of a text. -/
import Derived.Test.YtfejbfnjfombhaaDoorLinQ
import Derived.Test.YtfejbfnjfombhaaDoorLinR
namespace Go.Proofs.YtfejbfnjfombhaaDoor.LinS
open Go.RowKit Go.Sort Go.Shelf Go.Lib Go.Proofs.YtfejbfnjfombhaaDoorW.PrintWords Go.Proofs.YtfejbfnjfombhaaDoorW.PrintLast Go.Proofs.YtfejbfnjfombhaaDoorW.PrintMore Go.Proofs.YtfejbfnjfombhaaDoor.LinA Go.Proofs.YtfejbfnjfombhaaDoor.LinB Go.Proofs.YtfejbfnjfombhaaDoor.LinC Go.Proofs.YtfejbfnjfombhaaDoor.LinD Go.Proofs.YtfejbfnjfombhaaDoor.LinE Go.Proofs.YtfejbfnjfombhaaDoor.LinF Go.Proofs.YtfejbfnjfombhaaDoor.LinG Go.Proofs.YtfejbfnjfombhaaDoor.LinN Go.Proofs.YtfejbfnjfombhaaDoor.LinO Go.Proofs.YtfejbfnjfombhaaDoor.LinP Go.Proofs.YtfejbfnjfombhaaDoor.LinQ
set_option linter.unusedVariables false
set_option linter.unusedSimpArgs false
def ansG (o : Option Ln) : Value := .agg #[.int .i64 (o.getD Ln.zero).verb, .string (o.getD Ln.zero).name, .int .i64 (o.getD Ln.zero).n, .int .u32 (o.getD Ln.zero).till, .int .i64 (if o.isSome then 0 else 11)]
set_option maxHeartbeats 4000000 in
set_option maxRecDepth 100000 in
theorem parser_long (s : ByteArray) (hlen : 200 < s.size) (w : World) :
    Calls Tryd.prog 9 #[.string s] w fun e w' => e = .returned (ansG (parseF s)) ∧ Below w.heap.size w w' := by
  have HP := Aside0.mk (show parseF s = none by unfold parseF; rw [if_pos hlen])
  have hd : decide ((200 : Int) < (s.size : Int)) = true := by simp; omega
  go_enter Tryd.func9, Tryd.ntmps9
  go_wp2
  refine bodyPost_ret (results_cell_row rfl _ _ w.heap.size 31 #[.int .i64 0, .string ⟨#[]⟩, .int .i64 0, .int .u32 0, .int .i64 11] (0, 0) _ rfl (blk_alloc (blk_new w (.cells #[.int .i64 0, .string ⟨#[]⟩, .int .i64 0, .int .u32 0, .int .i64 11] 31 (0, 0))) _) Tryd.underlying31 rfl (by kernel_rfl)) rfl ⟨?_, below_alloc (below_alloc (Below.refl _ _) _) _⟩
  rw [HP.out]; rfl

/-- The verb that the words' first is among the first i verbs. -/
def vIdx (w0 : List UInt8) (i : Nat) : Nat := (((forms.take (i - 1)).find? fun f => decide (f.word = w0)).map (·.verb)).getD 0
theorem verb_at (i : Nat) (h1 : 1 ≤ i) (h7 : i ≤ 7) : ∃ f, forms[i - 1]? = some f ∧ f.verb = i ∧ verbCells[i]? = some (.string (ofL f.word)) := by
  have : i = 1 ∨ i = 2 ∨ i = 3 ∨ i = 4 ∨ i = 5 ∨ i = 6 ∨ i = 7 := by omega
  rcases this with rfl | rfl | rfl | rfl | rfl | rfl | rfl <;> exact ⟨_, rfl, rfl, rfl⟩
end Go.Proofs.YtfejbfnjfombhaaDoor.LinS

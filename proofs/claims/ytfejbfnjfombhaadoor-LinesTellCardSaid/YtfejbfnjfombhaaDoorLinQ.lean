/- The document's verbs; a line as the document has it. -/
import Derived.Test.YtfejbfnjfombhaaDoorLinP
namespace Go.Proofs.YtfejbfnjfombhaaDoor.LinQ
open Go.RowKit Go.Sort Go.Shelf Go.Lib Go.Proofs.YtfejbfnjfombhaaDoorW.PrintWords Go.Proofs.YtfejbfnjfombhaaDoorW.PrintLast Go.Proofs.YtfejbfnjfombhaaDoorW.PrintMore Go.Proofs.YtfejbfnjfombhaaDoor.LinA Go.Proofs.YtfejbfnjfombhaaDoor.LinB Go.Proofs.YtfejbfnjfombhaaDoor.LinC Go.Proofs.YtfejbfnjfombhaaDoor.LinD Go.Proofs.YtfejbfnjfombhaaDoor.LinE Go.Proofs.YtfejbfnjfombhaaDoor.LinF Go.Proofs.YtfejbfnjfombhaaDoor.LinG
set_option linter.unusedVariables false
set_option linter.unusedSimpArgs false
def verbCells : Array Value := #[.string ⟨#[]⟩, .string ⟨#[109, 97, 107, 101]⟩, .string ⟨#[103, 111, 110, 101]⟩, .string ⟨#[109, 105, 110, 116]⟩, .string ⟨#[114, 101, 118, 111, 107, 101]⟩, .string ⟨#[112, 114, 111, 109, 111, 116, 101]⟩, .string ⟨#[102, 111, 114, 99, 101]⟩, .string ⟨#[115, 116, 97, 116, 117, 115]⟩]
theorem verbs_any (w : World) : Calls Tryd.prog 19 #[] w fun e w' => e = .returned (.slice (some ⟨w.heap.size, 0, none⟩) 8 8) ∧ w' = w.alloc (.cells verbCells 9 (0, 0)) := by
  go_enter Tryd.func19, Tryd.ntmps19
  go_wp2
  go_ret
  exact ⟨rfl, rfl⟩
theorem own_any (l : Ln) (w : World) : Calls Tryd.prog 12 #[.agg #[.int .i64 l.verb, .string l.name, .int .i64 l.n, .int .u32 l.till]] w fun e w' => e = .returned (.agg #[.int .i64 l.verb, .string l.name, .int .i64 l.n, .int .u32 l.till]) ∧ Below w.heap.size w w' := by
  have B1 := Aside0.mk (below_alloc (below_alloc (Below.refl w.heap.size w) (.cells #[.int .i64 l.verb, .string l.name, .int .i64 l.n, .int .u32 l.till] 24 (0, 0))) (.cells #[.int .i64 l.verb, .string l.name, .int .i64 l.n, .int .u32 l.till] 29 (0, 0)))
  have hz : (w.alloc (.cells #[.int .i64 l.verb, .string l.name, .int .i64 l.n, .int .u32 l.till] 24 (0, 0))).heap.size = w.heap.size + 1 := alloc_size' _ _
  have R0 := blk_new (w.alloc (.cells #[.int .i64 l.verb, .string l.name, .int .i64 l.n, .int .u32 l.till] 24 (0, 0))) (.cells #[.int .i64 l.verb, .string l.name, .int .i64 l.n, .int .u32 l.till] 29 (0, 0))
  rw [hz] at R0
  have R1 := Aside0.mk R0
  clear R0 hz
  go_enter Tryd.func12, Tryd.ntmps12
  go_wp2
  exact bodyPost_ret (results_cell_row rfl _ _ (w.heap.size + 1) 29 #[.int .i64 l.verb, .string l.name, .int .i64 l.n, .int .u32 l.till] (0, 0) _ rfl R1.out Tryd.underlying29 rfl (by kernel_rfl)) rfl ⟨rfl, B1.out⟩
end Go.Proofs.YtfejbfnjfombhaaDoor.LinQ

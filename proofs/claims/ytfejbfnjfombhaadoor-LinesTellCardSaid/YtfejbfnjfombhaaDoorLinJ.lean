/- What a row's condition gives: the library's tables and variables. -/
import Derived.Test.YtfejbfnjfombhaaDoorRows
import Derived.Test.YtfejbfnjfombhaaDoorLinI
import Derived.HandedShaped
import Derived.LaidMore
import Derived.LaidLaws
import Derived.Lib.LaidU8
import Derived.Stop.LaidErr
import Derived.Stop.Joined
namespace Go
variable {H : Type} {enc : TypeId × Value → H}
/-- This seat's wrap: a contract over worlds that have the listed tables AND the program's shape makes a row's claim. -/
theorem row_wrap {C : Checked} {os : Os} {f : FuncId} {fn : Func} {s : ChangeSpec} {L : List (String × DataW Unit)}
    (started : os.Started) (noInit : C.prog.inits.idxOf? f = none) (hfn : C.prog.funcs[f]? = some fn)
    (own : ownKnob C.prog.godebug = none)
    (witness : ∃ (w : World) (tape : Tape) (i : Input), w.os = os ∧ (w.forCall tape i).Shaped C.prog ∧ i.vars = [] ∧ Input.okWide C.prog (w.forCall tape i) .any w.heap.size f i ∧
      ((s.pre enc C.prog fn [] false (w.forCall tape i).memory i.args ∧ laidMetH C.prog L (w.forCall tape i).memory) ∧ sizedMet enc C.prog fn (OpenSpec.ofChange s) false (w.forCall tape i).memory i.args) ∧ ({} : Assume).holds C.prog (lone (Frame.enter C.prog f i.args .normal) [] (w.forCall tape i)))
    (walk : ∀ (W : World) (base : Nat) (args : Array Value) (ds gs : List (DataW H)) (before : List MemPlace), (∀ (j : Nat) t v, fn.params[j]? = some t → args[j]? = some v → Value.okWide C.prog W .any base t v) →
      DataW.Whole enc C.prog fn.params.toList s.vars false W args.toList ds gs before → laidMetH C.prog L W → W.ShapedOpen C.prog →
      Calls C.prog f args W fun e W' => ∃ v, e = .returned v ∧ s.post enc C.prog fn false true false false W args v W') :
    ReturnsInHanded {} C os f .any (fun w args => (s.pre enc C.prog fn [] false w args ∧ laidMetH C.prog L w) ∧ sizedMet enc C.prog fn (OpenSpec.ofChange s) false w args) (s.post enc C.prog fn false true false false) := by
  apply returnsInHanded_of_calls own started noInit witness
  intro w tape i _ shape _ ok pre _
  obtain ⟨⟨⟨ds, gs, before, whole, _⟩, met⟩, _⟩ := pre
  obtain ⟨_, _, _, fn2, hfn2, _, _, _, _, hval⟩ := ok
  cases Option.some.inj (hfn2.symm.trans hfn)
  have eh : (w.forCall tape i).memory.heap = (w.forCall tape i).heap := rfl
  have met' : laidMetH C.prog L (w.forCall tape i) := laidMetH.of_heap eh met
  have whole' := DataW.Whole.of_heap (w' := w.forCall tape i) (by rfl) whole
  have c := walk (w.forCall tape i) w.heap.size i.args ds gs before hval whole' met' shape
  refine c.mono ?_
  rintro e W' ⟨v, rfl, hp⟩
  exact ChangeSpec.post_blind hp
end Go
namespace Go.Proofs.YtfejbfnjfombhaaDoor.LinJ
open Go.RowKit Go.Lib Go.Proofs.YtfejbfnjfombhaaDoor.LinC
set_option linter.unusedVariables false
theorem cell_of_sentinel {W : World} {n nm : String} {d : DataW Unit} {g : Nat} {ti : TypeId} {ms : Array (String × TypeId)} (hr : VarReads Tryd.prog W n (.iface nm d)) (hg : Tryd.prog.globalNamed n = some g) (ht : (Tryd.prog.globals[g]?).map (·.type) = some ti) (hi : Tryd.prog.underlying ti = some (.interface ms)) :
    ∃ te pe, W.cell? ⟨g, 0, none⟩ = some (.iface te pe) := by
  obtain ⟨g', t', cs, fuel, p, hg', ht', hv, hd⟩ := hr
  obtain rfl := Option.some.inj (hg.symm.trans hg')
  obtain rfl := Option.some.inj (ht.symm.trans ht')
  obtain ⟨f1, u, v, hcs, _, _⟩ := iface_of_trod hi hd
  refine ⟨u, v, ?_⟩
  have := World.var?_cell hg hv 0
  rw [this, ← Array.getElem?_toList, hcs]
  rfl
theorem size_of_var {W : World} {n : String} {d : DataW Unit} {g : Nat} (hr : VarReads Tryd.prog W n d) (hg : Tryd.prog.globalNamed n = some g) : g < W.heap.size := by
  obtain ⟨g', t', cs, fuel, p, hg', ht', hv, hd⟩ := hr
  obtain rfl := Option.some.inj (hg.symm.trans hg')
  unfold World.var? at hv
  rw [hg] at hv
  simp only [Option.bind_some] at hv
  by_cases h : g < W.heap.size
  · exact h
  · rw [Array.getElem?_eq_none (by omega)] at hv
    cases hv
theorem env_of_laid {W : World} (hL0 : laidMetH Tryd.prog Rows.linesWordsRow.laid W) (hsh : W.ShapedOpen Tryd.prog) : Env W := by
  rw [MakeChecks.laidMetH_plain _ _ _ (by kernel_rfl)] at hL0
  have hL : laidMet Tryd.prog Rows.linesWordsRow.laid W := hL0
  have h2 : laidMet Tryd.prog (("internal/strconv.uint64pow10", Lib.tabData .u64 Lib.pow10Tab) :: _) W := hL.tail.tail
  refine ⟨?_, ?_, ?_, ?_, ?_⟩
  · have := size_of_var (g := 7) (Lib.laidMet.reads hL (.tail _ (.head _))) (by kernel_rfl)
    omega
  · exact tabIs_of_head (g := 0) (t := 113) (e := 65) (n := 20) (by kernel_rfl) (by kernel_rfl) Tryd.underlying113 Tryd.underlying65 (by kernel_rfl) (by kernel_rfl) h2
  · exact cell_of_sentinel (g := 2) (ti := 71) (Lib.laidMet.reads hL (.tail _ (.tail _ (.tail _ (.tail _ (.tail _ (.head _))))))) (by kernel_rfl) (by kernel_rfl) Tryd.underlying71
  · exact cell_of_sentinel (g := 3) (ti := 71) (Lib.laidMet.reads hL (.tail _ (.tail _ (.tail _ (.tail _ (.head _)))))) (by kernel_rfl) (by kernel_rfl) Tryd.underlying71
  · exact cell_of_shapedOpen_int (P := Tryd.prog) (g := 1) (zero := #[.int .i64 0]) (t := 3) hsh (of_decide_eq_true (by kernel_rfl)) (by kernel_rfl) rfl (by kernel_rfl) (by kernel_rfl) Tryd.underlying3
end Go.Proofs.YtfejbfnjfombhaaDoor.LinJ

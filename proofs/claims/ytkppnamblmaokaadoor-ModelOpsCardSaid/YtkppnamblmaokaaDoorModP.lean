/- Two blocks, compared. -/
import Derived.Test.YtkppnamblmaokaaDoorModO
import Derived.ChangeKeysEq
namespace Go.Proofs.YtkppnamblmaokaaDoor.ModP
open Go.RowKit Go.Proofs.YtkppnamblmaokaaDoorW.PrintWords Go.Proofs.YtkppnamblmaokaaDoorW.PrintLast Go.Proofs.YtkppnamblmaokaaDoorW.PrintMore Go.Proofs.YtkppnamblmaokaaDoor.ModA Go.Proofs.YtkppnamblmaokaaDoor.ModB Go.Proofs.YtkppnamblmaokaaDoor.ModC Go.Proofs.YtkppnamblmaokaaDoor.ModF Go.Proofs.YtkppnamblmaokaaDoor.ModG
set_option linter.unusedVariables false
set_option linter.unusedSimpArgs false

theorem info5 : (Tryd.prog.info? 5).map (fun i => (i.zero, i.size, i.bytes)) = some (some (.int .u8 0), 1, 1) := by kernel_rfl
theorem part5 (a : List Int) (j : Nat) (x : Int) (h : a[j]? = some x) (w : World) : (part 5 (blkArr a) j).run Tryd.prog w = .ok (.int .u8 x) w := by
  have h1 : (blkArr a)[j]? = some (.int .u8 x) := by simp [blkArr, h]
  simp [part, isAgg, run_underlying Tryd.underlying5, h1]
theorem eqItems5 (a b : List Int) (hab : a.length = b.length) (w : World) : ∀ is : List Nat, (∀ j ∈ is, j < a.length) →
    (Op.eqItems 9999 5 1 (blkArr a) (blkArr b) is).run Tryd.prog w = .ok (is.all fun j => a[j]? == b[j]?) w
  | [], _ => by simp [Op.eqItems]
  | j :: is, h => by
    have hj := h j (by simp)
    have e1 : a[j]? = some a[j] := by simp
    have e2 : b[j]? = some (b[j]'(by omega)) := by simp
    simp only [Op.eqItems, Sem.run_bind, Nat.mul_one, part5 a j _ e1, part5 b j _ e2, Result.andThen_ok, run_equalIn_int w 9998 5 .u8 .u8 _ _ Tryd.underlying5]
    cases hh : (a[j] == (b[j]'(by omega)))
    · simp only [Bool.not_false, if_true, Sem.run_pure, List.all_cons, e1, e2, Option.some_beq_some, hh, Bool.false_and]
    · simp only [Bool.not_true, Bool.false_eq_true, if_false, List.all_cons, e1, e2, Option.some_beq_some, hh, Bool.true_and]
      exact eqItems5 a b hab w is (fun k hk => h k (by simp [hk]))
theorem eq_key (a b : List Int) (ha : a.length = 32) (hb : b.length = 32) : ((List.range 32).all fun j => a[j]? == b[j]?) = decide (a = b) := by
  generalize hn : 32 = n at *
  rw [Bool.eq_iff_iff, List.all_eq_true, decide_eq_true_iff]
  constructor
  · intro h
    apply List.ext_getElem?
    intro j
    by_cases hj : j < n
    · simpa using h j (List.mem_range.2 hj)
    · rw [List.getElem?_eq_none (by omega), List.getElem?_eq_none (by omega)]
  · rintro rfl j _
    simp
theorem eq32 (a b : List Int) (ha : a.length = 32) (hb : b.length = 32) (w : World) : (Op.equalIn 10000 32 (.agg (blkArr a)) (.agg (blkArr b))).run Tryd.prog w = .ok (decide (a = b)) w := by
  obtain ⟨i5, hi, hz, hsz, hby⟩ := info_parts info5
  have hc : Tryd.prog.cellsOf 5 = 1 := by kernel_rfl
  have h := run_equalIn_array (P := Tryd.prog) w 9999 (blkArr a) (blkArr b) Tryd.underlying32 hi
  rw [hc] at h
  refine h.trans ((eqItems5 a b (by omega) w _ (fun j hj => by rw [ha]; exact List.mem_range.1 hj)).trans ?_)
  have key : ((List.range 32).all fun j => a[j]? == b[j]?) = decide (a = b) := eq_key a b ha hb
  rw [key]

end Go.Proofs.YtkppnamblmaokaaDoor.ModP

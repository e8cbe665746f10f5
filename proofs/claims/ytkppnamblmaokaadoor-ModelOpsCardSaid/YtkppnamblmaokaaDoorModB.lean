/- The look-up of a volume by its name. -/
import Derived.Test.YtkppnamblmaokaaDoorModA
namespace Go.Proofs.YtkppnamblmaokaaDoor.ModB
open Go.RowKit Go.Proofs.YtkppnamblmaokaaDoorW.PrintWords Go.Proofs.YtkppnamblmaokaaDoorW.PrintLast Go.Proofs.YtkppnamblmaokaaDoorW.PrintMore Go.Proofs.YtkppnamblmaokaaDoor.ModA
set_option linter.unusedVariables false
set_option linter.unusedSimpArgs false

theorem cell_alloc_old {w : World} {o : Obj} {a : Addr} {v : Value} (hc : w.cell? a = some v) : (w.alloc o).cell? a = some v :=
  ((below_alloc (Below.refl w.heap.size w) o).cell (World.block_lt_of_cell? w _ hc)).trans hc

set_option maxHeartbeats 400000 in
theorem clo_any (s name : ByteArray) (b : Value) (g : Nat) (w : World) (hb : b.oneCell' = true) (hc : w.cell? ⟨g, 0, none⟩ = some (.string name)) :
    Calls Tryd.prog 41 #[.agg #[.string s, b], .pointer (some ⟨g, 0, none⟩)] w fun e w' => e = .returned (.bool (s.toList == name.toList)) ∧ Below w.heap.size w w' := by
  have hc' : (w.alloc (.cells #[.string s, b] 74 (0, 0))).cell? ⟨g, 0, none⟩ = some (.string name) := cell_alloc_old hc
  go_enter Tryd.func41, Tryd.ntmps41
  go_wp2
  go_ret
  exact ⟨rfl, below_alloc (Below.refl _ _) _⟩

/-- The first place of a name; -1: none. -/
def idx (name : ByteArray) : List ByteArray → Int
  | [] => -1
  | s :: r => if (s.toList == name.toList) = true then 0 else if idx name r < 0 then -1 else idx name r + 1
theorem idx_ge (name : ByteArray) : ∀ l, -1 ≤ idx name l
  | [] => by simp [idx]
  | s :: r => by
    have := idx_ge name r
    unfold idx; split
    · omega
    · split <;> omega
theorem idx_lt (name : ByteArray) : ∀ l, idx name l < l.length
  | [] => by simp [idx]
  | s :: r => by
    have := idx_lt name r
    have := idx_ge name r
    unfold idx; simp only [List.length_cons]; split
    · omega
    · split <;> omega
def shift (i : Nat) (r : Int) : Int := if r < 0 then -1 else r + i
theorem shift_hit (name : ByteArray) (ns : List ByteArray) (i : Nat) (s : ByteArray) (hs : ns[i]? = some s) (h : (s.toList == name.toList) = true) : shift i (idx name (ns.drop i)) = i := by
  rw [List.drop_eq_getElem?_toList_append, hs]
  simp [idx, h, shift]
theorem shift_miss (name : ByteArray) (ns : List ByteArray) (i : Nat) (s : ByteArray) (hs : ns[i]? = some s) (h : (s.toList == name.toList) = false) : shift i (idx name (ns.drop i)) = shift (i + 1) (idx name (ns.drop (i + 1))) := by
  rw [List.drop_eq_getElem?_toList_append (i := i), hs]
  have hg := idx_ge name (ns.drop (i + 1))
  simp only [Option.toList_some, List.singleton_append, idx, h, Bool.false_eq_true, if_false, shift]
  split <;> simp_all <;> omega

set_option maxHeartbeats 1000000 in
theorem indexFunc_any (ga cap : Nat) (ns : List ByteArray) (bs : Nat → Value) (name : ByteArray) (g : Nat) (w : World) (hcap : ns.length ≤ cap) (hn : ns.length ≤ 1000)
    (hcell : ∀ i s, ns[i]? = some s → w.cell? ⟨ga, i * 2, none⟩ = some (.string s) ∧ w.cell? ⟨ga, i * 2 + 1, none⟩ = some (bs i) ∧ (bs i).oneCell' = true) (hc : w.cell? ⟨g, 0, none⟩ = some (.string name)) :
    Calls Tryd.prog 40 #[.slice (some ⟨ga, 0, none⟩) ns.length cap, .func (.func 41) #[] #[.pointer (some ⟨g, 0, none⟩)]] w fun e w' => e = .returned (.int .i64 (idx name ns)) ∧ Below w.heap.size w w' := by
  have HC := Aside0.mk hcell
  have HN := Aside0.mk hc
  have BL := Aside0.mk (Below.refl w.heap.size w)
  have HI : Aside0 (idx name ns = shift 0 (idx name (ns.drop 0))) := ⟨by have := idx_ge name ns; simp only [List.drop_zero, shift]; split <;> omega⟩
  clear hcell hc
  generalize hlen : ns.length = len at *
  have HL := Aside0.mk hlen
  clear hlen
  go_enter Tryd.func40, Tryd.ntmps40
  go_wp2_with fail
  go_loopw [8] (fun v wr => ∃ i : Nat, i ≤ len ∧ v = .int .i64 i ∧ Aside0 (idx name ns = shift i (idx name (ns.drop i))) ∧ Aside0 (Below w.heap.size w wr)) (fun v _ => len - (intOf v).toNat)
  case atStart => exact ⟨0, by omega, rfl, HI, BL⟩
  case round =>
    clear HI BL
    obtain ⟨i, hi, rfl, HI, BL⟩ := hrel
    by_cases hlt : i < len
    · obtain ⟨s, hs⟩ : ∃ s, ns[i]? = some s := ⟨ns[i]'(by have := HL.out; omega), by simp⟩
      have HS := Aside0.mk hs
      clear hs
      have k := HC.out i s HS.out
      have c0 := pw_cell_below BL.out k.1
      have c1 := pw_cell_below BL.out k.2.1
      have cn := Aside0.mk (pw_cell_below BL.out HN.out)
      have one := Aside0.mk k.2.2
      clear k
      generalize bs i = b at *
      go_wp2_with fail
      refine (clo_any s name b g _ one.out cn.out).mono ?_
      rintro r w1 ⟨rfl, hb1⟩
      have B1 := Aside0.mk (below_step BL.out hb1)
      clear hb1 c0 c1
      by_cases hh : (s.toList == name.toList) = true
      · have HR := Aside0.mk (HI.out.trans (shift_hit name ns i s HS.out hh))
        go_wp2_with fail
        go_ret
        exact ⟨by rw [HR.out]; rfl, B1.out⟩
      · have hh : (s.toList == name.toList) = false := by simpa using hh
        have HR := Aside0.mk (HI.out.trans (shift_miss name ns i s HS.out hh))
        go_wp2_with fail
        go_roundw
        case measure => simp [intOf]; omega
        case rel => exact ⟨i + 1, by omega, by go_num, HR, B1⟩
    · have : i = len := by omega
      subst this
      have HR : Aside0 (idx name ns = -1) := ⟨by rw [HI.out, List.drop_of_length_le (by rw [HL.out]; exact Nat.le_refl _)]; simp [idx, shift]⟩
      go_wp2_with fail
      go_ret
      exact ⟨by rw [HR.out]; rfl, BL.out⟩

end Go.Proofs.YtkppnamblmaokaaDoor.ModB

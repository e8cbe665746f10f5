/- Whether a name is right. -/
import Derived.Test.YtkppnamblmaokaaDoorModG
import Derived.Test.YtkppnamblmaokaaDoorShelf
import Derived.Shelf.Strings.SlTrimAscii
namespace Go.Proofs.YtkppnamblmaokaaDoor.ModH
open Go.RowKit Go.Shelf Go.Lib Go.Proofs.YtkppnamblmaokaaDoorW.PrintWords Go.Proofs.YtkppnamblmaokaaDoorW.PrintLast Go.Proofs.YtkppnamblmaokaaDoorW.PrintMore Go.Proofs.YtkppnamblmaokaaDoor.ModA Go.Proofs.YtkppnamblmaokaaDoor.ModB
set_option linter.unusedVariables false
set_option linter.unusedSimpArgs false

def letters : List UInt8 := [97, 98, 99, 100, 101, 102, 103, 104, 105, 106, 107, 108, 109, 110, 111, 112, 113, 114, 115, 116, 117, 118, 119, 120, 121, 122]
def trimmed (s : ByteArray) : ByteArray := ⟨(Lib.trimS s.data.toList letters).toArray⟩
def goodName (s : ByteArray) : Bool := !s.toList.isEmpty && (decide (s.size ≤ 4) && (trimmed s).toList.isEmpty)

theorem trim_any (s : ByteArray) (w : World) (hs : s.size ≤ 9223372036854775807) :
    Calls Tryd.prog 39 #[.string s, .string ⟨#[97, 98, 99, 100, 101, 102, 103, 104, 105, 106, 107, 108, 109, 110, 111, 112, 113, 114, 115, 116, 117, 118, 119, 120, 121, 122]⟩] w fun e w' => e = .returned (.string (trimmed s)) ∧ Below w.heap.size w w' := by
  have hcon := Any.strings_Trim_laid Tryd.lays160 (by kernel_rfl) s ⟨#[97, 98, 99, 100, 101, 102, 103, 104, 105, 106, 107, 108, 109, 110, 111, 112, 113, 114, 115, 116, 117, 118, 119, 120, 121, 122]⟩ w hs (by decide) (ascii_of_all (by decide))
  exact hcon

set_option maxHeartbeats 1000000 in
theorem good_any (s : ByteArray) (g : Nat) (w : World) (hs : s.size ≤ 9223372036854775807) (hc : w.cell? ⟨g, 0, none⟩ = some (.string s)) :
    Calls Tryd.prog 28 #[.slice (some ⟨g, 0, none⟩) 1 1] w fun e w' => e = .returned (.bool (goodName s)) ∧ Below w.heap.size w w' := by
  have HC := Aside0.mk hc
  clear hc
  go_enter Tryd.func28, Tryd.ntmps28
  go_wp2_with fail
  go_loopw [7] (fun v wr => ∃ i : Nat, i ≤ 1 ∧ v = .int .i64 i ∧ Aside0 (i = 1 → goodName s = true) ∧ Aside0 (Below w.heap.size w wr)) (fun v _ => 1 - (RowKit.intOf v).toNat)
  case atStart => exact ⟨0, by omega, rfl, ⟨fun h => by cases h⟩, ⟨Below.refl _ _⟩⟩
  case round =>
    obtain ⟨i, hi, rfl, HG, BL⟩ := hrel
    by_cases h0 : i = 0
    · subst h0
      clear HG
      have c0 := pw_cell_below BL.out HC.out
      by_cases e1 : s.toList.isEmpty = true
      · have HF : Aside0 (goodName s = false) := ⟨by simp [goodName, e1]⟩
        go_wp2_with fail
        go_ret
        exact ⟨by rw [HF.out]; rfl, BL.out⟩
      · have e1 : s.toList.isEmpty = false := by simpa using e1
        by_cases e2 : s.size ≤ 4
        · have e2b : decide ((4 : Int) < (s.size : Int)) = false := by simp; omega
          have HT := Aside0.mk (trim_any s)
          cases e3 : (trimmed s).toList.isEmpty
          · have HF : Aside0 (goodName s = false) := ⟨by simp [goodName, e3]⟩
            generalize trimmed s = t at *
            go_wp2_with fail
            refine (HT.out _ hs).mono ?_
            rintro r w1 ⟨rfl, hb⟩
            have BL' := Aside0.mk (below_step BL.out hb)
            clear hb
            go_wp2_with fail
            go_ret
            exact ⟨by rw [HF.out]; rfl, BL'.out⟩
          · have HF : Aside0 (goodName s = true) := ⟨by simp [goodName, e1, e2, e3]⟩
            generalize trimmed s = t at *
            go_wp2_with fail
            refine (HT.out _ hs).mono ?_
            rintro r w1 ⟨rfl, hb⟩
            have BL' := Aside0.mk (below_step BL.out hb)
            clear hb
            go_wp2_with fail
            go_roundw
            case measure => simp [RowKit.intOf]
            case rel => exact ⟨1, by omega, by go_num, ⟨fun _ => HF.out⟩, BL'⟩
        · have e2b : decide ((4 : Int) < (s.size : Int)) = true := by simp; omega
          have HF : Aside0 (goodName s = false) := ⟨by simp [goodName, e2]⟩
          clear e2
          go_wp2_with fail
          go_ret
          exact ⟨by rw [HF.out]; rfl, BL.out⟩
    · have : i = 1 := by omega
      subst this
      have HF := Aside0.mk (HG.out rfl)
      go_wp2_with fail
      go_ret
      exact ⟨by rw [HF.out]; rfl, BL.out⟩

end Go.Proofs.YtkppnamblmaokaaDoor.ModH

/- Lists of volumes: how they lie in memory; plain laws on which blocks are used. -/
import Derived.Test.YtkppnamblmaokaaDoorWLast
import Derived.Test.YtkppnamblmaokaaDoorWMore
import Derived.Deep.LoopGhost
import Derived.Deep.Cut
import Derived.Deep.CutRange
import Derived.Deep.OwnRows
import Derived.KernelRfl
import Derived.Laws.BitsLemmas
import Derived.Laws.Shifts
import Derived.Test.YtkppnamblmaokaaDoorProg
import Derived.Lib.Strings
import Derived.Lib.LazyBuf
import Derived.Laws.CopyOwn
import Derived.Shelf.Spec.SlicesInsert
import Derived.Laws.Rows
import Derived.Laws.Tables
import Derived.Test.YtkppnamblmaokaaDoorShelf
import Derived.Shelf.Strings.SlTrimAscii
import Derived.Lib.Bytes
namespace Go.Proofs.YtkppnamblmaokaaDoor.CsA
open Go.RowKit Go.Proofs.YtkppnamblmaokaaDoorW.PrintWords Go.Proofs.YtkppnamblmaokaaDoorW.PrintLast Go.Proofs.YtkppnamblmaokaaDoorW.PrintMore 
set_option linter.unusedVariables false
set_option linter.unusedSimpArgs false
def Stop (p : Prop) : Prop := p
theorem stop {p : Prop} (h : Stop p) : p := h
structure Vo where
  name : ByteArray
  blocks : List Nat
def IntsAt (w : World) (u : Value) (xs : List Nat) : Prop := ∃ b o c, u = .slice (some ⟨b, o, none⟩) xs.length c ∧ xs.length ≤ c ∧ ∀ (j : Nat) x, xs[j]? = some x → w.cell? ⟨b, o + j, none⟩ = some (.int .i64 (x : Int))
def VolsAt (w : World) (v : Value) (l : List Vo) : Prop := (l = [] ∧ ∃ A c, v = .slice A 0 c) ∨ ∃ g c, v = .slice (some ⟨g, 0, none⟩) l.length c ∧ l.length ≤ c ∧
  ∀ (i : Nat) x, l[i]? = some x → ∃ u, w.cell? ⟨g, i * 2, none⟩ = some (.string x.name) ∧ w.cell? ⟨g, i * 2 + 1, none⟩ = some u ∧ IntsAt w u x.blocks
theorem cell_keep {w w' : World} (hb : Below w.heap.size w w') {a : Addr} {v : Value} (h : w.cell? a = some v) : w'.cell? a = some v := (hb.cell (World.block_lt_of_cell? w _ h)).trans h
theorem cell_alloc {w : World} {a : Addr} {v : Value} (h : w.cell? a = some v) (o : Obj) : (w.alloc o).cell? a = some v := cell_keep (below_alloc (Below.refl _ _) o) h
theorem IntsAt.below {w w' : World} (hb : Below w.heap.size w w') {u : Value} {xs : List Nat} (h : IntsAt w u xs) : IntsAt w' u xs := by
  obtain ⟨b, o, c, h1, h2, h3⟩ := h
  exact ⟨b, o, c, h1, h2, fun j x hx => cell_keep hb (h3 j x hx)⟩
theorem VolsAt.below {w w' : World} (hb : Below w.heap.size w w') {v : Value} {l : List Vo} (h : VolsAt w v l) : VolsAt w' v l := by
  rcases h with h | ⟨g, c, h1, h2, h3⟩
  · exact .inl h
  · refine .inr ⟨g, c, h1, h2, fun i x hx => ?_⟩
    obtain ⟨u, k1, k2, k3⟩ := h3 i x hx
    exact ⟨u, cell_keep hb k1, cell_keep hb k2, k3.below hb⟩
theorem alloc_size' (w : World) (o : Obj) : (w.alloc o).heap.size = w.heap.size + 1 := Array.size_push ..
theorem below_from {b : Nat} {w w1 w2 : World} (h : Below b w w1) (hb : Below w1.heap.size w1 w2) (h0 : b ≤ w.heap.size) : Below b w w2 := h.trans (hb.mono (Nat.le_trans h0 h.size))
/-- The bits of the blocks that are used. -/
def orB (u b : Nat) : Nat := u ||| (1 <<< b)
def usedN (l : List Vo) : Nat := (l.flatMap (·.blocks)).foldl orB 1
theorem usedN_next (l : List Vo) (i : Nat) (x : Vo) (h : l[i]? = some x) : usedN (l.take (i + 1)) = x.blocks.foldl orB (usedN (l.take i)) := by
  unfold usedN
  rw [List.take_add_one, h]
  simp [List.flatMap_append, List.foldl_append]
theorem fold_next (xs : List Nat) (k : Nat) (b u : Nat) (h : xs[k]? = some b) : (xs.take (k + 1)).foldl orB u = orB ((xs.take k).foldl orB u) b := by
  rw [List.take_add_one, h]
  simp [List.foldl_append]
theorem orB_lt {u b : Nat} (hu : u < 4096) (hb : b < 12) : orB u b < 4096 := by
  unfold orB
  have h1 : 1 <<< b < 2 ^ 12 := by rw [Nat.one_shiftLeft]; exact Nat.pow_lt_pow_right (by omega) hb
  exact Nat.or_lt_two_pow (show u < 2 ^ 12 from hu) h1
theorem fold_lt (xs : List Nat) (hx : ∀ b ∈ xs, b < 12) : ∀ u, u < 4096 → xs.foldl orB u < 4096 := by
  induction xs with
  | nil => intro u h; exact h
  | cons b r ih => intro u h; exact ih (fun c hc => hx c (by simp [hc])) _ (orB_lt h (hx b (by simp)))
def InR (l : List Vo) : Prop := ∀ x ∈ l, ∀ b ∈ x.blocks, b < 12
theorem usedN_lt {l : List Vo} (h : InR l) : usedN l < 4096 := fold_lt _ (fun b hb => by obtain ⟨x, hx, hb⟩ := List.mem_flatMap.1 hb; exact h x hx b hb) _ (by omega)
theorem InR.take {l : List Vo} (h : InR l) (i : Nat) : InR (l.take i) := fun x hx => h x (List.mem_of_mem_take hx)
end Go.Proofs.YtkppnamblmaokaaDoor.CsA

namespace Go.Proofs.YtkppnamblmaokaaDoor.CsW
open Go.RowKit Go.Proofs.YtkppnamblmaokaaDoorW.PrintWords Go.Proofs.YtkppnamblmaokaaDoorW.PrintLast Go.Proofs.YtkppnamblmaokaaDoorW.PrintMore 
set_option linter.unusedVariables false
set_option linter.unusedSimpArgs false
theorem uw8 {n : Nat} (h : n < 256) : IntKind.u8.wrap (n : Int) = (n : Int) := by rw [show IntKind.u8.wrap (n : Int) = (n : Int) % 256 from IntKind.wrap_u8 _]; omega
theorem uw16 {n : Nat} (h : n < 65536) : IntKind.u16.wrap (n : Int) = (n : Int) := by
  have e : IntKind.u16.wrap (n : Int) = (n : Int) % 65536 := by simp [IntKind.wrap, IntKind.bits, IntKind.signed]
  rw [e]; omega
theorem uw32 {n : Nat} (h : n < 4294967296) : IntKind.u32.wrap (n : Int) = (n : Int) := by rw [IntKind.wrap_u32]; omega
theorem toN {j n : Nat} (h : n < 2 ^ j) : (BitVec.ofInt j (n : Int)).toNat = n := by rw [BitVec.ofInt_natCast, BitVec.toNat_ofNat]; exact Nat.mod_eq_of_lt h
theorem or_u8 {a b : Nat} (ha : a < 256) (hb : b < 256) : bits .or .u8 (a : Int) (b : Int) = ((a ||| b : Nat) : Int) := (bits_nat .u8 8 (Nat.le_refl _) (fun n h0 h1 => wraps_u8 n h0 h1) a b ha hb).2
theorem and_u8 {a b : Nat} (ha : a < 256) (hb : b < 256) : bits .and .u8 (a : Int) (b : Int) = ((a &&& b : Nat) : Int) := (bits_nat .u8 8 (Nat.le_refl _) (fun n h0 h1 => wraps_u8 n h0 h1) a b ha hb).1
theorem w16 (n : Int) (h0 : 0 ≤ n) (h1 : n < 2 ^ 16) : IntKind.u16.wrap n = n := by
  have e : IntKind.u16.wrap n = n % 65536 := by simp [IntKind.wrap, IntKind.bits, IntKind.signed]
  rw [e]; omega
theorem w32 (n : Int) (h0 : 0 ≤ n) (h1 : n < 2 ^ 32) : IntKind.u32.wrap n = n := by rw [IntKind.wrap_u32]; omega
theorem or_u16 {a b : Nat} (ha : a < 65536) (hb : b < 65536) : bits .or .u16 (a : Int) (b : Int) = ((a ||| b : Nat) : Int) := (bits_nat .u16 16 (Nat.le_refl _) w16 a b ha hb).2
theorem and_u16 {a b : Nat} (ha : a < 65536) (hb : b < 65536) : bits .and .u16 (a : Int) (b : Int) = ((a &&& b : Nat) : Int) := (bits_nat .u16 16 (Nat.le_refl _) w16 a b ha hb).1
theorem or_u32 {a b : Nat} (ha : a < 4294967296) (hb : b < 4294967296) : bits .or .u32 (a : Int) (b : Int) = ((a ||| b : Nat) : Int) := (bits_nat .u32 32 (Nat.le_refl _) w32 a b ha hb).2
theorem and_u32 {a b : Nat} (ha : a < 4294967296) (hb : b < 4294967296) : bits .and .u32 (a : Int) (b : Int) = ((a &&& b : Nat) : Int) := (bits_nat .u32 32 (Nat.le_refl _) w32 a b ha hb).1
theorem xor_u8 {a b : Nat} (ha : a < 256) (hb : b < 256) : bits .xor .u8 (a : Int) (b : Int) = ((a ^^^ b : Nat) : Int) := by
  show IntKind.u8.wrap ((BitVec.ofInt 8 (a : Int) ^^^ BitVec.ofInt 8 (b : Int)).toNat : Int) = _
  rw [BitVec.toNat_xor, toN ha, toN hb, uw8 (Nat.xor_lt_two_pow (n := 8) ha hb)]
theorem xor_u16 {a b : Nat} (ha : a < 65536) (hb : b < 65536) : bits .xor .u16 (a : Int) (b : Int) = ((a ^^^ b : Nat) : Int) := by
  show IntKind.u16.wrap ((BitVec.ofInt 16 (a : Int) ^^^ BitVec.ofInt 16 (b : Int)).toNat : Int) = _
  rw [BitVec.toNat_xor, toN ha, toN hb, uw16 (Nat.xor_lt_two_pow (n := 16) ha hb)]
theorem xor_u32 {a b : Nat} (ha : a < 4294967296) (hb : b < 4294967296) : bits .xor .u32 (a : Int) (b : Int) = ((a ^^^ b : Nat) : Int) := by
  show IntKind.u32.wrap ((BitVec.ofInt 32 (a : Int) ^^^ BitVec.ofInt 32 (b : Int)).toNat : Int) = _
  rw [BitVec.toNat_xor, toN ha, toN hb, uw32 (Nat.xor_lt_two_pow (n := 32) ha hb)]
theorem one_shl {b : Nat} (h : b < 16) : IntKind.u16.wrap ((2 : Int) ^ b) = ((1 <<< b : Nat) : Int) := by
  rw [Nat.one_shiftLeft, show (2 : Int) ^ b = ((2 ^ b : Nat) : Int) by simp]
  exact uw16 (Nat.pow_lt_pow_right (by omega) h)
end Go.Proofs.YtkppnamblmaokaaDoor.CsW

namespace Go.Proofs.YtkppnamblmaokaaDoor.CsB
open Go.RowKit Go.Proofs.YtkppnamblmaokaaDoorW.PrintWords Go.Proofs.YtkppnamblmaokaaDoorW.PrintLast Go.Proofs.YtkppnamblmaokaaDoorW.PrintMore Go.Proofs.YtkppnamblmaokaaDoor.CsA Go.Proofs.YtkppnamblmaokaaDoor.CsW
set_option linter.unusedVariables false
set_option linter.unusedSimpArgs false
set_option maxHeartbeats 1000000 in
set_option maxRecDepth 100000 in
theorem used_any (v : Value) (l : List Vo) (w : World) (hv : VolsAt w v l) (hn : l.length ≤ 1000) (h4 : ∀ x ∈ l, x.blocks.length ≤ 1000) (hr : InR l) :
    Calls Tryd.prog 45 #[v] w fun e w' => e = .returned (.int .u16 (usedN l : Nat)) ∧ Below w.heap.size w w' := by
  have BL := Aside0.mk (Below.refl w.heap.size w)
  have HR := Aside0.mk hr
  have H4 := Aside0.mk h4
  clear hr h4
  rcases hv with ⟨rfl, A, c, rfl⟩ | ⟨g, c, rfl, hc, hcell⟩
  · go_enter Tryd.func45, Tryd.ntmps45
    go_wp2_with fail
    go_loopg [3, 10] 0 (fun k s3 s10 wr => s3 = .int .u16 1 ∧ s10 = .int .i64 0 ∧ Aside0 (wr = w))
    case atStart => exact ⟨rfl, rfl, ⟨rfl⟩⟩
    case round =>
      obtain ⟨rfl, rfl, HW⟩ := hrel
      go_wp2_with fail
      go_ret
      exact ⟨rfl, HW.out ▸ Below.refl _ _⟩
  · have HC := Aside0.mk hcell
    clear hcell
    go_enter Tryd.func45, Tryd.ntmps45
    go_wp2_with fail
    go_loopg [3, 10] l.length (fun k s3 s10 wr => ∃ i : Nat, i + k = l.length ∧ s10 = .int .i64 i ∧ s3 = .int .u16 (usedN (l.take i) : Nat) ∧ Aside0 (Below w.heap.size w wr))
    case atStart => exact ⟨0, by omega, rfl, rfl, BL⟩
    case round =>
      obtain ⟨i, hi, rfl, rfl, BX⟩ := hrel
      clear BL
      cases gk with
      | zero =>
        have e : i = l.length := by omega
        subst e
        have hlt : decide ((l.length : Int) < (l.length : Int)) = false := by simp
        have HE := Aside0.mk (show usedN (l.take l.length) = usedN l by rw [List.take_length])
        go_wp2_with fail
        go_ret
        exact ⟨by rw [← HE.out]; rfl, BX.out⟩
      | succ k =>
        have hil : i < l.length := by omega
        have hlt : ((i : Int) < (l.length : Int)) := by omega
        obtain ⟨x, hx⟩ : ∃ x, l[i]? = some x := ⟨l[i], by simp [hil]⟩
        obtain ⟨u, k1, k2, b, o, c2, rfl, hc2, k3⟩ := HC.out i x hx
        have HX := Aside0.mk k1
        have m2 := (cell_keep BX.out k2)
        have m3 := Aside0.mk (fun j x h => cell_keep BX.out (k3 j x h))
        clear k1 k2 k3
        have m1 := cell_keep BX.out (show w.cell? ⟨g, i * 2, none⟩ = some (.string x.name) from HX.out)
        go_upto_region 5 with (fail)
        replace m3 := Aside0.mk (fun j y h => cell_alloc (m3.out j y h) (.cells #[.string x.name, .slice (some ⟨b, o, none⟩) x.blocks.length c2] 67 (0, 0)))
        replace BX := Aside0.mk (BX.out.alloc BX.out.size (.cells #[.string x.name, .slice (some ⟨b, o, none⟩) x.blocks.length c2] 67 (0, 0)))
        clear m1 m2
        go_wp2_with fail
        generalize wr.alloc (.cells #[.string x.name, .slice (some ⟨b, o, none⟩) x.blocks.length c2] 67 (0, 0)) = w5 at *
        have HU := Aside0.mk (usedN_lt (HR.out.take i))
        have HN := Aside0.mk (usedN_next l i x hx)
        have hxm : x ∈ l := List.mem_of_getElem? hx
        have HB := Aside0.mk (HR.out x hxm)
        have hx4 := H4.out x hxm
        clear hx hxm
        generalize usedN (l.take i) = U at *
        generalize hxs : x.blocks = xs at *
        go_loopg [3, 17] xs.length (fun k s3 s17 wi => ∃ j : Nat, j + k = xs.length ∧ s17 = .int .i64 j ∧ s3 = .int .u16 ((xs.take j).foldl orB U : Nat) ∧ Aside0 (wi = w5))
        case atStart => exact ⟨0, by omega, rfl, rfl, ⟨rfl⟩⟩
        case round =>
          obtain ⟨j, hj, rfl, rfl, ⟨hwi⟩⟩ := hrel
          subst hwi
          cases gk with
          | zero =>
            have e : j = xs.length := by omega
            subst e
            have hd : decide ((xs.length : Int) < (xs.length : Int)) = false := by simp
            have HE := Aside0.mk (show (xs.take xs.length).foldl orB U = usedN (l.take (i + 1)) by rw [List.take_length, HN.out])
            go_wp2_with fail
            go_roundg k
            case measure => omega
            case rel => exact ⟨i + 1, by omega, by go_num, by rw [HE.out], BX⟩
          | succ k2 =>
            have hjl : j < xs.length := by omega
            have hd : decide ((j : Int) < (xs.length : Int)) = true := by simp; omega
            obtain ⟨y, hy⟩ : ∃ y, xs[j]? = some y := ⟨xs[j], by simp [hjl]⟩
            have n1 := m3.out j y hy
            have hy12 := HB.out y (List.mem_of_getElem? hy)
            have HY := Aside0.mk (fold_next xs j y U hy)
            have HL := Aside0.mk (fold_lt (xs.take j) (fun b hb => HB.out b (List.mem_of_mem_take hb)) U HU.out)
            clear hy
            generalize (xs.take j).foldl orB U = q at *
            have hq := HL.out
            have hor : bits .or .u16 (q : Int) (IntKind.u16.wrap ((2 : Int) ^ y)) = ((orB q y : Nat) : Int) := by
              have h1 : 1 <<< y < 65536 := by rw [Nat.one_shiftLeft]; exact Nat.lt_of_lt_of_le (Nat.pow_lt_pow_right (by omega) hy12) (by decide)
              rw [one_shl (by omega), or_u16 (by omega) h1]; rfl
            clear hq
            go_wp2_with fail
            go_roundg k2
            case measure => omega
            case rel => exact ⟨j + 1, by omega, by go_num, by rw [HY.out], ⟨rfl⟩⟩
/-- How many bits are set, by the library's table. -/
def popTab : List UInt8 := [0, 1, 1, 2, 1, 2, 2, 3, 1, 2, 2, 3, 2, 3, 3, 4, 1, 2, 2, 3, 2, 3, 3, 4, 2, 3, 3, 4, 3, 4, 4, 5, 1, 2, 2, 3, 2, 3, 3, 4, 2, 3, 3, 4, 3, 4, 4, 5, 2, 3, 3, 4, 3, 4, 4, 5, 3, 4, 4, 5, 4, 5, 5, 6, 1, 2, 2, 3, 2, 3, 3, 4, 2, 3, 3, 4, 3, 4, 4, 5, 2, 3, 3, 4, 3, 4, 4, 5, 3, 4, 4, 5, 4, 5, 5, 6, 2, 3, 3, 4, 3, 4, 4, 5, 3, 4, 4, 5, 4, 5, 5, 6, 3, 4, 4, 5, 4, 5, 5, 6, 4, 5, 5, 6, 5, 6, 6, 7, 1, 2, 2, 3, 2, 3, 3, 4, 2, 3, 3, 4, 3, 4, 4, 5, 2, 3, 3, 4, 3, 4, 4, 5, 3, 4, 4, 5, 4, 5, 5, 6, 2, 3, 3, 4, 3, 4, 4, 5, 3, 4, 4, 5, 4, 5, 5, 6, 3, 4, 4, 5, 4, 5, 5, 6, 4, 5, 5, 6, 5, 6, 6, 7, 2, 3, 3, 4, 3, 4, 4, 5, 3, 4, 4, 5, 4, 5, 5, 6, 3, 4, 4, 5, 4, 5, 5, 6, 4, 5, 5, 6, 5, 6, 6, 7, 3, 4, 4, 5, 4, 5, 5, 6, 4, 5, 5, 6, 5, 6, 6, 7, 4, 5, 5, 6, 5, 6, 6, 7, 5, 6, 6, 7, 6, 7, 7, 8]
def popN (u : Nat) : Nat := (popTab.getD (u / 256) 0).toNat + (popTab.getD (u % 256) 0).toNat
end Go.Proofs.YtkppnamblmaokaaDoor.CsB

namespace Go.Proofs.YtkppnamblmaokaaDoor.CsC
open Go.RowKit Go.Proofs.YtkppnamblmaokaaDoorW.PrintWords Go.Proofs.YtkppnamblmaokaaDoorW.PrintLast Go.Proofs.YtkppnamblmaokaaDoorW.PrintMore Go.Proofs.YtkppnamblmaokaaDoor.CsA Go.Proofs.YtkppnamblmaokaaDoor.CsW Go.Proofs.YtkppnamblmaokaaDoor.CsB
set_option linter.unusedVariables false
set_option linter.unusedSimpArgs false
def popS : ByteArray := ⟨#[0, 1, 1, 2, 1, 2, 2, 3, 1, 2, 2, 3, 2, 3, 3, 4, 1, 2, 2, 3, 2, 3, 3, 4, 2, 3, 3, 4, 3, 4, 4, 5, 1, 2, 2, 3, 2, 3, 3, 4, 2, 3, 3, 4, 3, 4, 4, 5, 2, 3, 3, 4, 3, 4, 4, 5, 3, 4, 4, 5, 4, 5, 5, 6, 1, 2, 2, 3, 2, 3, 3, 4, 2, 3, 3, 4, 3, 4, 4, 5, 2, 3, 3, 4, 3, 4, 4, 5, 3, 4, 4, 5, 4, 5, 5, 6, 2, 3, 3, 4, 3, 4, 4, 5, 3, 4, 4, 5, 4, 5, 5, 6, 3, 4, 4, 5, 4, 5, 5, 6, 4, 5, 5, 6, 5, 6, 6, 7, 1, 2, 2, 3, 2, 3, 3, 4, 2, 3, 3, 4, 3, 4, 4, 5, 2, 3, 3, 4, 3, 4, 4, 5, 3, 4, 4, 5, 4, 5, 5, 6, 2, 3, 3, 4, 3, 4, 4, 5, 3, 4, 4, 5, 4, 5, 5, 6, 3, 4, 4, 5, 4, 5, 5, 6, 4, 5, 5, 6, 5, 6, 6, 7, 2, 3, 3, 4, 3, 4, 4, 5, 3, 4, 4, 5, 4, 5, 5, 6, 3, 4, 4, 5, 4, 5, 5, 6, 4, 5, 5, 6, 5, 6, 6, 7, 3, 4, 4, 5, 4, 5, 5, 6, 4, 5, 5, 6, 5, 6, 6, 7, 4, 5, 5, 6, 5, 6, 6, 7, 5, 6, 6, 7, 6, 7, 7, 8]⟩
theorem popS_at (i : Nat) (h : i < popS.size) : (popS[i]).toNat = (popTab.getD i 0).toNat := by
  rw [List.getD, show popTab[i]? = some popS[i] from ?_]; rfl
  have e : popTab = popS.data.toList := rfl
  rw [e, Array.getElem?_toList]
  exact Array.getElem?_eq_getElem h
theorem pop_lt (i : Nat) : (popTab.getD i 0).toNat ≤ 8 := by
  have : ∀ x ∈ popTab, x.toNat ≤ 8 := by decide +kernel
  rw [List.getD]
  cases h : popTab[i]? with
  | none => decide
  | some x => exact this x (List.mem_of_getElem? h)
set_option maxHeartbeats 1000000 in
set_option maxRecDepth 100000 in
theorem ones_any (u : Nat) (hu : u < 4096) (w : World) :
    Calls Tryd.prog 55 #[.int .u16 (u : Int)] w fun e w' => e = .returned (.int .i64 (popN u : Nat)) ∧ Below w.heap.size w w' := by
  have h1 : (0 : Int) ≤ (u : Int) / 256 := by omega
  have h2 : (u : Int) / 256 < 256 := by omega
  have h3 : bits .and .u16 (u : Int) 255 = ((u % 256 : Nat) : Int) := by
    rw [show (255 : Int) = ((255 : Nat) : Int) from rfl, and_u16 (by omega) (by omega), show (255 : Nat) = 2 ^ 8 - 1 from rfl, Nat.and_two_pow_sub_one_eq_mod]
  have h4 : (0 : Int) ≤ ((u % 256 : Nat) : Int) := by omega
  have h5 : ((u % 256 : Nat) : Int) < 256 := by omega
  have h6 : (0 : Int) ≤ (u : Int) % 256 := by omega
  have h7 : (u : Int) % 256 < 256 := by omega
  go_enter Tryd.func55, Tryd.ntmps55
  go_upto_region 1 with (fail)
  go_region
  go_wp2_with fail
  go_ret
  refine ⟨?_, below_drew (Below.refl _ _)⟩
  have e1 : ((u : Int) / 256).toNat = u / 256 := by omega
  have e2 : ((u : Int) % 256).toNat = u % 256 := by omega
  have p1 := pop_lt (u / 256)
  have p2 := pop_lt (u % 256)
  have q1 := popS_at (u / 256) (show u / 256 < 256 by omega)
  have q2 := popS_at (u % 256) (show u % 256 < 256 by omega)
  show Ending.returned (.int .i64 _) = _
  congr 2
  unfold popN
  rw [← q1, ← q2]
  show (((popS[u / 256]'(show u / 256 < 256 by omega)).toNat : Int) + ((popS[u % 256]'(show u % 256 < 256 by omega)).toNat : Int)) % 256 = _
  rw [q1, q2]
  omega
/-- Of twelve blocks those that a word has not. -/
def freeB (u b : Nat) : Bool := u >>> b &&& 1 == 0
theorem all4096 (p : Nat → Bool) (h : ((List.range 64).all fun a => (List.range 64).all fun b => p (a * 64 + b)) = true) (u : Nat) (hu : u < 4096) : p u = true := by
  have h1 := List.all_eq_true.1 h (u / 64) (List.mem_range.2 (by omega))
  have h2 := List.all_eq_true.1 h1 (u % 64) (List.mem_range.2 (by omega))
  rwa [show u / 64 * 64 + u % 64 = u by omega] at h2
theorem freeB_test (u b : Nat) : freeB u b = !(u.testBit b) := by
  unfold freeB Nat.testBit
  rw [Nat.and_comm]
  cases h : (1 &&& u >>> b) with
  | zero => rfl
  | succ n => rfl
theorem free_orB (u b c : Nat) : freeB (orB u b) c = (freeB u c && (b != c)) := by
  rw [freeB_test, freeB_test]
  unfold orB
  rw [Nat.testBit_or, Nat.one_shiftLeft, Nat.testBit_two_pow]
  cases u.testBit c <;> by_cases h : b = c <;> simp [h]
def freeL (u : Nat) : List Nat := (List.range 12).filter (freeB u)
theorem freeL_orB (u b : Nat) : freeL (orB u b) = (freeL u).filter (· != b) := by
  unfold freeL
  rw [List.filter_filter]
  refine List.filter_congr fun c _ => ?_
  rw [free_orB, Bool.and_comm, bne_comm]
theorem freeL_nodup (u : Nat) : (freeL u).Nodup := List.nodup_range.filter _
theorem erase_one : ∀ (l : List Nat) (b : Nat), l.Nodup → b ∈ l → (l.filter (· != b)).length + 1 = l.length
  | [], _, _, h => by simp at h
  | a :: r, b, hn, h => by
    obtain ⟨h1, h2⟩ := List.nodup_cons.1 hn
    by_cases e : a = b
    · subst e
      have : r.filter (· != a) = r := List.filter_eq_self.2 fun c hc => by
        simp only [bne_iff_ne, ne_eq]; rintro rfl; exact h1 hc
      simp [this]
    · have hb : b ∈ r := by
        rcases List.mem_cons.1 h with h | h
        · exact absurd h.symm e
        · exact h
      have := erase_one r b h2 hb
      simp [e, this]
theorem freeL_len : ∀ (xs : List Nat) (u : Nat), xs.Nodup → (∀ b ∈ xs, b ∈ freeL u) → (freeL (xs.foldl orB u)).length + xs.length = (freeL u).length
  | [], _, _, _ => by simp
  | b :: r, u, hn, h => by
    obtain ⟨h1, h2⟩ := List.nodup_cons.1 hn
    have e := erase_one (freeL u) b (freeL_nodup u) (h b (by simp))
    rw [← freeL_orB] at e
    have := freeL_len r (orB u b) h2 (fun c hc => by
      rw [freeL_orB, List.mem_filter]
      refine ⟨h c (by simp [hc]), ?_⟩
      simp only [bne_iff_ne, ne_eq]; rintro rfl; exact h1 hc)
    simp only [List.foldl_cons, List.length_cons]
    omega
theorem freeL_one : freeL 1 = [1, 2, 3, 4, 5, 6, 7, 8, 9, 10, 11] := by decide
theorem mem_fold : ∀ (xs : List Nat) (u c : Nat), c ∈ freeL (xs.foldl orB u) ↔ c ∈ freeL u ∧ c ∉ xs
  | [], _, _ => by simp
  | b :: r, u, c => by
    rw [List.foldl_cons, mem_fold r (orB u b) c, freeL_orB, List.mem_filter]
    simp only [bne_iff_ne, ne_eq, List.mem_cons, not_or]
    constructor
    · rintro ⟨⟨h1, h2⟩, h3⟩; exact ⟨h1, h2, h3⟩
    · rintro ⟨h1, h2, h3⟩; exact ⟨⟨h1, h2⟩, h3⟩
/-- What stands at a volume's blocks: in range, each once. -/
structure Pool (l : List Vo) : Prop where
  rng : ∀ x ∈ l, ∀ b ∈ x.blocks, 1 ≤ b ∧ b < 12
  one : (l.flatMap (·.blocks)).Nodup
theorem Pool.inR {l : List Vo} (h : Pool l) : InR l := fun x hx b hb => (h.rng x hx b hb).2
theorem in_one {b : Nat} (h1 : 1 ≤ b) (h2 : b < 12) : b ∈ freeL 1 := by
  rw [freeL_one]
  simp only [List.mem_cons, List.mem_nil_iff, or_false]
  omega
theorem Pool.free {l : List Vo} (h : Pool l) : (freeL (usedN l)).length + (l.flatMap (·.blocks)).length = 11 := by
  have e := freeL_len (l.flatMap (·.blocks)) 1 h.one (fun b hb => by
    obtain ⟨x, hx, hb⟩ := List.mem_flatMap.1 hb
    exact in_one (h.rng x hx b hb).1 (h.rng x hx b hb).2)
  rw [freeL_one] at e
  exact e
theorem mem_free (l : List Vo) (c : Nat) : c ∈ freeL (usedN l) ↔ (1 ≤ c ∧ c < 12) ∧ c ∉ l.flatMap (·.blocks) := by
  unfold usedN
  rw [mem_fold, freeL_one]
  have : (c ∈ [1, 2, 3, 4, 5, 6, 7, 8, 9, 10, 11]) ↔ (1 ≤ c ∧ c < 12) := by
    simp only [List.mem_cons, List.mem_nil_iff, or_false]; omega
  rw [this]
theorem pop_free (u : Nat) (hu : u < 4096) : popN u + (freeL u).length = 12 := by
  have h := all4096 (fun u => popN u + (freeL u).length == 12) (by decide +kernel) u hu
  exact beq_iff_eq.1 h
end Go.Proofs.YtkppnamblmaokaaDoor.CsC

namespace Go.Proofs.YtkppnamblmaokaaDoor.CsD
open Go.RowKit Go.Proofs.YtkppnamblmaokaaDoorW.PrintWords Go.Proofs.YtkppnamblmaokaaDoorW.PrintLast Go.Proofs.YtkppnamblmaokaaDoorW.PrintMore Go.Proofs.YtkppnamblmaokaaDoor.CsA Go.Proofs.YtkppnamblmaokaaDoor.CsW Go.Proofs.YtkppnamblmaokaaDoor.CsB Go.Proofs.YtkppnamblmaokaaDoor.CsC
set_option linter.unusedVariables false
set_option linter.unusedSimpArgs false
set_option maxHeartbeats 400000 in
theorem clo_any (s name : ByteArray) (b : Value) (g : Nat) (w : World) (hb : b.oneCell' = true) (hc : w.cell? ⟨g, 0, none⟩ = some (.string name)) :
    Calls Tryd.prog 43 #[.agg #[.string s, b], .pointer (some ⟨g, 0, none⟩)] w fun e w' => e = .returned (.bool (s.toList == name.toList)) ∧ Below w.heap.size w w' := by
  have hc' : (w.alloc (.cells #[.string s, b] 67 (0, 0))).cell? ⟨g, 0, none⟩ = some (.string name) := cell_alloc hc _
  go_enter Tryd.func43, Tryd.ntmps43
  go_wp2
  go_ret
  exact ⟨rfl, below_alloc (Below.refl _ _) _⟩

/-- The first place of a name; -1: none. -/
def idx (name : ByteArray) : List ByteArray → Int
  | [] => -1
  | s :: r => if (s.toList == name.toList) = true then 0 else if idx name r < 0 then -1 else idx name r + 1
theorem idx_ge (name : ByteArray) : ∀ l, -1 ≤ idx name l
  | [] => by simp [idx]
  | s :: r => by
    have := idx_ge name r
    unfold idx; split
    · omega
    · split <;> omega
theorem idx_lt (name : ByteArray) : ∀ l, idx name l < l.length
  | [] => by simp [idx]
  | s :: r => by
    have := idx_lt name r
    have := idx_ge name r
    unfold idx; simp only [List.length_cons]; split
    · omega
    · split <;> omega
def shift (i : Nat) (r : Int) : Int := if r < 0 then -1 else r + i
theorem shift_hit (name : ByteArray) (ns : List ByteArray) (i : Nat) (s : ByteArray) (hs : ns[i]? = some s) (h : (s.toList == name.toList) = true) : shift i (idx name (ns.drop i)) = i := by
  rw [List.drop_eq_getElem?_toList_append, hs]
  simp [idx, h, shift]
theorem shift_miss (name : ByteArray) (ns : List ByteArray) (i : Nat) (s : ByteArray) (hs : ns[i]? = some s) (h : (s.toList == name.toList) = false) : shift i (idx name (ns.drop i)) = shift (i + 1) (idx name (ns.drop (i + 1))) := by
  rw [List.drop_eq_getElem?_toList_append (i := i), hs]
  have hg := idx_ge name (ns.drop (i + 1))
  simp only [Option.toList_some, List.singleton_append, idx, h, Bool.false_eq_true, if_false, shift]
  split <;> simp_all <;> omega

set_option maxHeartbeats 1000000 in
theorem indexFunc_any (ga cap : Nat) (ns : List ByteArray) (bs : Nat → Value) (name : ByteArray) (g : Nat) (w : World) (hcap : ns.length ≤ cap) (hn : ns.length ≤ 1000)
    (hcell : ∀ i s, ns[i]? = some s → w.cell? ⟨ga, i * 2, none⟩ = some (.string s) ∧ w.cell? ⟨ga, i * 2 + 1, none⟩ = some (bs i) ∧ (bs i).oneCell' = true) (hc : w.cell? ⟨g, 0, none⟩ = some (.string name)) :
    Calls Tryd.prog 42 #[.slice (some ⟨ga, 0, none⟩) ns.length cap, .func (.func 43) #[] #[.pointer (some ⟨g, 0, none⟩)]] w fun e w' => e = .returned (.int .i64 (idx name ns)) ∧ Below w.heap.size w w' := by
  have HC := Aside0.mk hcell
  have HN := Aside0.mk hc
  have BL := Aside0.mk (Below.refl w.heap.size w)
  have HI : Aside0 (idx name ns = shift 0 (idx name (ns.drop 0))) := ⟨by have := idx_ge name ns; simp only [List.drop_zero, shift]; split <;> omega⟩
  clear hcell hc
  generalize hlen : ns.length = len at *
  have HL := Aside0.mk hlen
  clear hlen
  go_enter Tryd.func42, Tryd.ntmps42
  go_wp2_with fail
  go_loopw [8] (fun v wr => ∃ i : Nat, i ≤ len ∧ v = .int .i64 i ∧ Aside0 (idx name ns = shift i (idx name (ns.drop i))) ∧ Aside0 (Below w.heap.size w wr)) (fun v _ => len - (intOf v).toNat)
  case atStart => exact ⟨0, by omega, rfl, HI, BL⟩
  case round =>
    clear HI BL
    obtain ⟨i, hi, rfl, HI, BL⟩ := hrel
    by_cases hlt : i < len
    · obtain ⟨s, hs⟩ : ∃ s, ns[i]? = some s := ⟨ns[i]'(by have := HL.out; omega), by simp⟩
      have HS := Aside0.mk hs
      clear hs
      have k := HC.out i s HS.out
      have c0 := pw_cell_below BL.out k.1
      have c1 := pw_cell_below BL.out k.2.1
      have cn := Aside0.mk (pw_cell_below BL.out HN.out)
      have one := Aside0.mk k.2.2
      clear k
      generalize bs i = b at *
      go_wp2_with fail
      refine (clo_any s name b g _ one.out cn.out).mono ?_
      rintro r w1 ⟨rfl, hb1⟩
      have B1 := Aside0.mk (below_step BL.out hb1)
      clear hb1 c0 c1
      by_cases hh : (s.toList == name.toList) = true
      · have HR := Aside0.mk (HI.out.trans (shift_hit name ns i s HS.out hh))
        go_wp2_with fail
        go_ret
        exact ⟨by rw [HR.out]; rfl, B1.out⟩
      · have hh : (s.toList == name.toList) = false := by simpa using hh
        have HR := Aside0.mk (HI.out.trans (shift_miss name ns i s HS.out hh))
        go_wp2_with fail
        go_roundw
        case measure => simp [intOf]; omega
        case rel => exact ⟨i + 1, by omega, by go_num, HR, B1⟩
    · have : i = len := by omega
      subst this
      have HR : Aside0 (idx name ns = -1) := ⟨by rw [HI.out, List.drop_of_length_le (by rw [HL.out]; exact Nat.le_refl _)]; simp [idx, shift]⟩
      go_wp2_with fail
      go_ret
      exact ⟨by rw [HR.out]; rfl, BL.out⟩
set_option maxHeartbeats 400000 in
theorem indexFunc_nil (A : Option Addr) (cap : Nat) (name : ByteArray) (g : Nat) (w : World) :
    Calls Tryd.prog 42 #[.slice A 0 cap, .func (.func 43) #[] #[.pointer (some ⟨g, 0, none⟩)]] w fun e w' => e = .returned (.int .i64 (-1)) ∧ Below w.heap.size w w' := by
  go_enter Tryd.func42, Tryd.ntmps42
  go_wp2_with fail
  go_loopw [8] (fun v wr => v = .int .i64 0 ∧ Aside0 (wr = w)) (fun _ _ => 0)
  case atStart => exact ⟨rfl, ⟨rfl⟩⟩
  case round =>
    obtain ⟨rfl, HW⟩ := hrel
    go_wp2_with fail
    go_ret
    exact ⟨rfl, HW.out ▸ Below.refl _ _⟩
theorem ints_one {w : World} {u : Value} {xs : List Nat} (h : IntsAt w u xs) : u.oneCell' = true := by
  obtain ⟨b, o, c, rfl, _⟩ := h; rfl
set_option maxHeartbeats 400000 in
theorem find_any (name : ByteArray) (v : Value) (l : List Vo) (w : World) (hv : VolsAt w v l) (hn : l.length ≤ 1000) :
    Calls Tryd.prog 34 #[.string name, v] w fun e w' => e = .returned (.int .i64 (idx name (l.map (·.name)))) ∧ Below w.heap.size w w' := by
  have BN := Aside0.mk (blk_new w (.cells #[.string name] 9 (0, 0)))
  have BL := Aside0.mk (below_alloc (Below.refl w.heap.size w) (.cells #[.string name] 9 (0, 0)))
  rcases hv with ⟨rfl, A, c, rfl⟩ | ⟨g, c, rfl, hc, hcell⟩
  · have HI := Aside0.mk (indexFunc_nil A c name w.heap.size)
    go_enter Tryd.func34, Tryd.ntmps34
    go_wp2_with fail
    refine (HI.out _).mono ?_
    rintro e w1 ⟨rfl, hb⟩
    go_wp2
    go_ret
    exact ⟨rfl, below_step BL.out hb⟩
  · have hl : (l.map (·.name)).length = l.length := List.length_map ..
    have h := indexFunc_any g c (l.map (·.name)) (fun i => (w.cell? ⟨g, i * 2 + 1, none⟩).getD undef) name w.heap.size (w.alloc (.cells #[.string name] 9 (0, 0))) (by rw [hl]; exact hc) (by rw [hl]; exact hn)
      (fun i s hs => by
        rw [List.getElem?_map] at hs
        obtain ⟨x, hx, rfl⟩ := Option.map_eq_some_iff.1 hs
        obtain ⟨u, k1, k2, k3⟩ := hcell i x hx
        rw [k2]
        exact ⟨cell_alloc k1 _, cell_alloc k2 _, ints_one k3⟩) ((blk_cell BN.out 0).trans rfl)
    rw [hl] at h
    have HCo := Aside0.mk h
    clear h hcell hl
    go_enter Tryd.func34, Tryd.ntmps34
    go_wp2_with fail
    refine HCo.out.mono ?_
    rintro e w1 ⟨rfl, hb⟩
    go_wp2
    go_ret
    exact ⟨rfl, below_step BL.out hb⟩
set_option maxHeartbeats 400000 in
theorem free_any (v : Value) (l : List Vo) (w : World) (hv : VolsAt w v l) (hn : l.length ≤ 1000) (h4 : ∀ x ∈ l, x.blocks.length ≤ 1000) (hr : InR l) :
    Calls Tryd.prog 44 #[v] w fun e w' => e = .returned (.int .i64 ((freeL (usedN l)).length : Nat)) ∧ Below w.heap.size w w' := by
  have HU := Aside0.mk (used_any v l w hv hn h4 hr)
  have hlt := usedN_lt hr
  have hp := pop_free (usedN l) hlt
  have HO := Aside0.mk (ones_any (usedN l) hlt)
  clear hv hn h4 hr hlt
  generalize usedN l = U at *
  have HE := Aside0.mk (show (12 : Int) - (popN U : Nat) = ((freeL U).length : Nat) by omega)
  have b1 : ((popN U : Nat) : Int) ≤ 12 := by omega
  clear hp
  go_enter Tryd.func44, Tryd.ntmps44
  go_wp2_with fail
  refine HU.out.mono ?_
  rintro e w1 ⟨rfl, hb⟩
  have BX := Aside0.mk hb
  clear hb
  go_wp2_with fail
  refine (HO.out _).mono ?_
  rintro e w2 ⟨rfl, hb⟩
  replace BX := Aside0.mk (below_step BX.out hb)
  clear hb
  generalize popN U = p at *
  go_wp2_with fail
  go_ret
  exact ⟨by rw [← HE.out]; rfl, BX.out⟩
def upTo (U b : Nat) : List Nat := (List.range b).filter (freeB U)
theorem upTo_next (U b : Nat) : upTo U (b + 1) = if freeB U b then upTo U b ++ [b] else upTo U b := by
  unfold upTo
  rw [List.range_succ, List.filter_append]
  cases h : freeB U b <;> simp [h]
theorem upTo_take (U : Nat) : ∀ (d b : Nat), b + d = 12 → (freeL U).take (upTo U b).length = upTo U b
  | 0, b, h => by
    have : b = 12 := by omega
    subst this
    exact List.take_length
  | d + 1, b, h => by
    have e := upTo_take U d (b + 1) (by omega)
    rw [upTo_next] at e
    split at e
    · have h2 := congrArg (List.take (upTo U b).length) e
      rw [List.take_take, List.take_left, List.length_append] at h2
      simpa using h2
    · exact e
theorem upTo_le (U b : Nat) : (upTo U b).length ≤ b := by
  unfold upTo
  exact Nat.le_trans (List.length_filter_le _ _) (by simp)
def ints (xs : List Nat) : List Value := xs.map fun (b : Nat) => Value.int .i64 (b : Int)
theorem own_form {w : World} {B e s n : Nat} {v : Value} {xs : List Value} (h : w.ownsRow B e s v n xs) : ∃ A c, v = .slice A n c := by
  rcases h.2 with ⟨hv, hn⟩ | ⟨g, cap, cur, hv, _⟩
  · subst hn; exact ⟨_, _, hv⟩
  · exact ⟨_, _, hv⟩
theorem info3 : (Tryd.prog.info? 3).map (fun i => (i.zero, i.size, i.bytes)) = some (some (.int .i64 0), 1, 8) := by kernel_rfl
theorem freeB_shr (U b : Nat) (hu : U < 4096) : ((bits .and .u16 ((U : Int) / 2 ^ b) 1) == 0) = freeB U b := by
  rw [show (U : Int) / 2 ^ b = ((U >>> b : Nat) : Int) by rw [Nat.shiftRight_eq_div_pow]; simp]
  have h1 : U >>> b < 65536 := by rw [Nat.shiftRight_eq_div_pow]; exact Nat.lt_of_le_of_lt (Nat.div_le_self _ _) (by omega)
  rw [show (1 : Int) = ((1 : Nat) : Int) from rfl, and_u16 h1 (by omega)]
  unfold freeB
  rw [Bool.eq_iff_iff, beq_iff_eq, beq_iff_eq]
  omega
set_option maxHeartbeats 1000000 in
set_option maxRecDepth 100000 in
theorem take_few (n : Nat) (v : Value) (l : List Vo) (w : World) (hv : VolsAt w v l) (hn : l.length ≤ 1000) (h4 : ∀ x ∈ l, x.blocks.length ≤ 1000) (hr : InR l) (n1 : 1 ≤ n) (n4 : n ≤ 4) (hf : (freeL (usedN l)).length < n) :
    Calls Tryd.prog 35 #[.int .i64 (n : Int), v] w fun e w' => e = .returned (.tuple #[.slice none 0 0, .int .i64 18]) ∧ Below w.heap.size w w' := by
  have HF := Aside0.mk (free_any v l w hv hn h4 hr)
  clear hv hn h4 hr
  generalize (freeL (usedN l)).length = f at *
  go_enter Tryd.func35, Tryd.ntmps35
  go_wp2_with fail
  refine HF.out.mono ?_
  rintro e w1 ⟨rfl, hb⟩
  have BX := Aside0.mk hb
  clear hb
  go_wp2_with fail
  go_ret2
  exact ⟨rfl, BX.out⟩
set_option maxHeartbeats 1000000 in
set_option maxRecDepth 100000 in
theorem take_any (n : Nat) (v : Value) (l : List Vo) (w : World) (hv : VolsAt w v l) (hn : l.length ≤ 1000) (h4 : ∀ x ∈ l, x.blocks.length ≤ 1000) (hr : InR l) (n1 : 1 ≤ n) (n4 : n ≤ 4) (hf : n ≤ (freeL (usedN l)).length) :
    Calls Tryd.prog 35 #[.int .i64 (n : Int), v] w fun e w' => ∃ u, e = .returned (.tuple #[u, .int .i64 0]) ∧ w'.ownsRow w.heap.size 3 1 u n (ints ((freeL (usedN l)).take n)) ∧ Below w.heap.size w w' := by
  have HF := Aside0.mk (free_any v l w hv hn h4 hr)
  have HU := Aside0.mk (fun (W : World) (hb : Below w.heap.size w W) => used_any v l W (hv.below hb) hn h4 hr)
  have hlt := usedN_lt hr
  clear hv hn h4 hr
  generalize usedN l = U at *
  generalize hff : (freeL U).length = f at *
  have HFF := Aside0.mk hff
  clear hff
  obtain ⟨i3, hi3, hz, hsz, hby⟩ := info_parts info3
  have I3 := Aside0.mk hi3
  have Z3 := Aside0.mk hz
  have S3 := Aside0.mk hsz
  have Y3 := Aside0.mk hby
  clear hi3 hz hsz hby
  go_enter Tryd.func35, Tryd.ntmps35
  go_wp2_with fail
  refine HF.out.mono ?_
  rintro e w1 ⟨rfl, hb⟩
  have BX := Aside0.mk hb
  clear hb
  go_wp2_with fail
  refine (HU.out _ BX.out).mono ?_
  rintro e w2 ⟨rfl, hb⟩
  replace BX := Aside0.mk (below_step BX.out hb)
  clear hb HU HF
  go_wp2_with fail
  go_loopg [6, 8] 13 (fun k s6 s8 wr => ∃ b : Nat, b + k = 13 ∧ b ≤ 12 ∧ s8 = .int .i64 b ∧ (upTo U b).length ≤ n ∧ Aside0 (wr.ownsRow w.heap.size 3 1 s6 (upTo U b).length (ints (upTo U b))) ∧ Aside0 (Below w.heap.size w wr))
  case atStart => exact ⟨0, by omega, by omega, rfl, by simp [upTo], ⟨show w2.ownsRow _ _ _ _ 0 [] from World.ownsRow_nil _ _ _ _⟩, BX⟩
  case round =>
    clear BX
    obtain ⟨b, hb, hb12, rfl, hlen, OW, BX⟩ := hrel
    have HUP := Aside0.mk (upTo_next U b)
    have HUT := Aside0.mk (upTo_take U (12 - b) b (by omega))
    have hb2 : (upTo U b).length < n → b < 12 := fun h => by
      rcases Nat.lt_or_ge b 12 with h1 | h1
      · exact h1
      · have : b = 12 := by omega
        subst this
        have := HFF.out
        unfold freeL upTo at *
        omega
    obtain ⟨A, c, rfl⟩ := own_form OW.out
    generalize hxs : upTo U b = xs at *
    have HXS := Aside0.mk hxs
    clear hxs
    by_cases hk : xs.length < n
    · have hb11 := hb2 hk
      have hshr := freeB_shr U b hlt
      clear hb2
      cases hfb : freeB U b with
      | false =>
        rw [hfb] at hshr
        have HN := Aside0.mk (show upTo U (b + 1) = xs by rw [HUP.out, hfb]; rfl)
        clear hfb
        go_wp2_with fail
        go_roundg (12 - b)
        case measure => omega
        case rel => exact ⟨b + 1, by omega, by omega, by go_num, by rw [HN.out]; omega, by rw [HN.out]; exact OW, BX⟩
      | true =>
        rw [hfb] at hshr
        have HN := Aside0.mk (show upTo U (b + 1) = xs ++ [b] by rw [HUP.out, hfb]; rfl)
        clear hfb
        have OA := Aside0.mk (OW.out.alloc (.cells #[.int .i64 (b : Int)] 3 (0, 0)))
        have BA := Aside0.mk (BX.out.alloc BX.out.size (.cells #[.int .i64 (b : Int)] 3 (0, 0)))
        have TA := Aside0.mk (blk_new wr (.cells #[.int .i64 (b : Int)] 3 (0, 0)))
        go_wp2_with (at_builtin; apply stop)
        unfold Stop
        refine wpList_append_own _ rfl (.tmp 34) (.tmp 36) 65 rfl w.heap.size 3 i3 _ 1 8 Tryd.underlying65 I3.out Z3.out S3.out Y3.out rfl (by decide) _ xs.length (ints xs) rfl OA.out ⟨wr.heap.size, 0, none⟩ 1 1 [.int .i64 (b : Int)] rfl rfl ?_ ?_ ?_ ?_ ?_ ?_
        · intro j u hu
          have hj : j < 1 := by have := (List.getElem?_eq_some_iff.1 hu).1; simpa using this
          rw [Addr.add_mid, Nat.zero_add, cell_of_row _ _ _ _ 3 (0, 0) TA.out]
          simpa using hu
        · intro u hu
          simp at hu
          subst hu; rfl
        · unfold maxLen; omega
        · omega
        · exact BA.out.size
        intro v1 w1 own' grow' _
        have HI := Aside0.mk (show ints (xs ++ [b]) = ints xs ++ [.int .i64 (b : Int)] by simp [ints])
        have hle : (xs ++ [b]).length = xs.length + 1 := by simp
        have OX := Aside0.mk (show w1.ownsRow w.heap.size 3 1 v1 (upTo U (b + 1)).length (ints (upTo U (b + 1))) by rw [HN.out, HI.out, hle]; exact own')
        replace BX : Aside0 (Below w.heap.size w w1) := ⟨BA.out.grown grow' BA.out.size (fun j hj => (OA.out.lt j hj).1)⟩
        clear own' grow' OA BA TA OW hle
        go_wp2_with fail
        go_roundg (12 - b)
        case measure => omega
        case rel => exact ⟨b + 1, by omega, by omega, by go_num, by rw [HN.out]; simp; omega, OX, BX⟩
    · have e : xs.length = n := by omega
      clear hb2
      have HR := Aside0.mk (show ints ((freeL U).take n) = ints xs by rw [← e, HUT.out])
      go_wp2_with fail
      go_ret2
      exact ⟨_, rfl, by rw [HR.out, ← e]; exact OW.out, BX.out⟩
end Go.Proofs.YtkppnamblmaokaaDoor.CsD

namespace Go.Proofs.YtkppnamblmaokaaDoor.CsE
open Go.RowKit Go.Proofs.YtkppnamblmaokaaDoorW.PrintWords Go.Proofs.YtkppnamblmaokaaDoorW.PrintLast Go.Proofs.YtkppnamblmaokaaDoorW.PrintMore Go.Proofs.YtkppnamblmaokaaDoor.CsA Go.Proofs.YtkppnamblmaokaaDoor.CsW Go.Proofs.YtkppnamblmaokaaDoor.CsB Go.Proofs.YtkppnamblmaokaaDoor.CsC Go.Proofs.YtkppnamblmaokaaDoor.CsD
set_option linter.unusedVariables false
set_option linter.unusedSimpArgs false
def splice (cur : Array Value) : Nat → List Value → Array Value
  | _, [] => cur
  | o, v :: r => splice (cur.setIfInBounds o v) (o + 1) r
theorem splice_size : ∀ (vs : List Value) (cur : Array Value) (o : Nat), (splice cur o vs).size = cur.size
  | [], _, _ => rfl
  | v :: r, cur, o => by unfold splice; rw [splice_size r]; simp
theorem splice_get : ∀ (vs : List Value) (cur : Array Value) (o j : Nat), o + vs.length ≤ cur.size → (splice cur o vs)[j]? = if o ≤ j ∧ j < o + vs.length then vs[j - o]? else cur[j]?
  | [], cur, o, j, _ => by simp [splice]; intro h1 h2; omega
  | v :: r, cur, o, j, h => by
    simp only [List.length_cons] at h
    unfold splice
    rw [splice_get r _ (o + 1) j (by simp; omega)]
    by_cases c1 : o + 1 ≤ j ∧ j < o + 1 + r.length
    · rw [if_pos c1, if_pos (by simp; omega)]
      have : j - o = (j - (o + 1)) + 1 := by omega
      rw [this]; simp
    · rw [if_neg c1]
      by_cases c2 : j = o
      · subst c2
        rw [if_pos (by simp)]
        have : j < cur.size := by omega
        simp [this]
      · rw [if_neg (by simp; omega), Array.getElem?_setIfInBounds_ne (by omega)]
theorem setCells_heap (b : Nat) : ∀ (vs : List Value) (o : Nat) (w : World) (cur : Array Value) (t : TypeId), w.heap[b]? = some (.cells cur t (0, 0)) → (w.setCells b o vs).heap[b]? = some (.cells (splice cur o vs) t (0, 0))
  | [], _, _, _, _, h => h
  | v :: r, o, w, cur, t, h => setCells_heap b r (o + 1) _ _ t (blk_set h o v)
theorem setCells_other (b : Nat) : ∀ (vs : List Value) (o : Nat) (w : World) (k : Nat), k ≠ b → (w.setCells b o vs).heap[k]? = w.heap[k]?
  | [], _, _, _, _ => rfl
  | v :: r, o, w, k, h => (setCells_other b r (o + 1) _ k h).trans (Below.heap_setCell w ⟨b, o, none⟩ v k h)
theorem setCells_below {B b : Nat} {w : World} (hb : B ≤ b) : ∀ (vs : List Value) (o : Nat) (W : World), Below B w W → Below B w (W.setCells b o vs)
  | [], _, _, h => h
  | v :: r, o, W, h => setCells_below hb r (o + 1) _ (h.setCell hb _)
theorem wpList_wanted {P : Program} {ops : Array Oper} {rest : List Oper} {o : Oper} {a : Act} {w : World} {Q : Exit → Act → World → Prop} (hw : Region.wanted o (yielded ops a.tmps) = true)
    (h : ∀ K : Act → World → Prop, (∀ a w, wpList P ops Q rest a w → K a w) → o.wp P a w K Q) : wpList P ops Q (o :: rest) a w :=
  wpList_step fun K hK => by rw [if_pos hw]; exact h K hK
theorem wpList_load_mid_g {P : Program} {ops : Array Oper} {rest : List Oper} {op : Oper} {a : Act} {w : World} {Q : Exit → Act → World → Prop} (hw : Region.wanted op (yielded ops a.tmps) = true) (ty : TypeId) (x : Operand) (ho : op.op = .load ty x)
    (b o : Nat) (hx : a.eval x = .pointer (some ⟨b, o, none⟩)) (cs : List Value) (d : TypeDesc) (hc : w.rangeAt b o cs)
    (hu : P.underlying ty = some d) (hd : d.isRow = true) (hi : (P.info? ty).map (·.size) = some cs.length)
    (h : wpList P ops Q rest (a.put op.dst (.agg cs.toArray)) w) : wpList P ops Q (op :: rest) a w :=
  wpList_wanted hw fun _ hK => wp_load_mid ty x ho b o hx cs d hc hu hd hi (hK _ _ h)
theorem wpList_load_row_g {P : Program} {ops : Array Oper} {rest : List Oper} {o : Oper} {a : Act} {w : World} {Q : Exit → Act → World → Prop} (hw : Region.wanted o (yielded ops a.tmps) = true) (ty : TypeId) (x : Operand) (ho : o.op = .load ty x)
    (g : Nat) (hx : a.eval x = .pointer (some ⟨g, 0, none⟩)) (t : TypeId) (cs : Array Value) (fr : Nat × Nat) (d : TypeDesc) (hg : w.heap[g]? = some (.cells cs t fr))
    (hu : P.underlying ty = some d) (hd : (match d with | .struct _ | .array _ _ => true | _ => false) = true) (hi : (P.info? ty).map (·.size) = some cs.size)
    (h : wpList P ops Q rest (a.put o.dst (.agg cs)) w) : wpList P ops Q (o :: rest) a w :=
  wpList_wanted hw fun _ hK => wp_load_row ty x ho g hx t cs fr d hg hu hd hi (hK _ _ h)
theorem run_load_row {P : Program} {o : Oper} {a : Act} {w : World} {ty : TypeId} {x : Operand} (ho : o.op = .load ty x) {g : Nat} (hx : a.eval x = .pointer (some ⟨g, 0, none⟩)) {t : TypeId} {cs : Array Value} {fr : Nat × Nat} {d : TypeDesc}
    (hg : w.heap[g]? = some (.cells cs t fr)) (hu : P.underlying ty = some d) (hd : (match d with | .struct _ | .array _ _ => true | _ => false) = true) (hi : (P.info? ty).map (·.size) = some cs.size) :
    (execOp a.eval o).run P w = .ok (.value (.agg cs)) w := by
  unfold execOp
  simp only [ho, hx, Instr.loadAt, Instr.sureAddr, Sem.run_bind, Sem.run_pure, Result.andThen_ok, run_loadVar_row w g t ty cs fr d hg hu hd hi]
def arr (l : List Int) : Array Value := (l.map (Value.int .u8)).toArray
theorem arr_size (l : List Int) : (arr l).size = l.length := by simp [arr]
theorem arr_one (l : List Int) : (arr l).all (·.oneCell') = true := by
  rw [Array.all_eq_true_iff_forall_mem]
  intro v hv
  unfold arr at hv
  simp only [List.mem_toArray, List.mem_map] at hv
  obtain ⟨x, _, rfl⟩ := hv
  rfl
theorem arr_get (l : List Int) (j : Nat) : (arr l)[j]? = (l[j]?).map (Value.int .u8) := by simp [arr]
/-- Bytes at a place in an array's. -/
def putAt (l : List Int) (o : Nat) (xs : List Int) : List Int := l.take o ++ xs ++ l.drop (o + xs.length)
theorem putAt_len (l : List Int) (o : Nat) (xs : List Int) (h : o + xs.length ≤ l.length) : (putAt l o xs).length = l.length := by
  unfold putAt
  simp only [List.length_append, List.length_take, List.length_drop]
  omega
theorem splice_arr (l : List Int) (o : Nat) (xs : List Int) (h : o + xs.length ≤ l.length) : splice (arr l) o (xs.map (Value.int .u8)) = arr (putAt l o xs) := by
  apply Array.ext_getElem?
  intro j
  rw [splice_get _ _ _ _ (by rw [arr_size, List.length_map]; exact h), arr_get, arr_get, List.length_map, List.getElem?_map]
  unfold putAt
  by_cases h1 : j < o
  · rw [if_neg (by omega), List.append_assoc, List.getElem?_append_left (by rw [List.length_take]; omega), List.getElem?_take_of_lt h1]
  · by_cases h2 : j < o + xs.length
    · rw [if_pos ⟨by omega, h2⟩, List.getElem?_append_left (by rw [List.length_append, List.length_take]; omega), List.getElem?_append_right (by rw [List.length_take]; omega), List.length_take]
      rw [show j - min o l.length = j - o by omega]
    · rw [if_neg (by omega), List.getElem?_append_right (by rw [List.length_append, List.length_take]; omega), List.getElem?_drop]
      rw [show o + xs.length + (j - (List.take o l ++ xs).length) = j by rw [List.length_append, List.length_take]; omega]
def nat8 (l : List UInt8) : List Int := l.map fun c => (c.toNat : Int)
theorem nat8_len (l : List UInt8) : (nat8 l).length = l.length := List.length_map ..
def padB (l : List UInt8) : List Int := nat8 l ++ List.replicate (4 - l.length) 0
theorem padB_len (l : List UInt8) (h : l.length ≤ 4) : (padB l).length = 4 := by unfold padB; simp [nat8_len]; omega
theorem pad_put (l : List UInt8) (h : l.length ≤ 4) : putAt [0, 0, 0, 0] 0 (nat8 l) = padB l := by
  unfold putAt padB
  rw [nat8_len]
  match l, h with
  | [], _ => rfl
  | [_], _ => rfl
  | [_, _], _ => rfl
  | [_, _, _], _ => rfl
  | [_, _, _, _], _ => rfl
theorem infoU8 : (Tryd.prog.info? 5).map (fun i => (i.zero, i.size, i.bytes)) = some (some (.int .u8 0), 1, 1) := by kernel_rfl
theorem sizeU8 (w : World) : (Go.sizeOf 5).run Tryd.prog w = .ok 1 w := by
  obtain ⟨i, hi, hz, hs, hb⟩ := info_parts infoU8
  simp [Go.sizeOf, typeInfo, hi, hs]
set_option maxHeartbeats 1000000 in
set_option maxRecDepth 100000 in
theorem pad_any (s : ByteArray) (h : s.size ≤ 4) (w : World) :
    Calls Tryd.prog 57 #[.string s] w fun e w' => e = .returned (.agg (arr (padB s.data.toList))) ∧ Below w.heap.size w w' := by
  have hl : s.data.toList.length = s.size := Array.length_toList
  have R0 := blk_new w (.cells #[.int .u8 0, .int .u8 0, .int .u8 0, .int .u8 0] 99 (0, 0))
  have R1 := Aside0.mk (blk_alloc R0 (.cells #[.int .u8 0, .int .u8 0, .int .u8 0, .int .u8 0] 99 (0, 0)))
  have hz : (w.alloc (.cells #[.int .u8 0, .int .u8 0, .int .u8 0, .int .u8 0] 99 (0, 0))).heap.size = w.heap.size + 1 := alloc_size' _ _
  have Q0 := blk_new (w.alloc (.cells #[.int .u8 0, .int .u8 0, .int .u8 0, .int .u8 0] 99 (0, 0))) (.cells #[.int .u8 0, .int .u8 0, .int .u8 0, .int .u8 0] 99 (0, 0))
  rw [hz] at Q0
  have Q1 := Aside0.mk Q0
  have BX := Aside0.mk (below_alloc (below_alloc (Below.refl w.heap.size w) (.cells #[.int .u8 0, .int .u8 0, .int .u8 0, .int .u8 0] 99 (0, 0))) (.cells #[.int .u8 0, .int .u8 0, .int .u8 0, .int .u8 0] 99 (0, 0)))
  have hcp := run_copy_string (P := Tryd.prog) ((w.alloc (.cells #[.int .u8 0, .int .u8 0, .int .u8 0, .int .u8 0] 99 (0, 0))).alloc (.cells #[.int .u8 0, .int .u8 0, .int .u8 0, .int .u8 0] 99 (0, 0))) 96 9 3 5 (w.heap.size + 1) 0 4 4 s Tryd.underlying96 sizeU8 h
    (fun j hj => by rw [blk_cell Q0]; match j, hj with | 0, _ => rfl | 1, _ => rfl | 2, _ => rfl | 3, _ => rfl | j + 4, hj => exact absurd hj (by omega)) (fun j _ => blk_frozen Q0 _)
  have HC := Aside0.mk hcp
  clear R0 Q0 hz hcp
  go_enter Tryd.func57, Tryd.ntmps57
  go_upto_region 2 with (fail)
  generalize hw2 : (w.alloc (.cells #[.int .u8 0, .int .u8 0, .int .u8 0, .int .u8 0] 99 (0, 0))).alloc (.cells #[.int .u8 0, .int .u8 0, .int .u8 0, .int .u8 0] 99 (0, 0)) = w2 at *
  generalize hrb : w.heap.size = rb at *
  have H1 := Aside0.mk (setCells_heap (rb + 1) (s.data.toList.map fun x => Value.int .u8 (x.toNat : Int)) 0 w2 #[.int .u8 0, .int .u8 0, .int .u8 0, .int .u8 0] 99 Q1.out)
  have H0 := Aside0.mk ((setCells_other (rb + 1) (s.data.toList.map fun x => Value.int .u8 (x.toNat : Int)) 0 w2 rb (by omega)).trans R1.out)
  have H2 := Aside0.mk (show splice #[.int .u8 0, .int .u8 0, .int .u8 0, .int .u8 0] 0 (s.data.toList.map fun x => Value.int .u8 (x.toNat : Int)) = arr (padB s.data.toList) by
    have e := splice_arr [0, 0, 0, 0] 0 (nat8 s.data.toList) (by rw [nat8_len, hl]; simpa using h)
    rw [pad_put _ (by omega)] at e
    rw [← e]
    unfold nat8
    rw [List.map_map]
    rfl)
  have B2 := Aside0.mk (setCells_below (B := rb) (b := rb + 1) (w := w) (by omega) (s.data.toList.map fun x => Value.int .u8 (x.toNat : Int)) 0 w2 BX.out)
  rw [H2.out] at H1
  have HL := Aside0.mk (show (arr (padB s.data.toList)).size = 4 by rw [arr_size, padB_len _ (by omega)])
  clear R1 Q1 BX hw2 hl
  generalize hpb : padB s.data.toList = pb at *
  have HPB := Aside0.mk hpb
  clear hpb
  go_wp2_with fail
  rw [HC.out]
  generalize w2.setCells (rb + 1) 0 (s.data.toList.map fun x => Value.int .u8 (x.toNat : Int)) = w3 at *
  go_wp2_with (first | (refine wpList_load_row_g (by rfl) 99 _ rfl (rb + 1) rfl 99 (arr pb) (0, 0) _ H1.out Tryd.underlying99 rfl (by rw [HL.out]; kernel_rfl) ?_) | (refine wpList_store_row rfl 99 _ _ rfl rb (arr pb) rfl rfl 99 _ H0.out (by rw [HL.out]; kernel_rfl) (by rw [HL.out]; rfl) (arr_one pb) (stop ?_)))
  unfold Stop
  have HR := Aside0.mk (setRow_heap w3 rb _ (arr pb) _ _ H0.out)
  have B3 := Aside0.mk (below_setRow B2.out (Nat.le_refl _) (arr pb))
  generalize w3.setRow rb (arr pb) = w4 at *
  go_wp2_with fail
  refine bodyPost_ret (results_cell_row rfl _ _ rb 99 (arr pb) (0, 0) _ rfl HR.out Tryd.underlying99 rfl (by rw [HL.out]; kernel_rfl)) rfl ⟨by rw [HPB.out], by first | exact B3.out | (rw [hrb]; exact B3.out)⟩
end Go.Proofs.YtkppnamblmaokaaDoor.CsE

namespace Go.Proofs.YtkppnamblmaokaaDoor.CsH
open Go.RowKit Go.Shelf Go.Lib Go.Proofs.YtkppnamblmaokaaDoorW.PrintWords Go.Proofs.YtkppnamblmaokaaDoorW.PrintLast Go.Proofs.YtkppnamblmaokaaDoorW.PrintMore Go.Proofs.YtkppnamblmaokaaDoor.CsA Go.Proofs.YtkppnamblmaokaaDoor.CsW
set_option linter.unusedVariables false
set_option linter.unusedSimpArgs false
def ofL (l : List UInt8) : ByteArray := ⟨l.toArray⟩
theorem ofL_data (l : List UInt8) : (ofL l).data.toList = l := by simp [ofL]
theorem data_ofL (s : ByteArray) : ofL s.data.toList = s := by cases s; rfl
theorem bytes_ext {a b : ByteArray} (h : a.data.toList = b.data.toList) : a = b := by rw [← data_ofL a, ← data_ofL b, h]
def lowB (c : UInt8) : Bool := 97 ≤ c && c ≤ 122
def goodL (w : List UInt8) : Bool := decide (1 ≤ w.length) && decide (w.length ≤ 4) && w.all lowB
def letters : List UInt8 := [97, 98, 99, 100, 101, 102, 103, 104, 105, 106, 107, 108, 109, 110, 111, 112, 113, 114, 115, 116, 117, 118, 119, 120, 121, 122]
def trimmed (s : ByteArray) : ByteArray := ⟨(Lib.trimS s.data.toList letters).toArray⟩
def goodName (s : ByteArray) : Bool := !s.toList.isEmpty && (decide (s.size ≤ 4) && (trimmed s).toList.isEmpty)
theorem trim_any (s : ByteArray) (w : World) (hs : s.size ≤ 9223372036854775807) :
    Calls Tryd.prog 39 #[.string s, .string ⟨#[97, 98, 99, 100, 101, 102, 103, 104, 105, 106, 107, 108, 109, 110, 111, 112, 113, 114, 115, 116, 117, 118, 119, 120, 121, 122]⟩] w fun e w' => e = .returned (.string (trimmed s)) ∧ Below w.heap.size w w' := by
  have hcon := Any.strings_Trim_laid Tryd.lays160 (by kernel_rfl) s ⟨#[97, 98, 99, 100, 101, 102, 103, 104, 105, 106, 107, 108, 109, 110, 111, 112, 113, 114, 115, 116, 117, 118, 119, 120, 121, 122]⟩ w hs (by decide) (ascii_of_all (by decide))
  exact hcon
set_option maxHeartbeats 1000000 in
theorem good_any0 (s : ByteArray) (g : Nat) (w : World) (hs : s.size ≤ 9223372036854775807) (hc : w.cell? ⟨g, 0, none⟩ = some (.string s)) :
    Calls Tryd.prog 28 #[.slice (some ⟨g, 0, none⟩) 1 1] w fun e w' => e = .returned (.bool (goodName s)) ∧ Below w.heap.size w w' := by
  have HC := Aside0.mk hc
  clear hc
  go_enter Tryd.func28, Tryd.ntmps28
  go_wp2_with fail
  go_loopw [7] (fun v wr => ∃ i : Nat, i ≤ 1 ∧ v = .int .i64 i ∧ Aside0 (i = 1 → goodName s = true) ∧ Aside0 (Below w.heap.size w wr)) (fun v _ => 1 - (RowKit.intOf v).toNat)
  case atStart => exact ⟨0, by omega, rfl, ⟨fun h => by cases h⟩, ⟨Below.refl _ _⟩⟩
  case round =>
    obtain ⟨i, hi, rfl, HG, BL⟩ := hrel
    by_cases h0 : i = 0
    · subst h0
      clear HG
      have c0 := pw_cell_below BL.out HC.out
      by_cases e1 : s.toList.isEmpty = true
      · have HF : Aside0 (goodName s = false) := ⟨by simp [goodName, e1]⟩
        go_wp2_with fail
        go_ret
        exact ⟨by rw [HF.out]; rfl, BL.out⟩
      · have e1 : s.toList.isEmpty = false := by simpa using e1
        by_cases e2 : s.size ≤ 4
        · have e2b : decide ((4 : Int) < (s.size : Int)) = false := by simp; omega
          have HT := Aside0.mk (trim_any s)
          cases e3 : (trimmed s).toList.isEmpty
          · have HF : Aside0 (goodName s = false) := ⟨by simp [goodName, e3]⟩
            generalize trimmed s = t at *
            go_wp2_with fail
            refine (HT.out _ hs).mono ?_
            rintro r w1 ⟨rfl, hb⟩
            have BL' := Aside0.mk (below_step BL.out hb)
            clear hb
            go_wp2_with fail
            go_ret
            exact ⟨by rw [HF.out]; rfl, BL'.out⟩
          · have HF : Aside0 (goodName s = true) := ⟨by simp [goodName, e1, e2, e3]⟩
            generalize trimmed s = t at *
            go_wp2_with fail
            refine (HT.out _ hs).mono ?_
            rintro r w1 ⟨rfl, hb⟩
            have BL' := Aside0.mk (below_step BL.out hb)
            clear hb
            go_wp2_with fail
            go_roundw
            case measure => simp [RowKit.intOf]
            case rel => exact ⟨1, by omega, by go_num, ⟨fun _ => HF.out⟩, BL'⟩
        · have e2b : decide ((4 : Int) < (s.size : Int)) = true := by simp; omega
          have HF : Aside0 (goodName s = false) := ⟨by simp [goodName, e2]⟩
          clear e2
          go_wp2_with fail
          go_ret
          exact ⟨by rw [HF.out]; rfl, BL.out⟩
    · have : i = 1 := by omega
      subst this
      have HF := Aside0.mk (HG.out rfl)
      go_wp2_with fail
      go_ret
      exact ⟨by rw [HF.out]; rfl, BL.out⟩

theorem letters_low : ∀ n, n < 256 → (letters.contains (UInt8.ofNat n)) = lowB (UInt8.ofNat n) := by decide +kernel
theorem letters_iff (c : UInt8) : letters.contains c = lowB c := by
  have := letters_low c.toNat (c.toNat_lt)
  simpa using this
theorem dw_nil {α : Type} (p : α → Bool) : ∀ l : List α, l.dropWhile p = [] ↔ ∀ x ∈ l, p x = true
  | [] => by simp
  | a :: r => by
    have ih := dw_nil p r
    rw [List.dropWhile_cons]
    cases h : p a
    · simp [h]
    · simp [h, ih]
theorem trim_nil (l cs : List UInt8) : (Lib.trimS l cs = []) ↔ ∀ b ∈ l, cs.contains b = true := by
  unfold Lib.trimS Lib.trimLeftS Lib.trimRightS
  rw [dw_nil]
  constructor
  · intro h
    have hd : l.reverse.dropWhile (cs.contains ·) = [] := by
      cases hc : l.reverse.dropWhile (cs.contains ·) with
      | nil => rfl
      | cons x r =>
        have h1 := h x (by rw [hc]; simp)
        have h2 := List.head?_dropWhile_not (cs.contains ·) l.reverse
        rw [hc] at h2
        simp at h2 h1
        exact absurd h1 h2
    rw [dw_nil] at hd
    intro b hb
    exact hd b (by simpa using hb)
  · intro h x hx
    have hd : l.reverse.dropWhile (cs.contains ·) = [] := by
      rw [dw_nil]
      intro b hb
      exact h b (by simpa using hb)
    rw [hd] at hx
    simp at hx

theorem good_eq (s : ByteArray) : goodName s = goodL s.data.toList := by
  have e1 : (trimmed s).toList = Lib.trimS s.data.toList letters := by rw [ByteArray.toList_eq]; unfold trimmed; simp
  have e2 : s.toList = s.data.toList := ByteArray.toList_eq s
  have e3 : s.size = s.data.toList.length := (Array.length_toList).symm
  have e4 : (Lib.trimS s.data.toList letters).isEmpty = s.data.toList.all lowB := by
    rw [Bool.eq_iff_iff, List.isEmpty_iff, trim_nil, List.all_eq_true]
    constructor
    · intro h b hb; rw [← letters_iff]; exact h b hb
    · intro h b hb; rw [letters_iff]; exact h b hb
  unfold goodName goodL
  rw [e1, e2, e3, e4, ← Bool.and_assoc]
  congr 2
  cases s.data.toList <;> simp
theorem good_any (s : ByteArray) (g : Nat) (w : World) (hs : s.size ≤ 9223372036854775807) (hc : w.cell? ⟨g, 0, none⟩ = some (.string s)) :
    Calls Tryd.prog 28 #[.slice (some ⟨g, 0, none⟩) 1 1] w fun e w' => e = .returned (.bool (goodL s.data.toList)) ∧ Below w.heap.size w w' := by
  rw [← good_eq]; exact good_any0 s g w hs hc
theorem goodL_spec {l : List UInt8} (h : goodL l = true) : 1 ≤ l.length ∧ l.length ≤ 4 ∧ ∀ c ∈ l, lowB c = true := by
  unfold goodL at h
  rw [Bool.and_eq_true, Bool.and_eq_true, decide_eq_true_iff, decide_eq_true_iff, List.all_eq_true] at h
  exact ⟨h.1.1, h.1.2, h.2⟩
end Go.Proofs.YtkppnamblmaokaaDoor.CsH

namespace Go.Proofs.YtkppnamblmaokaaDoor.CsF
open Go.RowKit Go.Shelf Go.Lib Go.Proofs.YtkppnamblmaokaaDoorW.PrintWords Go.Proofs.YtkppnamblmaokaaDoorW.PrintLast Go.Proofs.YtkppnamblmaokaaDoorW.PrintMore Go.Proofs.YtkppnamblmaokaaDoor.CsA Go.Proofs.YtkppnamblmaokaaDoor.CsW Go.Proofs.YtkppnamblmaokaaDoor.CsB Go.Proofs.YtkppnamblmaokaaDoor.CsC Go.Proofs.YtkppnamblmaokaaDoor.CsD Go.Proofs.YtkppnamblmaokaaDoor.CsE Go.Proofs.YtkppnamblmaokaaDoor.CsH
set_option linter.unusedVariables false
set_option linter.unusedSimpArgs false
def pad8 (l : List UInt8) : List UInt8 := l ++ List.replicate (4 - l.length) 0
theorem pad8_nat (l : List UInt8) : nat8 (pad8 l) = padB l := by unfold nat8 pad8 padB; simp [nat8]
theorem pad8_len (l : List UInt8) (h : l.length ≤ 4) : (pad8 l).length = 4 := by unfold pad8; simp; omega
theorem trim_pad (l : List UInt8) (h : ∀ c ∈ l, c ≠ 0) : Lib.trimRightB (pad8 l) 0 = l := by
  refine (Lib.trimRightB_take (pad8 l) 0 l.length (by unfold pad8; simp) ?_ ?_).trans (by unfold pad8; exact List.take_left)
  · intro j b hj hb
    unfold pad8 at hb
    rw [List.getElem?_append_right hj, List.getElem?_replicate] at hb
    split at hb
    · injection hb with hb; exact hb.symm
    · cases hb
  · intro b h0 hb
    unfold pad8 at hb
    rw [List.getElem?_append_left (by omega)] at hb
    have := h b (List.mem_of_getElem? hb)
    simpa using this
set_option maxHeartbeats 1000000 in
set_option maxRecDepth 100000 in
theorem cut_any (s : ByteArray) (h : goodL s.data.toList = true) (w : World) :
    Calls Tryd.prog 47 #[.agg (arr (padB s.data.toList))] w fun e w' => e = .returned (.tuple #[.string s, .bool true]) ∧ Below w.heap.size w w' := by
  obtain ⟨h1, h4, hlow⟩ := goodL_spec h
  have hsz : s.data.toList.length = s.size := Array.length_toList
  have hne : ∀ c ∈ s.data.toList, c ≠ 0 := fun c hc => by
    have := hlow c hc
    rintro rfl
    revert this
    decide
  have p4 : (pad8 s.data.toList).length = 4 := pad8_len _ h4
  have BX := Aside0.mk (below_alloc (Below.refl w.heap.size w) (.cells (arr (padB s.data.toList)) 99 (0, 0)))
  have A0 := blk_new w (.cells (arr (padB s.data.toList)) 99 (0, 0))
  have hcv := run_convert_bytes_back (P := Tryd.prog) (w.alloc (.cells (arr (padB s.data.toList)) 99 (0, 0))) 96 9 5 ⟨w.heap.size, 0, none⟩ 4 (pad8 s.data.toList) Tryd.underlying96 Tryd.underlying5 Tryd.underlying9 (fun j hj => by
    rw [Addr.add_mid, Nat.zero_add, blk_cell A0, ← pad8_nat, arr_get]
    simp [nat8, List.getElem?_eq_getElem hj])
  rw [p4] at hcv
  have HCV := Aside0.mk hcv
  have HT := Aside0.mk (fun W => Tryd.strings_TrimRight_one (⟨(pad8 s.data.toList).toArray⟩ : ByteArray) 0 (by decide) W (by show (pad8 s.data.toList).toArray.size ≤ _; rw [List.size_toArray, p4]; omega))
  have HE := Aside0.mk (show (⟨(Lib.trimRightB (⟨(pad8 s.data.toList).toArray⟩ : ByteArray).data.toList 0).toArray⟩ : ByteArray) = s by
    have : (⟨(pad8 s.data.toList).toArray⟩ : ByteArray).data.toList = pad8 s.data.toList := by simp
    rw [this, trim_pad _ hne])
  have HG := Aside0.mk (fun g W hc => good_any s g W (by omega) hc)
  rw [h] at HG
  have hemp : s.toList.isEmpty = false := by
    rw [toList_data]
    cases hh : s.data.toList with
    | nil => rw [hh] at h1; simp at h1
    | cons _ _ => rfl
  generalize padB s.data.toList = pb at *
  generalize pad8 s.data.toList = p8 at *
  clear h h1 h4 hlow hne p4 A0 hcv
  go_enter Tryd.func47, Tryd.ntmps47
  go_wp2_with fail
  rw [HCV.out]
  go_wp2_with fail
  refine (HT.out _).mono ?_
  rintro e w1 ⟨rfl, rfl⟩
  rw [HE.out]
  have BS := Aside0.mk (below_alloc BX.out (.cells #[.string s] 9 (0, 0)))
  have CS := Aside0.mk (blk_cell (blk_new (w.alloc (.cells (arr pb) 99 (0, 0))) (.cells #[.string s] 9 (0, 0))) 0)
  generalize w.alloc (.cells (arr pb) 99 (0, 0)) = w1 at *
  go_wp2_with fail
  refine (HG.out _ _ CS.out).mono ?_
  rintro e w2 ⟨rfl, hb⟩
  replace BS := Aside0.mk (below_step BS.out hb)
  clear hb
  go_wp2_with fail
  go_ret2
  exact ⟨rfl, BS.out⟩
end Go.Proofs.YtkppnamblmaokaaDoor.CsF

namespace Go.Proofs.YtkppnamblmaokaaDoor.CsI
open Go.RowKit Go.Proofs.YtkppnamblmaokaaDoorW.PrintWords Go.Proofs.YtkppnamblmaokaaDoorW.PrintLast Go.Proofs.YtkppnamblmaokaaDoorW.PrintMore Go.Proofs.YtkppnamblmaokaaDoor.CsA Go.Proofs.YtkppnamblmaokaaDoor.CsW Go.Proofs.YtkppnamblmaokaaDoor.CsB Go.Proofs.YtkppnamblmaokaaDoor.CsC Go.Proofs.YtkppnamblmaokaaDoor.CsD Go.Proofs.YtkppnamblmaokaaDoor.CsE Go.Proofs.YtkppnamblmaokaaDoor.CsH Go.Proofs.YtkppnamblmaokaaDoor.CsF
set_option linter.unusedVariables false
set_option linter.unusedSimpArgs false
theorem own_cells {w : World} {B e s n : Nat} {v : Value} {xs : List Value} (h : w.ownsRow B e s v n xs) (hx : xs.length = n * s) : (∃ A c, v = .slice A 0 c ∧ n = 0) ∨ ∃ g cap, v = .slice (some ⟨g, 0, none⟩) n cap ∧ n ≤ cap ∧ B ≤ g ∧ ∀ (j : Nat) u, xs[j]? = some u → w.cell? ⟨g, j, none⟩ = some u := by
  rcases h.2 with ⟨hv, h0⟩ | ⟨g, cap, cur, hv, hb, hh, h1, h2, h3, h4⟩
  · exact .inl ⟨_, _, hv, h0⟩
  · refine .inr ⟨g, cap, hv, h1, hb, fun j u hu => ?_⟩
    rw [blk_cell hh j, ← Array.getElem?_toList]
    have hj : j < n * s := by rw [← hx]; exact (List.getElem?_eq_some_iff.1 hu).1
    rw [← h4, List.getElem?_take_of_lt hj] at hu
    exact hu
theorem le_alloc (w : World) (o : Obj) : w.heap.size ≤ (w.alloc o).heap.size := by rw [alloc_size']; exact Nat.le_succ _
theorem own_below {w w' : World} {B e s n : Nat} {v : Value} {xs : List Value} (h : w.ownsRow B e s v n xs) (k : Below w.heap.size w w') : w'.ownsRow B e s v n xs := h.kept (grown_of_below k none) (Classical.em _)
set_option maxHeartbeats 400000 in
theorem index_no (A : Option Addr) (c : Nat) (xs : List Nat) (b : Nat) (w : World) (hn : b ∉ xs) (hl : xs.length ≤ 1000)
    (hc : xs.length = 0 ∨ ∃ g, A = some ⟨g, 0, none⟩ ∧ ∀ (j : Nat) x, xs[j]? = some x → w.cell? ⟨g, j, none⟩ = some (.int .i64 (x : Int))) :
    Calls Tryd.prog 67 #[.slice A xs.length c, .int .i64 (b : Int)] w fun e w' => e = .returned (.int .i64 (-1)) ∧ w' = w := by
  have HC := Aside0.mk hc
  have HN := Aside0.mk hn
  clear hc hn
  go_enter Tryd.func67, Tryd.ntmps67
  go_wp2_with fail
  go_loopg [8] xs.length (fun k s8 wr => ∃ i : Nat, i + k = xs.length ∧ s8 = .int .i64 i ∧ Aside0 (wr = w))
  case atStart => exact ⟨0, by omega, rfl, ⟨rfl⟩⟩
  case round =>
    obtain ⟨i, hi, rfl, ⟨hw⟩⟩ := hrel
    subst hw
    cases gk with
    | zero =>
      have e : i = xs.length := by omega
      subst e
      have hd : decide ((xs.length : Int) < (xs.length : Int)) = false := by simp
      go_wp2_with fail
      go_ret
      exact ⟨rfl, rfl⟩
    | succ k =>
      have hil : i < xs.length := by omega
      have hd : decide ((i : Int) < (xs.length : Int)) = true := by simp; omega
      obtain ⟨y, hy⟩ : ∃ y, xs[i]? = some y := ⟨xs[i], by simp [hil]⟩
      rcases HC.out with h0 | ⟨g, hg, hcell⟩
      · omega
      · have c0 := hcell i y hy
        have hne : b ≠ y := fun h => HN.out (h ▸ List.mem_of_getElem? hy)
        have hq : ((b : Int) == (y : Int)) = false := by simp; omega
        subst hg
        clear hcell hy hne
        go_wp2_with fail
        go_roundg k
        case measure => omega
        case rel => exact ⟨i + 1, by omega, by go_num, ⟨rfl⟩⟩
set_option maxHeartbeats 400000 in
theorem contains_no (A : Option Addr) (c : Nat) (xs : List Nat) (b : Nat) (w : World) (hn : b ∉ xs) (hl : xs.length ≤ 1000)
    (hc : xs.length = 0 ∨ ∃ g, A = some ⟨g, 0, none⟩ ∧ ∀ (j : Nat) x, xs[j]? = some x → w.cell? ⟨g, j, none⟩ = some (.int .i64 (x : Int))) :
    Calls Tryd.prog 63 #[.slice A xs.length c, .int .i64 (b : Int)] w fun e w' => e = .returned (.bool false) ∧ w' = w := by
  have HI := Aside0.mk (index_no A c xs b w hn hl hc)
  clear hc hn
  go_enter Tryd.func63, Tryd.ntmps63
  go_wp2_with fail
  refine HI.out.mono ?_
  rintro e w1 ⟨rfl, rfl⟩
  go_wp2_with fail
  go_ret
  exact ⟨rfl, rfl⟩
structure GoodT (l : List Vo) : Prop where
  few : l.length ≤ 3
  nm : ∀ v ∈ l, goodL v.name.data.toList = true
  un : (l.map (·.name)).Nodup
  ln : ∀ v ∈ l, 1 ≤ v.blocks.length ∧ v.blocks.length ≤ 4
  pool : Pool l
theorem same_bytes (s t : ByteArray) : (s.toList == t.toList) = decide (s = t) := by
  rw [Bool.eq_iff_iff, beq_iff_eq, decide_eq_true_iff, ByteArray.toList_eq, ByteArray.toList_eq]
  exact ⟨bytes_ext, fun h => by rw [h]⟩
theorem idx_at (ns : List ByteArray) (hn : ns.Nodup) : ∀ (i : Nat) (s : ByteArray), ns[i]? = some s → idx s ns = i := by
  induction ns with
  | nil => intro i s h; simp at h
  | cons a r ih =>
    intro i s h
    obtain ⟨h1, h2⟩ := List.nodup_cons.1 hn
    cases i with
    | zero =>
      simp at h
      subst h
      unfold idx
      rw [same_bytes, if_pos (by simp)]; rfl
    | succ i =>
      simp at h
      have e := ih h2 i s h
      unfold idx
      have hne : a ≠ s := fun e => h1 (e ▸ List.mem_of_getElem? h)
      rw [same_bytes, if_neg (by simpa using hne), e, if_neg (by omega)]
      omega
/-- The blocks ahead of volume i's block k. -/
def blksTo (l : List Vo) (i k : Nat) : List Nat := (l.take i).flatMap (·.blocks) ++ ((l[i]?).map fun x => x.blocks.take k).getD []
theorem blksTo_next (l : List Vo) (i k : Nat) (x : Vo) (b : Nat) (hx : l[i]? = some x) (hb : x.blocks[k]? = some b) : blksTo l i (k + 1) = blksTo l i k ++ [b] := by
  unfold blksTo
  rw [hx]
  simp only [Option.map_some, Option.getD_some]
  rw [List.take_add_one, hb, List.append_assoc]
  rfl
theorem blksTo_end (l : List Vo) (i : Nat) (x : Vo) (hx : l[i]? = some x) : blksTo l i x.blocks.length = (l.take (i + 1)).flatMap (·.blocks) := by
  unfold blksTo
  rw [hx, List.take_add_one, hx]
  simp
theorem blksTo_zero (l : List Vo) (i : Nat) : blksTo l i 0 = (l.take i).flatMap (·.blocks) := by
  unfold blksTo
  cases l[i]? <;> simp
theorem blksTo_prefix (l : List Vo) (i k : Nat) (x : Vo) (b : Nat) (hx : l[i]? = some x) (hb : x.blocks[k]? = some b) : ∃ r, l.flatMap (·.blocks) = blksTo l i k ++ b :: r := by
  have h1 : l = l.take i ++ x :: l.drop (i + 1) := by
    rw [← (List.getElem?_eq_some_iff.1 hx).2, List.getElem_cons_drop, List.take_append_drop]
  have h2 : x.blocks = x.blocks.take k ++ b :: x.blocks.drop (k + 1) := by
    rw [← (List.getElem?_eq_some_iff.1 hb).2, List.getElem_cons_drop, List.take_append_drop]
  refine ⟨x.blocks.drop (k + 1) ++ (l.drop (i + 1)).flatMap (·.blocks), ?_⟩
  unfold blksTo
  rw [hx]
  simp only [Option.map_some, Option.getD_some]
  conv => lhs; rw [h1]
  rw [List.flatMap_append, List.flatMap_cons]
  conv => lhs; rw [h2]
  simp
theorem not_blksTo {l : List Vo} (hg : GoodT l) {i k : Nat} {x : Vo} {b : Nat} (hx : l[i]? = some x) (hb : x.blocks[k]? = some b) : b ∉ blksTo l i k := by
  obtain ⟨r, e⟩ := blksTo_prefix l i k x b hx hb
  have h := hg.pool.one
  rw [e] at h
  intro hm
  have := (List.nodup_append.1 h).2.2 b hm b (by simp)
  exact this rfl
theorem flat_len {l : List Vo} (h : ∀ v ∈ l, v.blocks.length ≤ 4) : (l.flatMap (·.blocks)).length ≤ 4 * l.length := by
  induction l with
  | nil => simp
  | cons a r ih =>
    have h1 := h a (by simp)
    have h2 := ih (fun v hv => h v (by simp [hv]))
    simp only [List.flatMap_cons, List.length_append, List.length_cons]
    omega
theorem blksTo_len {l : List Vo} (hg : GoodT l) (i k : Nat) : (blksTo l i k).length ≤ 16 := by
  unfold blksTo
  have h1 := flat_len (l := l.take i) (fun v hv => (hg.ln v (List.mem_of_mem_take hv)).2)
  have h2 : (l.take i).length ≤ 3 := Nat.le_trans (List.length_take_le' _ _) hg.few
  cases hx : l[i]? with
  | none => simp only [Option.map_none, Option.getD_none, List.append_nil]; omega
  | some x =>
    have h3 := (hg.ln x (List.mem_of_getElem? hx)).2
    simp only [Option.map_some, Option.getD_some, List.length_append, List.length_take]
    omega
end Go.Proofs.YtkppnamblmaokaaDoor.CsI

namespace Go.Proofs.YtkppnamblmaokaaDoor.CsJ
open Go.RowKit Go.Proofs.YtkppnamblmaokaaDoorW.PrintWords Go.Proofs.YtkppnamblmaokaaDoorW.PrintLast Go.Proofs.YtkppnamblmaokaaDoorW.PrintMore Go.Proofs.YtkppnamblmaokaaDoor.CsA Go.Proofs.YtkppnamblmaokaaDoor.CsW Go.Proofs.YtkppnamblmaokaaDoor.CsB Go.Proofs.YtkppnamblmaokaaDoor.CsC Go.Proofs.YtkppnamblmaokaaDoor.CsD Go.Proofs.YtkppnamblmaokaaDoor.CsE Go.Proofs.YtkppnamblmaokaaDoor.CsH Go.Proofs.YtkppnamblmaokaaDoor.CsF Go.Proofs.YtkppnamblmaokaaDoor.CsI
set_option linter.unusedVariables false
set_option linter.unusedSimpArgs false
set_option maxHeartbeats 2000000 in
set_option maxRecDepth 100000 in
theorem goodt_any (v : Value) (l : List Vo) (w : World) (hv : VolsAt w v l) (hg : GoodT l) :
    Calls Tryd.prog 56 #[v] w fun e w' => e = .returned (.bool true) ∧ Below w.heap.size w w' := by
  have BX := Aside0.mk (Below.refl w.heap.size w)
  have HV := Aside0.mk hv
  have HG := Aside0.mk hg
  have hfew := hg.few
  obtain ⟨i3, hi3, hz, hsz, hby⟩ := info_parts info3
  have I3 := Aside0.mk hi3
  have Z3 := Aside0.mk hz
  have S3 := Aside0.mk hsz
  have Y3 := Aside0.mk hby
  clear hi3 hz hsz hby
  rcases hv with ⟨rfl, A, c, rfl⟩ | ⟨g, c, rfl, hc, hcell⟩
  · clear hg
    go_enter Tryd.func56, Tryd.ntmps56
    go_wp2_with fail
    go_loopg [3, 13] 0 (fun k s3 s13 wr => s3 = .slice none 0 0 ∧ s13 = .int .i64 0 ∧ Aside0 (wr = w))
    case atStart => exact ⟨rfl, rfl, ⟨rfl⟩⟩
    case round =>
      obtain ⟨rfl, rfl, HW⟩ := hrel
      go_wp2_with fail
      go_ret
      exact ⟨rfl, HW.out ▸ Below.refl _ _⟩
  · have HC := Aside0.mk hcell
    clear hcell hg
    have hd3 : decide ((3 : Int) < (l.length : Int)) = false := by simp; omega
    go_enter Tryd.func56, Tryd.ntmps56
    go_wp2_with fail
    generalize hrb : w.heap.size = rb at *
    have HRB := Aside0.mk hrb
    go_loopg [3, 13] l.length (fun k s3 s13 wr => ∃ i : Nat, i + k = l.length ∧ s13 = .int .i64 i ∧ Aside0 (wr.ownsRow rb 3 1 s3 (blksTo l i 0).length (ints (blksTo l i 0))) ∧ Aside0 (Below rb w wr))
    case atStart => exact ⟨0, by omega, rfl, ⟨by rw [blksTo_zero]; exact World.ownsRow_nil _ _ _ _⟩, BX⟩
    case round =>
      clear BX
      obtain ⟨i, hi, rfl, OW, BX⟩ := hrel
      have HLE := Aside0.mk (show rb ≤ wr.heap.size by have := BX.out.size; omega)
      cases gk with
      | zero =>
        have e : i = l.length := by omega
        subst e
        have hd : decide ((l.length : Int) < (l.length : Int)) = false := by simp
        go_wp2_with fail
        go_ret
        exact ⟨rfl, by first | exact BX.out | (rw [hrb]; exact BX.out)⟩
      | succ k =>
        have hil : i < l.length := by omega
        have hlt : ((i : Int) < (l.length : Int)) := by omega
        obtain ⟨x, hx⟩ : ∃ x, l[i]? = some x := ⟨l[i], by simp [hil]⟩
        obtain ⟨u, k1, k2, b, o, c2, rfl, hc2, k3⟩ := HC.out i x hx
        have hxm : x ∈ l := List.mem_of_getElem? hx
        have hln := HG.out.ln x hxm
        have hnm := HG.out.nm x hxm
        have HID := Aside0.mk (idx_at (l.map (·.name)) HG.out.un i x.name (by rw [List.getElem?_map, hx]; rfl))
        have HX := Aside0.mk hx
        have K3 := Aside0.mk k3
        have hns : x.name.size ≤ 4 := by have := (goodL_spec hnm).2.1; rw [show x.name.data.toList.length = x.name.size from Array.length_toList] at this; exact this
        have HGD := Aside0.mk (fun gx W hcx => good_any x.name gx W (by omega) hcx)
        rw [hnm] at HGD
        have m1 := cell_keep (BX.out.mono (by omega)) k1
        have m2 := cell_keep (BX.out.mono (by omega)) k2
        have hl1 := hln.1
        have hl4 := hln.2
        have hb1 : decide ((x.blocks.length : Int) < 1) = false := by simp; omega
        have hb4 : decide ((4 : Int) < (x.blocks.length : Int)) = false := by simp; omega
        clear hx k1 k2 k3 hxm hln hnm hns
        go_upto_region 7 with (fail)
        have VB := Aside0.mk (blk_new wr (.cells #[.string x.name, .slice (some ⟨b, o, none⟩) x.blocks.length c2] 67 (0, 0)))
        replace OW := Aside0.mk (OW.out.alloc (.cells #[.string x.name, .slice (some ⟨b, o, none⟩) x.blocks.length c2] 67 (0, 0)))
        replace BX := Aside0.mk (BX.out.alloc HLE.out (.cells #[.string x.name, .slice (some ⟨b, o, none⟩) x.blocks.length c2] 67 (0, 0)))
        clear m1 m2 HLE
        generalize wr.alloc (.cells #[.string x.name, .slice (some ⟨b, o, none⟩) x.blocks.length c2] 67 (0, 0)) = w5 at *
        generalize wr.heap.size = bv at *
        have cv0 := (blk_cell VB.out 0).trans (show _ = some (.string x.name) from rfl)
        go_wp2_with fail
        have CS := Aside0.mk (blk_cell (blk_new w5 (.cells #[.string x.name] 9 (0, 0))) 0)
        have HLE := Aside0.mk (show rb ≤ w5.heap.size by have := BX.out.size; have := HRB.out; omega)
        replace VB := Aside0.mk (blk_alloc VB.out (.cells #[.string x.name] 9 (0, 0)))
        replace OW := Aside0.mk (OW.out.alloc (.cells #[.string x.name] 9 (0, 0)))
        replace BX := Aside0.mk (BX.out.alloc HLE.out (.cells #[.string x.name] 9 (0, 0)))
        clear cv0
        generalize w5.alloc (.cells #[.string x.name] 9 (0, 0)) = w6 at *
        generalize w5.heap.size = bs at *
        refine (HGD.out _ _ CS.out).mono ?_
        rintro e w7 ⟨rfl, hb⟩
        replace HLE : Aside0 (rb ≤ w6.heap.size) := ⟨by have := BX.out.size; have := HRB.out; omega⟩
        replace VB := Aside0.mk (blk_below VB.out hb)
        replace OW := Aside0.mk (own_below OW.out hb)
        replace BX := Aside0.mk (below_then BX.out HLE.out hb)
        clear hb CS HGD
        have cv0 := (blk_cell VB.out 0).trans (show _ = some (.string x.name) from rfl)
        go_wp2_with fail
        have HFI := Aside0.mk (find_any x.name _ l w7 (HV.out.below (BX.out.mono (by have := HRB.out; omega))) (by omega))
        rw [HID.out] at HFI
        refine HFI.out.mono ?_
        rintro e w8 ⟨rfl, hb⟩
        replace HLE : Aside0 (rb ≤ w7.heap.size) := ⟨by have := BX.out.size; have := HRB.out; omega⟩
        replace VB := Aside0.mk (blk_below VB.out hb)
        replace OW := Aside0.mk (own_below OW.out hb)
        replace BX := Aside0.mk (below_then BX.out HLE.out hb)
        clear hb cv0 HFI
        have cv0 := (blk_cell VB.out 0).trans (show _ = some (.string x.name) from rfl)
        have cv1 := (blk_cell VB.out 1).trans (show _ = some (.slice (some ⟨b, o, none⟩) x.blocks.length c2) from rfl)
        have hne : ((i : Int) != (i : Int)) = false := by simp
        go_wp2_with fail
        clear cv0 cv1 HLE
        go_loopg [3, 46] x.blocks.length (fun k s3 s46 wi => ∃ j : Nat, j + k = x.blocks.length ∧ s46 = .int .i64 j ∧ Aside0 (wi.ownsRow rb 3 1 s3 (blksTo l i j).length (ints (blksTo l i j))) ∧ Aside0 (Below rb w wi))
        case atStart => exact ⟨0, by omega, rfl, OW, BX⟩
        case round =>
          clear BX OW VB
          obtain ⟨j, hj, rfl, OW, BX⟩ := hrel
          cases gk with
          | zero =>
            have e : j = x.blocks.length := by omega
            subst e
            have hd : decide ((x.blocks.length : Int) < (x.blocks.length : Int)) = false := by simp
            have HE := Aside0.mk (show blksTo l (i + 1) 0 = blksTo l i x.blocks.length by rw [blksTo_zero, blksTo_end l i x HX.out])
            go_wp2_with fail
            go_roundg k
            case measure => omega
            case rel => exact ⟨i + 1, by omega, by go_num, by rw [HE.out]; exact OW, BX⟩
          | succ k2 =>
            have hjl : j < x.blocks.length := by omega
            have hd : decide ((j : Int) < (x.blocks.length : Int)) = true := by simp; omega
            obtain ⟨y, hy⟩ : ∃ y, x.blocks[j]? = some y := ⟨x.blocks[j], by simp [hjl]⟩
            have n1 := cell_keep (BX.out.mono (by have := HRB.out; omega)) (K3.out j y hy)
            have hyr := HG.out.pool.rng x (List.mem_of_getElem? HX.out) y (List.mem_of_getElem? hy)
            have hy1 : decide ((y : Int) < 1) = false := by simp; omega
            have hy2 : decide ((12 : Int) ≤ (y : Int)) = false := by simp; omega
            have HNX := Aside0.mk (blksTo_next l i j x y HX.out hy)
            have HNO := Aside0.mk (not_blksTo HG.out HX.out hy)
            have hal := blksTo_len HG.out i j
            obtain ⟨A, ca, rfl⟩ := own_form OW.out
            have HCO := Aside0.mk (contains_no A ca (blksTo l i j) y wr HNO.out (by omega) (by
              rcases own_cells OW.out (by simp [ints]) with ⟨_, _, _, h0⟩ | ⟨ga, cap, e, _, _, hcl⟩
              · exact .inl h0
              · injection e with e1 e2 e3
                exact .inr ⟨ga, e1, fun q z hz => hcl q _ (by unfold ints; rw [List.getElem?_map, hz]; rfl)⟩))
            clear hy hyr
            go_wp2_with fail
            refine HCO.out.mono ?_
            rintro e w9 ⟨rfl, rfl⟩
            clear HCO n1
            have HLE := Aside0.mk (show rb ≤ w9.heap.size by have := BX.out.size; have := HRB.out; omega)
            have OA := Aside0.mk (OW.out.alloc (.cells #[.int .i64 (y : Int)] 3 (0, 0)))
            have BA := Aside0.mk (BX.out.alloc HLE.out (.cells #[.int .i64 (y : Int)] 3 (0, 0)))
            have TA := Aside0.mk (blk_new w9 (.cells #[.int .i64 (y : Int)] 3 (0, 0)))
            go_wp2_with (at_builtin; apply stop)
            unfold Stop
            refine wpList_append_own _ rfl (.tmp 61) (.tmp 63) 65 rfl rb 3 i3 _ 1 8 Tryd.underlying65 I3.out Z3.out S3.out Y3.out rfl (by decide) _ (blksTo l i j).length (ints (blksTo l i j)) rfl OA.out ⟨w9.heap.size, 0, none⟩ 1 1 [.int .i64 (y : Int)] rfl rfl ?_ ?_ ?_ ?_ ?_ ?_
            · intro j u hu
              have hj : j < 1 := by have := (List.getElem?_eq_some_iff.1 hu).1; simpa using this
              rw [Addr.add_mid, Nat.zero_add, cell_of_row _ _ _ _ 3 (0, 0) TA.out]
              simpa using hu
            · intro u hu
              simp at hu
              subst hu; rfl
            · unfold maxLen; omega
            · omega
            · exact Nat.le_trans HLE.out (le_alloc _ _)
            intro v1 w1 own' grow' _
            have HI := Aside0.mk (show ints (blksTo l i (j + 1)) = ints (blksTo l i j) ++ [.int .i64 (y : Int)] by rw [HNX.out]; simp [ints])
            have hle : (blksTo l i (j + 1)).length = (blksTo l i j).length + 1 := by rw [HNX.out]; simp
            replace OW := Aside0.mk (show w1.ownsRow rb 3 1 v1 (blksTo l i (j + 1)).length (ints (blksTo l i (j + 1))) by rw [HI.out, hle]; exact own')
            replace BX : Aside0 (Below rb w w1) := ⟨BA.out.grown grow' (Nat.le_trans HLE.out (le_alloc _ _)) (fun q hq => (OA.out.lt q hq).1)⟩
            clear own' grow' OA BA TA hle HLE
            go_wp2_with fail
            go_roundg k2
            case measure => omega
            case rel => exact ⟨j + 1, by omega, by go_num, OW, BX⟩
end Go.Proofs.YtkppnamblmaokaaDoor.CsJ

namespace Go.Proofs.YtkppnamblmaokaaDoor.CsK
open Go.RowKit Go.Proofs.YtkppnamblmaokaaDoorW.PrintWords Go.Proofs.YtkppnamblmaokaaDoorW.PrintLast Go.Proofs.YtkppnamblmaokaaDoorW.PrintMore Go.Proofs.YtkppnamblmaokaaDoor.CsA Go.Proofs.YtkppnamblmaokaaDoor.CsW Go.Proofs.YtkppnamblmaokaaDoor.CsB Go.Proofs.YtkppnamblmaokaaDoor.CsC Go.Proofs.YtkppnamblmaokaaDoor.CsD Go.Proofs.YtkppnamblmaokaaDoor.CsE Go.Proofs.YtkppnamblmaokaaDoor.CsH Go.Proofs.YtkppnamblmaokaaDoor.CsF Go.Proofs.YtkppnamblmaokaaDoor.CsI Go.Proofs.YtkppnamblmaokaaDoor.CsJ
set_option linter.unusedVariables false
set_option linter.unusedSimpArgs false
theorem putAt_next (l : List Int) (o : Nat) (xs ys : List Int) (h : o + xs.length ≤ l.length) : putAt (putAt l o xs) (o + xs.length) ys = putAt l o (xs ++ ys) := by
  unfold putAt
  have e1 : (l.take o ++ xs ++ l.drop (o + xs.length)).take (o + xs.length) = l.take o ++ xs := by
    rw [List.take_append_of_le_length (by rw [List.length_append, List.length_take]; omega)]
    exact List.take_of_length_le (by rw [List.length_append, List.length_take]; omega)
  have e2 : (l.take o ++ xs ++ l.drop (o + xs.length)).drop (o + xs.length + ys.length) = l.drop (o + (xs ++ ys).length) := by
    rw [List.drop_append, List.drop_of_length_le (by rw [List.length_append, List.length_take]; omega), List.nil_append, List.drop_drop]
    congr 1
    rw [List.length_append, List.length_append, List.length_take]
    omega
  rw [e1, e2, ← List.append_assoc]
theorem arr_set (l : List Int) (j : Nat) (x : Int) (h : j < l.length) : (arr l).setIfInBounds j (.int .u8 x) = arr (putAt l j [x]) := by
  have := splice_arr l j [x] (by simp; omega)
  rw [← this]
  rfl
def e0 (n : Nat) : List Int := (n : Int) :: List.replicate 31 0
def partP (x : Vo) (k : Nat) : List Int := padB x.name.data.toList ++ [(x.blocks.length : Int)] ++ (x.blocks.take k).map (fun (b : Nat) => (b : Int))
def encTo (l : List Vo) : Nat → List Int
  | 0 => e0 l.length
  | i + 1 => match l[i]? with
    | some x => putAt (encTo l i) (1 + 9 * i) (partP x x.blocks.length)
    | none => encTo l i
def enc (l : List Vo) : List Int := encTo l l.length
theorem name_len {l : List Vo} (hg : GoodT l) {x : Vo} (hx : x ∈ l) : x.name.data.toList.length ≤ 4 := (goodL_spec (hg.nm x hx)).2.1
theorem partP_len {l : List Vo} (hg : GoodT l) {x : Vo} (hx : x ∈ l) (k : Nat) : (partP x k).length = 5 + min k x.blocks.length := by
  unfold partP
  simp only [List.length_append, List.length_map, List.length_take, padB_len _ (name_len hg hx), List.length_cons, List.length_nil]
theorem encTo_len {l : List Vo} (hg : GoodT l) : ∀ i, i ≤ l.length → (encTo l i).length = 32
  | 0, _ => by simp [encTo, e0]
  | i + 1, h => by
    have ih := encTo_len hg i (by omega)
    have h3 := hg.few
    unfold encTo
    cases hx : l[i]? with
    | none => exact ih
    | some x =>
      have hm : x ∈ l := List.mem_of_getElem? hx
      have h4 := (hg.ln x hm).2
      simp only
      rw [putAt_len _ _ _ (by rw [partP_len hg hm, ih]; omega), ih]
theorem encTo_next (l : List Vo) (i : Nat) (x : Vo) (hx : l[i]? = some x) : encTo l (i + 1) = putAt (encTo l i) (1 + 9 * i) (partP x x.blocks.length) := by
  rw [encTo, hx]
theorem partP_next (x : Vo) (k b : Nat) (h : x.blocks[k]? = some b) : partP x (k + 1) = partP x k ++ [(b : Int)] := by
  unfold partP
  rw [List.take_add_one, h]
  simp
theorem slice_at (qb i : Nat) (hi : i ≤ 2) (W : World) : (Instr.sliceAt 32 (.pointer (some ⟨qb, 0, none⟩)) (some (.int .i64 (1 + 9 * (i : Int)))) none none).run Tryd.prog W = .ok (.slice (some ⟨qb, 1 + 9 * i, none⟩) (31 - 9 * i) (31 - 9 * i)) W := by
  have : i = 0 ∨ i = 1 ∨ i = 2 := by omega
  rcases this with rfl | rfl | rfl
  all_goals go_simp
theorem row_put (L : List Int) (o : Nat) (xs : List Int) : ((arr L).toList.take o ++ xs.map (Value.int .u8) ++ (arr L).toList.drop (o + (xs.map (Value.int .u8)).length)).toArray = arr (putAt L o xs) := by
  unfold arr putAt
  rw [List.map_append, List.map_append, List.map_take, List.map_drop, List.length_map]
theorem at_some (L : List Int) (j : Nat) (h : j < L.length) : ∃ y, (arr L)[j]? = some (.int .u8 y) := ⟨L[j], by rw [arr_get, List.getElem?_eq_getElem h]; rfl⟩
theorem e0_arr (n : Nat) : arr (e0 n) = #[.int .u8 (n : Int), .int .u8 0, .int .u8 0, .int .u8 0, .int .u8 0, .int .u8 0, .int .u8 0, .int .u8 0, .int .u8 0, .int .u8 0, .int .u8 0, .int .u8 0, .int .u8 0, .int .u8 0, .int .u8 0, .int .u8 0, .int .u8 0, .int .u8 0, .int .u8 0, .int .u8 0, .int .u8 0, .int .u8 0, .int .u8 0, .int .u8 0, .int .u8 0, .int .u8 0, .int .u8 0, .int .u8 0, .int .u8 0, .int .u8 0, .int .u8 0, .int .u8 0] := rfl
set_option maxHeartbeats 2000000 in
set_option maxRecDepth 100000 in
theorem encode_any (v : Value) (l : List Vo) (w : World) (hv : VolsAt w v l) (hg : GoodT l) :
    Calls Tryd.prog 46 #[v] w fun e w' => e = .returned (.tuple #[.agg (arr (enc l)), .int .i64 0]) ∧ Below w.heap.size w w' := by
  have HV := Aside0.mk hv
  have HG := Aside0.mk hg
  have hfew := hg.few
  have hwr : IntKind.u8.wrap (l.length : Int) = (l.length : Int) := uw8 (by omega)
  have hmd : (l.length : Int) % 256 = (l.length : Int) := by omega
  have R0 := Aside0.mk (blk_new w (.cells #[.int .u8 0, .int .u8 0, .int .u8 0, .int .u8 0, .int .u8 0, .int .u8 0, .int .u8 0, .int .u8 0, .int .u8 0, .int .u8 0, .int .u8 0, .int .u8 0, .int .u8 0, .int .u8 0, .int .u8 0, .int .u8 0, .int .u8 0, .int .u8 0, .int .u8 0, .int .u8 0, .int .u8 0, .int .u8 0, .int .u8 0, .int .u8 0, .int .u8 0, .int .u8 0, .int .u8 0, .int .u8 0, .int .u8 0, .int .u8 0, .int .u8 0, .int .u8 0] 32 (0, 0)))
  have B0 := Aside0.mk (below_alloc (Below.refl w.heap.size w) (.cells #[.int .u8 0, .int .u8 0, .int .u8 0, .int .u8 0, .int .u8 0, .int .u8 0, .int .u8 0, .int .u8 0, .int .u8 0, .int .u8 0, .int .u8 0, .int .u8 0, .int .u8 0, .int .u8 0, .int .u8 0, .int .u8 0, .int .u8 0, .int .u8 0, .int .u8 0, .int .u8 0, .int .u8 0, .int .u8 0, .int .u8 0, .int .u8 0, .int .u8 0, .int .u8 0, .int .u8 0, .int .u8 0, .int .u8 0, .int .u8 0, .int .u8 0, .int .u8 0] 32 (0, 0)))
  have HGT := Aside0.mk (goodt_any v l _ (hv.below B0.out) hg)
  obtain ⟨A, cv, hlv⟩ : ∃ A cv, v = .slice A l.length cv := by
    rcases hv with ⟨rfl, A, c, h⟩ | ⟨g, c, h, _⟩
    · exact ⟨A, c, h⟩
    · exact ⟨_, c, h⟩
  clear hv
  subst hlv
  go_enter Tryd.func46, Tryd.ntmps46
  go_upto_region 1 with (fail)
  generalize hw1 : w.alloc (.cells #[.int .u8 0, .int .u8 0, .int .u8 0, .int .u8 0, .int .u8 0, .int .u8 0, .int .u8 0, .int .u8 0, .int .u8 0, .int .u8 0, .int .u8 0, .int .u8 0, .int .u8 0, .int .u8 0, .int .u8 0, .int .u8 0, .int .u8 0, .int .u8 0, .int .u8 0, .int .u8 0, .int .u8 0, .int .u8 0, .int .u8 0, .int .u8 0, .int .u8 0, .int .u8 0, .int .u8 0, .int .u8 0, .int .u8 0, .int .u8 0, .int .u8 0, .int .u8 0] 32 (0, 0)) = w1 at *
  generalize hrb : w.heap.size = rb at *
  have HRB := Aside0.mk hrb
  go_wp2_with fail
  refine HGT.out.mono ?_
  rintro e w2 ⟨rfl, hb⟩
  have RX := Aside0.mk (blk_below R0.out hb)
  have BX := Aside0.mk (below_then B0.out (Nat.le_of_lt (blk_lt R0.out)) hb)
  clear hb HGT R0 B0 hw1
  have Q0 := Aside0.mk (blk_new w2 (.cells #[.int .u8 0, .int .u8 0, .int .u8 0, .int .u8 0, .int .u8 0, .int .u8 0, .int .u8 0, .int .u8 0, .int .u8 0, .int .u8 0, .int .u8 0, .int .u8 0, .int .u8 0, .int .u8 0, .int .u8 0, .int .u8 0, .int .u8 0, .int .u8 0, .int .u8 0, .int .u8 0, .int .u8 0, .int .u8 0, .int .u8 0, .int .u8 0, .int .u8 0, .int .u8 0, .int .u8 0, .int .u8 0, .int .u8 0, .int .u8 0, .int .u8 0, .int .u8 0] 32 (0, 0)))
  go_wp2_with (first | (refine wpList_store_row rfl 32 (.tmp 4) (.tmp 18) rfl w2.heap.size (arr (e0 l.length)) rfl rfl 32 _ Q0.out (by rw [arr_size]; kernel_rfl) (by rw [arr_size]; rfl) (arr_one _) (stop ?_)))
  unfold Stop
  rw [World.setRow_alloc_new]
  generalize Value.agg #[.int .u8 (l.length : Int), .int .u8 0, .int .u8 0, .int .u8 0, .int .u8 0, .int .u8 0, .int .u8 0, .int .u8 0, .int .u8 0, .int .u8 0, .int .u8 0, .int .u8 0, .int .u8 0, .int .u8 0, .int .u8 0, .int .u8 0, .int .u8 0, .int .u8 0, .int .u8 0, .int .u8 0, .int .u8 0, .int .u8 0, .int .u8 0, .int .u8 0, .int .u8 0, .int .u8 0, .int .u8 0, .int .u8 0, .int .u8 0, .int .u8 0, .int .u8 0, .int .u8 0] = a18
  have HQR := Aside0.mk (blk_lt RX.out)
  have HLE := Aside0.mk (Nat.le_of_lt HQR.out)
  replace Q0 := Aside0.mk (blk_new w2 (.cells (arr (e0 l.length)) 32 (0, 0)))
  replace RX := Aside0.mk (blk_alloc RX.out (.cells (arr (e0 l.length)) 32 (0, 0)))
  replace BX := Aside0.mk (BX.out.alloc HLE.out (.cells (arr (e0 l.length)) 32 (0, 0)))
  clear HLE
  generalize w2.alloc (.cells (arr (e0 l.length)) 32 (0, 0)) = w3 at *
  generalize w2.heap.size = qb at *
  go_wp2_with fail
  go_loopg [21] l.length (fun k s21 wr => ∃ i : Nat, i + k = l.length ∧ s21 = .int .i64 i ∧ Aside0 (wr.heap[qb]? = some (.cells (arr (encTo l i)) 32 (0, 0))) ∧ Aside0 (wr.heap[rb]? = some (.cells #[.int .u8 0, .int .u8 0, .int .u8 0, .int .u8 0, .int .u8 0, .int .u8 0, .int .u8 0, .int .u8 0, .int .u8 0, .int .u8 0, .int .u8 0, .int .u8 0, .int .u8 0, .int .u8 0, .int .u8 0, .int .u8 0, .int .u8 0, .int .u8 0, .int .u8 0, .int .u8 0, .int .u8 0, .int .u8 0, .int .u8 0, .int .u8 0, .int .u8 0, .int .u8 0, .int .u8 0, .int .u8 0, .int .u8 0, .int .u8 0, .int .u8 0, .int .u8 0] 32 (0, 0))) ∧ Aside0 (Below rb w wr))
  case atStart => exact ⟨0, by omega, rfl, Q0, RX, BX⟩
  case round =>
    clear Q0 RX BX
    obtain ⟨i, hi, rfl, QX, RX, BX⟩ := hrel
    cases gk with
    | zero =>
      have e : i = l.length := by omega
      subst e
      have hd : decide ((l.length : Int) < (l.length : Int)) = false := by simp
      have HL := Aside0.mk (show (arr (encTo l l.length)).size = 32 by rw [arr_size, encTo_len HG.out _ (Nat.le_refl _)])
      have HEN := Aside0.mk (show arr (encTo l l.length) = arr (enc l) from rfl)
      generalize arr (encTo l l.length) = EN at *
      go_wp2_with (first | (refine wpList_load_row_g (by rfl) 32 _ rfl qb rfl 32 EN (0, 0) _ QX.out Tryd.underlying32 rfl (by rw [HL.out]; kernel_rfl) ?_) | (refine wpList_store_row rfl 32 _ _ rfl rb EN rfl rfl 32 _ RX.out (by rw [HL.out]; kernel_rfl) (by rw [HL.out]; rfl) (by rw [HEN.out]; exact arr_one _) (stop ?_)))
      unfold Stop
      have HR := Aside0.mk (setRow_heap wr rb _ EN _ _ RX.out)
      have B3 := Aside0.mk (below_setRow BX.out (Nat.le_refl _) EN)
      generalize wr.setRow rb EN = w4 at *
      go_wp2_with fail
      refine bodyPost_ret (results_ct rfl _ _ rb 32 EN (0, 0) _ rfl HR.out Tryd.underlying32 rfl (by rw [HL.out]; kernel_rfl)) rfl ⟨by rw [HEN.out]; rfl, by first | exact B3.out | (rw [hrb]; exact B3.out)⟩
    | succ k =>
      have hil : i < l.length := by omega
      have hlt : ((i : Int) < (l.length : Int)) := by omega
      obtain ⟨x, hx⟩ : ∃ x, l[i]? = some x := ⟨l[i], by simp [hil]⟩
      have hxm : x ∈ l := List.mem_of_getElem? hx
      have hln := (HG.out.ln x hxm)
      have hl4 := hln.2
      have HXM := Aside0.mk hxm
      obtain ⟨g, c, b, o, c2, hA, m1, m2, hc2, K3⟩ : ∃ g c b o c2, A = some ⟨g, 0, none⟩ ∧ wr.cell? ⟨g, i * 2, none⟩ = some (.string x.name) ∧ wr.cell? ⟨g, i * 2 + 1, none⟩ = some (.slice (some ⟨b, o, none⟩) x.blocks.length c2) ∧ x.blocks.length ≤ c2 ∧ Aside0 (∀ (j : Nat) y, x.blocks[j]? = some y → w.cell? ⟨b, o + j, none⟩ = some (.int .i64 (y : Int))) := by
        rcases HV.out with ⟨h0, _⟩ | ⟨g, c, e, hc, hcell⟩
        · rw [h0] at hil; simp at hil
        · injection e with e1 e2 e3
          obtain ⟨u, k1, k2, b, o, c2, rfl, hc2, k3⟩ := hcell i x hx
          exact ⟨g, c, b, o, c2, e1, cell_keep (BX.out.mono (by have := HRB.out; omega)) k1, cell_keep (BX.out.mono (by have := HRB.out; omega)) k2, hc2, ⟨k3⟩⟩
      have HNX := Aside0.mk (encTo_next l i x hx)
      have HLN := Aside0.mk (encTo_len HG.out i (by omega))
      have HPP := Aside0.mk (fun k => partP_len HG.out hxm k)
      have HPA := Aside0.mk (pad_any x.name (by have := name_len HG.out hxm; rw [show x.name.data.toList.length = x.name.size from Array.length_toList] at this; exact this))
      have HPL := Aside0.mk (padB_len _ (name_len HG.out hxm))
      subst hA
      clear hx hxm hln
      have hi2 : (i : Int) ≤ 2 := by omega
      have hi0 : (0 : Int) ≤ (i : Int) := by omega
      have HLE := Aside0.mk (show rb ≤ wr.heap.size by have := blk_lt RX.out; omega)
      have HBV := Aside0.mk (show qb < wr.heap.size from blk_lt QX.out)
      go_upto_region 7 with (fail)
      have VB := Aside0.mk (blk_new wr (.cells #[.string x.name, .slice (some ⟨b, o, none⟩) x.blocks.length c2] 67 (0, 0)))
      replace RX := Aside0.mk (blk_alloc RX.out (.cells #[.string x.name, .slice (some ⟨b, o, none⟩) x.blocks.length c2] 67 (0, 0)))
      replace QX := Aside0.mk (blk_alloc QX.out (.cells #[.string x.name, .slice (some ⟨b, o, none⟩) x.blocks.length c2] 67 (0, 0)))
      replace BX := Aside0.mk (BX.out.alloc HLE.out (.cells #[.string x.name, .slice (some ⟨b, o, none⟩) x.blocks.length c2] 67 (0, 0)))
      clear m1 m2 HLE
      generalize wr.alloc (.cells #[.string x.name, .slice (some ⟨b, o, none⟩) x.blocks.length c2] 67 (0, 0)) = w5 at *
      generalize wr.heap.size = bv at *
      have cv0 := (blk_cell VB.out 0).trans (show _ = some (.string x.name) from rfl)
      have cv1 := (blk_cell VB.out 1).trans (show _ = some (.slice (some ⟨b, o, none⟩) x.blocks.length c2) from rfl)
      have hsl := fun W => slice_at qb i (by omega) W
      go_upto_region 8 with (fail)
      clear hsl
      go_wp2_with fail
      refine (HPA.out _).mono ?_
      rintro e w7 ⟨rfl, hb⟩
      have HL5 := Aside0.mk (show rb ≤ w5.heap.size by have := blk_lt RX.out; omega)
      replace VB := Aside0.mk (blk_below VB.out hb)
      replace RX := Aside0.mk (blk_below RX.out hb)
      replace QX := Aside0.mk (blk_below QX.out hb)
      replace BX := Aside0.mk (below_then BX.out HL5.out hb)
      clear hb HL5 HPA cv0 cv1
      generalize hpb : padB x.name.data.toList = pb at *
      have HPB := Aside0.mk hpb
      have hpl := HPL.out
      clear hpb
      have N0 := Aside0.mk (blk_new w7 (.cells #[.int .u8 0, .int .u8 0, .int .u8 0, .int .u8 0] 99 (0, 0)))
      go_wp2_with (first | (refine wpList_store_row rfl 99 (.tmp 8) (.tmp 32) rfl w7.heap.size (arr pb) rfl rfl 99 _ N0.out (by rw [arr_size, HPL.out]; kernel_rfl) (by rw [arr_size, HPL.out]; rfl) (arr_one _) (stop ?_)))
      unfold Stop
      rw [World.setRow_alloc_new]
      replace N0 := Aside0.mk (blk_new w7 (.cells (arr pb) 99 (0, 0)))
      have HL7 := Aside0.mk (show rb ≤ w7.heap.size by have := blk_lt RX.out; omega)
      have HQ7 := Aside0.mk (show qb < w7.heap.size from blk_lt QX.out)
      replace VB := Aside0.mk (blk_alloc VB.out (.cells (arr pb) 99 (0, 0)))
      replace RX := Aside0.mk (blk_alloc RX.out (.cells (arr pb) 99 (0, 0)))
      replace QX := Aside0.mk (blk_alloc QX.out (.cells (arr pb) 99 (0, 0)))
      replace BX := Aside0.mk (BX.out.alloc HL7.out (.cells (arr pb) 99 (0, 0)))
      generalize w7.alloc (.cells (arr pb) 99 (0, 0)) = w8 at *
      generalize w7.heap.size = nb at *
      have HCP := Aside0.mk (run_copy_row (P := Tryd.prog) w8 96 96 3 5 qb (1 + 9 * i) (31 - 9 * i) (31 - 9 * i) ⟨nb, 0, none⟩ 4 4 (arr (encTo l i)) 32 (pb.map (Value.int .u8)) Tryd.underlying96 (by kernel_rfl) QX.out (by rw [List.length_map, hpl]; show 4 = min 4 (31 - 9 * i); omega) (fun j v hj => by
        rw [Addr.add_mid, Nat.zero_add, blk_cell N0.out, arr_get]; rw [List.getElem?_map] at hj; exact hj) (by rw [List.length_map, hpl, arr_size, HLN.out]; omega) (fun v hv => by
        obtain ⟨z, _, rfl⟩ := List.mem_map.1 hv; rfl))
      rw [row_put] at HCP
      go_wp2_with fail
      rw [HCP.out]
      have hqr := HQR.out
      have hbv := HBV.out
      have HQ9 := Aside0.mk (setRow_heap w8 qb _ (arr (putAt (encTo l i) (1 + 9 * i) pb)) _ _ QX.out)
      have HR9 := Aside0.mk ((setRow_other w8 qb rb (arr (putAt (encTo l i) (1 + 9 * i) pb)) (by omega)).trans RX.out)
      have HV9 := Aside0.mk ((setRow_other w8 qb bv (arr (putAt (encTo l i) (1 + 9 * i) pb)) (by omega)).trans VB.out)
      have HB9 := Aside0.mk (below_setRow BX.out (Nat.le_of_lt hqr) (arr (putAt (encTo l i) (1 + 9 * i) pb)))
      clear QX RX VB BX HCP N0 HL7 HQ7
      generalize w8.setRow qb (arr (putAt (encTo l i) (1 + 9 * i) pb)) = w9 at *
      have cv1 := (blk_cell HV9.out 1).trans (show _ = some (.slice (some ⟨b, o, none⟩) x.blocks.length c2) from rfl)
      have HL1 := Aside0.mk (show (putAt (encTo l i) (1 + 9 * i) pb).length = 32 by rw [putAt_len _ _ _ (by rw [hpl, HLN.out]; omega), HLN.out])
      obtain ⟨y4, hy4⟩ := at_some (putAt (encTo l i) (1 + 9 * i) pb) (1 + 9 * i + 4) (by rw [HL1.out]; omega)
      have cq := (blk_cell HQ9.out (1 + 9 * i + 4)).trans hy4
      have fq := blk_frozen HQ9.out (1 + 9 * i + 4)
      have hw8 : IntKind.u8.wrap (x.blocks.length : Int) = (x.blocks.length : Int) := uw8 (by omega)
      have hm8 : (x.blocks.length : Int) % 256 = (x.blocks.length : Int) := by omega
      have h31 : (4 : Int) < ((31 - 9 * i : Nat) : Int) := by omega
      have h31n : 4 < 31 - 9 * i := by omega
      clear hy4
      go_upto_region 11 with (fail)
      have HP0 := Aside0.mk (show putAt (putAt (encTo l i) (1 + 9 * i) pb) (1 + 9 * i + 4) [(x.blocks.length : Int)] = putAt (encTo l i) (1 + 9 * i) (partP x 0) by
        have := putAt_next (encTo l i) (1 + 9 * i) pb [(x.blocks.length : Int)] (by rw [hpl, HLN.out]; omega)
        rw [hpl] at this
        rw [this]
        unfold partP
        rw [HPB.out]; simp)
      have QX := Aside0.mk (show (w9.setCell ⟨qb, 1 + 9 * i + 4, none⟩ (.int .u8 (x.blocks.length : Int))).heap[qb]? = some (.cells (arr (putAt (encTo l i) (1 + 9 * i) (partP x 0))) 32 (0, 0)) from blk_put HQ9.out (1 + 9 * i + 4) _ (by rw [arr_set _ _ _ (by rw [HL1.out]; omega), HP0.out]))
      have RX := Aside0.mk (blk_far HR9.out (p := ⟨qb, 1 + 9 * i + 4, none⟩) (by show rb ≠ qb; omega) (.int .u8 (x.blocks.length : Int)))
      have VB := Aside0.mk (blk_far HV9.out (p := ⟨qb, 1 + 9 * i + 4, none⟩) (by show bv ≠ qb; omega) (.int .u8 (x.blocks.length : Int)))
      have BX := Aside0.mk (HB9.out.setCell (p := ⟨qb, 1 + 9 * i + 4, none⟩) (by show rb ≤ qb; omega) (.int .u8 (x.blocks.length : Int)))
      clear cq fq cv1 HQ9 HR9 HV9 HB9 HP0 HL1 hw8 hm8 h31 h31n
      generalize w9.setCell ⟨qb, 1 + 9 * i + 4, none⟩ (.int .u8 (x.blocks.length : Int)) = w10 at *
      have cv1 := (blk_cell VB.out 1).trans (show _ = some (.slice (some ⟨b, o, none⟩) x.blocks.length c2) from rfl)
      go_wp2_with fail
      clear cv1 VB
      go_loopg [45] x.blocks.length (fun k s45 wr => ∃ j : Nat, j + k = x.blocks.length ∧ s45 = .int .i64 j ∧ Aside0 (wr.heap[qb]? = some (.cells (arr (putAt (encTo l i) (1 + 9 * i) (partP x j))) 32 (0, 0))) ∧ Aside0 (wr.heap[rb]? = some (.cells #[.int .u8 0, .int .u8 0, .int .u8 0, .int .u8 0, .int .u8 0, .int .u8 0, .int .u8 0, .int .u8 0, .int .u8 0, .int .u8 0, .int .u8 0, .int .u8 0, .int .u8 0, .int .u8 0, .int .u8 0, .int .u8 0, .int .u8 0, .int .u8 0, .int .u8 0, .int .u8 0, .int .u8 0, .int .u8 0, .int .u8 0, .int .u8 0, .int .u8 0, .int .u8 0, .int .u8 0, .int .u8 0, .int .u8 0, .int .u8 0, .int .u8 0, .int .u8 0] 32 (0, 0))) ∧ Aside0 (Below rb w wr))
      case atStart => exact ⟨0, by omega, rfl, QX, RX, BX⟩
      case round =>
        clear QX RX BX
        obtain ⟨j, hj, rfl, QX, RX, BX⟩ := hrel
        cases gk with
        | zero =>
          have e : j = x.blocks.length := by omega
          subst e
          have hd : decide ((x.blocks.length : Int) < (x.blocks.length : Int)) = false := by simp
          go_wp2_with fail
          go_roundg k
          case measure => omega
          case rel => exact ⟨i + 1, by omega, by go_num, by rw [HNX.out]; exact QX, RX, BX⟩
        | succ k2 =>
          have hjl : j < x.blocks.length := by omega
          have hd : decide ((j : Int) < (x.blocks.length : Int)) = true := by simp; omega
          obtain ⟨y, hy⟩ : ∃ y, x.blocks[j]? = some y := ⟨x.blocks[j], by simp [hjl]⟩
          have n1 := cell_keep (BX.out.mono (by have := HRB.out; omega)) (K3.out j y hy)
          have hyr := HG.out.pool.rng x HXM.out y (List.mem_of_getElem? hy)
          have hw8 : IntKind.u8.wrap (y : Int) = (y : Int) := uw8 (by omega)
          have hm8 : (y : Int) % 256 = (y : Int) := by omega
          have HPX := Aside0.mk (partP_next x j y hy)
          have hpj : (partP x j).length = 5 + j := by rw [HPP.out j]; omega
          have HL1 := Aside0.mk (show (putAt (encTo l i) (1 + 9 * i) (partP x j)).length = 32 by rw [putAt_len _ _ _ (by rw [hpj, HLN.out]; omega), HLN.out])
          obtain ⟨y4, hy4⟩ := at_some (putAt (encTo l i) (1 + 9 * i) (partP x j)) (1 + 9 * i + (5 + j)) (by rw [HL1.out]; omega)
          have cq := (blk_cell QX.out (1 + 9 * i + (5 + j))).trans hy4
          have fq := blk_frozen QX.out (1 + 9 * i + (5 + j))
          have h31 : (5 : Int) + (j : Int) < ((31 - 9 * i : Nat) : Int) := by omega
          have h32 : (0 : Int) ≤ 5 + (j : Int) := by omega
          have h33 : ((5 : Int) + (j : Int)).toNat = 5 + j := by omega
          have HPN := Aside0.mk (show putAt (putAt (encTo l i) (1 + 9 * i) (partP x j)) (1 + 9 * i + (5 + j)) [(y : Int)] = putAt (encTo l i) (1 + 9 * i) (partP x (j + 1)) by
            have := putAt_next (encTo l i) (1 + 9 * i) (partP x j) [(y : Int)] (by rw [hpj, HLN.out]; omega)
            rw [hpj] at this
            rw [this, HPX.out])
          clear hy hyr hy4 hpj
          go_wp2_with fail
          replace QX := Aside0.mk (show (wr.setCell ⟨qb, 1 + 9 * i + (5 + j), none⟩ (.int .u8 (y : Int))).heap[qb]? = some (.cells (arr (putAt (encTo l i) (1 + 9 * i) (partP x (j + 1)))) 32 (0, 0)) from blk_put QX.out (1 + 9 * i + (5 + j)) _ (by rw [arr_set _ _ _ (by rw [HL1.out]; omega), HPN.out]))
          replace RX := Aside0.mk (blk_far RX.out (p := ⟨qb, 1 + 9 * i + (5 + j), none⟩) (by show rb ≠ qb; omega) (.int .u8 (y : Int)))
          replace BX := Aside0.mk (BX.out.setCell (p := ⟨qb, 1 + 9 * i + (5 + j), none⟩) (by show rb ≤ qb; omega) (.int .u8 (y : Int)))
          go_roundg k2
          case measure => omega
          case rel => exact ⟨j + 1, by omega, by go_num, QX, RX, BX⟩
end Go.Proofs.YtkppnamblmaokaaDoor.CsK

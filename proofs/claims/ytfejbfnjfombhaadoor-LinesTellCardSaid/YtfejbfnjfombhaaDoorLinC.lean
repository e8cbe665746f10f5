/- The library's calls, a name, a number, the words: over a world that has the library's tables. -/
import Derived.Test.YtfejbfnjfombhaaDoorLinB
import Derived.Test.YtfejbfnjfombhaaDoorShelf
import Derived.Test.YtfejbfnjfombhaaDoorWLast
import Derived.Test.YtfejbfnjfombhaaDoorWMore
import Derived.Shelf.Strings.SlTrimAscii
import Derived.Lib.AppendIntMem
import Derived.Lib.SlicesS
namespace Go.Proofs.YtfejbfnjfombhaaDoor.LinC
open Go.RowKit Go.Sort Go.Shelf Go.Lib Go.Proofs.YtfejbfnjfombhaaDoorW.PrintWords Go.Proofs.YtfejbfnjfombhaaDoorW.PrintLast Go.Proofs.YtfejbfnjfombhaaDoorW.PrintMore Go.Proofs.YtfejbfnjfombhaaDoor.LinA Go.Proofs.YtfejbfnjfombhaaDoor.LinB
set_option linter.unusedVariables false
set_option linter.unusedSimpArgs false

structure Env (w : World) : Prop where
  big : 8 ≤ w.heap.size
  tab : TabIs Tryd.prog w "internal/strconv.uint64pow10" .u64 Lib.pow10Tab
  syn : ∃ te pe, w.cell? ⟨2, 0, none⟩ = some (.iface te pe)
  rng : ∃ te pe, w.cell? ⟨3, 0, none⟩ = some (.iface te pe)
  len : ∃ m, w.cell? ⟨1, 0, none⟩ = some (.int .i64 m)
theorem Env.below {w w' : World} {B : Nat} (h : Env w) (hb : Below B w w') (hB : 8 ≤ B) : Env w' := by
  refine ⟨Nat.le_trans h.big hb.size, ?_, ?_, ?_, ?_⟩
  · have := h.tab
    unfold Lib.TabIs World.var? at *
    rw [show Tryd.prog.globalNamed "internal/strconv.uint64pow10" = some 0 by kernel_rfl] at *
    simp only [Option.bind_some] at *
    rw [hb.block 0 (by omega)]
    exact this
  · rw [hb.cell (show (2:Nat) < B by omega)]; exact h.syn
  · rw [hb.cell (show (3:Nat) < B by omega)]; exact h.rng
  · rw [hb.cell (show (1:Nat) < B by omega)]; exact h.len

def letters : List UInt8 := [97, 98, 99, 100, 101, 102, 103, 104, 105, 106, 107, 108, 109, 110, 111, 112, 113, 114, 115, 116, 117, 118, 119, 120, 121, 122]
def trimmed (s : ByteArray) : ByteArray := ⟨(Lib.trimS s.data.toList letters).toArray⟩
def goodName (s : ByteArray) : Bool := !s.toList.isEmpty && (decide (s.size ≤ 4) && (trimmed s).toList.isEmpty)
theorem trim_any (s : ByteArray) (w : World) (hs : s.size ≤ 9223372036854775807) :
    Calls Tryd.prog 34 #[.string s, .string ⟨#[97, 98, 99, 100, 101, 102, 103, 104, 105, 106, 107, 108, 109, 110, 111, 112, 113, 114, 115, 116, 117, 118, 119, 120, 121, 122]⟩] w fun e w' => e = .returned (.string (trimmed s)) ∧ Below w.heap.size w w' := by
  have hcon := Any.strings_Trim_laid Tryd.lays160 (by kernel_rfl) s ⟨#[97, 98, 99, 100, 101, 102, 103, 104, 105, 106, 107, 108, 109, 110, 111, 112, 113, 114, 115, 116, 117, 118, 119, 120, 121, 122]⟩ w hs (by decide) (ascii_of_all (by decide))
  exact hcon
set_option maxHeartbeats 1000000 in
theorem good_any0 (s : ByteArray) (g : Nat) (w : World) (hs : s.size ≤ 9223372036854775807) (hc : w.cell? ⟨g, 0, none⟩ = some (.string s)) :
    Calls Tryd.prog 26 #[.slice (some ⟨g, 0, none⟩) 1 1] w fun e w' => e = .returned (.bool (goodName s)) ∧ Below w.heap.size w w' := by
  have HC := Aside0.mk hc
  clear hc
  go_enter Tryd.func26, Tryd.ntmps26
  go_wp2_with fail
  go_loopw [7] (fun v wr => ∃ i : Nat, i ≤ 1 ∧ v = .int .i64 i ∧ Aside0 (i = 1 → goodName s = true) ∧ Aside0 (Below w.heap.size w wr)) (fun v _ => 1 - (RowKit.intOf v).toNat)
  case atStart => exact ⟨0, by omega, rfl, ⟨fun h => by cases h⟩, ⟨Below.refl _ _⟩⟩
  case round =>
    obtain ⟨i, hi, rfl, HG, BL⟩ := hrel
    by_cases h0 : i = 0
    · subst h0
      clear HG
      have c0 := pw_cell_below BL.out HC.out
      by_cases e1 : s.toList.isEmpty = true
      · have HF : Aside0 (goodName s = false) := ⟨by simp [goodName, e1]⟩
        go_wp2_with fail
        go_ret
        exact ⟨by rw [HF.out]; rfl, BL.out⟩
      · have e1 : s.toList.isEmpty = false := by simpa using e1
        by_cases e2 : s.size ≤ 4
        · have e2b : decide ((4 : Int) < (s.size : Int)) = false := by simp; omega
          have HT := Aside0.mk (trim_any s)
          cases e3 : (trimmed s).toList.isEmpty
          · have HF : Aside0 (goodName s = false) := ⟨by simp [goodName, e3]⟩
            generalize trimmed s = t at *
            go_wp2_with fail
            refine (HT.out _ hs).mono ?_
            rintro r w1 ⟨rfl, hb⟩
            have BL' := Aside0.mk (below_step BL.out hb)
            clear hb
            go_wp2_with fail
            go_ret
            exact ⟨by rw [HF.out]; rfl, BL'.out⟩
          · have HF : Aside0 (goodName s = true) := ⟨by simp [goodName, e1, e2, e3]⟩
            generalize trimmed s = t at *
            go_wp2_with fail
            refine (HT.out _ hs).mono ?_
            rintro r w1 ⟨rfl, hb⟩
            have BL' := Aside0.mk (below_step BL.out hb)
            clear hb
            go_wp2_with fail
            go_roundw
            case measure => simp [RowKit.intOf]
            case rel => exact ⟨1, by omega, by go_num, ⟨fun _ => HF.out⟩, BL'⟩
        · have e2b : decide ((4 : Int) < (s.size : Int)) = true := by simp; omega
          have HF : Aside0 (goodName s = false) := ⟨by simp [goodName, e2]⟩
          clear e2
          go_wp2_with fail
          go_ret
          exact ⟨by rw [HF.out]; rfl, BL.out⟩
    · have : i = 1 := by omega
      subst this
      have HF := Aside0.mk (HG.out rfl)
      go_wp2_with fail
      go_ret
      exact ⟨by rw [HF.out]; rfl, BL.out⟩

theorem letters_low : ∀ n, n < 256 → (letters.contains (UInt8.ofNat n)) = lowB (UInt8.ofNat n) := by decide +kernel
theorem letters_iff (c : UInt8) : letters.contains c = lowB c := by
  have := letters_low c.toNat (c.toNat_lt)
  simpa using this
theorem dw_nil {α : Type} (p : α → Bool) : ∀ l : List α, l.dropWhile p = [] ↔ ∀ x ∈ l, p x = true
  | [] => by simp
  | a :: r => by
    have ih := dw_nil p r
    rw [List.dropWhile_cons]
    cases h : p a
    · simp [h]
    · simp [h, ih]
theorem trim_nil (l cs : List UInt8) : (Lib.trimS l cs = []) ↔ ∀ b ∈ l, cs.contains b = true := by
  unfold Lib.trimS Lib.trimLeftS Lib.trimRightS
  rw [dw_nil]
  constructor
  · intro h
    have hd : l.reverse.dropWhile (cs.contains ·) = [] := by
      cases hc : l.reverse.dropWhile (cs.contains ·) with
      | nil => rfl
      | cons x r =>
        have h1 := h x (by rw [hc]; simp)
        have h2 := List.head?_dropWhile_not (cs.contains ·) l.reverse
        rw [hc] at h2
        simp at h2 h1
        exact absurd h1 h2
    rw [dw_nil] at hd
    intro b hb
    exact hd b (by simpa using hb)
  · intro h x hx
    have hd : l.reverse.dropWhile (cs.contains ·) = [] := by
      rw [dw_nil]
      intro b hb
      exact h b (by simpa using hb)
    rw [hd] at hx
    simp at hx

theorem good_eq (s : ByteArray) : goodName s = goodL s.data.toList := by
  have e1 : (trimmed s).toList = Lib.trimS s.data.toList letters := by rw [ByteArray.toList_eq]; unfold trimmed; simp
  have e2 : s.toList = s.data.toList := ByteArray.toList_eq s
  have e3 : s.size = s.data.toList.length := (Array.length_toList).symm
  have e4 : (Lib.trimS s.data.toList letters).isEmpty = s.data.toList.all lowB := by
    rw [Bool.eq_iff_iff, List.isEmpty_iff, trim_nil, List.all_eq_true]
    constructor
    · intro h b hb; rw [← letters_iff]; exact h b hb
    · intro h b hb; rw [letters_iff]; exact h b hb
  unfold goodName goodL
  rw [e1, e2, e3, e4, ← Bool.and_assoc]
  congr 2
  cases s.data.toList <;> simp
theorem good_any (s : ByteArray) (g : Nat) (w : World) (hs : s.size ≤ 9223372036854775807) (hc : w.cell? ⟨g, 0, none⟩ = some (.string s)) :
    Calls Tryd.prog 26 #[.slice (some ⟨g, 0, none⟩) 1 1] w fun e w' => e = .returned (.bool (goodL s.data.toList)) ∧ Below w.heap.size w w' := by
  rw [← good_eq]; exact good_any0 s g w hs hc

theorem fmt_in (u : Nat) (hu : u < 18446744073709551616) (w : World) (htab : Lib.TabIs Tryd.prog w "internal/strconv.uint64pow10" .u64 Lib.pow10Tab) :
    Calls Tryd.prog 37 #[.int .u64 u, .int .i64 10] w fun e w' => e = .returned (.string ⟨(Lib.decDigits u).toArray⟩) ∧ Below w.heap.size w w' := by
  by_cases hs : u < 100
  · have hd : decide ((u : Int) < 100) = true := by simp; omega
    have hwr : IntKind.i64.wrap (u : Int) = (u : Int) := by rw [IntKind.wrap_i64]; omega
    have HS := Aside0.mk (Tryd.internal_strconv_small u hs)
    go_enter Tryd.func37, Tryd.ntmps37
    go_wp2_with fail
    refine (HS.out _).mono ?_
    rintro e w' ⟨rfl, rfl⟩
    go_wp2_with fail
    go_ret
    exact ⟨rfl, Below.refl _ _⟩
  · have hd : decide ((u : Int) < 100) = false := by simp; omega
    have hu1 : 1 ≤ u := by omega
    have hnd20 : Lib.nDigits u ≤ 20 := by have := Lib.numDigits_eq u hu1 hu; split at this <;> omega
    have hb3 : Lib.nDigits u ≤ 24 := by omega
    have hal : Tryd.prog.arrayLen 91 = 24 := by kernel_rfl
    have hsl1 : ∀ W, (Instr.sliceAt 91 (.pointer (some ⟨w.heap.size, 0, none⟩)) none (some (.int .i64 (Lib.nDigits u : Int))) none).run Tryd.prog W = .ok (.slice (some ⟨w.heap.size, 0, none⟩) (Lib.nDigits u) 24) W := fun W => by
      rw [run_sliceAt_array_h W 91 ⟨w.heap.size, 0, none⟩ (by simp [Program.arrayLen, Program.elem, Tryd.underlying91]) .i64 (Lib.nDigits u : Int) (by omega) (by rw [hal]; omega)]
      go_simp
    have hH0 : Go.Sort.Holds (fun (b : UInt8) => Value.int .u8 (b.toNat : Int)) (w.alloc (.cells Lib.zeros24 91)) w.heap.size 0 (Array.replicate (Lib.nDigits u) (0 : UInt8)) := Lib.holds_zero0 w 91 _ (by omega)
    have hfmt := Tryd.internal_strconv_formatBase10 w.heap.size 0 24 u (Array.replicate (Lib.nDigits u) 0) (w.alloc (.cells Lib.zeros24 91)) hH0 (by rw [Array.size_replicate]; exact Lib.lt_pow_nDigits u) hu (by rw [Array.size_replicate]; omega)
    rw [Array.size_replicate] at hfmt
    have HF := Aside0.mk hfmt
    have HH0 := Aside0.mk hH0
    have HD := Aside0.mk (Tryd.internal_strconv_numDigits u hu1 hu _ (Lib.tabIs_alloc htab (.cells Lib.zeros24 91)))
    clear hfmt hH0 hal
    go_enter Tryd.func37, Tryd.ntmps37
    go_wp2_with fail
    refine HD.out.mono ?_
    rintro e w' ⟨rfl, rfl⟩
    go_wp2_with fail
    refine HF.out.mono ?_
    rintro e w' ⟨rfl, k, v', dk, rfl, hF⟩
    have HFF := Aside0.mk hF
    clear hF
    have hcv : (convert 59 9 (.slice (some ⟨w.heap.size, 0, none⟩) (Lib.nDigits u) 24)).run Tryd.prog ((putRow (fun (b : UInt8) => Value.int .u8 (b.toNat : Int)) (w.alloc (.cells Lib.zeros24 91)) w.heap.size 0 dk).drewN k) = .ok (.string ⟨(Lib.decDigits u).toArray⟩) ((putRow (fun (b : UInt8) => Value.int .u8 (b.toNat : Int)) (w.alloc (.cells Lib.zeros24 91)) w.heap.size 0 dk).drewN k) := by
      have hF := HFF.out
      have h := run_convert_bytes_back (P := Tryd.prog) ((putRow (fun (b : UInt8) => Value.int .u8 (b.toNat : Int)) (w.alloc (.cells Lib.zeros24 91)) w.heap.size 0 dk).drewN k) 59 9 5 ⟨w.heap.size, 0, none⟩ 24 (Lib.decDigits u) Tryd.underlying59 Tryd.underlying5 Tryd.underlying9 (fun j hj => by
        rw [Lib.row_is_numeral hF j hj, Lib.add_plain, World.cell?_drewN]
        exact cell?_putRow (fun (b : UInt8) => Value.int .u8 (b.toNat : Int)) _ w.heap.size 0 _ dk HH0.out (by rw [hF.size, Array.size_replicate]) j (by rw [hF.size]; rw [Lib.decDigits_length] at hj; exact hj))
      rw [Lib.decDigits_length] at h
      exact h
    go_wp2_with fail
    go_ret
    obtain ⟨os, eo⟩ := Lib.fin_at w (.cells Lib.zeros24 91) dk k 0
    refine ⟨rfl, ?_⟩
    rw [eo]
    exact Lib.below_grow _ _ (Nat.le_refl _) _ _

theorem fmt_any (u : Nat) (hu : u < 18446744073709551616) (w : World) (E : Env w) :
    Calls Tryd.prog 29 #[.int .u64 u, .int .i64 10] w fun e w' => e = .returned (.string (ofL (Lib.decDigits u))) ∧ Below w.heap.size w w' := by
  have HF := Aside0.mk (fmt_in u hu w E.tab)
  go_enter Tryd.func29, Tryd.ntmps29
  go_wp2_with fail
  refine HF.out.mono ?_
  rintro e w' ⟨rfl, hb⟩
  have BL := Aside0.mk hb
  clear hb
  go_wp2_with fail
  go_ret
  exact ⟨rfl, BL.out⟩
theorem itoa_any (n : Int) (h0 : -9223372036854775808 ≤ n) (h1 : n ≤ 9223372036854775807) (w : World) (E : Env w) :
    Calls Tryd.prog 28 #[.int .i64 n] w fun e w' => e = .returned (.string (ofL (Lib.itoa n))) ∧ Below w.heap.size w w' := by
  refine (Tryd.strconv_Itoa n h0 h1 w E.tab).mono ?_
  rintro e w' ⟨rfl, k, os, rfl⟩
  exact ⟨rfl, Lib.below_grow _ _ (Nat.le_refl _) _ _⟩
theorem parse_num (s : ByteArray) (hs : s.size ≤ 281474976710656) (w : World) (E : Env w) :
    Calls Tryd.prog 35 #[.string s, .int .i64 10, .int .i64 32] w fun e w' => ∃ (u : Nat) (er : Value) (ok : Bool), e = .returned (.tuple #[.int .u64 u, er]) ∧ Below w.heap.size w w' ∧ u ≤ 4294967295 ∧ (ok = true → er = .nilIface ∧ Lib.parseUintB 32 s.data.toList = .ok u) ∧ (ok = false → (∃ t v, er = .iface t v) ∧ ∀ x, Lib.parseUintB 32 s.data.toList ≠ .ok x) := by
  cases h : Lib.parseUintB 32 s.data.toList with
  | ok u =>
    refine (Tryd.strconv_ParseUint_10_at32_ok s (by omega) u h w).mono ?_
    rintro e w' ⟨rfl, hw⟩
    refine ⟨u, _, true, rfl, ?_, ((parse_ok_iff _ _).1 h).2.2.2, fun _ => ⟨rfl, rfl⟩, (fun h => by cases h)⟩
    rcases hw with rfl | rfl
    · exact Below.refl _ _
    · exact bytes_below (Below.refl _ _) (Nat.le_refl _) _ _
  | range =>
    obtain ⟨te, pe, hv⟩ := E.rng
    refine (Tryd.strconv_ParseUint_10_at32_range s hs h _ w hv (.inr ⟨te, pe, rfl⟩)).mono ?_
    rintro e w' ⟨N, rfl, _, _, hb⟩
    exact ⟨4294967295, _, false, rfl, hb, by omega, (fun h => by cases h), fun _ => ⟨⟨_, _, rfl⟩, (fun x h => by cases h)⟩⟩
  | _ =>
    obtain ⟨te, pe, hv⟩ := E.syn
    refine (Any.strconv_ParseUint_10_at32_syntax Tryd.laysPu14 s hs h _ w hv (.inr ⟨te, pe, rfl⟩)).mono ?_
    rintro e w' ⟨N, rfl, _, _, hb⟩
    exact ⟨0, _, false, rfl, hb, by omega, (fun h => by cases h), fun _ => ⟨⟨_, _, rfl⟩, (fun x h => by cases h)⟩⟩
theorem num_of_ok {w : List UInt8} {u : Nat} (h : parseUintB 32 w = .ok u) : numVal w = if w = decDigits u then some u else none := by
  by_cases e : w = decDigits u
  · rw [if_pos e, num_iff]; exact ⟨e, ((parse_ok_iff _ _).1 h).2.2.2⟩
  · rw [if_neg e]
    cases hv : numVal w with
    | none => rfl
    | some x =>
      have := (num_some hv).2
      rw [h] at this
      injection this with this
      subst this
      exact absurd (num_some hv).1 e
theorem num_of_bad {w : List UInt8} (h : ∀ x, parseUintB 32 w ≠ .ok x) : numVal w = none := by
  cases hv : numVal w with
  | none => rfl
  | some x => exact absurd (num_some hv).2 (h x)
theorem bytes_eqB (a b : ByteArray) : (a.toList == b.toList) = decide (a.data.toList = b.data.toList) := by
  rw [Bool.eq_iff_iff, bytes_beq_iff, decide_eq_true_iff]
  exact ⟨fun h => by rw [h], bytes_ext⟩
set_option maxHeartbeats 1000000 in
theorem number_any (s : ByteArray) (hs : s.size ≤ 281474976710656) (w : World) (E : Env w) :
    Calls Tryd.prog 27 #[.string s] w fun e w' => ∃ n : Nat, e = .returned (.tuple #[.int .i64 n, .bool (numVal s.data.toList).isSome]) ∧ n ≤ 4294967295 ∧ (∀ u, numVal s.data.toList = some u → n = u) ∧ Below w.heap.size w w' := by
  have HP := Aside0.mk (parse_num s hs w E)
  have HE := Aside0.mk E
  clear E
  go_enter Tryd.func27, Tryd.ntmps27
  go_wp2_with fail
  refine HP.out.mono ?_
  rintro e w1 ⟨u, er, ok, rfl, hb, hu, ht, hf⟩
  have BL := Aside0.mk hb
  clear hb
  have hwr : IntKind.i64.wrap (u : Int) = (u : Int) := by rw [IntKind.wrap_i64]; omega
  have hle : decide ((u : Int) ≤ 4294967295) = true := by simp; omega
  cases ok
  · obtain ⟨⟨t, v, rfl⟩, hn⟩ := hf rfl
    have HN := Aside0.mk (num_of_bad hn)
    clear hn hf ht
    go_wp2_with fail
    go_ret2
    refine ⟨u, ?_, hu, (fun x h => by rw [HN.out] at h; cases h), BL.out⟩
    rw [HN.out]; rfl
  · obtain ⟨rfl, hn⟩ := ht rfl
    have HN := Aside0.mk (num_of_ok hn)
    have HF := Aside0.mk (fmt_any u (by omega) w1 (HE.out.below BL.out HE.out.big))
    clear hn hf ht
    go_wp2_with fail
    refine HF.out.mono ?_
    rintro e w2 ⟨rfl, hb⟩
    have BL2 := Aside0.mk (below_step BL.out hb)
    clear hb
    have HQ := Aside0.mk (bytes_eqB (ofL (decDigits u)) s)
    go_wp2_with fail
    go_ret2
    refine ⟨u, ?_, hu, ?_, BL2.out⟩
    · rw [HN.out, HQ.out, ofL_data]
      by_cases e : s.data.toList = decDigits u
      · rw [if_pos e, decide_eq_true e.symm]; rfl
      · rw [if_neg e, decide_eq_false (fun h => e h.symm)]; rfl
    · intro x hx
      rw [HN.out] at hx
      split at hx
      · injection hx
      · cases hx
/-- The words lie in a new block. -/
theorem words_cells (s : ByteArray) : (Lib.splitB ⟨#[32]⟩ 0 (Lib.countB s ⟨#[32]⟩) s) = wordsB s := by
  have h1 := Lib.splitB_data ⟨#[32]⟩ 0 (Lib.countB s ⟨#[32]⟩) s
  have h2 : splitK [32] 0 (Lib.countB s ⟨#[32]⟩) s.data.toList = wordsL s.data.toList := by
    rw [← split_words]
    rfl
  rw [show (({ data := #[32] } : ByteArray).data.toList) = [32] from rfl, h2] at h1
  unfold wordsB
  rw [← h1, List.map_map]
  conv => lhs; rw [← List.map_id (Lib.splitB _ _ _ _)]
  apply List.map_congr_left
  intro a _
  exact (data_ofL a).symm
theorem words_any (s : ByteArray) (hs : s.size < 4294967281) (w : World) (E : Env w) :
    Calls Tryd.prog 14 #[.string s] w fun e w' => e = .returned (.slice (some ⟨w.heap.size, 0, none⟩) (wordsB s).length (wordsB s).length) ∧ w' = w.alloc (.cells ((wordsB s).map Value.string).toArray 9) := by
  obtain ⟨m, hm⟩ := E.len
  have hl : Lib.countB s ⟨#[32]⟩ + 1 = (wordsB s).length := by rw [← words_cells]; exact (Lib.splitB_all _ (by decide) _ _ _ rfl).symm
  have h := Tryd.strings_Split s ⟨#[32]⟩ m w hs hm (by decide)
  rw [words_cells, hl] at h
  have HS := Aside0.mk h
  clear h hl hm
  generalize (wordsB s).length = L at *
  generalize ((wordsB s).map Value.string).toArray = C at *
  go_enter Tryd.func14, Tryd.ntmps14
  go_wp2_with fail
  refine HS.out.mono ?_
  rintro e w' ⟨rfl, rfl⟩
  go_wp2_with fail
  go_ret
  exact ⟨rfl, rfl⟩
def formCells : Array Value := #[.int .i64 1, .string ⟨#[109, 97, 107, 101]⟩, .string ⟨#[78, 67]⟩, .int .i64 2, .string ⟨#[103, 111, 110, 101]⟩, .string ⟨#[78]⟩, .int .i64 3, .string ⟨#[109, 105, 110, 116]⟩, .string ⟨#[65, 67, 85]⟩, .int .i64 4, .string ⟨#[114, 101, 118, 111, 107, 101]⟩, .string ⟨#[]⟩, .int .i64 5, .string ⟨#[112, 114, 111, 109, 111, 116, 101]⟩, .string ⟨#[67]⟩, .int .i64 6, .string ⟨#[102, 111, 114, 99, 101]⟩, .string ⟨#[67]⟩, .int .i64 7, .string ⟨#[115, 116, 97, 116, 117, 115]⟩, .string ⟨#[]⟩]
theorem forms_any (w : World) :
    Calls Tryd.prog 17 #[] w fun e w' => e = .returned (.slice (some ⟨w.heap.size, 0, none⟩) 7 7) ∧ w' = w.alloc (.cells formCells 48) := by
  go_enter Tryd.func17, Tryd.ntmps17
  go_wp2
  go_ret
  exact ⟨rfl, rfl⟩
end Go.Proofs.YtfejbfnjfombhaaDoor.LinC

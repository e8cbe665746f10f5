/- LinesNumbers' walk. -/
import Derived.Test.YtfejbfnjfombhaaDoorLinK
namespace Go.Proofs.YtfejbfnjfombhaaDoor.LinM
open Go.RowKit Go.Sort Go.Shelf Go.Lib Go.Proofs.YtfejbfnjfombhaaDoorW.PrintWords Go.Proofs.YtfejbfnjfombhaaDoorW.PrintLast Go.Proofs.YtfejbfnjfombhaaDoorW.PrintMore Go.Proofs.YtfejbfnjfombhaaDoor.LinA Go.Proofs.YtfejbfnjfombhaaDoor.LinB Go.Proofs.YtfejbfnjfombhaaDoor.LinC Go.Proofs.YtfejbfnjfombhaaDoor.LinD Go.Proofs.YtfejbfnjfombhaaDoor.LinE Go.Proofs.YtfejbfnjfombhaaDoor.LinF Go.Proofs.YtfejbfnjfombhaaDoor.LinG Go.Proofs.YtfejbfnjfombhaaDoor.LinH Go.Proofs.YtfejbfnjfombhaaDoor.LinI Go.Proofs.YtfejbfnjfombhaaDoor.LinK
set_option linter.unusedVariables false
set_option linter.unusedSimpArgs false
theorem dec_small (m : Nat) (h : m < 10) : decDigits m = [UInt8.ofNat (48 + m)] := by rw [decDigits, dif_pos h]
theorem dec_big (m : Nat) (h : ¬ m < 10) : decDigits m = decDigits (m / 10) ++ [UInt8.ofNat (48 + m % 10)] := by rw [decDigits, dif_neg h]
theorem spell_app (a : Nat) (l r : List UInt8) : spell a (l ++ r) = spell (spell a l) r := by simp only [spell, List.foldl_append]
theorem dec_noblank (u : Nat) : ∀ x ∈ decDigits u, x ≠ 32 := by
  intro x hx h
  have := List.all_eq_true.1 (dec_spell u).1 x hx
  subst h
  revert this; decide
theorem dec_len (u : Nat) (h : u ≤ 4294967295) : (decDigits u).length ≤ 20 := by
  have := itoa_len (u : Int) (by omega) (by omega)
  rw [decDigits_length]
  by_cases h1 : 1 ≤ u
  · have := Lib.numDigits_eq u h1 (by omega); split at this <;> omega
  · have : u = 0 := by omega
    subst this; rw [nDigits_small (by omega)]; omega
theorem num_zero (u : Nat) (h : u ≤ 4294967295) : numVal (48 :: decDigits u) = none := by
  cases hv : numVal (48 :: decDigits u) with
  | none => rfl
  | some v =>
    obtain ⟨h1, h2⟩ := (num_iff _ _).1 hv
    have e : v = u := by
      have := (dec_spell v).2.1
      rw [← h1, spell_cons] at this
      have h3 := (dec_spell u).2.1
      have h4 : (0 * 10 + ((48 : UInt8).toNat - 48)) = 0 := by decide
      rw [h4, h3] at this
      exact this.symm
    subst e
    have := congrArg List.length h1
    simp at this
theorem num_plus (u : Nat) : numVal (43 :: decDigits u) = none := by
  cases hv : numVal (43 :: decDigits u) with
  | none => rfl
  | some v =>
    obtain ⟨h1, h2⟩ := (num_iff _ _).1 hv
    have := List.all_eq_true.1 (dec_spell v).1 43 (by rw [← h1]; simp)
    exact absurd this (by decide)
theorem num_great (u : Nat) : numVal (decDigits u ++ [48, 48, 48, 48, 48, 48, 48, 48, 48, 48]) = none := by
  cases hv : numVal (decDigits u ++ [48, 48, 48, 48, 48, 48, 48, 48, 48, 48]) with
  | none => rfl
  | some v =>
    obtain ⟨h1, h2⟩ := (num_iff _ _).1 hv
    have e : v = u * 10000000000 := by
      have := (dec_spell v).2.1
      rw [← h1, spell_app, (dec_spell u).2.1] at this
      simp only [spell_cons, spell_nil, show ((48 : UInt8).toNat - 48) = 0 from by decide] at this
      omega
    have e2 : u = 0 ∧ v = 0 := by omega
    obtain ⟨rfl, rfl⟩ := e2
    have := congrArg List.length h1
    simp at this
def promote : LinB.Form := ⟨5, [112, 114, 111, 109, 111, 116, 101], [67]⟩
def mint : LinB.Form := ⟨3, [109, 105, 110, 116], [65, 67, 85]⟩
theorem prom (d : List UInt8) (hd : ∀ x ∈ d, x ≠ 32) (hl : d.length ≤ 100) : parseF (ofL ([112, 114, 111, 109, 111, 116, 101] ++ 32 :: d)) = Option.map (fun u : Nat => (⟨5, ByteArray.empty, (u : Int), 0⟩ : Ln)) (numVal d) := by
  have hw : wordsL (ofL ([112, 114, 111, 109, 111, 116, 101] ++ 32 :: d)).data.toList = promote.word :: [d] := by
    rw [ofL_data, words_append, words_clean d hd]; rfl
  rw [parse_of (by rw [ofL_size]; simp; omega) (by decide : promote ∈ forms) hw, if_pos (show promote.has.length = [d].length from rfl)]
  show readAll [67] [ofL d] _ = _
  simp only [readAll]
  rw [readC, ofL_data]
  cases numVal d <;> rfl
theorem minted (d : List UInt8) (hd : ∀ x ∈ d, x ≠ 32) (hl : d.length ≤ 100) (u : Nat) (hu : numVal d = some u) : parseF (ofL ([109, 105, 110, 116, 32, 42, 32, 49] ++ 32 :: d)) = some ⟨3, ByteArray.empty, 1, (u : Int)⟩ := by
  have hw : wordsL (ofL ([109, 105, 110, 116, 32, 42, 32, 49] ++ 32 :: d)).data.toList = mint.word :: [[42], [49], d] := by
    rw [ofL_data, words_append, words_clean d hd, show wordsL [109, 105, 110, 116, 32, 42, 32, 49] = [mint.word, [42], [49]] from by decide]; rfl
  have h1 : numVal [49] = some 1 := by decide +kernel
  rw [parse_of (by rw [ofL_size]; simp; omega) (by decide : mint ∈ forms) hw, if_pos (show mint.has.length = [[42], [49], d].length from rfl)]
  show readAll [65, 67, 85] [ofL [42], ofL [49], ofL d] _ = _
  simp only [readAll]
  rw [readA, ofL_data, if_pos rfl]
  simp only [Option.bind_some]
  rw [readC, ofL_data, h1]
  simp only [Option.map_some, Option.bind_some]
  rw [readU, ofL_data, hu]
  rfl
theorem pre_b (a : ByteArray) (p d : List UInt8) (h : a.data.toList = p) : a ++ ofL d = ofL (p ++ d) := bytes_ext (by rw [app_data, ofL_data, ofL_data, h])
set_option maxHeartbeats 1000000 in
set_option maxRecDepth 100000 in
theorem dec_any (u : Nat) (hu : u ≤ 4294967295) (w : World) :
    Calls Tryd.prog 16 #[.int .i64 u] w fun e w' => e = .returned (.string (ofL (decDigits u))) ∧ Below w.heap.size w w' := by
  have BL := Aside0.mk (Below.refl w.heap.size w)
  have HD := Aside0.mk (dec_len u hu)
  go_enter Tryd.func16, Tryd.ntmps16
  go_wp2_with fail
  go_loopg [0, 3] u (fun g s0 s3 wr => ∃ b : ByteArray, g ≤ u ∧ s0 = .int .i64 g ∧ s3 = .string b ∧ Aside0 (decDigits u = decDigits g ++ b.data.toList) ∧ Aside0 (Below w.heap.size w wr))
  case atStart => exact ⟨⟨#[]⟩, Nat.le_refl _, rfl, rfl, ⟨(List.append_nil _).symm⟩, BL⟩
  case round =>
    clear BL
    obtain ⟨b, hg, rfl, rfl, HB, BL⟩ := hrel
    have hb20 : b.size ≤ 20 := by
      have h1 := congrArg List.length HB.out
      rw [List.length_append] at h1
      have h2 : b.data.toList.length = b.size := Array.length_toList
      have := HD.out
      omega
    have hmod : Int.tmod (gk : Int) 10 = ((gk % 10 : Nat) : Int) := by rw [Int.tmod_eq_emod_of_nonneg (by omega)]; rfl
    have hquo : Int.tdiv (gk : Int) 10 = ((gk / 10 : Nat) : Int) := by rw [Int.tdiv_eq_ediv_of_nonneg (by omega)]; rfl
    have hlt10 : gk % 10 < 10 := Nat.mod_lt _ (by omega)
    obtain ⟨c, hc0⟩ : ∃ c, UInt8.ofNat (48 + gk % 10) = c := ⟨_, rfl⟩
    have hcn : (c.toNat : Int) = 48 + (gk : Int) % 10 := by
      rw [← hc0, UInt8.toNat_ofNat_of_lt' (by show 48 + gk % 10 < 256; omega)]; omega
    have HC := Aside0.mk hc0
    clear hc0
    have hcv : (convert 59 9 (.slice (some ⟨wr.heap.size, 0, none⟩) 1 1)).run Tryd.prog (wr.alloc (.cells #[.int .u8 (48 + (gk : Int) % 10)] 5 (0, 0))) = .ok (.string ⟨#[c]⟩) (wr.alloc (.cells #[.int .u8 (48 + (gk : Int) % 10)] 5 (0, 0))) := by
      have h := run_convert_bytes_back (P := Tryd.prog) (wr.alloc (.cells #[.int .u8 (48 + (gk : Int) % 10)] 5 (0, 0))) 59 9 5 ⟨wr.heap.size, 0, none⟩ 1 [c] Tryd.underlying59 Tryd.underlying5 Tryd.underlying9 (fun j hj => by
        have h0 : j = 0 := by simpa using hj
        subst h0
        rw [Lib.add_plain, blk_cell (blk_new _ _) 0]
        simp only [List.getElem_cons_zero, hcn]
        rfl)
      exact h
    have hz1 : (⟨#[c]⟩ : ByteArray).size = 1 := rfl
    have HBD := Aside0.mk (show ((⟨#[c]⟩ : ByteArray) ++ b).data.toList = c :: b.data.toList by rw [app_data]; rfl)
    have BA := Aside0.mk (below_alloc BL.out (.cells #[.int .u8 (48 + (gk : Int) % 10)] 5 (0, 0)))
    clear hcn hmod hquo
    by_cases hz : gk < 10
    · have hz2 : ((gk : Int) / 10 == 0) = true := by simp; omega
      have HR := Aside0.mk (show (⟨#[c]⟩ : ByteArray) ++ b = ofL (decDigits u) by
        apply bytes_ext
        rw [HBD.out, ofL_data, HB.out, dec_small gk hz, ← HC.out, show gk % 10 = gk from Nat.mod_eq_of_lt hz]; rfl)
      have hz3 : (gk : Int) / 10 = 0 := by omega
      clear hz
      go_wp2_with fail
      go_ret
      exact ⟨by rw [← HR.out]; rfl, BA.out⟩
    · have hz2 : ((gk : Int) / 10 == 0) = false := by simp; omega
      have HR := Aside0.mk (show decDigits u = decDigits (gk / 10) ++ ((⟨#[c]⟩ : ByteArray) ++ b).data.toList by
        rw [HBD.out, HB.out, dec_big gk hz, HC.out, List.append_assoc]; rfl)
      have hz3 : ¬ (gk : Int) / 10 = 0 := by omega
      go_wp2_with fail
      go_roundg (gk / 10)
      case measure => omega
      case rel => exact ⟨_, by omega, by go_num, rfl, HR, BA⟩

theorem q4 : parseF ⟨#[112, 114, 111, 109, 111, 116, 101, 32, 52, 50, 57, 52, 57, 54, 55, 50, 57, 54]⟩ = none := by decide +kernel
set_option maxHeartbeats 4000000 in
set_option maxRecDepth 100000 in
theorem numbers_walk (u : Nat) (hu : u ≤ 4294967295) (w : World) (E : Env w) :
    Calls Tryd.prog 6 #[.int .u32 (u : Int)] w fun e w' => e = .returned (.bool true) ∧ Below w.heap.size w w' := by
  have HE := Aside0.mk E
  have HD := Aside0.mk (dec_any u hu w)
  have hD := dec_noblank u
  have hDl := dec_len u hu
  have hnum := num_dec u hu
  obtain ⟨S, hS⟩ : ∃ S, ofL (decDigits u) = S := ⟨_, rfl⟩
  have hSz : S.size ≤ 20 := by rw [← hS, ofL_size]; exact hDl
  have e1 : parseF (⟨#[112, 114, 111, 109, 111, 116, 101, 32]⟩ ++ S) = some ⟨5, ⟨#[]⟩, (u : Int), 0⟩ := by
    rw [← hS, pre_b _ [112, 114, 111, 109, 111, 116, 101, 32] _ rfl]
    have := prom (decDigits u) hD (by omega)
    rw [hnum] at this; exact this
  have e2 : parseF (⟨#[112, 114, 111, 109, 111, 116, 101, 32, 48]⟩ ++ S) = none := by
    rw [← hS, pre_b _ [112, 114, 111, 109, 111, 116, 101, 32, 48] _ rfl]
    have := prom (48 :: decDigits u) (fun x hx => by rcases List.mem_cons.1 hx with rfl | hx; (· decide); (· exact hD x hx)) (by simp; omega)
    rw [num_zero u hu] at this; exact this
  have e3 : parseF (⟨#[112, 114, 111, 109, 111, 116, 101, 32, 43]⟩ ++ S) = none := by
    rw [← hS, pre_b _ [112, 114, 111, 109, 111, 116, 101, 32, 43] _ rfl]
    have := prom (43 :: decDigits u) (fun x hx => by rcases List.mem_cons.1 hx with rfl | hx; (· decide); (· exact hD x hx)) (by simp; omega)
    rw [num_plus u] at this; exact this
  have e5 : parseF (⟨#[109, 105, 110, 116, 32, 42, 32, 49, 32]⟩ ++ S) = some ⟨3, ⟨#[]⟩, 1, (u : Int)⟩ := by
    rw [← hS, pre_b _ [109, 105, 110, 116, 32, 42, 32, 49, 32] _ rfl]
    exact minted (decDigits u) hD (by omega) u hnum
  have e6 : parseF (⟨#[112, 114, 111, 109, 111, 116, 101, 32]⟩ ++ S ++ ⟨#[48, 48, 48, 48, 48, 48, 48, 48, 48, 48]⟩) = none := by
    have hzz : ∀ x ∈ ([48, 48, 48, 48, 48, 48, 48, 48, 48, 48] : List UInt8), x ≠ 32 := by decide
    have ez : (⟨#[48, 48, 48, 48, 48, 48, 48, 48, 48, 48]⟩ : ByteArray) = ofL [48, 48, 48, 48, 48, 48, 48, 48, 48, 48] := rfl
    rw [← hS, pre_b _ [112, 114, 111, 109, 111, 116, 101, 32] _ rfl, ez, pre_b _ ([112, 114, 111, 109, 111, 116, 101, 32] ++ decDigits u) _ (ofL_data _)]
    have := prom (decDigits u ++ [48, 48, 48, 48, 48, 48, 48, 48, 48, 48]) (fun x hx => by rcases List.mem_append.1 hx with hx | hx; (· exact hD x hx); (· exact hzz x hx)) (by simp; omega)
    rw [num_great u] at this
    exact (show parseF (ofL ([112, 114, 111, 109, 111, 116, 101, 32] ++ decDigits u ++ [48, 48, 48, 48, 48, 48, 48, 48, 48, 48])) = none from by rw [List.append_assoc]; exact this)
  have HS := Aside0.mk hS
  rw [hS] at HD
  have hz1 : (⟨#[112, 114, 111, 109, 111, 116, 101, 32]⟩ ++ S : ByteArray).size = 8 + S.size := by rw [ByteArray.size_append]; rfl
  have hz2 : (⟨#[112, 114, 111, 109, 111, 116, 101, 32, 48]⟩ ++ S : ByteArray).size = 9 + S.size := by rw [ByteArray.size_append]; rfl
  have hz3 : (⟨#[112, 114, 111, 109, 111, 116, 101, 32, 43]⟩ ++ S : ByteArray).size = 9 + S.size := by rw [ByteArray.size_append]; rfl
  have hz5 : (⟨#[109, 105, 110, 116, 32, 42, 32, 49, 32]⟩ ++ S : ByteArray).size = 9 + S.size := by rw [ByteArray.size_append]; rfl
  have hz6 : (⟨#[112, 114, 111, 109, 111, 116, 101, 32]⟩ ++ S ++ ⟨#[48, 48, 48, 48, 48, 48, 48, 48, 48, 48]⟩ : ByteArray).size = 8 + S.size + 10 := by rw [ByteArray.size_append, hz1]; rfl
  have P1 := Aside0.mk (fun W (h : Env W) => (show Calls Tryd.prog 8 #[.string (⟨#[112, 114, 111, 109, 111, 116, 101, 32]⟩ ++ S)] W fun e w' => e = .returned (.tuple #[.agg #[.int .i64 5, .string ⟨#[]⟩, .int .i64 (u : Int), .int .u32 0], .int .i64 0]) ∧ Below W.heap.size W w' from parse_s _ _ e1 (by omega) W h))
  have P2 := Aside0.mk (fun W (h : Env W) => parse_n _ e2 (by omega) W h)
  have P3 := Aside0.mk (fun W (h : Env W) => parse_n _ e3 (by omega) W h)
  have P4 := Aside0.mk (fun W (h : Env W) => parse_n _ q4 (by decide) W h)
  have P5 := Aside0.mk (fun W (h : Env W) => (show Calls Tryd.prog 8 #[.string (⟨#[109, 105, 110, 116, 32, 42, 32, 49, 32]⟩ ++ S)] W fun e w' => e = .returned (.tuple #[.agg #[.int .i64 3, .string ⟨#[]⟩, .int .i64 1, .int .u32 (u : Int)], .int .i64 0]) ∧ Below W.heap.size W w' from parse_s _ _ e5 (by omega) W h))
  have P6 := Aside0.mk (fun W (h : Env W) => parse_n _ e6 (by omega) W h)
  clear e1 e2 e3 e5 e6 hD hDl hnum hS E
  have hwr : IntKind.i64.wrap (u : Int) = (u : Int) := by rw [IntKind.wrap_i64]; omega
  go_enter Tryd.func6, Tryd.ntmps6
  go_wp2_with fail
  refine HD.out.mono ?_
  rintro e w0 ⟨rfl, hb⟩
  have BL := Aside0.mk hb
  clear hb HD
  go_wp2_with fail
  refine (P1.out _ (HE.out.below BL.out HE.out.big)).mono ?_
  rintro e wa0 ⟨rfl, hb⟩
  replace BL := Aside0.mk (below_alloc (below_step BL.out hb) (.cells #[.int .i64 5, .string ⟨#[]⟩, .int .i64 (u : Int), .int .u32 0] 24 (0, 0)))
  have GA := Aside0.mk (blk_new wa0 (.cells #[.int .i64 5, .string ⟨#[]⟩, .int .i64 (u : Int), .int .u32 0] 24 (0, 0)))
  clear hb P1
  go_wp2_with fail
  generalize wa0.alloc (.cells #[.int .i64 5, .string ⟨#[]⟩, .int .i64 (u : Int), .int .u32 0] 24 (0, 0)) = wb0 at *
  generalize wa0.heap.size = ga at *
  refine (P2.out _ (HE.out.below BL.out HE.out.big)).mono ?_
  rintro e wa1 ⟨rfl, hb⟩
  replace BL := Aside0.mk (below_alloc (below_step BL.out hb) (.cells #[.int .i64 0, .string ⟨#[]⟩, .int .i64 0, .int .u32 0] 24 (0, 0)))
  replace GA := Aside0.mk (blk_alloc (blk_below GA.out hb) (.cells #[.int .i64 0, .string ⟨#[]⟩, .int .i64 0, .int .u32 0] 24 (0, 0)))
  clear hb P2
  go_wp2_with fail
  generalize wa1.alloc (.cells #[.int .i64 0, .string ⟨#[]⟩, .int .i64 0, .int .u32 0] 24 (0, 0)) = wb1 at *
  refine (P3.out _ (HE.out.below BL.out HE.out.big)).mono ?_
  rintro e wa2 ⟨rfl, hb⟩
  replace BL := Aside0.mk (below_alloc (below_step BL.out hb) (.cells #[.int .i64 0, .string ⟨#[]⟩, .int .i64 0, .int .u32 0] 24 (0, 0)))
  replace GA := Aside0.mk (blk_alloc (blk_below GA.out hb) (.cells #[.int .i64 0, .string ⟨#[]⟩, .int .i64 0, .int .u32 0] 24 (0, 0)))
  clear hb P3
  go_wp2_with fail
  generalize wa2.alloc (.cells #[.int .i64 0, .string ⟨#[]⟩, .int .i64 0, .int .u32 0] 24 (0, 0)) = wb2 at *
  refine (P4.out _ (HE.out.below BL.out HE.out.big)).mono ?_
  rintro e wa3 ⟨rfl, hb⟩
  replace BL := Aside0.mk (below_alloc (below_step BL.out hb) (.cells #[.int .i64 0, .string ⟨#[]⟩, .int .i64 0, .int .u32 0] 24 (0, 0)))
  replace GA := Aside0.mk (blk_alloc (blk_below GA.out hb) (.cells #[.int .i64 0, .string ⟨#[]⟩, .int .i64 0, .int .u32 0] 24 (0, 0)))
  clear hb P4
  go_wp2_with fail
  generalize wa3.alloc (.cells #[.int .i64 0, .string ⟨#[]⟩, .int .i64 0, .int .u32 0] 24 (0, 0)) = wb3 at *
  refine (P5.out _ (HE.out.below BL.out HE.out.big)).mono ?_
  rintro e wa4 ⟨rfl, hb⟩
  replace BL := Aside0.mk (below_alloc (below_step BL.out hb) (.cells #[.int .i64 3, .string ⟨#[]⟩, .int .i64 1, .int .u32 (u : Int)] 24 (0, 0)))
  replace GA := Aside0.mk (blk_alloc (blk_below GA.out hb) (.cells #[.int .i64 3, .string ⟨#[]⟩, .int .i64 1, .int .u32 (u : Int)] 24 (0, 0)))
  have GB := Aside0.mk (blk_new wa4 (.cells #[.int .i64 3, .string ⟨#[]⟩, .int .i64 1, .int .u32 (u : Int)] 24 (0, 0)))
  clear hb P5
  go_wp2_with fail
  generalize wa4.alloc (.cells #[.int .i64 3, .string ⟨#[]⟩, .int .i64 1, .int .u32 (u : Int)] 24 (0, 0)) = wb4 at *
  generalize wa4.heap.size = gb at *
  refine (P6.out _ (HE.out.below BL.out HE.out.big)).mono ?_
  rintro e wa5 ⟨rfl, hb⟩
  replace BL := Aside0.mk (below_alloc (below_step BL.out hb) (.cells #[.int .i64 0, .string ⟨#[]⟩, .int .i64 0, .int .u32 0] 24 (0, 0)))
  replace GA := Aside0.mk (blk_alloc (blk_below GA.out hb) (.cells #[.int .i64 0, .string ⟨#[]⟩, .int .i64 0, .int .u32 0] 24 (0, 0)))
  replace GB := Aside0.mk (blk_alloc (blk_below GB.out hb) (.cells #[.int .i64 0, .string ⟨#[]⟩, .int .i64 0, .int .u32 0] 24 (0, 0)))
  clear hb P6
  have a2 := (blk_cell GA.out 2).trans (show _ = some (.int .i64 (u : Int)) from rfl)
  have b2 := (blk_cell GB.out 2).trans (show _ = some (.int .i64 1) from rfl)
  have b3 := (blk_cell GB.out 3).trans (show _ = some (.int .u32 (u : Int)) from rfl)
  have HW := Aside0.mk (wakes_any _ (HE.out.below BL.out HE.out.big))
  go_wp2_with fail
  refine HW.out.mono ?_
  rintro e wz ⟨rfl, hb⟩
  have BZ := Aside0.mk (below_step BL.out hb)
  clear hb
  go_wp2_with fail
  go_ret
  exact ⟨rfl, BZ.out⟩
end Go.Proofs.YtfejbfnjfombhaaDoor.LinM

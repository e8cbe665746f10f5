/- LinesBack's walk. -/
import Derived.Test.YtfejbfnjfombhaaDoorLinI
namespace Go.Proofs.YtfejbfnjfombhaaDoor.LinK
open Go.RowKit Go.Sort Go.Shelf Go.Lib Go.Proofs.YtfejbfnjfombhaaDoorW.PrintWords Go.Proofs.YtfejbfnjfombhaaDoorW.PrintLast Go.Proofs.YtfejbfnjfombhaaDoorW.PrintMore Go.Proofs.YtfejbfnjfombhaaDoor.LinA Go.Proofs.YtfejbfnjfombhaaDoor.LinB Go.Proofs.YtfejbfnjfombhaaDoor.LinC Go.Proofs.YtfejbfnjfombhaaDoor.LinD Go.Proofs.YtfejbfnjfombhaaDoor.LinE Go.Proofs.YtfejbfnjfombhaaDoor.LinF Go.Proofs.YtfejbfnjfombhaaDoor.LinG Go.Proofs.YtfejbfnjfombhaaDoor.LinH Go.Proofs.YtfejbfnjfombhaaDoor.LinI
set_option linter.unusedVariables false
set_option linter.unusedSimpArgs false
attribute [local go_sem high] eqA24
theorem parse_s (s : ByteArray) (m : Ln) (h : parseF s = some m) (hs : s.size ≤ 281474976710656) (w : World) (E : Env w) :
    Calls Tryd.prog 8 #[.string s] w fun e w' => e = .returned (.tuple #[.agg #[.int .i64 m.verb, .string m.name, .int .i64 m.n, .int .u32 m.till], .int .i64 0]) ∧ Below w.heap.size w w' := by
  have c := parse_any s hs w E
  rw [h] at c; exact c
theorem parse_n (s : ByteArray) (h : parseF s = none) (hs : s.size ≤ 281474976710656) (w : World) (E : Env w) :
    Calls Tryd.prog 8 #[.string s] w fun e w' => e = .returned (.tuple #[.agg #[.int .i64 0, .string ⟨#[]⟩, .int .i64 0, .int .u32 0], .int .i64 11]) ∧ Below w.heap.size w w' := by
  have c := parse_any s hs w E
  rw [h] at c; exact c
theorem text_s (l : Ln) (t : ByteArray) (h : textF l = some t) (hl : Fit l) (w : World) (E : Env w) :
    Calls Tryd.prog 10 #[.agg #[.int .i64 l.verb, .string l.name, .int .i64 l.n, .int .u32 l.till]] w fun e w' => e = .returned (.tuple #[.string t, .int .i64 0]) ∧ Below w.heap.size w w' := by
  have c := textfn_any l hl w E
  rw [h] at c; exact c
theorem text_n (l : Ln) (h : textF l = none) (hl : Fit l) (w : World) (E : Env w) :
    Calls Tryd.prog 10 #[.agg #[.int .i64 l.verb, .string l.name, .int .i64 l.n, .int .u32 l.till]] w fun e w' => e = .returned (.tuple #[.string ⟨#[]⟩, .int .i64 11]) ∧ Below w.heap.size w w' := by
  have c := textfn_any l hl w E
  rw [h] at c; exact c
theorem num_range {w : List UInt8} {u : Nat} (h : numVal w = some u) : u ≤ 4294967295 := num_le h
/-- The line of a text fits. -/
theorem fit_of_parse {s : ByteArray} {m : Ln} (h : parseF s = some m) : Fit m := by
  obtain ⟨hs, f, hf, r, hw, hl, hr⟩ := parse_some h
  have hr1 : ∀ y ∈ r, y.length ≤ 200 := fun y hy => by
    have h1 := word_le s.data.toList y (by rw [hw]; simp [hy])
    have h2 : s.data.toList.length = s.size := Array.length_toList
    omega
  have step : ∀ (c : UInt8) (x : ByteArray) (l l' : Ln), x.size ≤ 200 → Fit l → readF c x l = some l' → Fit l' := by
    intro c x l l' hx hF hh
    unfold readF at hh
    split at hh
    · split at hh
      · injection hh with hh; subst hh; exact ⟨hF.n0, hF.n1, hF.t0, hF.t1, by show x.size ≤ 1000; omega⟩
      · cases hh
    · split at hh
      · split at hh
        · injection hh with hh; subst hh; exact ⟨hF.n0, hF.n1, hF.t0, hF.t1, Nat.zero_le _⟩
        · split at hh
          · injection hh with hh; subst hh; exact ⟨hF.n0, hF.n1, hF.t0, hF.t1, by show x.size ≤ 1000; omega⟩
          · cases hh
      · split at hh
        · obtain ⟨u, h1, h2⟩ := Option.map_eq_some_iff.1 hh
          have := num_le h1
          subst h2
          exact ⟨by show (-9223372036854775808 : Int) ≤ (u : Int); omega, by show (u : Int) ≤ 9223372036854775807; omega, hF.t0, hF.t1, hF.s⟩
        · split at hh
          · obtain ⟨u, h1, h2⟩ := Option.map_eq_some_iff.1 hh
            have := num_le h1
            subst h2
            exact ⟨hF.n0, hF.n1, by show (0 : Int) ≤ (u : Int); omega, by show (u : Int) ≤ 4294967295; omega, hF.s⟩
          · cases hh
  have all : ∀ (cs : List UInt8) (xs : List ByteArray) (l l' : Ln), (∀ x ∈ xs, x.size ≤ 200) → Fit l → readAll cs xs l = some l' → Fit l' := by
    intro cs
    induction cs with
    | nil =>
      intro xs l l' hx hF hh
      cases xs with
      | nil => simp [readAll] at hh; subst hh; exact hF
      | cons _ _ => simp [readAll] at hh
    | cons c cs ih =>
      intro xs l l' hx hF hh
      cases xs with
      | nil => simp [readAll] at hh
      | cons x xs =>
        simp only [readAll] at hh
        obtain ⟨l2, h1, h2⟩ := Option.bind_eq_some_iff.1 hh
        exact ih xs l2 l' (fun y hy => hx y (by simp [hy])) (step c x l l2 (hx x (by simp)) hF h1) h2
  refine all _ _ _ _ (fun x hx => ?_) ⟨by show (-9223372036854775808 : Int) ≤ 0; omega, by show (0 : Int) ≤ 9223372036854775807; omega, Int.le_refl _, by show (0 : Int) ≤ 4294967295; omega, Nat.zero_le _⟩ hr
  obtain ⟨y, hy, rfl⟩ := List.mem_map.1 hx
  rw [ofL_size]
  exact hr1 y hy
theorem more_b (t : ByteArray) (b : List UInt8) : t ++ ofL (32 :: b) = ofL (t.data.toList ++ 32 :: b) := bytes_ext (by rw [app_data, ofL_data, ofL_data])
theorem ahead_b (t : ByteArray) : (⟨#[32]⟩ : ByteArray) ++ t = ofL (32 :: t.data.toList) := bytes_ext (by rw [app_data, ofL_data]; rfl)
set_option maxHeartbeats 4000000 in
set_option maxRecDepth 100000 in
theorem back_walk (s : ByteArray) (l : Ln) (hn : -9223372036854775808 ≤ l.n ∧ l.n ≤ 9223372036854775807) (ht : 0 ≤ l.till ∧ l.till ≤ 4294967295) (w : World) (E : Env w) :
    Calls Tryd.prog 4 #[.string s, .agg #[.int .i64 l.verb, .string l.name, .int .i64 l.n, .int .u32 l.till]] w fun e w' => e = .returned (.bool true) ∧ Below w.heap.size w w' := by
  have HE := Aside0.mk E
  have BA := Aside0.mk (below_alloc (Below.refl w.heap.size w) (.cells #[.int .i64 l.verb, .string l.name, .int .i64 l.n, .int .u32 l.till] 24 (0, 0)))
  have LL := Aside0.mk (blk_new w (.cells #[.int .i64 l.verb, .string l.name, .int .i64 l.n, .int .u32 l.till] 24 (0, 0)))
  have l0 := (blk_cell LL.out 0).trans (show _ = some (.int .i64 l.verb) from rfl)
  have l1 := (blk_cell LL.out 1).trans (show _ = some (.string l.name) from rfl)
  have l2 := (blk_cell LL.out 2).trans (show _ = some (.int .i64 l.n) from rfl)
  have l3 := (blk_cell LL.out 3).trans (show _ = some (.int .u32 l.till) from rfl)
  clear E
  by_cases hlen : 1000 < s.size ∨ 300 < l.name.size
  · have HW := Aside0.mk (wakes_any _ (HE.out.below BA.out HE.out.big))
    by_cases h1 : 1000 < s.size
    · have hd : decide ((1000 : Int) < (s.size : Int)) = true := by simp; omega
      clear hlen
      go_enter Tryd.func4, Tryd.ntmps4
      go_wp2_with fail
      refine HW.out.mono ?_
      rintro e w1 ⟨rfl, hb⟩
      have B1 := Aside0.mk (below_step BA.out hb)
      clear hb
      go_wp2_with fail
      go_ret
      exact ⟨rfl, B1.out⟩
    · have h2 : 300 < l.name.size := by omega
      have hd : decide ((1000 : Int) < (s.size : Int)) = false := by simp; omega
      have hd2 : decide ((300 : Int) < (l.name.size : Int)) = true := by simp; omega
      clear hlen
      go_enter Tryd.func4, Tryd.ntmps4
      go_wp2_with fail
      refine HW.out.mono ?_
      rintro e w1 ⟨rfl, hb⟩
      have B1 := Aside0.mk (below_step BA.out hb)
      clear hb
      go_wp2_with fail
      go_ret
      exact ⟨rfl, B1.out⟩
  · have hs1 : s.size ≤ 1000 := by omega
    have hs2 : l.name.size ≤ 300 := by omega
    have HL := Aside0.mk (show Fit l from ⟨hn.1, hn.2, ht.1, ht.2, by omega⟩)
    have hd : decide ((1000 : Int) < (s.size : Int)) = false := by simp; omega
    have hd2 : decide ((300 : Int) < (l.name.size : Int)) = false := by simp; omega
    clear hlen hn ht
    have ET := HE.out.below BA.out HE.out.big
    cases htx : textF l with
    | none =>
      have HT := Aside0.mk (text_n l htx HL.out _ ET)
      clear ET htx
      go_enter Tryd.func4, Tryd.ntmps4
      go_wp2_with fail
      refine HT.out.mono ?_
      rintro e w1 ⟨rfl, hb⟩
      have BL := Aside0.mk (below_step BA.out hb)
      clear hb BA LL l0 l1 l2 l3
      go_wp2_with fail
      cases hps : parseF s with
      | none =>
        have HP := Aside0.mk (parse_n s hps (by omega) _ (HE.out.below BL.out HE.out.big))
        clear hps
        refine HP.out.mono ?_
        rintro e wa ⟨rfl, hb⟩
        have BZ := Aside0.mk (below_alloc (below_step BL.out hb) (.cells #[.int .i64 0, .string ⟨#[]⟩, .int .i64 0, .int .u32 0] 24 (0, 0)))
        have ZB := Aside0.mk (blk_new wa (.cells #[.int .i64 0, .string ⟨#[]⟩, .int .i64 0, .int .u32 0] 24 (0, 0)))
        clear hb
        have z0 := (blk_cell ZB.out 0).trans (show _ = some (.int .i64 0) from rfl)
        have z1 := (blk_cell ZB.out 1).trans (show _ = some (.string ⟨#[]⟩) from rfl)
        have z2 := (blk_cell ZB.out 2).trans (show _ = some (.int .i64 0) from rfl)
        have z3 := (blk_cell ZB.out 3).trans (show _ = some (.int .u32 0) from rfl)
        have HW := Aside0.mk (wakes_any _ (HE.out.below BZ.out HE.out.big))
        go_wp2_with fail
        refine HW.out.mono ?_
        rintro e wb ⟨rfl, hb⟩
        have BY := Aside0.mk (below_step BZ.out hb)
        clear hb
        go_wp2_with fail
        go_ret
        exact ⟨rfl, BY.out⟩
      | some m =>
        have HP := Aside0.mk (parse_s s m hps (by omega) _ (HE.out.below BL.out HE.out.big))
        have HF := Aside0.mk (fit_of_parse hps)
        have HTm := Aside0.mk (back_text hps)
        clear hps
        refine HP.out.mono ?_
        rintro e wa ⟨rfl, hb⟩
        have BZ := Aside0.mk (below_alloc (below_step BL.out hb) (.cells #[.int .i64 m.verb, .string m.name, .int .i64 m.n, .int .u32 m.till] 24 (0, 0)))
        have ZB := Aside0.mk (blk_new wa (.cells #[.int .i64 m.verb, .string m.name, .int .i64 m.n, .int .u32 m.till] 24 (0, 0)))
        clear hb
        have z0 := (blk_cell ZB.out 0).trans (show _ = some (.int .i64 m.verb) from rfl)
        have z1 := (blk_cell ZB.out 1).trans (show _ = some (.string m.name) from rfl)
        have z2 := (blk_cell ZB.out 2).trans (show _ = some (.int .i64 m.n) from rfl)
        have z3 := (blk_cell ZB.out 3).trans (show _ = some (.int .u32 m.till) from rfl)
        have HQ := Aside0.mk (text_s m s HTm.out HF.out _ (HE.out.below BZ.out HE.out.big))
        go_wp2_with fail
        refine HQ.out.mono ?_
        rintro e wb ⟨rfl, hb⟩
        have BY := Aside0.mk (below_step BZ.out hb)
        clear hb
        have HW := Aside0.mk (wakes_any _ (HE.out.below BY.out HE.out.big))
        have hqs : (s.toList == s.toList) = true := by simp
        go_wp2_with fail
        refine HW.out.mono ?_
        rintro e wc ⟨rfl, hb⟩
        have BX := Aside0.mk (below_step BY.out hb)
        clear hb
        go_wp2_with fail
        go_ret
        exact ⟨rfl, BX.out⟩
    | some t =>
      have HT := Aside0.mk (text_s l t htx HL.out _ ET)
      have hp := text_line htx
      have hts := (parse_some hp).1
      have P1 := Aside0.mk (fun W (h : Env W) => parse_s t l hp (by omega) W h)
      have P2 := Aside0.mk (fun W (h : Env W) => parse_n (t ++ ⟨#[32]⟩) (by rw [show (⟨#[32]⟩ : ByteArray) = ofL (32 :: []) from rfl, more_b]; exact more_none hp []) (by rw [ByteArray.size_append]; have : (⟨#[32]⟩ : ByteArray).size = 1 := rfl; omega) W h)
      have P3 := Aside0.mk (fun W (h : Env W) => parse_n (⟨#[32]⟩ ++ t) (by rw [ahead_b]; exact ahead_none _) (by rw [ByteArray.size_append]; have : (⟨#[32]⟩ : ByteArray).size = 1 := rfl; omega) W h)
      have P4 := Aside0.mk (fun W (h : Env W) => parse_n (t ++ ⟨#[32, 49, 32, 49]⟩) (by rw [show (⟨#[32, 49, 32, 49]⟩ : ByteArray) = ofL (32 :: [49, 32, 49]) from rfl, more_b]; exact more_none hp [49, 32, 49]) (by rw [ByteArray.size_append]; have : (⟨#[32, 49, 32, 49]⟩ : ByteArray).size = 4 := rfl; omega) W h)
      clear ET htx hp
      go_enter Tryd.func4, Tryd.ntmps4
      go_wp2_with fail
      refine HT.out.mono ?_
      rintro e w1 ⟨rfl, hb⟩
      have BL := Aside0.mk (below_step BA.out hb)
      have LB := Aside0.mk (blk_below LL.out hb)
      clear hb BA LL l0 l1 l2 l3 HT
      go_wp2_with fail
      generalize hlb : w.heap.size = lb at *
      refine (P1.out _ (HE.out.below BL.out (by rw [← hlb]; exact HE.out.big))).mono ?_
      rintro e w2 ⟨rfl, hb⟩
      replace BL := Aside0.mk (Below.alloc (below_then BL.out (Nat.le_of_lt (blk_lt LB.out)) hb) (Nat.le_trans (Nat.le_of_lt (blk_lt LB.out)) hb.size) (.cells #[.int .i64 l.verb, .string l.name, .int .i64 l.n, .int .u32 l.till] 24 (0, 0)))
      replace LB := Aside0.mk (blk_alloc (blk_below LB.out hb) (.cells #[.int .i64 l.verb, .string l.name, .int .i64 l.n, .int .u32 l.till] 24 (0, 0)))
      have MB := Aside0.mk (blk_new w2 (.cells #[.int .i64 l.verb, .string l.name, .int .i64 l.n, .int .u32 l.till] 24 (0, 0)))
      clear hb P1
      go_wp2_with fail
      generalize w2.alloc (.cells #[.int .i64 l.verb, .string l.name, .int .i64 l.n, .int .u32 l.till] 24 (0, 0)) = w3 at *
      generalize w2.heap.size = mb at *
      refine (P2.out _ (HE.out.below BL.out (by rw [← hlb]; exact HE.out.big))).mono ?_
      rintro e w4 ⟨rfl, hb⟩
      replace BL := Aside0.mk (Below.alloc (below_then BL.out (Nat.le_of_lt (blk_lt LB.out)) hb) (Nat.le_trans (Nat.le_of_lt (blk_lt LB.out)) hb.size) (.cells #[.int .i64 0, .string ⟨#[]⟩, .int .i64 0, .int .u32 0] 24 (0, 0)))
      replace LB := Aside0.mk (blk_alloc (blk_below LB.out hb) (.cells #[.int .i64 0, .string ⟨#[]⟩, .int .i64 0, .int .u32 0] 24 (0, 0)))
      replace MB := Aside0.mk (blk_alloc (blk_below MB.out hb) (.cells #[.int .i64 0, .string ⟨#[]⟩, .int .i64 0, .int .u32 0] 24 (0, 0)))
      clear hb P2
      go_wp2_with fail
      generalize w4.alloc (.cells #[.int .i64 0, .string ⟨#[]⟩, .int .i64 0, .int .u32 0] 24 (0, 0)) = w5 at *
      refine (P3.out _ (HE.out.below BL.out (by rw [← hlb]; exact HE.out.big))).mono ?_
      rintro e w6 ⟨rfl, hb⟩
      replace BL := Aside0.mk (Below.alloc (below_then BL.out (Nat.le_of_lt (blk_lt LB.out)) hb) (Nat.le_trans (Nat.le_of_lt (blk_lt LB.out)) hb.size) (.cells #[.int .i64 0, .string ⟨#[]⟩, .int .i64 0, .int .u32 0] 24 (0, 0)))
      replace LB := Aside0.mk (blk_alloc (blk_below LB.out hb) (.cells #[.int .i64 0, .string ⟨#[]⟩, .int .i64 0, .int .u32 0] 24 (0, 0)))
      replace MB := Aside0.mk (blk_alloc (blk_below MB.out hb) (.cells #[.int .i64 0, .string ⟨#[]⟩, .int .i64 0, .int .u32 0] 24 (0, 0)))
      clear hb P3
      go_wp2_with fail
      generalize w6.alloc (.cells #[.int .i64 0, .string ⟨#[]⟩, .int .i64 0, .int .u32 0] 24 (0, 0)) = w7 at *
      refine (P4.out _ (HE.out.below BL.out (by rw [← hlb]; exact HE.out.big))).mono ?_
      rintro e w8 ⟨rfl, hb⟩
      replace BL := Aside0.mk (Below.alloc (below_then BL.out (Nat.le_of_lt (blk_lt LB.out)) hb) (Nat.le_trans (Nat.le_of_lt (blk_lt LB.out)) hb.size) (.cells #[.int .i64 0, .string ⟨#[]⟩, .int .i64 0, .int .u32 0] 24 (0, 0)))
      replace LB := Aside0.mk (blk_alloc (blk_below LB.out hb) (.cells #[.int .i64 0, .string ⟨#[]⟩, .int .i64 0, .int .u32 0] 24 (0, 0)))
      replace MB := Aside0.mk (blk_alloc (blk_below MB.out hb) (.cells #[.int .i64 0, .string ⟨#[]⟩, .int .i64 0, .int .u32 0] 24 (0, 0)))
      clear hb P4
      have l0 := (blk_cell LB.out 0).trans (show _ = some (.int .i64 l.verb) from rfl)
      have l1 := (blk_cell LB.out 1).trans (show _ = some (.string l.name) from rfl)
      have l2 := (blk_cell LB.out 2).trans (show _ = some (.int .i64 l.n) from rfl)
      have l3 := (blk_cell LB.out 3).trans (show _ = some (.int .u32 l.till) from rfl)
      have m0 := (blk_cell MB.out 0).trans (show _ = some (.int .i64 l.verb) from rfl)
      have m1 := (blk_cell MB.out 1).trans (show _ = some (.string l.name) from rfl)
      have m2 := (blk_cell MB.out 2).trans (show _ = some (.int .i64 l.n) from rfl)
      have m3 := (blk_cell MB.out 3).trans (show _ = some (.int .u32 l.till) from rfl)
      have hee := eq_ln l l
      rw [decide_eq_true rfl] at hee
      go_wp2_with fail
      subst hlb
      replace BL : Aside0 (Below w.heap.size w (w8.alloc (.cells #[.int .i64 0, .string ⟨#[]⟩, .int .i64 0, .int .u32 0] 24 (0, 0)))) := ⟨BL.out⟩
      clear l0 l1 l2 l3 m0 m1 m2 m3 LB MB hee
      generalize w8.alloc (.cells #[.int .i64 0, .string ⟨#[]⟩, .int .i64 0, .int .u32 0] 24 (0, 0)) = w1 at *
      cases hps : parseF s with
      | none =>
        have HP := Aside0.mk (parse_n s hps (by omega) _ (HE.out.below BL.out HE.out.big))
        clear hps
        refine HP.out.mono ?_
        rintro e wa ⟨rfl, hb⟩
        have BZ := Aside0.mk (below_alloc (below_step BL.out hb) (.cells #[.int .i64 0, .string ⟨#[]⟩, .int .i64 0, .int .u32 0] 24 (0, 0)))
        have ZB := Aside0.mk (blk_new wa (.cells #[.int .i64 0, .string ⟨#[]⟩, .int .i64 0, .int .u32 0] 24 (0, 0)))
        clear hb
        have z0 := (blk_cell ZB.out 0).trans (show _ = some (.int .i64 0) from rfl)
        have z1 := (blk_cell ZB.out 1).trans (show _ = some (.string ⟨#[]⟩) from rfl)
        have z2 := (blk_cell ZB.out 2).trans (show _ = some (.int .i64 0) from rfl)
        have z3 := (blk_cell ZB.out 3).trans (show _ = some (.int .u32 0) from rfl)
        have HW := Aside0.mk (wakes_any _ (HE.out.below BZ.out HE.out.big))
        go_wp2_with fail
        refine HW.out.mono ?_
        rintro e wb ⟨rfl, hb⟩
        have BY := Aside0.mk (below_step BZ.out hb)
        clear hb
        go_wp2_with fail
        go_ret
        exact ⟨rfl, BY.out⟩
      | some m =>
        have HP := Aside0.mk (parse_s s m hps (by omega) _ (HE.out.below BL.out HE.out.big))
        have HF := Aside0.mk (fit_of_parse hps)
        have HTm := Aside0.mk (back_text hps)
        clear hps
        refine HP.out.mono ?_
        rintro e wa ⟨rfl, hb⟩
        have BZ := Aside0.mk (below_alloc (below_step BL.out hb) (.cells #[.int .i64 m.verb, .string m.name, .int .i64 m.n, .int .u32 m.till] 24 (0, 0)))
        have ZB := Aside0.mk (blk_new wa (.cells #[.int .i64 m.verb, .string m.name, .int .i64 m.n, .int .u32 m.till] 24 (0, 0)))
        clear hb
        have z0 := (blk_cell ZB.out 0).trans (show _ = some (.int .i64 m.verb) from rfl)
        have z1 := (blk_cell ZB.out 1).trans (show _ = some (.string m.name) from rfl)
        have z2 := (blk_cell ZB.out 2).trans (show _ = some (.int .i64 m.n) from rfl)
        have z3 := (blk_cell ZB.out 3).trans (show _ = some (.int .u32 m.till) from rfl)
        have HQ := Aside0.mk (text_s m s HTm.out HF.out _ (HE.out.below BZ.out HE.out.big))
        go_wp2_with fail
        refine HQ.out.mono ?_
        rintro e wb ⟨rfl, hb⟩
        have BY := Aside0.mk (below_step BZ.out hb)
        clear hb
        have HW := Aside0.mk (wakes_any _ (HE.out.below BY.out HE.out.big))
        have hqs : (s.toList == s.toList) = true := by simp
        go_wp2_with fail
        refine HW.out.mono ?_
        rintro e wc ⟨rfl, hb⟩
        have BX := Aside0.mk (below_step BY.out hb)
        clear hb
        go_wp2_with fail
        go_ret
        exact ⟨rfl, BX.out⟩
end Go.Proofs.YtfejbfnjfombhaaDoor.LinK

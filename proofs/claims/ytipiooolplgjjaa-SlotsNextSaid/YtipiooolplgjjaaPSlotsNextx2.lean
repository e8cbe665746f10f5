-- PRINTED BY print.sh 35421559b90ae4d0a3588c463048766b98c2df88dd9212a6774a882060cdf62d: not written by this session
import Derived.Test.YtipiooolplgjjaaPSlotsNextx0
import Derived.Test.YtipiooolplgjjaaPSlotsNextx1
namespace Go.Proofs.Ytipiooolplgjjaa.PSlotsNext
open Go.RowKit Go.Proofs.YtipiooolplgjjaaW.PrintWords Go.Proofs.YtipiooolplgjjaaW.PrintLast Go.Proofs.YtipiooolplgjjaaW.PrintMore
attribute [local go_sem] max2_int min2_int max_two min_two max_three min_three max_four min_four   -- for this text's walks alone
set_option linter.unusedVariables false
set_option linter.unusedSimpArgs false

/-! ### tollhouselaw19_SlotsNext: function 8 -/
mutual
def tollhouselaw19_SlotsNext.j0 : Nat → Int → Int → Int → Int → Bool → Option (Bool)
  | 0, _, _, _, _, _ => none
  | k + 1, x1, x2, x7, x8, x43 => if x43 = true then (some false) else (tollhouselaw19_SlotsNext.l0 k x1 x2 x7 x8 1)
def tollhouselaw19_SlotsNext.l0 : Nat → Int → Int → Int → Int → Int → Option (Bool)
  | 0, _, _, _, _, _ => none
  | k + 1, x1, x2, x7, x8, x10 => if x10 < ((x8 - x2) % 4294967296) then ((slots_Owner.f ((x2 + x10) % 4294967296)).bind fun t124 => (if t124 = x7 then (some false) else (tollhouselaw19_SlotsNext.l0 k x1 x2 x7 x8 ((x10 + 1) % 4294967296)))) else (tollhouselaw19_SlotsNext.l1 k x1 x7 x8 x8 0)
def tollhouselaw19_SlotsNext.l1 : Nat → Int → Int → Int → Int → Int → Option (Bool)
  | 0, _, _, _, _, _ => none
  | k + 1, x1, x7, x8, x11, x12 => if x12 < (wrap64 (x1)) then ((slots_Next.f k x7 x11).bind fun bt125 => (if bt125.2 = 0 then (if bt125.1 = ((x11 + 4) % 4294967296) then (tollhouselaw19_SlotsNext.l1 k x1 x7 x8 bt125.1 (wrap64 (x12 + 1))) else (some false)) else (some false))) else (if ((x11 - x8) % 4294967296) = ((4 * ((x1) % 4294967296)) % 4294967296) then ((tollhouselaw19_wakes.f k).bind fun t127 => (some t127)) else (some false))
end
def tollhouselaw19_SlotsNext.f (k : Nat) (a0 : Int) (a1 : Int) (a2 : Int) : Option (Bool) := (slots_Next.f k (Int.tmod (wrap64 (a0)) 4) a2).bind fun bt121 => (if bt121.2 = 0 then ((slots_Owner.f bt121.1).bind fun t123 => (if t123 = (Int.tmod (wrap64 (a0)) 4) then (if ((bt121.1 - a2) % 4294967296) < 1 then (tollhouselaw19_SlotsNext.j0 k a1 a2 (Int.tmod (wrap64 (a0)) 4) bt121.1 true) else (tollhouselaw19_SlotsNext.j0 k a1 a2 (Int.tmod (wrap64 (a0)) 4) bt121.1 (decide (((bt121.1 - a2) % 4294967296) > 4)))) else (tollhouselaw19_SlotsNext.j0 k a1 a2 (Int.tmod (wrap64 (a0)) 4) bt121.1 true))) else (tollhouselaw19_SlotsNext.j0 k a1 a2 (Int.tmod (wrap64 (a0)) 4) bt121.1 true))
theorem tollhouselaw19_SlotsNext.mono_l : ∀ k, (∀ y0 y1 y2 y3 y4, LeO (tollhouselaw19_SlotsNext.j0 k y0 y1 y2 y3 y4) (tollhouselaw19_SlotsNext.j0 (k + 1) y0 y1 y2 y3 y4)) ∧ (∀ y0 y1 y2 y3 y4, LeO (tollhouselaw19_SlotsNext.l0 k y0 y1 y2 y3 y4) (tollhouselaw19_SlotsNext.l0 (k + 1) y0 y1 y2 y3 y4)) ∧ (∀ y0 y1 y2 y3 y4, LeO (tollhouselaw19_SlotsNext.l1 k y0 y1 y2 y3 y4) (tollhouselaw19_SlotsNext.l1 (k + 1) y0 y1 y2 y3 y4))
  | 0 => ⟨fun _ _ _ _ _ r h => by simp [tollhouselaw19_SlotsNext.j0] at h, fun _ _ _ _ _ r h => by simp [tollhouselaw19_SlotsNext.l0] at h, fun _ _ _ _ _ r h => by simp [tollhouselaw19_SlotsNext.l1] at h⟩
  | k + 1 => by
    obtain ⟨ih0, ih1, ih2⟩ := tollhouselaw19_SlotsNext.mono_l k
    refine ⟨?_, ?_, ?_⟩
    · intro y0 y1 y2 y3 y4
      unfold tollhouselaw19_SlotsNext.j0
      repeat' first
      | (with_reducible exact ih0 _ _ _ _ _)
      | (with_reducible exact ih1 _ _ _ _ _)
      | (with_reducible exact ih2 _ _ _ _ _)
      | (with_reducible exact slots_Next.mono _ _ _)
      | (with_reducible exact tollhouselaw19_wakes.mono _)
      | (with_reducible exact LeO.refl _)
      | (with_reducible exact LeO.none _)
      | (with_reducible refine LeO.ite ?_ ?_)
      | (with_reducible refine LeO.bind ?_ (fun _ => ?_))
      | exact ih0 _ _ _ _ _
      | exact ih1 _ _ _ _ _
      | exact ih2 _ _ _ _ _
      | exact slots_Next.mono _ _ _
      | exact tollhouselaw19_wakes.mono _
      | exact LeO.none _
      | refine LeO.ite ?_ ?_
      | refine LeO.bind ?_ (fun _ => ?_)
    · intro y0 y1 y2 y3 y4
      unfold tollhouselaw19_SlotsNext.l0
      repeat' first
      | (with_reducible exact ih0 _ _ _ _ _)
      | (with_reducible exact ih1 _ _ _ _ _)
      | (with_reducible exact ih2 _ _ _ _ _)
      | (with_reducible exact slots_Next.mono _ _ _)
      | (with_reducible exact tollhouselaw19_wakes.mono _)
      | (with_reducible exact LeO.refl _)
      | (with_reducible exact LeO.none _)
      | (with_reducible refine LeO.ite ?_ ?_)
      | (with_reducible refine LeO.bind ?_ (fun _ => ?_))
      | exact ih0 _ _ _ _ _
      | exact ih1 _ _ _ _ _
      | exact ih2 _ _ _ _ _
      | exact slots_Next.mono _ _ _
      | exact tollhouselaw19_wakes.mono _
      | exact LeO.none _
      | refine LeO.ite ?_ ?_
      | refine LeO.bind ?_ (fun _ => ?_)
    · intro y0 y1 y2 y3 y4
      unfold tollhouselaw19_SlotsNext.l1
      repeat' first
      | (with_reducible exact ih0 _ _ _ _ _)
      | (with_reducible exact ih1 _ _ _ _ _)
      | (with_reducible exact ih2 _ _ _ _ _)
      | (with_reducible exact slots_Next.mono _ _ _)
      | (with_reducible exact tollhouselaw19_wakes.mono _)
      | (with_reducible exact LeO.refl _)
      | (with_reducible exact LeO.none _)
      | (with_reducible refine LeO.ite ?_ ?_)
      | (with_reducible refine LeO.bind ?_ (fun _ => ?_))
      | exact ih0 _ _ _ _ _
      | exact ih1 _ _ _ _ _
      | exact ih2 _ _ _ _ _
      | exact slots_Next.mono _ _ _
      | exact tollhouselaw19_wakes.mono _
      | exact LeO.none _
      | refine LeO.ite ?_ ?_
      | refine LeO.bind ?_ (fun _ => ?_)
theorem tollhouselaw19_SlotsNext.mono : ∀ a0 a1 a2 k, LeO (tollhouselaw19_SlotsNext.f k a0 a1 a2) (tollhouselaw19_SlotsNext.f (k + 1) a0 a1 a2) := by
  intro a0 a1 a2 k
  obtain ⟨ih0, ih1, ih2⟩ := tollhouselaw19_SlotsNext.mono_l k
  unfold tollhouselaw19_SlotsNext.f
  repeat' first
      | (with_reducible exact ih0 _ _ _ _ _)
      | (with_reducible exact ih1 _ _ _ _ _)
      | (with_reducible exact ih2 _ _ _ _ _)
      | (with_reducible exact slots_Next.mono _ _ _)
      | (with_reducible exact tollhouselaw19_wakes.mono _)
      | (with_reducible exact LeO.refl _)
      | (with_reducible exact LeO.none _)
      | (with_reducible refine LeO.ite ?_ ?_)
      | (with_reducible refine LeO.bind ?_ (fun _ => ?_))
      | exact ih0 _ _ _ _ _
      | exact ih1 _ _ _ _ _
      | exact ih2 _ _ _ _ _
      | exact slots_Next.mono _ _ _
      | exact tollhouselaw19_wakes.mono _
      | exact LeO.none _
      | refine LeO.ite ?_ ?_
      | refine LeO.bind ?_ (fun _ => ?_)
set_option maxHeartbeats 8000000 in
set_option maxRecDepth 100000 in
theorem tollhouselaw19_SlotsNext.calls (k : Nat) (a0 : Int) (a1 : Int) (a2 : Int) (r : Bool) (w : World) (h : tollhouselaw19_SlotsNext.f k a0 a1 a2 = some r) :
    Calls Try.prog 8 #[.int .u8 a0, .int .u8 a1, .int .u32 a2] w fun e w' => e = .returned (.bool r) ∧ Below w.heap.size w w' := by
  have HB := Aside0.mk (Below.refl w.heap.size w)
  have H : ((slots_Next.f k (Int.tmod (wrap64 (a0)) 4) a2).bind fun bt121 => (if bt121.2 = 0 then ((slots_Owner.f bt121.1).bind fun t123 => (if t123 = (Int.tmod (wrap64 (a0)) 4) then (if ((bt121.1 - a2) % 4294967296) < 1 then (tollhouselaw19_SlotsNext.j0 k a1 a2 (Int.tmod (wrap64 (a0)) 4) bt121.1 true) else (tollhouselaw19_SlotsNext.j0 k a1 a2 (Int.tmod (wrap64 (a0)) 4) bt121.1 (decide (((bt121.1 - a2) % 4294967296) > 4)))) else (tollhouselaw19_SlotsNext.j0 k a1 a2 (Int.tmod (wrap64 (a0)) 4) bt121.1 true))) else (tollhouselaw19_SlotsNext.j0 k a1 a2 (Int.tmod (wrap64 (a0)) 4) bt121.1 true))) = some r := h
  clear h
  replace H := Option.bind_eq_some_iff.mp H
  obtain ⟨⟨t121, t122⟩, A40, H⟩ := H
  replace H : (if t122 = 0 then ((slots_Owner.f t121).bind fun t123 => (if t123 = (Int.tmod (wrap64 (a0)) 4) then (if ((t121 - a2) % 4294967296) < 1 then (tollhouselaw19_SlotsNext.j0 k a1 a2 (Int.tmod (wrap64 (a0)) 4) t121 true) else (tollhouselaw19_SlotsNext.j0 k a1 a2 (Int.tmod (wrap64 (a0)) 4) t121 (decide (((t121 - a2) % 4294967296) > 4)))) else (tollhouselaw19_SlotsNext.j0 k a1 a2 (Int.tmod (wrap64 (a0)) 4) t121 true))) else (tollhouselaw19_SlotsNext.j0 k a1 a2 (Int.tmod (wrap64 (a0)) 4) t121 true)) = some r := H
  have A4 := Aside0.mk A40
  clear A40
  have HC5 := Aside0.mk H
  clear H
  go_enter Try.func8, Try.ntmps8
  go_upto_region 3 with (first | ((with_reducible refine gate_callee (f := 21) rfl ?_); refine goesL_ (some 21) rfl rfl Try.func21 (by kernel_rfl) rfl #[.int .i64 (Int.tmod (wrap64 (a0)) 4), .int .u32 a2] rfl (by (try simp only [List.map_toArray, List.map_cons, List.map_nil]); first | done | rfl | (simp only [List.length_drop, List.length_take]; rfl)) ?_; (with_reducible refine (slots_Next.calls k (Int.tmod (wrap64 (a0)) 4) a2 t121 t122 _ A4.out).mono ?_); rintro e w6 ⟨rfl, hb⟩; refine ⟨_, rfl, ?_⟩; have n0_ := Aside0.mk (below_step (by repeat (first | (with_reducible first | exact HB.out | apply below_alloc | apply pw_below_drewN | apply below_drew1) | exact HB.out)) hb); clear HB; have HB := n0_; clear n0_; (try clear hb); (try clear hb2); (try clear hk); (try clear hi)))
  (try simp only [Act.put, List.setIfInBounds_toArray, List.set_cons_zero, List.set_cons_succ])
  go_cut [43] (fun v43 wc => ∃ (kq : Nat) (x43_4 : Bool), v43 = .bool x43_4 ∧ Aside0 (tollhouselaw19_SlotsNext.j0 kq a1 a2 (Int.tmod (wrap64 (a0)) 4) t121 x43_4 = some r) ∧ Aside0 (kq ≤ k) ∧ Aside0 (Below w.heap.size w wc))
  case first =>
    have H := HC5.out
    clear HC5
    by_cases c7 : t122 = 0
    · rw [if_pos c7] at H
      have c7b0 : (t122 == 0) = true := beq_iff_eq.mpr c7
      have c7b1 : (t122 != 0) = false := bne_eq_false_iff_eq.mpr c7
      clear c7
      (first | rw [c7b0] | (simp only [i64_w, i32_w]; rw [c7b0]) | skip)
      replace H := Option.bind_eq_some_iff.mp H
      obtain ⟨t123, A80, H⟩ := H
      replace H : (if t123 = (Int.tmod (wrap64 (a0)) 4) then (if ((t121 - a2) % 4294967296) < 1 then (tollhouselaw19_SlotsNext.j0 k a1 a2 (Int.tmod (wrap64 (a0)) 4) t121 true) else (tollhouselaw19_SlotsNext.j0 k a1 a2 (Int.tmod (wrap64 (a0)) 4) t121 (decide (((t121 - a2) % 4294967296) > 4)))) else (tollhouselaw19_SlotsNext.j0 k a1 a2 (Int.tmod (wrap64 (a0)) 4) t121 true)) = some r := H
      have A8 := Aside0.mk A80
      clear A80
      by_cases c9 : t123 = (Int.tmod (wrap64 (a0)) 4)
      · rw [if_pos c9] at H
        have c9b0 : (t123 == (Int.tmod (wrap64 (a0)) 4)) = true := beq_iff_eq.mpr c9
        have c9b1 : (t123 != (Int.tmod (wrap64 (a0)) 4)) = false := bne_eq_false_iff_eq.mpr c9
        clear c9
        by_cases c10 : ((t121 - a2) % 4294967296) < 1
        · rw [if_pos c10] at H
          have c10b0 : decide (((t121 - a2) % 4294967296) < 1) = true := decide_eq_true c10
          clear c10
          have H' := Aside0.mk H
          clear H
          go_wp2_with (first | (go_at_call 23; (with_reducible refine (slots_Owner.calls t121 t123 _ A8.out).mono ?_); rintro e w' ⟨rfl, ⟨nd, rfl⟩⟩))
          go_meet
          case rel => exact ⟨_, (true), (by first | rfl | (simp; done) | (simp [*]; done)), H', ⟨by first | omega | exact Nat.le_refl _⟩, ⟨by repeat (first | (with_reducible first | exact HB.out | apply below_alloc | apply pw_below_drewN | apply below_drew1) | exact HB.out)⟩⟩
        · rw [if_neg c10] at H
          have c10b0 : decide (((t121 - a2) % 4294967296) < 1) = false := decide_eq_false c10
          clear c10
          have H' := Aside0.mk H
          clear H
          go_wp2_with (first | (go_at_call 23; (with_reducible refine (slots_Owner.calls t121 t123 _ A8.out).mono ?_); rintro e w' ⟨rfl, ⟨nd, rfl⟩⟩))
          go_meet
          case rel => exact ⟨_, (decide (((t121 - a2) % 4294967296) > 4)), (by first | rfl | (simp; done) | (simp [*]; done)), H', ⟨by first | omega | exact Nat.le_refl _⟩, ⟨by repeat (first | (with_reducible first | exact HB.out | apply below_alloc | apply pw_below_drewN | apply below_drew1) | exact HB.out)⟩⟩
      · rw [if_neg c9] at H
        have c9b0 : (t123 == (Int.tmod (wrap64 (a0)) 4)) = false := beq_eq_false_iff_ne.mpr c9
        have c9b1 : (t123 != (Int.tmod (wrap64 (a0)) 4)) = true := bne_iff_ne.mpr c9
        have H' := Aside0.mk H
        clear H
        go_wp2_with (first | (go_at_call 23; (with_reducible refine (slots_Owner.calls t121 t123 _ A8.out).mono ?_); rintro e w' ⟨rfl, ⟨nd, rfl⟩⟩))
        go_meet
        case rel => exact ⟨_, (true), (by first | rfl | (simp; done) | (simp [*]; done)), H', ⟨by first | omega | exact Nat.le_refl _⟩, ⟨by repeat (first | (with_reducible first | exact HB.out | apply below_alloc | apply pw_below_drewN | apply below_drew1) | exact HB.out)⟩⟩
    · rw [if_neg c7] at H
      have c7b0 : (t122 == 0) = false := beq_eq_false_iff_ne.mpr c7
      have c7b1 : (t122 != 0) = true := bne_iff_ne.mpr c7
      (first | rw [c7b0] | (simp only [i64_w, i32_w]; rw [c7b0]) | skip)
      have H' := Aside0.mk H
      clear H
      go_wp2
      go_meet
      case rel => exact ⟨_, (true), (by first | rfl | (simp; done) | (simp [*]; done)), H', ⟨by first | omega | exact Nat.le_refl _⟩, ⟨by repeat (first | (with_reducible first | exact HB.out | apply below_alloc | apply pw_below_drewN | apply below_drew1) | exact HB.out)⟩⟩
  case rest =>
    clear HC5
    try clear c1
    try clear c2
    try clear p2
    try clear p6
    try clear c7
    try clear c7b0
    try clear c7b1
    try clear c8
    try clear c9
    try clear c9b0
    try clear c9b1
    try clear c10
    try clear c10b0
    obtain ⟨kq, x43_4, rfl, HA, HJ4, HB⟩ := hcut
    cases kq with
    | zero => exact absurd HA.out (by simp [tollhouselaw19_SlotsNext.j0])
    | succ kj4 =>
      have H := HA.out
      clear HA
      simp only [tollhouselaw19_SlotsNext.j0] at H
      by_cases c11 : x43_4 = true
      · subst c11
        have H1 : (some false) = some r := by rw [if_pos rfl] at H; exact H
        clear H
        have H := H1
        clear H1
        obtain rfl := Option.some.inj H
        go_wp2
        go_ret
        exact ⟨by first | rfl | (simp [errW_none, errW_some] <;> rfl) | (simp [*, errW_none, errW_some] <;> rfl), by repeat (first | (with_reducible first | exact HB.out | apply below_alloc | apply pw_below_drewN | apply below_drew1) | exact HB.out)⟩
      · replace c11 := Bool.eq_false_iff.mpr c11
        subst c11
        have H1 : (tollhouselaw19_SlotsNext.l0 kj4 a1 a2 (Int.tmod (wrap64 (a0)) 4) t121 1) = some r := by rw [if_neg (show ¬ (false = true) by decide)] at H; exact H
        clear H
        have H := H1
        clear H1
        have H' := Aside0.mk H
        clear H
        go_wp2
        go_loopg [10] kj4 (fun kq v10 w' => ∃ (x10_2 : Int), v10 = .int .u32 x10_2 ∧ Aside0 (tollhouselaw19_SlotsNext.l0 kq a1 a2 (Int.tmod (wrap64 (a0)) 4) t121 x10_2 = some r) ∧ Aside0 (kq ≤ kj4) ∧ Aside0 (Below w.heap.size w w'))
        case atStart => exact ⟨(1), (by first | rfl | (simp; done) | (simp [*]; done)), H', ⟨Nat.le_refl _⟩, ⟨by repeat (first | (with_reducible first | exact HB.out | apply below_alloc | apply pw_below_drewN | apply below_drew1) | exact HB.out)⟩⟩
        case round =>
          clear H'
          try clear c1
          try clear c2
          try clear p2
          try clear p6
          try clear c7
          try clear c7b0
          try clear c7b1
          try clear c8
          try clear c9
          try clear c9b0
          try clear c9b1
          try clear c10
          try clear c10b0
          try clear c11
          try clear p2
          try clear p6
          obtain ⟨x10_2, rfl, HA, HK2, HB⟩ := hrel
          cases gk with
          | zero => exact absurd HA.out (by simp [tollhouselaw19_SlotsNext.l0])
          | succ k2 =>
            have H := HA.out
            clear HA
            simp only [tollhouselaw19_SlotsNext.l0] at H
            by_cases c12 : x10_2 < ((t121 - a2) % 4294967296)
            · rw [if_pos c12] at H
              have c12b0 : decide (x10_2 < ((t121 - a2) % 4294967296)) = true := decide_eq_true c12
              clear c12
              replace H := Option.bind_eq_some_iff.mp H
              obtain ⟨t124, A130, H⟩ := H
              replace H : (if t124 = (Int.tmod (wrap64 (a0)) 4) then (some false) else (tollhouselaw19_SlotsNext.l0 k2 a1 a2 (Int.tmod (wrap64 (a0)) 4) t121 ((x10_2 + 1) % 4294967296))) = some r := H
              have A13 := Aside0.mk A130
              clear A130
              by_cases c14 : t124 = (Int.tmod (wrap64 (a0)) 4)
              · rw [if_pos c14] at H
                have c14b0 : (t124 == (Int.tmod (wrap64 (a0)) 4)) = true := beq_iff_eq.mpr c14
                have c14b1 : (t124 != (Int.tmod (wrap64 (a0)) 4)) = false := bne_eq_false_iff_eq.mpr c14
                clear c14
                obtain rfl := Option.some.inj H
                go_wp2_with (first | ((with_reducible refine gate_callee (f := 23) rfl ?_); refine goesL_ (some 54) rfl rfl Try.func23 (by kernel_rfl) rfl #[.int .u32 ((a2 + x10_2) % 4294967296)] rfl (by (try simp only [List.map_toArray, List.map_cons, List.map_nil]); first | done | rfl | (simp only [List.length_drop, List.length_take]; rfl)) ?_; (with_reducible refine (slots_Owner.calls ((a2 + x10_2) % 4294967296) t124 _ A13.out).mono ?_); rintro e w' ⟨rfl, ⟨nd, rfl⟩⟩; refine ⟨_, rfl, ?_⟩))
                go_ret
                exact ⟨by first | rfl | (simp [errW_none, errW_some] <;> rfl) | (simp [*, errW_none, errW_some] <;> rfl), by repeat (first | (with_reducible first | exact HB.out | apply below_alloc | apply pw_below_drewN | apply below_drew1) | exact HB.out)⟩
              · rw [if_neg c14] at H
                have c14b0 : (t124 == (Int.tmod (wrap64 (a0)) 4)) = false := beq_eq_false_iff_ne.mpr c14
                have c14b1 : (t124 != (Int.tmod (wrap64 (a0)) 4)) = true := bne_iff_ne.mpr c14
                have H' := Aside0.mk H
                clear H
                go_wp2_with (first | ((with_reducible refine gate_callee (f := 23) rfl ?_); refine goesL_ (some 54) rfl rfl Try.func23 (by kernel_rfl) rfl #[.int .u32 ((a2 + x10_2) % 4294967296)] rfl (by (try simp only [List.map_toArray, List.map_cons, List.map_nil]); first | done | rfl | (simp only [List.length_drop, List.length_take]; rfl)) ?_; (with_reducible refine (slots_Owner.calls ((a2 + x10_2) % 4294967296) t124 _ A13.out).mono ?_); rintro e w' ⟨rfl, ⟨nd, rfl⟩⟩; refine ⟨_, rfl, ?_⟩))
                go_roundg k2
                case measure => have := HJ4.out; have := HK2.out; omega
                case rel => exact ⟨((x10_2 + 1) % 4294967296), (by first | rfl | (simp; done) | (simp [*]; done)), H', ⟨by have := HJ4.out; have := HK2.out; omega⟩, ⟨by repeat (first | (with_reducible first | exact HB.out | apply below_alloc | apply pw_below_drewN | apply below_drew1) | exact HB.out)⟩⟩
            · rw [if_neg c12] at H
              have c12b0 : decide (x10_2 < ((t121 - a2) % 4294967296)) = false := decide_eq_false c12
              clear c12
              have H' := Aside0.mk H
              clear H
              go_wp2
              go_loopg [11, 12] k2 (fun kq v11 v12 w' => ∃ (x11_3 : Int) (x12_3 : Int), v11 = .int .u32 x11_3 ∧ v12 = .int .i64 x12_3 ∧ Aside0 (tollhouselaw19_SlotsNext.l1 kq a1 (Int.tmod (wrap64 (a0)) 4) t121 x11_3 x12_3 = some r) ∧ Aside0 (kq ≤ k2) ∧ Aside0 (Below w.heap.size w w'))
              case atStart => exact ⟨(t121), (0), (by first | rfl | (simp; done) | (simp [*]; done)), (by first | rfl | (simp; done) | (simp [*]; done)), H', ⟨Nat.le_refl _⟩, ⟨by repeat (first | (with_reducible first | exact HB.out | apply below_alloc | apply pw_below_drewN | apply below_drew1) | exact HB.out)⟩⟩
              case round =>
                clear H'
                try clear c1
                try clear c2
                try clear p2
                try clear p6
                try clear c7
                try clear c7b0
                try clear c7b1
                try clear c8
                try clear c9
                try clear c9b0
                try clear c9b1
                try clear c10
                try clear c10b0
                try clear c11
                try clear c12
                try clear c12b0
                try clear c14
                try clear c14b0
                try clear c14b1
                try clear p2
                try clear p6
                obtain ⟨x11_3, x12_3, rfl, rfl, HA, HK3, HB⟩ := hrel
                cases gk with
                | zero => exact absurd HA.out (by simp [tollhouselaw19_SlotsNext.l1])
                | succ k3 =>
                  have H := HA.out
                  clear HA
                  simp only [tollhouselaw19_SlotsNext.l1] at H
                  by_cases c15 : x12_3 < (wrap64 (a1))
                  · rw [if_pos c15] at H
                    have c15b0 : decide (x12_3 < (wrap64 (a1))) = true := decide_eq_true c15
                    clear c15
                    replace H := Option.bind_eq_some_iff.mp H
                    obtain ⟨⟨t125, t126⟩, A160, H⟩ := H
                    replace H : (if t126 = 0 then (if t125 = ((x11_3 + 4) % 4294967296) then (tollhouselaw19_SlotsNext.l1 k3 a1 (Int.tmod (wrap64 (a0)) 4) t121 t125 (wrap64 (x12_3 + 1))) else (some false)) else (some false)) = some r := H
                    have A16 := Aside0.mk A160
                    clear A160
                    by_cases c17 : t126 = 0
                    · rw [if_pos c17] at H
                      have c17b0 : (t126 == 0) = true := beq_iff_eq.mpr c17
                      have c17b1 : (t126 != 0) = false := bne_eq_false_iff_eq.mpr c17
                      clear c17
                      by_cases c18 : t125 = ((x11_3 + 4) % 4294967296)
                      · rw [if_pos c18] at H
                        have c18b0 : (t125 == ((x11_3 + 4) % 4294967296)) = true := beq_iff_eq.mpr c18
                        have c18b1 : (t125 != ((x11_3 + 4) % 4294967296)) = false := bne_eq_false_iff_eq.mpr c18
                        clear c18
                        have H' := Aside0.mk H
                        clear H
                        go_wp2_with (first | ((with_reducible refine gate_callee (f := 21) rfl ?_); refine goesL_ (some 67) rfl rfl Try.func21 (by kernel_rfl) rfl #[.int .i64 (Int.tmod (wrap64 (a0)) 4), .int .u32 x11_3] rfl (by (try simp only [List.map_toArray, List.map_cons, List.map_nil]); first | done | rfl | (simp only [List.length_drop, List.length_take]; rfl)) ?_; (with_reducible refine (slots_Next.calls k3 (Int.tmod (wrap64 (a0)) 4) x11_3 t125 t126 _ A16.out).mono ?_); rintro e w19 ⟨rfl, hb⟩; refine ⟨_, rfl, ?_⟩; have n0_ := Aside0.mk (below_step (by repeat (first | (with_reducible first | exact HB.out | apply below_alloc | apply pw_below_drewN | apply below_drew1) | exact HB.out)) hb); clear HB; have HB := n0_; clear n0_; (try clear hb); (try clear hb2); (try clear hk); (try clear hi)))
                        go_roundg k3
                        case measure => have := HJ4.out; have := HK2.out; have := HK3.out; omega
                        case rel => exact ⟨(t125), (wrap64 (x12_3 + 1)), (by first | rfl | (simp; done) | (simp [*]; done)), (by first | rfl | (simp; done) | (simp [*]; done)), H', ⟨by have := HJ4.out; have := HK2.out; have := HK3.out; omega⟩, ⟨by repeat (first | (with_reducible first | exact HB.out | apply below_alloc | apply pw_below_drewN | apply below_drew1) | exact HB.out)⟩⟩
                      · rw [if_neg c18] at H
                        have c18b0 : (t125 == ((x11_3 + 4) % 4294967296)) = false := beq_eq_false_iff_ne.mpr c18
                        have c18b1 : (t125 != ((x11_3 + 4) % 4294967296)) = true := bne_iff_ne.mpr c18
                        obtain rfl := Option.some.inj H
                        go_wp2_with (first | ((with_reducible refine gate_callee (f := 21) rfl ?_); refine goesL_ (some 67) rfl rfl Try.func21 (by kernel_rfl) rfl #[.int .i64 (Int.tmod (wrap64 (a0)) 4), .int .u32 x11_3] rfl (by (try simp only [List.map_toArray, List.map_cons, List.map_nil]); first | done | rfl | (simp only [List.length_drop, List.length_take]; rfl)) ?_; (with_reducible refine (slots_Next.calls k3 (Int.tmod (wrap64 (a0)) 4) x11_3 t125 t126 _ A16.out).mono ?_); rintro e w20 ⟨rfl, hb⟩; refine ⟨_, rfl, ?_⟩; have n0_ := Aside0.mk (below_step (by repeat (first | (with_reducible first | exact HB.out | apply below_alloc | apply pw_below_drewN | apply below_drew1) | exact HB.out)) hb); clear HB; have HB := n0_; clear n0_; (try clear hb); (try clear hb2); (try clear hk); (try clear hi)))
                        go_ret
                        exact ⟨by first | rfl | (simp [errW_none, errW_some] <;> rfl) | (simp [*, errW_none, errW_some] <;> rfl), by repeat (first | (with_reducible first | exact HB.out | apply below_alloc | apply pw_below_drewN | apply below_drew1) | exact HB.out)⟩
                    · rw [if_neg c17] at H
                      have c17b0 : (t126 == 0) = false := beq_eq_false_iff_ne.mpr c17
                      have c17b1 : (t126 != 0) = true := bne_iff_ne.mpr c17
                      obtain rfl := Option.some.inj H
                      go_wp2_with (first | ((with_reducible refine gate_callee (f := 21) rfl ?_); refine goesL_ (some 67) rfl rfl Try.func21 (by kernel_rfl) rfl #[.int .i64 (Int.tmod (wrap64 (a0)) 4), .int .u32 x11_3] rfl (by (try simp only [List.map_toArray, List.map_cons, List.map_nil]); first | done | rfl | (simp only [List.length_drop, List.length_take]; rfl)) ?_; (with_reducible refine (slots_Next.calls k3 (Int.tmod (wrap64 (a0)) 4) x11_3 t125 t126 _ A16.out).mono ?_); rintro e w21 ⟨rfl, hb⟩; refine ⟨_, rfl, ?_⟩; have n0_ := Aside0.mk (below_step (by repeat (first | (with_reducible first | exact HB.out | apply below_alloc | apply pw_below_drewN | apply below_drew1) | exact HB.out)) hb); clear HB; have HB := n0_; clear n0_; (try clear hb); (try clear hb2); (try clear hk); (try clear hi)))
                      go_ret
                      exact ⟨by first | rfl | (simp [errW_none, errW_some] <;> rfl) | (simp [*, errW_none, errW_some] <;> rfl), by repeat (first | (with_reducible first | exact HB.out | apply below_alloc | apply pw_below_drewN | apply below_drew1) | exact HB.out)⟩
                  · rw [if_neg c15] at H
                    have c15b0 : decide (x12_3 < (wrap64 (a1))) = false := decide_eq_false c15
                    clear c15
                    by_cases c22 : ((x11_3 - t121) % 4294967296) = ((4 * ((a1) % 4294967296)) % 4294967296)
                    · rw [if_pos c22] at H
                      have c22b0 : (((x11_3 - t121) % 4294967296) == ((4 * ((a1) % 4294967296)) % 4294967296)) = true := beq_iff_eq.mpr c22
                      have c22b1 : (((x11_3 - t121) % 4294967296) != ((4 * ((a1) % 4294967296)) % 4294967296)) = false := bne_eq_false_iff_eq.mpr c22
                      clear c22
                      replace H := Option.bind_eq_some_iff.mp H
                      obtain ⟨t127, A230, H⟩ := H
                      replace H : (some t127) = some r := H
                      have A23 := Aside0.mk A230
                      clear A230
                      obtain rfl := Option.some.inj H
                      go_wp2_with (first | (go_at_call 29; (with_reducible refine (tollhouselaw19_wakes.calls k3  t127 _ A23.out).mono ?_); rintro e w24 ⟨rfl, hb⟩; have n0_ := Aside0.mk (below_step (by repeat (first | (with_reducible first | exact HB.out | apply below_alloc | apply pw_below_drewN | apply below_drew1) | exact HB.out)) hb); clear HB; have HB := n0_; clear n0_; (try clear hb); (try clear hb2); (try clear hk); (try clear hi)))
                      go_ret
                      exact ⟨by first | rfl | (simp [errW_none, errW_some] <;> rfl) | (simp [*, errW_none, errW_some] <;> rfl), by repeat (first | (with_reducible first | exact HB.out | apply below_alloc | apply pw_below_drewN | apply below_drew1) | exact HB.out)⟩
                    · rw [if_neg c22] at H
                      have c22b0 : (((x11_3 - t121) % 4294967296) == ((4 * ((a1) % 4294967296)) % 4294967296)) = false := beq_eq_false_iff_ne.mpr c22
                      have c22b1 : (((x11_3 - t121) % 4294967296) != ((4 * ((a1) % 4294967296)) % 4294967296)) = true := bne_iff_ne.mpr c22
                      obtain rfl := Option.some.inj H
                      go_wp2
                      go_ret
                      exact ⟨by first | rfl | (simp [errW_none, errW_some] <;> rfl) | (simp [*, errW_none, errW_some] <;> rfl), by repeat (first | (with_reducible first | exact HB.out | apply below_alloc | apply pw_below_drewN | apply below_drew1) | exact HB.out)⟩

/-- THE ONE PURE STATEMENT of tollhouselaw19_SlotsNext: yours. -/
def tollhouselaw19_SlotsNext.Pure : Prop := ∀ (a0 : Int) (a1 : Int) (a2 : Int), (Lit.int .u8 a0).wf = true → (Lit.int .u8 a1).wf = true → (Lit.int .u32 a2).wf = true → ∃ k, tollhouselaw19_SlotsNext.f k a0 a1 a2 = some true
theorem tollhouselaw19_SlotsNext.walk (P : tollhouselaw19_SlotsNext.Pure) (a0 : Int) (a1 : Int) (a2 : Int) (w : World) (w0 : (Lit.int .u8 a0).wf = true) (w1 : (Lit.int .u8 a1).wf = true) (w2 : (Lit.int .u32 a2).wf = true) :
    Calls Try.prog 8 #[.int .u8 a0, .int .u8 a1, .int .u32 a2] w fun e w' => e = .returned (.bool true) ∧ Below w.heap.size w w' := by
  obtain ⟨k, h⟩ := P a0 a1 a2 w0 w1 w2
  refine (tollhouselaw19_SlotsNext.calls k a0 a1 a2 true w h).mono ?_
  rintro e w' ⟨rfl, hd⟩
  exact ⟨rfl, hd⟩

end Go.Proofs.Ytipiooolplgjjaa.PSlotsNext

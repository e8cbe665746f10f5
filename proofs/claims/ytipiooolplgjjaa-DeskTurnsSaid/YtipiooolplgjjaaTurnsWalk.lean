/- The walk of one law, for all inputs. -/
import Derived.Test.YtipiooolplgjjaaDeskRef
import Derived.Test.YtipiooolplgjjaaTellsWalk
namespace Go.Proofs.Ytipiooolplgjjaa.TurnsWalk
open Go.RowKit Go.Proofs.Ytipiooolplgjjaa.PDeskTurns Go.Proofs.YtipiooolplgjjaaW.PrintWords Go.Proofs.YtipiooolplgjjaaW.PrintLast Go.Proofs.YtipiooolplgjjaaW.PrintMore Go.Proofs.Ytipiooolplgjjaa.Grow Go.Proofs.Ytipiooolplgjjaa.DeskRef Go.Proofs.Ytipiooolplgjjaa.TellsWalk
set_option linter.unusedVariables false
set_option linter.unusedSimpArgs false

theorem store3 {w : World} {g : Nat} {t : TypeId} {a b c : Value} (h : w.heap[g]? = some (.cells #[a, b, c] t (0, 0))) (x y z : Value) :
    (((w.setCell ⟨g, 0, none⟩ x).setCell ⟨g, 1, none⟩ y).setCell ⟨g, 2, none⟩ z).heap[g]? = some (.cells #[x, y, z] t (0, 0)) ∧
    (∀ g', g' ≠ g → (((w.setCell ⟨g, 0, none⟩ x).setCell ⟨g, 1, none⟩ y).setCell ⟨g, 2, none⟩ z).heap[g']? = w.heap[g']?) ∧
    (∀ B w0, Below B w0 w → B ≤ g → Below B w0 (((w.setCell ⟨g, 0, none⟩ x).setCell ⟨g, 1, none⟩ y).setCell ⟨g, 2, none⟩ z)) := by
  refine ⟨?_, ?_, ?_⟩
  · exact blk_put (cs := #[x, y, c]) (blk_put (cs := #[x, b, c]) (blk_put (cs := #[a, b, c]) h 0 _ rfl) 1 _ rfl) 2 _ rfl
  · intro g' hg
    rw [Below.heap_setCell _ ⟨g, 2, none⟩ _ _ hg, Below.heap_setCell _ ⟨g, 1, none⟩ _ _ hg, Below.heap_setCell _ ⟨g, 0, none⟩ _ _ hg]
  · intro B w0 hb hg
    exact ((hb.setCell hg _).setCell hg _).setCell hg _

theorem u32_wrap (n : Int) : IntKind.u32.wrap n = n % 4294967296 := by simp [IntKind.wrap, IntKind.bits, IntKind.signed]
/-- An element of the list, cell by cell. -/
structure El where
  n : Int
  u : Bool
  f : Bool
  a : Int
  b : Int
  c : Int
  d : Int
  l : Int
def El.cells (x : El) : List Value := [.int .i64 x.n, .bool x.u, .bool x.f, .int .u32 x.a, .int .u32 x.b, .int .u32 x.c, .int .u16 x.d, .int .u16 x.l]

set_option maxHeartbeats 2000000 in
set_option maxRecDepth 100000 in
theorem turns_some (ba oa len cap : Nat) (E : Nat → El) (w : World) (hlen : len ≤ 100) (hcap : len ≤ cap)
    (hE : ∀ i, i < len → ∀ j, j < 8 → w.cell? ⟨ba, oa + i * 8 + j, none⟩ = (E i).cells[j]?) :
    Calls Try.prog 4 #[.slice (some ⟨ba, oa, none⟩) len cap] w fun r w' => r = .returned (.bool true) ∧ Below w.heap.size w w' := by
  have hu24 := Try.underlying24
  have hu27 := Try.underlying27
  have hu29 := Try.underlying29
  have HE := Aside0.mk hE
  clear hE
  go_enter Try.func4, Try.ntmps4
  go_wp2_with fail
  (with_reducible refine (desk_New.calls _ _ _ _ rfl).mono ?_)
  rintro r w1 ⟨rfl, hb1⟩
  go_wp2_with fail
  have BL := Aside0.mk (below_alloc hb1 (.cells #[.int .i64 0, .int .u32 1, .bool true] 24 (0, 0)))
  have B3 := Aside0.mk (blk_new w1 (.cells #[.int .i64 0, .int .u32 1, .bool true] 24 (0, 0)))
  have G3 := Aside0.mk hb1.size
  clear hb1
  generalize w1.alloc (.cells #[.int .i64 0, .int .u32 1, .bool true] 24 (0, 0)) = w2 at *
  generalize w1.heap.size = b3 at *
  clear w1
  go_loopw [4] (fun v wr => ∃ (i : Nat) (p e : Int) (s : Bool), i ≤ len ∧ v = .int .i64 i ∧ Aside0 (p = 0 ∨ p = 1) ∧ Aside0 (0 ≤ e ∧ e < 4294967296) ∧ Aside0 (wr.heap[b3]? = some (.cells #[.int .i64 p, .int .u32 e, .bool s] 24 (0, 0))) ∧ Aside0 (Below w.heap.size w wr)) (fun v _ => len - (intOf v).toNat)
  case atStart => exact ⟨0, 0, 1, true, Nat.zero_le _, rfl, ⟨.inl rfl⟩, ⟨by omega, by omega⟩, B3, BL⟩
  case round =>
    clear BL B3
    obtain ⟨i, p, e, s, hi, rfl, HP, HR, B3, BL⟩ := hrel
    by_cases hlt : i < len
    · obtain ⟨n, u, f, a, b, c, d, l, hx⟩ : ∃ n u f a b c d l, E i = ⟨n, u, f, a, b, c, d, l⟩ := ⟨_, _, _, _, _, _, _, _, rfl⟩
      have hb0 := HE.out i hlt
      rw [hx] at hb0
      have e0 : wr.cell? ⟨ba, oa + i * 8, none⟩ = some (.int .i64 n) := pw_cell_below BL.out ((hb0 0 (by omega)).trans rfl)
      have e1 : wr.cell? ⟨ba, oa + i * 8 + 1, none⟩ = some (.bool u) := pw_cell_below BL.out ((hb0 1 (by omega)).trans rfl)
      have e2 : wr.cell? ⟨ba, oa + i * 8 + 2, none⟩ = some (.bool f) := pw_cell_below BL.out ((hb0 2 (by omega)).trans rfl)
      have e3 : wr.cell? ⟨ba, oa + i * 8 + 3, none⟩ = some (.int .u32 a) := pw_cell_below BL.out ((hb0 3 (by omega)).trans rfl)
      have e4 : wr.cell? ⟨ba, oa + i * 8 + 4, none⟩ = some (.int .u32 b) := pw_cell_below BL.out ((hb0 4 (by omega)).trans rfl)
      have e5 : wr.cell? ⟨ba, oa + i * 8 + 5, none⟩ = some (.int .u32 c) := pw_cell_below BL.out ((hb0 5 (by omega)).trans rfl)
      have e6 : wr.cell? ⟨ba, oa + i * 8 + 6, none⟩ = some (.int .u16 d) := pw_cell_below BL.out ((hb0 6 (by omega)).trans rfl)
      have e7 : wr.cell? ⟨ba, oa + i * 8 + 7, none⟩ = some (.int .u16 l) := pw_cell_below BL.out ((hb0 7 (by omega)).trans rfl)
      clear hb0 hx
      have c0 : (wr.alloc (.cells #[.int .i64 n, .bool u, .bool f, .int .u32 a, .int .u32 b, .int .u32 c, .int .u16 d, .int .u16 l] 29 (0, 0))).cell? ⟨b3, 0, none⟩ = some (.int .i64 p) := (blk_cell (blk_alloc B3.out _) 0).trans rfl
      have c1 : (wr.alloc (.cells #[.int .i64 n, .bool u, .bool f, .int .u32 a, .int .u32 b, .int .u32 c, .int .u16 d, .int .u16 l] 29 (0, 0))).cell? ⟨b3, 1, none⟩ = some (.int .u32 e) := (blk_cell (blk_alloc B3.out _) 1).trans rfl
      have c2 : (wr.alloc (.cells #[.int .i64 n, .bool u, .bool f, .int .u32 a, .int .u32 b, .int .u32 c, .int .u16 d, .int .u16 l] 29 (0, 0))).cell? ⟨b3, 2, none⟩ = some (.bool s) := (blk_cell (blk_alloc B3.out _) 2).trans rfl
      go_wp2_with fail
      have N3 := Aside0.mk (blk_alloc B3.out (.cells #[.int .i64 n, .bool u, .bool f, .int .u32 a, .int .u32 b, .int .u32 c, .int .u16 d, .int .u16 l] 29 (0, 0)))
      have N5 := Aside0.mk (blk_new wr (.cells #[.int .i64 n, .bool u, .bool f, .int .u32 a, .int .u32 b, .int .u32 c, .int .u16 d, .int .u16 l] 29 (0, 0)))
      have NL := Aside0.mk (below_alloc BL.out (.cells #[.int .i64 n, .bool u, .bool f, .int .u32 a, .int .u32 b, .int .u32 c, .int .u16 d, .int .u16 l] 29 (0, 0)))
      have n35 : Aside0 (b3 ≠ wr.heap.size) := ⟨Nat.ne_of_lt (blk_lt B3.out)⟩
      clear e0 e1 e2 e3 e4 e5 e6 e7 c0 c1 c2 B3 BL
      generalize wr.alloc (.cells #[.int .i64 n, .bool u, .bool f, .int .u32 a, .int .u32 b, .int .u32 c, .int .u16 d, .int .u16 l] 29 (0, 0)) = w3 at *
      generalize wr.heap.size = b5 at *
      clear wr
      by_cases hn : n = oth p
      · have hq0 : oth p = 0 ∨ oth p = 1 := by unfold oth; split <;> simp
        have hq1 : oth (oth p) = p := by rcases HP.out with h | h <;> subst h <;> decide
        have hq2 : oth p ≠ p := by rcases HP.out with h | h <;> subst h <;> decide
        have ho1 : Aside0 (∀ e s, desk_Desk_Other.f p e s = some (oth p)) := ⟨fun e s => other_f p e s⟩
        have ho2 : Aside0 (∀ e s, desk_Desk_Other.f (oth p) e s = some p) := ⟨fun e s => by rw [other_f, hq1]⟩
        subst hn
        have HQ := Aside0.mk hq0
        have hm : Aside0 (∀ s u f, mayv p s (oth p) u f = if u = false then 20 else if s = false ∧ f = false then 22 else 0) := ⟨fun s u f => by
          unfold mayv; rw [if_neg (by omega)]⟩
        clear hq0 hq1 hq2
        generalize oth p = q at *
        cases u
        · have hmay : Aside0 (desk_Desk_May.f 1 p e s q false f = some 20) := ⟨by rw [may_f, hm.out]; rfl⟩
          have ho1 : Aside0 (desk_Desk_Other.f p e s = some q) := ⟨ho1.out e s⟩
          (with_reducible refine (desk_Desk_May.calls 1 p e s q false f _ _ hmay.out).mono ?_)
          rintro r w4 ⟨rfl, hb4⟩
          have E4 : Aside0 (Ext w3 w4) := ⟨hb4⟩
          clear hb4
          go_wp2_with fail
          have F : Aside0 (∀ w', Ext w4 w' → w'.cell? ⟨b3, 0, none⟩ = some (.int .i64 p) ∧ w'.cell? ⟨b3, 1, none⟩ = some (.int .u32 e) ∧ w'.cell? ⟨b3, 2, none⟩ = some (.bool s) ∧ w'.cell? ⟨b5, 0, none⟩ = some (.int .i64 q) ∧ w'.cell? ⟨b5, 1, none⟩ = some (.bool false) ∧ w'.cell? ⟨b5, 2, none⟩ = some (.bool f)) := ⟨fun w' hw' => ⟨(blk_cell (hw'.blk (E4.out.blk N3.out)) 0).trans rfl, (blk_cell (hw'.blk (E4.out.blk N3.out)) 1).trans rfl, (blk_cell (hw'.blk (E4.out.blk N3.out)) 2).trans rfl, (blk_cell (hw'.blk (E4.out.blk N5.out)) 0).trans rfl, (blk_cell (hw'.blk (E4.out.blk N5.out)) 1).trans rfl, (blk_cell (hw'.blk (E4.out.blk N5.out)) 2).trans rfl⟩⟩
          refine wp_region_ext rfl (by kernel_rfl) ?_
          repeat (first
            | (refine wpQuiet_step (fun K hK => ?_); go_simp; (first | (refine hK _ ?_) | (refine ⟨_, fun _ _ => rfl, hK _ ?_⟩)); clear hK K)
            | (refine wpQuiet_step (fun K hK => ?_); refine q_val (v := ?_) ?_ ?_ ?_; rotate_left; (rfl); (intro w' hw'; obtain ⟨z0, z1, z2, z3, z4, z5⟩ := F.out w' hw'; go_simp; with_reducible rfl); go_simp; refine hK _ ?_; clear hK K)
            | (refine wpQuiet_step (fun K hK => ?_); refine q_call (f := 11) (v := .int .i64 q) Try.func11 rfl rfl #[.agg #[.int .i64 p, .int .u32 e, .bool s]] ?_ rfl ?_ ?_ ?_; (rfl); (first | (exact Array.map_empty) | (simp only [List.map_toArray, List.map_cons, List.map_nil]; rfl)); (exact fun w' hw' => (desk_Desk_Other.calls p e s _ w' (ho1.out)).mono (fun e w'' ⟨he, hd⟩ => ⟨he, hw'.step hd⟩)); go_simp; refine hK _ ?_; clear hK K))
          refine wpQuiet_nil ?_
          intro w5 Ew5
          clear F
          have N3' := Aside0.mk (Ew5.blk (E4.out.blk N3.out))
          have N5' := Aside0.mk (Ew5.blk (E4.out.blk N5.out))
          have NL' := Aside0.mk ((Ext.step (Ext.step NL.out E4.out.out) Ew5.out).out)
          clear N3 N5 NL E4 Ew5
          go_wp2_with fail
          go_roundw
          case measure => simp [intOf]; omega
          case rel => exact ⟨i + 1, p, e, s, by omega, by go_num, HP, HR, N3', NL'⟩
        · cases s
          · cases f
            · have hmay : Aside0 (desk_Desk_May.f 1 p e false q true false = some 22) := ⟨by rw [may_f, hm.out]; rfl⟩
              have ho1 : Aside0 (desk_Desk_Other.f p e false = some q) := ⟨ho1.out e false⟩
              (with_reducible refine (desk_Desk_May.calls 1 p e false q true false _ _ hmay.out).mono ?_)
              rintro r w4 ⟨rfl, hb4⟩
              have E4 : Aside0 (Ext w3 w4) := ⟨hb4⟩
              clear hb4
              go_wp2_with fail
              have F : Aside0 (∀ w', Ext w4 w' → w'.cell? ⟨b3, 0, none⟩ = some (.int .i64 p) ∧ w'.cell? ⟨b3, 1, none⟩ = some (.int .u32 e) ∧ w'.cell? ⟨b3, 2, none⟩ = some (.bool false) ∧ w'.cell? ⟨b5, 0, none⟩ = some (.int .i64 q) ∧ w'.cell? ⟨b5, 1, none⟩ = some (.bool true) ∧ w'.cell? ⟨b5, 2, none⟩ = some (.bool false)) := ⟨fun w' hw' => ⟨(blk_cell (hw'.blk (E4.out.blk N3.out)) 0).trans rfl, (blk_cell (hw'.blk (E4.out.blk N3.out)) 1).trans rfl, (blk_cell (hw'.blk (E4.out.blk N3.out)) 2).trans rfl, (blk_cell (hw'.blk (E4.out.blk N5.out)) 0).trans rfl, (blk_cell (hw'.blk (E4.out.blk N5.out)) 1).trans rfl, (blk_cell (hw'.blk (E4.out.blk N5.out)) 2).trans rfl⟩⟩
              refine wp_region_ext rfl (by kernel_rfl) ?_
              repeat (first
                | (refine wpQuiet_step (fun K hK => ?_); go_simp; (first | (refine hK _ ?_) | (refine ⟨_, fun _ _ => rfl, hK _ ?_⟩)); clear hK K)
                | (refine wpQuiet_step (fun K hK => ?_); refine q_val (v := ?_) ?_ ?_ ?_; rotate_left; (rfl); (intro w' hw'; obtain ⟨z0, z1, z2, z3, z4, z5⟩ := F.out w' hw'; go_simp; with_reducible rfl); go_simp; refine hK _ ?_; clear hK K)
                | (refine wpQuiet_step (fun K hK => ?_); refine q_call (f := 11) (v := .int .i64 q) Try.func11 rfl rfl #[.agg #[.int .i64 p, .int .u32 e, .bool false]] ?_ rfl ?_ ?_ ?_; (rfl); (first | (exact Array.map_empty) | (simp only [List.map_toArray, List.map_cons, List.map_nil]; rfl)); (exact fun w' hw' => (desk_Desk_Other.calls p e false _ w' (ho1.out)).mono (fun e w'' ⟨he, hd⟩ => ⟨he, hw'.step hd⟩)); go_simp; refine hK _ ?_; clear hK K))
              refine wpQuiet_nil ?_
              intro w5 Ew5
              clear F
              have N3' := Aside0.mk (Ew5.blk (E4.out.blk N3.out))
              have N5' := Aside0.mk (Ew5.blk (E4.out.blk N5.out))
              have NL' := Aside0.mk ((Ext.step (Ext.step NL.out E4.out.out) Ew5.out).out)
              clear N3 N5 NL E4 Ew5
              go_wp2_with fail
              go_roundw
              case measure => simp [intOf]; omega
              case rel => exact ⟨i + 1, p, e, false, by omega, by go_num, HP, HR, N3', NL'⟩
            · have hmay : Aside0 (desk_Desk_May.f 1 p e false q true true = some 0) := ⟨by rw [may_f, hm.out]; rfl⟩
              have ho1 : Aside0 (desk_Desk_Other.f p e false = some q) := ⟨ho1.out e false⟩
              have hfresh : Aside0 (desk_Fresh.f p e false a b c d l = some ((e + 1) % 4294967296, 0, 1, 4095, 0)) := ⟨fresh_f p e false a b c d l⟩
              (with_reducible refine (desk_Desk_May.calls 1 p e false q true true _ _ hmay.out).mono ?_)
              rintro r w4 ⟨rfl, hb4⟩
              have E4 : Aside0 (Ext w3 w4) := ⟨hb4⟩
              clear hb4
              go_wp2_with fail
              have F : Aside0 (∀ w', Ext w4 w' → w'.cell? ⟨b3, 0, none⟩ = some (.int .i64 p) ∧ w'.cell? ⟨b3, 1, none⟩ = some (.int .u32 e) ∧ w'.cell? ⟨b3, 2, none⟩ = some (.bool false) ∧ w'.cell? ⟨b5, 0, none⟩ = some (.int .i64 q) ∧ w'.cell? ⟨b5, 1, none⟩ = some (.bool true) ∧ w'.cell? ⟨b5, 2, none⟩ = some (.bool true)) := ⟨fun w' hw' => ⟨(blk_cell (hw'.blk (E4.out.blk N3.out)) 0).trans rfl, (blk_cell (hw'.blk (E4.out.blk N3.out)) 1).trans rfl, (blk_cell (hw'.blk (E4.out.blk N3.out)) 2).trans rfl, (blk_cell (hw'.blk (E4.out.blk N5.out)) 0).trans rfl, (blk_cell (hw'.blk (E4.out.blk N5.out)) 1).trans rfl, (blk_cell (hw'.blk (E4.out.blk N5.out)) 2).trans rfl⟩⟩
              refine wp_region_ext rfl (by kernel_rfl) ?_
              repeat (first
                | (refine wpQuiet_step (fun K hK => ?_); go_simp; (first | (refine hK _ ?_) | (refine ⟨_, fun _ _ => rfl, hK _ ?_⟩)); clear hK K)
                | (refine wpQuiet_step (fun K hK => ?_); refine q_val (v := ?_) ?_ ?_ ?_; rotate_left; (rfl); (intro w' hw'; obtain ⟨z0, z1, z2, z3, z4, z5⟩ := F.out w' hw'; go_simp; with_reducible rfl); go_simp; refine hK _ ?_; clear hK K)
                | (refine wpQuiet_step (fun K hK => ?_); refine q_call (f := 11) (v := .int .i64 q) Try.func11 rfl rfl #[.agg #[.int .i64 p, .int .u32 e, .bool false]] ?_ rfl ?_ ?_ ?_; (rfl); (first | (exact Array.map_empty) | (simp only [List.map_toArray, List.map_cons, List.map_nil]; rfl)); (exact fun w' hw' => (desk_Desk_Other.calls p e false _ w' (ho1.out)).mono (fun e w'' ⟨he, hd⟩ => ⟨he, hw'.step hd⟩)); go_simp; refine hK _ ?_; clear hK K))
              refine wpQuiet_nil ?_
              intro w5 Ew5
              clear F
              have N3' := Aside0.mk (Ew5.blk (E4.out.blk N3.out))
              have N5' := Aside0.mk (Ew5.blk (E4.out.blk N5.out))
              have NL' := Aside0.mk ((Ext.step (Ext.step NL.out E4.out.out) Ew5.out).out)
              clear N3 N5 NL E4 Ew5
              have c0 : w5.cell? ⟨b3, 0, none⟩ = some (.int .i64 p) := (blk_cell (N3'.out) 0).trans rfl
              have c1 : w5.cell? ⟨b3, 1, none⟩ = some (.int .u32 e) := (blk_cell (N3'.out) 1).trans rfl
              have c2 : w5.cell? ⟨b3, 2, none⟩ = some (.bool false) := (blk_cell (N3'.out) 2).trans rfl
              have x0 : w5.cell? ⟨b5, 0, none⟩ = some (.int .i64 q) := (blk_cell (N5'.out) 0).trans rfl
              have x1 : w5.cell? ⟨b5, 1, none⟩ = some (.bool true) := (blk_cell (N5'.out) 1).trans rfl
              have x2 : w5.cell? ⟨b5, 2, none⟩ = some (.bool true) := (blk_cell (N5'.out) 2).trans rfl
              have x3 : w5.cell? ⟨b5, 3, none⟩ = some (.int .u32 a) := (blk_cell (N5'.out) 3).trans rfl
              have x4 : w5.cell? ⟨b5, 4, none⟩ = some (.int .u32 b) := (blk_cell (N5'.out) 4).trans rfl
              have x5 : w5.cell? ⟨b5, 5, none⟩ = some (.int .u32 c) := (blk_cell (N5'.out) 5).trans rfl
              have x6 : w5.cell? ⟨b5, 6, none⟩ = some (.int .u16 d) := (blk_cell (N5'.out) 6).trans rfl
              have x7 : w5.cell? ⟨b5, 7, none⟩ = some (.int .u16 l) := (blk_cell (N5'.out) 7).trans rfl
              go_wp2_with fail
              (with_reducible refine (desk_Fresh.calls p e false a b c d l _ _ _ _ _ _ hfresh.out).mono ?_)
              rintro r w6 ⟨rfl, hb6⟩
              clear c0 c1 c2 x0 x1 x2 x3 x4 x5 x6 x7
              have K3 := Aside0.mk (blk_alloc (blk_alloc (blk_below N3'.out hb6) (.cells #[.int .u32 ((e + 1) % 4294967296), .int .u32 0, .int .u32 1, .int .u16 4095, .int .u16 0] 27 (0, 0))) (.cells #[.int .i64 p, .int .u32 e, .bool false] 24 (0, 0)))
              have K3a := Aside0.mk (blk_alloc (blk_below N3'.out hb6) (.cells #[.int .u32 ((e + 1) % 4294967296), .int .u32 0, .int .u32 1, .int .u16 4095, .int .u16 0] 27 (0, 0)))
              have K5 := Aside0.mk (blk_alloc (blk_alloc (blk_below N5'.out hb6) (.cells #[.int .u32 ((e + 1) % 4294967296), .int .u32 0, .int .u32 1, .int .u16 4095, .int .u16 0] 27 (0, 0))) (.cells #[.int .i64 p, .int .u32 e, .bool false] 24 (0, 0)))
              have K8 := Aside0.mk (blk_alloc (blk_new w6 (.cells #[.int .u32 ((e + 1) % 4294967296), .int .u32 0, .int .u32 1, .int .u16 4095, .int .u16 0] 27 (0, 0))) (.cells #[.int .i64 p, .int .u32 e, .bool false] 24 (0, 0)))
              have K9 := Aside0.mk (blk_new (w6.alloc (.cells #[.int .u32 ((e + 1) % 4294967296), .int .u32 0, .int .u32 1, .int .u16 4095, .int .u16 0] 27 (0, 0))) (.cells #[.int .i64 p, .int .u32 e, .bool false] 24 (0, 0)))
              rw [alloc_size w6] at K9
              have KL := Aside0.mk (below_alloc (below_alloc (below_step NL'.out hb6) (.cells #[.int .u32 ((e + 1) % 4294967296), .int .u32 0, .int .u32 1, .int .u16 4095, .int .u16 0] 27 (0, 0))) (.cells #[.int .i64 p, .int .u32 e, .bool false] 24 (0, 0)))
              have k38 : Aside0 (b3 ≠ w6.heap.size) := ⟨Nat.ne_of_lt (blk_lt (blk_below N3'.out hb6))⟩
              have k39 : Aside0 (b3 ≠ w6.heap.size + 1) := ⟨Nat.ne_of_lt (Nat.lt_succ_of_lt (blk_lt (blk_below N3'.out hb6)))⟩
              clear hb6 N3' N5' NL'
              have c0 : (w6.alloc (.cells #[.int .u32 ((e + 1) % 4294967296), .int .u32 0, .int .u32 1, .int .u16 4095, .int .u16 0] 27 (0, 0))).cell? ⟨b3, 0, none⟩ = some (.int .i64 p) := (blk_cell (K3a.out) 0).trans rfl
              have c1 : (w6.alloc (.cells #[.int .u32 ((e + 1) % 4294967296), .int .u32 0, .int .u32 1, .int .u16 4095, .int .u16 0] 27 (0, 0))).cell? ⟨b3, 1, none⟩ = some (.int .u32 e) := (blk_cell (K3a.out) 1).trans rfl
              have c2 : (w6.alloc (.cells #[.int .u32 ((e + 1) % 4294967296), .int .u32 0, .int .u32 1, .int .u16 4095, .int .u16 0] 27 (0, 0))).cell? ⟨b3, 2, none⟩ = some (.bool false) := (blk_cell (K3a.out) 2).trans rfl
              have cc0 : ((w6.alloc (.cells #[.int .u32 ((e + 1) % 4294967296), .int .u32 0, .int .u32 1, .int .u16 4095, .int .u16 0] 27 (0, 0))).alloc (.cells #[.int .i64 p, .int .u32 e, .bool false] 24 (0, 0))).cell? ⟨b3, 0, none⟩ = some (.int .i64 p) := (blk_cell (K3.out) 0).trans rfl
              have cc1 : ((w6.alloc (.cells #[.int .u32 ((e + 1) % 4294967296), .int .u32 0, .int .u32 1, .int .u16 4095, .int .u16 0] 27 (0, 0))).alloc (.cells #[.int .i64 p, .int .u32 e, .bool false] 24 (0, 0))).cell? ⟨b3, 1, none⟩ = some (.int .u32 e) := (blk_cell (K3.out) 1).trans rfl
              have cc2 : ((w6.alloc (.cells #[.int .u32 ((e + 1) % 4294967296), .int .u32 0, .int .u32 1, .int .u16 4095, .int .u16 0] 27 (0, 0))).alloc (.cells #[.int .i64 p, .int .u32 e, .bool false] 24 (0, 0))).cell? ⟨b3, 2, none⟩ = some (.bool false) := (blk_cell (K3.out) 2).trans rfl
              have x0 : ((w6.alloc (.cells #[.int .u32 ((e + 1) % 4294967296), .int .u32 0, .int .u32 1, .int .u16 4095, .int .u16 0] 27 (0, 0))).alloc (.cells #[.int .i64 p, .int .u32 e, .bool false] 24 (0, 0))).cell? ⟨b5, 0, none⟩ = some (.int .i64 q) := (blk_cell (K5.out) 0).trans rfl
              have y3 : ((w6.alloc (.cells #[.int .u32 ((e + 1) % 4294967296), .int .u32 0, .int .u32 1, .int .u16 4095, .int .u16 0] 27 (0, 0))).alloc (.cells #[.int .i64 p, .int .u32 e, .bool false] 24 (0, 0))).cell? ⟨w6.heap.size, 3, none⟩ = some (.int .u16 4095) := (blk_cell (K8.out) 3).trans rfl
              go_wp2_with fail
              clear c0 c1 c2 cc0 cc1 cc2 x0 y3 K3a
              generalize ((w6.alloc (.cells #[.int .u32 ((e + 1) % 4294967296), .int .u32 0, .int .u32 1, .int .u16 4095, .int .u16 0] 27 (0, 0))).alloc (.cells #[.int .i64 p, .int .u32 e, .bool false] 24 (0, 0))) = w7 at *
              generalize w6.heap.size + 1 = b9 at *
              generalize w6.heap.size = b8 at *
              clear w6
              (with_reducible refine (desk_Desk_Turn.calls p e false q 4095 _ _ _ _ (turn_f ..)).mono ?_)
              rintro r w8 ⟨rfl, hb8⟩
              have J3 := Aside0.mk (blk_below K3.out hb8)
              have J5 := Aside0.mk (blk_below K5.out hb8)
              have J8 := Aside0.mk (blk_below K8.out hb8)
              have J9 := Aside0.mk (blk_below K9.out hb8)
              have JL := Aside0.mk (below_step KL.out hb8)
              clear hb8 K3 K5 K8 K9 KL
              have c0 : w8.cell? ⟨b3, 0, none⟩ = some (.int .i64 p) := (blk_cell (J3.out) 0).trans rfl
              have c1 : w8.cell? ⟨b3, 1, none⟩ = some (.int .u32 e) := (blk_cell (J3.out) 1).trans rfl
              have c2 : w8.cell? ⟨b3, 2, none⟩ = some (.bool false) := (blk_cell (J3.out) 2).trans rfl
              have z0 := blk_frozen J3.out 0
              have z1 := blk_frozen J3.out 1
              have z2 := blk_frozen J3.out 2
              go_wp2_with fail
              clear c0 c1 c2 z0 z1 z2
              have st := store3 J3.out (.int .i64 q) (.int .u32 ((e + 1) % 4294967296)) (.bool false)
              generalize (((w8.setCell ⟨b3, 0, none⟩ (.int .i64 q)).setCell ⟨b3, 1, none⟩ (.int .u32 ((e + 1) % 4294967296))).setCell ⟨b3, 2, none⟩ (.bool false)) = w9 at st ⊢
              have I3 := Aside0.mk st.1
              have I5 := Aside0.mk ((st.2.1 b5 n35.out.symm).trans J5.out)
              have I8 := Aside0.mk ((st.2.1 b8 k38.out.symm).trans J8.out)
              have I9 := Aside0.mk ((st.2.1 b9 k39.out.symm).trans J9.out)
              have IL := Aside0.mk (st.2.2 _ _ JL.out G3.out)
              clear st J3 J5 J8 J9 JL
              have hwr := u32_wrap (e + 1)
              have F : Aside0 (∀ w', Ext w9 w' → w'.cell? ⟨b3, 0, none⟩ = some (.int .i64 q) ∧ w'.cell? ⟨b3, 1, none⟩ = some (.int .u32 ((e + 1) % 4294967296)) ∧ w'.cell? ⟨b3, 2, none⟩ = some (.bool false) ∧ w'.cell? ⟨b5, 0, none⟩ = some (.int .i64 q) ∧ w'.cell? ⟨b8, 0, none⟩ = some (.int .u32 ((e + 1) % 4294967296)) ∧ w'.cell? ⟨b8, 1, none⟩ = some (.int .u32 0) ∧ w'.cell? ⟨b8, 2, none⟩ = some (.int .u32 1) ∧ w'.cell? ⟨b8, 3, none⟩ = some (.int .u16 4095) ∧ w'.cell? ⟨b9, 0, none⟩ = some (.int .i64 p) ∧ w'.cell? ⟨b9, 1, none⟩ = some (.int .u32 e)) := ⟨fun w' hw' => ⟨(blk_cell (hw'.blk I3.out) 0).trans rfl, (blk_cell (hw'.blk I3.out) 1).trans rfl, (blk_cell (hw'.blk I3.out) 2).trans rfl, (blk_cell (hw'.blk I5.out) 0).trans rfl, (blk_cell (hw'.blk I8.out) 0).trans rfl, (blk_cell (hw'.blk I8.out) 1).trans rfl, (blk_cell (hw'.blk I8.out) 2).trans rfl, (blk_cell (hw'.blk I8.out) 3).trans rfl, (blk_cell (hw'.blk I9.out) 0).trans rfl, (blk_cell (hw'.blk I9.out) 1).trans rfl⟩⟩
              refine wp_region_ext rfl (by kernel_rfl) ?_
              repeat (first
                | (refine wpQuiet_step (fun K hK => ?_); go_simp; (first | (refine hK _ ?_) | (refine ⟨_, fun _ _ => rfl, hK _ ?_⟩)); clear hK K)
                | (refine wpQuiet_step (fun K hK => ?_); refine q_val (v := ?_) ?_ ?_ ?_; rotate_left; (rfl); (intro w' hw'; obtain ⟨z0, z1, z2, z3, z4, z5, z6, z7, z8, z9⟩ := F.out w' hw'; go_simp; with_reducible rfl); go_simp; refine hK _ ?_; clear hK K)
                | (refine wpQuiet_step (fun K hK => ?_); refine q_call (f := 11) (v := .int .i64 p) Try.func11 rfl rfl #[.agg #[.int .i64 q, .int .u32 ((e + 1) % 4294967296), .bool false]] ?_ rfl ?_ ?_ ?_; (rfl); (first | (exact Array.map_empty) | (simp only [List.map_toArray, List.map_cons, List.map_nil]; rfl)); (exact fun w' hw' => (desk_Desk_Other.calls q ((e + 1) % 4294967296) false _ w' (ho2.out _ _)).mono (fun e w'' ⟨he, hd⟩ => ⟨he, hw'.step hd⟩)); go_simp; refine hK _ ?_; clear hK K))
              refine wpQuiet_nil ?_
              intro w10 Ew10
              clear F
              clear hwr
              have c2 : w10.cell? ⟨b9, 2, none⟩ = some (.bool false) := (blk_cell (Ew10.blk I9.out) 2).trans rfl
              have y3 : w10.cell? ⟨b8, 3, none⟩ = some (.int .u16 4095) := (blk_cell (Ew10.blk I8.out) 3).trans rfl
              have x6 : w10.cell? ⟨b5, 6, none⟩ = some (.int .u16 d) := (blk_cell (Ew10.blk I5.out) 6).trans rfl
              have x7 : w10.cell? ⟨b5, 7, none⟩ = some (.int .u16 l) := (blk_cell (Ew10.blk I5.out) 7).trans rfl
              go_wp2_with fail
              go_roundw
              case measure => simp [intOf]; omega
              case rel => exact ⟨i + 1, q, ((e + 1) % 4294967296), false, by omega, by go_num, HQ, ⟨by omega, by omega⟩, ⟨Ew10.blk I3.out⟩, ⟨(Ext.step IL.out Ew10.out).out⟩⟩
          · have hmay : Aside0 (desk_Desk_May.f 1 p e true q true f = some 0) := ⟨by rw [may_f, hm.out]; rfl⟩
            have ho1 : Aside0 (desk_Desk_Other.f p e true = some q) := ⟨ho1.out e true⟩
            have hfresh : Aside0 (desk_Fresh.f p e true a b c d l = some ((e + 1) % 4294967296, 0, 1, fd d l true, 0)) := ⟨fresh_f p e true a b c d l⟩
            have hcm : (fd d l true != Go.bits .or .u16 d l) = false := by rw [show fd d l true = Go.bits .or .u16 l d from rfl, bits_or_comm l d]; simp
            generalize fd d l true = g at *
            (with_reducible refine (desk_Desk_May.calls 1 p e true q true f _ _ hmay.out).mono ?_)
            rintro r w4 ⟨rfl, hb4⟩
            have E4 : Aside0 (Ext w3 w4) := ⟨hb4⟩
            clear hb4
            go_wp2_with fail
            have F : Aside0 (∀ w', Ext w4 w' → w'.cell? ⟨b3, 0, none⟩ = some (.int .i64 p) ∧ w'.cell? ⟨b3, 1, none⟩ = some (.int .u32 e) ∧ w'.cell? ⟨b3, 2, none⟩ = some (.bool true) ∧ w'.cell? ⟨b5, 0, none⟩ = some (.int .i64 q) ∧ w'.cell? ⟨b5, 1, none⟩ = some (.bool true) ∧ w'.cell? ⟨b5, 2, none⟩ = some (.bool f)) := ⟨fun w' hw' => ⟨(blk_cell (hw'.blk (E4.out.blk N3.out)) 0).trans rfl, (blk_cell (hw'.blk (E4.out.blk N3.out)) 1).trans rfl, (blk_cell (hw'.blk (E4.out.blk N3.out)) 2).trans rfl, (blk_cell (hw'.blk (E4.out.blk N5.out)) 0).trans rfl, (blk_cell (hw'.blk (E4.out.blk N5.out)) 1).trans rfl, (blk_cell (hw'.blk (E4.out.blk N5.out)) 2).trans rfl⟩⟩
            refine wp_region_ext rfl (by kernel_rfl) ?_
            repeat (first
              | (refine wpQuiet_step (fun K hK => ?_); go_simp; (first | (refine hK _ ?_) | (refine ⟨_, fun _ _ => rfl, hK _ ?_⟩)); clear hK K)
              | (refine wpQuiet_step (fun K hK => ?_); refine q_val (v := ?_) ?_ ?_ ?_; rotate_left; (rfl); (intro w' hw'; obtain ⟨z0, z1, z2, z3, z4, z5⟩ := F.out w' hw'; go_simp; with_reducible rfl); go_simp; refine hK _ ?_; clear hK K)
              | (refine wpQuiet_step (fun K hK => ?_); refine q_call (f := 11) (v := .int .i64 q) Try.func11 rfl rfl #[.agg #[.int .i64 p, .int .u32 e, .bool true]] ?_ rfl ?_ ?_ ?_; (rfl); (first | (exact Array.map_empty) | (simp only [List.map_toArray, List.map_cons, List.map_nil]; rfl)); (exact fun w' hw' => (desk_Desk_Other.calls p e true _ w' (ho1.out)).mono (fun e w'' ⟨he, hd⟩ => ⟨he, hw'.step hd⟩)); go_simp; refine hK _ ?_; clear hK K))
            refine wpQuiet_nil ?_
            intro w5 Ew5
            clear F
            have N3' := Aside0.mk (Ew5.blk (E4.out.blk N3.out))
            have N5' := Aside0.mk (Ew5.blk (E4.out.blk N5.out))
            have NL' := Aside0.mk ((Ext.step (Ext.step NL.out E4.out.out) Ew5.out).out)
            clear N3 N5 NL E4 Ew5
            have c0 : w5.cell? ⟨b3, 0, none⟩ = some (.int .i64 p) := (blk_cell (N3'.out) 0).trans rfl
            have c1 : w5.cell? ⟨b3, 1, none⟩ = some (.int .u32 e) := (blk_cell (N3'.out) 1).trans rfl
            have c2 : w5.cell? ⟨b3, 2, none⟩ = some (.bool true) := (blk_cell (N3'.out) 2).trans rfl
            have x0 : w5.cell? ⟨b5, 0, none⟩ = some (.int .i64 q) := (blk_cell (N5'.out) 0).trans rfl
            have x1 : w5.cell? ⟨b5, 1, none⟩ = some (.bool true) := (blk_cell (N5'.out) 1).trans rfl
            have x2 : w5.cell? ⟨b5, 2, none⟩ = some (.bool f) := (blk_cell (N5'.out) 2).trans rfl
            have x3 : w5.cell? ⟨b5, 3, none⟩ = some (.int .u32 a) := (blk_cell (N5'.out) 3).trans rfl
            have x4 : w5.cell? ⟨b5, 4, none⟩ = some (.int .u32 b) := (blk_cell (N5'.out) 4).trans rfl
            have x5 : w5.cell? ⟨b5, 5, none⟩ = some (.int .u32 c) := (blk_cell (N5'.out) 5).trans rfl
            have x6 : w5.cell? ⟨b5, 6, none⟩ = some (.int .u16 d) := (blk_cell (N5'.out) 6).trans rfl
            have x7 : w5.cell? ⟨b5, 7, none⟩ = some (.int .u16 l) := (blk_cell (N5'.out) 7).trans rfl
            go_wp2_with fail
            (with_reducible refine (desk_Fresh.calls p e true a b c d l _ _ _ _ _ _ hfresh.out).mono ?_)
            rintro r w6 ⟨rfl, hb6⟩
            clear c0 c1 c2 x0 x1 x2 x3 x4 x5 x6 x7
            have K3 := Aside0.mk (blk_alloc (blk_alloc (blk_below N3'.out hb6) (.cells #[.int .u32 ((e + 1) % 4294967296), .int .u32 0, .int .u32 1, .int .u16 g, .int .u16 0] 27 (0, 0))) (.cells #[.int .i64 p, .int .u32 e, .bool true] 24 (0, 0)))
            have K3a := Aside0.mk (blk_alloc (blk_below N3'.out hb6) (.cells #[.int .u32 ((e + 1) % 4294967296), .int .u32 0, .int .u32 1, .int .u16 g, .int .u16 0] 27 (0, 0)))
            have K5 := Aside0.mk (blk_alloc (blk_alloc (blk_below N5'.out hb6) (.cells #[.int .u32 ((e + 1) % 4294967296), .int .u32 0, .int .u32 1, .int .u16 g, .int .u16 0] 27 (0, 0))) (.cells #[.int .i64 p, .int .u32 e, .bool true] 24 (0, 0)))
            have K8 := Aside0.mk (blk_alloc (blk_new w6 (.cells #[.int .u32 ((e + 1) % 4294967296), .int .u32 0, .int .u32 1, .int .u16 g, .int .u16 0] 27 (0, 0))) (.cells #[.int .i64 p, .int .u32 e, .bool true] 24 (0, 0)))
            have K9 := Aside0.mk (blk_new (w6.alloc (.cells #[.int .u32 ((e + 1) % 4294967296), .int .u32 0, .int .u32 1, .int .u16 g, .int .u16 0] 27 (0, 0))) (.cells #[.int .i64 p, .int .u32 e, .bool true] 24 (0, 0)))
            rw [alloc_size w6] at K9
            have KL := Aside0.mk (below_alloc (below_alloc (below_step NL'.out hb6) (.cells #[.int .u32 ((e + 1) % 4294967296), .int .u32 0, .int .u32 1, .int .u16 g, .int .u16 0] 27 (0, 0))) (.cells #[.int .i64 p, .int .u32 e, .bool true] 24 (0, 0)))
            have k38 : Aside0 (b3 ≠ w6.heap.size) := ⟨Nat.ne_of_lt (blk_lt (blk_below N3'.out hb6))⟩
            have k39 : Aside0 (b3 ≠ w6.heap.size + 1) := ⟨Nat.ne_of_lt (Nat.lt_succ_of_lt (blk_lt (blk_below N3'.out hb6)))⟩
            clear hb6 N3' N5' NL'
            have c0 : (w6.alloc (.cells #[.int .u32 ((e + 1) % 4294967296), .int .u32 0, .int .u32 1, .int .u16 g, .int .u16 0] 27 (0, 0))).cell? ⟨b3, 0, none⟩ = some (.int .i64 p) := (blk_cell (K3a.out) 0).trans rfl
            have c1 : (w6.alloc (.cells #[.int .u32 ((e + 1) % 4294967296), .int .u32 0, .int .u32 1, .int .u16 g, .int .u16 0] 27 (0, 0))).cell? ⟨b3, 1, none⟩ = some (.int .u32 e) := (blk_cell (K3a.out) 1).trans rfl
            have c2 : (w6.alloc (.cells #[.int .u32 ((e + 1) % 4294967296), .int .u32 0, .int .u32 1, .int .u16 g, .int .u16 0] 27 (0, 0))).cell? ⟨b3, 2, none⟩ = some (.bool true) := (blk_cell (K3a.out) 2).trans rfl
            have cc0 : ((w6.alloc (.cells #[.int .u32 ((e + 1) % 4294967296), .int .u32 0, .int .u32 1, .int .u16 g, .int .u16 0] 27 (0, 0))).alloc (.cells #[.int .i64 p, .int .u32 e, .bool true] 24 (0, 0))).cell? ⟨b3, 0, none⟩ = some (.int .i64 p) := (blk_cell (K3.out) 0).trans rfl
            have cc1 : ((w6.alloc (.cells #[.int .u32 ((e + 1) % 4294967296), .int .u32 0, .int .u32 1, .int .u16 g, .int .u16 0] 27 (0, 0))).alloc (.cells #[.int .i64 p, .int .u32 e, .bool true] 24 (0, 0))).cell? ⟨b3, 1, none⟩ = some (.int .u32 e) := (blk_cell (K3.out) 1).trans rfl
            have cc2 : ((w6.alloc (.cells #[.int .u32 ((e + 1) % 4294967296), .int .u32 0, .int .u32 1, .int .u16 g, .int .u16 0] 27 (0, 0))).alloc (.cells #[.int .i64 p, .int .u32 e, .bool true] 24 (0, 0))).cell? ⟨b3, 2, none⟩ = some (.bool true) := (blk_cell (K3.out) 2).trans rfl
            have x0 : ((w6.alloc (.cells #[.int .u32 ((e + 1) % 4294967296), .int .u32 0, .int .u32 1, .int .u16 g, .int .u16 0] 27 (0, 0))).alloc (.cells #[.int .i64 p, .int .u32 e, .bool true] 24 (0, 0))).cell? ⟨b5, 0, none⟩ = some (.int .i64 q) := (blk_cell (K5.out) 0).trans rfl
            have y3 : ((w6.alloc (.cells #[.int .u32 ((e + 1) % 4294967296), .int .u32 0, .int .u32 1, .int .u16 g, .int .u16 0] 27 (0, 0))).alloc (.cells #[.int .i64 p, .int .u32 e, .bool true] 24 (0, 0))).cell? ⟨w6.heap.size, 3, none⟩ = some (.int .u16 g) := (blk_cell (K8.out) 3).trans rfl
            go_wp2_with fail
            clear c0 c1 c2 cc0 cc1 cc2 x0 y3 K3a
            generalize ((w6.alloc (.cells #[.int .u32 ((e + 1) % 4294967296), .int .u32 0, .int .u32 1, .int .u16 g, .int .u16 0] 27 (0, 0))).alloc (.cells #[.int .i64 p, .int .u32 e, .bool true] 24 (0, 0))) = w7 at *
            generalize w6.heap.size + 1 = b9 at *
            generalize w6.heap.size = b8 at *
            clear w6
            (with_reducible refine (desk_Desk_Turn.calls p e true q g _ _ _ _ (turn_f ..)).mono ?_)
            rintro r w8 ⟨rfl, hb8⟩
            have J3 := Aside0.mk (blk_below K3.out hb8)
            have J5 := Aside0.mk (blk_below K5.out hb8)
            have J8 := Aside0.mk (blk_below K8.out hb8)
            have J9 := Aside0.mk (blk_below K9.out hb8)
            have JL := Aside0.mk (below_step KL.out hb8)
            clear hb8 K3 K5 K8 K9 KL
            have c0 : w8.cell? ⟨b3, 0, none⟩ = some (.int .i64 p) := (blk_cell (J3.out) 0).trans rfl
            have c1 : w8.cell? ⟨b3, 1, none⟩ = some (.int .u32 e) := (blk_cell (J3.out) 1).trans rfl
            have c2 : w8.cell? ⟨b3, 2, none⟩ = some (.bool true) := (blk_cell (J3.out) 2).trans rfl
            have z0 := blk_frozen J3.out 0
            have z1 := blk_frozen J3.out 1
            have z2 := blk_frozen J3.out 2
            go_wp2_with fail
            clear c0 c1 c2 z0 z1 z2
            have st := store3 J3.out (.int .i64 q) (.int .u32 ((e + 1) % 4294967296)) (.bool (g == 0))
            generalize (((w8.setCell ⟨b3, 0, none⟩ (.int .i64 q)).setCell ⟨b3, 1, none⟩ (.int .u32 ((e + 1) % 4294967296))).setCell ⟨b3, 2, none⟩ (.bool (g == 0))) = w9 at st ⊢
            have I3 := Aside0.mk st.1
            have I5 := Aside0.mk ((st.2.1 b5 n35.out.symm).trans J5.out)
            have I8 := Aside0.mk ((st.2.1 b8 k38.out.symm).trans J8.out)
            have I9 := Aside0.mk ((st.2.1 b9 k39.out.symm).trans J9.out)
            have IL := Aside0.mk (st.2.2 _ _ JL.out G3.out)
            clear st J3 J5 J8 J9 JL
            have hwr := u32_wrap (e + 1)
            have F : Aside0 (∀ w', Ext w9 w' → w'.cell? ⟨b3, 0, none⟩ = some (.int .i64 q) ∧ w'.cell? ⟨b3, 1, none⟩ = some (.int .u32 ((e + 1) % 4294967296)) ∧ w'.cell? ⟨b3, 2, none⟩ = some (.bool (g == 0)) ∧ w'.cell? ⟨b5, 0, none⟩ = some (.int .i64 q) ∧ w'.cell? ⟨b8, 0, none⟩ = some (.int .u32 ((e + 1) % 4294967296)) ∧ w'.cell? ⟨b8, 1, none⟩ = some (.int .u32 0) ∧ w'.cell? ⟨b8, 2, none⟩ = some (.int .u32 1) ∧ w'.cell? ⟨b8, 3, none⟩ = some (.int .u16 g) ∧ w'.cell? ⟨b9, 0, none⟩ = some (.int .i64 p) ∧ w'.cell? ⟨b9, 1, none⟩ = some (.int .u32 e)) := ⟨fun w' hw' => ⟨(blk_cell (hw'.blk I3.out) 0).trans rfl, (blk_cell (hw'.blk I3.out) 1).trans rfl, (blk_cell (hw'.blk I3.out) 2).trans rfl, (blk_cell (hw'.blk I5.out) 0).trans rfl, (blk_cell (hw'.blk I8.out) 0).trans rfl, (blk_cell (hw'.blk I8.out) 1).trans rfl, (blk_cell (hw'.blk I8.out) 2).trans rfl, (blk_cell (hw'.blk I8.out) 3).trans rfl, (blk_cell (hw'.blk I9.out) 0).trans rfl, (blk_cell (hw'.blk I9.out) 1).trans rfl⟩⟩
            refine wp_region_ext rfl (by kernel_rfl) ?_
            repeat (first
              | (refine wpQuiet_step (fun K hK => ?_); go_simp; (first | (refine hK _ ?_) | (refine ⟨_, fun _ _ => rfl, hK _ ?_⟩)); clear hK K)
              | (refine wpQuiet_step (fun K hK => ?_); refine q_val (v := ?_) ?_ ?_ ?_; rotate_left; (rfl); (intro w' hw'; obtain ⟨z0, z1, z2, z3, z4, z5, z6, z7, z8, z9⟩ := F.out w' hw'; go_simp; with_reducible rfl); go_simp; refine hK _ ?_; clear hK K)
              | (refine wpQuiet_step (fun K hK => ?_); refine q_call (f := 11) (v := .int .i64 p) Try.func11 rfl rfl #[.agg #[.int .i64 q, .int .u32 ((e + 1) % 4294967296), .bool (g == 0)]] ?_ rfl ?_ ?_ ?_; (rfl); (first | (exact Array.map_empty) | (simp only [List.map_toArray, List.map_cons, List.map_nil]; rfl)); (exact fun w' hw' => (desk_Desk_Other.calls q ((e + 1) % 4294967296) (g == 0) _ w' (ho2.out _ _)).mono (fun e w'' ⟨he, hd⟩ => ⟨he, hw'.step hd⟩)); go_simp; refine hK _ ?_; clear hK K))
            refine wpQuiet_nil ?_
            intro w10 Ew10
            clear F
            clear hwr
            have c2 : w10.cell? ⟨b9, 2, none⟩ = some (.bool true) := (blk_cell (Ew10.blk I9.out) 2).trans rfl
            have y3 : w10.cell? ⟨b8, 3, none⟩ = some (.int .u16 g) := (blk_cell (Ew10.blk I8.out) 3).trans rfl
            have x6 : w10.cell? ⟨b5, 6, none⟩ = some (.int .u16 d) := (blk_cell (Ew10.blk I5.out) 6).trans rfl
            have x7 : w10.cell? ⟨b5, 7, none⟩ = some (.int .u16 l) := (blk_cell (Ew10.blk I5.out) 7).trans rfl
            go_wp2_with fail
            go_roundw
            case measure => simp [intOf]; omega
            case rel => exact ⟨i + 1, q, ((e + 1) % 4294967296), (g == 0), by omega, by go_num, HQ, ⟨by omega, by omega⟩, ⟨Ew10.blk I3.out⟩, ⟨(Ext.step IL.out Ew10.out).out⟩⟩
      · have hmay : Aside0 (desk_Desk_May.f 1 p e s n u f = some 1) := ⟨by
          rw [may_f]; unfold mayv; rw [if_pos]
          rcases HP.out with h | h <;> subst h <;> simp [oth] at hn <;> omega⟩
        have hnb : (n == oth p) = false := by simpa using hn
        clear hn
        (with_reducible refine (desk_Desk_May.calls 1 p e s n u f _ _ hmay.out).mono ?_)
        rintro r w4 ⟨rfl, hb4⟩
        have E4 : Aside0 (Ext w3 w4) := ⟨hb4⟩
        clear hb4
        go_wp2_with fail
        have F : Aside0 (∀ w', Ext w4 w' → w'.cell? ⟨b3, 0, none⟩ = some (.int .i64 p) ∧ w'.cell? ⟨b3, 1, none⟩ = some (.int .u32 e) ∧ w'.cell? ⟨b3, 2, none⟩ = some (.bool s) ∧ w'.cell? ⟨b5, 0, none⟩ = some (.int .i64 n) ∧ w'.cell? ⟨b5, 1, none⟩ = some (.bool u) ∧ w'.cell? ⟨b5, 2, none⟩ = some (.bool f)) := ⟨fun w' hw' => ⟨(blk_cell (hw'.blk (E4.out.blk N3.out)) 0).trans rfl, (blk_cell (hw'.blk (E4.out.blk N3.out)) 1).trans rfl, (blk_cell (hw'.blk (E4.out.blk N3.out)) 2).trans rfl, (blk_cell (hw'.blk (E4.out.blk N5.out)) 0).trans rfl, (blk_cell (hw'.blk (E4.out.blk N5.out)) 1).trans rfl, (blk_cell (hw'.blk (E4.out.blk N5.out)) 2).trans rfl⟩⟩
        refine wp_region_ext rfl (by kernel_rfl) ?_
        repeat (first
          | (refine wpQuiet_step (fun K hK => ?_); go_simp; (first | (refine hK _ ?_) | (refine ⟨_, fun _ _ => rfl, hK _ ?_⟩)); clear hK K)
          | (refine wpQuiet_step (fun K hK => ?_); refine q_val (v := ?_) ?_ ?_ ?_; rotate_left; (rfl); (intro w' hw'; obtain ⟨z0, z1, z2, z3, z4, z5⟩ := F.out w' hw'; go_simp; with_reducible rfl); go_simp; refine hK _ ?_; clear hK K)
          | (refine wpQuiet_step (fun K hK => ?_); refine q_call (f := 11) (v := .int .i64 (oth p)) Try.func11 rfl rfl #[.agg #[.int .i64 p, .int .u32 e, .bool s]] ?_ rfl ?_ ?_ ?_; (rfl); (first | (exact Array.map_empty) | (simp only [List.map_toArray, List.map_cons, List.map_nil]; rfl)); (exact fun w' hw' => (desk_Desk_Other.calls p e s _ w' (other_f p e s)).mono (fun e w'' ⟨he, hd⟩ => ⟨he, hw'.step hd⟩)); go_simp; refine hK _ ?_; clear hK K))
        refine wpQuiet_nil ?_
        intro w5 Ew5
        clear F
        have N3' := Aside0.mk (Ew5.blk (E4.out.blk N3.out))
        have N5' := Aside0.mk (Ew5.blk (E4.out.blk N5.out))
        have NL' := Aside0.mk ((Ext.step (Ext.step NL.out E4.out.out) Ew5.out).out)
        clear N3 N5 NL E4 Ew5
        go_wp2_with fail
        go_roundw
        case measure => simp [intOf]; omega
        case rel => exact ⟨i + 1, p, e, s, by omega, by go_num, HP, HR, N3', NL'⟩
    · have : i = len := by omega
      subst this
      go_wp2_with fail
      (with_reducible refine (tollhouselaw23_wakes.calls 1 _ _ wakes_f).mono ?_)
      rintro r w3 ⟨rfl, hb3⟩
      have BZ := Aside0.mk (below_step BL.out hb3)
      clear hb3 BL
      go_wp2
      go_ret
      exact ⟨rfl, BZ.out⟩

set_option maxHeartbeats 1000000 in
theorem turns_nil (A : Option Addr) (cap : Nat) (w : World) :
    Calls Try.prog 4 #[.slice A 0 cap] w fun r w' => r = .returned (.bool true) ∧ Below w.heap.size w w' := by
  have hu24 := Try.underlying24
  go_enter Try.func4, Try.ntmps4
  go_wp2_with fail
  (with_reducible refine (desk_New.calls _ _ _ _ rfl).mono ?_)
  rintro r w1 ⟨rfl, hb1⟩
  go_wp2_with fail
  have BL := Aside0.mk (below_alloc hb1 (.cells #[.int .i64 0, .int .u32 1, .bool true] 24 (0, 0)))
  clear hb1
  generalize w1.alloc (.cells #[.int .i64 0, .int .u32 1, .bool true] 24 (0, 0)) = w2 at *
  generalize w1.heap.size = b3 at *
  clear w1
  go_loopw [4] (fun v wr => v = .int .i64 0 ∧ Aside0 (Below w.heap.size w wr)) (fun _ _ => 0)
  case atStart => exact ⟨rfl, BL⟩
  case round =>
    clear BL
    obtain ⟨rfl, BL⟩ := hrel
    go_wp2_with fail
    (with_reducible refine (tollhouselaw23_wakes.calls 1 _ _ wakes_f).mono ?_)
    rintro r w3 ⟨rfl, hb3⟩
    have BZ := Aside0.mk (below_step BL.out hb3)
    clear hb3 BL
    go_wp2
    go_ret
    exact ⟨rfl, BZ.out⟩
set_option maxHeartbeats 1000000 in
theorem turns_big (A : Option Addr) (len cap : Nat) (w : World) (h : 100 < len) :
    Calls Try.prog 4 #[.slice A len cap] w fun r w' => r = .returned (.bool true) ∧ Below w.heap.size w w' := by
  have hb : decide ((100 : Int) < (len : Int)) = true := by simp; omega
  go_enter Try.func4, Try.ntmps4
  go_wp2_with fail
  (with_reducible refine (tollhouselaw23_wakes.calls 1 _ _ wakes_f).mono ?_)
  rintro r w3 ⟨rfl, hb3⟩
  go_wp2
  go_ret
  exact ⟨rfl, hb3⟩

end Go.Proofs.Ytipiooolplgjjaa.TurnsWalk

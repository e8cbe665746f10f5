/- A new model; the names of a model's volumes; two lists of texts. -/
import Derived.Test.YtkppnamblmaokaaDoorModG
namespace Go.Proofs.YtkppnamblmaokaaDoor.ModK
open Go.RowKit Go.Proofs.YtkppnamblmaokaaDoorW.PrintWords Go.Proofs.YtkppnamblmaokaaDoorW.PrintLast Go.Proofs.YtkppnamblmaokaaDoorW.PrintMore Go.Proofs.YtkppnamblmaokaaDoor.ModA Go.Proofs.YtkppnamblmaokaaDoor.ModB Go.Proofs.YtkppnamblmaokaaDoor.ModC Go.Proofs.YtkppnamblmaokaaDoor.ModD Go.Proofs.YtkppnamblmaokaaDoor.ModE Go.Proofs.YtkppnamblmaokaaDoor.ModF Go.Proofs.YtkppnamblmaokaaDoor.ModG
set_option linter.unusedVariables false
set_option linter.unusedSimpArgs false

def Stop (p : Prop) : Prop := p
theorem stop {p : Prop} (h : Stop p) : p := h
theorem rep_new {base : Nat} {w : World} (h : base ≤ w.heap.size) : Rep base (w.alloc (.cells #[.slice none 0 0] 71 (0, 0))) w.heap.size [] [] (.slice none 0 0) :=
  ⟨h, blk_new w _, World.ownsRow_nil _ _ _ _, rfl, fun i x g h1 _ => by simp at h1, fun i x h1 => by simp at h1, by simp, by simp, by simp, by simp [Value.ownBlock], by simp⟩

set_option maxHeartbeats 400000 in
theorem new_any (base : Nat) (w : World) (h : base ≤ w.heap.size) :
    Calls Tryd.prog 9 #[] w fun e w' => e = .returned (.pointer (some ⟨w.heap.size, 0, none⟩)) ∧ Rep base w' w.heap.size [] [] (.slice none 0 0) ∧ Below w.heap.size w w' := by
  have R := Aside0.mk (rep_new (w := w) h)
  go_enter Tryd.func9, Tryd.ntmps9
  go_wp2
  go_ret
  exact ⟨rfl, R.out, below_alloc (Below.refl _ _) _⟩

def names (L : List Vol) : List Value := L.map fun x => .string x.name
theorem names_take (L : List Vol) (i : Nat) (x : Vol) (h : L[i]? = some x) : names (L.take (i + 1)) = names (L.take i) ++ [.string x.name] := by
  unfold names
  rw [List.take_add_one, h]
  simp
theorem info9 : (Tryd.prog.info? 9).map (fun i => (i.zero, i.size, i.bytes)) = some (some (.string ByteArray.empty), 1, 16) := by kernel_rfl

set_option maxHeartbeats 1000000 in
set_option maxRecDepth 100000 in
theorem names_any {base : Nat} {w : World} {mb : Nat} {L : List Vol} {gs : List Nat} {v : Value} (r : Rep base w mb L gs v) :
    Calls Tryd.prog 18 #[.pointer (some ⟨mb, 0, none⟩)] w fun e w' => ∃ u, e = .returned u ∧ w'.ownsRow w.heap.size 9 1 u L.length (names L) ∧ Below w.heap.size w w' := by
  have cm : w.cell? ⟨mb, 0, none⟩ = some v := (blk_cell r.m 0).trans rfl
  have BL := Aside0.mk (Below.refl w.heap.size w)
  rcases r.slice with ⟨A, cap, rfl, rfl⟩ | ⟨ga, cap, rfl, h1, h2, h3⟩
  · clear r
    go_enter Tryd.func18, Tryd.ntmps18
    go_wp2_with fail
    go_loopw [3, 13] (fun n i wr => n = .slice none 0 0 ∧ i = .int .i64 0 ∧ Aside0 (Below w.heap.size w wr)) (fun _ _ _ => 0)
    case atStart => exact ⟨rfl, rfl, BL⟩
    case round =>
      clear BL
      obtain ⟨rfl, rfl, BL⟩ := hrel
      go_wp2_with fail
      go_ret
      exact ⟨_, rfl, World.ownsRow_nil _ _ _ _, BL.out⟩
  · have R := Aside0.mk r
    have H3 := Aside0.mk h3
    have hf := r.few
    have hall : Aside0 (names (L.take L.length) = names L) := ⟨by rw [List.take_length]⟩
    clear r h3
    generalize hlen : L.length = len at *
    have HL := Aside0.mk hlen
    clear hlen
    obtain ⟨i9, hi9, hz, hsz, hby⟩ := info_parts info9
    have I9 := Aside0.mk hi9
    have Z9 := Aside0.mk hz
    have S9 := Aside0.mk hsz
    have Y9 := Aside0.mk hby
    clear hi9 hz hsz hby
    go_enter Tryd.func18, Tryd.ntmps18
    go_wp2_with fail
    go_loopw [3, 13] (fun n iv wr => ∃ i : Nat, i ≤ len ∧ iv = .int .i64 i ∧ Aside0 (wr.ownsRow w.heap.size 9 1 n i (names (L.take i))) ∧ Aside0 (Below w.heap.size w wr)) (fun _ iv _ => len - (intOf iv).toNat)
    case atStart => exact ⟨0, by omega, rfl, ⟨World.ownsRow_nil _ _ _ _⟩, BL⟩
    case round =>
      clear BL
      obtain ⟨i, hi, rfl, OW, BL⟩ := hrel
      by_cases hlt : i < len
      · obtain ⟨x, hx⟩ : ∃ x, L[i]? = some x := ⟨L[i]'(by have := HL.out; omega), by simp⟩
        obtain ⟨g, hg⟩ : ∃ g, gs[i]? = some g := ⟨gs[i]'(by have := HL.out; have := R.out.len; omega), by simp⟩
        obtain ⟨k1, k2⟩ := H3.out i x g hx hg
        have c0 := pw_cell_below BL.out k1
        have c1 := pw_cell_below BL.out k2
        have ht := Aside0.mk (names_take L i x hx)
        clear k1 k2 hx hg cm
        have T2 := Aside0.mk (heap_alloc2_new wr (.cells #[.string x.name, .slice (some ⟨g, 0, none⟩) x.blocks.length x.blocks.length] 74 (0, 0)) (.cells #[.string x.name] 9 (0, 0)))
        have BL2 := Aside0.mk (below_alloc (below_alloc BL.out (.cells #[.string x.name, .slice (some ⟨g, 0, none⟩) x.blocks.length x.blocks.length] 74 (0, 0))) (.cells #[.string x.name] 9 (0, 0)))
        go_wp2_with (at_builtin; apply stop)
        unfold Stop
        refine wpList_append_own _ rfl (.tmp 17) (.tmp 20) 49 rfl w.heap.size 9 i9 _ 1 16 Tryd.underlying49 I9.out Z9.out S9.out Y9.out rfl (by decide) _ i (names (L.take i)) rfl ((OW.out.alloc _).alloc _) ⟨wr.heap.size + 1, 0, none⟩ 1 1 [.string x.name] rfl rfl ?_ ?_ ?_ ?_ ?_ ?_
        · intro j u hu
          have hj : j < 1 := by have := (List.getElem?_eq_some_iff.1 hu).1; simpa using this
          rw [Addr.add_mid, cell_of_row _ _ _ _ 9 (0, 0) T2.out]
          simpa using hu
        · intro u hu
          simp at hu
          subst hu
          rfl
        · unfold maxLen; omega
        · omega
        · exact BL2.out.size
        intro v' w1 own' grow' _
        go_wp2_with fail
        go_roundw
        case measure => simp [intOf]; omega
        case rel => exact ⟨i + 1, by omega, by go_num, ⟨by rw [ht.out]; exact own'⟩, ⟨BL2.out.grown grow' BL2.out.size (fun k hk => (OW.out.lt k hk).1)⟩⟩
      · have : i = len := by omega
        subst this
        go_wp2_with fail
        go_ret
        exact ⟨_, rfl, by rw [← hall.out]; exact OW.out, BL.out⟩

end Go.Proofs.YtkppnamblmaokaaDoor.ModK

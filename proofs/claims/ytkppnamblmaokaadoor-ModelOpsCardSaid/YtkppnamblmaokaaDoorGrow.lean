/- A region that draws its order, whose operations but the last ones only read, compute, or make memory (calls with 'Below', allocs): walked once, whatever the order. -/
import Derived.OrdersHeld
import Derived.Deep.Quiet
import Derived.Deep.RegionHeld3
import Derived.RowKit
import Derived.Below
import Derived.Test.YtkppnamblmaokaaDoorWLast
namespace Go.Proofs.YtkppnamblmaokaaDoor.Grow
open Go.RowKit Go.Proofs.YtkppnamblmaokaaDoorW.PrintLast

section
variable {P : Program} {ops : Array Oper} {Q : Exit → Act → World → Prop} {md : Region.Mode}

/-- The act with the body's slots filled. -/
def fills (a : Act) (vs : Nat → Value) : List (Nat × Tmp) → Act
  | [] => a
  | (i, d) :: r => fills (a.put (some d) (vs i)) vs r
def upd (vs : Nat → Value) (i : Nat) (v : Value) : Nat → Value := fun j => if j = i then v else vs j
theorem upd_same (vs : Nat → Value) (i : Nat) (v : Value) : upd vs i v i = v := by simp [upd]
theorem upd_ne (vs : Nat → Value) {i j : Nat} (v : Value) (h : j ≠ i) : upd vs i v j = vs j := by simp [upd, h]
theorem put_put (a : Act) (d : Tmp) (x y : Value) : (a.put (some d) x).put (some d) y = a.put (some d) y := by
  simp [Act.put]
theorem put_comm (a : Act) {d e : Tmp} (x y : Value) (h : d ≠ e) : (a.put (some d) x).put (some e) y = (a.put (some e) y).put (some d) x := by
  simp [Act.put, Array.setIfInBounds_comm _ _ h]
theorem put_self (a : Act) (d : Tmp) : a.put (some d) (a.tmps.getD d undef) = a := by
  cases a with
  | mk tmps defers =>
    simp only [Act.put, Act.mk.injEq, and_true]
    apply Array.ext
    · simp
    · intro i h1 h2
      by_cases e : d = i
      · subst e; simp [h2]
      · exact Array.getElem_setIfInBounds_ne (hj := h2) (h := e)
theorem fills_self (a : Act) : ∀ (D : List (Nat × Tmp)) (n : Nat → Tmp), (∀ p ∈ D, n p.1 = p.2) → fills a (fun i => a.tmps.getD (n i) undef) D = a
  | [], _, _ => rfl
  | (i, d) :: r, n, h => by
    have e : n i = d := h (i, d) (by simp)
    simp only [fills]
    rw [e, put_self]
    exact fills_self a r n (fun p hp => h p (by simp [hp]))
theorem fills_comm (vs : Nat → Value) (d : Tmp) (v : Value) : ∀ (D : List (Nat × Tmp)) (a : Act), d ∉ D.map Prod.snd → (fills a vs D).put (some d) v = fills (a.put (some d) v) vs D
  | [], _, _ => rfl
  | (i, e) :: r, a, h => by
    simp only [List.map_cons, List.mem_cons, not_or] at h
    simp only [fills]
    rw [fills_comm vs d v r _ h.2, put_comm a _ _ (Ne.symm h.1)]
theorem fills_upd (vs : Nat → Value) (i : Nat) (v : Value) : ∀ (D : List (Nat × Tmp)) (a : Act), i ∉ D.map Prod.fst → fills a (upd vs i v) D = fills a vs D
  | [], _, _ => rfl
  | (j, e) :: r, a, h => by
    simp only [List.map_cons, List.mem_cons, not_or] at h
    simp only [fills]
    rw [upd_ne vs v (Ne.symm h.1), fills_upd vs i v r _ h.2]
theorem fills_put (vs : Nat → Value) (i : Nat) (d : Tmp) (v : Value) : ∀ (D : List (Nat × Tmp)) (a : Act), (D.map Prod.fst).Nodup → (D.map Prod.snd).Nodup → (i, d) ∈ D →
    (fills a vs D).put (some d) v = fills a (upd vs i v) D
  | [], _, _, _, h => by cases h
  | (j, e) :: r, a, h1, h2, h => by
    simp only [List.map_cons, List.nodup_cons] at h1 h2
    simp only [fills]
    rcases List.mem_cons.1 h with heq | hr
    · injection heq with e1 e2
      subst e1
      subst e2
      rw [fills_comm vs d v r _ h2.1, put_put, upd_same, fills_upd vs i v r _ h1.1]
    · have hj : j ≠ i := by rintro rfl; exact h1.1 (List.mem_map.2 ⟨_, hr, rfl⟩)
      rw [upd_ne vs v hj]
      exact fills_put vs i d v r _ h1.2 h2.2 hr

/-- What is known of some operations' values. -/
def Facts (Φ : Nat → Value → World → Prop) (vs : Nat → Value) (w : World) : List Nat → Prop
  | [] => True
  | j :: r => Φ j (vs j) w ∧ Facts Φ vs w r
theorem Facts.of {Φ : Nat → Value → World → Prop} {vs : Nat → Value} {w : World} : ∀ {l : List Nat}, (∀ j ∈ l, Φ j (vs j) w) → Facts Φ vs w l
  | [], _ => trivial
  | _ :: _, h => ⟨h _ (by simp), Facts.of (fun j hj => h j (by simp [hj]))⟩

/-- One operation of the body: its number, its slot, those whose values it wants. -/
structure Item where
  i : Nat
  d : Tmp
  deps : List Nat
def pairs (D : List Item) : List (Nat × Tmp) := D.map fun x => (x.i, x.d)
/-- The check, by computation: each of the body has its slot; what it wants comes ahead of it; each of the tail waits for all of the body; edges go back. -/
def growB (md : Region.Mode) (ops : Array Oper) (D : List Item) (tail : List Nat) : Bool :=
  (D.all fun x => ((ops[x.i]?).bind (·.dst) == some x.d) && x.deps.all fun j => (D.any fun y => y.i == j) && Region.reachB md ops j ops.size x.i) &&
  (tail.all fun t => decide (t < ops.size) && !(D.any fun y => y.i == t) && D.all fun y => Region.reachB md ops y.i ops.size t) &&
  ((List.range ops.size).all fun i => (D.any fun y => y.i == i) || tail.contains i) &&
  ((List.range ops.size).all fun i => ((ops[i]?).map fun o => o.after.all fun e => decide (e.on < i)).getD true) &&
  decide ((pairs D).map Prod.fst).Nodup && decide ((pairs D).map Prod.snd).Nodup && decide tail.Nodup

def listedOf (n : Nat) (D : List Item) : Array Bool := ((List.range n).map fun i => D.any fun y => y.i == i).toArray

def left (n : Nat) (L : Array Bool) : List Nat := (List.range n).filter fun j => !L.getD j true

theorem left_set {n : Nat} {L : Array Bool} {i : Nat} (hi : i < n) (hs : L.size = n) (hl : L.getD i true = false) : (left n (L.setIfInBounds i true)).length + 1 = (left n L).length := by
  have e : left n (L.setIfInBounds i true) = (left n L).filter (fun j => j != i) := by
    unfold left
    rw [List.filter_filter]
    apply List.filter_congr
    intro j _
    by_cases h : i = j
    · subst h
      have hlt : i < L.size := by omega
      simp [hlt]
    · rw [getD_set_ne true h]
      have : (j != i) = true := by simp; exact fun h' => h h'.symm
      rw [this, Bool.true_and]
  rw [e]
  have hm : i ∈ left n L := by
    unfold left
    rw [List.mem_filter]
    exact ⟨List.mem_range.2 hi, by rw [hl]; rfl⟩
  have hn : (left n L).Nodup := List.Pairwise.filter _ List.nodup_range
  have := List.length_eq_countP_add_countP (fun j => j != i) (l := left n L)
  rw [List.countP_eq_length_filter] at this
  have c : List.countP (fun j => decide ¬(j != i) = true) (left n L) = 1 := by
    have : List.countP (fun j => decide ¬(j != i) = true) (left n L) = List.count i (left n L) := by
      rw [List.count]
      apply List.countP_congr
      intro j _
      simp
    rw [this, hn.count, if_pos hm]
  rw [c] at this
  omega

theorem grow_core {D : List Item} {tail : List Nat} {Φ : Nat → Value → World → Prop} {a0 : Act} {w0 : World}
    (hc : growB md ops D tail = true)
    (stable : ∀ i v w w', Φ i v w → Below w.heap.size w w' → Φ i v w')
    (hob : ∀ x ∈ D, ∀ o, ops[x.i]? = some o → ∀ vs w, Below w0.heap.size w0 w → Facts Φ vs w x.deps →
      wpOp P ops Q x.i (fun a' w' => ∃ v, a' = (fills a0 vs (pairs D)).put (some x.d) v ∧ Φ x.i v w' ∧ Below w.heap.size w w') (fills a0 vs (pairs D)) w)
    (htail : ∀ vs w, Below w0.heap.size w0 w → Facts Φ vs w (D.map (·.i)) → wpAny P md ops Q tail.length (listedOf ops.size D) (fills a0 vs (pairs D)) w) :
    ∀ (fuel : Nat) (L : Array Bool) (vs : Nat → Value) (w : World), L.size = ops.size → (left ops.size L).length = fuel → ListedClosed md ops L → (∀ t ∈ tail, L.getD t true = false) →
      Below w0.heap.size w0 w → (∀ x ∈ D, L.getD x.i false = true → Φ x.i (vs x.i) w) → wpAny P md ops Q fuel L (fills a0 vs (pairs D)) w := by
  simp only [growB, Bool.and_eq_true, List.all_eq_true, decide_eq_true_eq, Bool.not_eq_true', List.any_eq_true, beq_iff_eq] at hc
  obtain ⟨⟨⟨⟨⟨⟨hD, hT⟩, hA⟩, hE⟩, nd1⟩, nd2⟩, nd3⟩ := hc
  -- where all of the body is listed and none of the tail
  have full : ∀ (L : Array Bool) (vs : Nat → Value) (w : World), L.size = ops.size → (∀ t ∈ tail, L.getD t true = false) → (∀ x ∈ D, L.getD x.i false = true) →
      L = listedOf ops.size D ∧ (left ops.size L).length = tail.length := by
    intro L vs w hs ht hb
    have key : ∀ i, i < ops.size → L.getD i true = D.any (fun y => y.i == i) := by
      intro i hi
      have h1 := hA i (List.mem_range.2 hi)
      cases hany : D.any (fun y => y.i == i) with
      | true =>
        obtain ⟨y, hy, e⟩ := List.any_eq_true.1 hany
        have e' := beq_iff_eq.1 e
        have := hb y hy
        rw [e'] at this
        have hlt : i < L.size := by omega
        simp [hlt] at this ⊢
        exact this
      | false =>
        rw [hany] at h1
        simp only [Bool.false_or, List.contains_iff_mem] at h1
        exact ht i (by simpa using h1)
    constructor
    · apply Array.ext
      · simp [listedOf, hs]
      · intro i h1 h2
        have := key i (by omega)
        simp only [listedOf]
        simp [h1] at this ⊢
        exact this
    · have e : left ops.size L = (List.range ops.size).filter (fun i => tail.contains i) := by
        unfold left
        apply List.filter_congr
        intro i hi
        have hi' := List.mem_range.1 hi
        rw [key i hi']
        have h1 := hA i hi
        cases hany : D.any (fun y => y.i == i) with
        | true =>
          cases hcn : tail.contains i with
          | false => rfl
          | true =>
            have hm : i ∈ tail := by simpa using hcn
            have := (hT i hm).1.2
            rw [hany] at this
            cases this
        | false =>
          rw [hany] at h1
          simpa using h1.symm
      rw [e]
      apply List.Perm.length_eq
      apply (List.perm_ext_iff_of_nodup (List.Pairwise.filter _ List.nodup_range) nd3).2
      intro i
      simp only [List.mem_filter, List.mem_range, List.contains_iff_mem]
      constructor
      · exact fun h => by simpa using h.2
      · exact fun h => ⟨(hT i h).1.1, by simpa using h⟩
  intro fuel
  induction fuel with
  | zero =>
    intro L vs w hs hf hcl ht hb hΦ
    have hall : ∀ i, i < ops.size → L.getD i true = true := by
      intro i hi
      cases hg : L.getD i true with
      | true => rfl
      | false =>
        have : i ∈ left ops.size L := by
          unfold left; rw [List.mem_filter]; exact ⟨List.mem_range.2 hi, by rw [hg]; rfl⟩
        rw [List.eq_nil_of_length_eq_zero hf] at this
        cases this
    have hbody : ∀ x ∈ D, L.getD x.i false = true := by
      intro x hx
      have h1 := (hD x hx).1
      have hlt : x.i < ops.size := by
        rcases Nat.lt_or_ge x.i ops.size with h | h
        · exact h
        · simp [Array.getElem?_eq_none h] at h1
      have := hall x.i hlt
      have hlt' : x.i < L.size := by omega
      simp [hlt'] at this ⊢
      exact this
    obtain ⟨e1, e2⟩ := full L vs w hs ht hbody
    have h := htail vs w hb (Facts.of fun j hj => by
      obtain ⟨x, hx, rfl⟩ := List.mem_map.1 hj
      exact hΦ x hx (hbody x hx))
    rw [← e1] at h
    rw [hf] at e2
    rw [← e2] at h
    exact h
  | succ fuel ih =>
    intro L vs w hs hf hcl ht hb hΦ
    have hdone : (∀ x ∈ D, L.getD x.i false = true) → wpAny P md ops Q (fuel + 1) L (fills a0 vs (pairs D)) w := by
      intro hbody
      obtain ⟨e1, e2⟩ := full L vs w hs ht hbody
      have h := htail vs w hb (Facts.of fun j hj => by
        obtain ⟨x, hx, rfl⟩ := List.mem_map.1 hj
        exact hΦ x hx (hbody x hx))
      rw [← e1] at h
      rw [hf] at e2
      rw [← e2] at h
      exact h
    by_cases hbody : ∀ x ∈ D, L.getD x.i false = true
    · exact hdone hbody
    · refine ⟨fun hr => ?_, fun i hi => ?_⟩
      · -- the least one that is not listed may come up
        exfalso
        have hex : ∃ i, i < ops.size ∧ L.getD i true = false := by
          cases hl : left ops.size L with
          | nil => rw [hl] at hf; simp at hf
          | cons j r =>
            have : j ∈ left ops.size L := by rw [hl]; simp
            unfold left at this
            rw [List.mem_filter] at this
            exact ⟨j, List.mem_range.1 this.1, by simpa using this.2⟩
        have hmin : ∃ i, (i < ops.size ∧ L.getD i true = false) ∧ ∀ j, j < i → ¬ (j < ops.size ∧ L.getD j true = false) := by
          obtain ⟨i0, h0⟩ := hex
          induction i0 using Nat.strongRecOn with
          | _ n ihn =>
            by_cases hsm : ∃ j, j < n ∧ (j < ops.size ∧ L.getD j true = false)
            · obtain ⟨j, hj, hp⟩ := hsm
              exact ihn j hj hp
            · exact ⟨n, h0, fun j hj hp => hsm ⟨j, hj, hp⟩⟩
        obtain ⟨i, ⟨hilt, hil⟩, hmin⟩ := hmin
        have hmem : i ∈ Region.ready md ops L := by
          rw [mem_ready]
          refine ⟨hil, ops[i], by simp [hilt], fun e he _ => ?_⟩
          have h1 := hE i (List.mem_range.2 hilt)
          simp only [Array.getElem?_eq_getElem hilt, Option.map_some, Option.getD_some] at h1
          have h2 := Array.all_eq_true_iff_forall_mem.1 h1 e he
          have h3 : e.on < i := by simpa using h2
          have h4 := hmin e.on h3
          have hlt' : e.on < L.size := by omega
          have h5 : ¬ (L.getD e.on true = false) := fun h => h4 ⟨by omega, h⟩
          simp [hlt'] at h5 ⊢
          exact h5
        rw [hr] at hmem
        cases hmem
      · obtain ⟨hil, oi, hoi, hall⟩ := mem_ready.1 hi
        have hilt : i < ops.size := (Array.getElem?_eq_some_iff.1 hoi).1
        have h1 := hA i (List.mem_range.2 hilt)
        cases hany : D.any (fun y => y.i == i) with
        | false =>
          rw [hany] at h1
          have hit : i ∈ tail := by simpa using h1
          exfalso
          apply hbody
          intro x hx
          have hre := (hT i hit).2 x hx
          cases hg : L.getD x.i true with
          | true =>
            have h1 := (hD x hx).1
            have hlt : x.i < ops.size := by
              rcases Nat.lt_or_ge x.i ops.size with h | h
              · exact h
              · simp [Array.getElem?_eq_none h] at h1
            have hlt' : x.i < L.size := by omega
            simp [hlt'] at hg ⊢
            exact hg
          | false => exact absurd hi (Region.reach_not_ready hcl hre hg)
        | true =>
          obtain ⟨x, hx, e⟩ := List.any_eq_true.1 hany
          have e' := beq_iff_eq.1 e
          subst e'
          have hd := (hD x hx).1
          have hp : (x.i, x.d) ∈ pairs D := List.mem_map.2 ⟨x, hx, rfl⟩
          have hdeps : Facts Φ vs w x.deps := Facts.of fun j hj => by
            obtain ⟨⟨y, hy, ey⟩, hre⟩ := (hD x hx).2 j hj
            subst ey
            refine hΦ y hy ?_
            cases hg : L.getD y.i true with
            | true =>
              have h1 := (hD y hy).1
              have hlt : y.i < ops.size := by
                rcases Nat.lt_or_ge y.i ops.size with h | h
                · exact h
                · simp [Array.getElem?_eq_none h] at h1
              have hlt' : y.i < L.size := by omega
              simp [hlt'] at hg ⊢
              exact hg
            | false => exact absurd hi (Region.reach_not_ready hcl hre hg)
          refine wpOp_mono (fun a' w' hh => ?_) (hob x hx oi hoi vs w hb hdeps)
          obtain ⟨v, rfl, hv, hbl⟩ := hh
          rw [fills_put vs x.i x.d v (pairs D) a0 nd1 nd2 hp]
          refine ih (L.setIfInBounds x.i true) (upd vs x.i v) w' (by simp [hs]) ?_ (hcl.set hi) ?_ ?_ ?_
          · have := left_set (n := ops.size) hilt hs hil
            omega
          · intro t htm
            have : x.i ≠ t := by
              rintro rfl
              have := (hT _ htm).1.2
              rw [hany] at this
              cases this
            rw [getD_set_ne true this]
            exact ht t htm
          · exact hb.trans ⟨hbl.os, hbl.tape, hbl.output, hbl.size, fun k hk => hbl.block k (Nat.lt_of_lt_of_le hk hb.size)⟩
          · intro y hy hly
            by_cases hxy : y.i = x.i
            · rw [hxy, upd_same]; exact hv
            · rw [upd_ne vs v hxy]
              rw [getD_set_ne false (Ne.symm hxy)] at hly
              exact stable y.i (vs y.i) w w' (hΦ y hy hly) hbl

/-- What is known of a value, and lasts while memory only grows. -/
structure Lasts (φ : Value → World → Prop) : Prop where
  out : ∀ v w w', φ v w → Below w.heap.size w w' → φ v w'
def Is (x : Value) : Value → World → Prop := fun v _ => v = x
/-- A pointer to a new block of this content. -/
def New (B : Nat) (o : Obj) : Value → World → Prop := fun v w => ∃ b, v = .pointer (some ⟨b, 0, none⟩) ∧ B ≤ b ∧ w.heap[b]? = some o
theorem Lasts.is (x : Value) : Lasts (Is x) := ⟨fun _ _ _ h _ => h⟩
theorem Lasts.new (B : Nat) (o : Obj) : Lasts (New B o) := ⟨fun _ _ w' h hb => by
  obtain ⟨b, h1, h2, h3⟩ := h
  exact ⟨b, h1, h2, (hb.block b (Array.getElem?_eq_some_iff.1 h3).1).trans h3⟩⟩
def phi (l : List (Value → World → Prop)) : Nat → Value → World → Prop := fun i v w => ((l[i]?).map fun φ => φ v w).getD True
def AllLast : List (Value → World → Prop) → Prop
  | [] => True
  | φ :: r => Lasts φ ∧ AllLast r
theorem AllLast.get : ∀ {l : List (Value → World → Prop)}, AllLast l → ∀ (i : Nat) (φ : Value → World → Prop), l[i]? = some φ → Lasts φ
  | φ :: r, h, 0, ψ, e => by simp at e; subst e; exact h.1
  | φ :: r, h, i + 1, ψ, e => by simp at e; exact AllLast.get h.2 i ψ e
/-- The obligations, one by one. -/
def Obs (P : Program) (ops : Array Oper) (Q : Exit → Act → World → Prop) (Φ : Nat → Value → World → Prop) (a : (Nat → Value) → Act) (w : World) : List Item → Prop
  | [] => True
  | x :: r => (∀ vs w1 a1, a1 = a vs → Below w.heap.size w w1 → Facts Φ vs w1 x.deps →
      wpOp P ops Q x.i (fun a' w' => ∃ v, a' = a1.put (some x.d) v ∧ Φ x.i v w' ∧ Below w1.heap.size w1 w') a1 w1) ∧ Obs P ops Q Φ a w r
theorem Obs.get {Φ : Nat → Value → World → Prop} {a : (Nat → Value) → Act} {w : World} : ∀ {l : List Item}, Obs P ops Q Φ a w l → ∀ x ∈ l, ∀ vs w1, Below w.heap.size w w1 → Facts Φ vs w1 x.deps →
      wpOp P ops Q x.i (fun a' w' => ∃ v, a' = (a vs).put (some x.d) v ∧ Φ x.i v w' ∧ Below w1.heap.size w1 w') (a vs) w1
  | y :: r, h, x, hx => by
    rcases List.mem_cons.1 hx with rfl | hx
    · exact fun vs w1 => h.1 vs w1 _ rfl
    · exact Obs.get h.2 x hx

/-- THE RULE: D the body's operations, tail those behind it, l what is known of each one's value. -/
theorem grow {id : Nat} {a0 : Act} {w : World} (D : List Item) (tail : List Nat) (l : List (Value → World → Prop))
    (hm : P.follows .mixedOrders = true) (hc : growB .any ops D tail = true) (hl : AllLast l)
    (hob : Obs P ops Q (phi l) (fun vs => fills a0 vs (pairs D)) w D)
    (htail : ∀ vs w1 a1, a1 = fills a0 vs (pairs D) → Below w.heap.size w w1 → Facts (phi l) vs w1 (D.map (·.i)) → wpAny P .any ops Q tail.length (listedOf ops.size D) a1 w1) :
    (Code.region id ops true).wp P Q a0 w := by
  refine wp_region_any hm ?_
  have stable : ∀ i v w w', phi l i v w → Below w.heap.size w w' → phi l i v w' := by
    intro i v w w' h hb
    unfold phi at *
    cases hi : l[i]? with
    | none => simp
    | some φ =>
      rw [hi] at h
      exact (hl.get i φ hi).out v w w' h hb
  have hslot : ∀ p ∈ pairs D, (fun i => ((ops[i]?).bind (·.dst)).getD 0) p.1 = p.2 := by
    intro p hp
    obtain ⟨x, hx, rfl⟩ := List.mem_map.1 hp
    simp only [growB, Bool.and_eq_true, List.all_eq_true, beq_iff_eq] at hc
    have := (hc.1.1.1.1.1.1 x hx).1
    simp [this]
  have h := grow_core (P := P) (Q := Q) (w0 := w.drew) (a0 := a0) hc stable (fun x hx _ _ vs w1 hb => hob.get x hx vs w1 ⟨hb.os, hb.tape, hb.output, hb.size, hb.block⟩) (fun vs w1 hb => htail vs w1 _ rfl ⟨hb.os, hb.tape, hb.output, hb.size, hb.block⟩) ops.size (Array.replicate ops.size false)
    (fun i => a0.tmps.getD (((ops[i]?).bind (·.dst)).getD 0) undef) w.drew (by simp)
    (by
      have : left ops.size (Array.replicate ops.size false) = List.range ops.size := by
        unfold left
        apply List.filter_eq_self.2
        intro i hi
        have := List.mem_range.1 hi
        simp [this]
      rw [this, List.length_range])
    (by
      intro j oj _ hl
      exfalso
      rcases Nat.lt_or_ge j ops.size with h | h
      · simp [h] at hl
      · simp [h] at hl)
    (by
      intro t ht
      simp only [growB, Bool.and_eq_true, List.all_eq_true, decide_eq_true_eq] at hc
      have := (hc.1.1.1.1.1.2 t ht).1.1
      simp [this])
    (Below.refl _ _)
    (by
      intro x _ hl
      exfalso
      rcases Nat.lt_or_ge x.i ops.size with h | h
      · simp [h] at hl
      · simp [h] at hl)
  rw [fills_self a0 (pairs D) _ hslot] at h
  exact h

theorem any_one {i : Nat} {N : Option Tmp} {oi : Oper} {fuel : Nat} {l : Array Bool} {a : Act} {w : World} (l' : Array Bool) (hi : ops[i]? = some oi) (hN : oi.dst = N) (hc : readyB md ops l l' i = true)
    (h : ∀ K : Act → World → Prop, Shut (∀ a' w', wpAny P md ops Q fuel l' a' w' → K a' w') → if Region.wanted oi (yielded ops a.tmps) = true then Oper.wp P oi a w K Q else K (a.put N undef) w) :
    wpAny P md ops Q (fuel + 1) l a w := by
  subst hN
  simp only [readyB, Bool.and_eq_true, beq_iff_eq] at hc
  obtain ⟨h1, h2⟩ := hc
  subst h2
  refine ⟨fun h0 => (by rw [h0] at h1; cases h1), fun j hj => ?_⟩
  rw [h1] at hj
  obtain rfl : j = i := by simpa using hj
  exact wpOp_step hi (fun K hK => h K hK)
theorem any_done {l : Array Bool} {a : Act} {w : World} (hr : (Region.ready md ops l == []) = true) (h : Q .normal a w) : ∀ n, wpAny P md ops Q n l a w
  | 0 => ⟨by simpa using hr, h⟩
  | _ + 1 => ⟨fun _ => h, fun i hi => by rw [beq_iff_eq.1 hr] at hi; cases hi⟩
/-- An obligation of the body, with what follows shut away. -/
theorem ob {i : Nat} {d : Tmp} {o : Oper} {a : Act} {w : World} {Φ : Nat → Value → World → Prop} (ho : ops[i]? = some o) (hd : o.dst = some d)
    (h : ∀ K : Act → World → Prop, Shut (∀ v w', Φ i v w' → Below w.heap.size w w' → K (a.put (some d) v) w') → if Region.wanted o (yielded ops a.tmps) = true then Oper.wp P o a w K Q else K (a.put (some d) undef) w) :
    wpOp P ops Q i (fun a' w' => ∃ v, a' = a.put (some d) v ∧ Φ i v w' ∧ Below w.heap.size w w') a w := by
  rw [← hd]
  refine wpOp_step ho (fun K hK => ?_)
  rw [hd] at hK ⊢
  exact h K (fun v w' h1 h2 => hK _ _ ⟨v, rfl, h1, h2⟩)
/-! ### A region whose operations only read what was there, compute, and call what only makes memory: one walk in the text's order -/
/-- w' is w with more memory behind it. -/
def Ext (w w' : World) : Prop := Below w.heap.size w w'
theorem Ext.out {w w' : World} (h : Ext w w') : Below w.heap.size w w' := h
theorem Ext.refl (w : World) : Ext w w := Below.refl _ _
theorem Ext.step {w w1 w2 : World} (h : Ext w w1) (k : Below w1.heap.size w1 w2) : Ext w w2 :=
  Below.trans h ⟨k.os, k.tape, k.output, k.size, fun i hi => k.block i (Nat.lt_of_lt_of_le hi h.out.size)⟩
theorem Ext.blk {w w' : World} (h : Ext w w') {g : Nat} {o : Obj} (hg : w.heap[g]? = some o) : w'.heap[g]? = some o :=
  (h.out.block g (Array.getElem?_eq_some_iff.1 hg).1).trans hg
theorem Ext.cell {w w' : World} (h : Ext w w') {a : Addr} {v : Value} (hc : w.cell? a = some v) : w'.cell? a = some v :=
  (h.out.cell (World.block_lt_of_cell? w a hc)).trans hc
theorem wp_region_ext {id : Nat} {a : Act} {w : World} {l : List Oper} (hm : P.follows .mixedOrders = true) (hB : Region.lexB .any l.toArray = true)
    (h : wpQuiet P l.toArray (Ext w) (fun a' => ∀ w', Ext w w' → Q .normal a' w') l a) : (Code.region id l.toArray true).wp P Q a w :=
  wp_region_quiet (C := Ext w) hm hB (show Below w.heap.size w { w with drawn := w.drawn + 1 } from ⟨rfl, rfl, rfl, Nat.le_refl _, fun _ _ => rfl⟩) (by simpa using h)
section
variable {C : World → Prop} {o : Oper} {a : Act} {K : Act → Prop}
/-- A load, or what else yields one value in every world of the class. -/
theorem q_val {v : Value} (hw : Region.wanted o (yielded ops a.tmps) = true) (hrun : ∀ w', C w' → (execOp a.eval o).run P w' = .ok (.value v) w') (hk : K (a.put o.dst v)) :
    if Region.wanted o (yielded ops a.tmps) then o.quiet P a C K else K (a.put o.dst undef) := by
  rw [if_pos hw]
  refine ⟨v, fun w' hc => ?_, hk⟩
  unfold Oper.quietAt
  rw [hrun w' hc]
  exact ⟨rfl, rfl⟩
/-- A call of a Go function. -/
theorem q_call {v : Value} {f : FuncId} {fn : Func} {as : Array Operand} {ts : Array TypeId} (hf : P.funcs[f]? = some fn) (hname : (fn.name == "runtime.NumGoroutine") = false) (hb : fn.body.isSome = true) (args : Array Value)
    (hw : Region.wanted o (yielded ops a.tmps) = true) (hop : o.op = .call { callee := .value (.func f), args := as, argTypes := ts }) (hargs : as.map a.eval = args)
    (hc : ∀ w', C w' → Calls P f args w' fun e w'' => e = .returned v ∧ C w'') (hk : K (a.put o.dst v)) :
    if Region.wanted o (yielded ops a.tmps) then o.quiet P a C K else K (a.put o.dst undef) := by
  rw [if_pos hw]
  refine ⟨v, fun w' hcw => ?_, hk⟩
  have he := enters_ hf hname hb args w'
  have hrun : (execOp a.eval o).run P w' = .ok (.enter f args) w' := by
    unfold execOp
    simp [hop, resolve, Deferred.ofValue, invoke, Act.eval, hargs, he]
  unfold Oper.quietAt
  rw [hrun]
  exact ⟨rfl, hc w' hcw⟩
end
/-- A contract with 'Below', met in a world of the class. -/
theorem ext_calls {f : FuncId} {args : Array Value} {w w' : World} {v : Value} (h : Ext w w') (hc : Calls P f args w' fun e w'' => e = .returned v ∧ Below w'.heap.size w' w'') :
    Calls P f args w' fun e w'' => e = .returned v ∧ Ext w w'' := hc.mono fun _ _ ⟨he, hb⟩ => ⟨he, h.step hb⟩
end
end Go.Proofs.YtkppnamblmaokaaDoor.Grow

/- The text of a line. -/
import Derived.Test.YtfejbfnjfombhaaDoorLinF
import Derived.Test.YtfejbfnjfombhaaDoorWEqStruct
import Derived.Maps.AppendAt
namespace Go.Proofs.YtfejbfnjfombhaaDoor.LinG
open Go.RowKit Go.Sort Go.Shelf Go.Lib Go.Proofs.YtfejbfnjfombhaaDoorW.PrintWords Go.Proofs.YtfejbfnjfombhaaDoorW.PrintLast Go.Proofs.YtfejbfnjfombhaaDoorW.PrintMore Go.Proofs.YtfejbfnjfombhaaDoor.LinA Go.Proofs.YtfejbfnjfombhaaDoor.LinB Go.Proofs.YtfejbfnjfombhaaDoor.LinC Go.Proofs.YtfejbfnjfombhaaDoor.LinD Go.Proofs.YtfejbfnjfombhaaDoor.LinE Go.Proofs.YtfejbfnjfombhaaDoor.LinF
set_option linter.unusedVariables false
set_option linter.unusedSimpArgs false

theorem eqA24 (d : Nat) (w : World) (x0 y0 : Int) (x1 y1 : ByteArray) (x2 y2 x3 y3 : Int) :
    (Op.equalIn (d + 2) 24 (.agg #[.int .i64 x0, .string x1, .int .i64 x2, .int .u32 x3]) (.agg #[.int .i64 y0, .string y1, .int .i64 y2, .int .u32 y3])).run Tryd.prog w = .ok (x0 == y0 && (x1.toList == y1.toList && (x2 == y2 && (x3 == y3)))) w := by
  refine eqA_of Tryd.underlying24 (by kernel_rfl) ?_
  refine eqf_cons (by rfl) (by go_simp; rfl) (by go_simp; rfl) (by go_simp) ?_
  refine eqf_cons (by rfl) (by go_simp; rfl) (by go_simp; rfl) (by go_simp) ?_
  refine eqf_cons (by rfl) (by go_simp; rfl) (by go_simp; rfl) (by go_simp) ?_
  exact eqf_last (by rfl) (by go_simp; rfl) (by go_simp; rfl) (by go_simp)
theorem eq_ln (m l : Ln) : (m.verb == l.verb && (m.name.toList == l.name.toList && (m.n == l.n && (m.till == l.till)))) = decide (m = l) := by
  rw [Bool.eq_iff_iff, Bool.and_eq_true, Bool.and_eq_true, Bool.and_eq_true, beq_iff_eq, bytes_beq_iff, beq_iff_eq, beq_iff_eq, decide_eq_true_iff]
  constructor
  · rintro ⟨h1, h2, h3, h4⟩
    cases m; cases l
    simp_all
  · rintro rfl; exact ⟨rfl, rfl, rfl, rfl⟩
def stepF (l : Ln) (f : LinB.Form) : Option ByteArray := if (f.verb : Int) = l.verb then (if parseF (lineOf l f) = some l then some (lineOf l f) else none) else none
theorem text_find (l : Ln) (i : Nat) (hn : ∀ f ∈ forms.take i, stepF l f = none) (f : LinB.Form) (hf : forms[i]? = some f) (t : ByteArray) (hm : stepF l f = some t) : textF l = some t := by
  show forms.findSome? (stepF l) = some t
  rw [show forms = forms.take i ++ f :: forms.drop (i + 1) by
    rw [← (List.getElem?_eq_some_iff.1 hf).2, List.getElem_cons_drop, List.take_append_drop]]
  rw [List.findSome?_append, List.findSome?_eq_none_iff.2 hn, List.findSome?_cons, hm]
  rfl
theorem text_end (l : Ln) (hn : ∀ f ∈ forms.take 7, stepF l f = none) : textF l = none := by
  show forms.findSome? (stepF l) = none
  rw [List.findSome?_eq_none_iff]; exact hn
theorem itoa_len (n : Int) (h0 : -9223372036854775808 ≤ n) (h1 : n ≤ 9223372036854775807) : (itoa n).length ≤ 21 := by
  have hd : ∀ u : Nat, u < 18446744073709551616 → (decDigits u).length ≤ 20 := by
    intro u hu
    rw [decDigits_length]
    by_cases h : 1 ≤ u
    · have := Lib.numDigits_eq u h hu; split at this <;> omega
    · have : u = 0 := by omega
      subst this; rw [nDigits_small (by omega)]; omega
  by_cases h : n < 0
  · obtain ⟨u, rfl⟩ : ∃ u : Nat, n = -(u : Int) := ⟨n.natAbs, by omega⟩
    rw [itoa_neg u (by omega)]
    have := hd u (by omega)
    simp; omega
  · obtain ⟨u, rfl⟩ : ∃ u : Nat, n = (u : Int) := ⟨n.toNat, by omega⟩
    rw [itoa_nonneg]
    have := hd u (by omega)
    omega
theorem textOf_len (l : Ln) (hl : Fit l) (c : UInt8) : (textOf l c).length ≤ 1000 := by
  unfold textOf
  split
  · have := itoa_len l.n hl.n0 hl.n1; omega
  · split
    · have h := itoa_len l.till.toNat (by omega) (by have := hl.t1; omega)
      rw [itoa_nonneg] at h; omega
    · split
      · simp
      · have := hl.s; have h3 : l.name.data.toList.length = l.name.size := Array.length_toList
        omega
def joined (l : Ln) (f : LinB.Form) : List ByteArray := ofL f.word :: f.has.map (textB l)
theorem joined_data (l : Ln) (f : LinB.Form) : (joined l f).map (·.data.toList) = f.word :: f.has.map (textOf l) := by
  unfold joined
  rw [List.map_cons, ofL_data, List.map_map]
  refine congrArg (List.cons _) (List.map_congr_left fun c _ => ?_)
  exact ofL_data _
theorem joinTail_len (sep : List UInt8) (B : Nat) : ∀ l : List (List UInt8), (∀ x ∈ l, x.length ≤ B) → (joinTail sep l).length ≤ l.length * (B + sep.length)
  | [], _ => by simp [joinTail]
  | x :: r, h => by
    rw [joinTail_cons, List.length_append, List.length_append, List.length_cons]
    have := joinTail_len sep B r (fun y hy => h y (by simp [hy]))
    have := h x (by simp)
    rw [Nat.add_one_mul]; omega
theorem joined_len (l : Ln) (hl : Fit l) : ∀ f ∈ forms, (join (f.word :: f.has.map (textOf l)) [32]).length ≤ 100000 := by
  intro f hf
  have h1 : f.word.length ≤ 7 ∧ f.has.length ≤ 3 := by revert f; decide
  have h2 := joinTail_len [32] 1000 (f.has.map (textOf l)) (fun x hx => by
    obtain ⟨c, _, rfl⟩ := List.mem_map.1 hx
    exact textOf_len l hl c)
  rw [join_cons, List.length_append]
  rw [List.length_map] at h2
  have : f.has.length * (1000 + [32].length) ≤ 3 * 1001 := Nat.mul_le_mul h1.2 (by simp)
  omega

theorem info9 : (Tryd.prog.info? 9).map (fun i => (i.zero, i.size, i.bytes)) = some (some (.string ByteArray.empty), 1, 16) := by kernel_rfl
attribute [local go_sem high] eqA24
def ansT (o : Option ByteArray) : Value := .tuple #[.string (o.getD ByteArray.empty), .int .i64 (if o.isSome then 0 else 11)]
theorem wp_append_own_at {P : Program} {w : World} {o : Oper} {a : Act} {K : Act → World → Prop} {Q : Exit → Act → World → Prop} (s x : Operand) (t : TypeId)
    (ho : o.op = .call { callee := .builtin .append, args := #[s, x], argTypes := #[t, t] })
    (base : Nat) (e : TypeId) (i : TypeInfo) (z : Value) (size bytes : Nat) (ht : P.underlying t = some (.slice e)) (hi : P.info? e = some i) (hz : i.zero = some z)
    (hsize : i.size = size) (hby : i.bytes = bytes) (hzs : z.cells.size = size) (hsz : 0 < size)
    (v : Value) (n : Nat) (xs : List Value) (hs : a.eval s = v) (hown : w.ownsRow base e size v n xs)
    (ad : Addr) (m c : Nat) (news : List Value) (hx : a.eval x = .slice (some ad) m c) (hl : news.length = m * size) (hnews : ∀ j u, news[j]? = some u → w.cell? (ad.add j) = some u) (h1 : ∀ u ∈ news, u.oneCell' = true)
    (h63 : n + m ≤ maxLen) (hbytes : (n + m) * bytes ≤ 140737488355328) (hbase : base ≤ w.heap.size)
    (h : ∀ v' w', w'.ownsRow base e size v' (n + m) (xs ++ news) → w.grownBy w' v.ownBlock → (v' = .slice none 0 0 ↔ v = .slice none 0 0 ∧ m = 0) → (v'.ownBlock = v.ownBlock ∨ v'.ownBlock = some w.heap.size) → K (a.put o.dst v') w') : o.wp P a w K Q := by
  obtain ⟨v', w', hr, h2, h3, h4, h5⟩ := run_append_own_at (P := P) w base t o.type e i z size bytes ht hi hz hsize hby hzs hsz v n xs hown ad m c news hl hnews h1 h63 hbytes hbase
  unfold Oper.wp execOp
  simp only [ho, resolve, invoke, builtin, Sem.run_bind, Sem.run_pure, Result.andThen_ok, List.map_toArray, List.map_cons, List.map_nil, hs, hx, hr]
  exact h v' w' h2 h3 h4 h5
theorem alloc_size' (w : World) (o : Obj) : (w.alloc o).heap.size = w.heap.size + 1 := Array.size_push ..
theorem own_new (w : World) (x : ByteArray) : (w.alloc (.cells #[.string x] 9 (0, 0))).ownsRow w.heap.size 9 1 (.slice (some ⟨w.heap.size, 0, none⟩) 1 1) 1 [.string x] :=
  ⟨rfl, .inr ⟨w.heap.size, 1, #[.string x], rfl, Nat.le_refl _, blk_new _ _, Nat.le_refl _, by unfold maxLen; omega, rfl, rfl⟩⟩
theorem own_below {w w' : World} {B n : Nat} {v : Value} {xs : List Value} (h : w.ownsRow B 9 1 v n xs) (k : Below w.heap.size w w') : w'.ownsRow B 9 1 v n xs := h.kept (grown_of_below k none) (Classical.em _)
theorem own_cells {w : World} {B n : Nat} {v : Value} {xs : List Value} (h : w.ownsRow B 9 1 v (n + 1) xs) : ∃ g cap, v = .slice (some ⟨g, 0, none⟩) (n + 1) cap ∧ g < w.heap.size ∧ n + 1 ≤ cap ∧ ∀ (j : Nat) u, xs[j]? = some u → w.cell? ⟨g, 0 + j, none⟩ = some u := by
  rcases h.2 with ⟨_, h0⟩ | ⟨g, cap, cur, hv, hb, hh, h1, h2, h3, h4⟩
  · omega
  · refine ⟨g, cap, hv, blk_lt hh, h1, fun j u hu => ?_⟩
    rw [Nat.zero_add, blk_cell hh j, ← Array.getElem?_toList]
    rw [← h4, List.getElem?_take] at hu
    split at hu
    · exact hu
    · cases hu
theorem joined_take (l : Ln) (f : LinB.Form) (k : Nat) (hk : k < f.has.length) : (joined l f).take (k + 1 + 1) = (joined l f).take (k + 1) ++ [textB l ((ofL f.has)[k]'(by rw [ofL_size]; exact hk))] := by
  unfold joined
  rw [List.take_succ_cons, List.take_succ_cons, List.cons_append, List.take_add_one, List.getElem?_map]
  rw [show f.has[k]? = some ((ofL f.has)[k]'(by rw [ofL_size]; exact hk)) from List.getElem?_eq_getElem hk]
  rfl
set_option maxHeartbeats 4000000 in
set_option maxRecDepth 100000 in
theorem textfn_any (l : Ln) (hl : Fit l) (w : World) (E : Env w) :
    Calls Tryd.prog 10 #[.agg (lnCells l)] w fun e w' => e = .returned (ansT (textF l)) ∧ Below w.heap.size w w' := by
  have HE := Aside0.mk E
  have HL := Aside0.mk hl
  obtain ⟨i9, hi9, hz, hsz, hby⟩ := info_parts info9
  have I9 := Aside0.mk hi9
  have Z9 := Aside0.mk hz
  have S9 := Aside0.mk hsz
  have Y9 := Aside0.mk hby
  clear hi9 hz hsz hby E hl
  have B1 := Aside0.mk (below_alloc (Below.refl w.heap.size w) (.cells (lnCells l) 24 (0, 0)))
  have L1 := Aside0.mk (blk_new w (.cells (lnCells l) 24 (0, 0)))
  go_enter Tryd.func10, Tryd.ntmps10
  go_wp2_with fail
  generalize w.alloc (.cells (lnCells l) 24 (0, 0)) = w1 at *
  refine (forms_any w1).mono ?_
  rintro e w2 ⟨rfl, rfl⟩
  have B2 := Aside0.mk (below_alloc B1.out (.cells formCells 48 (0, 0)))
  have L2 := Aside0.mk (blk_alloc L1.out (.cells formCells 48 (0, 0)))
  have F2 := Aside0.mk (blk_new w1 (.cells formCells 48 (0, 0)))
  have hlt : w.heap.size < w1.heap.size := blk_lt L1.out
  clear L1 B1
  generalize w1.alloc (.cells formCells 48 (0, 0)) = w2 at *
  generalize w1.heap.size = fb at *
  generalize hlb : w.heap.size = lb at *
  go_wp2_with fail
  go_loopg [13] 7 (fun g s13 wr => ∃ i : Nat, i + g = 7 ∧ s13 = .int .i64 i ∧ Aside0 (∀ f ∈ forms.take i, stepF l f = none) ∧ Aside0 (Below lb w wr) ∧ Aside0 (wr.heap[lb]? = some (.cells (lnCells l) 24 (0, 0))) ∧ Aside0 (wr.heap[fb]? = some (.cells formCells 48 (0, 0))))
  case atStart => exact ⟨0, by omega, rfl, ⟨by simp⟩, B2, L2, F2⟩
  case round =>
    obtain ⟨i, hi, rfl, HI, BL, LL, FL⟩ := hrel
    clear B2 L2 F2
    cases gk with
    | zero =>
      have : i = 7 := by omega
      subst this
      have HEnd := Aside0.mk (text_end l HI.out)
      go_wp2_with fail
      go_ret2
      exact ⟨by rw [HEnd.out]; rfl, BL.out⟩
    | succ g =>
      obtain ⟨f, hf, hfm, k0, k1, k2⟩ := form_at i (by omega)
      have c0 := (blk_cell FL.out _).trans k0
      have c1 := (blk_cell FL.out _).trans k1
      have c2 := (blk_cell FL.out _).trans k2
      clear k0 k1 k2
      have hi7 : decide ((i : Int) < 7) = true := by simp; omega
      have hbw : lb ≤ wr.heap.size := by have := blk_lt LL.out; omega
      have BF := Aside0.mk (BL.out.alloc hbw (.cells #[.int .i64 f.verb, .string (ofL f.word), .string (ofL f.has)] 48 (0, 0)))
      have LF := Aside0.mk (blk_alloc LL.out (.cells #[.int .i64 f.verb, .string (ofL f.word), .string (ofL f.has)] 48 (0, 0)))
      have FF := Aside0.mk (blk_alloc FL.out (.cells #[.int .i64 f.verb, .string (ofL f.word), .string (ofL f.has)] 48 (0, 0)))
      have VF := Aside0.mk (blk_new wr (.cells #[.int .i64 f.verb, .string (ofL f.word), .string (ofL f.has)] 48 (0, 0)))
      have v0 := (blk_cell VF.out 0).trans (show _ = some (.int .i64 f.verb) from rfl)
      have v1 := (blk_cell VF.out 1).trans (show _ = some (.string (ofL f.word)) from rfl)
      have v2 := (blk_cell VF.out 2).trans (show _ = some (.string (ofL f.has)) from rfl)
      have l0 := (blk_cell LF.out 0).trans (show _ = some (.int .i64 l.verb) from rfl)
      clear hbw
      by_cases hv : (f.verb : Int) = l.verb
      · have hve : ((f.verb : Int) == l.verb) = true := by simpa using hv
        have HS := Aside0.mk (show stepF l f = if parseF (lineOf l f) = some l then some (lineOf l f) else none by unfold stepF; rw [if_pos hv])
        clear hv
        have hsz1 : (wr.alloc (.cells #[.int .i64 f.verb, .string (ofL f.word), .string (ofL f.has)] 48 (0, 0))).heap.size = wr.heap.size + 1 := Array.size_push ..
        have OW := own_new (wr.alloc (.cells #[.int .i64 f.verb, .string (ofL f.word), .string (ofL f.has)] 48 (0, 0))) (ofL f.word)
        have BS := Below.alloc (Below.refl (wr.heap.size + 1) (wr.alloc (.cells #[.int .i64 f.verb, .string (ofL f.word), .string (ofL f.has)] 48 (0, 0)))) (by rw [hsz1]; exact Nat.le_refl _) (.cells #[.string (ofL f.word)] 9 (0, 0))
        rw [hsz1] at OW
        have OW := Aside0.mk OW
        have BS := Aside0.mk BS
        have hsz : (ofL f.has).size = f.has.length := ofL_size _
        go_wp2_with fail
        have hlv : lb < wr.heap.size := blk_lt LL.out
        have hfv : fb < wr.heap.size := blk_lt FL.out
        clear c0 c1 c2 v0 v1 v2 l0 hve BL LL FL
        generalize wr.alloc (.cells #[.int .i64 f.verb, .string (ofL f.word), .string (ofL f.has)] 48 (0, 0)) = wf at *
        generalize wf.alloc (.cells #[.string (ofL f.word)] 9 (0, 0)) = ws at *
        generalize wr.heap.size = vb at *
        have hf3 := (forms_has f hfm).2.1
        have hHas := Aside0.mk (forms_has f hfm).2.2
        go_loopg [6, 28] f.has.length (fun g2 s6 s28 wy => ∃ k : Nat, k + g2 = f.has.length ∧ s28 = .int .i64 k ∧ Aside0 (Below (vb + 1) wf wy) ∧ Aside0 (wy.ownsRow (vb + 1) 9 1 s6 (k + 1) (((joined l f).take (k + 1)).map Value.string)))
        case atStart => exact ⟨0, by omega, rfl, BS, OW⟩
        case round =>
          obtain ⟨k, hk, rfl, BY, OY⟩ := hrel
          clear BS OW
          have BW := Aside0.mk (BF.out.trans (BY.out.mono (by omega : lb ≤ vb + 1)))
          have LY : Aside0 (wr.heap[lb]? = some (.cells (lnCells l) 24 (0, 0))) := ⟨(BY.out.block lb (by omega)).trans LF.out⟩
          have FY : Aside0 (wr.heap[fb]? = some (.cells formCells 48 (0, 0))) := ⟨(BY.out.block fb (by omega)).trans FF.out⟩
          have l0 := (blk_cell LY.out 0).trans (show _ = some (.int .i64 l.verb) from rfl)
          have l1 := (blk_cell LY.out 1).trans (show _ = some (.string l.name) from rfl)
          have l2 := (blk_cell LY.out 2).trans (show _ = some (.int .i64 l.n) from rfl)
          have l3 := (blk_cell LY.out 3).trans (show _ = some (.int .u32 l.till) from rfl)
          have v2 := (blk_cell ((BY.out.block vb (by omega)).trans VF.out) 2).trans (show _ = some (.string (ofL f.has)) from rfl)
          cases gk with
          | zero =>
            have hkn : k = f.has.length := by omega
            subst hkn
            have hkd : decide ((f.has.length : Int) < (f.has.length : Int)) = false := by simp
            have hjl : (joined l f).length = f.has.length + 1 := by unfold joined; rw [List.length_cons, List.length_map]
            obtain ⟨gj, cj, rfl, hgj, hcj, hcells⟩ := own_cells OY.out
            rw [List.take_of_length_le (by omega)] at hcells
            have hle := joined_len l HL.out f hfm
            have hj := Tryd.strings_Join gj 0 cj (joined l f) ⟨#[32]⟩ wr (fun j x hx => hcells j _ (by rw [List.getElem?_map, hx]; rfl)) hgj (by omega) (by omega) (by rw [joined_data]; exact Nat.le_trans hle (by omega))
            rw [joined_data, hjl] at hj
            have HJ := Aside0.mk (show Calls Tryd.prog 23 #[.slice (some ⟨gj, 0, none⟩) (f.has.length + 1) cj, .string ⟨#[32]⟩] wr fun e w' => e = .returned (.string (lineOf l f)) ∧ Below wr.heap.size wr w' from hj)
            have hsl : (lineOf l f).size ≤ 281474976710656 := by
              have : (lineOf l f).size = (join (f.word :: f.has.map (textOf l)) [32]).length := ofL_size _
              omega
            have HPs := Aside0.mk hsl
            clear hj hcells hle hsl hjl l0 l1 l2 l3 v2 OY
            go_wp2_with fail
            refine HJ.out.mono ?_
            rintro e w5 ⟨rfl, hb⟩
            have B5 := Aside0.mk (below_step (by rw [hlb]; exact BW.out) hb)
            have L5 := Aside0.mk (blk_below LY.out hb)
            have F5 := Aside0.mk (blk_below FY.out hb)
            clear hb
            have HP := Aside0.mk (parse_any (lineOf l f) HPs.out w5 (HE.out.below B5.out HE.out.big))
            go_wp2_with fail
            cases hp : parseF (lineOf l f) with
            | none =>
              rw [hp] at HP HS
              have HP2 := Aside0.mk (show Calls Tryd.prog 8 #[.string (lineOf l f)] w5 fun e w' => e = .returned (.tuple #[.agg #[.int .i64 0, .string ⟨#[]⟩, .int .i64 0, .int .u32 0], .int .i64 11]) ∧ Below w5.heap.size w5 w' from HP.out)
              have HN := Aside0.mk (show stepF l f = none from HS.out)
              clear HP hp
              refine HP2.out.mono ?_
              rintro e w6 ⟨rfl, hb⟩
              have B6 := Aside0.mk (below_alloc (below_step B5.out hb) (.cells #[.int .i64 0, .string ⟨#[]⟩, .int .i64 0, .int .u32 0] 24 (0, 0)))
              have L6 := Aside0.mk (blk_alloc (blk_below L5.out hb) (.cells #[.int .i64 0, .string ⟨#[]⟩, .int .i64 0, .int .u32 0] 24 (0, 0)))
              have F6 := Aside0.mk (blk_alloc (blk_below F5.out hb) (.cells #[.int .i64 0, .string ⟨#[]⟩, .int .i64 0, .int .u32 0] 24 (0, 0)))
              clear hb
              go_wp2_with fail
              go_roundg g
              case measure => omega
              case rel => exact ⟨i + 1, by omega, by go_num, ⟨take_next i _ f hf HI.out HN.out⟩, ⟨by rw [← hlb]; exact B6.out⟩, L6, F6⟩
            | some m =>
              rw [hp] at HP HS
              have HP2 := Aside0.mk (show Calls Tryd.prog 8 #[.string (lineOf l f)] w5 fun e w' => e = .returned (.tuple #[.agg #[.int .i64 m.verb, .string m.name, .int .i64 m.n, .int .u32 m.till], .int .i64 0]) ∧ Below w5.heap.size w5 w' from HP.out)
              clear HP hp
              refine HP2.out.mono ?_
              rintro e w6 ⟨rfl, hb⟩
              have B6 := Aside0.mk (below_alloc (below_step B5.out hb) (.cells #[.int .i64 m.verb, .string m.name, .int .i64 m.n, .int .u32 m.till] 24 (0, 0)))
              have L6 := Aside0.mk (blk_alloc (blk_below L5.out hb) (.cells #[.int .i64 m.verb, .string m.name, .int .i64 m.n, .int .u32 m.till] 24 (0, 0)))
              have F6 := Aside0.mk (blk_alloc (blk_below F5.out hb) (.cells #[.int .i64 m.verb, .string m.name, .int .i64 m.n, .int .u32 m.till] 24 (0, 0)))
              have X6 := Aside0.mk (blk_new w6 (.cells #[.int .i64 m.verb, .string m.name, .int .i64 m.n, .int .u32 m.till] 24 (0, 0)))
              have l0 := (blk_cell L6.out 0).trans (show _ = some (.int .i64 l.verb) from rfl)
              have l1 := (blk_cell L6.out 1).trans (show _ = some (.string l.name) from rfl)
              have l2 := (blk_cell L6.out 2).trans (show _ = some (.int .i64 l.n) from rfl)
              have l3 := (blk_cell L6.out 3).trans (show _ = some (.int .u32 l.till) from rfl)
              have x0 := (blk_cell X6.out 0).trans (show _ = some (.int .i64 m.verb) from rfl)
              have x1 := (blk_cell X6.out 1).trans (show _ = some (.string m.name) from rfl)
              have x2 := (blk_cell X6.out 2).trans (show _ = some (.int .i64 m.n) from rfl)
              have x3 := (blk_cell X6.out 3).trans (show _ = some (.int .u32 m.till) from rfl)
              have heq := eq_ln m l
              clear hb
              by_cases hml : m = l
              · rw [decide_eq_true hml] at heq
                have HEnd := Aside0.mk (text_find l i HI.out f hf (lineOf l f) (by rw [HS.out, hml]; simp))
                clear hml
                go_wp2_with fail
                go_ret2
                exact ⟨by rw [HEnd.out]; rfl, B6.out⟩
              · rw [decide_eq_false hml] at heq
                have HN := Aside0.mk (show stepF l f = none by rw [HS.out, if_neg (fun h => hml (Option.some.inj h))])
                clear hml
                go_wp2_with fail
                go_roundg g
                case measure => omega
                case rel => exact ⟨i + 1, by omega, by go_num, ⟨take_next i _ f hf HI.out HN.out⟩, ⟨by rw [← hlb]; exact B6.out⟩, L6, F6⟩
          | succ g2 =>
            have hkd : decide ((k : Int) < (f.has.length : Int)) = true := by simp; omega
            have hbk : k < (ofL f.has).size := by omega
            have hkl : k < f.has.length := by omega
            have hcc := hHas.out ((ofL f.has)[k]) (List.mem_of_getElem? (show f.has[k]? = some ((ofL f.has)[k]) from List.getElem?_eq_getElem hkl))
            have HT := Aside0.mk (fun W (h : Below (vb + 1) wf W) => text_any ((ofL f.has)[k]) hcc l HL.out W (HE.out.below (BF.out.trans (h.mono (by omega : lb ≤ vb + 1))) (by rw [← hlb]; exact HE.out.big)))
            have HJ := Aside0.mk (joined_take l f k hkl)
            clear hcc
            go_wp2_with fail
            have HV : Aside0 (vb + 1 ≤ wf.heap.size) := ⟨blk_lt VF.out⟩
            have CX := Aside0.mk (show ∀ w' : World, Below (vb + 1) wf w' → w'.cell? ⟨lb, 0, none⟩ = some (.int .i64 l.verb) ∧ w'.cell? ⟨lb, 1, none⟩ = some (.string l.name) ∧ w'.cell? ⟨lb, 2, none⟩ = some (.int .i64 l.n) ∧ w'.cell? ⟨lb, 3, none⟩ = some (.int .u32 l.till) ∧ w'.cell? ⟨vb, 2, none⟩ = some (.string (ofL f.has)) from fun w' hb =>
              have q := (hb.block lb (by omega)).trans LF.out
              ⟨blk_cell q 0, blk_cell q 1, blk_cell q 2, blk_cell q 3, blk_cell ((hb.block vb (by omega)).trans VF.out) 2⟩)
            refine start_ (n := 10) (S := fun w' => w'.cell? ⟨lb, 0, none⟩ = some (.int .i64 l.verb) ∧ w'.cell? ⟨lb, 1, none⟩ = some (.string l.name) ∧ w'.cell? ⟨lb, 2, none⟩ = some (.int .i64 l.n) ∧ w'.cell? ⟨lb, 3, none⟩ = some (.int .u32 l.till) ∧ w'.cell? ⟨vb, 2, none⟩ = some (.string (ofL f.has))) (ds := []) #[false, false, false, false, false, false, false, false, false, false] (by kernel_rfl) rfl rfl ⟨l0, l1, l2, l3, v2⟩ (fun hHeld => ?_)
            replace BY := Aside0.mk (below_drew BY.out)
            replace OY := Aside0.mk (own_drew OY.out)
            clear l0 l1 l2 l3 v2 LY FY BW
            generalize wr.drew = wd at BY OY hHeld ⊢
            refine pure_ (i := 0) (N := (some 31)) (v := ?_) (a' := ?_) #[true, false, false, false, false, false, false, false, false, false] rfl rfl (by kernel_rfl) (fun _ _ _ h => h) (Or.inl ⟨by rfl, ?_⟩) ?_ ?_
            rotate_left
            · intro w'
              go_simp
              with_reducible rfl
            rotate_left
            · simp only [Act.put, List.setIfInBounds_toArray, List.set_cons_zero, List.set_cons_succ, i64_w, i32_w]
              rfl
            refine pure_ (i := 2) (N := (some 33)) (v := ?_) (a' := ?_) #[true, false, true, false, false, false, false, false, false, false] rfl rfl (by kernel_rfl) (fun _ _ _ h => h) (Or.inl ⟨by rfl, ?_⟩) ?_ ?_
            rotate_left
            · intro w'
              go_simp
              with_reducible rfl
            rotate_left
            · simp only [Act.put, List.setIfInBounds_toArray, List.set_cons_zero, List.set_cons_succ, i64_w, i32_w]
              rfl
            refine pure_ (i := 4) (N := (some 35)) (v := ?_) (a' := ?_) #[true, false, true, false, true, false, false, false, false, false] rfl rfl (by kernel_rfl) (fun _ _ _ h => h) (Or.inl ⟨by rfl, ?_⟩) ?_ ?_
            rotate_left
            · intro w'
              go_simp
              with_reducible rfl
            rotate_left
            · simp only [Act.put, List.setIfInBounds_toArray, List.set_cons_zero, List.set_cons_succ, i64_w, i32_w]
              rfl
            refine take_ (i := 1) (N := (some 32)) (v := ?_) (a' := ?_) #[true, true, true, false, true, false, false, false, false, false] rfl rfl (by kernel_rfl) (fun _ _ _ h => h) (Or.inl ⟨by rfl, ?_⟩) hHeld ?_ ?_
            rotate_left
            · rintro w' ⟨s0, s1, s2, s3, s4⟩
              go_simp
              with_reducible rfl
            rotate_left
            · simp only [Act.put, List.setIfInBounds_toArray, List.set_cons_zero, List.set_cons_succ, i64_w, i32_w]
              rfl
            refine take_ (i := 3) (N := (some 34)) (v := ?_) (a' := ?_) #[true, true, true, true, true, false, false, false, false, false] rfl rfl (by kernel_rfl) (fun _ _ _ h => h) (Or.inl ⟨by rfl, ?_⟩) hHeld ?_ ?_
            rotate_left
            · rintro w' ⟨s0, s1, s2, s3, s4⟩
              go_simp
              with_reducible rfl
            rotate_left
            · simp only [Act.put, List.setIfInBounds_toArray, List.set_cons_zero, List.set_cons_succ, i64_w, i32_w]
              rfl
            refine take_ (i := 5) (N := (some 36)) (v := ?_) (a' := ?_) #[true, true, true, true, true, true, false, false, false, false] rfl rfl (by kernel_rfl) (fun _ _ _ h => h) (Or.inl ⟨by rfl, ?_⟩) hHeld ?_ ?_
            rotate_left
            · rintro w' ⟨s0, s1, s2, s3, s4⟩
              go_simp
              with_reducible rfl
            rotate_left
            · simp only [Act.put, List.setIfInBounds_toArray, List.set_cons_zero, List.set_cons_succ, i64_w, i32_w]
              rfl
            refine one_ (i := 6) (N := (some 37)) #[true, true, true, true, true, true, true, false, false, false] rfl rfl (by kernel_rfl) (by decide) (fun K hK => ?_)
            refine goes_ Tryd.func22 (by kernel_rfl) rfl #[.agg (lnCells l), .int .u8 (((ofL f.has)[k]).toNat : Int)] (by rfl) rfl rfl (by simp only [List.map_toArray, List.map_cons, List.map_nil]; rfl) ?_
            with_reducible refine (HT.out _ BY.out).mono ?_
            rintro e w5 ⟨rfl, hb⟩
            replace OY := Aside0.mk (own_below OY.out hb)
            replace BY := Aside0.mk (below_then BY.out (Nat.le_trans HV.out BY.out.size) hb)
            clear hb
            refine ⟨_, rfl, ?_⟩
            refine hK.out _ _ ⟨(CX.out _ BY.out).1, (CX.out _ BY.out).2.1, (CX.out _ BY.out).2.2.1, (CX.out _ BY.out).2.2.2.1, (CX.out _ BY.out).2.2.2.2⟩ (fun hHeld => ?_)
            clear hK K
            refine norm_ (a' := ?_) ?_ ?_
            rotate_left
            · show Act.put _ (some 37) _ = _
              simp only [Act.put, List.setIfInBounds_toArray, List.set_cons_zero, List.set_cons_succ, i64_w, i32_w]
              rfl
            refine one_ (i := 7) (N := (some 38)) #[true, true, true, true, true, true, true, true, false, false] rfl rfl (by kernel_rfl) (by decide) (fun K hK => ?_)
            refine value_ (v := .slice (some ⟨w5.heap.size, 0, none⟩) 1 1) (w1 := w5.alloc (.cells #[.string (textB l ((ofL f.has)[k]))] 9 (0, 0))) ?_ ?_ ?_ ?_
            · rfl
            · rfl
            · go_simp
            have TB := Aside0.mk (blk_new w5 (.cells #[.string (textB l ((ofL f.has)[k]))] 9 (0, 0)))
            replace OY := Aside0.mk (OY.out.alloc (.cells #[.string (textB l ((ofL f.has)[k]))] 9 (0, 0)))
            replace BY := Aside0.mk (BY.out.alloc (Nat.le_trans HV.out BY.out.size) (.cells #[.string (textB l ((ofL f.has)[k]))] 9 (0, 0)))
            clear hHeld
            generalize w5.alloc (.cells #[.string (textB l ((ofL f.has)[k]))] 9 (0, 0)) = w6 at *
            generalize w5.heap.size = Tm at *
            refine hK.out _ _ ⟨(CX.out _ BY.out).1, (CX.out _ BY.out).2.1, (CX.out _ BY.out).2.2.1, (CX.out _ BY.out).2.2.2.1, (CX.out _ BY.out).2.2.2.2⟩ (fun hHeld => ?_)
            clear hK K
            refine norm_ (a' := ?_) ?_ ?_
            rotate_left
            · show Act.put _ (some 38) _ = _
              simp only [Act.put, List.setIfInBounds_toArray, List.set_cons_zero, List.set_cons_succ, i64_w, i32_w]
              rfl
            refine one_ (i := 8) (N := (some 39)) #[true, true, true, true, true, true, true, true, true, false] rfl rfl (by kernel_rfl) (by decide) (fun K hK => ?_)
            rw [if_pos (by rfl)]
            refine wp_append_own_at (.tmp 31) (.tmp 38) 39 rfl (vb + 1) 9 i9 _ 1 16 Tryd.underlying39 I9.out Z9.out S9.out Y9.out rfl (by decide) _ (k + 1) (((joined l f).take (k + 1)).map Value.string) rfl OY.out ⟨Tm, 0, none⟩ 1 1 [.string (textB l ((ofL f.has)[k]))] rfl rfl ?_ ?_ ?_ ?_ ?_ ?_
            · intro j u hu
              have hj : j < 1 := by have := (List.getElem?_eq_some_iff.1 hu).1; simpa using this
              rw [Addr.add_mid, cell_of_row _ Tm _ _ 9 (0, 0) TB.out]
              simpa using hu
            · intro u hu
              simp at hu
              subst hu
              rfl
            · unfold maxLen; omega
            · omega
            · exact Nat.le_trans HV.out BY.out.size
            intro v' w7 own' grow' _ _
            skip
            have OZ := Aside0.mk (show w7.ownsRow (vb + 1) 9 1 v' (k + 1 + 1) (((joined l f).take (k + 1 + 1)).map Value.string) from by rw [HJ.out, List.map_append]; exact own')
            replace BY : Aside0 (Below (vb + 1) wf w7) := ⟨BY.out.grown grow' (Nat.le_trans HV.out BY.out.size) (fun j hj => own_base OY.out j hj)⟩
            clear own' grow' OY TB hHeld
            refine hK.out _ _ ⟨(CX.out _ BY.out).1, (CX.out _ BY.out).2.1, (CX.out _ BY.out).2.2.1, (CX.out _ BY.out).2.2.2.1, (CX.out _ BY.out).2.2.2.2⟩ (fun hHeld => ?_)
            clear hK K
            refine norm_ (a' := ?_) ?_ ?_
            rotate_left
            · show Act.put _ (some 39) _ = _
              simp only [Act.put, List.setIfInBounds_toArray, List.set_cons_zero, List.set_cons_succ, i64_w, i32_w]
              rfl
            refine pure_ (i := 9) (N := (some 6)) (v := ?_) (a' := ?_) #[true, true, true, true, true, true, true, true, true, true] rfl rfl (by kernel_rfl) (fun _ _ _ h => h) (Or.inl ⟨by rfl, ?_⟩) ?_ ?_
            rotate_left
            · intro w'
              go_simp
              with_reducible rfl
            rotate_left
            · simp only [Act.put, List.setIfInBounds_toArray, List.set_cons_zero, List.set_cons_succ, i64_w, i32_w]
              rfl
            refine done_ (by kernel_rfl) ?_
            go_wp2_with fail
            go_roundg g2
            case measure => omega
            case rel => exact ⟨k + 1, by omega, by go_num, BY, OZ⟩
      · have hve : ((f.verb : Int) == l.verb) = false := by simpa using hv
        have HN := Aside0.mk (show stepF l f = none by unfold stepF; rw [if_neg hv])
        clear hv
        go_wp2_with fail
        go_roundg g
        case measure => omega
        case rel => exact ⟨i + 1, by omega, by go_num, ⟨take_next i _ f hf HI.out HN.out⟩, BF, LF, FF⟩
end Go.Proofs.YtfejbfnjfombhaaDoor.LinG

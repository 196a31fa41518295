/-
  coord's laws: acts as an argument, with all that they have; what a play listens to.
-/
import Derived.Test.YtogjjkbgagedpaaCoGM
namespace Go.Proofs.Ytogjjkbgagedpaa.coordg
open Go.ChangeShapes Go.WideShapes Go.RowKit Go.Maps Go.My Go.ChangeMaps Go.Deep coords
set_option maxRecDepth 100000

variable {w w' : World}

/-- A package's layers have room for what they hold. -/
def LayOk (x : List Value) : Prop := ∀ oa n cap, x[3]? = some (.slice oa n cap) → n ≤ cap

structure PlanOk (w : World) (p : List Value) : Prop where
  is : ∃ (r : Int) (oa : Option Addr) (cap : Nat) (ps : List (List Value)), p = [.int .i64 r, .slice oa ps.length cap] ∧ MsgOk w oa cap ps ∧ inR r ∧ ∀ x ∈ ps, LayOk x

structure ActOk (w : World) (a : List Value) : Prop where
  is : ∃ (k tx : Int) (oap : Option Addr) (capp : Nat) (pl : List (List Value)) (kd f t mt : Int) (y : Bool) (oa : Option Addr) (cap : Nat) (ps : List (List Value)),
    a = [.int .i64 k, .int .i64 tx, .slice oap pl.length capp, .int .i64 kd, .int .i64 f, .int .i64 t, .int .i64 mt, .bool y, .slice oa ps.length cap] ∧
    RowsAt w 2 oap pl ∧ (∀ p ∈ pl, PlanOk w p) ∧ pl.length ≤ capp ∧ capp ≤ maxLen ∧ MsgOk w oa cap ps ∧ inR k ∧ inR tx ∧ inR f ∧ inR t

theorem PlanOk.keptW {p : List Value} (h : PlanOk w p) (hc : Chg (fun k => w.heap.size ≤ k) w w') : PlanOk w' p := by
  obtain ⟨r, oa, cap, ps, h1, h2, h3, h4⟩ := h.is
  exact ⟨r, oa, cap, ps, h1, h2.keptW hc, h3, h4⟩

section
variable {H : Type} {enc : TypeId × Value → H}

theorem cells_act9 : Try.prog.cellsOf 61 = 9 := by kernel_rfl
theorem cells_plans : Try.prog.cellsOf 34 = 1 := by kernel_rfl
theorem cells_plan : Try.prog.cellsOf 33 = 2 := by kernel_rfl

theorem lay_of_trod {W : World} {base : Nat} {sp : Nat → Bool} {held : Bool} {fuel : Nat} {cs : List Value} {y : DataW H × List MemPlace} (h : DataW.trod enc Try.prog W base sp held fuel 94 cs = some y) : LayOk cs := by
  obtain ⟨xs, k, _, _, hlen, hxs, hx⟩ := DataW.trod_struct Try.underlying94 h
  rw [cells_pack] at hlen
  have h1 := hx 1 _ rfl
  have hsz : xs.length = 2 := hxs
  rw [show xs[1]? = some (xs[1]'(by omega)) from List.getElem?_eq_getElem _] at h1
  match cs, hlen with
  | [a0, a1, a2, a3], _ =>
    have h1 : DataW.trod enc Try.prog W base sp held k 92 [a1, a2, a3] = some xs[1] := h1
    obtain ⟨ys, k', _, _, _, hys, hy⟩ := DataW.trod_struct Try.underlying92 h1
    have g2 := hy 2 _ rfl
    have hsy : ys.length = 3 := hys
    rw [show ys[2]? = some (ys[2]'(by omega)) from List.getElem?_eq_getElem _] at g2
    have g2 : DataW.trod enc Try.prog W base sp held k' 90 [a3] = some ys[2] := g2
    obtain ⟨oa, l, cap, e3, c1, _, hr, hel⟩ := open_rows_trod Try.underlying90 cells_ref (by omega) g2
    simp only [List.cons.injEq, and_true] at e3
    subst e3
    intro oa' n' cap' e
    simp only [List.getElem?_cons_succ, List.getElem?_cons_zero, Option.some.injEq, Value.slice.injEq] at e
    omega

theorem plan_of_trod {W : World} {base : Nat} {sp : Nat → Bool} {held : Bool} {fuel : Nat} {cs : List Value} {y : DataW H × List MemPlace} (h : DataW.trod enc Try.prog W base sp held fuel 33 cs = some y) : PlanOk W cs := by
  obtain ⟨hl, k, hf⟩ := trod_fields Try.underlying33 cells_plan rfl (by
    intro i f hf
    match i, hf with
    | 0, hf => cases hf; exact ⟨rfl, cells_int⟩
    | 1, hf => cases hf; exact ⟨rfl, cells_packs⟩
    | i + 2, hf => simp at hf) h
  match cs, hl with
  | [a0, a1], _ =>
    obtain ⟨_, h0⟩ := hf 0 _ _ rfl rfl
    obtain ⟨_, h1⟩ := hf 1 _ _ rfl rfl
    obtain ⟨r, e0, _, z0⟩ := DataW.trod_int Try.underlying3 h0
    obtain ⟨oa, l, cap, e1, c1, c2, hr, hel⟩ := open_rows_trod Try.underlying22 cells_pack (by omega) h1
    simp only [List.cons.injEq, and_true] at e0 e1
    subst e0; subst e1
    exact ⟨r, oa, cap, l, rfl, ⟨hr, fun r hr' => by obtain ⟨_, _, hy'⟩ := hel r hr'; exact pack_of_trod hy', c1, c2⟩, wf_inR z0, fun r hr' => by obtain ⟨_, _, hy'⟩ := hel r hr'; exact lay_of_trod hy'⟩

theorem act_of_trod {W : World} {base : Nat} {sp : Nat → Bool} {held : Bool} {fuel : Nat} {cs : List Value} {y : DataW H × List MemPlace} (h : DataW.trod enc Try.prog W base sp held fuel 61 cs = some y) : ActOk W cs := by
  obtain ⟨xs, k, _, _, hlen, hxs, hx⟩ := DataW.trod_struct Try.underlying61 h
  rw [cells_act9] at hlen
  have h0 := hx 0 _ rfl
  have h1 := hx 1 _ rfl
  have h2 := hx 2 _ rfl
  have h3 := hx 3 _ rfl
  have hsz : xs.length = 4 := hxs
  rw [show xs[0]? = some (xs[0]'(by omega)) from List.getElem?_eq_getElem _] at h0
  rw [show xs[1]? = some (xs[1]'(by omega)) from List.getElem?_eq_getElem _] at h1
  rw [show xs[2]? = some (xs[2]'(by omega)) from List.getElem?_eq_getElem _] at h2
  rw [show xs[3]? = some (xs[3]'(by omega)) from List.getElem?_eq_getElem _] at h3
  match cs, hlen with
  | [a0, a1, a2, a3, a4, a5, a6, a7, a8], _ =>
    have h0 : DataW.trod enc Try.prog W base sp held k 3 [a0] = some xs[0] := h0
    have h1 : DataW.trod enc Try.prog W base sp held k 3 [a1] = some xs[1] := h1
    have h2 : DataW.trod enc Try.prog W base sp held k 34 [a2] = some xs[2] := h2
    have h3 : DataW.trod enc Try.prog W base sp held k 24 [a3, a4, a5, a6, a7, a8] = some xs[3] := h3
    obtain ⟨kk, e0, _, z0⟩ := DataW.trod_int Try.underlying3 h0
    obtain ⟨tx, e1, _, z1⟩ := DataW.trod_int Try.underlying3 h1
    obtain ⟨oap, pl, capp, e2, c1, c2, hr, hel⟩ := open_rows_trod Try.underlying34 cells_plan (by omega) h2
    obtain ⟨kd, f, t, mt, y, oa, cap, ps, e3, hm, -, i1, i2, -⟩ := msg_of_trod h3
    simp only [List.cons.injEq, and_true] at e0 e1 e2 e3
    obtain ⟨rfl, rfl, rfl, rfl, rfl, rfl⟩ := e3
    subst e0; subst e1; subst e2
    exact ⟨kk, tx, oap, capp, pl, kd, f, t, mt, y, oa, cap, ps, rfl, hr, fun p hp => by obtain ⟨_, _, hy'⟩ := hel p hp; exact plan_of_trod hy', c1, c2, hm, wf_inR z0, wf_inR z1, i1, i2⟩

theorem open_acts {W : World} {v : Value} {d : DataW H} {ps : List MemPlace} {r : Reach} {b0 : Nat}
    (hv : Value.okWide Try.prog W r b0 45 v) (h : DataW.Trod enc Try.prog W 0 (fun _ => true) true 45 v d ps) :
    ∃ (oa : Option Addr) (l : List (List Value)) (cap : Nat), v = .slice oa l.length cap ∧ l.length ≤ cap ∧ cap ≤ maxLen ∧ RowsAt W 9 oa l ∧ ∀ x ∈ l, ActOk W x := by
  obtain ⟨oa, l, cap, rfl, h1, h2, h3, h4⟩ := open_rows Try.underlying45 cells_act9 (by omega) hv h
  exact ⟨oa, l, cap, rfl, h1, h2, h3, fun x hx => by obtain ⟨_, _, hy⟩ := h4 x hx; exact act_of_trod hy⟩
end

/-! ### what a play listens to -/
abbrev M3 := (Int × Int × Int) × Value
def cC (T : List (Int × Int × Int)) : Int := ((T.filter (fun t => t.1 == 3)).length : Int)
def cA (n : Int) (T : List (Int × Int × Int)) : Int := ((T.filter (fun t => t.1 == 4 && decide (t.2.1 ≤ n))).length : Int)
def heardC (S : Bool) (yv : Value) (com ab ea : Int) : Array Value := #[.bool S, .bool false, yv, .int .i64 com, .int .i64 ab, .int .i64 ea]

theorem cC_succ {T : List (Int × Int × Int)} {k : Nat} {t : Int × Int × Int} (h : T[k]? = some t) : cC (T.take (k + 1)) = cC (T.take k) + if (t.1 == 3) = true then 1 else 0 := by
  unfold cC
  rw [List.take_add_one, h, Option.toList_some, List.filter_append, List.length_append]
  by_cases h1 : (t.1 == 3) = true <;> simp [h1]
theorem cA_succ {n : Int} {T : List (Int × Int × Int)} {k : Nat} {t : Int × Int × Int} (h : T[k]? = some t) : cA n (T.take (k + 1)) = cA n (T.take k) + if (t.1 == 4 && decide (t.2.1 ≤ n)) = true then 1 else 0 := by
  unfold cA
  rw [List.take_add_one, h, Option.toList_some, List.filter_append, List.length_append]
  by_cases h1 : (t.1 == 4 && decide (t.2.1 ≤ n)) = true
  · rw [if_pos h1, List.filter_cons, if_pos h1]; simp
  · rw [if_neg h1, List.filter_cons, if_neg h1]; simp
theorem cC_le (T : List (Int × Int × Int)) : 0 ≤ cC T ∧ cC T ≤ T.length := ⟨by unfold cC; omega, by unfold cC; have := List.length_filter_le (fun t : Int × Int × Int => t.1 == 3) T; omega⟩
theorem cA_le (n : Int) (T : List (Int × Int × Int)) : 0 ≤ cA n T ∧ cA n T ≤ T.length := ⟨by unfold cA; omega, by unfold cA; have := List.length_filter_le (fun t : Int × Int × Int => t.1 == 4 && decide (t.2.1 ≤ n)) T; omega⟩

theorem wrap1 (a : Int) (h : 0 ≤ a) (h2 : a ≤ 1000000) : wrap64 (a + 1) = a + 1 := IntWalk.wrap64_in _ (by omega)


structure Lst (w wr : World) (hb : Nat) (S : Bool) (yv : Value) (com ab ea : Int) (n : Int) (T : List (Int × Int × Int)) (k : Nat) : Prop where
  head : wr.heap[hb]? = some (.cells (heardC S yv (com + cC (T.take k)) (ab + cA n (T.take k)) (ea + if S = true then 0 else cC (T.take k))) 47 (0, 0))
  chg : Chg (· = hb) w wr

set_option maxHeartbeats 2000000 in
theorem listen_any (w : World) (hb nb : Nat) (n : Int) (S : Bool) (yv : Value) (com ab ea : Int) (T : List M3) (oa : Option Addr) (cap : Nat)
    (hH : w.heap[hb]? = some (.cells (heardC S yv com ab ea) 47 (0, 0))) (hN : w.cell? ⟨nb, 0, none⟩ = some (.int .i64 n)) (hne : nb ≠ hb) (hr : RowsAt w 6 oa (T.map msgR)) (hsl : Slices (T.map (·.2)))
    (hoa : ∀ b off, oa = some ⟨b, off, none⟩ → T ≠ [] → b ≠ hb) (hl : T.length ≤ 10000) (b1 : 0 ≤ com ∧ com ≤ 100000) (b2 : 0 ≤ ab ∧ ab ≤ 100000) (b3 : 0 ≤ ea ∧ ea ≤ 100000) :
    Calls Try.prog 42 #[.slice oa T.length cap, .pointer (some ⟨hb, 0, none⟩), .pointer (some ⟨nb, 0, none⟩)] w fun e w' => e = .returned (.tuple #[]) ∧
      w'.heap[hb]? = some (.cells (heardC S yv (com + cC (T.map (·.1))) (ab + cA n (T.map (·.1))) (ea + if S = true then 0 else cC (T.map (·.1)))) 47 (0, 0)) ∧ Chg (· = hb) w w' := by
  obtain ⟨ef, hef⟩ : ∃ ef, (ea + if S = true then 0 else cC (T.map (·.1))) = ef := ⟨_, rfl⟩
  rw [hef]
  have HEf := Lib.hid hef
  clear hef
  have HH := Lib.hid hH
  have HN := Lib.hid hN
  have HNe := Lib.hid hne
  have HR := Lib.hid hr
  have HSl := Lib.hid hsl
  have HOa := Lib.hid hoa
  have HB := Lib.hid (And.intro b1 (And.intro b2 b3))
  clear hH hN hne hr hsl hoa b1 b2 b3
  go_enter Try.func42, Try.ntmps42
  go_wp2_with fail
  go_loopw [8] (fun j wr => ∃ k : Nat, j = .int .i64 k ∧ k ≤ T.length ∧ Lst w wr hb S yv com ab ea n (T.map (·.1)) k) (fun j _ => T.length - (intOf j).toNat)
  · refine ⟨0, rfl, Nat.zero_le _, ?_, Chg.refl _ _⟩
    rw [HH.out]
    cases S <;> simp [cC, cA]
  obtain ⟨k, rfl, hk, hL⟩ := hrel
  have HL := Lib.hid hL
  clear hL
  by_cases hlt : k < T.length
  · have hki : (k : Int) < (T.length : Int) := by omega
    obtain ⟨⟨⟨kd, to, tx⟩, p⟩, ht⟩ : ∃ t, T[k]? = some t := ⟨T[k], List.getElem?_eq_getElem hlt⟩
    obtain ⟨op, np, cp, rfl⟩ := HSl.out p (List.mem_map.2 ⟨_, List.mem_of_getElem? ht, rfl⟩)
    obtain ⟨b, off, rfl⟩ := HR.out.spot (by intro e; rw [List.map_eq_nil_iff] at e; rw [e] at hlt; simp at hlt)
    have hbne := HOa.out b off rfl (by intro e; rw [e] at hlt; simp at hlt)
    have hcell := fun j v hj => HL.out.chg.cell (HR.out.cell b off rfl k (msgR ((kd, to, tx), .slice op np cp)) j v (by rw [List.getElem?_map, ht]; rfl) hj) (fun e => hbne e)
    have d0 : wr.cell? ⟨b, off + k * 6, none⟩ = some (.int .i64 kd) := hcell 0 _ rfl
    have d1 : wr.cell? ⟨b, off + k * 6 + 1, none⟩ = some (.int .i64 0) := hcell 1 _ rfl
    have d2 : wr.cell? ⟨b, off + k * 6 + 2, none⟩ = some (.int .i64 to) := hcell 2 _ rfl
    have d3 : wr.cell? ⟨b, off + k * 6 + 3, none⟩ = some (.int .i64 tx) := hcell 3 _ rfl
    have d4 : wr.cell? ⟨b, off + k * 6 + 4, none⟩ = some (.bool false) := hcell 4 _ rfl
    have d5 : wr.cell? ⟨b, off + k * 6 + 5, none⟩ = some (.slice op np cp) := hcell 5 _ rfl
    have ht1 : (T.map (·.1))[k]? = some (kd, to, tx) := by rw [List.getElem?_map, ht]; rfl
    have hC := cC_succ ht1
    have hA := cA_succ (n := n) ht1
    have lC := cC_le ((T.map (·.1)).take k)
    have lA := cA_le n ((T.map (·.1)).take k)
    have hlk : ((T.map (·.1)).take k).length ≤ 10000 := by rw [List.length_take, List.length_map]; omega
    have hbb := HB.out
    obtain ⟨cc, hcc⟩ : ∃ cc, cC ((T.map (·.1)).take k) = cc := ⟨_, rfl⟩
    obtain ⟨ca, hca⟩ : ∃ ca, cA n ((T.map (·.1)).take k) = ca := ⟨_, rfl⟩
    rw [hcc] at hC lC
    rw [hca] at hA lA
    have hhd := HL.out.head
    rw [hcc, hca] at hhd
    have HCs := Lib.hid (And.intro hC hA)
    have HCc := Lib.hid (And.intro hcc hca)
    have HLim := Lib.hid (show 0 ≤ com + cc ∧ com + cc ≤ 1000000 ∧ 0 ≤ ab + ca ∧ ab + ca ≤ 1000000 ∧ 0 ≤ ea + cc ∧ ea + cc ≤ 1000000 from ⟨by omega, by omega, by omega, by omega, by omega, by omega⟩)
    have hca0 := (Chg.refl (fun _ => False) wr).alloc (.cells #[.int .i64 kd, .int .i64 0, .int .i64 to, .int .i64 tx, .bool false, .slice op np cp] 24)
    have hN1 : (wr.alloc (.cells #[.int .i64 kd, .int .i64 0, .int .i64 to, .int .i64 tx, .bool false, .slice op np cp] 24)).cell? ⟨nb, 0, none⟩ = some (.int .i64 n) := hca0.cell (HL.out.chg.cell HN.out (fun e => HNe.out e)) id
    obtain ⟨eb, heb⟩ : ∃ eb, (ea + if S = true then 0 else cc) = eb := ⟨_, rfl⟩
    rw [heb] at hhd
    have hha := hca0.at hhd id
    have HHa := Lib.hid hha
    have HEb := Lib.hid heb
    have HCa := Lib.hid hca0
    clear hcell ht hC hA lC lA hlk hbb hcc hca hhd hca0 hha heb ht1
    by_cases c3 : kd = 3
    · have hk3 : (kd == 3) = true := by simp [c3]
      have hk4 : (kd == 4) = false := by simp [c3]
      have HK := Lib.hid c3
      clear c3
      have w1 : wrap64 (com + cc + 1) = com + cc + 1 := wrap1 _ (by have := HLim.out; omega) (by have := HLim.out; omega)
      cases S with
      | true =>
        have ac : (wr.alloc (.cells #[.int .i64 kd, .int .i64 0, .int .i64 to, .int .i64 tx, .bool false, .slice op np cp] 24)).cell? ⟨hb, 3, none⟩ = some (.int .i64 (com + cc)) := cell_of_block HHa.out rfl
        have az : (wr.alloc (.cells #[.int .i64 kd, .int .i64 0, .int .i64 to, .int .i64 tx, .bool false, .slice op np cp] 24)).frozen? ⟨hb, 3, none⟩ = false := free_of_block HHa.out
        have hb2 := block_setCell (i := 3) (v := .int .i64 (com + cc + 1)) HHa.out
        have HB2 := Lib.hid hb2
        have sc : ((wr.alloc (.cells #[.int .i64 kd, .int .i64 0, .int .i64 to, .int .i64 tx, .bool false, .slice op np cp] 24)).setCell ⟨hb, 3, none⟩ (.int .i64 (com + cc + 1))).cell? ⟨hb, 0, none⟩ = some (.bool true) := cell_of_block HB2.out rfl
        have sz : ((wr.alloc (.cells #[.int .i64 kd, .int .i64 0, .int .i64 to, .int .i64 tx, .bool false, .slice op np cp] 24)).setCell ⟨hb, 3, none⟩ (.int .i64 (com + cc + 1))).frozen? ⟨hb, 0, none⟩ = false := free_of_block HB2.out
        clear hb2
        go_wp2_with fail
        clear w1
        refine ⟨⟨k + 1, by go_num, hlt, ?_, ?_⟩, meas_step hlt⟩
        · rw [HCs.out.1, HCs.out.2, if_pos hk3, if_neg (by simp [hk4])]
          have h := HB2.out
          rw [← HEb.out] at h
          simp only [if_pos trivial, Int.add_zero] at h ⊢
          rw [show com + (cc + 1) = com + cc + 1 by omega]
          simpa [heardC] using h
        · exact (HL.out.chg.trans' (HCa.out.mono (fun _ _ h => h.elim))).setCell (fun _ => rfl) _
      | false =>
        have w3 : wrap64 (eb + 1) = eb + 1 := wrap1 _ (by have := HLim.out; have := HEb.out; simp at this; omega) (by have := HLim.out; have := HEb.out; simp at this; omega)
        have ac : (wr.alloc (.cells #[.int .i64 kd, .int .i64 0, .int .i64 to, .int .i64 tx, .bool false, .slice op np cp] 24)).cell? ⟨hb, 3, none⟩ = some (.int .i64 (com + cc)) := cell_of_block HHa.out rfl
        have az : (wr.alloc (.cells #[.int .i64 kd, .int .i64 0, .int .i64 to, .int .i64 tx, .bool false, .slice op np cp] 24)).frozen? ⟨hb, 3, none⟩ = false := free_of_block HHa.out
        have hb2 := block_setCell (i := 3) (v := .int .i64 (com + cc + 1)) HHa.out
        have HB2 := Lib.hid hb2
        have sc : ((wr.alloc (.cells #[.int .i64 kd, .int .i64 0, .int .i64 to, .int .i64 tx, .bool false, .slice op np cp] 24)).setCell ⟨hb, 3, none⟩ (.int .i64 (com + cc + 1))).cell? ⟨hb, 0, none⟩ = some (.bool false) := cell_of_block HB2.out rfl
        have sz : ((wr.alloc (.cells #[.int .i64 kd, .int .i64 0, .int .i64 to, .int .i64 tx, .bool false, .slice op np cp] 24)).setCell ⟨hb, 3, none⟩ (.int .i64 (com + cc + 1))).frozen? ⟨hb, 0, none⟩ = false := free_of_block HB2.out
        have tc : ((wr.alloc (.cells #[.int .i64 kd, .int .i64 0, .int .i64 to, .int .i64 tx, .bool false, .slice op np cp] 24)).setCell ⟨hb, 3, none⟩ (.int .i64 (com + cc + 1))).cell? ⟨hb, 5, none⟩ = some (.int .i64 eb) := cell_of_block HB2.out rfl
        have tz : ((wr.alloc (.cells #[.int .i64 kd, .int .i64 0, .int .i64 to, .int .i64 tx, .bool false, .slice op np cp] 24)).setCell ⟨hb, 3, none⟩ (.int .i64 (com + cc + 1))).frozen? ⟨hb, 5, none⟩ = false := free_of_block HB2.out
        have hb3 := block_setCell (i := 5) (v := .int .i64 (eb + 1)) HB2.out
        have HB3 := Lib.hid hb3
        clear hb2 hb3
        go_wp2_with fail
        clear w1 w3
        refine ⟨⟨k + 1, by go_num, hlt, ?_, ?_⟩, meas_step hlt⟩
        · rw [HCs.out.1, HCs.out.2, if_pos hk3, if_neg (by simp [hk4])]
          have h := HB3.out
          have he := HEb.out
          simp only [Bool.false_eq_true, if_false, Int.add_zero] at he ⊢
          rw [show com + (cc + 1) = com + cc + 1 by omega, show ea + (cc + 1) = eb + 1 by omega]
          simpa [heardC] using h
        · exact ((HL.out.chg.trans' (HCa.out.mono (fun _ _ h => h.elim))).setCell (fun _ => rfl) _).setCell (fun _ => rfl) _
    · have hk3 : (kd == 3) = false := by simp [c3]
      clear c3
      by_cases c4 : kd = 4 ∧ to ≤ n
      · have hk4 : (kd == 4) = true := by simp [c4.1]
        have hto : to ≤ n := c4.2
        have w2 : wrap64 (ab + ca + 1) = ab + ca + 1 := wrap1 _ (by have := HLim.out; omega) (by have := HLim.out; omega)
        clear c4
        have ac : (wr.alloc (.cells #[.int .i64 kd, .int .i64 0, .int .i64 to, .int .i64 tx, .bool false, .slice op np cp] 24)).cell? ⟨hb, 4, none⟩ = some (.int .i64 (ab + ca)) := cell_of_block HHa.out rfl
        have az : (wr.alloc (.cells #[.int .i64 kd, .int .i64 0, .int .i64 to, .int .i64 tx, .bool false, .slice op np cp] 24)).frozen? ⟨hb, 4, none⟩ = false := free_of_block HHa.out
        have hb2 := block_setCell (i := 4) (v := .int .i64 (ab + ca + 1)) HHa.out
        have HB2 := Lib.hid hb2
        clear hb2
        go_wp2_with fail
        clear w2
        refine ⟨⟨k + 1, by go_num, hlt, ?_, ?_⟩, meas_step hlt⟩
        · rw [HCs.out.1, HCs.out.2, if_neg (by simp [hk3]), if_pos (by simp [hk4, hto])]
          have h := HB2.out
          rw [← HEb.out] at h
          rw [Int.add_zero, show ab + (ca + 1) = ab + ca + 1 by omega]
          simpa [heardC] using h
        · exact (HL.out.chg.trans' (HCa.out.mono (fun _ _ h => h.elim))).setCell (fun _ => rfl) _
      · have hno : ¬ (kd == 4 && decide (to ≤ n)) = true := by simpa using c4
        have hcase : (kd == 4) = false ∨ ((kd == 4) = true ∧ ¬ to ≤ n) := by
          by_cases h1 : kd = 4
          · exact Or.inr ⟨by simp [h1], fun h2 => c4 ⟨h1, h2⟩⟩
          · exact Or.inl (by simp [h1])
        have HNo := Lib.hid hno
        clear c4 hno
        rcases hcase with hk4 | ⟨hk4, hto⟩
        all_goals go_wp2_with fail
        all_goals refine ⟨⟨k + 1, by go_num, hlt, ?_, HL.out.chg.trans' (HCa.out.mono (fun _ _ h => h.elim))⟩, meas_step hlt⟩
        all_goals rw [HCs.out.1, HCs.out.2, if_neg (by simp [hk3]), if_neg HNo.out, Int.add_zero, Int.add_zero, HEb.out]
        all_goals exact HHa.out
  · have hki : ¬ (k : Int) < (T.length : Int) := by omega
    have HKl := Lib.hid (show k = T.length by omega)
    go_wp2_with fail
    first | go_end0 | refine bodyPost_ret (results_none rfl _ _ _) rfl ?_
    have h := HL.out
    have hh := h.head
    rw [HKl.out, show T.length = (T.map (·.1)).length from (List.length_map _).symm, List.take_length, HEf.out] at hh
    exact ⟨rfl, hh, h.chg⟩

end Go.Proofs.Ytogjjkbgagedpaa.coordg

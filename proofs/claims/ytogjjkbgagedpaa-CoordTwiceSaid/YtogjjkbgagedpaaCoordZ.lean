/-
  coord's laws: a message as an argument, with all that it has; the reference's Same of messages without packages; short.
-/
import Derived.Test.YtogjjkbgagedpaaCoordY
import Derived.Test.YtogjjkbgagedpaaCoordS
namespace Go.Proofs.Ytogjjkbgagedpaa.coords
open Go.ChangeShapes Go.WideShapes Go.RowKit Go.Maps Go.My Go.ChangeMaps Go.Deep
set_option maxRecDepth 100000

variable {w w' : World} {c q x qa : Nat} {F F' Fc : Nat → Prop} {lim : Int} {m : List (Int × Nat)} {E : EV} {pv : Value}

section
variable {H : Type} {enc : TypeId × Value → H}

theorem ints_of_array {W : World} {base : Nat} {sp : Nat → Bool} {held : Bool} {e t n fuel : Nat} {q : IntKind} {cs : List Value} {y : DataW H × List MemPlace} (he : Try.prog.underlying e = some (.array n t)) (ht : Try.prog.underlying t = some (.int q)) (hc : Try.prog.cellsOf t = 1) (hn : Try.prog.cellsOf e = n)
    (h : DataW.trod enc Try.prog W base sp held fuel e cs = some y) : ∃ zs : List Int, cs = zs.map (.int q) ∧ zs.length = n ∧ ∀ z ∈ zs, (Lit.int q z).wf = true := by
  obtain ⟨xs, k, _, _, hlen, hxs, hx⟩ := DataW.trod_array he h
  rw [hn] at hlen
  have one : ∀ i, i < n → ∃ z, cs[i]? = some (.int q z) ∧ (Lit.int q z).wf = true := by
    intro i hi
    have h4 := hx i hi
    rw [List.getElem?_eq_getElem (by omega)] at h4
    obtain ⟨z, h5, _, h6⟩ := DataW.trod_int ht h4
    refine ⟨z, ?_, h6⟩
    rw [hc, Nat.mul_one] at h5
    have : ((cs.drop i).take 1)[0]? = some (.int q z) := by rw [h5]; rfl
    rwa [List.getElem?_take_of_lt (by omega), List.getElem?_drop, Nat.add_zero] at this
  obtain ⟨Z, hZ⟩ := choose_lt (α := Int) one
  refine ⟨(List.range n).map Z, ?_, by simp, ?_⟩
  · apply List.ext_getElem?
    intro i
    by_cases hi : i < n
    · rw [(hZ i hi).1]; simp [hi]
    · rw [List.getElem?_eq_none (l := cs) (by omega), List.getElem?_eq_none (by simp; omega)]
  · intro z hz
    simp only [List.mem_map, List.mem_range] at hz
    obtain ⟨i, hi, rfl⟩ := hz
    exact (hZ i hi).2

theorem cells_u8 : Try.prog.cellsOf 5 = 1 := by kernel_rfl
theorem cells_dig : Try.prog.cellsOf 125 = 32 := by kernel_rfl
theorem cells_ref : Try.prog.cellsOf 127 = 33 := by kernel_rfl
theorem cells_man : Try.prog.cellsOf 92 = 3 := by kernel_rfl
theorem cells_pack : Try.prog.cellsOf 94 = 4 := by kernel_rfl
theorem cells_str : Try.prog.cellsOf 9 = 1 := by kernel_rfl
theorem cells_refs : Try.prog.cellsOf 90 = 1 := by kernel_rfl
theorem cells_packs : Try.prog.cellsOf 22 = 1 := by kernel_rfl
theorem cells_msg : Try.prog.cellsOf 24 = 6 := by kernel_rfl
theorem types_some : ∃ m, Try.prog.types.size = m + 1 := ⟨Try.prog.types.size - 1, by decide +kernel⟩

theorem take1 {α : Type} {l : List α} {i : Nat} {a : α} (h : (l.drop i).take 1 = [a]) : l[i]? = some a := by
  have h1 : ((l.drop i).take 1)[0]? = some a := by rw [h]; rfl
  rwa [List.getElem?_take_of_lt (by omega), List.getElem?_drop, Nat.add_zero] at h1

theorem ref_of_trod {W : World} {base : Nat} {sp : Nat → Bool} {held : Bool} {fuel : Nat} {cs : List Value} {y : DataW H × List MemPlace} (h : DataW.trod enc Try.prog W base sp held fuel 127 cs = some y) : RefOk cs := by
  obtain ⟨xs, k, _, _, hlen, hxs, hx⟩ := DataW.trod_struct Try.underlying127 h
  rw [cells_ref] at hlen
  have h0 := hx 0 _ rfl
  have h1 := hx 1 _ rfl
  have hsz : xs.length = 2 := hxs
  rw [show xs[0]? = some (xs[0]'(by omega)) from List.getElem?_eq_getElem _] at h0
  rw [show xs[1]? = some (xs[1]'(by omega)) from List.getElem?_eq_getElem _] at h1
  have h0 : DataW.trod enc Try.prog W base sp held k 125 (cs.take 32) = some xs[0] := h0
  have h1 : DataW.trod enc Try.prog W base sp held k 3 ((cs.drop 32).take 1) = some xs[1] := h1
  obtain ⟨zs, hz, hzl, -⟩ := ints_of_array Try.underlying125 Try.underlying5 cells_u8 cells_dig h0
  obtain ⟨n, hn, _, _⟩ := DataW.trod_int Try.underlying3 h1
  refine ⟨zs, n, ?_, hzl, ?_⟩
  · unfold refC digC
    rw [← hz, ← hn]
    have : (cs.drop 32).take 1 = cs.drop 32 := List.take_of_length_le (by rw [List.length_drop]; omega)
    rw [this, List.take_append_drop]
  · have hd : DataW.Trod enc Try.prog W base sp held 125 (.agg (digC zs).toArray) xs[0].1 xs[0].2 := ⟨k, by
      rw [show (Value.agg (digC zs).toArray).cells.toList = digC zs from by simp [Value.cells]]
      rw [show digC zs = zs.map (Value.int .u8) from rfl, ← hz, h0]⟩
    obtain ⟨ls, _, _, hk⟩ := WideMaps.open_arr arrD Try.underlying5 types_some (by simp [digC, hzl]) hd
    exact ⟨_, hk⟩

theorem pack_of_trod {W : World} {base : Nat} {sp : Nat → Bool} {held : Bool} {fuel : Nat} {cs : List Value} {y : DataW H × List MemPlace} (h : DataW.trod enc Try.prog W base sp held fuel 94 cs = some y) : PackOk W cs := by
  obtain ⟨xs, k, _, _, hlen, hxs, hx⟩ := DataW.trod_struct Try.underlying94 h
  rw [cells_pack] at hlen
  have h0 := hx 0 _ rfl
  have h1 := hx 1 _ rfl
  have hsz : xs.length = 2 := hxs
  rw [show xs[0]? = some (xs[0]'(by omega)) from List.getElem?_eq_getElem _] at h0
  rw [show xs[1]? = some (xs[1]'(by omega)) from List.getElem?_eq_getElem _] at h1
  match cs, hlen with
  | [a0, a1, a2, a3], _ =>
    have h0 : DataW.trod enc Try.prog W base sp held k 3 [a0] = some xs[0] := h0
    have h1 : DataW.trod enc Try.prog W base sp held k 92 [a1, a2, a3] = some xs[1] := h1
    obtain ⟨ow, e0, _, _⟩ := DataW.trod_int Try.underlying3 h0
    obtain ⟨ys, k', _, _, _, hys, hy⟩ := DataW.trod_struct Try.underlying92 h1
    have g0 := hy 0 _ rfl
    have g1 := hy 1 _ rfl
    have g2 := hy 2 _ rfl
    have hsy : ys.length = 3 := hys
    rw [show ys[0]? = some (ys[0]'(by omega)) from List.getElem?_eq_getElem _] at g0
    rw [show ys[1]? = some (ys[1]'(by omega)) from List.getElem?_eq_getElem _] at g1
    rw [show ys[2]? = some (ys[2]'(by omega)) from List.getElem?_eq_getElem _] at g2
    have g0 : DataW.trod enc Try.prog W base sp held k' 9 [a1] = some ys[0] := g0
    have g1 : DataW.trod enc Try.prog W base sp held k' 9 [a2] = some ys[1] := g1
    have g2 : DataW.trod enc Try.prog W base sp held k' 90 [a3] = some ys[2] := g2
    obtain ⟨s1, e1, _, z1⟩ := DataW.trod_string Try.underlying9 g0
    obtain ⟨s2, e2, _, z2⟩ := DataW.trod_string Try.underlying9 g1
    obtain ⟨oa, l, cap, e3, _, _, hr, hel⟩ := open_rows_trod Try.underlying90 cells_ref (by omega) g2
    simp only [List.cons.injEq, and_true] at e0 e1 e2 e3
    subst e0; subst e1; subst e2; subst e3
    refine ⟨ow, s1, s2, oa, l, cap, rfl, z1, z2, hr, fun x hx' => ?_⟩
    obtain ⟨_, _, hy'⟩ := hel x hx'
    exact ref_of_trod hy'

theorem msg_of_trod {W : World} {base : Nat} {sp : Nat → Bool} {held : Bool} {fuel : Nat} {cs : List Value} {y : DataW H × List MemPlace} (h : DataW.trod enc Try.prog W base sp held fuel 24 cs = some y) :
    ∃ (kd f t tx : Int) (y : Bool) (oa : Option Addr) (cap : Nat) (ps : List (List Value)), cs = [.int .i64 kd, .int .i64 f, .int .i64 t, .int .i64 tx, .bool y, .slice oa ps.length cap] ∧ MsgOk W oa cap ps ∧ inR kd ∧ inR f ∧ inR t ∧ inR tx := by
  obtain ⟨hl, k, hf⟩ := trod_fields Try.underlying24 cells_msg rfl (by
    intro i f hf
    match i, hf with
    | 0, hf => cases hf; exact ⟨rfl, cells_int⟩
    | 1, hf => cases hf; exact ⟨rfl, cells_int⟩
    | 2, hf => cases hf; exact ⟨rfl, cells_int⟩
    | 3, hf => cases hf; exact ⟨rfl, cells_int⟩
    | 4, hf => cases hf; exact ⟨rfl, cells_bool⟩
    | 5, hf => cases hf; exact ⟨rfl, cells_packs⟩
    | i + 6, hf => simp at hf) h
  match cs, hl with
  | [a0, a1, a2, a3, a4, a5], _ =>
    obtain ⟨_, h0⟩ := hf 0 _ _ rfl rfl
    obtain ⟨_, h1⟩ := hf 1 _ _ rfl rfl
    obtain ⟨_, h2⟩ := hf 2 _ _ rfl rfl
    obtain ⟨_, h3⟩ := hf 3 _ _ rfl rfl
    obtain ⟨_, h4⟩ := hf 4 _ _ rfl rfl
    obtain ⟨_, h5⟩ := hf 5 _ _ rfl rfl
    obtain ⟨kd, e0, _, z0⟩ := DataW.trod_int Try.underlying3 h0
    obtain ⟨f, e1, _, z1⟩ := DataW.trod_int Try.underlying3 h1
    obtain ⟨t, e2, _, z2⟩ := DataW.trod_int Try.underlying3 h2
    obtain ⟨tx, e3, _, z3⟩ := DataW.trod_int Try.underlying3 h3
    obtain ⟨y, e4, _⟩ := DataW.trod_bool Try.underlying4 h4
    obtain ⟨oa, l, cap, e5, c1, c2, hr, hel⟩ := open_rows_trod Try.underlying22 cells_pack (by omega) h5
    simp only [List.cons.injEq, and_true] at e0 e1 e2 e3 e4 e5
    subst e0; subst e1; subst e2; subst e3; subst e4; subst e5
    exact ⟨kd, f, t, tx, y, oa, cap, l, rfl, ⟨hr, fun r hr' => by obtain ⟨_, _, hy'⟩ := hel r hr'; exact pack_of_trod hy', c1, c2⟩, wf_inR z0, wf_inR z1, wf_inR z2, wf_inR z3⟩

theorem open_msg {W : World} {v : Value} {d : DataW H} {ps : List MemPlace} {r : Reach} {b0 : Nat}
    (hv : Value.okWide Try.prog W r b0 24 v) (h : DataW.Trod enc Try.prog W 0 (fun _ => true) true 24 v d ps) :
    ∃ (kd f t tx : Int) (y : Bool) (oa : Option Addr) (cap : Nat) (ps : List (List Value)), v = .agg #[.int .i64 kd, .int .i64 f, .int .i64 t, .int .i64 tx, .bool y, .slice oa ps.length cap] ∧ MsgOk W oa cap ps ∧ inR kd ∧ inR f ∧ inR t ∧ inR tx := by
  obtain ⟨cs, rfl, hsz⟩ := okWide_struct Try.underlying24 hv
  obtain ⟨fuel, hf⟩ := h
  obtain ⟨kd, f, t, tx, y, oa, cap, ps, e, h1, h2, h3, h4, h5⟩ := msg_of_trod hf
  have e0 : (Value.agg cs).cells.toList = cs.toList := by simp [Value.cells]
  rw [e0] at e
  exact ⟨kd, f, t, tx, y, oa, cap, ps, congrArg Value.agg (Array.toList_inj.1 e), h1, h2, h3, h4, h5⟩
end

theorem size_msg : (Try.prog.info? 24).map (·.size) = some 6 := by kernel_rfl
theorem load_msg {b : Nat} {l : List Value} (h : Arr w b 24 l) (h6 : l.length = 6) : (loadVar 24 ⟨b, 0, none⟩).run Try.prog w = .ok (.agg l.toArray) w :=
  run_loadVar_mid (P := Try.prog) _ b 0 24 l _ h.range Try.underlying24 rfl (by rw [h6]; exact size_msg)

def msgV (kd f t tx : Int) (y : Bool) (pk : Value) : List Value := [.int .i64 kd, .int .i64 f, .int .i64 t, .int .i64 tx, .bool y, pk]

structure MsgTo (w : World) (b : Nat) (l : List Value) : Prop where
  there : w.there b 0 l.toArray.size
  size : (Try.prog.info? 24).map (·.size) = some l.toArray.size
  one : l.toArray.all (·.oneCell') = true
  chg : Chg (· = b) w (w.setCells b 0 l)
  arr : Arr (w.setCells b 0 l) b 24 l

theorem msg_to {b : Nat} {l0 : List Value} (h : Arr w b 24 l0) (h6 : l0.length = 6) (kd f t tx : Int) (y : Bool) (oa : Option Addr) (n cap : Nat) : MsgTo w b (msgV kd f t tx y (.slice oa n cap)) :=
  ⟨by have := h.there; rw [h6] at this; exact this, size_msg, all_oneCell_toArray (by intro v hv; simp only [msgV, List.mem_cons, List.not_mem_nil, or_false] at hv; rcases hv with rfl | rfl | rfl | rfl | rfl | rfl <;> rfl), chg_setCells b _ 0 w, h.all (by rw [h6]; rfl)⟩


theorem MsgOk.few {oa : Option Addr} {cap : Nat} {ps : List (List Value)} (h : MsgOk w oa cap ps) : MsgOk w oa cap (ps.take 3) :=
  ⟨⟨fun hne => h.rows.spot (by intro e; rw [e] at hne; simp at hne), fun i r hr => h.rows.row i r (by rw [List.getElem?_take] at hr; split at hr; exact hr; cases hr), fun b off ho i r j v hi hj => h.rows.cell b off ho i r j v (by rw [List.getElem?_take] at hi; split at hi; exact hi; cases hi) hj⟩,
    fun r hr => h.each r (List.mem_of_mem_take hr), Nat.le_trans (by rw [List.length_take]; omega) h.hcap, h.hcapm⟩

theorem PackOk.keptW {r : List Value} (h : PackOk w r) (hc : Chg (fun k => w.heap.size ≤ k) w w') : PackOk w' r := by
  obtain ⟨ow, nm, vr, oa, rows, cap, h1, h2, h3, h4, h5⟩ := h.is
  exact ⟨ow, nm, vr, oa, rows, cap, h1, h2, h3, h4.kept hc (fun _ h1 h2 => by omega), h5⟩

theorem MsgOk.keptW {oa : Option Addr} {cap : Nat} {ps : List (List Value)} (h : MsgOk w oa cap ps) (hc : Chg (fun k => w.heap.size ≤ k) w w') : MsgOk w' oa cap ps :=
  ⟨h.rows.kept hc (fun _ h1 h2 => by omega), fun r hr => (h.each r hr).keptW hc, h.hcap, h.hcapm⟩

/-- A message whose packages are few. -/
theorem short_any (w : World) (kd f t tx : Int) (y : Bool) (oa : Option Addr) (cap : Nat) (ps : List (List Value)) (h : MsgOk w oa cap ps) :
    Calls Try.prog 11 #[.agg #[.int .i64 kd, .int .i64 f, .int .i64 t, .int .i64 tx, .bool y, .slice oa ps.length cap]] w fun e w' => e = .returned (.agg #[.int .i64 kd, .int .i64 f, .int .i64 t, .int .i64 tx, .bool y, .slice oa (ps.take 3).length cap]) ∧ Chg (fun _ => False) w w' := by
  have H := Lib.hid h
  have hcap := h.hcap
  clear h
  by_cases h3 : 3 < ps.length
  · have h3i : (3 : Int) < (ps.length : Int) := by omega
    have h3c : (3 : Int) ≤ (cap : Int) := by omega
    have h3n : (ps.take 3).length = 3 := by rw [List.length_take]; omega
    obtain ⟨b, off, rfl⟩ := H.out.rows.spot (by intro e; rw [e] at h3; simp at h3)
    rw [h3n]
    go_enter Try.func11, Try.ntmps11
    go_wp2_with fail
    obtain ⟨w1, hw1⟩ : ∃ w1, (w.alloc (.cells #[.int .i64 kd, .int .i64 f, .int .i64 t, .int .i64 tx, .bool y, .slice (some ⟨b, off, none⟩) 3 cap] 24)).alloc (.cells #[.int .i64 kd, .int .i64 f, .int .i64 t, .int .i64 tx, .bool y, .slice (some ⟨b, off, none⟩) 3 cap] 24) = w1 := ⟨_, rfl⟩
    rw [hw1]
    have hb1 : Arr w1 (w.heap.size + 1) 24 (msgV kd f t tx y (.slice (some ⟨b, off, none⟩) 3 cap)) := by
      subst hw1; unfold Arr; simp only [heap_alloc_get, World.size_alloc]; rw [if_pos trivial]; rfl
    have hc1 : Chg (fun _ => False) w w1 := by subst hw1; exact ((Chg.refl _ _).alloc _).alloc _
    refine bodyPost_ret (result1 rfl _ rfl (load_msg hb1 rfl)) rfl ?_
    exact ⟨rfl, hc1⟩
  · have h3i : ¬ (3 : Int) < (ps.length : Int) := by omega
    rw [List.take_of_length_le (show ps.length ≤ 3 by omega)]
    go_enter Try.func11, Try.ntmps11
    go_wp2_with fail
    obtain ⟨w1, hw1⟩ : ∃ w1, (w.alloc (.cells #[.int .i64 kd, .int .i64 f, .int .i64 t, .int .i64 tx, .bool y, .slice oa ps.length cap] 24)).alloc (.cells #[.int .i64 kd, .int .i64 f, .int .i64 t, .int .i64 tx, .bool y, .slice oa ps.length cap] 24) = w1 := ⟨_, rfl⟩
    rw [hw1]
    have hb1 : Arr w1 (w.heap.size + 1) 24 (msgV kd f t tx y (.slice oa ps.length cap)) := by
      subst hw1; unfold Arr; simp only [heap_alloc_get, World.size_alloc]; rw [if_pos trivial]; rfl
    have hc1 : Chg (fun _ => False) w w1 := by subst hw1; exact ((Chg.refl _ _).alloc _).alloc _
    refine bodyPost_ret (result1 rfl _ rfl (load_msg hb1 rfl)) rfl ?_
    exact ⟨rfl, hc1⟩

/-- Two lists of one message each, alike, without packages. -/
theorem same13_nil (w : World) : Calls Try.prog 78 #[.slice none 0 0, .slice none 0 0] w fun e w' => e = .returned (.bool true) ∧ w = w' := by
  go_enter Try.func78, Try.ntmps78
  go_wp2_with fail
  go_loopw [5] (fun j wr => j = .int .i64 0 ∧ w = wr) (fun _ _ => 0)
  · exact ⟨rfl, rfl⟩
  obtain ⟨rfl, rfl⟩ := hrel
  go_wp2_with fail
  go_ret
  exact ⟨rfl, rfl⟩

theorem same14_plain (w : World) (kd f t tx : Int) (y : Bool) : Calls Try.prog 61 #[.agg (msgC kd f t tx y).toArray, .agg (msgC kd f t tx y).toArray] w fun e w' => e = .returned (.bool true) ∧ Chg (fun _ => False) w w' := by
  unfold msgC
  cases y
  all_goals go_enter Try.func61, Try.ntmps61
  all_goals go_wp2_with (go_at_call 78; refine (same13_nil _).mono ?_; rintro e w1 ⟨rfl, rfl⟩)
  all_goals go_ret
  all_goals exact ⟨rfl, ((Chg.refl _ _).alloc _).alloc _⟩

theorem sameall_one (w : World) (g1 g2 : Nat) (c1 c2 : Nat) (kd t tx : Int) (h1 : w.heap[g1]? = some (.cells (msgC kd 0 t tx false).toArray 24 (0, 0))) (h2 : w.heap[g2]? = some (.cells (msgC kd 0 t tx false).toArray 24 (0, 0))) :
    Calls Try.prog 40 #[.slice (some ⟨g1, 0, none⟩) 1 c1, .slice (some ⟨g2, 0, none⟩) 1 c2] w fun e w' => e = .returned (.bool true) ∧ Chg (fun _ => False) w w' := by
  have H1 := Lib.hid h1
  have H2 := Lib.hid h2
  clear h1 h2
  go_enter Try.func40, Try.ntmps40
  go_wp2_with fail
  go_loopw [5] (fun j wr => ∃ k : Nat, j = .int .i64 k ∧ k ≤ 1 ∧ Chg (fun _ => False) w wr) (fun j _ => 1 - (intOf j).toNat)
  · exact ⟨0, rfl, Nat.zero_le _, Chg.refl _ _⟩
  obtain ⟨k, rfl, hk, hc⟩ := hrel
  have HC := Lib.hid hc
  have l1 : (loadVar 24 ⟨g1, 0, none⟩).run Try.prog wr = .ok (.agg (msgC kd 0 t tx false).toArray) wr := load_msg (show Arr wr g1 24 _ from hc.at H1.out id) rfl
  have l2 : (loadVar 24 ⟨g2, 0, none⟩).run Try.prog wr = .ok (.agg (msgC kd 0 t tx false).toArray) wr := load_msg (show Arr wr g2 24 _ from hc.at H2.out id) rfl
  have hb1 := hc.at H1.out id
  have hb2 := hc.at H2.out id
  have d0 := cell_of_block (i := 0) hb1 rfl
  have d1 := cell_of_block (i := 1) hb1 rfl
  have d2 := cell_of_block (i := 2) hb1 rfl
  have d3 := cell_of_block (i := 3) hb1 rfl
  have d4 := cell_of_block (i := 4) hb1 rfl
  have d5 := cell_of_block (i := 5) hb1 rfl
  have e0 := cell_of_block (i := 0) hb2 rfl
  have e1 := cell_of_block (i := 1) hb2 rfl
  have e2 := cell_of_block (i := 2) hb2 rfl
  have e3 := cell_of_block (i := 3) hb2 rfl
  have e4 := cell_of_block (i := 4) hb2 rfl
  have e5 := cell_of_block (i := 5) hb2 rfl
  have HS := Lib.hid (And.intro d0 (And.intro d1 (And.intro d2 (And.intro d3 (And.intro d4 (And.intro d5 (And.intro e0 (And.intro e1 (And.intro e2 (And.intro e3 (And.intro e4 e5)))))))))))
  clear hc hb1 hb2 l1 l2 d0 d1 d2 d3 d4 d5 e0 e1 e2 e3 e4 e5
  rcases (by omega : k = 0 ∨ k = 1) with rfl | rfl
  · go_wp2_with fail
    refine wp_region_noPanic ?_
    refine wp_region_held_drew (S := (fun w' => w'.cell? ⟨g1, 0, none⟩ = some (.int .i64 kd) ∧ w'.cell? ⟨g1, 1, none⟩ = some (.int .i64 0) ∧ w'.cell? ⟨g1, 2, none⟩ = some (.int .i64 t) ∧ w'.cell? ⟨g1, 3, none⟩ = some (.int .i64 tx) ∧ w'.cell? ⟨g1, 4, none⟩ = some (.bool false) ∧ w'.cell? ⟨g1, 5, none⟩ = some (.slice none 0 0) ∧ w'.cell? ⟨g2, 0, none⟩ = some (.int .i64 kd) ∧ w'.cell? ⟨g2, 1, none⟩ = some (.int .i64 0) ∧ w'.cell? ⟨g2, 2, none⟩ = some (.int .i64 t) ∧ w'.cell? ⟨g2, 3, none⟩ = some (.int .i64 tx) ∧ w'.cell? ⟨g2, 4, none⟩ = some (.bool false) ∧ w'.cell? ⟨g2, 5, none⟩ = some (.slice none 0 0))) (by kernel_rfl) (HS.out) (fun hHeld => ?_)
    refine take_list (i := 0) (v := ?_) rfl (by kernel_rfl) (by kernel_rfl) (by kernel_rfl) (fun _ _ _ h => h) (Or.inl ⟨by rfl, fun w hSw => ?_⟩) hHeld ?_
    rotate_left
    · (obtain ⟨k1, k2, k3, k4, k5, k6, k7, k8, k9, k10, k11, k12⟩ := hSw; go_simp)
      try with_reducible rfl
    simp only [Act.put, List.setIfInBounds_toArray, List.set_cons_zero, List.set_cons_succ]
    refine take_list (i := 1) (v := ?_) rfl (by kernel_rfl) (by kernel_rfl) (by kernel_rfl) (fun _ _ _ h => h) (Or.inl ⟨by rfl, fun w hSw => ?_⟩) hHeld ?_
    rotate_left
    · (obtain ⟨k1, k2, k3, k4, k5, k6, k7, k8, k9, k10, k11, k12⟩ := hSw; go_simp)
      try with_reducible rfl
    simp only [Act.put, List.setIfInBounds_toArray, List.set_cons_zero, List.set_cons_succ]
    refine take_list (i := 2) (v := ?_) rfl (by kernel_rfl) (by kernel_rfl) (by kernel_rfl) (fun _ _ _ h => h) (Or.inl ⟨by rfl, fun w hSw => ?_⟩) hHeld ?_
    rotate_left
    · (obtain ⟨k1, k2, k3, k4, k5, k6, k7, k8, k9, k10, k11, k12⟩ := hSw; go_simp)
      try with_reducible rfl
    simp only [Act.put, List.setIfInBounds_toArray, List.set_cons_zero, List.set_cons_succ]
    refine take_list (i := 3) (v := ?_) rfl (by kernel_rfl) (by kernel_rfl) (by kernel_rfl) (fun _ _ _ h => h) (Or.inl ⟨by rfl, fun w hSw => ?_⟩) hHeld ?_
    rotate_left
    · (obtain ⟨k1, k2, k3, k4, k5, k6, k7, k8, k9, k10, k11, k12⟩ := hSw; go_simp)
      try with_reducible rfl
    simp only [Act.put, List.setIfInBounds_toArray, List.set_cons_zero, List.set_cons_succ]
    refine take_list (i := 4) (v := ?_) rfl (by kernel_rfl) (by kernel_rfl) (by kernel_rfl) (fun _ _ _ h => h) (Or.inl ⟨by rfl, fun w hSw => ?_⟩) hHeld ?_
    rotate_left
    · (obtain ⟨k1, k2, k3, k4, k5, k6, k7, k8, k9, k10, k11, k12⟩ := hSw; go_simp)
      try with_reducible rfl
    simp only [Act.put, List.setIfInBounds_toArray, List.set_cons_zero, List.set_cons_succ]
    refine take_list (i := 5) (v := ?_) rfl (by kernel_rfl) (by kernel_rfl) (by kernel_rfl) (fun _ _ _ h => h) (Or.inl ⟨by rfl, fun w hSw => ?_⟩) hHeld ?_
    rotate_left
    · (obtain ⟨k1, k2, k3, k4, k5, k6, k7, k8, k9, k10, k11, k12⟩ := hSw; go_simp)
      try with_reducible rfl
    simp only [Act.put, List.setIfInBounds_toArray, List.set_cons_zero, List.set_cons_succ]
    refine take_list (i := 6) (v := ?_) rfl (by kernel_rfl) (by kernel_rfl) (by kernel_rfl) (fun _ _ _ h => h) (Or.inl ⟨by rfl, fun w hSw => ?_⟩) hHeld ?_
    rotate_left
    · (obtain ⟨k1, k2, k3, k4, k5, k6, k7, k8, k9, k10, k11, k12⟩ := hSw; go_simp)
      try with_reducible rfl
    simp only [Act.put, List.setIfInBounds_toArray, List.set_cons_zero, List.set_cons_succ]
    refine take_list (i := 7) (v := ?_) rfl (by kernel_rfl) (by kernel_rfl) (by kernel_rfl) (fun _ _ _ h => h) (Or.inl ⟨by rfl, fun w hSw => ?_⟩) hHeld ?_
    rotate_left
    · (obtain ⟨k1, k2, k3, k4, k5, k6, k7, k8, k9, k10, k11, k12⟩ := hSw; go_simp)
      try with_reducible rfl
    simp only [Act.put, List.setIfInBounds_toArray, List.set_cons_zero, List.set_cons_succ]
    refine wpAnyH_ready (rs := [8]) (by kernel_rfl) (by simp) (one_list (i := 8) rfl (by rfl) (fun K hK => ?_) AllReadyH.nil)
    go_simp
    refine (same14_plain _ kd 0 t tx false).mono ?_
    rintro e w1 ⟨rfl, hc1⟩
    have HC1 := Lib.hid (HC.out.drew.trans' hc1)
    have hS1 : ∀ (a : Addr) (v : Value), wr.drew.cell? a = some v → w1.cell? a = some v := fun a v h => hc1.cell h id
    clear hc1
    dsimp only
    refine hK _ _ ⟨hS1 _ _ HS.out.1, hS1 _ _ HS.out.2.1, hS1 _ _ HS.out.2.2.1, hS1 _ _ HS.out.2.2.2.1, hS1 _ _ HS.out.2.2.2.2.1, hS1 _ _ HS.out.2.2.2.2.2.1, hS1 _ _ HS.out.2.2.2.2.2.2.1, hS1 _ _ HS.out.2.2.2.2.2.2.2.1, hS1 _ _ HS.out.2.2.2.2.2.2.2.2.1, hS1 _ _ HS.out.2.2.2.2.2.2.2.2.2.1, hS1 _ _ HS.out.2.2.2.2.2.2.2.2.2.2.1, hS1 _ _ HS.out.2.2.2.2.2.2.2.2.2.2.2⟩ (fun hH2 => ?_)
    try simp only [Act.put, List.setIfInBounds_toArray, List.set_cons_zero, List.set_cons_succ]
    refine take_list (i := 9) (v := ?_) rfl (by kernel_rfl) (by kernel_rfl) (by kernel_rfl) (fun _ _ _ h => h) (Or.inl ⟨by rfl, fun w hSw => ?_⟩) hH2 ?_
    rotate_left
    · (skip; go_simp)
      try with_reducible rfl
    simp only [Act.put, List.setIfInBounds_toArray, List.set_cons_zero, List.set_cons_succ]
    refine wpAnyH_done (by kernel_rfl) ?_ _
    refine NoPanic.normal ?_
    go_wp2_with fail
    exact ⟨⟨1, rfl, Nat.le_refl _, HC1.out⟩, by simp [intOf]⟩
  · go_wp2_with fail
    go_ret
    exact ⟨rfl, HC.out⟩

theorem same_one (w : World) (g1 g2 : Nat) (kd t tx : Int) (h1 : w.heap[g1]? = some (.cells (msgC kd 0 t tx false).toArray 24 (0, 0))) (h2 : w.heap[g2]? = some (.cells (msgC kd 0 t tx false).toArray 24 (0, 0))) :
    Calls Try.prog 14 #[saidM g1, saidM g2] w fun e w' => e = .returned (.bool true) ∧ Chg (fun _ => False) w w' := by
  have H1 := Lib.hid h1
  have H2 := Lib.hid h2
  clear h1 h2
  unfold saidM
  go_enter Try.func14, Try.ntmps14
  go_wp2_with (go_at_call 40; refine (sameall_one _ g1 g2 1 1 kd t tx (((Chg.refl (fun _ => False) w).alloc _).alloc _ |>.at H1.out id) (((Chg.refl (fun _ => False) w).alloc _).alloc _ |>.at H2.out id)).mono ?_; rintro e w1 ⟨rfl, hc1⟩; have HC1 := Lib.hid hc1; clear hc1)
  go_ret
  exact ⟨rfl, (((Chg.refl _ _).alloc _).alloc _).trans' HC1.out⟩

theorem state_new (w : World) (hC : CoIs w c Fc lim m q) (txn : Int) (hm : mget m txn = none) (ht : inR txn) :
    Calls Try.prog 15 #[ptrV c, .int .i64 txn] w fun e w' => e = .returned (.int .i64 0) ∧ w = w' := by
  have c1 : w.cell? ⟨c, 1, none⟩ = some (.map (some q)) := cell_of_block hC.head rfl
  have hlk := hC.mp.look Try.underlying71 (zero_ent _) false txn (inR_wf ht)
  rw [hm] at hlk
  have hlk : (Instr.lookup 71 (.map (some q)) (.int .i64 txn) false).run Try.prog w = .ok (.pointer none) w := hlk
  have HNo := Lib.hid (none_no w hC)
  clear hC hm
  unfold ptrV
  go_enter Try.func15, Try.ntmps15
  go_wp2_with (first
    | (go_at_call 34; refine HNo.out.mono ?_; rintro e w1 ⟨rfl, rfl⟩))
  go_ret
  exact ⟨rfl, rfl⟩

end Go.Proofs.Ytogjjkbgagedpaa.coords

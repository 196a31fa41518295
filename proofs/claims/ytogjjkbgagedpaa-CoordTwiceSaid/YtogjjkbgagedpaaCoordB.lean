/-
  coord: all, enter, Begin: of plans without packs.
-/
import Derived.Test.YtogjjkbgagedpaaCoordA
namespace Go.Proofs.Ytogjjkbgagedpaa.coords
open Go.RowKit Go.Maps Go.My Go.ChangeMaps
set_option maxRecDepth 100000

variable {w w' : World} {c q x qa : Nat} {F F' : Nat → Prop} {lim : Int} {m : List (Int × Nat)} {E : EV} {pv : Value}

theorem info_msg : (Try.prog.info? 24).map (fun i => (i.zero, i.size, i.bytes)) = some (some (.agg (msgC 0 0 0 0 false).toArray), 6, 64) := by kernel_rfl
theorem info_plan : (Try.prog.info? 33).map (fun i => (i.zero, i.size, i.bytes)) = some (some (.agg (planC 0).toArray), 2, 32) := by kernel_rfl

theorem wrap_succ (n : Nat) (h : n < 1000000) : wrap64 ((n : Int) + 1) = (n : Int) + 1 := IntWalk.wrap64_in _ (by omega)
theorem meas_step {a k : Nat} (h : k < a) : a - (intOf (.int .i64 ((k : Int) + 1))).toNat < a - (intOf (.int .i64 (k : Int))).toNat := by simp [intOf]; omega

/-- The cells of the k-th plan. -/
theorem plan_cells {pv : Value} {ps : List Int} {w : World} (h : OwnRecs w 0 33 2 pv (ps.map planC)) {k : Nat} (hk : k < ps.length) :
    ∃ g cap r, pv = .slice (some ⟨g, 0, none⟩) ps.length cap ∧ ps[k]? = some r ∧ w.cell? ⟨g, k * 2, none⟩ = some (.int .i64 r) ∧ w.cell? ⟨g, k * 2 + 1, none⟩ = some (.slice none 0 0) := by
  obtain ⟨g, cap, e, -, -, -, hc, -⟩ := h.cell (k := k) (by simpa using hk)
  rw [List.length_map] at e
  have hr : (ps.map planC)[k]'(by simpa using hk) = planC ps[k] := by rw [List.getElem_map]
  rw [hr] at hc
  exact ⟨g, cap, ps[k], e, List.getElem?_eq_getElem hk, hc 0 _ rfl, hc 1 _ rfl⟩

set_option maxHeartbeats 1000000 in
/-- Messages to all roots. -/
theorem all_any (w : World) (h : EntIs w x F E pv qa) (kind txn : Int) :
    Calls Try.prog 32 #[ptrV x, .int .i64 kind, .int .i64 txn, .func (.func 33) #[] #[]] w fun e w' => ∃ v, e = .returned v ∧ OwnRecs w' w.heap.size 24 6 v (E.ps.map (fun r => msgC kind 0 r txn false)) ∧ Chg (fun _ => False) w w' := by
  obtain ⟨oa, cap, rfl, -⟩ := h.plans.slice
  rw [List.length_map] at h
  have c2 : w.cell? ⟨x, 2, none⟩ = some (.slice oa E.ps.length cap) := cell_of_block h.head rfl
  obtain ⟨i0, hI0⟩ := info_parts info_msg
  have HI0 := Lib.hid hI0
  have H := Lib.hid h
  have hl6 := h.len
  clear h hI0
  unfold ptrV
  go_enter Try.func32, Try.ntmps32
  go_wp2_with fail
  go_loopw [9, 18] (fun u j wr => ∃ k : Nat, j = .int .i64 k ∧ k ≤ E.ps.length ∧ OwnRecs wr w.heap.size 24 6 u ((E.ps.take k).map (fun r => msgC kind 0 r txn false)) ∧ Chg (fun _ => False) w wr) (fun _ j _ => E.ps.length - (intOf j).toNat)
  · exact ⟨0, rfl, Nat.zero_le _, OwnRecs.nil _ _ _ _, Chg.refl _ _⟩
  obtain ⟨k, rfl, hk, ho, hc⟩ := hrel
  have HO := Lib.hid ho
  have HC := Lib.hid hc
  clear ho hc
  by_cases hlt : k < E.ps.length
  · have hki : (k : Int) < (E.ps.length : Int) := by omega
    obtain ⟨g, cap', r, e1, hr, d0, d1⟩ := plan_cells (H.out.fresh HC.out).plans hlt
    simp only [Value.slice.injEq] at e1
    obtain ⟨rfl, -, -⟩ := e1
    have Hr := Lib.hid hr
    clear hr
    have hnew : ∀ (wq : World) (j : Nat) (u : Value), (msgC kind 0 r txn false)[j]? = some u → (wq.alloc (.cells (msgC kind 0 r txn false).toArray 24)).cell? ((⟨wq.heap.size, 0, none⟩ : Addr).add j) = some u := fun wq => cells_new wq (msgC kind 0 r txn false) _
    have HNew := Lib.hid hnew
    have hone : ∀ u ∈ msgC kind 0 r txn false, u.oneCell' = true := by
      intro u hu
      simp only [msgC, List.mem_cons, List.not_mem_nil, or_false] at hu
      rcases hu with rfl | rfl | rfl | rfl | rfl | rfl <;> rfl
    have HOne := Lib.hid hone
    have htl : ((E.ps.take k).map (fun r => msgC kind 0 r txn false)).length = k := by rw [List.length_map, List.length_take]; omega
    have HTl := Lib.hid htl
    clear hnew hone htl
    by_cases hk1 : kind = 1
    · have hkb : (kind == 1) = true := by simp [hk1]
      clear hk1
      go_wp2_with (first
        | (go_at_call 33; refine (each_any _ _).mono ?_; rintro e w1 ⟨rfl, rfl⟩
           obtain ⟨wp, hwp⟩ : ∃ wp, wr.alloc (.cells #[.int .i64 r, .slice none 0 0] 33) = wp := ⟨_, rfl⟩
           rw [hwp]
           have hb0 : wp.heap[wr.heap.size]? = some (.cells #[.int .i64 r, .slice none 0 0] 33 (0, 0)) := by rw [← hwp]; exact block_alloc_new _ _
           have e0 : wp.cell? ⟨wr.heap.size, 0, none⟩ = some (.int .i64 r) := cell_of_block hb0 rfl
           have hcp : Chg (fun _ => False) wr wp := by rw [← hwp]; exact (Chg.refl _ _).alloc _
           have hca := hcp.alloc (.cells (msgC kind 0 r txn false).toArray 24)
           have e2 : (wp.alloc (.cells #[.int .i64 kind, .int .i64 0, .int .i64 r, .int .i64 txn, .bool false, .slice none 0 0] 24)).cell? ⟨wr.heap.size, 1, none⟩ = some (.slice none 0 0) := ((Chg.refl (fun _ => False) wp).alloc _).cell (cell_of_block hb0 rfl) id
           have HC3 := Lib.hid (hca.alloc (.cells (msgC kind 0 r txn false).toArray 24))
           have hnn := HNew.out (wp.alloc (.cells (msgC kind 0 r txn false).toArray 24))
           rw [World.size_alloc] at hnn
           have HNew2 := Lib.hid hnn
           have HCp := Lib.hid hcp
           clear hwp hcp hca hb0 hnn)
        | (go_at_call 56; refine (twin_nil _).mono ?_; rintro e w1 ⟨rfl, rfl⟩
           obtain ⟨wq, hwq⟩ : ∃ wq, wp.alloc (.cells #[.int .i64 kind, .int .i64 0, .int .i64 r, .int .i64 txn, .bool false, .slice none 0 0] 24) = wq := ⟨_, rfl⟩
           rw [hwq]
           have hb : wq.heap[wp.heap.size]? = some (.cells #[.int .i64 kind, .int .i64 0, .int .i64 r, .int .i64 txn, .bool false, .slice none 0 0] 24 (0, 0)) := by rw [← hwq]; exact block_alloc_new _ _
           have q5 : wq.cell? ⟨wp.heap.size, 5, none⟩ = some (.slice none 0 0) := cell_of_block hb rfl
           have z5 : wq.frozen? ⟨wp.heap.size, 5, none⟩ = false := free_of_block hb
           have hb2 := block_setCell (i := 5) (v := .slice none 0 0) hb
           have f0 : (wq.setCell ⟨wp.heap.size, 5, none⟩ (.slice none 0 0)).cell? ⟨wp.heap.size, 0, none⟩ = some (.int .i64 kind) := cell_of_block hb2 rfl
           have f1 : (wq.setCell ⟨wp.heap.size, 5, none⟩ (.slice none 0 0)).cell? ⟨wp.heap.size, 1, none⟩ = some (.int .i64 0) := cell_of_block hb2 rfl
           have f2 : (wq.setCell ⟨wp.heap.size, 5, none⟩ (.slice none 0 0)).cell? ⟨wp.heap.size, 2, none⟩ = some (.int .i64 r) := cell_of_block hb2 rfl
           have f3 : (wq.setCell ⟨wp.heap.size, 5, none⟩ (.slice none 0 0)).cell? ⟨wp.heap.size, 3, none⟩ = some (.int .i64 txn) := cell_of_block hb2 rfl
           have f4 : (wq.setCell ⟨wp.heap.size, 5, none⟩ (.slice none 0 0)).cell? ⟨wp.heap.size, 4, none⟩ = some (.bool false) := cell_of_block hb2 rfl
           have f5 : (wq.setCell ⟨wp.heap.size, 5, none⟩ (.slice none 0 0)).cell? ⟨wp.heap.size, 5, none⟩ = some (.slice none 0 0) := cell_of_block hb2 rfl
           obtain ⟨wz, hwz⟩ : ∃ wz, wq.setCell ⟨wp.heap.size, 5, none⟩ (.slice none 0 0) = wz := ⟨_, rfl⟩
           have hcz : Chg (fun _ => False) wr wz := by
             rw [← hwz, ← hwq]
             exact ((HCp.out.alloc _).setCell (S := fun _ => False) (p := ⟨wp.heap.size, 5, none⟩) (fun h => absurd h (Nat.not_lt.2 HCp.out.size)) _)
           have hc4 := hcz.alloc (.cells (msgC kind 0 r txn false).toArray 24)
           rw [← hwz] at hc4
           have HC4 := Lib.hid hc4
           have hnn4 := HNew.out (wq.setCell ⟨wp.heap.size, 5, none⟩ (.slice none 0 0))
           rw [World.size_setCell] at hnn4
           have HNew4 := Lib.hid hnn4
           clear hwq hb hb2 hwz hcz hc4 hnn4)
        | (at_builtin; refine wpList_append_own_at _ rfl _ _ 28 rfl w.heap.size 24 i0 (.agg (msgC 0 0 0 0 false).toArray) 6 64 Try.underlying28 HI0.out.1 HI0.out.2.1 HI0.out.2.2.1 HI0.out.2.2.2 rfl (by decide) _ _ _ rfl ((HO.out.kept HC4.out (fun _ _ h => h)).row) ⟨wq.heap.size, 0, none⟩ 1 1 (msgC kind 0 r txn false) rfl rfl HNew4.out HOne.out (by rw [HTl.out]; unfold maxLen; omega) (by rw [HTl.out]; omega) (Nat.le_trans HC.out.size HC4.out.size) ?_; intro v6 w6 ho6 hg6 hx1 hx2; have HO6 := Lib.hid ho6; have HG6 := Lib.hid hg6; clear ho6 hg6 hx1 hx2))
      refine ⟨⟨k + 1, by go_num, hlt, ?_, (HC.out.trans' HC4.out).new (Chg.of_grown HG6.out) (fun j e => (HO.out.lt e.symm).1)⟩, meas_step hlt⟩
      rw [List.take_add_one, Hr.out, Option.toList_some, List.map_append]
      refine OwnRecs.append ?_ HO.out.each ?_
      · have h1 := HO6.out
        rw [HTl.out] at h1 ⊢
        simpa using h1
      · intro y hy
        simp only [List.map_cons, List.map_nil, List.mem_singleton] at hy
        rw [hy]; rfl
    · have hkb : (kind == 1) = false := by simp [hk1]
      clear hk1
      go_wp2_with (first
        | (go_at_call 33; refine (each_any _ _).mono ?_; rintro e w1 ⟨rfl, rfl⟩
           obtain ⟨wp, hwp⟩ : ∃ wp, wr.alloc (.cells #[.int .i64 r, .slice none 0 0] 33) = wp := ⟨_, rfl⟩
           rw [hwp]
           have hb0 : wp.heap[wr.heap.size]? = some (.cells #[.int .i64 r, .slice none 0 0] 33 (0, 0)) := by rw [← hwp]; exact block_alloc_new _ _
           have e0 : wp.cell? ⟨wr.heap.size, 0, none⟩ = some (.int .i64 r) := cell_of_block hb0 rfl
           have hcp : Chg (fun _ => False) wr wp := by rw [← hwp]; exact (Chg.refl _ _).alloc _
           have hca := hcp.alloc (.cells (msgC kind 0 r txn false).toArray 24)
           have e2 : (wp.alloc (.cells #[.int .i64 kind, .int .i64 0, .int .i64 r, .int .i64 txn, .bool false, .slice none 0 0] 24)).cell? ⟨wr.heap.size, 1, none⟩ = some (.slice none 0 0) := ((Chg.refl (fun _ => False) wp).alloc _).cell (cell_of_block hb0 rfl) id
           have HC3 := Lib.hid (hca.alloc (.cells (msgC kind 0 r txn false).toArray 24))
           have hnn := HNew.out (wp.alloc (.cells (msgC kind 0 r txn false).toArray 24))
           rw [World.size_alloc] at hnn
           have HNew2 := Lib.hid hnn
           have HCp := Lib.hid hcp
           clear hwp hcp hca hb0 hnn)
        | (at_builtin; refine wpList_append_own_at _ rfl _ _ 28 rfl w.heap.size 24 i0 (.agg (msgC 0 0 0 0 false).toArray) 6 64 Try.underlying28 HI0.out.1 HI0.out.2.1 HI0.out.2.2.1 HI0.out.2.2.2 rfl (by decide) _ _ _ rfl ((HO.out.kept HC3.out (fun _ _ h => h)).row) ⟨wp.heap.size + 1, 0, none⟩ 1 1 (msgC kind 0 r txn false) rfl rfl HNew2.out HOne.out (by rw [HTl.out]; unfold maxLen; omega) (by rw [HTl.out]; omega) (Nat.le_trans HC.out.size HC3.out.size) ?_; intro v6 w6 ho6 hg6 hx1 hx2; have HO6 := Lib.hid ho6; have HG6 := Lib.hid hg6; clear ho6 hg6 hx1 hx2))
      refine ⟨⟨k + 1, by go_num, hlt, ?_, (HC.out.trans' HC3.out).new (Chg.of_grown HG6.out) (fun j e => (HO.out.lt e.symm).1)⟩, meas_step hlt⟩
      rw [List.take_add_one, Hr.out, Option.toList_some, List.map_append]
      refine OwnRecs.append ?_ HO.out.each ?_
      · have h1 := HO6.out
        rw [HTl.out] at h1 ⊢
        simpa using h1
      · intro y hy
        simp only [List.map_cons, List.map_nil, List.mem_singleton] at hy
        rw [hy]; rfl
  · have hki : ¬ (k : Int) < (E.ps.length : Int) := by omega
    have hkl : k = E.ps.length := by omega
    rw [hkl, List.take_length] at HO
    clear hkl
    go_wp2_with fail
    go_ret
    exact ⟨_, rfl, HO.out, HC.out⟩

end Go.Proofs.Ytogjjkbgagedpaa.coords

/-
  coord, of any plans: all, with each of its closures.
-/
import Derived.Test.YtogjjkbgagedpaaCoGC
namespace Go.Proofs.Ytogjjkbgagedpaa.coordg
open Go.RowKit Go.Maps Go.My Go.ChangeMaps coords
set_option maxRecDepth 100000

variable {w w' : World} {c q x qa : Nat} {F F' Fc : Nat → Prop} {lim : Int} {m : List (Int × Nat)} {E : EV} {pv : Value}

def msgP (kind txn : Int) (t : Int × Value) : List Value := [.int .i64 kind, .int .i64 0, .int .i64 t.1, .int .i64 txn, .bool false, t.2]

/-- Messages of one kind about one transaction, to some roots. -/
structure Msgs (w : World) (base : Nat) (v : Value) (kind txn : Int) (rs : List Int) : Prop where
  is : ∃ T : List (Int × Value), OwnRecs w base 24 6 v (T.map (msgP kind txn)) ∧ T.map (·.1) = rs ∧ Slices (T.map (·.2))

theorem Msgs.kept {base : Nat} {v : Value} {kind txn : Int} {rs : List Int} (h : Msgs w base v kind txn rs) {S : Nat → Prop} (hc : Chg S w w') (hn : ∀ k, v.ownBlock = some k → ¬ S k) : Msgs w' base v kind txn rs := by
  obtain ⟨T, h1, h2, h3⟩ := h.is
  exact ⟨T, h1.kept hc hn, h2, h3⟩

theorem filter_succ {l : List Int} {k : Nat} {r : Int} (h : l[k]? = some r) (pr : Int → Bool) : (l.take (k + 1)).filter pr = (l.take k).filter pr ++ if pr r = true then [r] else [] := by
  rw [List.take_add_one, h, Option.toList_some, List.filter_append]
  congr 1
  cases hp : pr r <;> simp [hp]




set_option maxHeartbeats 2000000 in
theorem all_each (w : World) (h : EntIs w x F E pv qa) (kind txn : Int) (pr : Int → Bool) 
    (hcl : ∀ wr, Chg (fun _ => False) w wr → ∀ r ∈ E.ps, Calls Try.prog 33 #[.int .i64 r] wr fun e w' => e = .returned (.bool (pr r)) ∧ wr = w') :
    Calls Try.prog 32 #[ptrV x, .int .i64 kind, .int .i64 txn, .func (.func 33) #[] #[]] w fun e w' => ∃ v, e = .returned v ∧ Msgs w' w.heap.size v kind txn (E.ps.filter pr) ∧ Chg (fun _ => False) w w' := by
  have hrl := h.rowsLen
  obtain ⟨oa, cap, rfl, -⟩ := h.plans.slice
  rw [hrl] at h
  have c2 : w.cell? ⟨x, 2, none⟩ = some (.slice oa E.ps.length cap) := cell_of_block h.head rfl
  obtain ⟨i0, hI0⟩ := info_parts info_msg
  have HI0 := Lib.hid hI0
  have H := Lib.hid h
  have hl6 := h.len
  have HCl := Lib.hid hcl
  clear h hI0 hcl hrl
  unfold ptrV
  go_enter Try.func32, Try.ntmps32
  go_wp2_with fail
  go_loopw [9, 18] (fun u j wr => ∃ (k : Nat) (T : List (Int × Value)), j = .int .i64 k ∧ k ≤ E.ps.length ∧ OwnRecs wr w.heap.size 24 6 u (T.map (msgP kind txn)) ∧ T.map (·.1) = (E.ps.take k).filter pr ∧ Slices (T.map (·.2)) ∧ Chg (fun _ => False) w wr) (fun _ j _ => E.ps.length - (intOf j).toNat)
  · exact ⟨0, [], rfl, Nat.zero_le _, OwnRecs.nil _ _ _ _, by simp, by intro y hy; simp at hy, Chg.refl _ _⟩
  obtain ⟨k, T, rfl, hk, ho, hT1, hT2, hc⟩ := hrel
  have HO := Lib.hid ho
  have HC := Lib.hid hc
  have HT1 := Lib.hid hT1
  have HT2 := Lib.hid hT2
  clear ho hc hT1 hT2
  by_cases hlt : k < E.ps.length
  · have hki : (k : Int) < (E.ps.length : Int) := by omega
    obtain ⟨g, cap', r, op, np, cp, e1, hr, hp, d0, d1⟩ := plan_cells (H.out.fresh HC.out).plans H.out.pkl H.out.slices hlt
    simp only [Value.slice.injEq] at e1
    obtain ⟨rfl, -, -⟩ := e1
    have HPk := Lib.hid (H.out.pks _ (List.mem_of_getElem? hp))
    have HMem := Lib.hid (List.mem_of_getElem? hr)
    have htl : (T.map (msgP kind txn)).length ≤ 6 := by
      have h1 := congrArg List.length HT1.out
      have h2 : ((E.ps.take k).filter pr).length ≤ k := Nat.le_trans (List.length_filter_le _ _) (by rw [List.length_take]; omega)
      rw [List.length_map] at h1 ⊢
      omega
    obtain ⟨tn, htn⟩ : ∃ tn, (T.map (msgP kind txn)).length = tn := ⟨_, rfl⟩
    rw [htn] at htl
    have HTl := Lib.hid htn
    have hsucc := filter_succ hr pr
    have HSu := Lib.hid hsucc
    obtain ⟨bb, hbb⟩ : ∃ bb, pr r = bb := ⟨_, rfl⟩
    have HPr := Lib.hid hbb
    have hone : ∀ (oq : Option Addr) (nq cq : Nat), ∀ u ∈ msgP kind txn (r, .slice oq nq cq), u.oneCell' = true := by
      intro oq nq cq u hu
      simp only [msgP, List.mem_cons, List.not_mem_nil, or_false] at hu
      rcases hu with rfl | rfl | rfl | rfl | rfl | rfl <;> rfl
    have HOne := Lib.hid hone
    clear hr hp htn hsucc hbb hone
    cases bb with
    | false =>
      go_wp2_with (go_at_call 33; refine (HCl.out _ (HC.out.alloc _) r HMem.out).mono ?_; rw [HPr.out]; rintro e w1 ⟨rfl, rfl⟩)
      refine ⟨⟨k + 1, T, by go_num, hlt, HO.out.kept ((Chg.refl (fun _ => False) wr).alloc _) (fun _ _ h => h), by rw [HSu.out, HT1.out, HPr.out]; simp, HT2.out, HC.out.alloc _⟩, meas_step hlt⟩
    | true =>
      by_cases hk1 : kind = 1
      · have hkb : (kind == 1) = true := by simp [hk1]
        clear hk1
        go_wp2_with (first
          | (go_at_call 33; refine (HCl.out _ (HC.out.alloc _) r HMem.out).mono ?_; rw [HPr.out]; rintro e w1 ⟨rfl, rfl⟩
             obtain ⟨wp, hwp⟩ : ∃ wp, wr.alloc (.cells #[.int .i64 r, .slice op np cp] 33) = wp := ⟨_, rfl⟩
             rw [hwp]
             have hb0 : wp.heap[wr.heap.size]? = some (.cells #[.int .i64 r, .slice op np cp] 33 (0, 0)) := by rw [← hwp]; exact block_alloc_new _ _
             have e0 : wp.cell? ⟨wr.heap.size, 0, none⟩ = some (.int .i64 r) := cell_of_block hb0 rfl
             have hcp : Chg (fun _ => False) wr wp := by rw [← hwp]; exact (Chg.refl _ _).alloc _
             have e2 : (wp.alloc (.cells #[.int .i64 kind, .int .i64 0, .int .i64 r, .int .i64 txn, .bool false, .slice none 0 0] 24)).cell? ⟨wr.heap.size, 1, none⟩ = some (.slice op np cp) := ((Chg.refl (fun _ => False) wp).alloc _).cell (cell_of_block hb0 rfl) id
             have HCp := Lib.hid hcp
             clear hwp hcp hb0)
          | (go_at_call 56; refine (twin_any _ _ (HPk.out.kept (S := fun _ => False) ((HC.out.trans' HCp.out).alloc _) (fun _ _ h => h))).mono ?_; rintro e w1 ⟨v1, rfl, hpk1, hc1⟩
             obtain ⟨ov, cv, rows, rfl, -⟩ := hpk1.is
             have hb : w1.heap[wp.heap.size]? = some (.cells #[.int .i64 kind, .int .i64 0, .int .i64 r, .int .i64 txn, .bool false, .slice none 0 0] 24 (0, 0)) := hc1.at (block_alloc_new _ _) id
             have q5 : w1.cell? ⟨wp.heap.size, 5, none⟩ = some (.slice none 0 0) := cell_of_block hb rfl
             have z5 : w1.frozen? ⟨wp.heap.size, 5, none⟩ = false := free_of_block hb
             have hb2 := block_setCell (i := 5) (v := .slice ov rows.length cv) hb
             have f0 : (w1.setCell ⟨wp.heap.size, 5, none⟩ (.slice ov rows.length cv)).cell? ⟨wp.heap.size, 0, none⟩ = some (.int .i64 kind) := cell_of_block hb2 rfl
             have f1 : (w1.setCell ⟨wp.heap.size, 5, none⟩ (.slice ov rows.length cv)).cell? ⟨wp.heap.size, 1, none⟩ = some (.int .i64 0) := cell_of_block hb2 rfl
             have f2 : (w1.setCell ⟨wp.heap.size, 5, none⟩ (.slice ov rows.length cv)).cell? ⟨wp.heap.size, 2, none⟩ = some (.int .i64 r) := cell_of_block hb2 rfl
             have f3 : (w1.setCell ⟨wp.heap.size, 5, none⟩ (.slice ov rows.length cv)).cell? ⟨wp.heap.size, 3, none⟩ = some (.int .i64 txn) := cell_of_block hb2 rfl
             have f4 : (w1.setCell ⟨wp.heap.size, 5, none⟩ (.slice ov rows.length cv)).cell? ⟨wp.heap.size, 4, none⟩ = some (.bool false) := cell_of_block hb2 rfl
             have f5 : (w1.setCell ⟨wp.heap.size, 5, none⟩ (.slice ov rows.length cv)).cell? ⟨wp.heap.size, 5, none⟩ = some (.slice ov rows.length cv) := cell_of_block hb2 rfl
             have hcw : Chg (fun _ => False) wr w1 := (HCp.out.alloc _).trans' hc1
             have hc4 := (hcw.setCell (S := fun _ => False) (p := ⟨wp.heap.size, 5, none⟩) (fun h => absurd h (Nat.not_lt.2 HCp.out.size)) (.slice ov rows.length cv)).alloc (.cells (msgP kind txn (r, .slice ov rows.length cv)).toArray 24)
             have HC4 := Lib.hid hc4
             have hnn4 := cells_new (w1.setCell ⟨wp.heap.size, 5, none⟩ (.slice ov rows.length cv)) (msgP kind txn (r, .slice ov rows.length cv)) 24
             rw [World.size_setCell] at hnn4
             have HNew4 := Lib.hid hnn4
             clear hb hb2 hcw hc4 hnn4 hpk1 hc1)
          | (at_builtin; refine wpList_append_own_at _ rfl _ _ 28 rfl w.heap.size 24 i0 (.agg (msgC 0 0 0 0 false).toArray) 6 64 Try.underlying28 HI0.out.1 HI0.out.2.1 HI0.out.2.2.1 HI0.out.2.2.2 rfl (by decide) _ _ _ rfl ((HO.out.kept HC4.out (fun _ _ h => h)).row) ⟨w1.heap.size, 0, none⟩ 1 1 (msgP kind txn (r, .slice ov rows.length cv)) rfl rfl HNew4.out (HOne.out _ _ _) (by rw [HTl.out]; unfold maxLen; omega) (by rw [HTl.out]; omega) (Nat.le_trans HC.out.size HC4.out.size) ?_; intro v6 w6 ho6 hg6 hx1 hx2; have HO6 := Lib.hid ho6; have HG6 := Lib.hid hg6; clear ho6 hg6 hx1 hx2))
        refine ⟨⟨k + 1, T ++ [(r, .slice ov rows.length cv)], by go_num, hlt, ?_, by rw [List.map_append, HT1.out, HSu.out, HPr.out]; simp, by intro y hy; rw [List.map_append] at hy; rcases List.mem_append.1 hy with h | h; exact HT2.out y h; rw [List.mem_singleton.1 h]; exact ⟨_, _, _, rfl⟩, (HC.out.trans' HC4.out).new (Chg.of_grown HG6.out) (fun j e => (HO.out.lt e.symm).1)⟩, meas_step hlt⟩
        rw [List.map_append]
        refine OwnRecs.append ?_ HO.out.each ?_
        · have h1 := HO6.out
          rw [HTl.out] at h1 ⊢
          simpa [msgP] using h1
        · intro y hy
          simp only [List.map_cons, List.map_nil, List.mem_singleton] at hy
          rw [hy]; rfl
      · have hkb : (kind == 1) = false := by simp [hk1]
        clear hk1
        go_wp2_with (first
          | (go_at_call 33; refine (HCl.out _ (HC.out.alloc _) r HMem.out).mono ?_; rw [HPr.out]; rintro e w1 ⟨rfl, rfl⟩
             obtain ⟨wp, hwp⟩ : ∃ wp, wr.alloc (.cells #[.int .i64 r, .slice op np cp] 33) = wp := ⟨_, rfl⟩
             rw [hwp]
             have hb0 : wp.heap[wr.heap.size]? = some (.cells #[.int .i64 r, .slice op np cp] 33 (0, 0)) := by rw [← hwp]; exact block_alloc_new _ _
             have e0 : wp.cell? ⟨wr.heap.size, 0, none⟩ = some (.int .i64 r) := cell_of_block hb0 rfl
             have hcp : Chg (fun _ => False) wr wp := by rw [← hwp]; exact (Chg.refl _ _).alloc _
             have e2 : (wp.alloc (.cells #[.int .i64 kind, .int .i64 0, .int .i64 r, .int .i64 txn, .bool false, .slice none 0 0] 24)).cell? ⟨wr.heap.size, 1, none⟩ = some (.slice op np cp) := ((Chg.refl (fun _ => False) wp).alloc _).cell (cell_of_block hb0 rfl) id
             have HCp := Lib.hid hcp
             have hca := hcp.alloc (.cells (msgP kind txn (r, .slice none 0 0)).toArray 24)
             have HC3 := Lib.hid (hca.alloc (.cells (msgP kind txn (r, .slice none 0 0)).toArray 24))
             have hnn := cells_new (wp.alloc (.cells (msgP kind txn (r, .slice none 0 0)).toArray 24)) (msgP kind txn (r, .slice none 0 0)) 24
             rw [World.size_alloc] at hnn
             have HNew2 := Lib.hid hnn
             clear hwp hcp hca hb0 hnn)
          | (at_builtin; refine wpList_append_own_at _ rfl _ _ 28 rfl w.heap.size 24 i0 (.agg (msgC 0 0 0 0 false).toArray) 6 64 Try.underlying28 HI0.out.1 HI0.out.2.1 HI0.out.2.2.1 HI0.out.2.2.2 rfl (by decide) _ _ _ rfl ((HO.out.kept HC3.out (fun _ _ h => h)).row) ⟨wp.heap.size + 1, 0, none⟩ 1 1 (msgP kind txn (r, .slice none 0 0)) rfl rfl HNew2.out (HOne.out _ _ _) (by rw [HTl.out]; unfold maxLen; omega) (by rw [HTl.out]; omega) (Nat.le_trans HC.out.size HC3.out.size) ?_; intro v6 w6 ho6 hg6 hx1 hx2; have HO6 := Lib.hid ho6; have HG6 := Lib.hid hg6; clear ho6 hg6 hx1 hx2))
        refine ⟨⟨k + 1, T ++ [(r, .slice none 0 0)], by go_num, hlt, ?_, by rw [List.map_append, HT1.out, HSu.out, HPr.out]; simp, by intro y hy; rw [List.map_append] at hy; rcases List.mem_append.1 hy with h | h; exact HT2.out y h; rw [List.mem_singleton.1 h]; exact ⟨_, _, _, rfl⟩, (HC.out.trans' HC3.out).new (Chg.of_grown HG6.out) (fun j e => (HO.out.lt e.symm).1)⟩, meas_step hlt⟩
        rw [List.map_append]
        refine OwnRecs.append ?_ HO.out.each ?_
        · have h1 := HO6.out
          rw [HTl.out] at h1 ⊢
          simpa [msgP] using h1
        · intro y hy
          simp only [List.map_cons, List.map_nil, List.mem_singleton] at hy
          rw [hy]; rfl
  · have hki : ¬ (k : Int) < (E.ps.length : Int) := by omega
    have hkl : k = E.ps.length := by omega
    rw [hkl, List.take_length] at HT1
    clear hkl
    go_wp2_with fail
    go_ret
    exact ⟨_, rfl, ⟨T, HO.out, HT1.out, HT2.out⟩, HC.out⟩

set_option maxHeartbeats 2000000 in
theorem all_vote (w : World) (h : EntIs w x F E pv qa) (kind txn : Int) (pr : Int → Bool) (cv : Value)
    (hcl : ∀ wr, Chg (fun _ => False) w wr → ∀ r ∈ E.ps, Calls Try.prog 60 #[.int .i64 r, cv] wr fun e w' => e = .returned (.bool (pr r)) ∧ wr = w') :
    Calls Try.prog 32 #[ptrV x, .int .i64 kind, .int .i64 txn, .func (.func 60) #[] #[cv]] w fun e w' => ∃ v, e = .returned v ∧ Msgs w' w.heap.size v kind txn (E.ps.filter pr) ∧ Chg (fun _ => False) w w' := by
  have hrl := h.rowsLen
  obtain ⟨oa, cap, rfl, -⟩ := h.plans.slice
  rw [hrl] at h
  have c2 : w.cell? ⟨x, 2, none⟩ = some (.slice oa E.ps.length cap) := cell_of_block h.head rfl
  obtain ⟨i0, hI0⟩ := info_parts info_msg
  have HI0 := Lib.hid hI0
  have H := Lib.hid h
  have hl6 := h.len
  have HCl := Lib.hid hcl
  clear h hI0 hcl hrl
  unfold ptrV
  go_enter Try.func32, Try.ntmps32
  go_wp2_with fail
  go_loopw [9, 18] (fun u j wr => ∃ (k : Nat) (T : List (Int × Value)), j = .int .i64 k ∧ k ≤ E.ps.length ∧ OwnRecs wr w.heap.size 24 6 u (T.map (msgP kind txn)) ∧ T.map (·.1) = (E.ps.take k).filter pr ∧ Slices (T.map (·.2)) ∧ Chg (fun _ => False) w wr) (fun _ j _ => E.ps.length - (intOf j).toNat)
  · exact ⟨0, [], rfl, Nat.zero_le _, OwnRecs.nil _ _ _ _, by simp, by intro y hy; simp at hy, Chg.refl _ _⟩
  obtain ⟨k, T, rfl, hk, ho, hT1, hT2, hc⟩ := hrel
  have HO := Lib.hid ho
  have HC := Lib.hid hc
  have HT1 := Lib.hid hT1
  have HT2 := Lib.hid hT2
  clear ho hc hT1 hT2
  by_cases hlt : k < E.ps.length
  · have hki : (k : Int) < (E.ps.length : Int) := by omega
    obtain ⟨g, cap', r, op, np, cp, e1, hr, hp, d0, d1⟩ := plan_cells (H.out.fresh HC.out).plans H.out.pkl H.out.slices hlt
    simp only [Value.slice.injEq] at e1
    obtain ⟨rfl, -, -⟩ := e1
    have HPk := Lib.hid (H.out.pks _ (List.mem_of_getElem? hp))
    have HMem := Lib.hid (List.mem_of_getElem? hr)
    have htl : (T.map (msgP kind txn)).length ≤ 6 := by
      have h1 := congrArg List.length HT1.out
      have h2 : ((E.ps.take k).filter pr).length ≤ k := Nat.le_trans (List.length_filter_le _ _) (by rw [List.length_take]; omega)
      rw [List.length_map] at h1 ⊢
      omega
    obtain ⟨tn, htn⟩ : ∃ tn, (T.map (msgP kind txn)).length = tn := ⟨_, rfl⟩
    rw [htn] at htl
    have HTl := Lib.hid htn
    have hsucc := filter_succ hr pr
    have HSu := Lib.hid hsucc
    obtain ⟨bb, hbb⟩ : ∃ bb, pr r = bb := ⟨_, rfl⟩
    have HPr := Lib.hid hbb
    have hone : ∀ (oq : Option Addr) (nq cq : Nat), ∀ u ∈ msgP kind txn (r, .slice oq nq cq), u.oneCell' = true := by
      intro oq nq cq u hu
      simp only [msgP, List.mem_cons, List.not_mem_nil, or_false] at hu
      rcases hu with rfl | rfl | rfl | rfl | rfl | rfl <;> rfl
    have HOne := Lib.hid hone
    clear hr hp htn hsucc hbb hone
    cases bb with
    | false =>
      go_wp2_with (go_at_call 60; refine (HCl.out _ (HC.out.alloc _) r HMem.out).mono ?_; rw [HPr.out]; rintro e w1 ⟨rfl, rfl⟩)
      refine ⟨⟨k + 1, T, by go_num, hlt, HO.out.kept ((Chg.refl (fun _ => False) wr).alloc _) (fun _ _ h => h), by rw [HSu.out, HT1.out, HPr.out]; simp, HT2.out, HC.out.alloc _⟩, meas_step hlt⟩
    | true =>
      by_cases hk1 : kind = 1
      · have hkb : (kind == 1) = true := by simp [hk1]
        clear hk1
        go_wp2_with (first
          | (go_at_call 60; refine (HCl.out _ (HC.out.alloc _) r HMem.out).mono ?_; rw [HPr.out]; rintro e w1 ⟨rfl, rfl⟩
             obtain ⟨wp, hwp⟩ : ∃ wp, wr.alloc (.cells #[.int .i64 r, .slice op np cp] 33) = wp := ⟨_, rfl⟩
             rw [hwp]
             have hb0 : wp.heap[wr.heap.size]? = some (.cells #[.int .i64 r, .slice op np cp] 33 (0, 0)) := by rw [← hwp]; exact block_alloc_new _ _
             have e0 : wp.cell? ⟨wr.heap.size, 0, none⟩ = some (.int .i64 r) := cell_of_block hb0 rfl
             have hcp : Chg (fun _ => False) wr wp := by rw [← hwp]; exact (Chg.refl _ _).alloc _
             have e2 : (wp.alloc (.cells #[.int .i64 kind, .int .i64 0, .int .i64 r, .int .i64 txn, .bool false, .slice none 0 0] 24)).cell? ⟨wr.heap.size, 1, none⟩ = some (.slice op np cp) := ((Chg.refl (fun _ => False) wp).alloc _).cell (cell_of_block hb0 rfl) id
             have HCp := Lib.hid hcp
             clear hwp hcp hb0)
          | (go_at_call 56; refine (twin_any _ _ (HPk.out.kept (S := fun _ => False) ((HC.out.trans' HCp.out).alloc _) (fun _ _ h => h))).mono ?_; rintro e w1 ⟨v1, rfl, hpk1, hc1⟩
             obtain ⟨ov, cv, rows, rfl, -⟩ := hpk1.is
             have hb : w1.heap[wp.heap.size]? = some (.cells #[.int .i64 kind, .int .i64 0, .int .i64 r, .int .i64 txn, .bool false, .slice none 0 0] 24 (0, 0)) := hc1.at (block_alloc_new _ _) id
             have q5 : w1.cell? ⟨wp.heap.size, 5, none⟩ = some (.slice none 0 0) := cell_of_block hb rfl
             have z5 : w1.frozen? ⟨wp.heap.size, 5, none⟩ = false := free_of_block hb
             have hb2 := block_setCell (i := 5) (v := .slice ov rows.length cv) hb
             have f0 : (w1.setCell ⟨wp.heap.size, 5, none⟩ (.slice ov rows.length cv)).cell? ⟨wp.heap.size, 0, none⟩ = some (.int .i64 kind) := cell_of_block hb2 rfl
             have f1 : (w1.setCell ⟨wp.heap.size, 5, none⟩ (.slice ov rows.length cv)).cell? ⟨wp.heap.size, 1, none⟩ = some (.int .i64 0) := cell_of_block hb2 rfl
             have f2 : (w1.setCell ⟨wp.heap.size, 5, none⟩ (.slice ov rows.length cv)).cell? ⟨wp.heap.size, 2, none⟩ = some (.int .i64 r) := cell_of_block hb2 rfl
             have f3 : (w1.setCell ⟨wp.heap.size, 5, none⟩ (.slice ov rows.length cv)).cell? ⟨wp.heap.size, 3, none⟩ = some (.int .i64 txn) := cell_of_block hb2 rfl
             have f4 : (w1.setCell ⟨wp.heap.size, 5, none⟩ (.slice ov rows.length cv)).cell? ⟨wp.heap.size, 4, none⟩ = some (.bool false) := cell_of_block hb2 rfl
             have f5 : (w1.setCell ⟨wp.heap.size, 5, none⟩ (.slice ov rows.length cv)).cell? ⟨wp.heap.size, 5, none⟩ = some (.slice ov rows.length cv) := cell_of_block hb2 rfl
             have hcw : Chg (fun _ => False) wr w1 := (HCp.out.alloc _).trans' hc1
             have hc4 := (hcw.setCell (S := fun _ => False) (p := ⟨wp.heap.size, 5, none⟩) (fun h => absurd h (Nat.not_lt.2 HCp.out.size)) (.slice ov rows.length cv)).alloc (.cells (msgP kind txn (r, .slice ov rows.length cv)).toArray 24)
             have HC4 := Lib.hid hc4
             have hnn4 := cells_new (w1.setCell ⟨wp.heap.size, 5, none⟩ (.slice ov rows.length cv)) (msgP kind txn (r, .slice ov rows.length cv)) 24
             rw [World.size_setCell] at hnn4
             have HNew4 := Lib.hid hnn4
             clear hb hb2 hcw hc4 hnn4 hpk1 hc1)
          | (at_builtin; refine wpList_append_own_at _ rfl _ _ 28 rfl w.heap.size 24 i0 (.agg (msgC 0 0 0 0 false).toArray) 6 64 Try.underlying28 HI0.out.1 HI0.out.2.1 HI0.out.2.2.1 HI0.out.2.2.2 rfl (by decide) _ _ _ rfl ((HO.out.kept HC4.out (fun _ _ h => h)).row) ⟨w1.heap.size, 0, none⟩ 1 1 (msgP kind txn (r, .slice ov rows.length cv)) rfl rfl HNew4.out (HOne.out _ _ _) (by rw [HTl.out]; unfold maxLen; omega) (by rw [HTl.out]; omega) (Nat.le_trans HC.out.size HC4.out.size) ?_; intro v6 w6 ho6 hg6 hx1 hx2; have HO6 := Lib.hid ho6; have HG6 := Lib.hid hg6; clear ho6 hg6 hx1 hx2))
        refine ⟨⟨k + 1, T ++ [(r, .slice ov rows.length cv)], by go_num, hlt, ?_, by rw [List.map_append, HT1.out, HSu.out, HPr.out]; simp, by intro y hy; rw [List.map_append] at hy; rcases List.mem_append.1 hy with h | h; exact HT2.out y h; rw [List.mem_singleton.1 h]; exact ⟨_, _, _, rfl⟩, (HC.out.trans' HC4.out).new (Chg.of_grown HG6.out) (fun j e => (HO.out.lt e.symm).1)⟩, meas_step hlt⟩
        rw [List.map_append]
        refine OwnRecs.append ?_ HO.out.each ?_
        · have h1 := HO6.out
          rw [HTl.out] at h1 ⊢
          simpa [msgP] using h1
        · intro y hy
          simp only [List.map_cons, List.map_nil, List.mem_singleton] at hy
          rw [hy]; rfl
      · have hkb : (kind == 1) = false := by simp [hk1]
        clear hk1
        go_wp2_with (first
          | (go_at_call 60; refine (HCl.out _ (HC.out.alloc _) r HMem.out).mono ?_; rw [HPr.out]; rintro e w1 ⟨rfl, rfl⟩
             obtain ⟨wp, hwp⟩ : ∃ wp, wr.alloc (.cells #[.int .i64 r, .slice op np cp] 33) = wp := ⟨_, rfl⟩
             rw [hwp]
             have hb0 : wp.heap[wr.heap.size]? = some (.cells #[.int .i64 r, .slice op np cp] 33 (0, 0)) := by rw [← hwp]; exact block_alloc_new _ _
             have e0 : wp.cell? ⟨wr.heap.size, 0, none⟩ = some (.int .i64 r) := cell_of_block hb0 rfl
             have hcp : Chg (fun _ => False) wr wp := by rw [← hwp]; exact (Chg.refl _ _).alloc _
             have e2 : (wp.alloc (.cells #[.int .i64 kind, .int .i64 0, .int .i64 r, .int .i64 txn, .bool false, .slice none 0 0] 24)).cell? ⟨wr.heap.size, 1, none⟩ = some (.slice op np cp) := ((Chg.refl (fun _ => False) wp).alloc _).cell (cell_of_block hb0 rfl) id
             have HCp := Lib.hid hcp
             have hca := hcp.alloc (.cells (msgP kind txn (r, .slice none 0 0)).toArray 24)
             have HC3 := Lib.hid (hca.alloc (.cells (msgP kind txn (r, .slice none 0 0)).toArray 24))
             have hnn := cells_new (wp.alloc (.cells (msgP kind txn (r, .slice none 0 0)).toArray 24)) (msgP kind txn (r, .slice none 0 0)) 24
             rw [World.size_alloc] at hnn
             have HNew2 := Lib.hid hnn
             clear hwp hcp hca hb0 hnn)
          | (at_builtin; refine wpList_append_own_at _ rfl _ _ 28 rfl w.heap.size 24 i0 (.agg (msgC 0 0 0 0 false).toArray) 6 64 Try.underlying28 HI0.out.1 HI0.out.2.1 HI0.out.2.2.1 HI0.out.2.2.2 rfl (by decide) _ _ _ rfl ((HO.out.kept HC3.out (fun _ _ h => h)).row) ⟨wp.heap.size + 1, 0, none⟩ 1 1 (msgP kind txn (r, .slice none 0 0)) rfl rfl HNew2.out (HOne.out _ _ _) (by rw [HTl.out]; unfold maxLen; omega) (by rw [HTl.out]; omega) (Nat.le_trans HC.out.size HC3.out.size) ?_; intro v6 w6 ho6 hg6 hx1 hx2; have HO6 := Lib.hid ho6; have HG6 := Lib.hid hg6; clear ho6 hg6 hx1 hx2))
        refine ⟨⟨k + 1, T ++ [(r, .slice none 0 0)], by go_num, hlt, ?_, by rw [List.map_append, HT1.out, HSu.out, HPr.out]; simp, by intro y hy; rw [List.map_append] at hy; rcases List.mem_append.1 hy with h | h; exact HT2.out y h; rw [List.mem_singleton.1 h]; exact ⟨_, _, _, rfl⟩, (HC.out.trans' HC3.out).new (Chg.of_grown HG6.out) (fun j e => (HO.out.lt e.symm).1)⟩, meas_step hlt⟩
        rw [List.map_append]
        refine OwnRecs.append ?_ HO.out.each ?_
        · have h1 := HO6.out
          rw [HTl.out] at h1 ⊢
          simpa [msgP] using h1
        · intro y hy
          simp only [List.map_cons, List.map_nil, List.mem_singleton] at hy
          rw [hy]; rfl
  · have hki : ¬ (k : Int) < (E.ps.length : Int) := by omega
    have hkl : k = E.ps.length := by omega
    rw [hkl, List.take_length] at HT1
    clear hkl
    go_wp2_with fail
    go_ret
    exact ⟨_, rfl, ⟨T, HO.out, HT1.out, HT2.out⟩, HC.out⟩

set_option maxHeartbeats 2000000 in
theorem all_tick (w : World) (h : EntIs w x F E pv qa) (kind txn : Int) (pr : Int → Bool) (cv : Value)
    (hcl : ∀ wr, Chg (fun _ => False) w wr → ∀ r ∈ E.ps, Calls Try.prog 43 #[.int .i64 r, cv] wr fun e w' => e = .returned (.bool (pr r)) ∧ wr = w') :
    Calls Try.prog 32 #[ptrV x, .int .i64 kind, .int .i64 txn, .func (.func 43) #[] #[cv]] w fun e w' => ∃ v, e = .returned v ∧ Msgs w' w.heap.size v kind txn (E.ps.filter pr) ∧ Chg (fun _ => False) w w' := by
  have hrl := h.rowsLen
  obtain ⟨oa, cap, rfl, -⟩ := h.plans.slice
  rw [hrl] at h
  have c2 : w.cell? ⟨x, 2, none⟩ = some (.slice oa E.ps.length cap) := cell_of_block h.head rfl
  obtain ⟨i0, hI0⟩ := info_parts info_msg
  have HI0 := Lib.hid hI0
  have H := Lib.hid h
  have hl6 := h.len
  have HCl := Lib.hid hcl
  clear h hI0 hcl hrl
  unfold ptrV
  go_enter Try.func32, Try.ntmps32
  go_wp2_with fail
  go_loopw [9, 18] (fun u j wr => ∃ (k : Nat) (T : List (Int × Value)), j = .int .i64 k ∧ k ≤ E.ps.length ∧ OwnRecs wr w.heap.size 24 6 u (T.map (msgP kind txn)) ∧ T.map (·.1) = (E.ps.take k).filter pr ∧ Slices (T.map (·.2)) ∧ Chg (fun _ => False) w wr) (fun _ j _ => E.ps.length - (intOf j).toNat)
  · exact ⟨0, [], rfl, Nat.zero_le _, OwnRecs.nil _ _ _ _, by simp, by intro y hy; simp at hy, Chg.refl _ _⟩
  obtain ⟨k, T, rfl, hk, ho, hT1, hT2, hc⟩ := hrel
  have HO := Lib.hid ho
  have HC := Lib.hid hc
  have HT1 := Lib.hid hT1
  have HT2 := Lib.hid hT2
  clear ho hc hT1 hT2
  by_cases hlt : k < E.ps.length
  · have hki : (k : Int) < (E.ps.length : Int) := by omega
    obtain ⟨g, cap', r, op, np, cp, e1, hr, hp, d0, d1⟩ := plan_cells (H.out.fresh HC.out).plans H.out.pkl H.out.slices hlt
    simp only [Value.slice.injEq] at e1
    obtain ⟨rfl, -, -⟩ := e1
    have HPk := Lib.hid (H.out.pks _ (List.mem_of_getElem? hp))
    have HMem := Lib.hid (List.mem_of_getElem? hr)
    have htl : (T.map (msgP kind txn)).length ≤ 6 := by
      have h1 := congrArg List.length HT1.out
      have h2 : ((E.ps.take k).filter pr).length ≤ k := Nat.le_trans (List.length_filter_le _ _) (by rw [List.length_take]; omega)
      rw [List.length_map] at h1 ⊢
      omega
    obtain ⟨tn, htn⟩ : ∃ tn, (T.map (msgP kind txn)).length = tn := ⟨_, rfl⟩
    rw [htn] at htl
    have HTl := Lib.hid htn
    have hsucc := filter_succ hr pr
    have HSu := Lib.hid hsucc
    obtain ⟨bb, hbb⟩ : ∃ bb, pr r = bb := ⟨_, rfl⟩
    have HPr := Lib.hid hbb
    have hone : ∀ (oq : Option Addr) (nq cq : Nat), ∀ u ∈ msgP kind txn (r, .slice oq nq cq), u.oneCell' = true := by
      intro oq nq cq u hu
      simp only [msgP, List.mem_cons, List.not_mem_nil, or_false] at hu
      rcases hu with rfl | rfl | rfl | rfl | rfl | rfl <;> rfl
    have HOne := Lib.hid hone
    clear hr hp htn hsucc hbb hone
    cases bb with
    | false =>
      go_wp2_with (go_at_call 43; refine (HCl.out _ (HC.out.alloc _) r HMem.out).mono ?_; rw [HPr.out]; rintro e w1 ⟨rfl, rfl⟩)
      refine ⟨⟨k + 1, T, by go_num, hlt, HO.out.kept ((Chg.refl (fun _ => False) wr).alloc _) (fun _ _ h => h), by rw [HSu.out, HT1.out, HPr.out]; simp, HT2.out, HC.out.alloc _⟩, meas_step hlt⟩
    | true =>
      by_cases hk1 : kind = 1
      · have hkb : (kind == 1) = true := by simp [hk1]
        clear hk1
        go_wp2_with (first
          | (go_at_call 43; refine (HCl.out _ (HC.out.alloc _) r HMem.out).mono ?_; rw [HPr.out]; rintro e w1 ⟨rfl, rfl⟩
             obtain ⟨wp, hwp⟩ : ∃ wp, wr.alloc (.cells #[.int .i64 r, .slice op np cp] 33) = wp := ⟨_, rfl⟩
             rw [hwp]
             have hb0 : wp.heap[wr.heap.size]? = some (.cells #[.int .i64 r, .slice op np cp] 33 (0, 0)) := by rw [← hwp]; exact block_alloc_new _ _
             have e0 : wp.cell? ⟨wr.heap.size, 0, none⟩ = some (.int .i64 r) := cell_of_block hb0 rfl
             have hcp : Chg (fun _ => False) wr wp := by rw [← hwp]; exact (Chg.refl _ _).alloc _
             have e2 : (wp.alloc (.cells #[.int .i64 kind, .int .i64 0, .int .i64 r, .int .i64 txn, .bool false, .slice none 0 0] 24)).cell? ⟨wr.heap.size, 1, none⟩ = some (.slice op np cp) := ((Chg.refl (fun _ => False) wp).alloc _).cell (cell_of_block hb0 rfl) id
             have HCp := Lib.hid hcp
             clear hwp hcp hb0)
          | (go_at_call 56; refine (twin_any _ _ (HPk.out.kept (S := fun _ => False) ((HC.out.trans' HCp.out).alloc _) (fun _ _ h => h))).mono ?_; rintro e w1 ⟨v1, rfl, hpk1, hc1⟩
             obtain ⟨ov, cv, rows, rfl, -⟩ := hpk1.is
             have hb : w1.heap[wp.heap.size]? = some (.cells #[.int .i64 kind, .int .i64 0, .int .i64 r, .int .i64 txn, .bool false, .slice none 0 0] 24 (0, 0)) := hc1.at (block_alloc_new _ _) id
             have q5 : w1.cell? ⟨wp.heap.size, 5, none⟩ = some (.slice none 0 0) := cell_of_block hb rfl
             have z5 : w1.frozen? ⟨wp.heap.size, 5, none⟩ = false := free_of_block hb
             have hb2 := block_setCell (i := 5) (v := .slice ov rows.length cv) hb
             have f0 : (w1.setCell ⟨wp.heap.size, 5, none⟩ (.slice ov rows.length cv)).cell? ⟨wp.heap.size, 0, none⟩ = some (.int .i64 kind) := cell_of_block hb2 rfl
             have f1 : (w1.setCell ⟨wp.heap.size, 5, none⟩ (.slice ov rows.length cv)).cell? ⟨wp.heap.size, 1, none⟩ = some (.int .i64 0) := cell_of_block hb2 rfl
             have f2 : (w1.setCell ⟨wp.heap.size, 5, none⟩ (.slice ov rows.length cv)).cell? ⟨wp.heap.size, 2, none⟩ = some (.int .i64 r) := cell_of_block hb2 rfl
             have f3 : (w1.setCell ⟨wp.heap.size, 5, none⟩ (.slice ov rows.length cv)).cell? ⟨wp.heap.size, 3, none⟩ = some (.int .i64 txn) := cell_of_block hb2 rfl
             have f4 : (w1.setCell ⟨wp.heap.size, 5, none⟩ (.slice ov rows.length cv)).cell? ⟨wp.heap.size, 4, none⟩ = some (.bool false) := cell_of_block hb2 rfl
             have f5 : (w1.setCell ⟨wp.heap.size, 5, none⟩ (.slice ov rows.length cv)).cell? ⟨wp.heap.size, 5, none⟩ = some (.slice ov rows.length cv) := cell_of_block hb2 rfl
             have hcw : Chg (fun _ => False) wr w1 := (HCp.out.alloc _).trans' hc1
             have hc4 := (hcw.setCell (S := fun _ => False) (p := ⟨wp.heap.size, 5, none⟩) (fun h => absurd h (Nat.not_lt.2 HCp.out.size)) (.slice ov rows.length cv)).alloc (.cells (msgP kind txn (r, .slice ov rows.length cv)).toArray 24)
             have HC4 := Lib.hid hc4
             have hnn4 := cells_new (w1.setCell ⟨wp.heap.size, 5, none⟩ (.slice ov rows.length cv)) (msgP kind txn (r, .slice ov rows.length cv)) 24
             rw [World.size_setCell] at hnn4
             have HNew4 := Lib.hid hnn4
             clear hb hb2 hcw hc4 hnn4 hpk1 hc1)
          | (at_builtin; refine wpList_append_own_at _ rfl _ _ 28 rfl w.heap.size 24 i0 (.agg (msgC 0 0 0 0 false).toArray) 6 64 Try.underlying28 HI0.out.1 HI0.out.2.1 HI0.out.2.2.1 HI0.out.2.2.2 rfl (by decide) _ _ _ rfl ((HO.out.kept HC4.out (fun _ _ h => h)).row) ⟨w1.heap.size, 0, none⟩ 1 1 (msgP kind txn (r, .slice ov rows.length cv)) rfl rfl HNew4.out (HOne.out _ _ _) (by rw [HTl.out]; unfold maxLen; omega) (by rw [HTl.out]; omega) (Nat.le_trans HC.out.size HC4.out.size) ?_; intro v6 w6 ho6 hg6 hx1 hx2; have HO6 := Lib.hid ho6; have HG6 := Lib.hid hg6; clear ho6 hg6 hx1 hx2))
        refine ⟨⟨k + 1, T ++ [(r, .slice ov rows.length cv)], by go_num, hlt, ?_, by rw [List.map_append, HT1.out, HSu.out, HPr.out]; simp, by intro y hy; rw [List.map_append] at hy; rcases List.mem_append.1 hy with h | h; exact HT2.out y h; rw [List.mem_singleton.1 h]; exact ⟨_, _, _, rfl⟩, (HC.out.trans' HC4.out).new (Chg.of_grown HG6.out) (fun j e => (HO.out.lt e.symm).1)⟩, meas_step hlt⟩
        rw [List.map_append]
        refine OwnRecs.append ?_ HO.out.each ?_
        · have h1 := HO6.out
          rw [HTl.out] at h1 ⊢
          simpa [msgP] using h1
        · intro y hy
          simp only [List.map_cons, List.map_nil, List.mem_singleton] at hy
          rw [hy]; rfl
      · have hkb : (kind == 1) = false := by simp [hk1]
        clear hk1
        go_wp2_with (first
          | (go_at_call 43; refine (HCl.out _ (HC.out.alloc _) r HMem.out).mono ?_; rw [HPr.out]; rintro e w1 ⟨rfl, rfl⟩
             obtain ⟨wp, hwp⟩ : ∃ wp, wr.alloc (.cells #[.int .i64 r, .slice op np cp] 33) = wp := ⟨_, rfl⟩
             rw [hwp]
             have hb0 : wp.heap[wr.heap.size]? = some (.cells #[.int .i64 r, .slice op np cp] 33 (0, 0)) := by rw [← hwp]; exact block_alloc_new _ _
             have e0 : wp.cell? ⟨wr.heap.size, 0, none⟩ = some (.int .i64 r) := cell_of_block hb0 rfl
             have hcp : Chg (fun _ => False) wr wp := by rw [← hwp]; exact (Chg.refl _ _).alloc _
             have e2 : (wp.alloc (.cells #[.int .i64 kind, .int .i64 0, .int .i64 r, .int .i64 txn, .bool false, .slice none 0 0] 24)).cell? ⟨wr.heap.size, 1, none⟩ = some (.slice op np cp) := ((Chg.refl (fun _ => False) wp).alloc _).cell (cell_of_block hb0 rfl) id
             have HCp := Lib.hid hcp
             have hca := hcp.alloc (.cells (msgP kind txn (r, .slice none 0 0)).toArray 24)
             have HC3 := Lib.hid (hca.alloc (.cells (msgP kind txn (r, .slice none 0 0)).toArray 24))
             have hnn := cells_new (wp.alloc (.cells (msgP kind txn (r, .slice none 0 0)).toArray 24)) (msgP kind txn (r, .slice none 0 0)) 24
             rw [World.size_alloc] at hnn
             have HNew2 := Lib.hid hnn
             clear hwp hcp hca hb0 hnn)
          | (at_builtin; refine wpList_append_own_at _ rfl _ _ 28 rfl w.heap.size 24 i0 (.agg (msgC 0 0 0 0 false).toArray) 6 64 Try.underlying28 HI0.out.1 HI0.out.2.1 HI0.out.2.2.1 HI0.out.2.2.2 rfl (by decide) _ _ _ rfl ((HO.out.kept HC3.out (fun _ _ h => h)).row) ⟨wp.heap.size + 1, 0, none⟩ 1 1 (msgP kind txn (r, .slice none 0 0)) rfl rfl HNew2.out (HOne.out _ _ _) (by rw [HTl.out]; unfold maxLen; omega) (by rw [HTl.out]; omega) (Nat.le_trans HC.out.size HC3.out.size) ?_; intro v6 w6 ho6 hg6 hx1 hx2; have HO6 := Lib.hid ho6; have HG6 := Lib.hid hg6; clear ho6 hg6 hx1 hx2))
        refine ⟨⟨k + 1, T ++ [(r, .slice none 0 0)], by go_num, hlt, ?_, by rw [List.map_append, HT1.out, HSu.out, HPr.out]; simp, by intro y hy; rw [List.map_append] at hy; rcases List.mem_append.1 hy with h | h; exact HT2.out y h; rw [List.mem_singleton.1 h]; exact ⟨_, _, _, rfl⟩, (HC.out.trans' HC3.out).new (Chg.of_grown HG6.out) (fun j e => (HO.out.lt e.symm).1)⟩, meas_step hlt⟩
        rw [List.map_append]
        refine OwnRecs.append ?_ HO.out.each ?_
        · have h1 := HO6.out
          rw [HTl.out] at h1 ⊢
          simpa [msgP] using h1
        · intro y hy
          simp only [List.map_cons, List.map_nil, List.mem_singleton] at hy
          rw [hy]; rfl
  · have hki : ¬ (k : Int) < (E.ps.length : Int) := by omega
    have hkl : k = E.ps.length := by omega
    rw [hkl, List.take_length] at HT1
    clear hkl
    go_wp2_with fail
    go_ret
    exact ⟨_, rfl, ⟨T, HO.out, HT1.out, HT2.out⟩, HC.out⟩

end Go.Proofs.Ytogjjkbgagedpaa.coordg

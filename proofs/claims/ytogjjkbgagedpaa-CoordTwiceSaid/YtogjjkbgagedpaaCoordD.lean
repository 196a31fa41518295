/-
  coord: has, lacks, vote, Take of a vote, Sure, State.
-/
import Derived.Test.YtogjjkbgagedpaaCoordC
namespace Go.Proofs.Ytogjjkbgagedpaa.coords
open Go.RowKit Go.Maps Go.My Go.ChangeMaps
set_option maxRecDepth 100000

variable {w w' : World} {c q x qa : Nat} {F F' : Nat → Prop} {lim : Int} {m : List (Int × Nat)} {E : EV} {pv : Value}

theorem has_closure (w : World) (r f : Int) (g : Nat) (hg : w.cell? ⟨g, 0, none⟩ = some (.int .i64 f)) (ps : Value) : Calls Try.prog 59 #[.agg #[.int .i64 r, ps], .pointer (some ⟨g, 0, none⟩)] w fun e w' => e = .returned (.bool (r == f)) ∧ Chg (fun _ => False) w w' := by
  have h2 : (w.alloc (.cells #[.int .i64 r, ps] 33)).cell? ⟨g, 0, none⟩ = some (.int .i64 f) := ((Chg.refl (fun _ => False) w).alloc _).cell hg id
  go_enter Try.func59, Try.ntmps59
  go_wp2_with fail
  go_ret
  exact ⟨rfl, (Chg.refl _ _).alloc _⟩

set_option maxHeartbeats 1000000 in
theorem index_any (w : World) {pv : Value} {ps : List Int} (h : OwnRecs w 0 33 2 pv (ps.map planC)) (hl : ps.length ≤ 6) (f : Int) (g : Nat) (hg : w.cell? ⟨g, 0, none⟩ = some (.int .i64 f)) (hf : f ∈ ps) :
    Calls Try.prog 77 #[pv, .func (.func 59) #[] #[.pointer (some ⟨g, 0, none⟩)]] w fun e w' => ∃ k : Nat, e = .returned (.int .i64 (k : Int)) ∧ Chg (fun _ => False) w w' := by
  obtain ⟨oa, cap, rfl, -⟩ := h.slice
  rw [List.length_map] at h ⊢
  have H := Lib.hid h
  have HG := Lib.hid hg
  have HF := Lib.hid hf
  clear h hg hf
  go_enter Try.func77, Try.ntmps77
  go_wp2_with fail
  go_loopw [8] (fun j wr => ∃ k : Nat, j = .int .i64 k ∧ k ≤ ps.length ∧ (∀ i r, i < k → ps[i]? = some r → r ≠ f) ∧ Chg (fun _ => False) w wr) (fun j _ => ps.length - (intOf j).toNat)
  · exact ⟨0, rfl, Nat.zero_le _, by intro i r h; omega, Chg.refl _ _⟩
  obtain ⟨k, rfl, hk, hno, hc⟩ := hrel
  have HC := Lib.hid hc
  have HNo := Lib.hid hno
  clear hc hno
  by_cases hlt : k < ps.length
  · have hki : (k : Int) < (ps.length : Int) := by omega
    obtain ⟨g', cap', r, e1, hr, d0, d1⟩ := plan_cells (H.out.kept HC.out (fun _ _ h => h)) hlt
    simp only [Value.slice.injEq] at e1
    obtain ⟨rfl, -, -⟩ := e1
    have Hr := Lib.hid hr
    clear hr
    by_cases he : r = f
    · have heb : (r == f) = true := by simp [he]
      clear he
      go_wp2_with (first
        | (go_at_call 59; refine (has_closure _ r f g (HC.out.cell HG.out id) _).mono ?_; rw [heb]; rintro e w1 ⟨rfl, hc1⟩; have HC1 := Lib.hid hc1; clear hc1))
      go_ret
      exact ⟨k, rfl, HC.out.trans' HC1.out⟩
    · have heb : (r == f) = false := by simp [he]
      have HNe := Lib.hid he
      clear he
      go_wp2_with (first
        | (go_at_call 59; refine (has_closure _ r f g (HC.out.cell HG.out id) _).mono ?_; rw [heb]; rintro e w1 ⟨rfl, hc1⟩; have HC1 := Lib.hid hc1; clear hc1))
      refine ⟨⟨k + 1, by go_num, hlt, fun i r' hi hr' => ?_, HC.out.trans' HC1.out⟩, meas_step hlt⟩
      rcases Nat.lt_or_ge i k with h | h
      · exact HNo.out i r' h hr'
      · have : i = k := by omega
        subst this
        rw [Hr.out] at hr'
        cases hr'; exact HNe.out
  · exfalso
    obtain ⟨i, hi⟩ := List.getElem?_of_mem HF.out
    exact HNo.out i f (by have := (List.getElem?_eq_some_iff.1 hi).1; omega) hi rfl

theorem contains_any (w : World) {pv : Value} {ps : List Int} (h : OwnRecs w 0 33 2 pv (ps.map planC)) (hl : ps.length ≤ 6) (f : Int) (g : Nat) (hg : w.cell? ⟨g, 0, none⟩ = some (.int .i64 f)) (hf : f ∈ ps) :
    Calls Try.prog 58 #[pv, .func (.func 59) #[] #[.pointer (some ⟨g, 0, none⟩)]] w fun e w' => e = .returned (.bool true) ∧ Chg (fun _ => False) w w' := by
  have HI := Lib.hid (index_any w h hl f g hg hf)
  clear h hg hf
  go_enter Try.func58, Try.ntmps58
  go_wp2_with (go_at_call 77; refine HI.out.mono ?_; rintro e w1 ⟨k, rfl, hc1⟩; have HC1 := Lib.hid hc1; have hk0 : (0 : Int) ≤ (k : Int) := by omega
               clear hc1)
  go_ret
  exact ⟨rfl, HC1.out⟩

theorem has_any (w : World) (h : EntIs w x F E pv qa) (f : Int) (hf : f ∈ E.ps) : Calls Try.prog 36 #[ptrV x, .int .i64 f] w fun e w' => e = .returned (.bool true) ∧ Chg (fun _ => False) w w' := by
  have hmf : ∀ (fn : Fn) (first cap : Array Value) (w : World), (Instr.makeFunc fn first cap).run Try.prog w = .ok (.func fn first cap) w := fun _ _ _ _ => rfl
  have hca := (Chg.refl (fun _ => False) w).alloc (.cells #[.int .i64 f] 3)
  have c2 : (w.alloc (.cells #[.int .i64 f] 3)).cell? ⟨x, 2, none⟩ = some pv := cell_of_block (hca.at h.head id) rfl
  have c2' : w.cell? ⟨x, 2, none⟩ = some pv := cell_of_block h.head rfl
  have hg : (w.alloc (.cells #[.int .i64 f] 3)).cell? ⟨w.heap.size, 0, none⟩ = some (.int .i64 f) := cell_of_block (block_alloc_new _ _) rfl
  have HH := Lib.hid (contains_any _ (h.plans.kept hca (fun _ _ h => h)) h.len f w.heap.size hg hf)
  have HCa := Lib.hid hca
  clear h hf hca hg
  unfold ptrV
  go_enter Try.func36, Try.ntmps36
  go_wp2_with (go_at_call 58; refine HH.out.mono ?_; rintro e w1 ⟨rfl, hc1⟩; have HC1 := Lib.hid hc1; clear hc1)
  go_ret
  exact ⟨rfl, HCa.out.trans' HC1.out⟩

theorem info_int : (Try.prog.info? 3).map (fun i => (i.zero, i.size, i.bytes)) = some (some (.int .i64 0), 1, 8) := by kernel_rfl

def lacksOf (E : EV) (k : Nat) : List Int := (E.ps.take k).filter (fun r => !(mget E.ans r).getD false)

theorem lacksOf_succ (E : EV) {k : Nat} {r : Int} (hr : E.ps[k]? = some r) : lacksOf E (k + 1) = lacksOf E k ++ if (mget E.ans r).getD false = true then [] else [r] := by
  rw [lacksOf, List.take_add_one, hr, Option.toList_some, List.filter_append]
  congr 1
  cases h : (mget E.ans r).getD false <;> simp [h]

set_option maxHeartbeats 1000000 in
theorem lacks_any (w : World) (h : EntIs w x F E pv qa) :
    Calls Try.prog 44 #[ptrV x] w fun e w' => ∃ v, e = .returned v ∧ (∃ oa cap, v = .slice oa (lacksOf E E.ps.length).length cap) ∧ Chg (fun _ => False) w w' := by
  obtain ⟨oa, cap, rfl, -⟩ := h.plans.slice
  rw [List.length_map] at h
  have c2 : w.cell? ⟨x, 2, none⟩ = some (.slice oa E.ps.length cap) := cell_of_block h.head rfl
  obtain ⟨i0, hI0⟩ := info_parts info_int
  have HI0 := Lib.hid hI0
  have H := Lib.hid h
  have hl6 := h.len
  clear h hI0
  unfold ptrV
  go_enter Try.func44, Try.ntmps44
  go_wp2_with fail
  go_loopw [3, 11] (fun u j wr => ∃ k : Nat, j = .int .i64 k ∧ k ≤ E.ps.length ∧ wr.ownsRow w.heap.size 3 1 u (lacksOf E k).length ((lacksOf E k).map (Value.int .i64)) ∧ Chg (fun _ => False) w wr) (fun _ j _ => E.ps.length - (intOf j).toNat)
  · exact ⟨0, rfl, Nat.zero_le _, by simpa [lacksOf] using World.ownsRow_nil w w.heap.size 3 1, Chg.refl _ _⟩
  obtain ⟨k, rfl, hk, ho, hc⟩ := hrel
  have HO := Lib.hid ho
  have HC := Lib.hid hc
  clear ho hc
  by_cases hlt : k < E.ps.length
  · have hki : (k : Int) < (E.ps.length : Int) := by omega
    have hE := H.out.fresh HC.out
    obtain ⟨g, cap', r, e1, hr, d0, d1⟩ := plan_cells hE.plans hlt
    simp only [Value.slice.injEq] at e1
    obtain ⟨rfl, -, -⟩ := e1
    have hrok := hE.ok r (List.mem_of_getElem? hr)
    have Hr := Lib.hid hr
    have HE := Lib.hid hE
    have hll : (lacksOf E k).length ≤ 6 := by
      have : (lacksOf E k).length ≤ k := by unfold lacksOf; exact Nat.le_trans (List.length_filter_le _ _) (by rw [List.length_take]; omega)
      omega
    obtain ⟨n, hn⟩ : ∃ n, (lacksOf E k).length = n := ⟨_, rfl⟩
    rw [hn] at HO hll
    have HN := Lib.hid hn
    clear hr hE hn
    go_wp2_with fail
    obtain ⟨wb, hwb⟩ : ∃ wb, wr.alloc (.cells #[.int .i64 r, .slice none 0 0] 33) = wb := ⟨_, rfl⟩
    rw [hwb]
    have hbx : wb.heap[wr.heap.size]? = some (.cells #[.int .i64 r, .slice none 0 0] 33 (0, 0)) := by rw [← hwb]; exact block_alloc_new _ _
    have hcb : Chg (fun _ => False) wr wb := by rw [← hwb]; exact (Chg.refl _ _).alloc _
    have e0 : wb.cell? ⟨wr.heap.size, 0, none⟩ = some (.int .i64 r) := cell_of_block hbx rfl
    have e3 : wb.cell? ⟨x, 3, none⟩ = some (.map (some qa)) := cell_of_block (hcb.at HE.out.head id) rfl
    have hlk := (HE.out.ans.kept (hcb.drew) id).look Try.underlying84 (zero_bool _) false r (WalkArith.wf_i64 (by omega))
    rw [lookRes_bool1] at hlk
    obtain ⟨bb, hbb⟩ : ∃ bb, (mget E.ans r).getD false = bb := ⟨_, rfl⟩
    rw [hbb] at hlk
    have hlk : (Instr.lookup 84 (.map (some qa)) (.int .i64 r) false).run Try.prog wb.drew = .ok (.bool bb) wb.drew := hlk
    have hsucc := lacksOf_succ E Hr.out
    rw [hbb] at hsucc
    have HCb := Lib.hid hcb
    have HLk := Lib.hid hlk
    have HSu := Lib.hid hsucc
    clear hwb hbx hcb hlk hbb hsucc
    refine wp_region_noPanic ?_
    refine wp_region_held_drew (S := (fun w' => w'.cell? ⟨x, 3, none⟩ = some (.map (some qa)) ∧ w'.cell? ⟨wr.heap.size, 0, none⟩ = some (.int .i64 r) ∧ (Instr.lookup 84 (.map (some qa)) (.int .i64 r) false).run Try.prog w' = .ok (.bool bb) w')) (by kernel_rfl) (⟨e3, e0, HLk.out⟩) (fun hHeld => ?_)
    refine take_list (i := 0) (v := ?_) rfl (by kernel_rfl) (by kernel_rfl) (by kernel_rfl) (fun _ _ _ h => h) (Or.inl ⟨by rfl, fun w hSw => ?_⟩) hHeld ?_
    rotate_left
    · (obtain ⟨hSw1, hSw2, hSw3⟩ := hSw; go_simp)
      try with_reducible rfl
    simp only [Act.put, List.setIfInBounds_toArray, List.set_cons_zero, List.set_cons_succ]
    refine take_list (i := 1) (v := ?_) rfl (by kernel_rfl) (by kernel_rfl) (by kernel_rfl) (fun _ _ _ h => h) (Or.inl ⟨by rfl, fun w hSw => ?_⟩) hHeld ?_
    rotate_left
    · (obtain ⟨hSw1, hSw2, hSw3⟩ := hSw; go_simp)
      try with_reducible rfl
    simp only [Act.put, List.setIfInBounds_toArray, List.set_cons_zero, List.set_cons_succ]
    refine take_list (i := 2) (v := ?_) rfl (by kernel_rfl) (by kernel_rfl) (by kernel_rfl) (fun _ _ _ h => h) (Or.inl ⟨by rfl, fun w hSw => ?_⟩) hHeld ?_
    rotate_left
    · (obtain ⟨hSw1, hSw2, hSw3⟩ := hSw; go_simp)
      try with_reducible rfl
    simp only [Act.put, List.setIfInBounds_toArray, List.set_cons_zero, List.set_cons_succ]
    refine take_list (i := 3) (v := ?_) rfl (by kernel_rfl) (by kernel_rfl) (by kernel_rfl) (fun _ _ _ h => h) (Or.inl ⟨by rfl, fun w hSw => ?_⟩) hHeld ?_
    rotate_left
    · (obtain ⟨hSw1, hSw2, hSw3⟩ := hSw; go_simp)
      try with_reducible rfl
    simp only [Act.put, List.setIfInBounds_toArray, List.set_cons_zero, List.set_cons_succ]
    refine take_list (i := 4) (v := ?_) rfl (by kernel_rfl) (by kernel_rfl) (by kernel_rfl) (fun _ _ _ h => h) (Or.inl ⟨by rfl, fun w hSw => ?_⟩) hHeld ?_
    rotate_left
    · (obtain ⟨hSw1, hSw2, hSw3⟩ := hSw; go_simp)
      try with_reducible rfl
    simp only [Act.put, List.setIfInBounds_toArray, List.set_cons_zero, List.set_cons_succ]
    refine take_list (i := 5) (v := ?_) rfl (by kernel_rfl) (by kernel_rfl) (by kernel_rfl) (fun _ _ _ h => h) (Or.inl ⟨by rfl, fun w hSw => ?_⟩) hHeld ?_
    rotate_left
    · (obtain ⟨hSw1, hSw2, hSw3⟩ := hSw; go_simp)
      try with_reducible rfl
    simp only [Act.put, List.setIfInBounds_toArray, List.set_cons_zero, List.set_cons_succ]
    refine take_list (i := 6) (v := ?_) rfl (by kernel_rfl) (by kernel_rfl) (by kernel_rfl) (fun _ _ _ h => h) (Or.inl ⟨by rfl, fun w hSw => ?_⟩) hHeld ?_
    rotate_left
    · (obtain ⟨hSw1, hSw2, hSw3⟩ := hSw; go_simp)
      try with_reducible rfl
    simp only [Act.put, List.setIfInBounds_toArray, List.set_cons_zero, List.set_cons_succ]
    refine take_list (i := 7) (v := ?_) rfl (by kernel_rfl) (by kernel_rfl) (by kernel_rfl) (fun _ _ _ h => h) (Or.inl ⟨by rfl, fun w hSw => ?_⟩) hHeld ?_
    rotate_left
    · (obtain ⟨hSw1, hSw2, hSw3⟩ := hSw; go_simp)
      try with_reducible rfl
    simp only [Act.put, List.setIfInBounds_toArray, List.set_cons_zero, List.set_cons_succ]
    refine wpAnyH_done (by kernel_rfl) ?_ _
    refine NoPanic.normal ?_
    clear hHeld
    cases bb with
    | true =>
      go_wp2_with fail
      refine ⟨⟨k + 1, by go_num, hlt, ?_, HC.out.trans' HCb.out.drew⟩, meas_step hlt⟩
      rw [HSu.out, if_pos rfl, List.append_nil, HN.out]
      exact row_kept HO.out HCb.out.drew (fun _ _ h => h)
    | false =>
      have hca := HCb.out.drew.alloc (.cells #[.int .i64 r] 3)
      have HRow := Lib.hid (row_kept HO.out hca (fun _ _ h => h))
      have HCa := Lib.hid hca
      clear hca
      go_wp2_with (first
        | (at_builtin; refine wpList_append_own_at _ rfl _ _ 41 rfl w.heap.size 3 i0 (.int .i64 0) 1 8 Try.underlying41 HI0.out.1 HI0.out.2.1 HI0.out.2.2.1 HI0.out.2.2.2 rfl (by decide) _ n _ rfl HRow.out ⟨wb.heap.size, 0, none⟩ 1 1 [.int .i64 r] rfl rfl (cells_new wb.drew [.int .i64 r] _) (by intro x hx; rw [List.mem_singleton.1 hx]; rfl) (by unfold maxLen; omega) (by omega) (Nat.le_trans HC.out.size HCa.out.size) ?_; intro v6 w6 ho6 hg6 hx1 hx2; have HO6 := Lib.hid ho6; have HG6 := Lib.hid hg6; clear ho6 hg6 hx1 hx2))
      refine ⟨⟨k + 1, by go_num, hlt, ?_, (HC.out.trans' HCa.out).new (Chg.of_grown HG6.out) (fun j e => (HO.out.lt j e.symm).1)⟩, meas_step hlt⟩
      rw [HSu.out, if_neg (by simp), List.length_append, HN.out, List.map_append]
      exact HO6.out
  · have hki : ¬ (k : Int) < (E.ps.length : Int) := by omega
    have hkl : k = E.ps.length := by omega
    rw [hkl] at HO
    clear hkl
    go_wp2_with fail
    go_ret
    obtain ⟨oa', cap', hv⟩ := own_slice HO.out
    exact ⟨_, rfl, ⟨oa', cap', hv⟩, HC.out⟩

end Go.Proofs.Ytogjjkbgagedpaa.coords

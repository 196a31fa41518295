/-
  wal: the head that a block has; the walk.
-/
import Derived.Test.YtbkefhoapnaciaaGreatPkAb
import Derived.Test.YtbkefhoapnaciaaGreatPkAc
import Derived.Test.YtbkefhoapnaciaaGreatPkAe
import Derived.Test.YtbkefhoapnaciaaGreatPkAf
import Derived.Deep.RegionHeld3

section
set_option linter.unusedSimpArgs false
set_option linter.unusedVariables false
namespace Go.Proofs.YtbkefhoapnaciaaGreat.wals
open Go.RowKit Go.My disks bufs
set_option maxRecDepth 100000

theorem head_ones (a b c : Int) : (#[.int .i64 a, .int .i64 b, .int .i64 c] : Array Value).all (·.oneCell') = true := all_oneCell_toArray (cs := [.int .i64 a, .int .i64 b, .int .i64 c]) (by simp [Value.oneCell'])
theorem size_head : (Tryz.prog.info? 117).map (·.size) = some 3 := by kernel_rfl
theorem blk_sub {w : World} {g : Nat} {b : Blk} {t : TypeId} (h : Arr w g t (cellsB b)) (o n cap : Nat) (hn : o + n ≤ b.length) (h0 : 0 < n) : SlAt w (.slice (some ⟨g, o, none⟩) n cap) (cellsB ((b.drop o).take n)) := by
  have hl : (cellsB ((b.drop o).take n)).length = n := by rw [cellsB_length, List.length_take, List.length_drop]; omega
  refine ⟨some ⟨g, o, none⟩, cap, by rw [hl], fun _ => ⟨_, _, rfl⟩, fun b' off ho i x hx => ?_⟩
  cases ho
  have hi : i < n := by have := (List.getElem?_eq_some_iff.1 hx).1; rwa [hl] at this
  refine h.cell ?_
  simp only [cellsB, List.getElem?_map, List.getElem?_take_of_lt hi, List.getElem?_drop] at hx ⊢
  exact hx


set_option maxHeartbeats 2000000 in
theorem read_any (w : World) (b : Blk) (hb : b.length = 64) (pl most : Nat) (hpl : pl < 2) (hm : most < 4294967296) :
    Calls Tryz.prog 66 #[.agg (cellsB b).toArray, .int .i64 pl, .int .i64 most] w fun e w' => ∃ (s a k : Nat) (ok : Bool), e = .returned (.tuple #[.agg #[.int .i64 s, .int .i64 a, .int .i64 k], .bool ok]) ∧
      readH b pl most = (if ok then some (s, a, k) else none) ∧ s ≤ 1152921504606846976 ∧ Chg (fun _ => False) w w' := by
  obtain ⟨s, hs⟩ : ∃ s, ofBe ((b.drop 4).take 8) = s := ⟨_, rfl⟩
  obtain ⟨k, hk⟩ : ∃ k, ofBe ((b.drop 12).take 4) = k := ⟨_, rfl⟩
  obtain ⟨a, ha⟩ : ∃ a : UInt8, b[2]?.getD 0 = a := ⟨_, rfl⟩
  have h1 := fun w' (h : Arr w' w.heap.size 120 (cellsB b)) => readFixed_any w' 8 (Or.inr rfl) _ _ _ _ (blk_sub h 4 8 8 (by omega) (by omega)) (by rw [List.length_take, List.length_drop]; omega)
  have h2 := fun w' (h : Arr w' w.heap.size 120 (cellsB b)) => readFixed_any w' 4 (Or.inl rfl) _ _ _ _ (blk_sub h 12 4 4 (by omega) (by omega)) (by rw [List.length_take, List.length_drop]; omega)
  rw [hs] at h1
  rw [hk] at h2
  have hs64 : s < 18446744073709551616 := by
    rw [← hs]
    have h3 := ofBe_lt ((b.drop 4).take 8)
    have h4 : (256 : Nat) ^ ((b.drop 4).take 8).length ≤ 256 ^ 8 := Nat.pow_le_pow_right (by omega) (by rw [List.length_take]; omega)
    have h5 : (256 : Nat) ^ 8 = 18446744073709551616 := rfl
    omega
  have hk32 : k < 4294967296 := by
    rw [← hk]
    have h3 := ofBe_lt ((b.drop 12).take 4)
    have h4 : (256 : Nat) ^ ((b.drop 12).take 4).length ≤ 256 ^ 4 := Nat.pow_le_pow_right (by omega) (by rw [List.length_take]; omega)
    have h5 : (256 : Nat) ^ 4 = 4294967296 := rfl
    omega
  have hrd : readH b pl most = if s < 1 ∨ 1152921504606846976 < s ∨ s % 2 ≠ pl ∨ 1 < a.toNat ∨ most < k then none else if headB s a.toNat k = b then some (s, a.toNat, k) else none := by
    unfold readH; rw [hs, hk, ha]
  have HR := Lib.hid hrd
  have H1 := Lib.hid h1
  have H2 := Lib.hid h2
  have HB := Lib.hid hb
  have ha2 : (cellsB b)[2]? = some (.int .u8 (a.toNat : Int)) := by
    have : b[2]? = some a := by rw [← ha, List.getElem?_eq_getElem (by omega)]; rfl
    simp [cellsB, this]
  have HA2 := Lib.hid ha2
  have hal := a.toNat_lt
  clear hrd h1 h2 hb ha2 hs hk ha
  obtain ⟨w0, hw0⟩ : ∃ w0, ((w.alloc (.cells (cellsB b).toArray 120)).alloc (.cells #[.int .i64 0, .int .i64 0, .int .i64 0] 117)) = w0 := ⟨_, rfl⟩
  have hArr : Arr w0 w.heap.size 120 (cellsB b) := by rw [← hw0]; exact at2_0
  have hRes : Arr w0 (w.heap.size + 1) 117 [.int .i64 0, .int .i64 0, .int .i64 0] := by rw [← hw0]; exact at2_1
  have hC0 : Chg (fun _ => False) w w0 := by rw [← hw0]; exact chg2
  have e2 := hArr.cell HA2.out
  have HArr := Lib.hid hArr
  have HRes := Lib.hid hRes
  have HC0 := Lib.hid hC0
  have HW0 := Lib.hid hw0
  clear hArr hRes hC0 hw0 HA2
  have hz2 : ((s : Int) % 2 != (pl : Int)) = decide (s % 2 ≠ pl) := by
    by_cases h : s % 2 = pl
    · have : (s : Int) % 2 = (pl : Int) := by omega
      simp [h, this]
    · have : ¬ (s : Int) % 2 = (pl : Int) := by omega
      simp [h, this]
  have hmm : (most : Int) % 18446744073709551616 = (most : Int) := by omega
  by_cases hbad : s < 1 ∨ 1152921504606846976 < s ∨ s % 2 ≠ pl ∨ 1 < a.toNat ∨ most < k
  · have hr : readH b pl most = none := by rw [HR.out, if_pos hbad]
    have HRn := Lib.hid hr
    clear hr HR
    have hor : s < 1 ∨ (1 ≤ s ∧ 1152921504606846976 < s) ∨ (1 ≤ s ∧ s ≤ 1152921504606846976 ∧ s % 2 ≠ pl) ∨ (1 ≤ s ∧ s ≤ 1152921504606846976 ∧ s % 2 = pl ∧ 1 < a.toNat) ∨ (1 ≤ s ∧ s ≤ 1152921504606846976 ∧ s % 2 = pl ∧ a.toNat ≤ 1 ∧ most < k) := by omega
    clear hbad
    rcases hor with c1 | ⟨c0, c1⟩ | ⟨c0, c1, c2⟩ | ⟨c0, c1, c2, c3⟩ | ⟨c0, c1, c2, c3, c4⟩
    · have i1 : (s : Int) < 1 := by omega
      clear c1
      clear hz2
      go_enter Tryz.func66, Tryz.ntmps66
      go_wp2_with (first
        | (go_at_call 80; fail))
      rw [HW0.out]
      refine (H1.out _ HArr.out).mono ?_
      rintro e w' ⟨rfl, rfl⟩
      dsimp only
      go_wp2_with (first
        | (go_at_call 80; fail))
      refine (H2.out _ HArr.out).mono ?_
      rintro e w' ⟨rfl, rfl⟩
      dsimp only
      go_wp2_with (first
        | (refine wpList_store_mid rfl 117 _ _ rfl (w.heap.size + 1) 0 #[.int .i64 0, .int .i64 0, .int .i64 0] rfl rfl HRes.out.there size_head (head_ones 0 0 0) ?_))
      have hst := HRes.out.store (vs := [.int .i64 0, .int .i64 0, .int .i64 0]) rfl
      refine bodyPost_ret (result_cell_tmp rfl _ rfl (hst.arr.load Tryz.underlying117 rfl size_head) rfl) rfl ?_
      exact ⟨0, 0, 0, false, rfl, HRn.out, by omega, HC0.out.new hst.chg (fun i hi => by omega)⟩
    · have i1 : (1 : Int) ≤ s := by omega
      have i2 : (1152921504606846976 : Int) < s := by omega
      clear c0 c1
      clear hz2
      go_enter Tryz.func66, Tryz.ntmps66
      go_wp2_with (first
        | (go_at_call 80; fail))
      rw [HW0.out]
      refine (H1.out _ HArr.out).mono ?_
      rintro e w' ⟨rfl, rfl⟩
      dsimp only
      go_wp2_with (first
        | (go_at_call 80; fail))
      refine (H2.out _ HArr.out).mono ?_
      rintro e w' ⟨rfl, rfl⟩
      dsimp only
      go_wp2_with (first
        | (refine wpList_store_mid rfl 117 _ _ rfl (w.heap.size + 1) 0 #[.int .i64 0, .int .i64 0, .int .i64 0] rfl rfl HRes.out.there size_head (head_ones 0 0 0) ?_))
      have hst := HRes.out.store (vs := [.int .i64 0, .int .i64 0, .int .i64 0]) rfl
      refine bodyPost_ret (result_cell_tmp rfl _ rfl (hst.arr.load Tryz.underlying117 rfl size_head) rfl) rfl ?_
      exact ⟨0, 0, 0, false, rfl, HRn.out, by omega, HC0.out.new hst.chg (fun i hi => by omega)⟩
    · have i1 : (1 : Int) ≤ s := by omega
      have i2 : (s : Int) ≤ 1152921504606846976 := by omega
      have hz : ((s : Int) % 2 != (pl : Int)) = true := by rw [hz2]; simp [c2]
      clear c0 c1 c2
      clear hz2
      go_enter Tryz.func66, Tryz.ntmps66
      go_wp2_with (first
        | (go_at_call 80; fail))
      rw [HW0.out]
      refine (H1.out _ HArr.out).mono ?_
      rintro e w' ⟨rfl, rfl⟩
      dsimp only
      go_wp2_with (first
        | (go_at_call 80; fail))
      refine (H2.out _ HArr.out).mono ?_
      rintro e w' ⟨rfl, rfl⟩
      dsimp only
      go_wp2_with (first
        | (refine wpList_store_mid rfl 117 _ _ rfl (w.heap.size + 1) 0 #[.int .i64 0, .int .i64 0, .int .i64 0] rfl rfl HRes.out.there size_head (head_ones 0 0 0) ?_))
      have hst := HRes.out.store (vs := [.int .i64 0, .int .i64 0, .int .i64 0]) rfl
      refine bodyPost_ret (result_cell_tmp rfl _ rfl (hst.arr.load Tryz.underlying117 rfl size_head) rfl) rfl ?_
      exact ⟨0, 0, 0, false, rfl, HRn.out, by omega, HC0.out.new hst.chg (fun i hi => by omega)⟩
    · have i1 : (1 : Int) ≤ s := by omega
      have i2 : (s : Int) ≤ 1152921504606846976 := by omega
      have hz : ((s : Int) % 2 != (pl : Int)) = false := by rw [hz2]; simp [c2]
      have i3 : (1 : Int) < (a.toNat : Int) := by omega
      clear c0 c1 c2 c3
      clear hz2
      go_enter Tryz.func66, Tryz.ntmps66
      go_wp2_with (first
        | (go_at_call 80; fail))
      rw [HW0.out]
      refine (H1.out _ HArr.out).mono ?_
      rintro e w' ⟨rfl, rfl⟩
      dsimp only
      go_wp2_with (first
        | (go_at_call 80; fail))
      refine (H2.out _ HArr.out).mono ?_
      rintro e w' ⟨rfl, rfl⟩
      dsimp only
      go_wp2_with (first
        | (refine wpList_store_mid rfl 117 _ _ rfl (w.heap.size + 1) 0 #[.int .i64 0, .int .i64 0, .int .i64 0] rfl rfl HRes.out.there size_head (head_ones 0 0 0) ?_))
      have hst := HRes.out.store (vs := [.int .i64 0, .int .i64 0, .int .i64 0]) rfl
      refine bodyPost_ret (result_cell_tmp rfl _ rfl (hst.arr.load Tryz.underlying117 rfl size_head) rfl) rfl ?_
      exact ⟨0, 0, 0, false, rfl, HRn.out, by omega, HC0.out.new hst.chg (fun i hi => by omega)⟩
    · have i1 : (1 : Int) ≤ s := by omega
      have i2 : (s : Int) ≤ 1152921504606846976 := by omega
      have hz : ((s : Int) % 2 != (pl : Int)) = false := by rw [hz2]; simp [c2]
      have i3 : (a.toNat : Int) ≤ 1 := by omega
      have i4 : (most : Int) < k := by omega
      clear c0 c1 c2 c3 c4
      clear hz2
      go_enter Tryz.func66, Tryz.ntmps66
      go_wp2_with (first
        | (go_at_call 80; fail))
      rw [HW0.out]
      refine (H1.out _ HArr.out).mono ?_
      rintro e w' ⟨rfl, rfl⟩
      dsimp only
      go_wp2_with (first
        | (go_at_call 80; fail))
      refine (H2.out _ HArr.out).mono ?_
      rintro e w' ⟨rfl, rfl⟩
      dsimp only
      go_wp2_with (first
        | (refine wpList_store_mid rfl 117 _ _ rfl (w.heap.size + 1) 0 #[.int .i64 0, .int .i64 0, .int .i64 0] rfl rfl HRes.out.there size_head (head_ones 0 0 0) ?_))
      have hst := HRes.out.store (vs := [.int .i64 0, .int .i64 0, .int .i64 0]) rfl
      refine bodyPost_ret (result_cell_tmp rfl _ rfl (hst.arr.load Tryz.underlying117 rfl size_head) rfl) rfl ?_
      exact ⟨0, 0, 0, false, rfl, HRn.out, by omega, HC0.out.new hst.chg (fun i hi => by omega)⟩
  · have hr : readH b pl most = if headB s a.toNat k = b then some (s, a.toNat, k) else none := by rw [HR.out, if_neg hbad]
    have HRg := Lib.hid hr
    have i1 : (1 : Int) ≤ s := by omega
    have i2 : (s : Int) ≤ 1152921504606846976 := by omega
    have hz : ((s : Int) % 2 != (pl : Int)) = false := by rw [hz2]; simp; omega
    have i3 : (a.toNat : Int) ≤ 1 := by omega
    have i4 : (k : Int) ≤ (most : Int) := by omega
    have HBad := Lib.hid hbad
    clear hr HR hbad hz2
    go_enter Tryz.func66, Tryz.ntmps66
    go_wp2_with (first
      | (go_at_call 80; fail))
    rw [HW0.out]
    refine (H1.out _ HArr.out).mono ?_
    rintro e w' ⟨rfl, rfl⟩
    dsimp only
    go_wp2_with (first
      | (go_at_call 80; fail))
    refine (H2.out _ HArr.out).mono ?_
    rintro e w' ⟨rfl, rfl⟩
    dsimp only
    go_wp2_with (first
      | (refine wpList_store_new rfl 117 _ _ rfl #[.int .i64 s, .int .i64 a.toNat, .int .i64 k] rfl rfl size_head rfl (head_ones _ _ _) ?_))
    have hl64 : (cellsB b).length = 64 := by rw [cellsB_length, HB.out]
    have hsb : (Tryz.prog.info? 120).map (·.size) = some (cellsB b).length := by rw [hl64]; exact size_wblock
    have hc1 : Chg (fun _ => False) w0 (w0.alloc (.cells #[.int .i64 s, .int .i64 a.toNat, .int .i64 k] 117)) := (Chg.refl _ _).alloc _
    have hA1 : Arr (w0.alloc (.cells #[.int .i64 s, .int .i64 a.toNat, .int .i64 k] 117)) w.heap.size 120 (cellsB b) := hc1.at HArr.out id
    have hN1 : Arr (w0.alloc (.cells #[.int .i64 s, .int .i64 a.toNat, .int .i64 k] 117)) w0.heap.size 117 [.int .i64 s, .int .i64 a.toNat, .int .i64 k] := at1
    have hR1 : Arr (w0.alloc (.cells #[.int .i64 s, .int .i64 a.toNat, .int .i64 k] 117)) (w.heap.size + 1) 117 [.int .i64 0, .int .i64 0, .int .i64 0] := hc1.at HRes.out id
    obtain ⟨w1, hw1⟩ : ∃ w1, w0.alloc (.cells #[.int .i64 s, .int .i64 a.toNat, .int .i64 k] 117) = w1 := ⟨_, rfl⟩
    rw [hw1] at hc1 hA1 hN1 hR1 ⊢
    have HC1 := Lib.hid hc1
    have HA1 := Lib.hid hA1
    have HN1 := Lib.hid hN1
    have HR1 := Lib.hid hR1
    have HSb := Lib.hid hsb
    clear hw1 hc1 hA1 hN1 hR1 hsb hl64
    have heq : ∀ w', (Op.equal 120 (.agg (cellsB (headB s a.toNat k)).toArray) (.agg (cellsB b).toArray)).run Tryz.prog w' = .ok (decide (headB s a.toNat k = b)) w' := fun w' => run_equal_block w' _ _ _ Tryz.underlying120 (headB_length _ _ _) HB.out
    have heg : Tryz.prog.eqGuardType Tryz.prog.depth 120 = false := by kernel_rfl
    have HEq := Lib.hid heq
    have HEg := Lib.hid heg
    clear heq heg
    refine wp_region_noPanic ?_
    refine wp_region_held_drew (S := (fun w' => w'.rangeAt w.heap.size 0 (cellsB b) ∧ w'.rangeAt w0.heap.size 0 [.int .i64 s, .int .i64 a.toNat, .int .i64 k])) (by kernel_rfl) (⟨HA1.out.range, HN1.out.range⟩) (fun hHeld => ?_)
    refine take_list (i := 3) rfl (by kernel_rfl) (by kernel_rfl) (by kernel_rfl) (fun _ _ _ h => h) ((yieldsIf_load_mid (by rfl) _ _ rfl _ _ rfl (cellsB b) _ (fun w h => h.1) Tryz.underlying120 rfl HSb.out)) hHeld ?_
    simp only [Act.put, List.setIfInBounds_toArray, List.set_cons_zero, List.set_cons_succ]
    refine take_list (i := 0) rfl (by kernel_rfl) (by kernel_rfl) (by kernel_rfl) (fun _ _ _ h => h) ((yieldsIf_load_mid (by rfl) _ _ rfl _ _ rfl [.int .i64 s, .int .i64 a.toNat, .int .i64 k] _ (fun w h => h.2) Tryz.underlying117 rfl size_head)) hHeld ?_
    simp only [Act.put, List.setIfInBounds_toArray, List.set_cons_zero, List.set_cons_succ]
    refine take_list (i := 1) rfl (by kernel_rfl) (by kernel_rfl) (by kernel_rfl) (fun _ _ _ h => h) ((yieldsIf_load_mid (by rfl) _ _ rfl _ _ rfl [.int .i64 s, .int .i64 a.toNat, .int .i64 k] _ (fun w h => h.2) Tryz.underlying117 rfl size_head)) hHeld ?_
    simp only [Act.put, List.setIfInBounds_toArray, List.set_cons_zero, List.set_cons_succ]
    refine wpAnyH_ready (rs := [2]) (by kernel_rfl) (by simp) (one_list (i := 2) rfl (by rfl) (fun K hK => ?_) AllReadyH.nil)
    go_simp
    refine (bytes_any _ s a.toNat k (by omega) (by omega) (by omega)).mono ?_
    rintro e w2 ⟨rfl, hc2⟩
    have HC2 := Lib.hid (HC1.out.trans' ((Chg.refl _ w1).drew.trans' hc2))
    have HA2 := Lib.hid (((Chg.refl _ w1).drew.trans' hc2).at HA1.out id)
    have HN2 := Lib.hid (((Chg.refl _ w1).drew.trans' hc2).at HN1.out id)
    have HR2 := Lib.hid (show Arr w2 (w.heap.size + 1) 117 _ from ((Chg.refl _ w1).drew.trans' hc2).at HR1.out id)
    clear hc2
    dsimp only
    refine hK _ _ (⟨Arr.range HA2.out, Arr.range HN2.out⟩) (fun hHeld2 => ?_)
    try simp only [Act.put, List.setIfInBounds_toArray, List.set_cons_zero, List.set_cons_succ]
    refine take_list (i := 4) rfl (by kernel_rfl) (by kernel_rfl) (by kernel_rfl) (fun _ _ _ h => h) ((yieldsIf_eql_block (by rfl) _ _ _ rfl (headB s a.toNat k) b rfl rfl Tryz.underlying120 (headB_length _ _ _) HB.out HEg.out)) hHeld2 ?_
    simp only [Act.put, List.setIfInBounds_toArray, List.set_cons_zero, List.set_cons_succ]
    refine wpAnyH_ready (rs := [5]) (by kernel_rfl) (by simp) (one_list (i := 5) rfl (by rfl) (fun K hK => ?_) AllReadyH.nil)
    refine wp_store_mid 117 _ _ rfl (w.heap.size + 1) 0 #[.int .i64 s, .int .i64 a.toNat, .int .i64 k] rfl rfl HR2.out.there size_head (head_ones _ _ _) ?_
    have hst := HR2.out.store (vs := [.int .i64 s, .int .i64 a.toNat, .int .i64 k]) rfl
    rw [List.toList_toArray]
    have hlt0 := lt_of_block HRes.out
    refine hK _ _ ⟨Arr.range (hst.chg.at HA2.out (by omega)), Arr.range (hst.chg.at HN2.out (by omega))⟩ (fun hHeld3 => ?_)
    try simp only [Act.put, List.setIfInBounds_toArray, List.set_cons_zero, List.set_cons_succ]
    refine take_list (i := 6) rfl (by kernel_rfl) (by kernel_rfl) (by kernel_rfl) (fun _ _ _ h => h) ((Or.inl ⟨by rfl, fun w' _ => rfl⟩)) hHeld3 ?_
    simp only [Act.put, List.setIfInBounds_toArray, List.set_cons_zero, List.set_cons_succ]
    refine wpAnyH_done (by kernel_rfl) ?_ _
    refine NoPanic.normal ?_
    clear hHeld hHeld2 hHeld3
    (try simp only [Exit.inBlock, Exit.then])
    go_wp2_with fail
    refine bodyPost_ret (result_cell_tmp rfl _ rfl (hst.arr.load Tryz.underlying117 rfl size_head) (x := .bool (decide (headB s a.toNat k = b))) rfl) rfl ?_
    refine ⟨s, a.toNat, k, decide (headB s a.toNat k = b), rfl, ?_, by omega, (HC0.out.trans' HC2.out).new hst.chg (fun i hi => by omega)⟩
    rw [HRg.out]
    by_cases he : headB s a.toNat k = b
    · rw [if_pos he, decide_eq_true he]; rfl
    · rw [if_neg he, decide_eq_false he]; rfl

end Go.Proofs.YtbkefhoapnaciaaGreat.wals
end

/-
  wal: a log in memory; its small calls.
-/
section
set_option linter.unusedSimpArgs false
set_option linter.unusedVariables false
namespace Go.Proofs.YtbkefhoapnaciaaGreat.wals
open Go.RowKit Go.My disks bufs
set_option maxRecDepth 100000

def strV (b : Blk) : Value := .string ⟨b.toArray⟩
theorem one_strs (l : List Blk) : ∀ v ∈ l.map strV, v.oneCell' = true := fun v hv => by obtain ⟨b, -, rfl⟩ := List.mem_map.1 hv; rfl

/-- The numbers of a log on a disk of n blocks. -/
structure LV.Ok (n : Nat) (V : LV) : Prop where
  ge : 6 ≤ n
  le : n ≤ 4096
  seq : V.seq ≤ 1152921504606846976
  area : V.area ≤ 1
  fit : V.used + V.more ≤ 64 * areaN n
  used : V.used = sizeB V.recs
  more : V.more = sizeB V.wait
  tail : V.tail.length = V.used % 64
  short : ∀ r ∈ V.wait, r.length ≤ 4096

theorem LV.Ok.small {n : Nat} {V : LV} (h : V.Ok n) : V.used ≤ 131008 ∧ V.more ≤ 131008 ∧ V.recs.length ≤ 131008 ∧ V.wait.length ≤ 131008 ∧ areaN n ≤ 2047 := by
  have h1 := areaN_le h.le
  have h2 := h.fit
  have h3 := sizeB_ge V.recs
  have h4 := sizeB_ge V.wait
  have h5 := h.used
  have h6 := h.more
  omega

def logC (d : Nat) (V : LV) (rv tv wv : Value) : List Value := [.pointer (some ⟨d, 0, none⟩), .int .i64 V.seq, .int .i64 V.area, .int .i64 V.used, rv, tv, wv, .int .i64 V.more, .bool V.lost]

structure LogIs (w : World) (l d : Nat) (F : Nat → Prop) (V : LV) (rv tv wv : Value) : Prop where
  head : Arr w l 119 (logC d V rv tv wv)
  recs : w.ownsRow 0 9 1 rv V.recs.length (V.recs.map strV)
  tail : w.ownsRow 0 5 1 tv V.tail.length (cellsB V.tail)
  wait : w.ownsRow 0 9 1 wv V.wait.length (V.wait.map strV)
  rw : ∀ g, rv.ownBlock = some g → wv.ownBlock ≠ some g
  fl : F l
  fr : ∀ g, rv.ownBlock = some g → F g
  ft : ∀ g, tv.ownBlock = some g → F g
  fw : ∀ g, wv.ownBlock = some g → F g
  lt : ∀ k, F k → k < w.heap.size

/-- A log, and its disk. -/
structure LogAt (w : World) (l d : Nat) (F Fd : Nat → Prop) (X : DV) (V : LV) : Prop where
  log : ∃ rv tv wv, LogIs w l d F V rv tv wv
  disk : DiskAt w d Fd X
  off : ∀ k, F k → ¬ Fd k

variable {w w' : World} {l d : Nat} {F Fd : Nat → Prop} {X : DV} {V : LV} {rv tv wv : Value}

theorem LogIs.kept (h : LogIs w l d F V rv tv wv) {S : Nat → Prop} (hc : Chg S w w') (hs : ∀ k, F k → ¬ S k) : LogIs w' l d F V rv tv wv :=
  ⟨hc.at h.head (hs _ h.fl), row_kept h.recs hc (fun g hg => hs _ (h.fr g hg)), row_kept h.tail hc (fun g hg => hs _ (h.ft g hg)), row_kept h.wait hc (fun g hg => hs _ (h.fw g hg)), h.rw, h.fl, h.fr, h.ft, h.fw, fun k hk => Nat.lt_of_lt_of_le (h.lt k hk) hc.size⟩

theorem LogAt.kept (h : LogAt w l d F Fd X V) {S : Nat → Prop} (hc : Chg S w w') (hs : ∀ k, F k ∨ Fd k → ¬ S k) : LogAt w' l d F Fd X V := by
  obtain ⟨⟨rv, tv, wv, hl⟩, hd, ho⟩ := h
  exact ⟨⟨rv, tv, wv, hl.kept hc (fun k hk => hs k (Or.inl hk))⟩, hd.kept hc (fun k hk => hs k (Or.inr hk)), ho⟩

theorem LogAt.fresh (h : LogAt w l d F Fd X V) (hc : Chg (fun _ => False) w w') : LogAt w' l d F Fd X V := h.kept hc (fun _ _ h => h)

theorem LogAt.lt (h : LogAt w l d F Fd X V) : ∀ k, F k ∨ Fd k → k < w.heap.size := by
  obtain ⟨⟨rv, tv, wv, hl⟩, hd, ho⟩ := h
  intro k hk
  rcases hk with hk | hk
  · exact hl.lt k hk
  · exact hd.lt k hk

theorem log_no (w : World) (h : LogAt w l d F Fd X V) : Calls Tryz.prog 68 #[.pointer (some ⟨l, 0, none⟩)] w fun e w' => e = .returned (.bool false) ∧ w = w' := by
  obtain ⟨⟨rv, tv, wv, hl⟩, -, -⟩ := h
  have c0 := hl.head.cell (i := 0) rfl
  clear hl
  go_enter Tryz.func68, Tryz.ntmps68
  go_wp2
  go_ret
  exact ⟨rfl, rfl⟩

theorem area_any (w : World) (h : LogAt w l d F Fd X V) (h2 : 2 ≤ X.B.length) (hle : X.B.length ≤ 4096) : Calls Tryz.prog 65 #[.pointer (some ⟨l, 0, none⟩)] w fun e w' => e = .returned (.int .i64 (areaN X.B.length : Int)) ∧ w = w' := by
  have HD := Lib.hid h.disk
  obtain ⟨⟨rv, tv, wv, hl⟩, -, -⟩ := h
  have c0 := hl.head.cell (i := 0) rfl
  obtain ⟨n, hn⟩ : ∃ n, X.B.length = n := ⟨_, rfl⟩
  have HN := Lib.hid hn
  have i1 : (2 : Int) ≤ n := by omega
  have i2 : (n : Int) ≤ 4096 := by omega
  clear hl h2 hle hn
  go_enter Tryz.func65, Tryz.ntmps65
  go_wp2_with (go_at_call 63; refine (blocks_any _ HD.out).mono ?_; rw [HN.out]; rintro e w' ⟨rfl, rfl⟩)
  go_ret
  refine ⟨?_, rfl⟩
  rw [HN.out]
  unfold areaN
  rw [show (((n - 2) / 2 : Nat) : Int) = ((n : Int) - 2) / 2 by omega]
  rfl

/-- In a drawn region: 'area' in any world with more blocks. -/
theorem area_fresh (w : World) (h : LogAt w l d F Fd X V) (h2 : 2 ≤ X.B.length) (hle : X.B.length ≤ 4096) (m : FreshW w) :
    Calls Tryz.prog 65 #[.pointer (some ⟨l, 0, none⟩)] m.val fun e w'' => e = .returned (.int .i64 (areaN X.B.length : Int)) ∧ ∃ m' : FreshW w, w'' = m'.val :=
  fresh_call ((area_any _ (h.fresh m.chg) h2 hle).mono (fun e w' hh => ⟨hh.1, hh.2 ▸ Chg.refl _ _⟩))

theorem first_any (w : World) (h : LogAt w l d F Fd X V) (h2 : 2 ≤ X.B.length) (hle : X.B.length ≤ 4096) (a : Nat) (ha : a ≤ 1) : Calls Tryz.prog 82 #[.pointer (some ⟨l, 0, none⟩), .int .i64 a] w fun e w' => e = .returned (.int .i64 (firstN X.B.length a : Int)) ∧ w = w' := by
  have HA := Lib.hid (area_any w h h2 hle)
  obtain ⟨n, hn⟩ : ∃ n, areaN X.B.length = n := ⟨_, rfl⟩
  have HN := Lib.hid hn
  have i2 : (n : Int) ≤ 2047 := by have := areaN_le hle; omega
  have HF := Lib.hid (show firstN X.B.length a = 2 + a * n by unfold firstN; rw [hn])
  have ha' : a = 0 ∨ a = 1 := by omega
  clear h h2 hle hn ha
  rcases ha' with rfl | rfl
  all_goals go_enter Tryz.func82, Tryz.ntmps82
  all_goals go_wp2_with (go_at_call 65; refine HA.out.mono ?_; rw [HN.out]; rintro e w' ⟨rfl, rfl⟩)
  all_goals go_ret
  all_goals refine ⟨?_, rfl⟩
  all_goals rw [HF.out]
  all_goals simp

theorem framed_any (w : World) (b : Blk) (hb : b.length ≤ 1000000000000) : Calls Tryz.prog 69 #[strV b] w fun e w' => e = .returned (.tuple #[.int .i64 ((b.length : Int) + 8), .bool (decide (b.length ≤ 4096))]) ∧ w = w' := by
  have hsz : (⟨b.toArray⟩ : ByteArray).size = b.length := by simp [ByteArray.size]
  unfold strV
  obtain ⟨s, hs⟩ : ∃ s : ByteArray, ⟨b.toArray⟩ = s := ⟨_, rfl⟩
  rw [hs] at hsz ⊢
  have HS := Lib.hid hsz
  have i1 : (s.size : Int) ≤ 1000000000000 := by omega
  clear hsz hb
  go_enter Tryz.func69, Tryz.ntmps69
  go_wp2_with fail
  go_ret2
  refine ⟨?_, rfl⟩
  rw [← HS.out]
  have hd : decide ((s.size : Int) ≤ 4096) = decide (s.size ≤ 4096) := by rw [decide_eq_decide]; omega
  rw [← hd]
  rfl

theorem room_any (w : World) (h : LogAt w l d F Fd X V) (hV : V.Ok X.B.length) : Calls Tryz.prog 70 #[.pointer (some ⟨l, 0, none⟩)] w fun e w' => e = .returned (.int .i64 (roomF X.B.length V)) ∧ Chg (fun _ => False) w w' := by
  have HNo := Lib.hid (log_no w h)
  have har := area_fresh w h (by have := hV.ge; omega) hV.le
  have hs := hV.small
  have H := Lib.hid h
  have HV := Lib.hid hV
  obtain ⟨⟨rv, tv, wv, hl⟩, -, -⟩ := h
  have q3 : ∀ n : FreshW w, n.val.cell? ⟨l, 3, none⟩ = some (.int .i64 V.used) := fun n => n.chg.cell (hl.head.cell (i := 3) rfl) id
  have q7 : ∀ n : FreshW w, n.val.cell? ⟨l, 7, none⟩ = some (.int .i64 V.more) := fun n => n.chg.cell (hl.head.cell (i := 7) rfl) id
  obtain ⟨n, hn⟩ : ∃ n, areaN X.B.length = n := ⟨_, rfl⟩
  have HN := Lib.hid hn
  rw [hn] at har
  have HAr := Lib.hid har
  have i1 : (n : Int) ≤ 2047 := by omega
  have i2 : (V.used : Int) ≤ 131008 := by omega
  have i3 : (V.more : Int) ≤ 131008 := by omega
  have i5 : 0 ≤ (64 : Int) * n := by omega
  clear hl hs hV hn har
  go_enter Tryz.func70, Tryz.ntmps70
  go_wp2_with (first
    | (go_at_call 68; refine HNo.out.mono ?_; rintro e w' ⟨rfl, rfl⟩))
  refine wp_region_fresh (by kernel_rfl) (by kernel_rfl) ?_
  repeat (go_big_quiet_step ((go_at_call 65; exact HAr.out _)))
  refine wpQuiet_nil ?_
  rintro _ ⟨n10, rfl⟩
  go_wp2_with fail
  go_ret
  refine ⟨?_, n10.chg⟩
  unfold roomF
  rw [HN.out]
  rfl

theorem records_any (w : World) (h : LogAt w l d F Fd X V) (hr : V.recs.length ≤ 131008) : Calls Tryz.prog 46 #[.pointer (some ⟨l, 0, none⟩)] w fun e w' => ∃ v, e = .returned v ∧ w'.ownsRow w.heap.size 9 1 v V.recs.length (V.recs.map strV) ∧ Chg (fun _ => False) w w' := by
  have HNo := Lib.hid (log_no w h)
  obtain ⟨⟨rv, tv, wv, hl⟩, -, -⟩ := h
  obtain ⟨oa, cap, rfl⟩ := own_slice hl.recs
  have hc1 : Chg (fun _ => False) w (w.alloc (.cells #[] 9)) := (Chg.refl _ _).alloc _
  have c4 : (w.alloc (.cells #[] 9)).cell? ⟨l, 4, none⟩ = some (.slice oa V.recs.length cap) := hc1.cell (hl.head.cell rfl) id
  have ho : (w.alloc (.cells #[] 9)).ownsRow w.heap.size 9 1 (.slice (some ⟨w.heap.size, 0, none⟩) 0 0) 0 [] := own_of_block (n := 0) at1 (Nat.le_refl _) rfl (by unfold maxLen; omega)
  obtain ⟨v2, w2, hr2, ho2, hg2, -⟩ := append_strs ho (SlAt.of_own (own_kept hl.recs hc1)) (one_strs _) (by simp) (by simp only [List.length_map, List.length_nil]; omega) 36
  simp only [List.nil_append, List.length_map] at ho2
  have HR2 := Lib.hid hr2
  have HO2 := Lib.hid ho2
  have HC2 := Lib.hid (show Chg (fun _ => False) w w2 from hc1.append ho (Chg.refl _ _) hg2)
  clear hl hr2 ho2 hg2 ho hc1
  go_enter Tryz.func46, Tryz.ntmps46
  go_wp2_with (first
    | (go_at_call 68; refine HNo.out.mono ?_; rintro e w' ⟨rfl, rfl⟩)
    | (at_builtin; refine Lib.wpList_append_run _ rfl _ _ _ _ rfl _ _ rfl rfl _ _ HR2.out ?_))
  go_ret
  exact ⟨_, rfl, HO2.out, HC2.out⟩

end Go.Proofs.YtbkefhoapnaciaaGreat.wals
end

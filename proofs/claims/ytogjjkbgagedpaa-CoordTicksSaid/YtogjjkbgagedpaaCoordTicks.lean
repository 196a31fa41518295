/-
  CoordTicks, whole: for every limit, two and answer the law returns true and changes nothing that was there. No condition.
-/
import Derived.Test.YtogjjkbgagedpaaCoordT
import Derived.Test.YtogjjkbgagedpaaLaw
import Derived.Test.YtogjjkbgagedpaaRows
namespace Go.Proofs.Ytogjjkbgagedpaa.coordTicks
open Go.ChangeShapes Go.WideShapes Go.ChangeAt Go.RowKit Go.My coords

theorem laidOut : laidOutB Try.prog = true := by kernel_rfl
theorem own : ownKnob Try.prog.godebug = none := by kernel_rfl



set_option maxRecDepth 100000 in
set_option maxHeartbeats 400000 in
theorem walk (W : World) (lim a b : Int) (v : Value) (bs : List Bool) (hb : SlAt W v (bs.map Value.bool)) :
    Calls Try.prog 5 #[.int .i64 lim, .agg #[.int .i64 a, .int .i64 b], v] W fun e w' => e = .returned (.bool true) ∧ Chg (fun _ => False) W w' := by
  obtain ⟨oav, capv, rfl, hbne, hbc⟩ := hb
  rw [List.length_map]
  obtain ⟨L, hL1, hL30, hw1, hw2⟩ := mod_lim lim
  obtain ⟨M, hM1, hM6, hw3, hw4⟩ := mod_six a
  obtain ⟨K, hK, hw5, hw6⟩ := mod_more b
  obtain ⟨i0, hI0⟩ := info_parts info_plan
  have HI0 := Lib.hid hI0
  have HBne := Lib.hid hbne
  have HBc := Lib.hid hbc
  have HM := Lib.hid (And.intro hM1 hM6)
  have HL := Lib.hid (And.intro hL1 hL30)
  have HK := Lib.hid hK
  clear hI0 hbne hbc hM1 hM6 hL1 hL30 hK
  go_enter Try.func5, Try.ntmps5
  go_wp2_with fail
  obtain ⟨w0, hw0⟩ : ∃ w0, W.alloc (.cells #[.int .i64 a, .int .i64 b] 51) = w0 := ⟨_, rfl⟩
  rw [hw0]
  have hb0 : w0.heap[W.heap.size]? = some (.cells #[.int .i64 a, .int .i64 b] 51 (0, 0)) := by rw [← hw0]; exact block_alloc_new _ _
  have b0 : w0.cell? ⟨W.heap.size, 0, none⟩ = some (.int .i64 a) := cell_of_block hb0 rfl
  have b1 : w0.cell? ⟨W.heap.size, 1, none⟩ = some (.int .i64 b) := cell_of_block hb0 rfl
  have HC0 := Lib.hid (show Chg (fun _ => False) W w0 from by rw [← hw0]; exact (Chg.refl _ _).alloc _)
  clear hw0 hb0
  refine wp_region_noPanic ?_
  refine wp_region_held_drew (S := (fun w' => w'.cell? ⟨W.heap.size, 0, none⟩ = some (.int .i64 a) ∧ w'.cell? ⟨W.heap.size, 1, none⟩ = some (.int .i64 b))) (by kernel_rfl) (⟨b0, b1⟩) (fun hHeld => ?_)
  refine take_list (i := 0) (v := ?_) rfl (by kernel_rfl) (by kernel_rfl) (by kernel_rfl) (fun _ _ _ h => h) (Or.inl ⟨by rfl, fun w hSw => ?_⟩) hHeld ?_
  rotate_left
  · (obtain ⟨hSw1, hSw2⟩ := hSw; go_simp)
    try with_reducible rfl
  simp only [Act.put, List.setIfInBounds_toArray, List.set_cons_zero, List.set_cons_succ]
  refine take_list (i := 1) (v := ?_) rfl (by kernel_rfl) (by kernel_rfl) (by kernel_rfl) (fun _ _ _ h => h) (Or.inl ⟨by rfl, fun w hSw => ?_⟩) hHeld ?_
  rotate_left
  · (obtain ⟨hSw1, hSw2⟩ := hSw; go_simp)
    try with_reducible rfl
  simp only [Act.put, List.setIfInBounds_toArray, List.set_cons_zero, List.set_cons_succ]
  refine take_list (i := 2) (v := ?_) rfl (by kernel_rfl) (by kernel_rfl) (by kernel_rfl) (fun _ _ _ h => h) (Or.inl ⟨by rfl, fun w hSw => ?_⟩) hHeld ?_
  rotate_left
  · (obtain ⟨hSw1, hSw2⟩ := hSw; go_simp)
    try with_reducible rfl
  simp only [Act.put, List.setIfInBounds_toArray, List.set_cons_zero, List.set_cons_succ]
  refine take_list (i := 3) (v := ?_) rfl (by kernel_rfl) (by kernel_rfl) (by kernel_rfl) (fun _ _ _ h => h) (Or.inl ⟨by rfl, fun w hSw => ?_⟩) hHeld ?_
  rotate_left
  · (obtain ⟨hSw1, hSw2⟩ := hSw; go_simp)
    try with_reducible rfl
  simp only [Act.put, List.setIfInBounds_toArray, List.set_cons_zero, List.set_cons_succ]
  refine take_list (i := 4) (v := ?_) rfl (by kernel_rfl) (by kernel_rfl) (by kernel_rfl) (fun _ _ _ h => h) (Or.inl ⟨by rfl, fun w hSw => ?_⟩) hHeld ?_
  rotate_left
  · (obtain ⟨hSw1, hSw2⟩ := hSw; go_simp)
    try with_reducible rfl
  simp only [Act.put, List.setIfInBounds_toArray, List.set_cons_zero, List.set_cons_succ]
  refine take_list (i := 5) (v := ?_) rfl (by kernel_rfl) (by kernel_rfl) (by kernel_rfl) (fun _ _ _ h => h) (Or.inl ⟨by rfl, fun w hSw => ?_⟩) hHeld ?_
  rotate_left
  · (obtain ⟨hSw1, hSw2⟩ := hSw; go_simp)
    try with_reducible rfl
  simp only [Act.put, List.setIfInBounds_toArray, List.set_cons_zero, List.set_cons_succ]
  refine wpAnyH_done (by kernel_rfl) ?_ _
  refine NoPanic.normal ?_
  clear hHeld b0 b1
  have hL30 := HL.out
  go_wp2_with (go_at_call 10; refine (new_any _ L (by omega) (by omega)).mono ?_; rintro e w1 ⟨c, rfl, ⟨q, hC⟩, hc1⟩
               have HCo1 := Lib.hid hC
               have HC1 := Lib.hid (HC0.out.drew.trans' hc1)
               unfold ptrV
               clear hC hc1)
  clear hw1 hw2 hw3 hw4 hw5 hw6 hL30
  obtain ⟨wd, hwd⟩ : ∃ wd, w0.drew = wd := ⟨_, rfl⟩
  rw [hwd] at HCo1
  have HWd := Lib.hid (show W.heap.size ≤ wd.heap.size from by rw [← hwd]; exact HC0.out.drew.size)
  clear hwd
  go_loopw [10, 11] (fun u j wr => ∃ k : Nat, j = .int .i64 ((k : Int) + 1) ∧ k ≤ M ∧ wr.ownsRow w1.heap.size 33 2 u k ((upto k).map planC).flatten ∧ Chg (fun _ => False) w1 wr) (fun _ j _ => M + 1 - (intOf j).toNat)
  · exact ⟨0, rfl, Nat.zero_le _, World.ownsRow_nil _ _ _ _, Chg.refl _ _⟩
  obtain ⟨k, rfl, hk, ho, hc⟩ := hrel
  have HO := Lib.hid ho
  have HC := Lib.hid hc
  clear ho hc
  by_cases hlt : k < M
  · have hki : (k : Int) + 1 ≤ (M : Int) := by omega
    have hca := (Chg.refl (fun _ => False) wr).alloc (.cells #[.int .i64 ((k : Int) + 1), .slice none 0 0] 33)
    have HRow := Lib.hid (row_kept HO.out hca (fun _ _ h => h))
    have HCa := Lib.hid hca
    have hk1000 : k < 1000 := by have := HM.out.2; omega
    clear hca
    go_wp2_with (first
      | (at_builtin; refine wpList_append_own_at _ rfl _ _ 34 rfl w1.heap.size 33 i0 (.agg (planC 0).toArray) 2 32 Try.underlying34 HI0.out.1 HI0.out.2.1 HI0.out.2.2.1 HI0.out.2.2.2 rfl (by decide) _ k _ rfl HRow.out ⟨wr.heap.size, 0, none⟩ 1 1 [.int .i64 ((k : Int) + 1), .slice none 0 0] rfl rfl (cells_new wr [.int .i64 ((k : Int) + 1), .slice none 0 0] _) (by intro x hx; simp only [List.mem_cons, List.not_mem_nil, or_false] at hx; rcases hx with rfl | rfl <;> rfl) (by unfold maxLen; omega) (by omega) (Nat.le_trans HC.out.size HCa.out.size) ?_; intro v6 w6 ho6 hg6 hx1 hx2; have HO6 := Lib.hid ho6; have HG6 := Lib.hid hg6; clear ho6 hg6 hx1 hx2))
    refine ⟨⟨k + 1, by go_num, hlt, ?_, (HC.out.trans' HCa.out).new (Chg.of_grown HG6.out) (fun j e => (HO.out.lt j e.symm).1)⟩, by simp [intOf]; omega⟩
    rw [upto_succ, List.map_append, List.flatten_append]
    simpa [planC] using HO6.out
  · have hki : ¬ (k : Int) + 1 ≤ (M : Int) := by omega
    have hkl : k = M := by omega
    rw [hkl] at HO
    clear hkl hlt hk
    obtain ⟨oau, cu, rfl⟩ := own_slice HO.out
    have hrows := rows_own HO.out (by intro r hr; obtain ⟨z, -, rfl⟩ := List.mem_map.1 hr; rfl) (by rw [List.length_map, upto_len])
    have HRows := Lib.hid hrows
    have HGood := Lib.hid (good_upto HM.out.1 HM.out.2)
    clear hrows
    go_wp2_with (first
      | (go_at_call 12; have _h := HCo1; have hbg := begin_any wr (HCo1.out.fresh HC.out) 1 (by decide) (upto M) HGood.out oau cu HRows.out rfl; rw [upto_len] at hbg; refine hbg.mono ?_; rintro e w2 ⟨v2, x1, rfl, ⟨oa2, cap2, rfl⟩, ⟨F1, pv1, qa1, hE, hF⟩, hC2, hc2⟩
         have HE1 := Lib.hid hE
         have HF1 := Lib.hid hF
         have HCo2 := Lib.hid hC2
         have HC2 := Lib.hid hc2
         clear hE hF hC2 hc2 hbg)
      | (go_at_call 21; have hrt := roots_plans w2 oau cu (upto M) (rows_own (row_kept HO.out HC2.out (fun j hj e => by have h1 := (HO.out.lt j hj).1; have h2 := HCo1.out.lt q HCo1.out.fq; rw [e] at h1; omega)) (by intro r hr; obtain ⟨z, -, rfl⟩ := List.mem_map.1 hr; rfl) (by rw [List.length_map, upto_len])) (by rw [upto_len]; have := HM.out.2; omega); rw [upto_len] at hrt; refine hrt.mono ?_; rintro e w3 ⟨v3, rfl, ho3, hc3⟩
         obtain ⟨oa3, cap3, rfl⟩ := own_slice ho3
         have HO3 := Lib.hid ho3
         have HC3 := Lib.hid hc3
         clear ho3 hc3)
      | (go_at_call 20; refine (recall_any _ (HCo2.out.fresh HC3.out) 2 (by decide) (zs := upto M) (by rw [upto_len]; exact HO3.out) HGood.out rfl).mono ?_; rintro e w4 ⟨v4, x2, rfl, ⟨oa4, cap4, rfl⟩, ⟨F2, pv2, qa2, hE, hF⟩, hC4, hc4⟩; rw [upto_len]
         have HE2 := Lib.hid hE
         have HF2 := Lib.hid hF
         have HCo4 := Lib.hid hC4
         have HC4 := Lib.hid hc4
         clear hE hF hC4 hc4))
    have s1 := HC1.out.size
    have s2 := HC.out.size
    have s3 := HC2.out.size
    have s4 := HC3.out.size
    have s5 := HC4.out.size
    have sW := HWd.out
    have hql := HCo1.out.lt q HCo1.out.fq
    have hqw := HCo1.out.fq.1
    have hC0 : CoIs w4 c (born wd w1) L [(1, x1), (2, x2)] q := HCo4.out
    have hE1 : EntIs w4 x1 F1 ⟨1, 0, upto M, []⟩ pv1 qa1 := (HE1.out.fresh HC3.out).kept HC4.out (fun k hk e => by have := HF1.out k hk; omega)
    have hE2 : EntIs w4 x2 F2 ⟨3, 0, upto M, []⟩ pv2 qa2 := HE2.out
    have hW : Chg (fun _ => False) W w4 := (((HC1.out.trans' HC.out).new HC2.out (fun k e => by omega)).trans' HC3.out).new HC4.out (fun k e => by omega)
    have ha1 : ∀ k, F1 k → ¬ born wd w1 k := fun k hk hb => by have h1 := HF1.out k hk; have h2 := hb.2; omega
    have ha2 : ∀ k, F2 k → ¬ F1 k ∧ ¬ born wd w1 k := fun k hk => ⟨fun h1 => by have h2 := HF2.out k hk; have h3 := HE1.out.lt k h1; omega, fun hb => by have h1 := HF2.out k hk; have h2 := hb.2; omega⟩
    have ho1 : ∀ k, F1 k → W.heap.size ≤ k := fun k hk => by have h1 := HF1.out k hk; omega
    have ho2 : ∀ k, F2 k → W.heap.size ≤ k := fun k hk => by have h1 := HF2.out k hk; omega
    have hoc : ∀ k, born wd w1 k → W.heap.size ≤ k := fun k hk => Nat.le_trans sW hk.1
    have HC0' := Lib.hid hC0
    have HE1' := Lib.hid hE1
    have HE2' := Lib.hid hE2
    have HW' := Lib.hid hW
    have HA1 := Lib.hid ha1
    have HA2 := Lib.hid ha2
    have HO1 := Lib.hid ho1
    have HO2 := Lib.hid ho2
    have HOc := Lib.hid hoc
    clear hC0 hE1 hE2 hW ha1 ha2 ho1 ho2 hoc s1 s2 s3 s4 s5 sW hql hqw HE1 HE2 HCo4 HCo2 HC4 HC3 HC2 HF1 HF2 HRows HO HO3 HCo1 HC hki
    go_loopw [12, 13] (fun u j wr => ∃ (k lack : Nat) (ans : List (Int × Bool)), u = .int .i64 lack ∧ j = .int .i64 ((k : Int) + 1) ∧ k ≤ M ∧ (lacksOf ⟨3, 0, upto M, ans⟩ (upto M).length).length = lack + (M - k) ∧ (∀ r : Int, (mget ans r).getD false = true → r ≤ k) ∧ lack ≤ k ∧
      CoIs wr c (born wd w1) L [(1, x1), (2, x2)] q ∧ EntIs wr x1 F1 ⟨1, 0, upto M, ans⟩ pv1 qa1 ∧ EntIs wr x2 F2 ⟨3, 0, upto M, ans⟩ pv2 qa2 ∧ Chg (fun _ => False) W wr) (fun _ j _ => M + 1 - (intOf j).toNat)
    · exact ⟨0, 0, [], rfl, rfl, Nat.zero_le _, lacks_all M, by simp [mget], Nat.le_refl _, HC0'.out, HE1'.out, HE2'.out, HW'.out⟩
    clear HC0' HE1' HE2' HW'
    obtain ⟨k, lack, ans, rfl, rfl, hk, hlen, hans, hlk, hC, hE1, hE2, hW⟩ := hrel
    have HLen := Lib.hid hlen
    have HAns := Lib.hid hans
    have HLk := Lib.hid hlk
    have HC := Lib.hid hC
    have HE1 := Lib.hid hE1
    have HE2 := Lib.hid hE2
    have HW := Lib.hid hW
    clear hlen hans hlk hC hE1 hE2 hW
    by_cases hlt : k < M
    · have hki : (k : Int) + 1 ≤ (M : Int) := by omega
      have hlk6 : lack < 1000 := by have := HLk.out; have := HM.out.2; omega
      have hk1000 : k < 1000 := by have := HM.out.2; omega
      by_cases hb : k < bs.length
      · have hbi : (k : Int) + 1 ≤ (bs.length : Int) := by omega
        have hbd : decide ((k : Int) + 1 ≤ (bs.length : Int)) = true := by simp; omega
        obtain ⟨bb, off, rfl⟩ := HBne.out (by intro e; rw [List.map_eq_nil_iff] at e; rw [e] at hb; simp at hb)
        obtain ⟨x, hx⟩ : ∃ x, bs[k]? = some x := ⟨bs[k], List.getElem?_eq_getElem hb⟩
        have cx : wr.cell? ⟨bb, off + k, none⟩ = some (.bool x) := HW.out.cell (HBc.out bb off rfl k _ (by rw [List.getElem?_map, hx]; rfl)) id
        clear hx
        cases x with
        | false =>
          go_wp2_with fail
          refine ⟨⟨k + 1, lack + 1, ans, by go_num, by go_num, hlt, by rw [HLen.out]; omega, fun r hr => by have := HAns.out r hr; omega, by have := HLk.out; omega, HC.out, HE1.out, HE2.out, HW.out⟩, by simp [intOf]; omega⟩
        | true =>
          by_cases hkM : k + 1 < M
          · have hd : decide ((k : Int) + 1 < (M : Int)) = true := by simp; omega
            have hdi : (k : Int) + 1 < (M : Int) := by omega
            have hno : ¬ (mget ans ((k : Int) + 1)).getD false = true := fun h => by have := HAns.out _ h; omega
            have hup : (k : Int) + 1 ∈ upto M := upto_mem.2 ⟨by omega, by omega⟩
            have hput := lacks_put (E := ⟨3, 0, upto M, ans⟩) (r := (k : Int) + 1) (upto_nodup M) hup hno
            have hput2 : (lacksOf ⟨3, 0, upto M, mput ans ((k : Int) + 1) true⟩ (upto M).length).length + 1 = lack + (M - k) := by rw [← HLen.out]; exact hput
            have hnf : ¬ lacksOf ⟨3, 0, upto M, mput ans ((k : Int) + 1) true⟩ (upto M).length = [] := fun e => by rw [e] at hput2; simp at hput2; omega
            have HUp := Lib.hid hup
            have HPut := Lib.hid hput2
            have HNf1 := Lib.hid (show ¬ lacksOf (EV.yes ⟨1, 0, upto M, ans⟩ ((k : Int) + 1)) (EV.mk 1 0 (upto M) ans).ps.length = [] from hnf)
            have HNf := Lib.hid (show ¬ lacksOf (EV.yes ⟨3, 0, upto M, ans⟩ ((k : Int) + 1)) (EV.mk 3 0 (upto M) ans).ps.length = [] from hnf)
            have HV := Lib.hid (show EV.voted ⟨1, 0, upto M, ans⟩ ((k : Int) + 1) = ⟨1, 0, upto M, mput ans ((k : Int) + 1) true⟩ from if_neg hnf)
            clear hno hup hput hput2 hnf
            go_wp2_with (first
              | (go_at_call 13; have _h := cx; refine (take_vote _ HC.out HE1.out ((k : Int) + 1) 1 rfl rfl HUp.out (by decide) HA1.out).mono ?_; rintro e w5 ⟨rfl, hE5, hC5, hc5⟩
                 rw [HV.out] at hE5
                 have HE15 := Lib.hid hE5
                 have HC5 := Lib.hid hC5
                 have HE25 := Lib.hid (HE2.out.kept hc5 (fun j hj h => (HA2.out j hj).1 h))
                 have HW5 := Lib.hid (HW.out.new hc5 HO1.out)
                 clear hE5 hC5 hc5 cx)
              | (go_at_call 13; refine (take_ack _ HC5.out HE25.out ((k : Int) + 1) 2 rfl rfl HUp.out (by decide) (fun j hj => (HA2.out j hj).2)).mono ?_; rw [if_neg HNf.out, if_neg HNf.out]; rintro e w6 ⟨rfl, hE6, hC6, hc6⟩
                 have HE26 := Lib.hid hE6
                 have HC6 := Lib.hid hC6
                 have HE16 := Lib.hid (HE15.out.kept hc6 (fun j hj h => h.elim (fun h2 => (HA2.out j h2).1 hj) (HA1.out j hj)))
                 have HW6 := Lib.hid (HW5.out.new hc6 (fun j h => h.elim (HO2.out j) (HOc.out j)))
                 clear hE6 hC6 hc6))
            refine ⟨⟨k + 1, lack, _, by go_num, by go_num, hlt, by have := HPut.out; omega, fun r hr => ?_, by have := HLk.out; omega, HC6.out, HE16.out, HE26.out, HW6.out⟩, by simp [intOf]; omega⟩
            rw [mget_mput] at hr
            by_cases hrk : r = (k : Int) + 1
            · omega
            · rw [if_neg hrk] at hr; have := HAns.out r hr; omega
          · have hd : decide ((k : Int) + 1 < (M : Int)) = false := by simp; omega
            have hdi : ¬ (k : Int) + 1 < (M : Int) := by omega
            go_wp2_with fail
            refine ⟨⟨k + 1, lack + 1, ans, by go_num, by go_num, hlt, by rw [HLen.out]; omega, fun r hr => by have := HAns.out r hr; omega, by have := HLk.out; omega, HC.out, HE1.out, HE2.out, HW.out⟩, by simp [intOf]; omega⟩
      · have hbi : ¬ (k : Int) + 1 ≤ (bs.length : Int) := by omega
        have hbd : decide ((k : Int) + 1 ≤ (bs.length : Int)) = false := by simp; omega
        go_wp2_with fail
        refine ⟨⟨k + 1, lack + 1, ans, by go_num, by go_num, hlt, by rw [HLen.out]; omega, fun r hr => by have := HAns.out r hr; omega, by have := HLk.out; omega, HC.out, HE1.out, HE2.out, HW.out⟩, by simp [intOf]; omega⟩
    · have hki : ¬ (k : Int) + 1 ≤ (M : Int) := by omega
      have hkM : k = M := by omega
      have hln : (lacksOf ⟨3, 0, upto M, ans⟩ (upto M).length).length = lack := by rw [HLen.out]; omega
      have hlk6 : lack < 1000 := by have := HLk.out; have := HM.out.2; omega
      have HLn := Lib.hid hln
      clear hln hkM HLen HAns
      go_wp2_with fail
      go_loopw [14] (fun j wi => ∃ i : Nat, j = .int .i64 ((i : Int) + 1) ∧ i ≤ K ∧ Rnd wi c q (born wd w1) x1 x2 qa1 qa2 F1 F2 pv1 pv2 L M ans i ∧ Chg (fun _ => False) W wi) (fun j _ => K + 1 - (intOf j).toNat)
      · exact ⟨0, rfl, Nat.zero_le _, ⟨fun _ => ⟨HC.out, HE1.out⟩, fun h => by have := HL.out.1; omega, HE2.out⟩, HW.out⟩
      clear HC HE1 HE2 HW
      obtain ⟨i, rfl, hi, hR, hW⟩ := hrel
      have HR := Lib.hid hR
      have HW := Lib.hid hW
      have hK39 := HK.out
      clear hR hW
      by_cases hit : i < K
      · have hiK : (i : Int) + 1 ≤ (K : Int) := by omega
        have hi1000 : i < 1000 := by omega
        go_wp2_with (go_at_call 22; refine (tick_case _ HR.out HM.out.2 (Nat.le_trans HL.out.2 (by omega)) HLn.out HA1.out HA2.out).mono ?_; rintro e w5 ⟨v, g, P, gl, rfl, ho, hg, hT, hR5, hc5⟩
                     obtain ⟨oag, cg, rfl⟩ := own_slice hg
                     obtain ⟨oap, cp, rfl, -⟩ := ho.slice
                     rw [List.length_map] at ho
                     have HO5 := Lib.hid ho
                     have HG5 := Lib.hid hg
                     have HT := Lib.hid hT
                     have HR5 := Lib.hid hR5
                     have HW5 := Lib.hid (HW.out.new hc5 (fun j h => h.elim (HO1.out j) (HOc.out j)))
                     clear ho hg hT hR5 hc5)
        go_loopw [17, 18, 19, 104] (fun u1 u2 u3 j wi => ∃ (n : Nat), j = .int .i64 n ∧ n ≤ P.length ∧ u1 = .int .i64 (cnt 1 (P.take n) : Nat) ∧ u2 = .int .i64 (cnt 4 (P.take n) : Nat) ∧ u3 = .int .i64 (cnt 3 (P.take n) : Nat) ∧ Chg (fun _ => False) w5 wi) (fun _ _ _ j _ => P.length - (intOf j).toNat)
        · exact ⟨0, rfl, Nat.zero_le _, rfl, rfl, rfl, Chg.refl _ _⟩
        obtain ⟨n, rfl, hn, rfl, rfl, rfl, hcn⟩ := hrel
        have HCn := Lib.hid hcn
        clear hcn
        have hP12 := HT.out.len
        have l1 := Nat.le_trans (cnt_le 1 (P.take n)) (by rw [List.length_take]; exact Nat.min_le_left _ _)
        have l4 := Nat.le_trans (cnt_le 4 (P.take n)) (by rw [List.length_take]; exact Nat.min_le_left _ _)
        have l3 := Nat.le_trans (cnt_le 3 (P.take n)) (by rw [List.length_take]; exact Nat.min_le_left _ _)
        by_cases hnt : n < P.length
        · have hni : (n : Int) < (P.length : Int) := by omega
          obtain ⟨⟨kd, r, t⟩, hp⟩ : ∃ p, P[n]? = some p := ⟨P[n], List.getElem?_eq_getElem hnt⟩
          have c1s := cnt_succ 1 P hp
          have c4s := cnt_succ 4 P hp
          have c3s := cnt_succ 3 P hp
          obtain ⟨c1, hc1⟩ : ∃ c1, cnt 1 (P.take n) = c1 := ⟨_, rfl⟩
          obtain ⟨c4, hc4⟩ : ∃ c4, cnt 4 (P.take n) = c4 := ⟨_, rfl⟩
          obtain ⟨c3, hc3⟩ : ∃ c3, cnt 3 (P.take n) = c3 := ⟨_, rfl⟩
          rw [hc1] at c1s l1 ⊢
          rw [hc4] at c4s l4 ⊢
          rw [hc3] at c3s l3 ⊢
          have b1 : c1 < 1000 := by omega
          have b4 : c4 < 1000 := by omega
          have b3 : c3 < 1000 := by omega
          obtain ⟨gp, e1, -, -, hcell, -⟩ := (HO5.out.kept HCn.out (fun _ _ h => h)).cell' (k := n) (by rw [List.length_map]; exact hnt)
          subst e1
          have hrow : (P.map rowOf)[n]'(by rw [List.length_map]; exact hnt) = msgC kd 0 r t false := by
            rw [List.getElem_map]
            have : P[n] = (kd, r, t) := by rw [List.getElem?_eq_getElem hnt] at hp; exact Option.some.inj hp
            rw [this]; rfl
          rw [hrow] at hcell
          have d0 : wr.cell? ⟨gp, n * 6, none⟩ = some (.int .i64 kd) := hcell 0 _ rfl
          have d1 : wr.cell? ⟨gp, n * 6 + 1, none⟩ = some (.int .i64 0) := hcell 1 _ rfl
          have d2 : wr.cell? ⟨gp, n * 6 + 2, none⟩ = some (.int .i64 r) := hcell 2 _ rfl
          have d3 : wr.cell? ⟨gp, n * 6 + 3, none⟩ = some (.int .i64 t) := hcell 3 _ rfl
          have d4 : wr.cell? ⟨gp, n * 6 + 4, none⟩ = some (.bool false) := hcell 4 _ rfl
          have d5 : wr.cell? ⟨gp, n * 6 + 5, none⟩ = some (.slice none 0 0) := hcell 5 _ rfl
          clear hcell hrow hc1 hc4 hc3 l1 l4 l3
          have HS := Lib.hid (And.intro c1s (And.intro c4s c3s))
          clear c1s c4s c3s
          by_cases k1 : kd = 1
          · have hk1 : (kd == 1) = true := by simp [k1]
            have HKd := Lib.hid (show (if kd = 1 then 1 else 0) = 1 ∧ (if kd = 4 then 1 else 0) = 0 ∧ (if kd = 3 then 1 else 0) = 0 from by rw [k1]; decide)
            clear k1
            go_wp2_with fail
            exact ⟨⟨n + 1, by go_num, hnt, by rw [HS.out.1, HKd.out.1]; go_num, by rw [HS.out.2.1, HKd.out.2.1]; go_num, by rw [HS.out.2.2, HKd.out.2.2]; go_num, HCn.out.alloc _⟩, meas_step hnt⟩
          · have hk1 : (kd == 1) = false := by simp [k1]
            by_cases k4 : kd = 4
            · have hk4 : (kd == 4) = true := by simp [k4]
              have HKd := Lib.hid (show (if kd = 1 then 1 else 0) = 0 ∧ (if kd = 4 then 1 else 0) = 1 ∧ (if kd = 3 then 1 else 0) = 0 from by rw [k4]; decide)
              clear k1 k4
              go_wp2_with fail
              exact ⟨⟨n + 1, by go_num, hnt, by rw [HS.out.1, HKd.out.1]; go_num, by rw [HS.out.2.1, HKd.out.2.1]; go_num, by rw [HS.out.2.2, HKd.out.2.2]; go_num, HCn.out.alloc _⟩, meas_step hnt⟩
            · have hk4 : (kd == 4) = false := by simp [k4]
              by_cases k3 : kd = 3
              · have hk3 : (kd == 3) = true := by simp [k3]
                have HKd := Lib.hid (show (if kd = 1 then 1 else 0) = 0 ∧ (if kd = 4 then 1 else 0) = 0 ∧ (if kd = 3 then 1 else 0) = 1 from by rw [k3]; decide)
                clear k1 k4 k3
                go_wp2_with fail
                exact ⟨⟨n + 1, by go_num, hnt, by rw [HS.out.1, HKd.out.1]; go_num, by rw [HS.out.2.1, HKd.out.2.1]; go_num, by rw [HS.out.2.2, HKd.out.2.2]; go_num, HCn.out.alloc _⟩, meas_step hnt⟩
              · have hk3 : (kd == 3) = false := by simp [k3]
                have HKd := Lib.hid (show (if kd = 1 then 1 else 0) = 0 ∧ (if kd = 4 then 1 else 0) = 0 ∧ (if kd = 3 then 1 else 0) = 0 from by rw [if_neg k1, if_neg k4, if_neg k3]; decide)
                clear k1 k4 k3
                go_wp2_with fail
                exact ⟨⟨n + 1, by go_num, hnt, by rw [HS.out.1, HKd.out.1]; go_num, by rw [HS.out.2.1, HKd.out.2.1]; go_num, by rw [HS.out.2.2, HKd.out.2.2]; go_num, HCn.out.alloc _⟩, meas_step hnt⟩
        · have hni : ¬ (n : Int) < (P.length : Int) := by omega
          have hnl : n = P.length := by omega
          rw [hnl, List.take_length] at l1 l4 l3 ⊢
          rw [HT.out.co]
          rcases Nat.lt_trichotomy (i + 1) L with hiL | hiL | hiL
          · obtain ⟨e1, e4, rfl⟩ := HT.out.y hiL
            rw [e1, e4]
            have q1 : (i : Int) + 1 < (L : Int) := by omega
            have q2 : ((i : Int) + 1 == (L : Int)) = false := by simp; omega
            have q3 : ¬ (L : Int) < (i : Int) + 1 := by omega
            have q4 : decide ((i : Int) + 1 < (L : Int)) = true := by simp; omega
            have q5 : decide ((L : Int) < (i : Int) + 1) = false := by simp; omega
            clear e1 e4 hnl hiL
            go_wp2_with fail
            exact ⟨⟨i + 1, by go_num, hit, HR5.out.fresh HCn.out, HW5.out.trans' HCn.out⟩, by simp [intOf]; omega⟩
          · obtain ⟨e1, e4, rfl⟩ := HT.out.e hiL
            rw [e1, e4]
            have q1 : ¬ (i : Int) + 1 < (L : Int) := by omega
            have q2 : ((i : Int) + 1 == (L : Int)) = true := by simp; omega
            have q3 : ¬ (L : Int) < (i : Int) + 1 := by omega
            have q4 : decide ((i : Int) + 1 < (L : Int)) = false := by simp; omega
            have q5 : decide ((L : Int) < (i : Int) + 1) = false := by simp; omega
            clear e1 e4 hnl hiL
            go_wp2_with (go_at_call 16; refine (same_numbers _ (xs := [1]) (ys := [1]) (SlAt.of_own (row_kept HG5.out (HCn.out.alloc _) (fun _ _ h => h))) (slat_new wr 1) (by simp)).mono ?_; rw [decide_eq_true rfl]; rintro e w6 ⟨rfl, hc6⟩; have HC6 := Lib.hid ((HCn.out.alloc _).trans' hc6); clear hc6)
            exact ⟨⟨i + 1, by go_num, hit, HR5.out.fresh HC6.out, HW5.out.trans' HC6.out⟩, by simp [intOf]; omega⟩
          · obtain ⟨e1, e4, rfl⟩ := HT.out.o hiL
            rw [e1, e4]
            have q1 : ¬ (i : Int) + 1 < (L : Int) := by omega
            have q2 : ((i : Int) + 1 == (L : Int)) = false := by simp; omega
            have q3 : (L : Int) < (i : Int) + 1 := by omega
            have q4 : decide ((i : Int) + 1 < (L : Int)) = false := by simp; omega
            have q5 : decide ((L : Int) < (i : Int) + 1) = true := by simp; omega
            clear e1 e4 hnl hiL
            go_wp2_with fail
            exact ⟨⟨i + 1, by go_num, hit, HR5.out.fresh HCn.out, HW5.out.trans' HCn.out⟩, by simp [intOf]; omega⟩
      · have hiK : ¬ (i : Int) + 1 ≤ (K : Int) := by omega
        obtain ⟨m, hCm, hmg⟩ : ∃ m, CoIs wr c (born wd w1) L m q ∧ mget m 2 = some x2 := by
          by_cases hy : i < L
          · exact ⟨_, (HR.out.young hy).1, rfl⟩
          · exact ⟨_, HR.out.old (by omega), rfl⟩
        have HCm := Lib.hid (And.intro hCm hmg)
        clear hCm hmg
        go_wp2_with (first
          | (go_at_call 15; refine (state_any _ HCm.out.1 HR.out.two 2 HCm.out.2 (by decide)).mono ?_; rintro e w3 ⟨rfl, rfl⟩)
          | (go_at_call 18; refine (works_any _).mono ?_; rintro e w9 ⟨rfl, hc9⟩; have HC9 := Lib.hid hc9; clear hc9))
        go_ret
        exact ⟨rfl, HW.out.trans' HC9.out⟩

set_option maxRecDepth 100000 in
theorem lifted (os : Os) (started : os.Started) (H : Type) (enc : TypeId × Value → H) :
    ReturnsInHanded {} Try.checked os 5 .any (Rows.coordTicksSpec.pre6 enc Try.prog Try.f5 [] false) (Rows.coordTicksSpec.post enc Try.prog Try.f5 false true false false) := by
  refine law_handed (C := Try.checked) (tb := 4) own started (by kernel_rfl) Try.func5
    (ChangeSpec.witness6 (enc := enc) (C := Try.checked) false ⟨#[], #[.int .i64 0, .agg #[.int .i64 0, .int .i64 0], .slice none 0 0], []⟩ 8 (by kernel_rfl) (by kernel_rfl) (by kernel_rfl) (by kernel_rfl))
    laidOut (by rw [show Try.checked.prog = Try.prog from rfl, Try.params5]; intro t ht; simp at ht; rcases ht with rfl | rfl | rfl <;> exact ⟨by kernel_rfl, of_decide_eq_true (by kernel_rfl)⟩) rfl rfl Try.underlying4 ?_ ?_
  · intro ds hds
    rw [Try.params5] at hds
    match ds, hds with
    | [_, _, _], _ => rfl
  · intro W base args ds before hval0 hA0 _ hsz0
    have hval : ∀ (j : Nat) t v, Try.f5.params[j]? = some t → args[j]? = some v → Value.okWide Try.prog W .any base t v := hval0
    have hA : DataW.TrodAll enc Try.prog W 0 (fun _ => true) true Try.f5.params.toList args.toList ds before := hA0
    rw [Try.params5] at hA hval
    obtain ⟨v0, vs0, d0, ds0, p0, q0, hargs, rfl, rfl, h0, r0⟩ := trodAll_cons hA
    obtain ⟨v1, vs1, d1, ds1, p1, q1, rfl, rfl, rfl, h1, r1⟩ := trodAll_cons r0
    obtain ⟨v2, vs2, d2, ds2, p2, q2, rfl, rfl, rfl, h2, r2⟩ := trodAll_cons r1
    obtain ⟨rfl, rfl, rfl⟩ := trodAll_nil r2
    obtain rfl : args = #[v0, v1, v2] := by cases args; simp_all
    obtain ⟨a0, rfl, rfl, rfl, w0⟩ := open_int Try.underlying3 (hval 0 3 v0 rfl rfl) h0
    obtain ⟨a1, b1, rfl, -, -⟩ := open_two_ints (hval 1 51 v1 rfl rfl) h1
    obtain ⟨bs2, s2⟩ := open_bools (hval 2 52 v2 rfl rfl) h2
    exact walk W a0 a1 b1 v2 bs2 s2

theorem over : Rows.coordTicksRow.holds Try.pinned (OpenSpec.ofChange Rows.coordTicksSpec) :=
  OpenClaim.holds_of_wide 5 Try.f5 rfl rfl rfl rfl rfl rfl rfl ⟨rfl, rfl, rfl, rfl, rfl⟩ rfl rfl rfl rfl rfl (by kernel_rfl) Try.func5 (by kernel_rfl)
    (of_decide_eq_true (by kernel_rfl)) (by unfold Func.isWrapper; first | (rw [if_pos (by decide +kernel)]; kernel_rfl) | (rw [if_neg (by decide +kernel)]; exact ⟨rfl, rfl⟩))
    (fun os started H enc _ => lifted os started H enc)

theorem proved : Rows.CoordTicksSaid := over
#print axioms proved


end Go.Proofs.Ytogjjkbgagedpaa.coordTicks

/-
  CoordCloses, whole: for every n and order the law returns true and changes nothing that was there. No condition.
-/
import Derived.Test.YtogjjkbgagedpaaCoordM
import Derived.Test.YtogjjkbgagedpaaCoordO
import Derived.Test.YtogjjkbgagedpaaLaw
import Derived.Test.YtogjjkbgagedpaaRows
namespace Go.Proofs.Ytogjjkbgagedpaa.coordCloses
open Go.ChangeShapes Go.WideShapes Go.ChangeAt Go.RowKit Go.My coords

theorem laidOut : laidOutB Try.prog = true := by kernel_rfl
theorem own : ownKnob Try.prog.godebug = none := by kernel_rfl




set_option maxRecDepth 100000 in
set_option maxHeartbeats 400000 in
theorem walk (W : World) (n : Int) (hn : inR n) (v : Value) (zs : List Int) (hz : SlAt W v (zs.map (Value.int .i64))) (hzr : ∀ z ∈ zs, inR z) :
    Calls Try.prog 6 #[.int .i64 n, v] W fun e w' => e = .returned (.bool true) ∧ Chg (fun _ => False) W w' := by
  obtain ⟨oav, capv, rfl, hzne, hzc⟩ := hz
  rw [List.length_map]
  obtain ⟨M, hM1, hM6, hw1, hw2⟩ := mod_six n
  obtain ⟨i0, hI0⟩ := info_parts info_int
  have HI0 := Lib.hid hI0
  have HZne := Lib.hid hzne
  have HZc := Lib.hid hzc
  have HM := Lib.hid (And.intro hM1 hM6)
  clear hI0 hzne hzc hM1 hM6
  go_enter Try.func6, Try.ntmps6
  go_wp2_with (go_at_call 10; refine (new_any _ 2 (by omega) (by omega)).mono ?_; rintro e w1 ⟨c, rfl, ⟨q, hC⟩, hc1⟩
               have HCo1 := Lib.hid hC
               have HC1 := Lib.hid hc1
               unfold ptrV
               clear hC hc1)
  clear hw1 hw2
  go_loopw [6, 7] (fun u j wr => ∃ k : Nat, j = .int .i64 ((k : Int) + 1) ∧ k ≤ M ∧ wr.ownsRow w1.heap.size 3 1 u k ((upto k).map (Value.int .i64)) ∧ Chg (fun _ => False) w1 wr) (fun _ j _ => M + 1 - (intOf j).toNat)
  · exact ⟨0, rfl, Nat.zero_le _, World.ownsRow_nil _ _ _ _, Chg.refl _ _⟩
  obtain ⟨k, rfl, hk, ho, hc⟩ := hrel
  have HO := Lib.hid ho
  have HC := Lib.hid hc
  clear ho hc
  by_cases hlt : k < M
  · have hki : (k : Int) + 1 ≤ (M : Int) := by omega
    have hca := (Chg.refl (fun _ => False) wr).alloc (.cells #[.int .i64 ((k : Int) + 1)] 3)
    have HRow := Lib.hid (row_kept HO.out hca (fun _ _ h => h))
    have HCa := Lib.hid hca
    have hk1000 : k < 1000 := by have := HM.out.2; omega
    have hkl : ((upto k).map (Value.int .i64)).length = k := by rw [List.length_map, upto_len]
    clear hca
    go_wp2_with (first
      | (at_builtin; refine wpList_append_own_at _ rfl _ _ 41 rfl w1.heap.size 3 i0 (.int .i64 0) 1 8 Try.underlying41 HI0.out.1 HI0.out.2.1 HI0.out.2.2.1 HI0.out.2.2.2 rfl (by decide) _ k _ rfl HRow.out ⟨wr.heap.size, 0, none⟩ 1 1 [.int .i64 ((k : Int) + 1)] rfl rfl (cells_new wr [.int .i64 ((k : Int) + 1)] _) (by intro x hx; rw [List.mem_singleton.1 hx]; rfl) (by unfold maxLen; omega) (by omega) (Nat.le_trans HC.out.size HCa.out.size) ?_; intro v6 w6 ho6 hg6 hx1 hx2; have HO6 := Lib.hid ho6; have HG6 := Lib.hid hg6; clear ho6 hg6 hx1 hx2))
    refine ⟨⟨k + 1, by go_num, hlt, ?_, (HC.out.trans' HCa.out).new (Chg.of_grown HG6.out) (fun j e => (HO.out.lt j e.symm).1)⟩, by simp [intOf]; omega⟩
    rw [upto_succ, List.map_append]
    exact HO6.out
  · have hki : ¬ (k : Int) + 1 ≤ (M : Int) := by omega
    have hkl : k = M := by omega
    rw [hkl] at HO
    clear hkl hlt hk
    obtain ⟨oau, cu, rfl⟩ := own_slice HO.out
    have hgood := good_upto HM.out.1 HM.out.2
    have HGood := Lib.hid hgood
    clear hgood
    go_wp2_with (go_at_call 20; refine (recall_any _ (HCo1.out.fresh HC.out) 9 (by decide) (zs := upto M) (by rw [upto_len]; exact HO.out) HGood.out rfl).mono ?_; rintro e w2 ⟨v2, x, rfl, ⟨oa2, cap2, rfl⟩, ⟨Fe, pv, qa, hE, hF⟩, hC2, hc2⟩; rw [upto_len]
                 have HE2 := Lib.hid hE
                 have HF := Lib.hid hF
                 have HCo2 := Lib.hid hC2
                 have HC2 := Lib.hid hc2
                 clear hE hF hC2 hc2)
    have hE0 : EntIs w2 x Fe ⟨3, 0, upto M, []⟩ pv qa := HE2.out
    have hCo0 : CoIs w2 c (born W w1) 2 [(9, x)] q := HCo2.out
    have hW2 : Chg (fun _ => False) W w2 := (HC1.out.trans' HC.out).new HC2.out (fun k e => by have := HCo1.out.fq.1; omega)
    have hap : ∀ k, Fe k → ¬ born W w1 k := fun k hk hb => by have h1 := HF.out k hk; have h2 := hb.2; have h3 := HC.out.size; omega
    have hEl : ∀ k, Fe k → k < w2.heap.size := fun k hk => hE0.lt k hk
    have hCl : ∀ k, born W w1 k → k < w2.heap.size := fun k hk => hCo0.lt k hk
    have hEo : ∀ k, Fe k → W.heap.size ≤ k := fun k hk => by have h1 := HF.out k hk; have h2 := HC1.out.size; have h3 := HC.out.size; omega
    have HE0 := Lib.hid hE0
    have HCo0 := Lib.hid hCo0
    have HW2 := Lib.hid hW2
    have HAp := Lib.hid hap
    have HEl := Lib.hid hEl
    have HCl := Lib.hid hCl
    have HEo := Lib.hid hEo
    clear hE0 hCo0 hW2 hap hEl hCl hEo HE2 HCo2 HC2 HF HCo1 HC HO hki
    go_loopw [10, 11] (fun u j wi => ∃ (i : Nat) (ans : List (Int × Bool)) (acked : List Int), j = .int .i64 i ∧ i ≤ zs.length ∧ i ≤ 40 ∧ Acks M ans acked ∧ acked.length < M ∧ wi.ownsRow w2.heap.size 3 1 u acked.length (acked.map (Value.int .i64)) ∧ CoIs wi c (born W w1) 2 [(9, x)] q ∧ EntIs wi x Fe ⟨3, 0, upto M, ans⟩ pv qa ∧ Chg (fun _ => False) W wi ∧ w2.heap.size ≤ wi.heap.size) (fun _ j _ => 40 - (intOf j).toNat)
    · exact ⟨0, [], [], rfl, Nat.zero_le _, Nat.zero_le _, Acks.nil M, HM.out.1, World.ownsRow_nil _ _ _ _, HCo0.out, HE0.out, HW2.out, Nat.le_refl _⟩
    have HWs := Lib.hid HW2.out.size
    clear HE0 HCo0 HW2
    obtain ⟨i, ans, acked, rfl, hil, hi40, hA, hlM, ho, hC, hE, hW, hsz⟩ := hrel
    have HA := Lib.hid hA
    have HO := Lib.hid ho
    have HC := Lib.hid hC
    have HE := Lib.hid hE
    have HW := Lib.hid hW
    have HLM := Lib.hid hlM
    have HSz := Lib.hid hsz
    obtain ⟨oaw, cw, rfl⟩ := own_slice HO.out
    clear hA ho hC hE hW hlM hsz
    by_cases hlt : i < zs.length ∧ i < 40
    · obtain ⟨hl1, hl2⟩ := hlt
      have hd40 : decide ((i : Int) < 40) = true := by simp; omega
      have hli : (i : Int) < (zs.length : Int) := by omega
      obtain ⟨b, off, rfl⟩ := HZne.out (by intro e; rw [List.map_eq_nil_iff] at e; rw [e] at hl1; simp at hl1)
      obtain ⟨z, hz⟩ : ∃ z, zs[i]? = some z := ⟨zs[i], List.getElem?_eq_getElem hl1⟩
      have cz : wr.cell? ⟨b, off + i, none⟩ = some (.int .i64 z) := HW.out.cell (HZc.out b off rfl i _ (by rw [List.getElem?_map, hz]; rfl)) id
      obtain ⟨r, hr1, hrM, hw1, hw2⟩ := mod_m z M HM.out.1 HM.out.2
      have hM0 : ((M : Int) == 0) = false := by have := HM.out.1; simp; omega
      have HUp := Lib.hid (upto_mem.2 ⟨hr1, hrM⟩)
      clear hz
      by_cases hin : r ∈ acked
      · have HFull := Lib.hid (Acks.full (HA.out.again hin) (EV.yes ⟨3, 0, upto M, ans⟩ r) rfl rfl)
        have HA' := Lib.hid (HA.out.again hin)
        have HLk := Lib.hid (show ¬ lacksOf (EV.yes ⟨3, 0, upto M, ans⟩ r) (EV.mk 3 0 (upto M) ans).ps.length = [] from fun e => by have := HFull.out.1 e; have := HLM.out; omega)
        have HIn := Lib.hid (decide_eq_true hin)
        have hnl : ¬ (acked.length : Int) = (M : Int) := by have := HLM.out; omega
        clear hin
        go_wp2_with (first
          | (go_at_call 13; have _h := cz; refine (take_ask _ HC.out HE.out r 9 rfl rfl HUp.out (by decide)).mono ?_; rintro e w3 ⟨gm, rfl, hgb, hc3⟩
             have hc4 := hc3.alloc (.cells #[.slice (some ⟨gm, 0, none⟩) 1 1, .int .i64 0, .int .i64 0, .int .i64 0] 36)
             have hgb4 := ((Chg.refl (fun _ => False) w3).alloc (.cells #[.slice (some ⟨gm, 0, none⟩) 1 1, .int .i64 0, .int .i64 0, .int .i64 0] 36)).at hgb id
             have m0 : (w3.alloc (.cells #[.slice (some ⟨gm, 0, none⟩) 1 1, .int .i64 0, .int .i64 0, .int .i64 0] 36)).cell? ⟨gm, 0, none⟩ = some (.int .i64 3) := cell_of_block (i := 0) hgb4 rfl
             have m2 : (w3.alloc (.cells #[.slice (some ⟨gm, 0, none⟩) 1 1, .int .i64 0, .int .i64 0, .int .i64 0] 36)).cell? ⟨gm, 2, none⟩ = some (.int .i64 r) := cell_of_block (i := 2) hgb4 rfl
             have HC4 := Lib.hid hc4
             unfold saidM
             clear hgb hc3 hc4 hgb4 cz)
          | (go_at_call 22; refine (tick_one _ 9 (by decide) (HC.out.fresh HC4.out) (HE.out.fresh HC4.out) rfl).mono ?_; rintro e w5 ⟨v5, rfl, hc5⟩
             have HC5 := Lib.hid (HC4.out.trans' hc5)
             clear hc5 m0 m2)
          | (go_at_call 23; refine (in_any _ (row_kept HO.out HC5.out (fun _ _ h => h)) (by have := HLM.out; have := HM.out; omega) r).mono ?_; rw [HIn.out]; rintro e w6 ⟨rfl, rfl⟩
             have HE6 := Lib.hid (HE.out.fresh HC5.out)
             have HCo6 := Lib.hid (HC.out.fresh HC5.out)
             clear HE HC)
          | (go_at_call 13; refine (take_ack _ HCo6.out HE6.out r 9 rfl rfl HUp.out (by decide) HAp.out).mono ?_; rw [if_neg HLk.out, if_neg HLk.out]; rintro e w7 ⟨rfl, hE7, hC7, hc7⟩
             have HE7 := Lib.hid hE7
             have HCo7 := Lib.hid hC7
             have HC8 := Lib.hid (hc7.alloc (.cells #[.slice none 0 0, .int .i64 0, .int .i64 0, .int .i64 0] 36))
             unfold saidC
             clear hE7 hC7 hc7))
        refine ⟨⟨i + 1, _, acked, by go_num, hl1, hl2, HA'.out, HLM.out, row_kept (row_kept HO.out HC5.out (fun _ _ h => h)) HC8.out (fun g hg hF => by have h1 := (HO.out.lt g hg).1; rcases hF with hF | hF; exact absurd (HEl.out g hF) (by omega); exact absurd (HCl.out g hF) (by omega)), HCo7.out.fresh ((Chg.refl _ _).alloc _), HE7.out.fresh ((Chg.refl _ _).alloc _), (HW.out.trans' HC5.out).new HC8.out (fun k hF => hF.elim (HEo.out k) (fun hb => hb.1)), Nat.le_trans HSz.out (Nat.le_trans HC5.out.size HC8.out.size)⟩, by simp [intOf]; omega⟩
      · have HA' := Lib.hid (HA.out.add hin ⟨hr1, hrM⟩)
        have HFull := Lib.hid (Acks.full HA'.out (EV.yes ⟨3, 0, upto M, ans⟩ r) rfl rfl)
        have HIn := Lib.hid (decide_eq_false hin)
        obtain ⟨la, hla⟩ : ∃ la, acked.length + 1 = la := ⟨_, rfl⟩
        have hll : (acked ++ [r]).length = la := by rw [List.length_append, List.length_singleton, hla]
        rw [hll] at HFull
        have HLa := Lib.hid hla
        have HLl := Lib.hid hll
        clear hin hla hll
        by_cases hfl : la = M
        · subst hfl
          have HLk := Lib.hid (show lacksOf (EV.yes ⟨3, 0, upto la, ans⟩ r) (EV.mk 3 0 (upto la) ans).ps.length = [] from HFull.out.2 rfl)

          go_wp2_with (first
            | (go_at_call 13; have _h := cz; refine (take_ask _ HC.out HE.out r 9 rfl rfl HUp.out (by decide)).mono ?_; rintro e w3 ⟨gm, rfl, hgb, hc3⟩
               have hc4 := hc3.alloc (.cells #[.slice (some ⟨gm, 0, none⟩) 1 1, .int .i64 0, .int .i64 0, .int .i64 0] 36)
               have hgb4 := ((Chg.refl (fun _ => False) w3).alloc (.cells #[.slice (some ⟨gm, 0, none⟩) 1 1, .int .i64 0, .int .i64 0, .int .i64 0] 36)).at hgb id
               have m0 : (w3.alloc (.cells #[.slice (some ⟨gm, 0, none⟩) 1 1, .int .i64 0, .int .i64 0, .int .i64 0] 36)).cell? ⟨gm, 0, none⟩ = some (.int .i64 3) := cell_of_block (i := 0) hgb4 rfl
               have m2 : (w3.alloc (.cells #[.slice (some ⟨gm, 0, none⟩) 1 1, .int .i64 0, .int .i64 0, .int .i64 0] 36)).cell? ⟨gm, 2, none⟩ = some (.int .i64 r) := cell_of_block (i := 2) hgb4 rfl
               have HC4 := Lib.hid hc4
               unfold saidM
               clear hgb hc3 hc4 hgb4 cz)
            | (go_at_call 22; refine (tick_one _ 9 (by decide) (HC.out.fresh HC4.out) (HE.out.fresh HC4.out) rfl).mono ?_; rintro e w5 ⟨v5, rfl, hc5⟩
               have HC5 := Lib.hid (HC4.out.trans' hc5)
               clear hc5 m0 m2)
            | (go_at_call 23; have HRow := Lib.hid (row_kept HO.out (HC5.out.alloc (.cells #[.int .i64 r] 3)) (fun _ _ h => h)); have HSz5 := Lib.hid (Nat.le_trans HSz.out (HC5.out.alloc (.cells #[.int .i64 r] 3)).size); refine (in_any _ (row_kept HO.out HC5.out (fun _ _ h => h)) (by have := HLM.out; have := HM.out; omega) r).mono ?_; rw [HIn.out]; rintro e w6 ⟨rfl, rfl⟩)
            | (at_builtin; refine wpList_append_own_at _ rfl _ _ 41 rfl w2.heap.size 3 i0 (.int .i64 0) 1 8 Try.underlying41 HI0.out.1 HI0.out.2.1 HI0.out.2.2.1 HI0.out.2.2.2 rfl (by decide) _ acked.length _ rfl HRow.out ⟨w5.heap.size, 0, none⟩ 1 1 [.int .i64 r] rfl rfl (cells_new w5 [.int .i64 r] _) (by intro x hx; rw [List.mem_singleton.1 hx]; rfl) (by have := HLM.out; have := HM.out; unfold maxLen; omega) (by have := HLM.out; have := HM.out; omega) HSz5.out ?_; intro v6 w6 ho6 hg6 hx1 hx2
               rw [HLa.out] at ho6
               obtain ⟨oa6, cap6, rfl⟩ := own_slice ho6
               have hcw : Chg (fun k => some k = (Value.slice oaw acked.length cw).ownBlock) wr w6 := ((HC5.out.alloc _).mono (fun _ _ h => h.elim)).trans' (Chg.of_grown hg6)
               have HE6 := Lib.hid (HE.out.kept hcw (fun k hk e => by have h1 := (HO.out.lt k e.symm).1; have h2 := HEl.out k hk; omega))
               have HCo6 := Lib.hid (HC.out.kept hcw (fun k hk e => by have h1 := (HO.out.lt k e.symm).1; have h2 := HCl.out k hk; omega))
               have HW6 := Lib.hid (HW.out.new hcw (fun k e => Nat.le_trans HWs.out (HO.out.lt k e.symm).1))
               have HSz6 := Lib.hid (Nat.le_trans HSz.out hcw.size)
               have HO6 := Lib.hid ho6
               clear ho6 hg6 hx1 hx2 hcw HE HC)
            | (go_at_call 13; refine (take_ack _ HCo6.out HE6.out r 9 rfl rfl HUp.out (by decide) HAp.out).mono ?_; rw [if_pos HLk.out, if_pos HLk.out]; rintro e w7 ⟨rfl, hE7, hC7, hc7⟩
               have HE7 := Lib.hid hE7
               have HCo7 := Lib.hid hC7
               have HC8 := Lib.hid (hc7.alloc (.cells #[.slice none 0 0, .int .i64 0, .int .i64 9, .int .i64 0] 36))
               unfold saidC
               clear hE7 hC7 hc7))
          have HCo8 := Lib.hid (HCo7.out.fresh ((Chg.refl _ _).alloc (.cells #[.slice none 0 0, .int .i64 0, .int .i64 9, .int .i64 0] 36)))
          go_wp2_with (first
            | (go_at_call 15; refine (state_gone _ HCo8.out 9 rfl (by decide)).mono ?_; rintro e w9 ⟨rfl, rfl⟩)
            | (go_at_call 18; refine (works_any _).mono ?_; rintro e w9 ⟨rfl, hc9⟩; have HC9 := Lib.hid hc9; clear hc9))
          go_ret
          exact ⟨rfl, (HW6.out.new HC8.out (fun k hF => hF.elim (HEo.out k) (fun hb => hb.1))).trans' HC9.out⟩
        · have hnl : ¬ (la : Int) = (M : Int) := by omega
          have HLk := Lib.hid (show ¬ lacksOf (EV.yes ⟨3, 0, upto M, ans⟩ r) (EV.mk 3 0 (upto M) ans).ps.length = [] from fun e => hfl (HFull.out.1 e))
          have hlm : la < M := by have := HLM.out; have := HLa.out; omega
          clear hfl
          go_wp2_with (first
            | (go_at_call 13; have _h := cz; refine (take_ask _ HC.out HE.out r 9 rfl rfl HUp.out (by decide)).mono ?_; rintro e w3 ⟨gm, rfl, hgb, hc3⟩
               have hc4 := hc3.alloc (.cells #[.slice (some ⟨gm, 0, none⟩) 1 1, .int .i64 0, .int .i64 0, .int .i64 0] 36)
               have hgb4 := ((Chg.refl (fun _ => False) w3).alloc (.cells #[.slice (some ⟨gm, 0, none⟩) 1 1, .int .i64 0, .int .i64 0, .int .i64 0] 36)).at hgb id
               have m0 : (w3.alloc (.cells #[.slice (some ⟨gm, 0, none⟩) 1 1, .int .i64 0, .int .i64 0, .int .i64 0] 36)).cell? ⟨gm, 0, none⟩ = some (.int .i64 3) := cell_of_block (i := 0) hgb4 rfl
               have m2 : (w3.alloc (.cells #[.slice (some ⟨gm, 0, none⟩) 1 1, .int .i64 0, .int .i64 0, .int .i64 0] 36)).cell? ⟨gm, 2, none⟩ = some (.int .i64 r) := cell_of_block (i := 2) hgb4 rfl
               have HC4 := Lib.hid hc4
               unfold saidM
               clear hgb hc3 hc4 hgb4 cz)
            | (go_at_call 22; refine (tick_one _ 9 (by decide) (HC.out.fresh HC4.out) (HE.out.fresh HC4.out) rfl).mono ?_; rintro e w5 ⟨v5, rfl, hc5⟩
               have HC5 := Lib.hid (HC4.out.trans' hc5)
               clear hc5 m0 m2)
            | (go_at_call 23; have HRow := Lib.hid (row_kept HO.out (HC5.out.alloc (.cells #[.int .i64 r] 3)) (fun _ _ h => h)); have HSz5 := Lib.hid (Nat.le_trans HSz.out (HC5.out.alloc (.cells #[.int .i64 r] 3)).size); refine (in_any _ (row_kept HO.out HC5.out (fun _ _ h => h)) (by have := HLM.out; have := HM.out; omega) r).mono ?_; rw [HIn.out]; rintro e w6 ⟨rfl, rfl⟩)
            | (at_builtin; refine wpList_append_own_at _ rfl _ _ 41 rfl w2.heap.size 3 i0 (.int .i64 0) 1 8 Try.underlying41 HI0.out.1 HI0.out.2.1 HI0.out.2.2.1 HI0.out.2.2.2 rfl (by decide) _ acked.length _ rfl HRow.out ⟨w5.heap.size, 0, none⟩ 1 1 [.int .i64 r] rfl rfl (cells_new w5 [.int .i64 r] _) (by intro x hx; rw [List.mem_singleton.1 hx]; rfl) (by have := HLM.out; have := HM.out; unfold maxLen; omega) (by have := HLM.out; have := HM.out; omega) HSz5.out ?_; intro v6 w6 ho6 hg6 hx1 hx2
               rw [HLa.out] at ho6
               obtain ⟨oa6, cap6, rfl⟩ := own_slice ho6
               have hcw : Chg (fun k => some k = (Value.slice oaw acked.length cw).ownBlock) wr w6 := ((HC5.out.alloc _).mono (fun _ _ h => h.elim)).trans' (Chg.of_grown hg6)
               have HE6 := Lib.hid (HE.out.kept hcw (fun k hk e => by have h1 := (HO.out.lt k e.symm).1; have h2 := HEl.out k hk; omega))
               have HCo6 := Lib.hid (HC.out.kept hcw (fun k hk e => by have h1 := (HO.out.lt k e.symm).1; have h2 := HCl.out k hk; omega))
               have HW6 := Lib.hid (HW.out.new hcw (fun k e => Nat.le_trans HWs.out (HO.out.lt k e.symm).1))
               have HSz6 := Lib.hid (Nat.le_trans HSz.out hcw.size)
               have HO6 := Lib.hid ho6
               clear ho6 hg6 hx1 hx2 hcw HE HC)
            | (go_at_call 13; refine (take_ack _ HCo6.out HE6.out r 9 rfl rfl HUp.out (by decide) HAp.out).mono ?_; rw [if_neg HLk.out, if_neg HLk.out]; rintro e w7 ⟨rfl, hE7, hC7, hc7⟩
               have HE7 := Lib.hid hE7
               have HCo7 := Lib.hid hC7
               have HC8 := Lib.hid (hc7.alloc (.cells #[.slice none 0 0, .int .i64 0, .int .i64 0, .int .i64 0] 36))
               unfold saidC
               clear hE7 hC7 hc7))
          refine ⟨⟨i + 1, _, acked ++ [r], by go_num, hl1, hl2, HA'.out, by rw [HLl.out]; exact hlm, ?_, HCo7.out.fresh ((Chg.refl _ _).alloc _), HE7.out.fresh ((Chg.refl _ _).alloc _), HW6.out.new HC8.out (fun k hF => hF.elim (HEo.out k) (fun hb => hb.1)), Nat.le_trans HSz6.out HC8.out.size⟩, by simp [intOf]; omega⟩
          rw [HLl.out, List.map_append]
          exact row_kept HO6.out HC8.out (fun g hg hF => by have h1 := (HO6.out.lt g hg).1; rcases hF with hF | hF; exact absurd (HEl.out g hF) (by omega); exact absurd (HCl.out g hF) (by omega))
    · have hd : ¬ (i : Int) < (zs.length : Int) ∨ ((i : Int) < (zs.length : Int) ∧ decide ((i : Int) < 40) = false) := by simp only [decide_eq_false_iff_not]; omega
      have hnl : ¬ (acked.length : Int) = (M : Int) := by have := HLM.out; omega
      clear hlt
      rcases hd with hd | ⟨hd, hd2⟩
      all_goals go_wp2_with (first
        | (go_at_call 15; refine (state_any _ HC.out HE.out 9 rfl (by decide)).mono ?_; rintro e w3 ⟨rfl, rfl⟩)
        | (go_at_call 18; refine (works_any _).mono ?_; rintro e w9 ⟨rfl, hc9⟩; have HC9 := Lib.hid hc9; clear hc9))
      all_goals go_ret
      all_goals refine ⟨?_, HW.out.trans' HC9.out⟩
      all_goals show Ending.returned (.bool (!((acked.length : Int) == (M : Int)))) = _
      all_goals rw [beq_eq_false_iff_ne.2 hnl]
      all_goals rfl

set_option maxRecDepth 100000 in
theorem lifted (os : Os) (started : os.Started) (H : Type) (enc : TypeId × Value → H) :
    ReturnsInHanded {} Try.checked os 6 .any (Rows.coordClosesSpec.pre6 enc Try.prog Try.f6 [] false) (Rows.coordClosesSpec.post enc Try.prog Try.f6 false true false false) := by
  refine law_handed (C := Try.checked) (tb := 4) own started (by kernel_rfl) Try.func6
    (ChangeSpec.witness6 (enc := enc) (C := Try.checked) false ⟨#[], #[.int .i64 0, .slice none 0 0], []⟩ 8 (by kernel_rfl) (by kernel_rfl) (by kernel_rfl) (by kernel_rfl))
    laidOut (by rw [show Try.checked.prog = Try.prog from rfl, Try.params6]; intro t ht; simp at ht; rcases ht with rfl | rfl <;> exact ⟨by kernel_rfl, of_decide_eq_true (by kernel_rfl)⟩) rfl rfl Try.underlying4 ?_ ?_
  · intro ds hds
    rw [Try.params6] at hds
    match ds, hds with
    | [_, _], _ => rfl
  · intro W base args ds before hval0 hA0 _ hsz0
    have hval : ∀ (j : Nat) t v, Try.f6.params[j]? = some t → args[j]? = some v → Value.okWide Try.prog W .any base t v := hval0
    have hA : DataW.TrodAll enc Try.prog W 0 (fun _ => true) true Try.f6.params.toList args.toList ds before := hA0
    rw [Try.params6] at hA hval
    obtain ⟨v0, vs0, d0, ds0, p0, q0, hargs, rfl, rfl, h0, r0⟩ := trodAll_cons hA
    obtain ⟨v1, vs1, d1, ds1, p1, q1, rfl, rfl, rfl, h1, r1⟩ := trodAll_cons r0
    obtain ⟨rfl, rfl, rfl⟩ := trodAll_nil r1
    obtain rfl : args = #[v0, v1] := by cases args; simp_all
    obtain ⟨a0, rfl, rfl, rfl, w0⟩ := open_int Try.underlying3 (hval 0 3 v0 rfl rfl) h0
    obtain ⟨zs1, s1, z1, -⟩ := open_ints (hval 1 41 v1 rfl rfl) h1
    exact walk W a0 (wf_inR w0) v1 zs1 s1 z1

theorem over : Rows.coordClosesRow.holds Try.pinned (OpenSpec.ofChange Rows.coordClosesSpec) :=
  OpenClaim.holds_of_wide 6 Try.f6 rfl rfl rfl rfl rfl rfl rfl ⟨rfl, rfl, rfl, rfl, rfl⟩ rfl rfl rfl rfl rfl (by kernel_rfl) Try.func6 (by kernel_rfl)
    (of_decide_eq_true (by kernel_rfl)) (by unfold Func.isWrapper; first | (rw [if_pos (by decide +kernel)]; kernel_rfl) | (rw [if_neg (by decide +kernel)]; exact ⟨rfl, rfl⟩))
    (fun os started H enc _ => lifted os started H enc)

theorem proved : Rows.CoordClosesSaid := over
#print axioms proved


end Go.Proofs.Ytogjjkbgagedpaa.coordCloses

/-
  CoordTwice: the walk, its acts.
-/
import Derived.Test.YtogjjkbgagedpaaCoGU
import Derived.Test.YtogjjkbgagedpaaCoGO
namespace Go.Proofs.Ytogjjkbgagedpaa.coordg
open Go.RowKit Go.Maps Go.My Go.ChangeMaps coords
set_option maxRecDepth 100000

theorem len_mdel (L : List (Int × Ent)) (tx : Int) : (mdel L tx).length ≤ L.length := List.length_filter_le _ _
theorem len_upd (L : List (Int × Ent)) (tx : Int) (E : EV) : (upd L tx E).length ≤ L.length := by unfold upd; rw [List.length_map]; exact Nat.le_refl _
theorem len_unk (L : List (Int × Ent)) (kd f : Int) (y : Bool) : (unkF L kd f y).L.length ≤ L.length := by
  unfold unkF; split <;> exact Nat.le_refl _
theorem len_known (L : List (Int × Ent)) (E : EV) (kd f tx : Int) (y : Bool) : (knownF L E kd f tx y).L.length ≤ L.length := by
  unfold knownF
  repeat' split
  all_goals first | exact Nat.le_refl _ | exact len_mdel _ _ | exact len_upd _ _ _
theorem len_take (L : List (Int × Ent)) (kd f t tx : Int) (y : Bool) (n : Nat) : (takeF L kd f t tx y n).L.length ≤ L.length := by
  unfold takeF lookF
  split
  · cases mget L tx with
    | none => exact len_unk _ _ _ _
    | some e =>
      dsimp only
      split
      · exact len_known _ _ _ _ _ _
      · exact len_unk _ _ _ _
  · exact Nat.le_refl _
theorem len_tick (lim : Int) (K : List Int) (L : List (Int × Ent)) : (tickK lim K L).length ≤ L.length := List.length_filterMap_le _ _
theorem len_sure {L L' : List (Int × Ent)} {tx n : Int} {ms : List (Int × Int × Int)} (h : SureR L tx n ms L') : L'.length ≤ L.length := by
  cases h with
  | no _ => exact Nat.le_refl _
  | yes e F' _ _ => unfold updF; rw [List.length_map]; exact Nat.le_refl _

/-- The law's state behind k acts: a coordinator, and the message in its block. -/
structure Tw (W wr : World) (mc : List Value) (c : Nat) (Fc : Nat → Prop) (lim : Int) (q : Nat) (L : List (Int × Ent)) (k : Nat) : Prop where
  all : AllIs wr c Fc lim q L
  len : L.length ≤ k
  msg : Arr wr W.heap.size 24 mc
  foot : ∀ b, Foot L Fc b → W.heap.size < b
  chg : Chg (fun _ => False) W wr

theorem Tw.fresh {W wr wr' : World} {mc : List Value} {c : Nat} {Fc : Nat → Prop} {lim : Int} {q k : Nat} {L : List (Int × Ent)} (h : Tw W wr mc c Fc lim q L k) (hc : Chg (fun _ => False) wr wr') : Tw W wr' mc c Fc lim q L k :=
  ⟨h.all.fresh hc, h.len, hc.at h.msg id, h.foot, h.chg.trans' hc⟩

theorem Tw.call {W wr wr' : World} {mc : List Value} {c : Nat} {Fc : Nat → Prop} {lim : Int} {q k k' : Nat} {L L' : List (Int × Ent)} (h : Tw W wr mc c Fc lim q L k) (hc : Chg (Foot L Fc) wr wr') (ha : AllIs wr' c Fc lim q L') (hF : ∀ b, Foot L' Fc b → Foot L Fc b ∨ wr.heap.size ≤ b) (hl : L'.length ≤ k') : Tw W wr' mc c Fc lim q L' k' := by
  have hsz := lt_of_block h.msg
  refine ⟨ha, hl, hc.at h.msg (fun hf => by have := h.foot _ hf; omega), fun b hb => ?_, h.chg.new hc (fun b hf => by have := h.foot b hf; omega)⟩
  rcases hF b hb with h1 | h1
  · exact h.foot b h1
  · omega

theorem Tw.moved {W wr wr' : World} {mc mc' : List Value} {c : Nat} {Fc : Nat → Prop} {lim : Int} {q k : Nat} {L : List (Int × Ent)} (h : Tw W wr mc c Fc lim q L k) (hc : Chg (· = W.heap.size) wr wr') (ha : Arr wr' W.heap.size 24 mc') : Tw W wr' mc' c Fc lim q L k :=
  ⟨h.all.kept hc (fun b hb e => by have := h.foot b hb; omega), h.len, ha, h.foot, h.chg.new hc (fun b e => by omega)⟩

theorem AllIs.start {w : World} {c q : Nat} {F : Nat → Prop} {lim : Int} (h : CoIs w c F lim [] q) (h1 : 1 ≤ lim) (h2 : lim ≤ 1000) : AllIs w c F lim q [] :=
  ⟨h, by simp, by simp, by simp, by simp, by simp, by simp, h1, h2⟩

theorem lacks_at (w : World) {c q : Nat} {F : Nat → Prop} {lim : Int} {L : List (Int × Ent)} (h : AllIs w c F lim q L) (tx : Int) (ht : inR tx) :
    Calls Try.prog 26 #[ptrV c, .int .i64 tx] w fun e w' => ∃ v n, e = .returned v ∧ w'.ownsRow w.heap.size 3 1 v n ((lacksAt L tx).map (Value.int .i64)) ∧ Chg (fun _ => False) w w' := lacks_all w h tx ht

theorem lacks_len {w : World} {c q : Nat} {F : Nat → Prop} {lim : Int} {L : List (Int × Ent)} (h : AllIs w c F lim q L) (tx : Int) : (lacksAt L tx).length ≤ 1000000 := by
  unfold lacksAt
  cases he : mget L tx with
  | none => exact Nat.zero_le _
  | some e =>
    obtain ⟨pv, qa, hE⟩ := h.ents _ (mget_mem he)
    dsimp only
    split
    · exact Nat.zero_le _
    · have h1 : (lacksOf e.E e.E.ps.length).length ≤ e.E.ps.length := by rw [lacks_filter]; exact List.length_filter_le _ _
      have h2 : e.E.ps.length ≤ 6 := hE.len
      omega







set_option maxHeartbeats 4000000 in
theorem twice_walk (W : World) (lim0 : Int) (M : Nat) (hM1 : 1 ≤ M) (hM2 : M ≤ 20) (hw1 : wrap64 (lim0.tmod 20 + 20) = lim0.tmod 20 + 20) (hw2 : wrap64 (1 + (lim0.tmod 20 + 20).tmod 20) = (M : Int))
    (oaA : Option Addr) (capA : Nat) (acts : List (List Value)) (hacts : RowsAt W 9 oaA acts) (hok : ∀ a ∈ acts, ActOk W a) (hcap : acts.length ≤ capA ∧ capA ≤ maxLen)
    (kd0 f0 t0 tx0 : Int) (y0 : Bool) (oa0 : Option Addr) (cap0 : Nat) (ps0 : List (List Value)) (hm : MsgOk W oa0 cap0 ps0) (hr : inR tx0) :
    Calls Try.prog 7 #[.int .i64 lim0, .slice oaA acts.length capA, .agg #[.int .i64 kd0, .int .i64 f0, .int .i64 t0, .int .i64 tx0, .bool y0, .slice oa0 ps0.length cap0]] W fun e w' => e = .returned (.bool true) ∧ Chg (fun _ => False) W w' := by
  have HActs := Lib.hid hacts
  have HOk := Lib.hid hok
  have HCap := Lib.hid hcap
  have HMsg := Lib.hid hm
  have HR := Lib.hid hr
  have HM := Lib.hid (And.intro hM1 hM2)
  clear hacts hok hcap hm hr hM1 hM2
  go_enter Try.func7, Try.ntmps7
  go_wp2_with (first
    | (go_at_call 10; fail))
  have hca0 := (Chg.refl (fun _ => False) W).alloc (.cells #[.int .i64 kd0, .int .i64 f0, .int .i64 t0, .int .i64 tx0, .bool y0, .slice oa0 ps0.length cap0] 24)
  have hb0 := block_alloc_new W (.cells #[.int .i64 kd0, .int .i64 f0, .int .i64 t0, .int .i64 tx0, .bool y0, .slice oa0 ps0.length cap0] 24)
  refine (new_any _ (M : Int) (by have := HM.out; omega) (by have := HM.out; omega)).mono ?_
  rintro e w1 ⟨c, rfl, ⟨q, hC⟩, hc1⟩
  obtain ⟨mc, hmc⟩ : ∃ mc, msgV kd0 f0 t0 tx0 y0 (.slice oa0 ps0.length cap0) = mc := ⟨_, rfl⟩
  have HMc := Lib.hid hmc
  have hT0 : Tw W w1 mc c (born _ w1) (M : Int) q [] 0 := ⟨AllIs.start hC (by have := HM.out; omega) (by have := HM.out; omega), Nat.le_refl _, by rw [← hmc]; exact hc1.at hb0 id, fun b hb => by
    rcases hb with hb | ⟨p, hp, -⟩
    · have := hb.1; rw [World.size_alloc] at this; omega
    · simp at hp, hca0.trans' hc1⟩
  obtain ⟨Fc, hFc⟩ : ∃ Fc, born (W.alloc (.cells #[.int .i64 kd0, .int .i64 f0, .int .i64 t0, .int .i64 tx0, .bool y0, .slice oa0 ps0.length cap0] 24)) w1 = Fc := ⟨_, rfl⟩
  rw [hFc] at hT0
  have HT0 := Lib.hid hT0
  clear hT0 hFc hC hc1 hca0 hb0 hmc hw1 hw2
  unfold ptrV
  dsimp only
  go_wp2_with fail
  go_loopw [8] (fun j wr => ∃ (k : Nat) (L : List (Int × Ent)), j = .int .i64 k ∧ k ≤ acts.length ∧ k ≤ 40 ∧ Tw W wr mc c Fc (M : Int) q L k) (fun j _ => 40 - (intOf j).toNat)
  · exact ⟨0, [], rfl, Nat.zero_le _, Nat.zero_le _, HT0.out⟩
  clear HT0
  obtain ⟨k, L, rfl, hk, hk40, hT⟩ := hrel
  have HT := Lib.hid hT
  clear hT
  by_cases hlt : k < acts.length
  · have hki : (k : Int) < (acts.length : Int) := by omega
    by_cases h40 : k < 40
    · have hk1 : (k : Int) < 40 := by omega
      obtain ⟨a, hx⟩ : ∃ a, acts[k]? = some a := ⟨acts[k], List.getElem?_eq_getElem hlt⟩
      obtain ⟨kk, tx, oap, capp, pl, kd, f, t, mt, y, oam, capm, psm, rfl, hpr, hpo, hpc1, hpc2, hmo, hik, hit, hif, hitt⟩ := (HOk.out a (List.mem_of_getElem? hx)).is
      obtain ⟨b0, off, rfl⟩ := HActs.out.spot (by intro e; rw [e] at hlt; simp at hlt)
      have hcell := fun j v hj => (HActs.out.kept HT.out.chg (fun _ _ h => h)).cell b0 off rfl k _ j v hx hj
      have d0 : wr.cell? ⟨b0, off + k * 9, none⟩ = some (.int .i64 kk) := hcell 0 _ rfl
      have d1 : wr.cell? ⟨b0, off + k * 9 + 1, none⟩ = some (.int .i64 tx) := hcell 1 _ rfl
      have d2 : wr.cell? ⟨b0, off + k * 9 + 2, none⟩ = some (.slice oap pl.length capp) := hcell 2 _ rfl
      have d3 : wr.cell? ⟨b0, off + k * 9 + 3, none⟩ = some (.int .i64 kd) := hcell 3 _ rfl
      have d4 : wr.cell? ⟨b0, off + k * 9 + 4, none⟩ = some (.int .i64 f) := hcell 4 _ rfl
      have d5 : wr.cell? ⟨b0, off + k * 9 + 5, none⟩ = some (.int .i64 t) := hcell 5 _ rfl
      have d6 : wr.cell? ⟨b0, off + k * 9 + 6, none⟩ = some (.int .i64 mt) := hcell 6 _ rfl
      have d7 : wr.cell? ⟨b0, off + k * 9 + 7, none⟩ = some (.bool y) := hcell 7 _ rfl
      have d8 : wr.cell? ⟨b0, off + k * 9 + 8, none⟩ = some (.slice oam psm.length capm) := hcell 8 _ rfl
      have HPr := Lib.hid hpr
      have HPo := Lib.hid hpo
      have HPc := Lib.hid (And.intro hpc1 hpc2)
      have HMo := Lib.hid hmo
      have HIn := Lib.hid hit
      clear hcell hx hpr hpo hpc1 hpc2 hmo hik hit hif hitt
      by_cases k0 : kk = 0
      · subst k0
        go_wp2_with fail
        clear d0 d1 d2 d3 d4 d5 d6 d7 d8
        obtain ⟨wa, hwa⟩ : ∃ wa, wr.alloc (.cells #[.int .i64 0, .int .i64 tx, .slice oap pl.length capp, .int .i64 kd, .int .i64 f, .int .i64 t, .int .i64 mt, .bool y, .slice oam psm.length capm] 61) = wa := ⟨_, rfl⟩
        have hca : Chg (fun _ => False) wr wa := by rw [← hwa]; exact (Chg.refl _ _).alloc _
        have hab : wa.heap[wr.heap.size]? = some (.cells #[.int .i64 0, .int .i64 tx, .slice oap pl.length capp, .int .i64 kd, .int .i64 f, .int .i64 t, .int .i64 mt, .bool y, .slice oam psm.length capm] 61 (0, 0)) := by rw [← hwa]; exact block_alloc_new _ _
        rw [hwa]
        clear hwa
        obtain ⟨A, hA⟩ : ∃ A, wr.heap.size = A := ⟨_, rfl⟩
        have hnA : ¬ Foot L Fc A := fun hf => by have := HT.out.all.foot A hf; omega
        rw [hA] at hab ⊢
        have f1 : wa.cell? ⟨A, 1, none⟩ = some (.int .i64 tx) := cell_of_block hab rfl
        have f2 : wa.cell? ⟨A, 2, none⟩ = some (.slice oap pl.length capp) := cell_of_block hab rfl
        have HTa := Lib.hid (HT.out.fresh hca)
        have HCa := Lib.hid (HT.out.chg.trans' hca.drew)
        have HNA := Lib.hid hnA
        have HF := Lib.hid (And.intro f1 f2)
        have hcw := HCa.out
        clear hca hab hA hnA
        refine wp_region_noPanic ?_
        refine wp_region_held_drew (S := (fun w' => w'.cell? ⟨A, 1, none⟩ = some (.int .i64 tx) ∧ w'.cell? ⟨A, 2, none⟩ = some (.slice oap pl.length capp))) (by kernel_rfl) (⟨f1, f2⟩) (fun hHeld => ?_)
        clear f1 f2
        refine take_list (i := 0) (v := ?_) rfl (by kernel_rfl) (by kernel_rfl) (by kernel_rfl) (fun _ _ _ h => h) (Or.inl ⟨by rfl, fun w hSw => ?_⟩) hHeld ?_
        rotate_left
        · (obtain ⟨hSw1, hSw2⟩ := hSw; go_simp)
          try with_reducible rfl
        simp only [Act.put, List.setIfInBounds_toArray, List.set_cons_zero, List.set_cons_succ]
        refine take_list (i := 1) (v := ?_) rfl (by kernel_rfl) (by kernel_rfl) (by kernel_rfl) (fun _ _ _ h => h) (Or.inl ⟨by rfl, fun w hSw => ?_⟩) hHeld ?_
        rotate_left
        · (obtain ⟨hSw1, hSw2⟩ := hSw; go_simp)
          try with_reducible rfl
        simp only [Act.put, List.setIfInBounds_toArray, List.set_cons_zero, List.set_cons_succ]
        refine take_list (i := 2) (v := ?_) rfl (by kernel_rfl) (by kernel_rfl) (by kernel_rfl) (fun _ _ _ h => h) (Or.inl ⟨by rfl, fun w hSw => ?_⟩) hHeld ?_
        rotate_left
        · (obtain ⟨hSw1, hSw2⟩ := hSw; go_simp)
          try with_reducible rfl
        simp only [Act.put, List.setIfInBounds_toArray, List.set_cons_zero, List.set_cons_succ]
        refine take_list (i := 3) (v := ?_) rfl (by kernel_rfl) (by kernel_rfl) (by kernel_rfl) (fun _ _ _ h => h) (Or.inl ⟨by rfl, fun w hSw => ?_⟩) hHeld ?_
        rotate_left
        · (obtain ⟨hSw1, hSw2⟩ := hSw; go_simp)
          try with_reducible rfl
        simp only [Act.put, List.setIfInBounds_toArray, List.set_cons_zero, List.set_cons_succ]
        refine take_list (i := 4) (v := ?_) rfl (by kernel_rfl) (by kernel_rfl) (by kernel_rfl) (fun _ _ _ h => h) (Or.inl ⟨by rfl, fun w hSw => ?_⟩) hHeld ?_
        rotate_left
        · (obtain ⟨hSw1, hSw2⟩ := hSw; go_simp)
          try with_reducible rfl
        simp only [Act.put, List.setIfInBounds_toArray, List.set_cons_zero, List.set_cons_succ]
        refine wpAnyH_ready (rs := [5]) (by kernel_rfl) (by simp) (one_list (i := 5) rfl (by rfl) (fun K hK => ?_) AllReadyH.nil)
        go_simp
        refine (few_gen _ oap capp pl (HPr.out.kept hcw (fun _ _ h => h)) (fun p hp => (HPo.out p hp).keptW (hcw.mono (fun _ _ h => h.elim))) HPc.out.1 HPc.out.2).mono ?_
        rintro e w5 ⟨v, rfl, ps, pk, ho, hl1, hl2, hpk, hc5⟩
        have HT5 := Lib.hid (HTa.out.fresh ((Chg.refl _ wa).drew.trans' hc5))
        have HF5 := Lib.hid (And.intro (((Chg.refl _ wa).drew.trans' hc5).cell HF.out.1 id) (((Chg.refl _ wa).drew.trans' hc5).cell HF.out.2 id))
        obtain ⟨oav, cv, rfl, -⟩ := ho.slice
        have hzz : (List.zipWith planG ps pk).length = ps.length := by rw [List.length_zipWith, hl1]; omega
        rw [hzz] at ho ⊢
        have HRow := Lib.hid (rows_of_own ho)
        have HPk := Lib.hid hpk
        have HL := Lib.hid (And.intro hl1 hl2)
        clear ho hl1 hl2 hpk hc5 hzz hcw
        dsimp only
        refine hK _ _ ⟨HF5.out.1, HF5.out.2⟩ (fun hH2 => ?_)
        try simp only [Act.put, List.setIfInBounds_toArray, List.set_cons_zero, List.set_cons_succ]
        refine wpAnyH_ready (rs := [6]) (by kernel_rfl) (by simp) (one_list (i := 6) rfl (by rfl) (fun K hK => ?_) AllReadyH.nil)
        go_simp
        refine (begin_gen _ HT5.out.all tx HIn.out ps pk HL.out.1 HL.out.2 oav cv HRow.out HPk.out).mono ?_
        rintro e w6 ⟨v6, n6, L', rfl, hA6, hl6, hF6, hc6⟩
        have HT6 := Lib.hid (HT5.out.call hc6 hA6 hF6 (k' := k + 1) (by have := HT5.out.len; omega))
        have HF6 := Lib.hid (And.intro (hc6.cell HF5.out.1 HNA.out) (hc6.cell HF5.out.2 HNA.out))
        clear hA6 hl6 hF6 hc6
        dsimp only
        refine hK _ _ ⟨HF6.out.1, HF6.out.2⟩ (fun hH3 => ?_)
        try simp only [Act.put, List.setIfInBounds_toArray, List.set_cons_zero, List.set_cons_succ]
        refine wpAnyH_done (by kernel_rfl) ?_ _
        refine NoPanic.normal ?_
        clear hHeld hH2 hH3
        go_wp2_with fail
        exact ⟨⟨k + 1, _, by go_num, by omega, h40, HT6.out⟩, meas_step h40⟩
      have hk0 : (kk == 0) = false := by simp [k0]
      by_cases k1 : kk = 1
      · subst k1
        go_wp2_with fail
        clear d0 d1 d2 d3 d4 d5 d6 d7 d8
        obtain ⟨wa, hwa⟩ : ∃ wa, wr.alloc (.cells #[.int .i64 1, .int .i64 tx, .slice oap pl.length capp, .int .i64 kd, .int .i64 f, .int .i64 t, .int .i64 mt, .bool y, .slice oam psm.length capm] 61) = wa := ⟨_, rfl⟩
        have hca : Chg (fun _ => False) wr wa := by rw [← hwa]; exact (Chg.refl _ _).alloc _
        have hab : wa.heap[wr.heap.size]? = some (.cells #[.int .i64 1, .int .i64 tx, .slice oap pl.length capp, .int .i64 kd, .int .i64 f, .int .i64 t, .int .i64 mt, .bool y, .slice oam psm.length capm] 61 (0, 0)) := by rw [← hwa]; exact block_alloc_new _ _
        rw [hwa]
        clear hwa
        obtain ⟨A, hA⟩ : ∃ A, wr.heap.size = A := ⟨_, rfl⟩
        have hnA : ¬ Foot L Fc A := fun hf => by have := HT.out.all.foot A hf; omega
        rw [hA] at hab ⊢
        have f1 : wa.cell? ⟨A, 1, none⟩ = some (.int .i64 tx) := cell_of_block hab rfl
        have f2 : wa.cell? ⟨A, 2, none⟩ = some (.slice oap pl.length capp) := cell_of_block hab rfl
        have HTa := Lib.hid (HT.out.fresh hca)
        have HCa := Lib.hid (HT.out.chg.trans' hca.drew)
        have HNA := Lib.hid hnA
        have HF := Lib.hid (And.intro f1 f2)
        have hcw := HCa.out
        clear hca hab hA hnA
        refine wp_region_noPanic ?_
        refine wp_region_held_drew (S := (fun w' => w'.cell? ⟨A, 1, none⟩ = some (.int .i64 tx) ∧ w'.cell? ⟨A, 2, none⟩ = some (.slice oap pl.length capp))) (by kernel_rfl) (⟨f1, f2⟩) (fun hHeld => ?_)
        clear f1 f2
        refine take_list (i := 0) (v := ?_) rfl (by kernel_rfl) (by kernel_rfl) (by kernel_rfl) (fun _ _ _ h => h) (Or.inl ⟨by rfl, fun w hSw => ?_⟩) hHeld ?_
        rotate_left
        · (obtain ⟨hSw1, hSw2⟩ := hSw; go_simp)
          try with_reducible rfl
        simp only [Act.put, List.setIfInBounds_toArray, List.set_cons_zero, List.set_cons_succ]
        refine take_list (i := 1) (v := ?_) rfl (by kernel_rfl) (by kernel_rfl) (by kernel_rfl) (fun _ _ _ h => h) (Or.inl ⟨by rfl, fun w hSw => ?_⟩) hHeld ?_
        rotate_left
        · (obtain ⟨hSw1, hSw2⟩ := hSw; go_simp)
          try with_reducible rfl
        simp only [Act.put, List.setIfInBounds_toArray, List.set_cons_zero, List.set_cons_succ]
        refine take_list (i := 2) (v := ?_) rfl (by kernel_rfl) (by kernel_rfl) (by kernel_rfl) (fun _ _ _ h => h) (Or.inl ⟨by rfl, fun w hSw => ?_⟩) hHeld ?_
        rotate_left
        · (obtain ⟨hSw1, hSw2⟩ := hSw; go_simp)
          try with_reducible rfl
        simp only [Act.put, List.setIfInBounds_toArray, List.set_cons_zero, List.set_cons_succ]
        refine take_list (i := 3) (v := ?_) rfl (by kernel_rfl) (by kernel_rfl) (by kernel_rfl) (fun _ _ _ h => h) (Or.inl ⟨by rfl, fun w hSw => ?_⟩) hHeld ?_
        rotate_left
        · (obtain ⟨hSw1, hSw2⟩ := hSw; go_simp)
          try with_reducible rfl
        simp only [Act.put, List.setIfInBounds_toArray, List.set_cons_zero, List.set_cons_succ]
        refine take_list (i := 4) (v := ?_) rfl (by kernel_rfl) (by kernel_rfl) (by kernel_rfl) (fun _ _ _ h => h) (Or.inl ⟨by rfl, fun w hSw => ?_⟩) hHeld ?_
        rotate_left
        · (obtain ⟨hSw1, hSw2⟩ := hSw; go_simp)
          try with_reducible rfl
        simp only [Act.put, List.setIfInBounds_toArray, List.set_cons_zero, List.set_cons_succ]
        refine wpAnyH_ready (rs := [5]) (by kernel_rfl) (by simp) (one_list (i := 5) rfl (by rfl) (fun K hK => ?_) AllReadyH.nil)
        go_simp
        refine (roots_gen _ oap capp pl (HPr.out.kept hcw (fun _ _ h => h)) (fun p hp => by obtain ⟨r, oa, cap, ps, rfl, -⟩ := (HPo.out p hp).is; exact ⟨_, _, rfl⟩)).mono ?_
        rintro e w5 ⟨v, rfl, ⟨zs, hz1, hz2⟩, hc5⟩
        have HT5 := Lib.hid (HTa.out.fresh ((Chg.refl _ wa).drew.trans' hc5))
        have HF5 := Lib.hid (And.intro (((Chg.refl _ wa).drew.trans' hc5).cell HF.out.1 id) (((Chg.refl _ wa).drew.trans' hc5).cell HF.out.2 id))
        have HZ := Lib.hid hz2
        clear hz2 hc5 hcw
        dsimp only
        refine hK _ _ ⟨HF5.out.1, HF5.out.2⟩ (fun hH2 => ?_)
        try simp only [Act.put, List.setIfInBounds_toArray, List.set_cons_zero, List.set_cons_succ]
        refine wpAnyH_ready (rs := [6]) (by kernel_rfl) (by simp) (one_list (i := 6) rfl (by rfl) (fun K hK => ?_) AllReadyH.nil)
        go_simp
        refine (recall_gen _ HT5.out.all tx HIn.out HZ.out hz1).mono ?_
        rintro e w6 ⟨v6, n6, L', rfl, hA6, hl6, hF6, hc6⟩
        have HT6 := Lib.hid (HT5.out.call hc6 hA6 hF6 (k' := k + 1) (by have := HT5.out.len; omega))
        have HF6 := Lib.hid (And.intro (hc6.cell HF5.out.1 HNA.out) (hc6.cell HF5.out.2 HNA.out))
        clear hA6 hl6 hF6 hc6
        dsimp only
        refine hK _ _ ⟨HF6.out.1, HF6.out.2⟩ (fun hH3 => ?_)
        try simp only [Act.put, List.setIfInBounds_toArray, List.set_cons_zero, List.set_cons_succ]
        refine wpAnyH_done (by kernel_rfl) ?_ _
        refine NoPanic.normal ?_
        clear hHeld hH2 hH3
        go_wp2_with fail
        exact ⟨⟨k + 1, _, by go_num, by omega, h40, HT6.out⟩, meas_step h40⟩
      have hk1' : (kk == 1) = false := by simp [k1]
      have hca := (Chg.refl (fun _ => False) wr).alloc (.cells #[.int .i64 kk, .int .i64 tx, .slice oap pl.length capp, .int .i64 kd, .int .i64 f, .int .i64 t, .int .i64 mt, .bool y, .slice oam psm.length capm] 61)
      have HTa := Lib.hid (HT.out.fresh hca)
      clear hca k0 k1
      by_cases k2 : kk = 2
      · have hk2 : (kk == 2) = true := by simp [k2]
        clear k2
        obtain ⟨ps', hps'⟩ : ∃ ps', psm.take 3 = ps' := ⟨_, rfl⟩
        have hsh := fun w (h : MsgOk w oam capm psm) => short_any w kd f t mt y oam capm psm h
        rw [hps'] at hsh
        have HSh := Lib.hid hsh
        have hmf := HMo.out.few
        rw [hps'] at hmf
        have HMf := Lib.hid hmf
        clear hsh hmf hps'
        go_wp2_with (first
          | (go_at_call 11; refine (HSh.out _ (HMo.out.keptW (HTa.out.chg.mono (fun _ _ h => h.elim)))).mono ?_; rintro e0 w5 ⟨rfl, hc5⟩; have HT5 := Lib.hid (HTa.out.fresh hc5); clear hc5)
          | (go_at_call 13; refine (take_all _ HT5.out.all kd f t mt y oam capm ps' (HMf.out.keptW (HT5.out.chg.mono (fun _ _ h => h.elim)))).mono ?_; rintro e0 w6 ⟨v6, rfl, hS6, hA6, hc6⟩; have HT6 := Lib.hid (HT5.out.call hc6 hA6 (fun b hb => Or.inl (foot_take _ _ _ _ _ _ b hb)) (k' := k + 1) (Nat.le_trans (len_take _ _ _ _ _ _ _) (Nat.le_succ_of_le HT5.out.len))); clear hS6 hA6 hc6))
        exact ⟨⟨k + 1, _, by go_num, by omega, h40, HT6.out⟩, meas_step h40⟩
      have hk2 : (kk == 2) = false := by simp [k2]
      clear k2
      by_cases k3 : kk = 3
      · have hk3 : (kk == 3) = true := by simp [k3]
        clear k3
        go_wp2_with (first
          | (go_at_call 25; refine (sure_all _ HTa.out.all tx HIn.out).mono ?_; rintro e0 w6 ⟨v6, n6, ms6, L', rfl, -, hR6, hA6, hF6, hc6⟩; have HT6 := Lib.hid (HTa.out.call hc6 hA6 hF6 (k' := k + 1) (Nat.le_trans (len_sure hR6) (Nat.le_succ_of_le HTa.out.len))); clear hR6 hA6 hF6 hc6))
        exact ⟨⟨k + 1, _, by go_num, by omega, h40, HT6.out⟩, meas_step h40⟩
      have hk3 : (kk == 3) = false := by simp [k3]
      clear k3
      by_cases k5 : kk = 5
      · have hk5 : (kk == 5) = true := by simp [k5]
        clear k5
        go_wp2_with (first
          | (go_at_call 22; refine (tick_all _ HTa.out.all (by have := HTa.out.len; omega)).mono ?_; rintro e0 w6 ⟨v6, g6, rfl, -, hA6, hc6⟩; have HT6 := Lib.hid (HTa.out.call hc6 hA6 (fun b hb => Or.inl (foot_tick b hb)) (k' := k + 1) (Nat.le_trans (len_tick _ _ _) (Nat.le_succ_of_le HTa.out.len))); clear hA6 hc6))
        exact ⟨⟨k + 1, _, by go_num, by omega, h40, HT6.out⟩, meas_step h40⟩
      have hk5 : (kk == 5) = false := by simp [k5]
      clear k5
      go_wp2_with fail
      exact ⟨⟨k + 1, _, by go_num, by omega, h40, ⟨HTa.out.all, Nat.le_succ_of_le HTa.out.len, HTa.out.msg, HTa.out.foot, HTa.out.chg⟩⟩, meas_step h40⟩
    · have hk1 : ¬ (k : Int) < 40 := by omega
      have hT := HT.out
      rw [← HMc.out] at hT
      have HTm := Lib.hid hT
      clear hT HMc HT
      obtain ⟨ps', hps'⟩ : ∃ ps', ps0.take 3 = ps' := ⟨_, rfl⟩
      have hsh := fun w (h : MsgOk w oa0 cap0 ps0) => short_any w kd0 f0 t0 tx0 y0 oa0 cap0 ps0 h
      have hmf := HMsg.out.few
      rw [hps'] at hsh hmf
      have HSh := Lib.hid hsh
      have HMf := Lib.hid hmf
      have HTw := Lib.hid (twice L kd0 f0 t0 tx0 y0 ps'.length)
      clear hsh hmf hps'
      have b0 := cell_of_block (i := 0) (show Arr wr W.heap.size 24 (msgV kd0 f0 t0 tx0 y0 (.slice oa0 ps0.length cap0)) from HTm.out.msg) rfl
      have b1 := cell_of_block (i := 1) (show Arr wr W.heap.size 24 (msgV kd0 f0 t0 tx0 y0 (.slice oa0 ps0.length cap0)) from HTm.out.msg) rfl
      have b2 := cell_of_block (i := 2) (show Arr wr W.heap.size 24 (msgV kd0 f0 t0 tx0 y0 (.slice oa0 ps0.length cap0)) from HTm.out.msg) rfl
      have b3 := cell_of_block (i := 3) (show Arr wr W.heap.size 24 (msgV kd0 f0 t0 tx0 y0 (.slice oa0 ps0.length cap0)) from HTm.out.msg) rfl
      have b4 := cell_of_block (i := 4) (show Arr wr W.heap.size 24 (msgV kd0 f0 t0 tx0 y0 (.slice oa0 ps0.length cap0)) from HTm.out.msg) rfl
      have b5 := cell_of_block (i := 5) (show Arr wr W.heap.size 24 (msgV kd0 f0 t0 tx0 y0 (.slice oa0 ps0.length cap0)) from HTm.out.msg) rfl
      go_wp2_with (first
        | (go_at_call 11; refine (HSh.out _ (HMsg.out.keptW (HTm.out.chg.mono (fun _ _ h => h.elim)))).mono ?_; rintro e0 w2 ⟨rfl, hc2⟩
           have HT2 := Lib.hid (HTm.out.fresh hc2)
           have HSt := Lib.hid (msg_to HT2.out.msg rfl kd0 f0 t0 tx0 y0 oa0 ps'.length cap0)
           clear hc2 b0 b1 b2 b3 b4 b5)
        | (refine wpList_store_mid rfl 24 _ _ rfl W.heap.size 0 (msgV kd0 f0 t0 tx0 y0 (.slice oa0 ps'.length cap0)).toArray rfl rfl HSt.out.there HSt.out.size HSt.out.one ?_; rw [List.toList_toArray]
           obtain ⟨w3, hw3⟩ : ∃ w3, w2.setCells W.heap.size 0 (msgV kd0 f0 t0 tx0 y0 (.slice oa0 ps'.length cap0)) = w3 := ⟨_, rfl⟩
           have harr := HSt.out.arr
           have hchg := HSt.out.chg
           rw [hw3] at harr hchg ⊢
           have HT3 := Lib.hid (HT2.out.moved hchg harr)
           have b0 := cell_of_block (i := 0) (show Arr w3 W.heap.size 24 (msgV kd0 f0 t0 tx0 y0 (.slice oa0 ps'.length cap0)) from HT3.out.msg) rfl
           have b1 := cell_of_block (i := 1) (show Arr w3 W.heap.size 24 (msgV kd0 f0 t0 tx0 y0 (.slice oa0 ps'.length cap0)) from HT3.out.msg) rfl
           have b2 := cell_of_block (i := 2) (show Arr w3 W.heap.size 24 (msgV kd0 f0 t0 tx0 y0 (.slice oa0 ps'.length cap0)) from HT3.out.msg) rfl
           have b3 := cell_of_block (i := 3) (show Arr w3 W.heap.size 24 (msgV kd0 f0 t0 tx0 y0 (.slice oa0 ps'.length cap0)) from HT3.out.msg) rfl
           have b4 := cell_of_block (i := 4) (show Arr w3 W.heap.size 24 (msgV kd0 f0 t0 tx0 y0 (.slice oa0 ps'.length cap0)) from HT3.out.msg) rfl
           have b5 := cell_of_block (i := 5) (show Arr w3 W.heap.size 24 (msgV kd0 f0 t0 tx0 y0 (.slice oa0 ps'.length cap0)) from HT3.out.msg) rfl
           clear harr hchg hw3 HSt)
        | (go_at_call 13; refine (take_all _ HT3.out.all kd0 f0 t0 tx0 y0 oa0 cap0 ps' (HMf.out.keptW (HT3.out.chg.mono (fun _ _ h => h.elim)))).mono ?_; rintro e0 w4 ⟨v4, rfl, -, hA4, hc4⟩
           have HT4 := Lib.hid (HT3.out.call hc4 hA4 (fun b hb => Or.inl (foot_take _ _ _ _ _ _ b hb)) (k' := k) (Nat.le_trans (len_take _ _ _ _ _ _ _) HT3.out.len))
           have c3 := cell_of_block (i := 3) HT4.out.msg rfl
           clear hA4 hc4 b0 b1 b2 b3 b4 b5))
      refine wp_region_noPanic ?_
      refine wp_region_held_drew (S := (fun w' => w'.cell? ⟨W.heap.size, 3, none⟩ = some (.int .i64 tx0))) (by kernel_rfl) (c3) (fun hHeld => ?_)
      refine take_list (i := 0) (v := ?_) rfl (by kernel_rfl) (by kernel_rfl) (by kernel_rfl) (fun _ _ _ h => h) (Or.inl ⟨by rfl, fun w hSw => ?_⟩) hHeld ?_
      rotate_left
      · (skip; go_simp)
        try with_reducible rfl
      simp only [Act.put, List.setIfInBounds_toArray, List.set_cons_zero, List.set_cons_succ]
      refine take_list (i := 2) (v := ?_) rfl (by kernel_rfl) (by kernel_rfl) (by kernel_rfl) (fun _ _ _ h => h) (Or.inl ⟨by rfl, fun w hSw => ?_⟩) hHeld ?_
      rotate_left
      · (skip; go_simp)
        try with_reducible rfl
      simp only [Act.put, List.setIfInBounds_toArray, List.set_cons_zero, List.set_cons_succ]
      refine take_list (i := 3) (v := ?_) rfl (by kernel_rfl) (by kernel_rfl) (by kernel_rfl) (fun _ _ _ h => h) (Or.inl ⟨by rfl, fun w hSw => ?_⟩) hHeld ?_
      rotate_left
      · (skip; go_simp)
        try with_reducible rfl
      simp only [Act.put, List.setIfInBounds_toArray, List.set_cons_zero, List.set_cons_succ]
      refine take_list (i := 4) (v := ?_) rfl (by kernel_rfl) (by kernel_rfl) (by kernel_rfl) (fun _ _ _ h => h) (Or.inl ⟨by rfl, fun w hSw => ?_⟩) hHeld ?_
      rotate_left
      · (skip; go_simp)
        try with_reducible rfl
      simp only [Act.put, List.setIfInBounds_toArray, List.set_cons_zero, List.set_cons_succ]
      refine take_list (i := 6) (v := ?_) rfl (by kernel_rfl) (by kernel_rfl) (by kernel_rfl) (fun _ _ _ h => h) (Or.inl ⟨by rfl, fun w hSw => ?_⟩) hHeld ?_
      rotate_left
      · (skip; go_simp)
        try with_reducible rfl
      simp only [Act.put, List.setIfInBounds_toArray, List.set_cons_zero, List.set_cons_succ]
      refine take_list (i := 7) (v := ?_) rfl (by kernel_rfl) (by kernel_rfl) (by kernel_rfl) (fun _ _ _ h => h) (Or.inl ⟨by rfl, fun w hSw => ?_⟩) hHeld ?_
      rotate_left
      · (skip; go_simp)
        try with_reducible rfl
      simp only [Act.put, List.setIfInBounds_toArray, List.set_cons_zero, List.set_cons_succ]
      refine take_list (i := 8) (v := ?_) rfl (by kernel_rfl) (by kernel_rfl) (by kernel_rfl) (fun _ _ _ h => h) (Or.inl ⟨by rfl, fun w hSw => ?_⟩) hHeld ?_
      rotate_left
      · (skip; go_simp)
        try with_reducible rfl
      simp only [Act.put, List.setIfInBounds_toArray, List.set_cons_zero, List.set_cons_succ]
      refine wpAnyH_ready (rs := [1]) (by kernel_rfl) (by simp) (one_list (i := 1) rfl (by rfl) (fun K hK => ?_) AllReadyH.nil)
      go_simp
      refine (open_any _ (HT4.out.fresh (Chg.refl _ _).drew).all.co (by have := HT4.out.len; rw [List.length_map]; omega)).mono ?_
      rintro e w5 ⟨v5, rfl, ho5, hc5⟩
      have HT5 := Lib.hid ((HT4.out.fresh (Chg.refl _ _).drew).fresh hc5)
      have HO5 := Lib.hid ho5
      have HSz5 := Lib.hid (show w4.heap.size ≤ w5.heap.size from hc5.size)
      clear ho5 hc5
      dsimp only
      refine hK _ _ (cell_of_block (i := 3) HT5.out.msg rfl) (fun hH2 => ?_)
      try simp only [Act.put, List.setIfInBounds_toArray, List.set_cons_zero, List.set_cons_succ]
      refine wpAnyH_ready (rs := [5]) (by kernel_rfl) (by simp) (one_list (i := 5) rfl (by rfl) (fun K hK => ?_) AllReadyH.nil)
      go_simp
      refine (state_all _ HT5.out.all tx0 HR.out).mono ?_
      rintro e w6 ⟨rfl, rfl⟩
      dsimp only
      refine hK _ _ (cell_of_block (i := 3) HT5.out.msg rfl) (fun hH3 => ?_)
      try simp only [Act.put, List.setIfInBounds_toArray, List.set_cons_zero, List.set_cons_succ]
      refine wpAnyH_ready (rs := [9]) (by kernel_rfl) (by simp) (one_list (i := 9) rfl (by rfl) (fun K hK => ?_) AllReadyH.nil)
      go_simp
      refine (lacks_at _ HT5.out.all tx0 HR.out).mono ?_
      rintro e w7 ⟨v7, n7, rfl, hl7, hc7⟩
      have HT7 := Lib.hid (HT5.out.fresh hc7)
      have HO7 := Lib.hid (row_kept HO5.out hc7 (fun _ _ h => h))
      have HL7 := Lib.hid hl7
      clear hl7 hc7
      dsimp only
      refine hK _ _ (cell_of_block (i := 3) HT7.out.msg rfl) (fun hH4 => ?_)
      try simp only [Act.put, List.setIfInBounds_toArray, List.set_cons_zero, List.set_cons_succ]
      refine take_list (i := 10) (v := ?_) rfl (by kernel_rfl) (by kernel_rfl) (by kernel_rfl) (fun _ _ _ h => h) (Or.inl ⟨by rfl, fun w hSw => ?_⟩) hH4 ?_
      rotate_left
      · (skip; go_simp)
        try with_reducible rfl
      simp only [Act.put, List.setIfInBounds_toArray, List.set_cons_zero, List.set_cons_succ]
      refine take_list (i := 11) (v := ?_) rfl (by kernel_rfl) (by kernel_rfl) (by kernel_rfl) (fun _ _ _ h => h) (Or.inl ⟨by rfl, fun w hSw => ?_⟩) hH4 ?_
      rotate_left
      · (skip; go_simp)
        try with_reducible rfl
      simp only [Act.put, List.setIfInBounds_toArray, List.set_cons_zero, List.set_cons_succ]
      refine take_list (i := 12) (v := ?_) rfl (by kernel_rfl) (by kernel_rfl) (by kernel_rfl) (fun _ _ _ h => h) (Or.inl ⟨by rfl, fun w hSw => ?_⟩) hH4 ?_
      rotate_left
      · (skip; go_simp)
        try with_reducible rfl
      simp only [Act.put, List.setIfInBounds_toArray, List.set_cons_zero, List.set_cons_succ]
      refine wpAnyH_done (by kernel_rfl) ?_ _
      refine NoPanic.normal ?_
      clear hHeld hH2 hH3 hH4 c3
      have b0 := cell_of_block (i := 0) (show Arr w7 W.heap.size 24 (msgV kd0 f0 t0 tx0 y0 (.slice oa0 ps'.length cap0)) from HT7.out.msg) rfl
      have b1 := cell_of_block (i := 1) (show Arr w7 W.heap.size 24 (msgV kd0 f0 t0 tx0 y0 (.slice oa0 ps'.length cap0)) from HT7.out.msg) rfl
      have b2 := cell_of_block (i := 2) (show Arr w7 W.heap.size 24 (msgV kd0 f0 t0 tx0 y0 (.slice oa0 ps'.length cap0)) from HT7.out.msg) rfl
      have b3 := cell_of_block (i := 3) (show Arr w7 W.heap.size 24 (msgV kd0 f0 t0 tx0 y0 (.slice oa0 ps'.length cap0)) from HT7.out.msg) rfl
      have b4 := cell_of_block (i := 4) (show Arr w7 W.heap.size 24 (msgV kd0 f0 t0 tx0 y0 (.slice oa0 ps'.length cap0)) from HT7.out.msg) rfl
      have b5 := cell_of_block (i := 5) (show Arr w7 W.heap.size 24 (msgV kd0 f0 t0 tx0 y0 (.slice oa0 ps'.length cap0)) from HT7.out.msg) rfl
      go_wp2_with (first
        | (go_at_call 13; fail))
      refine (take_all _ HT7.out.all kd0 f0 t0 tx0 y0 oa0 cap0 ps' (HMf.out.keptW (HT7.out.chg.mono (fun _ _ h => h.elim)))).mono ?_
      rintro e w8 ⟨v8, rfl, hS8, hA8, hc8⟩
      rw [HTw.out.lg, HTw.out.cl, HTw.out.gn] at hS8
      obtain ⟨oaS, capS, T, rfl, hrows, hTms, -, -⟩ := hS8.is
      have HT8 := Lib.hid (HT7.out.call hc8 hA8 (fun b hb => Or.inl (foot_take _ _ _ _ _ _ b hb)) (k' := k) (Nat.le_trans (len_take _ _ _ _ _ _ _) HT7.out.len))
      have HO8 := Lib.hid (row_kept HO7.out hc8 (fun g hg hf => by
        have h1 : w4.heap.size ≤ g := (HO7.out.lt g hg).1
        have := HT4.out.all.foot g hf
        omega))
      have HL8 := Lib.hid (row_kept HL7.out hc8 (fun g hg hf => by
        have h1 : w5.heap.size ≤ g := (HL7.out.lt g hg).1
        have := HT4.out.all.foot g hf
        have := HSz5.out
        omega))
      clear hS8 hA8 hc8 b0 b1 b2 b3 b4 b5
      dsimp only
      rcases HTw.out.ms with hms | ⟨kx, hms⟩
      · rw [hms] at hTms
        have hT0 : T = [] := by simpa using hTms
        subst hT0
        have h01 : ((0 : Int) == 1) = false := rfl
        have h02 : (((0 : Nat) : Int) == 1) = false := rfl
        go_wp2_with fail
        have hca9 : Chg (fun _ => False) w8 (w8.alloc (.cells #[.slice oaS 0 capS, .int .i64 0, .int .i64 0, .int .i64 0] 36)) := (Chg.refl _ _).alloc _
        have hbs := block_alloc_new w8 (.cells #[.slice oaS 0 capS, .int .i64 0, .int .i64 0, .int .i64 0] 36)
        obtain ⟨w9, hw9⟩ : ∃ w9, w8.alloc (.cells #[.slice oaS 0 capS, .int .i64 0, .int .i64 0, .int .i64 0] 36) = w9 := ⟨_, rfl⟩
        rw [hw9] at hca9 hbs ⊢
        clear hw9
        have HT9 := Lib.hid (HT8.out.fresh hca9)
        have g0 := cell_of_block (i := 0) hbs rfl
        have g1 := cell_of_block (i := 1) hbs rfl
        have g2 := cell_of_block (i := 2) hbs rfl
        have g3 := cell_of_block (i := 3) hbs rfl
        have gf : w9.cell? ⟨W.heap.size, 1, none⟩ = some (.int .i64 f0) := cell_of_block (i := 1) HT9.out.msg rfl
        have gr : ∀ w', Chg (fun _ => False) w9 w' → True := fun w' hc => by exact trivial
        have hch : Chg (fun _ => False) w9 w9.drew := (Chg.refl _ _).drew
        have hrr := gr _ hch
        clear hbs
        have q0 : ∀ n : FreshW w9, n.val.cell? ⟨w8.heap.size, 0, none⟩ = some (.slice oaS 0 capS) := fun n => n.chg.cell g0 id
        have q1 : ∀ n : FreshW w9, n.val.cell? ⟨w8.heap.size, 1, none⟩ = some (.int .i64 0) := fun n => n.chg.cell g1 id
        have q2 : ∀ n : FreshW w9, n.val.cell? ⟨w8.heap.size, 2, none⟩ = some (.int .i64 0) := fun n => n.chg.cell g2 id
        have q3 : ∀ n : FreshW w9, n.val.cell? ⟨w8.heap.size, 3, none⟩ = some (.int .i64 0) := fun n => n.chg.cell g3 id
        have qf : ∀ n : FreshW w9, n.val.cell? ⟨W.heap.size, 1, none⟩ = some (.int .i64 f0) := fun n => n.chg.cell gf id
        have qr : ∀ n : FreshW w9, (fun w' => True) n.val := fun n => gr _ n.chg
        dsimp only at qr
        clear g0 g1 g2 g3 gf gr hch hrr
        refine wp_region_fresh (by kernel_rfl) (by kernel_rfl) ?_
        repeat (go_big_quiet_step (fail))
        refine wpQuiet_nil ?_
        rintro _ ⟨n10, rfl⟩
        have HT10 := Lib.hid (HT9.out.fresh n10.chg)
        have HO10 := Lib.hid (row_kept (row_kept HO8.out hca9 (fun _ _ h => h)) n10.chg (fun _ _ h => h))
        have HL10 := Lib.hid (row_kept (row_kept HL8.out hca9 (fun _ _ h => h)) n10.chg (fun _ _ h => h))
        clear hca9
        go_wp2_with (first
          | (go_at_call 17; refine (open_any _ HT10.out.all.co (by have := HT10.out.len; rw [List.length_map]; omega)).mono ?_; rintro e0 w11 ⟨v11, rfl, ho11, hc11⟩
             rw [HTw.out.keys] at ho11
             have HT11 := Lib.hid (HT10.out.fresh hc11)
             have HX11 := Lib.hid (SlAt.of_own ho11)
             have HO11 := Lib.hid (SlAt.of_own (row_kept HO10.out hc11 (fun _ _ h => h)))
             have HL11 := Lib.hid (row_kept HL10.out hc11 (fun _ _ h => h))
             clear ho11 hc11)
          | (go_at_call 15; refine (state_all _ HT12.out.all tx0 HR.out).mono ?_; rintro e0 w13 ⟨rfl, rfl⟩
             have hst := HTw.out.st
             unfold stateAt at hst
             rw [hst]
             clear hst)
          | (go_at_call 26; refine (lacks_at _ HT12.out.all tx0 HR.out).mono ?_; rintro e0 w14 ⟨v14, n14, rfl, hl14, hc14⟩
             rw [HTw.out.lk] at hl14
             have HT14 := Lib.hid (HT12.out.fresh hc14)
             have HX14 := Lib.hid (SlAt.of_own hl14)
             have HL14 := Lib.hid (SlAt.of_own (row_kept HL12.out hc14 (fun _ _ h => h)))
             clear hl14 hc14)
          | (go_at_call 16; refine (same_numbers _ HX14.out HL14.out (lacks_len HT4.out.all tx0)).mono ?_; rw [decide_eq_true rfl]; rintro e0 w15 ⟨rfl, hc15⟩
             have HT15 := Lib.hid (HT14.out.fresh hc15)
             clear hc15)
          | (go_at_call 16; refine (same_numbers _ HX11.out HO11.out (by have := HT4.out.len; rw [asc_len, List.length_map, List.length_map]; omega)).mono ?_; rw [decide_eq_true rfl]; rintro e0 w12 ⟨rfl, hc12⟩
             have HT12 := Lib.hid (HT11.out.fresh hc12)
             have HL12 := Lib.hid (row_kept HL11.out hc12 (fun _ _ h => h))
             have k3 : w12.cell? ⟨W.heap.size, 3, none⟩ = some (.int .i64 tx0) := cell_of_block (i := 3) HT12.out.msg rfl
             clear hc12)
          | (go_at_call 18; refine (works_any _).mono ?_; rintro e0 w16 ⟨rfl, hc16⟩
             have HT16 := Lib.hid (HT15.out.fresh hc16)
             clear hc16))
        go_ret
        exact ⟨rfl, HT16.out.chg⟩
      · rw [hms] at hTms
        obtain ⟨pv, hT0⟩ : ∃ pv, T = [((kx, f0), pv)] := by
          match T, hTms with
          | [(a, pv)], h => simp only [List.map_cons, List.map_nil, List.cons.injEq, and_true] at h; exact ⟨pv, by rw [h]⟩
          | [], h => simp at h
          | _ :: _ :: _, h => simp at h
        subst hT0
        obtain ⟨bS, oS, rfl⟩ := hrows.spot (by simp)
        have hto : w8.cell? ⟨bS, oS + 2, none⟩ = some (.int .i64 f0) := by
          have := hrows.cell bS oS rfl 0 _ 2 _ rfl rfl
          simpa using this
        have hff : (f0 != f0) = false := by simp
        go_wp2_with fail
        have hca9 : Chg (fun _ => False) w8 (w8.alloc (.cells #[.slice (some ⟨bS, oS, none⟩) 1 capS, .int .i64 0, .int .i64 0, .int .i64 0] 36)) := (Chg.refl _ _).alloc _
        have hbs := block_alloc_new w8 (.cells #[.slice (some ⟨bS, oS, none⟩) 1 capS, .int .i64 0, .int .i64 0, .int .i64 0] 36)
        obtain ⟨w9, hw9⟩ : ∃ w9, w8.alloc (.cells #[.slice (some ⟨bS, oS, none⟩) 1 capS, .int .i64 0, .int .i64 0, .int .i64 0] 36) = w9 := ⟨_, rfl⟩
        rw [hw9] at hca9 hbs ⊢
        clear hw9
        have HT9 := Lib.hid (HT8.out.fresh hca9)
        have g0 := cell_of_block (i := 0) hbs rfl
        have g1 := cell_of_block (i := 1) hbs rfl
        have g2 := cell_of_block (i := 2) hbs rfl
        have g3 := cell_of_block (i := 3) hbs rfl
        have gf : w9.cell? ⟨W.heap.size, 1, none⟩ = some (.int .i64 f0) := cell_of_block (i := 1) HT9.out.msg rfl
        have gr : ∀ w', Chg (fun _ => False) w9 w' → w'.cell? ⟨bS, oS + 2, none⟩ = some (.int .i64 f0) := fun w' hc => by exact (hca9.trans' hc).cell hto id
        have hch : Chg (fun _ => False) w9 w9.drew := (Chg.refl _ _).drew
        have hrr := gr _ hch
        clear hbs
        have q0 : ∀ n : FreshW w9, n.val.cell? ⟨w8.heap.size, 0, none⟩ = some (.slice (some ⟨bS, oS, none⟩) 1 capS) := fun n => n.chg.cell g0 id
        have q1 : ∀ n : FreshW w9, n.val.cell? ⟨w8.heap.size, 1, none⟩ = some (.int .i64 0) := fun n => n.chg.cell g1 id
        have q2 : ∀ n : FreshW w9, n.val.cell? ⟨w8.heap.size, 2, none⟩ = some (.int .i64 0) := fun n => n.chg.cell g2 id
        have q3 : ∀ n : FreshW w9, n.val.cell? ⟨w8.heap.size, 3, none⟩ = some (.int .i64 0) := fun n => n.chg.cell g3 id
        have qf : ∀ n : FreshW w9, n.val.cell? ⟨W.heap.size, 1, none⟩ = some (.int .i64 f0) := fun n => n.chg.cell gf id
        have qr : ∀ n : FreshW w9, (fun w' => w'.cell? ⟨bS, oS + 2, none⟩ = some (.int .i64 f0)) n.val := fun n => gr _ n.chg
        dsimp only at qr
        clear g0 g1 g2 g3 gf gr hch hrr
        refine wp_region_fresh (by kernel_rfl) (by kernel_rfl) ?_
        repeat (go_big_quiet_step (fail))
        refine wpQuiet_nil ?_
        rintro _ ⟨n10, rfl⟩
        have HT10 := Lib.hid (HT9.out.fresh n10.chg)
        have HO10 := Lib.hid (row_kept (row_kept HO8.out hca9 (fun _ _ h => h)) n10.chg (fun _ _ h => h))
        have HL10 := Lib.hid (row_kept (row_kept HL8.out hca9 (fun _ _ h => h)) n10.chg (fun _ _ h => h))
        clear hca9
        go_wp2_with (first
          | (go_at_call 17; refine (open_any _ HT10.out.all.co (by have := HT10.out.len; rw [List.length_map]; omega)).mono ?_; rintro e0 w11 ⟨v11, rfl, ho11, hc11⟩
             rw [HTw.out.keys] at ho11
             have HT11 := Lib.hid (HT10.out.fresh hc11)
             have HX11 := Lib.hid (SlAt.of_own ho11)
             have HO11 := Lib.hid (SlAt.of_own (row_kept HO10.out hc11 (fun _ _ h => h)))
             have HL11 := Lib.hid (row_kept HL10.out hc11 (fun _ _ h => h))
             clear ho11 hc11)
          | (go_at_call 15; refine (state_all _ HT12.out.all tx0 HR.out).mono ?_; rintro e0 w13 ⟨rfl, rfl⟩
             have hst := HTw.out.st
             unfold stateAt at hst
             rw [hst]
             clear hst)
          | (go_at_call 26; refine (lacks_at _ HT12.out.all tx0 HR.out).mono ?_; rintro e0 w14 ⟨v14, n14, rfl, hl14, hc14⟩
             rw [HTw.out.lk] at hl14
             have HT14 := Lib.hid (HT12.out.fresh hc14)
             have HX14 := Lib.hid (SlAt.of_own hl14)
             have HL14 := Lib.hid (SlAt.of_own (row_kept HL12.out hc14 (fun _ _ h => h)))
             clear hl14 hc14)
          | (go_at_call 16; refine (same_numbers _ HX14.out HL14.out (lacks_len HT4.out.all tx0)).mono ?_; rw [decide_eq_true rfl]; rintro e0 w15 ⟨rfl, hc15⟩
             have HT15 := Lib.hid (HT14.out.fresh hc15)
             clear hc15)
          | (go_at_call 16; refine (same_numbers _ HX11.out HO11.out (by have := HT4.out.len; rw [asc_len, List.length_map, List.length_map]; omega)).mono ?_; rw [decide_eq_true rfl]; rintro e0 w12 ⟨rfl, hc12⟩
             have HT12 := Lib.hid (HT11.out.fresh hc12)
             have HL12 := Lib.hid (row_kept HL11.out hc12 (fun _ _ h => h))
             have k3 : w12.cell? ⟨W.heap.size, 3, none⟩ = some (.int .i64 tx0) := cell_of_block (i := 3) HT12.out.msg rfl
             clear hc12)
          | (go_at_call 18; refine (works_any _).mono ?_; rintro e0 w16 ⟨rfl, hc16⟩
             have HT16 := Lib.hid (HT15.out.fresh hc16)
             clear hc16))
        go_ret
        exact ⟨rfl, HT16.out.chg⟩
  · have hki : ¬ (k : Int) < (acts.length : Int) := by omega
    have hT := HT.out
    rw [← HMc.out] at hT
    have HTm := Lib.hid hT
    clear hT HMc HT
    obtain ⟨ps', hps'⟩ : ∃ ps', ps0.take 3 = ps' := ⟨_, rfl⟩
    have hsh := fun w (h : MsgOk w oa0 cap0 ps0) => short_any w kd0 f0 t0 tx0 y0 oa0 cap0 ps0 h
    have hmf := HMsg.out.few
    rw [hps'] at hsh hmf
    have HSh := Lib.hid hsh
    have HMf := Lib.hid hmf
    have HTw := Lib.hid (twice L kd0 f0 t0 tx0 y0 ps'.length)
    clear hsh hmf hps'
    have b0 := cell_of_block (i := 0) (show Arr wr W.heap.size 24 (msgV kd0 f0 t0 tx0 y0 (.slice oa0 ps0.length cap0)) from HTm.out.msg) rfl
    have b1 := cell_of_block (i := 1) (show Arr wr W.heap.size 24 (msgV kd0 f0 t0 tx0 y0 (.slice oa0 ps0.length cap0)) from HTm.out.msg) rfl
    have b2 := cell_of_block (i := 2) (show Arr wr W.heap.size 24 (msgV kd0 f0 t0 tx0 y0 (.slice oa0 ps0.length cap0)) from HTm.out.msg) rfl
    have b3 := cell_of_block (i := 3) (show Arr wr W.heap.size 24 (msgV kd0 f0 t0 tx0 y0 (.slice oa0 ps0.length cap0)) from HTm.out.msg) rfl
    have b4 := cell_of_block (i := 4) (show Arr wr W.heap.size 24 (msgV kd0 f0 t0 tx0 y0 (.slice oa0 ps0.length cap0)) from HTm.out.msg) rfl
    have b5 := cell_of_block (i := 5) (show Arr wr W.heap.size 24 (msgV kd0 f0 t0 tx0 y0 (.slice oa0 ps0.length cap0)) from HTm.out.msg) rfl
    go_wp2_with (first
      | (go_at_call 11; refine (HSh.out _ (HMsg.out.keptW (HTm.out.chg.mono (fun _ _ h => h.elim)))).mono ?_; rintro e0 w2 ⟨rfl, hc2⟩
         have HT2 := Lib.hid (HTm.out.fresh hc2)
         have HSt := Lib.hid (msg_to HT2.out.msg rfl kd0 f0 t0 tx0 y0 oa0 ps'.length cap0)
         clear hc2 b0 b1 b2 b3 b4 b5)
      | (refine wpList_store_mid rfl 24 _ _ rfl W.heap.size 0 (msgV kd0 f0 t0 tx0 y0 (.slice oa0 ps'.length cap0)).toArray rfl rfl HSt.out.there HSt.out.size HSt.out.one ?_; rw [List.toList_toArray]
         obtain ⟨w3, hw3⟩ : ∃ w3, w2.setCells W.heap.size 0 (msgV kd0 f0 t0 tx0 y0 (.slice oa0 ps'.length cap0)) = w3 := ⟨_, rfl⟩
         have harr := HSt.out.arr
         have hchg := HSt.out.chg
         rw [hw3] at harr hchg ⊢
         have HT3 := Lib.hid (HT2.out.moved hchg harr)
         have b0 := cell_of_block (i := 0) (show Arr w3 W.heap.size 24 (msgV kd0 f0 t0 tx0 y0 (.slice oa0 ps'.length cap0)) from HT3.out.msg) rfl
         have b1 := cell_of_block (i := 1) (show Arr w3 W.heap.size 24 (msgV kd0 f0 t0 tx0 y0 (.slice oa0 ps'.length cap0)) from HT3.out.msg) rfl
         have b2 := cell_of_block (i := 2) (show Arr w3 W.heap.size 24 (msgV kd0 f0 t0 tx0 y0 (.slice oa0 ps'.length cap0)) from HT3.out.msg) rfl
         have b3 := cell_of_block (i := 3) (show Arr w3 W.heap.size 24 (msgV kd0 f0 t0 tx0 y0 (.slice oa0 ps'.length cap0)) from HT3.out.msg) rfl
         have b4 := cell_of_block (i := 4) (show Arr w3 W.heap.size 24 (msgV kd0 f0 t0 tx0 y0 (.slice oa0 ps'.length cap0)) from HT3.out.msg) rfl
         have b5 := cell_of_block (i := 5) (show Arr w3 W.heap.size 24 (msgV kd0 f0 t0 tx0 y0 (.slice oa0 ps'.length cap0)) from HT3.out.msg) rfl
         clear harr hchg hw3 HSt)
      | (go_at_call 13; refine (take_all _ HT3.out.all kd0 f0 t0 tx0 y0 oa0 cap0 ps' (HMf.out.keptW (HT3.out.chg.mono (fun _ _ h => h.elim)))).mono ?_; rintro e0 w4 ⟨v4, rfl, -, hA4, hc4⟩
         have HT4 := Lib.hid (HT3.out.call hc4 hA4 (fun b hb => Or.inl (foot_take _ _ _ _ _ _ b hb)) (k' := k) (Nat.le_trans (len_take _ _ _ _ _ _ _) HT3.out.len))
         have c3 := cell_of_block (i := 3) HT4.out.msg rfl
         clear hA4 hc4 b0 b1 b2 b3 b4 b5))
    refine wp_region_noPanic ?_
    refine wp_region_held_drew (S := (fun w' => w'.cell? ⟨W.heap.size, 3, none⟩ = some (.int .i64 tx0))) (by kernel_rfl) (c3) (fun hHeld => ?_)
    refine take_list (i := 0) (v := ?_) rfl (by kernel_rfl) (by kernel_rfl) (by kernel_rfl) (fun _ _ _ h => h) (Or.inl ⟨by rfl, fun w hSw => ?_⟩) hHeld ?_
    rotate_left
    · (skip; go_simp)
      try with_reducible rfl
    simp only [Act.put, List.setIfInBounds_toArray, List.set_cons_zero, List.set_cons_succ]
    refine take_list (i := 2) (v := ?_) rfl (by kernel_rfl) (by kernel_rfl) (by kernel_rfl) (fun _ _ _ h => h) (Or.inl ⟨by rfl, fun w hSw => ?_⟩) hHeld ?_
    rotate_left
    · (skip; go_simp)
      try with_reducible rfl
    simp only [Act.put, List.setIfInBounds_toArray, List.set_cons_zero, List.set_cons_succ]
    refine take_list (i := 3) (v := ?_) rfl (by kernel_rfl) (by kernel_rfl) (by kernel_rfl) (fun _ _ _ h => h) (Or.inl ⟨by rfl, fun w hSw => ?_⟩) hHeld ?_
    rotate_left
    · (skip; go_simp)
      try with_reducible rfl
    simp only [Act.put, List.setIfInBounds_toArray, List.set_cons_zero, List.set_cons_succ]
    refine take_list (i := 4) (v := ?_) rfl (by kernel_rfl) (by kernel_rfl) (by kernel_rfl) (fun _ _ _ h => h) (Or.inl ⟨by rfl, fun w hSw => ?_⟩) hHeld ?_
    rotate_left
    · (skip; go_simp)
      try with_reducible rfl
    simp only [Act.put, List.setIfInBounds_toArray, List.set_cons_zero, List.set_cons_succ]
    refine take_list (i := 6) (v := ?_) rfl (by kernel_rfl) (by kernel_rfl) (by kernel_rfl) (fun _ _ _ h => h) (Or.inl ⟨by rfl, fun w hSw => ?_⟩) hHeld ?_
    rotate_left
    · (skip; go_simp)
      try with_reducible rfl
    simp only [Act.put, List.setIfInBounds_toArray, List.set_cons_zero, List.set_cons_succ]
    refine take_list (i := 7) (v := ?_) rfl (by kernel_rfl) (by kernel_rfl) (by kernel_rfl) (fun _ _ _ h => h) (Or.inl ⟨by rfl, fun w hSw => ?_⟩) hHeld ?_
    rotate_left
    · (skip; go_simp)
      try with_reducible rfl
    simp only [Act.put, List.setIfInBounds_toArray, List.set_cons_zero, List.set_cons_succ]
    refine take_list (i := 8) (v := ?_) rfl (by kernel_rfl) (by kernel_rfl) (by kernel_rfl) (fun _ _ _ h => h) (Or.inl ⟨by rfl, fun w hSw => ?_⟩) hHeld ?_
    rotate_left
    · (skip; go_simp)
      try with_reducible rfl
    simp only [Act.put, List.setIfInBounds_toArray, List.set_cons_zero, List.set_cons_succ]
    refine wpAnyH_ready (rs := [1]) (by kernel_rfl) (by simp) (one_list (i := 1) rfl (by rfl) (fun K hK => ?_) AllReadyH.nil)
    go_simp
    refine (open_any _ (HT4.out.fresh (Chg.refl _ _).drew).all.co (by have := HT4.out.len; rw [List.length_map]; omega)).mono ?_
    rintro e w5 ⟨v5, rfl, ho5, hc5⟩
    have HT5 := Lib.hid ((HT4.out.fresh (Chg.refl _ _).drew).fresh hc5)
    have HO5 := Lib.hid ho5
    have HSz5 := Lib.hid (show w4.heap.size ≤ w5.heap.size from hc5.size)
    clear ho5 hc5
    dsimp only
    refine hK _ _ (cell_of_block (i := 3) HT5.out.msg rfl) (fun hH2 => ?_)
    try simp only [Act.put, List.setIfInBounds_toArray, List.set_cons_zero, List.set_cons_succ]
    refine wpAnyH_ready (rs := [5]) (by kernel_rfl) (by simp) (one_list (i := 5) rfl (by rfl) (fun K hK => ?_) AllReadyH.nil)
    go_simp
    refine (state_all _ HT5.out.all tx0 HR.out).mono ?_
    rintro e w6 ⟨rfl, rfl⟩
    dsimp only
    refine hK _ _ (cell_of_block (i := 3) HT5.out.msg rfl) (fun hH3 => ?_)
    try simp only [Act.put, List.setIfInBounds_toArray, List.set_cons_zero, List.set_cons_succ]
    refine wpAnyH_ready (rs := [9]) (by kernel_rfl) (by simp) (one_list (i := 9) rfl (by rfl) (fun K hK => ?_) AllReadyH.nil)
    go_simp
    refine (lacks_at _ HT5.out.all tx0 HR.out).mono ?_
    rintro e w7 ⟨v7, n7, rfl, hl7, hc7⟩
    have HT7 := Lib.hid (HT5.out.fresh hc7)
    have HO7 := Lib.hid (row_kept HO5.out hc7 (fun _ _ h => h))
    have HL7 := Lib.hid hl7
    clear hl7 hc7
    dsimp only
    refine hK _ _ (cell_of_block (i := 3) HT7.out.msg rfl) (fun hH4 => ?_)
    try simp only [Act.put, List.setIfInBounds_toArray, List.set_cons_zero, List.set_cons_succ]
    refine take_list (i := 10) (v := ?_) rfl (by kernel_rfl) (by kernel_rfl) (by kernel_rfl) (fun _ _ _ h => h) (Or.inl ⟨by rfl, fun w hSw => ?_⟩) hH4 ?_
    rotate_left
    · (skip; go_simp)
      try with_reducible rfl
    simp only [Act.put, List.setIfInBounds_toArray, List.set_cons_zero, List.set_cons_succ]
    refine take_list (i := 11) (v := ?_) rfl (by kernel_rfl) (by kernel_rfl) (by kernel_rfl) (fun _ _ _ h => h) (Or.inl ⟨by rfl, fun w hSw => ?_⟩) hH4 ?_
    rotate_left
    · (skip; go_simp)
      try with_reducible rfl
    simp only [Act.put, List.setIfInBounds_toArray, List.set_cons_zero, List.set_cons_succ]
    refine take_list (i := 12) (v := ?_) rfl (by kernel_rfl) (by kernel_rfl) (by kernel_rfl) (fun _ _ _ h => h) (Or.inl ⟨by rfl, fun w hSw => ?_⟩) hH4 ?_
    rotate_left
    · (skip; go_simp)
      try with_reducible rfl
    simp only [Act.put, List.setIfInBounds_toArray, List.set_cons_zero, List.set_cons_succ]
    refine wpAnyH_done (by kernel_rfl) ?_ _
    refine NoPanic.normal ?_
    clear hHeld hH2 hH3 hH4 c3
    have b0 := cell_of_block (i := 0) (show Arr w7 W.heap.size 24 (msgV kd0 f0 t0 tx0 y0 (.slice oa0 ps'.length cap0)) from HT7.out.msg) rfl
    have b1 := cell_of_block (i := 1) (show Arr w7 W.heap.size 24 (msgV kd0 f0 t0 tx0 y0 (.slice oa0 ps'.length cap0)) from HT7.out.msg) rfl
    have b2 := cell_of_block (i := 2) (show Arr w7 W.heap.size 24 (msgV kd0 f0 t0 tx0 y0 (.slice oa0 ps'.length cap0)) from HT7.out.msg) rfl
    have b3 := cell_of_block (i := 3) (show Arr w7 W.heap.size 24 (msgV kd0 f0 t0 tx0 y0 (.slice oa0 ps'.length cap0)) from HT7.out.msg) rfl
    have b4 := cell_of_block (i := 4) (show Arr w7 W.heap.size 24 (msgV kd0 f0 t0 tx0 y0 (.slice oa0 ps'.length cap0)) from HT7.out.msg) rfl
    have b5 := cell_of_block (i := 5) (show Arr w7 W.heap.size 24 (msgV kd0 f0 t0 tx0 y0 (.slice oa0 ps'.length cap0)) from HT7.out.msg) rfl
    go_wp2_with (first
      | (go_at_call 13; fail))
    refine (take_all _ HT7.out.all kd0 f0 t0 tx0 y0 oa0 cap0 ps' (HMf.out.keptW (HT7.out.chg.mono (fun _ _ h => h.elim)))).mono ?_
    rintro e w8 ⟨v8, rfl, hS8, hA8, hc8⟩
    rw [HTw.out.lg, HTw.out.cl, HTw.out.gn] at hS8
    obtain ⟨oaS, capS, T, rfl, hrows, hTms, -, -⟩ := hS8.is
    have HT8 := Lib.hid (HT7.out.call hc8 hA8 (fun b hb => Or.inl (foot_take _ _ _ _ _ _ b hb)) (k' := k) (Nat.le_trans (len_take _ _ _ _ _ _ _) HT7.out.len))
    have HO8 := Lib.hid (row_kept HO7.out hc8 (fun g hg hf => by
      have h1 : w4.heap.size ≤ g := (HO7.out.lt g hg).1
      have := HT4.out.all.foot g hf
      omega))
    have HL8 := Lib.hid (row_kept HL7.out hc8 (fun g hg hf => by
      have h1 : w5.heap.size ≤ g := (HL7.out.lt g hg).1
      have := HT4.out.all.foot g hf
      have := HSz5.out
      omega))
    clear hS8 hA8 hc8 b0 b1 b2 b3 b4 b5
    dsimp only
    rcases HTw.out.ms with hms | ⟨kx, hms⟩
    · rw [hms] at hTms
      have hT0 : T = [] := by simpa using hTms
      subst hT0
      have h01 : ((0 : Int) == 1) = false := rfl
      have h02 : (((0 : Nat) : Int) == 1) = false := rfl
      go_wp2_with fail
      have hca9 : Chg (fun _ => False) w8 (w8.alloc (.cells #[.slice oaS 0 capS, .int .i64 0, .int .i64 0, .int .i64 0] 36)) := (Chg.refl _ _).alloc _
      have hbs := block_alloc_new w8 (.cells #[.slice oaS 0 capS, .int .i64 0, .int .i64 0, .int .i64 0] 36)
      obtain ⟨w9, hw9⟩ : ∃ w9, w8.alloc (.cells #[.slice oaS 0 capS, .int .i64 0, .int .i64 0, .int .i64 0] 36) = w9 := ⟨_, rfl⟩
      rw [hw9] at hca9 hbs ⊢
      clear hw9
      have HT9 := Lib.hid (HT8.out.fresh hca9)
      have g0 := cell_of_block (i := 0) hbs rfl
      have g1 := cell_of_block (i := 1) hbs rfl
      have g2 := cell_of_block (i := 2) hbs rfl
      have g3 := cell_of_block (i := 3) hbs rfl
      have gf : w9.cell? ⟨W.heap.size, 1, none⟩ = some (.int .i64 f0) := cell_of_block (i := 1) HT9.out.msg rfl
      have gr : ∀ w', Chg (fun _ => False) w9 w' → True := fun w' hc => by exact trivial
      have hch : Chg (fun _ => False) w9 w9.drew := (Chg.refl _ _).drew
      have hrr := gr _ hch
      clear hbs
      have q0 : ∀ n : FreshW w9, n.val.cell? ⟨w8.heap.size, 0, none⟩ = some (.slice oaS 0 capS) := fun n => n.chg.cell g0 id
      have q1 : ∀ n : FreshW w9, n.val.cell? ⟨w8.heap.size, 1, none⟩ = some (.int .i64 0) := fun n => n.chg.cell g1 id
      have q2 : ∀ n : FreshW w9, n.val.cell? ⟨w8.heap.size, 2, none⟩ = some (.int .i64 0) := fun n => n.chg.cell g2 id
      have q3 : ∀ n : FreshW w9, n.val.cell? ⟨w8.heap.size, 3, none⟩ = some (.int .i64 0) := fun n => n.chg.cell g3 id
      have qf : ∀ n : FreshW w9, n.val.cell? ⟨W.heap.size, 1, none⟩ = some (.int .i64 f0) := fun n => n.chg.cell gf id
      have qr : ∀ n : FreshW w9, (fun w' => True) n.val := fun n => gr _ n.chg
      dsimp only at qr
      clear g0 g1 g2 g3 gf gr hch hrr
      refine wp_region_fresh (by kernel_rfl) (by kernel_rfl) ?_
      repeat (go_big_quiet_step (fail))
      refine wpQuiet_nil ?_
      rintro _ ⟨n10, rfl⟩
      have HT10 := Lib.hid (HT9.out.fresh n10.chg)
      have HO10 := Lib.hid (row_kept (row_kept HO8.out hca9 (fun _ _ h => h)) n10.chg (fun _ _ h => h))
      have HL10 := Lib.hid (row_kept (row_kept HL8.out hca9 (fun _ _ h => h)) n10.chg (fun _ _ h => h))
      clear hca9
      go_wp2_with (first
        | (go_at_call 17; refine (open_any _ HT10.out.all.co (by have := HT10.out.len; rw [List.length_map]; omega)).mono ?_; rintro e0 w11 ⟨v11, rfl, ho11, hc11⟩
           rw [HTw.out.keys] at ho11
           have HT11 := Lib.hid (HT10.out.fresh hc11)
           have HX11 := Lib.hid (SlAt.of_own ho11)
           have HO11 := Lib.hid (SlAt.of_own (row_kept HO10.out hc11 (fun _ _ h => h)))
           have HL11 := Lib.hid (row_kept HL10.out hc11 (fun _ _ h => h))
           clear ho11 hc11)
        | (go_at_call 15; refine (state_all _ HT12.out.all tx0 HR.out).mono ?_; rintro e0 w13 ⟨rfl, rfl⟩
           have hst := HTw.out.st
           unfold stateAt at hst
           rw [hst]
           clear hst)
        | (go_at_call 26; refine (lacks_at _ HT12.out.all tx0 HR.out).mono ?_; rintro e0 w14 ⟨v14, n14, rfl, hl14, hc14⟩
           rw [HTw.out.lk] at hl14
           have HT14 := Lib.hid (HT12.out.fresh hc14)
           have HX14 := Lib.hid (SlAt.of_own hl14)
           have HL14 := Lib.hid (SlAt.of_own (row_kept HL12.out hc14 (fun _ _ h => h)))
           clear hl14 hc14)
        | (go_at_call 16; refine (same_numbers _ HX14.out HL14.out (lacks_len HT4.out.all tx0)).mono ?_; rw [decide_eq_true rfl]; rintro e0 w15 ⟨rfl, hc15⟩
           have HT15 := Lib.hid (HT14.out.fresh hc15)
           clear hc15)
        | (go_at_call 16; refine (same_numbers _ HX11.out HO11.out (by have := HT4.out.len; rw [asc_len, List.length_map, List.length_map]; omega)).mono ?_; rw [decide_eq_true rfl]; rintro e0 w12 ⟨rfl, hc12⟩
           have HT12 := Lib.hid (HT11.out.fresh hc12)
           have HL12 := Lib.hid (row_kept HL11.out hc12 (fun _ _ h => h))
           have k3 : w12.cell? ⟨W.heap.size, 3, none⟩ = some (.int .i64 tx0) := cell_of_block (i := 3) HT12.out.msg rfl
           clear hc12)
        | (go_at_call 18; refine (works_any _).mono ?_; rintro e0 w16 ⟨rfl, hc16⟩
           have HT16 := Lib.hid (HT15.out.fresh hc16)
           clear hc16))
      go_ret
      exact ⟨rfl, HT16.out.chg⟩
    · rw [hms] at hTms
      obtain ⟨pv, hT0⟩ : ∃ pv, T = [((kx, f0), pv)] := by
        match T, hTms with
        | [(a, pv)], h => simp only [List.map_cons, List.map_nil, List.cons.injEq, and_true] at h; exact ⟨pv, by rw [h]⟩
        | [], h => simp at h
        | _ :: _ :: _, h => simp at h
      subst hT0
      obtain ⟨bS, oS, rfl⟩ := hrows.spot (by simp)
      have hto : w8.cell? ⟨bS, oS + 2, none⟩ = some (.int .i64 f0) := by
        have := hrows.cell bS oS rfl 0 _ 2 _ rfl rfl
        simpa using this
      have hff : (f0 != f0) = false := by simp
      go_wp2_with fail
      have hca9 : Chg (fun _ => False) w8 (w8.alloc (.cells #[.slice (some ⟨bS, oS, none⟩) 1 capS, .int .i64 0, .int .i64 0, .int .i64 0] 36)) := (Chg.refl _ _).alloc _
      have hbs := block_alloc_new w8 (.cells #[.slice (some ⟨bS, oS, none⟩) 1 capS, .int .i64 0, .int .i64 0, .int .i64 0] 36)
      obtain ⟨w9, hw9⟩ : ∃ w9, w8.alloc (.cells #[.slice (some ⟨bS, oS, none⟩) 1 capS, .int .i64 0, .int .i64 0, .int .i64 0] 36) = w9 := ⟨_, rfl⟩
      rw [hw9] at hca9 hbs ⊢
      clear hw9
      have HT9 := Lib.hid (HT8.out.fresh hca9)
      have g0 := cell_of_block (i := 0) hbs rfl
      have g1 := cell_of_block (i := 1) hbs rfl
      have g2 := cell_of_block (i := 2) hbs rfl
      have g3 := cell_of_block (i := 3) hbs rfl
      have gf : w9.cell? ⟨W.heap.size, 1, none⟩ = some (.int .i64 f0) := cell_of_block (i := 1) HT9.out.msg rfl
      have gr : ∀ w', Chg (fun _ => False) w9 w' → w'.cell? ⟨bS, oS + 2, none⟩ = some (.int .i64 f0) := fun w' hc => by exact (hca9.trans' hc).cell hto id
      have hch : Chg (fun _ => False) w9 w9.drew := (Chg.refl _ _).drew
      have hrr := gr _ hch
      clear hbs
      have q0 : ∀ n : FreshW w9, n.val.cell? ⟨w8.heap.size, 0, none⟩ = some (.slice (some ⟨bS, oS, none⟩) 1 capS) := fun n => n.chg.cell g0 id
      have q1 : ∀ n : FreshW w9, n.val.cell? ⟨w8.heap.size, 1, none⟩ = some (.int .i64 0) := fun n => n.chg.cell g1 id
      have q2 : ∀ n : FreshW w9, n.val.cell? ⟨w8.heap.size, 2, none⟩ = some (.int .i64 0) := fun n => n.chg.cell g2 id
      have q3 : ∀ n : FreshW w9, n.val.cell? ⟨w8.heap.size, 3, none⟩ = some (.int .i64 0) := fun n => n.chg.cell g3 id
      have qf : ∀ n : FreshW w9, n.val.cell? ⟨W.heap.size, 1, none⟩ = some (.int .i64 f0) := fun n => n.chg.cell gf id
      have qr : ∀ n : FreshW w9, (fun w' => w'.cell? ⟨bS, oS + 2, none⟩ = some (.int .i64 f0)) n.val := fun n => gr _ n.chg
      dsimp only at qr
      clear g0 g1 g2 g3 gf gr hch hrr
      refine wp_region_fresh (by kernel_rfl) (by kernel_rfl) ?_
      repeat (go_big_quiet_step (fail))
      refine wpQuiet_nil ?_
      rintro _ ⟨n10, rfl⟩
      have HT10 := Lib.hid (HT9.out.fresh n10.chg)
      have HO10 := Lib.hid (row_kept (row_kept HO8.out hca9 (fun _ _ h => h)) n10.chg (fun _ _ h => h))
      have HL10 := Lib.hid (row_kept (row_kept HL8.out hca9 (fun _ _ h => h)) n10.chg (fun _ _ h => h))
      clear hca9
      go_wp2_with (first
        | (go_at_call 17; refine (open_any _ HT10.out.all.co (by have := HT10.out.len; rw [List.length_map]; omega)).mono ?_; rintro e0 w11 ⟨v11, rfl, ho11, hc11⟩
           rw [HTw.out.keys] at ho11
           have HT11 := Lib.hid (HT10.out.fresh hc11)
           have HX11 := Lib.hid (SlAt.of_own ho11)
           have HO11 := Lib.hid (SlAt.of_own (row_kept HO10.out hc11 (fun _ _ h => h)))
           have HL11 := Lib.hid (row_kept HL10.out hc11 (fun _ _ h => h))
           clear ho11 hc11)
        | (go_at_call 15; refine (state_all _ HT12.out.all tx0 HR.out).mono ?_; rintro e0 w13 ⟨rfl, rfl⟩
           have hst := HTw.out.st
           unfold stateAt at hst
           rw [hst]
           clear hst)
        | (go_at_call 26; refine (lacks_at _ HT12.out.all tx0 HR.out).mono ?_; rintro e0 w14 ⟨v14, n14, rfl, hl14, hc14⟩
           rw [HTw.out.lk] at hl14
           have HT14 := Lib.hid (HT12.out.fresh hc14)
           have HX14 := Lib.hid (SlAt.of_own hl14)
           have HL14 := Lib.hid (SlAt.of_own (row_kept HL12.out hc14 (fun _ _ h => h)))
           clear hl14 hc14)
        | (go_at_call 16; refine (same_numbers _ HX14.out HL14.out (lacks_len HT4.out.all tx0)).mono ?_; rw [decide_eq_true rfl]; rintro e0 w15 ⟨rfl, hc15⟩
           have HT15 := Lib.hid (HT14.out.fresh hc15)
           clear hc15)
        | (go_at_call 16; refine (same_numbers _ HX11.out HO11.out (by have := HT4.out.len; rw [asc_len, List.length_map, List.length_map]; omega)).mono ?_; rw [decide_eq_true rfl]; rintro e0 w12 ⟨rfl, hc12⟩
           have HT12 := Lib.hid (HT11.out.fresh hc12)
           have HL12 := Lib.hid (row_kept HL11.out hc12 (fun _ _ h => h))
           have k3 : w12.cell? ⟨W.heap.size, 3, none⟩ = some (.int .i64 tx0) := cell_of_block (i := 3) HT12.out.msg rfl
           clear hc12)
        | (go_at_call 18; refine (works_any _).mono ?_; rintro e0 w16 ⟨rfl, hc16⟩
           have HT16 := Lib.hid (HT15.out.fresh hc16)
           clear hc16))
      go_ret
      exact ⟨rfl, HT16.out.chg⟩

end Go.Proofs.Ytogjjkbgagedpaa.coordg

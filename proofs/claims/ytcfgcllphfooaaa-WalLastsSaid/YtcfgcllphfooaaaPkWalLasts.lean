/-
  WalLasts, whole: for every call the law returns true and changes nothing that was there. No condition.
-/
import Derived.Test.YtcfgcllphfooaaaPkAa
import Derived.Test.YtcfgcllphfooaaaPkAm
import Derived.Test.YtcfgcllphfooaaaRows

section
set_option linter.unusedSimpArgs false
set_option linter.unusedVariables false
namespace Go.Proofs.Ytcfgcllphfooaaa.walLasts
open Go.ChangeShapes Go.WideShapes Go.ChangeAt Go.RowKit Go.My wals disks bufs

theorem laidOut : laidOutB Try.prog = true := by kernel_rfl
theorem own : ownKnob Try.prog.godebug = none := by kernel_rfl



set_option maxRecDepth 100000 in
set_option maxHeartbeats 4000000 in
theorem walk (W : World) (oaA : Option Addr) (capA : Nat) (acts : List WAct) (hr : RowsAt W 5 oaA (acts.map WAct.row)) (hok : ∀ a ∈ acts, a.ok W) (z : Int) (_ : inR z) (kv : Value) (keep : List Int) (hkv : SlAt W kv (keep.map (Value.int .i64))) (hkz : ∀ x ∈ keep, inR x) :
    Calls Try.prog 7 #[.slice oaA acts.length capA, .int .i64 z, kv] W fun e w' => e = .returned (.bool true) ∧ Chg (fun _ => False) W w' := by
  obtain ⟨n, hn1, hw1, hw2⟩ := mod_60 z
  have HRun := Lib.hid (run_any W oaA capA acts hr hok n hn1)
  obtain ⟨oak, capk, rfl, q2, q3⟩ := hkv
  rw [List.length_map] at *
  have HKv := Lib.hid (show SlAt W (.slice oak keep.length capk) (keep.map (Value.int .i64)) from ⟨oak, capk, by rw [List.length_map], q2, q3⟩)
  have HKz := Lib.hid hkz
  have HWk := Lib.hid works_any
  clear hr hok hn1 q2 q3 hkz
  go_enter Try.func7, Try.ntmps7
  go_wp2_with (first
    | (go_at_call 26; fail))
  refine HRun.out.mono ?_
  rintro e w1 ⟨P, d, X, had, next, hv, nv, rfl, hd, hkh, hkn, hnew, hran, hlen, hc1⟩
  obtain ⟨oah, nh, caph, rfl⟩ : ∃ oa n cap, hv = .slice oa n cap := by
    obtain ⟨oa, cap, e, -⟩ := hkh.at' _ (Chg.refl _ _)
    exact ⟨oa, _, cap, e⟩
  obtain ⟨oan, nn, capn, rfl⟩ : ∃ oa n cap, nv = .slice oa n cap := by
    obtain ⟨oa, cap, e, -⟩ := hkn.at' _ (Chg.refl _ _)
    exact ⟨oa, _, cap, e⟩
  have hc2 : Chg (fun _ => False) w1 (w1.alloc (.cells #[.pointer (some ⟨d, 0, none⟩), .slice oah nh caph, .slice oan nn capn] 65)) := (Chg.refl _ _).alloc _
  obtain ⟨w2, hw2e⟩ : ∃ w2, w1.alloc (.cells #[.pointer (some ⟨d, 0, none⟩), .slice oah nh caph, .slice oan nn capn] 65) = w2 := ⟨_, rfl⟩
  have b7 : Arr w2 w1.heap.size 65 [.pointer (some ⟨d, 0, none⟩), .slice oah nh caph, .slice oan nn capn] := by rw [← hw2e]; exact at1
  rw [hw2e] at hc2
  have hd2 := hd.rest hc2
  have hkh2 : Kp (NowP P w1 w1) w2 (.slice oah nh caph) had := (hkh.now (Chg.refl _ _)).fresh hc2
  have hkn2 : Kp (NowP P w1 w1) w2 (.slice oan nn capn) next := (hkn.now (Chg.refl _ _)).fresh hc2
  have hsz : W.heap.size ≤ w1.heap.size := hc1.size
  have HCr := Lib.hid (wat_crash hd2 (HKv.out.kept (hc1.trans' hc2)) (fun hne g hg => by
    have hgW := slat_old HKv.out (by intro e; exact hne (by cases keep with | nil => rfl | cons => simp at e)) hg
    refine ⟨fun hN => hN.1.elim (fun h => by have := hnew g h; omega) (fun h => by omega), by have := hc2.size; omega⟩) HKz.out (fun j => by have := hran.1 j; omega))
  have HKh := Lib.hid hkh2
  have HKn := Lib.hid hkn2
  have HB7 := Lib.hid b7
  have HRan := Lib.hid hran
  have HC2 := Lib.hid (hc1.trans' hc2)
  have HNew := Lib.hid (show ∀ k, (P k ∨ w1.heap.size ≤ k) → W.heap.size ≤ k from fun k hk => hk.elim (hnew k) (fun h => by omega))
  have c0 : w2.cell? ⟨w1.heap.size, 0, none⟩ = some (.pointer (some ⟨d, 0, none⟩)) := b7.cell rfl
  have HN7 := Lib.hid (show ¬ NowP P w1 w1 w1.heap.size from fun h => by have := h.2; omega)
  clear hw1 hw2 hd hkh hkn hnew hran hlen hc1 hc2 b7 hd2 hkh2 hkn2 hsz HRun
  dsimp only
  go_wp2_with (first
    | (go_at_call 27; fail))
  refine HCr.out.mono ?_
  rintro e w3 ⟨rfl, hd3⟩
  have hop : Calls Try.prog 10 #[.pointer (some ⟨d, 0, none⟩)] w3 fun e w' => ∃ l X' recs s a, e = .returned (.tuple #[.pointer (some ⟨l, 0, none⟩), .int .i64 0]) ∧ WAt (NowP P w1 w1) w2 w' l d X' (lvW recs s a []) ∧ Stands X' recs s a ∧ (recs = had ∨ recs = next) := by
    rcases HRan.out.2 keep with ⟨hb, h0⟩ | ⟨s, a, hs100, h | h⟩
    · refine (wat_open_new hd3 hb rfl).mono ?_
      rintro e w' ⟨l, X', rfl, h1, h2, -, -⟩
      exact ⟨l, X', [], 1, 0, rfl, h1, h2, Or.inl h0.symm⟩
    · refine (wat_open hd3 h (by omega) (by show (-1 : Int) ≤ _; omega)).mono ?_
      rintro e w' ⟨l, rfl, h1⟩
      exact ⟨l, _, had, s, a, rfl, h1, h, Or.inl rfl⟩
    · refine (wat_open hd3 h (by omega) (by show (-1 : Int) ≤ _; omega)).mono ?_
      rintro e w' ⟨l, rfl, h1⟩
      exact ⟨l, _, next, s, a, rfl, h1, h, Or.inr rfl⟩
  have HOp := Lib.hid hop
  have k0 : w3.cell? ⟨w1.heap.size, 0, none⟩ = some (.pointer (some ⟨d, 0, none⟩)) := hd3.chg.cell c0 HN7.out
  clear hop hd3 c0 HCr
  dsimp only
  go_wp2_with (first
    | (go_at_call 10; fail))
  refine HOp.out.mono ?_
  rintro e w4 ⟨l, X', recs, s, a, rfl, hat4, hst, hor⟩
  have hat4 := hat4.fresh (Chg.refl (fun _ => False) w4).drew
  have b74 : Arr w4.drew w1.heap.size 65 [.pointer (some ⟨d, 0, none⟩), .slice oah nh caph, .slice oan nn capn] := hat4.chg.at HB7.out HN7.out
  have HA4 := Lib.hid hat4
  have HFew := Lib.hid (show recs.length ≤ 131008 by have h := hst.fits; have h2 := sizeB_ge recs; rw [framesB_length] at h; have := areaN_le hst.idle.le; omega)
  have HX := Lib.hid (And.intro (b74.cell (i := 1) rfl) (b74.cell (i := 2) rfl))
  clear hat4 b74 hst HOp k0 HRan
  dsimp only
  go_wp2_with fail
  by_cases hh : recs = had
  · have hdt : decide ((lvW recs s a []).recs = had) = true := decide_eq_true hh
    have HDt := Lib.hid hdt
    clear hor hdt hh
    refine wp_region_noPanic ?_
    refine wp_region_held_drew (S := (fun w' => w'.cell? ⟨w1.heap.size, 1, none⟩ = some (.slice oah nh caph) ∧ w'.cell? ⟨w1.heap.size, 2, none⟩ = some (.slice oan nn capn))) (by kernel_rfl) (⟨HX.out.1, HX.out.2⟩) (fun hHeld => ?_)
    refine take_list (i := 0) (v := ?_) rfl (by kernel_rfl) (by kernel_rfl) (by kernel_rfl) (fun _ _ _ h => h) (Or.inl ⟨by rfl, fun w hSw => ?_⟩) hHeld ?_
    rotate_left
    · (obtain ⟨hSw1, hSw2⟩ := hSw; go_simp)
      try with_reducible rfl
    simp only [Act.put, List.setIfInBounds_toArray, List.set_cons_zero, List.set_cons_succ]
    refine take_list (i := 1) (v := ?_) rfl (by kernel_rfl) (by kernel_rfl) (by kernel_rfl) (fun _ _ _ h => h) (Or.inl ⟨by rfl, fun w hSw => ?_⟩) hHeld ?_
    rotate_left
    · (obtain ⟨hSw1, hSw2⟩ := hSw; go_simp)
      try with_reducible rfl
    simp only [Act.put, List.setIfInBounds_toArray, List.set_cons_zero, List.set_cons_succ]
    refine take_list (i := 2) (v := ?_) rfl (by kernel_rfl) (by kernel_rfl) (by kernel_rfl) (fun _ _ _ h => h) (Or.inl ⟨by rfl, fun w hSw => ?_⟩) hHeld ?_
    rotate_left
    · (obtain ⟨hSw1, hSw2⟩ := hSw; go_simp)
      try with_reducible rfl
    simp only [Act.put, List.setIfInBounds_toArray, List.set_cons_zero, List.set_cons_succ]
    refine take_list (i := 3) (v := ?_) rfl (by kernel_rfl) (by kernel_rfl) (by kernel_rfl) (fun _ _ _ h => h) (Or.inl ⟨by rfl, fun w hSw => ?_⟩) hHeld ?_
    rotate_left
    · (obtain ⟨hSw1, hSw2⟩ := hSw; go_simp)
      try with_reducible rfl
    simp only [Act.put, List.setIfInBounds_toArray, List.set_cons_zero, List.set_cons_succ]
    refine take_list (i := 5) (v := ?_) rfl (by kernel_rfl) (by kernel_rfl) (by kernel_rfl) (fun _ _ _ h => h) (Or.inl ⟨by rfl, fun w hSw => ?_⟩) hHeld ?_
    rotate_left
    · (obtain ⟨hSw1, hSw2⟩ := hSw; go_simp)
      try with_reducible rfl
    simp only [Act.put, List.setIfInBounds_toArray, List.set_cons_zero, List.set_cons_succ]
    refine take_list (i := 6) (v := ?_) rfl (by kernel_rfl) (by kernel_rfl) (by kernel_rfl) (fun _ _ _ h => h) (Or.inl ⟨by rfl, fun w hSw => ?_⟩) hHeld ?_
    rotate_left
    · (obtain ⟨hSw1, hSw2⟩ := hSw; go_simp)
      try with_reducible rfl
    simp only [Act.put, List.setIfInBounds_toArray, List.set_cons_zero, List.set_cons_succ]
    have HRec := Lib.hid (wat_records HA4.out HFew.out)
    refine wpAnyH_ready (rs := [4]) (by kernel_rfl) (by simp) (one_list (i := 4) rfl (by rfl) (fun K hK => ?_) AllReadyH.nil)
    go_simp
    refine HRec.out.mono ?_
    rintro e w5 ⟨v5, rfl, ho5, hc5⟩
    have HA5 := Lib.hid (HA4.out.fresh hc5)
    have hsa := wat_same ho5 HKh.out HA5.out.chg (by show recs.length ≤ _; have := HFew.out; omega)
    rw [HDt.out] at hsa
    have HSa := Lib.hid hsa
    clear hsa
    obtain ⟨oa5, cap5, rfl⟩ := own_slice ho5
    have HX5 := Lib.hid (And.intro (hc5.cell HX.out.1 id) (hc5.cell HX.out.2 id))
    clear ho5 hc5
    dsimp only
    refine hK _ _ (⟨HX5.out.1, HX5.out.2⟩) (fun hH2 => ?_)
    try simp only [Act.put, List.setIfInBounds_toArray, List.set_cons_zero, List.set_cons_succ]
    refine wpAnyH_ready (rs := [7]) (by kernel_rfl) (by simp) (one_list (i := 7) rfl (by rfl) (fun K hK => ?_) AllReadyH.nil)
    go_simp
    refine HSa.out.mono ?_
    rintro e w6 ⟨rfl, hc6⟩
    have HA6 := Lib.hid (HA5.out.fresh hc6)
    have HX6 := Lib.hid (And.intro (hc6.cell HX5.out.1 id) (hc6.cell HX5.out.2 id))
    clear hc6
    dsimp only
    refine hK _ _ (⟨HX6.out.1, HX6.out.2⟩) (fun hH3 => ?_)
    try simp only [Act.put, List.setIfInBounds_toArray, List.set_cons_zero, List.set_cons_succ]
    refine take_list (i := 8) (v := ?_) rfl (by kernel_rfl) (by kernel_rfl) (by kernel_rfl) (fun _ _ _ h => h) (Or.inl ⟨by rfl, fun w hSw => ?_⟩) hH3 ?_
    rotate_left
    · (obtain ⟨hSw1, hSw2⟩ := hSw; go_simp)
      try with_reducible rfl
    simp only [Act.put, List.setIfInBounds_toArray, List.set_cons_zero, List.set_cons_succ]
    refine take_list (i := 9) (v := undef) rfl (by kernel_rfl) (by kernel_rfl) (by kernel_rfl) (fun _ _ _ h => h) (Or.inr ⟨by rfl, rfl⟩) hH3 ?_
    simp only [Act.put, List.setIfInBounds_toArray, List.set_cons_zero, List.set_cons_succ]
    refine take_list (i := 11) (v := undef) rfl (by kernel_rfl) (by kernel_rfl) (by kernel_rfl) (fun _ _ _ h => h) (Or.inr ⟨by rfl, rfl⟩) hH3 ?_
    simp only [Act.put, List.setIfInBounds_toArray, List.set_cons_zero, List.set_cons_succ]
    refine take_list (i := 12) (v := undef) rfl (by kernel_rfl) (by kernel_rfl) (by kernel_rfl) (fun _ _ _ h => h) (Or.inr ⟨by rfl, rfl⟩) hH3 ?_
    simp only [Act.put, List.setIfInBounds_toArray, List.set_cons_zero, List.set_cons_succ]
    refine wpAnyH_ready (rs := [10]) (by kernel_rfl) (by simp) (one_skip (i := 10) rfl (by rfl) hH3 ?_ AllReadyH.nil)
    try simp only [Act.put, List.setIfInBounds_toArray, List.set_cons_zero, List.set_cons_succ]
    refine wpAnyH_ready (rs := [13]) (by kernel_rfl) (by simp) (one_skip (i := 13) rfl (by rfl) hH3 ?_ AllReadyH.nil)
    try simp only [Act.put, List.setIfInBounds_toArray, List.set_cons_zero, List.set_cons_succ]
    have HA9 := HA6
    have HX9 := HX6
    have hH9 := hH3
    refine take_list (i := 14) (v := ?_) rfl (by kernel_rfl) (by kernel_rfl) (by kernel_rfl) (fun _ _ _ h => h) (Or.inl ⟨by rfl, fun w hSw => ?_⟩) hH9 ?_
    rotate_left
    · (obtain ⟨hSw1, hSw2⟩ := hSw; go_simp)
      try with_reducible rfl
    simp only [Act.put, List.setIfInBounds_toArray, List.set_cons_zero, List.set_cons_succ]
    refine take_list (i := 15) (v := ?_) rfl (by kernel_rfl) (by kernel_rfl) (by kernel_rfl) (fun _ _ _ h => h) (Or.inl ⟨by rfl, fun w hSw => ?_⟩) hH9 ?_
    rotate_left
    · (obtain ⟨hSw1, hSw2⟩ := hSw; go_simp)
      try with_reducible rfl
    simp only [Act.put, List.setIfInBounds_toArray, List.set_cons_zero, List.set_cons_succ]
    refine take_list (i := 16) (v := ?_) rfl (by kernel_rfl) (by kernel_rfl) (by kernel_rfl) (fun _ _ _ h => h) (Or.inl ⟨by rfl, fun w hSw => ?_⟩) hH9 ?_
    rotate_left
    · (obtain ⟨hSw1, hSw2⟩ := hSw; go_simp)
      try with_reducible rfl
    simp only [Act.put, List.setIfInBounds_toArray, List.set_cons_zero, List.set_cons_succ]
    refine take_list (i := 17) (v := ?_) rfl (by kernel_rfl) (by kernel_rfl) (by kernel_rfl) (fun _ _ _ h => h) (Or.inl ⟨by rfl, fun w hSw => ?_⟩) hH9 ?_
    rotate_left
    · (obtain ⟨hSw1, hSw2⟩ := hSw; go_simp)
      try with_reducible rfl
    simp only [Act.put, List.setIfInBounds_toArray, List.set_cons_zero, List.set_cons_succ]
    have HWt := Lib.hid (wat_waiting HA9.out)
    refine wpAnyH_ready (rs := [18]) (by kernel_rfl) (by simp) (one_list (i := 18) rfl (by rfl) (fun K hK => ?_) AllReadyH.nil)
    go_simp
    refine HWt.out.mono ?_
    rintro e w10 ⟨rfl, rfl⟩
    dsimp only
    refine hK _ _ (⟨HX9.out.1, HX9.out.2⟩) (fun hH10 => ?_)
    try simp only [Act.put, List.setIfInBounds_toArray, List.set_cons_zero, List.set_cons_succ]
    refine take_list (i := 19) (v := ?_) rfl (by kernel_rfl) (by kernel_rfl) (by kernel_rfl) (fun _ _ _ h => h) (Or.inl ⟨by rfl, fun w hSw => ?_⟩) hH10 ?_
    rotate_left
    · (obtain ⟨hSw1, hSw2⟩ := hSw; go_simp)
      try with_reducible rfl
    simp only [Act.put, List.setIfInBounds_toArray, List.set_cons_zero, List.set_cons_succ]
    refine take_list (i := 20) (v := ?_) rfl (by kernel_rfl) (by kernel_rfl) (by kernel_rfl) (fun _ _ _ h => h) (Or.inl ⟨by rfl, fun w hSw => ?_⟩) hH10 ?_
    rotate_left
    · (obtain ⟨hSw1, hSw2⟩ := hSw; go_simp)
      try with_reducible rfl
    simp only [Act.put, List.setIfInBounds_toArray, List.set_cons_zero, List.set_cons_succ]
    refine take_list (i := 21) (v := ?_) rfl (by kernel_rfl) (by kernel_rfl) (by kernel_rfl) (fun _ _ _ h => h) (Or.inl ⟨by rfl, fun w hSw => ?_⟩) hH10 ?_
    rotate_left
    · (obtain ⟨hSw1, hSw2⟩ := hSw; go_simp)
      try with_reducible rfl
    simp only [Act.put, List.setIfInBounds_toArray, List.set_cons_zero, List.set_cons_succ]
    refine wpAnyH_ready (rs := [22]) (by kernel_rfl) (by simp) (one_list (i := 22) rfl (by rfl) (fun K hK => ?_) AllReadyH.nil)
    go_simp
    refine (HWk.out _).mono ?_
    rintro e w11 ⟨rfl, hc11⟩
    have HA11 := Lib.hid (HA9.out.fresh hc11)
    dsimp only
    refine hK _ _ (⟨hc11.cell HX9.out.1 id, hc11.cell HX9.out.2 id⟩) (fun hH11 => ?_)
    try simp only [Act.put, List.setIfInBounds_toArray, List.set_cons_zero, List.set_cons_succ]
    clear hc11
    refine take_list (i := 23) (v := ?_) rfl (by kernel_rfl) (by kernel_rfl) (by kernel_rfl) (fun _ _ _ h => h) (Or.inl ⟨by rfl, fun w hSw => ?_⟩) hH11 ?_
    rotate_left
    · (skip; go_simp)
      try with_reducible rfl
    simp only [Act.put, List.setIfInBounds_toArray, List.set_cons_zero, List.set_cons_succ]
    refine take_list (i := 24) (v := ?_) rfl (by kernel_rfl) (by kernel_rfl) (by kernel_rfl) (fun _ _ _ h => h) (Or.inl ⟨by rfl, fun w hSw => ?_⟩) hH11 ?_
    rotate_left
    · (skip; go_simp)
      try with_reducible rfl
    simp only [Act.put, List.setIfInBounds_toArray, List.set_cons_zero, List.set_cons_succ]
    refine wpAnyH_done (by kernel_rfl) ?_ _
    refine NoPanic.normal ?_
    go_wp2_with fail
    go_ret
    refine ⟨rfl, ?_⟩
    exact HC2.out.new HA11.out.chg (fun k hk => HNew.out k hk.1)
  · have hdf : decide ((lvW recs s a []).recs = had) = false := decide_eq_false hh
    have HDf := Lib.hid hdf
    have hn : recs = next := hor.resolve_left hh
    have HNx := Lib.hid hn
    clear hor hdf hn hh
    refine wp_region_noPanic ?_
    refine wp_region_held_drew (S := (fun w' => w'.cell? ⟨w1.heap.size, 1, none⟩ = some (.slice oah nh caph) ∧ w'.cell? ⟨w1.heap.size, 2, none⟩ = some (.slice oan nn capn))) (by kernel_rfl) (⟨HX.out.1, HX.out.2⟩) (fun hHeld => ?_)
    refine take_list (i := 0) (v := ?_) rfl (by kernel_rfl) (by kernel_rfl) (by kernel_rfl) (fun _ _ _ h => h) (Or.inl ⟨by rfl, fun w hSw => ?_⟩) hHeld ?_
    rotate_left
    · (obtain ⟨hSw1, hSw2⟩ := hSw; go_simp)
      try with_reducible rfl
    simp only [Act.put, List.setIfInBounds_toArray, List.set_cons_zero, List.set_cons_succ]
    refine take_list (i := 1) (v := ?_) rfl (by kernel_rfl) (by kernel_rfl) (by kernel_rfl) (fun _ _ _ h => h) (Or.inl ⟨by rfl, fun w hSw => ?_⟩) hHeld ?_
    rotate_left
    · (obtain ⟨hSw1, hSw2⟩ := hSw; go_simp)
      try with_reducible rfl
    simp only [Act.put, List.setIfInBounds_toArray, List.set_cons_zero, List.set_cons_succ]
    refine take_list (i := 2) (v := ?_) rfl (by kernel_rfl) (by kernel_rfl) (by kernel_rfl) (fun _ _ _ h => h) (Or.inl ⟨by rfl, fun w hSw => ?_⟩) hHeld ?_
    rotate_left
    · (obtain ⟨hSw1, hSw2⟩ := hSw; go_simp)
      try with_reducible rfl
    simp only [Act.put, List.setIfInBounds_toArray, List.set_cons_zero, List.set_cons_succ]
    refine take_list (i := 3) (v := ?_) rfl (by kernel_rfl) (by kernel_rfl) (by kernel_rfl) (fun _ _ _ h => h) (Or.inl ⟨by rfl, fun w hSw => ?_⟩) hHeld ?_
    rotate_left
    · (obtain ⟨hSw1, hSw2⟩ := hSw; go_simp)
      try with_reducible rfl
    simp only [Act.put, List.setIfInBounds_toArray, List.set_cons_zero, List.set_cons_succ]
    refine take_list (i := 5) (v := ?_) rfl (by kernel_rfl) (by kernel_rfl) (by kernel_rfl) (fun _ _ _ h => h) (Or.inl ⟨by rfl, fun w hSw => ?_⟩) hHeld ?_
    rotate_left
    · (obtain ⟨hSw1, hSw2⟩ := hSw; go_simp)
      try with_reducible rfl
    simp only [Act.put, List.setIfInBounds_toArray, List.set_cons_zero, List.set_cons_succ]
    refine take_list (i := 6) (v := ?_) rfl (by kernel_rfl) (by kernel_rfl) (by kernel_rfl) (fun _ _ _ h => h) (Or.inl ⟨by rfl, fun w hSw => ?_⟩) hHeld ?_
    rotate_left
    · (obtain ⟨hSw1, hSw2⟩ := hSw; go_simp)
      try with_reducible rfl
    simp only [Act.put, List.setIfInBounds_toArray, List.set_cons_zero, List.set_cons_succ]
    have HRec := Lib.hid (wat_records HA4.out HFew.out)
    refine wpAnyH_ready (rs := [4]) (by kernel_rfl) (by simp) (one_list (i := 4) rfl (by rfl) (fun K hK => ?_) AllReadyH.nil)
    go_simp
    refine HRec.out.mono ?_
    rintro e w5 ⟨v5, rfl, ho5, hc5⟩
    have HA5 := Lib.hid (HA4.out.fresh hc5)
    have hsa := wat_same ho5 HKh.out HA5.out.chg (by show recs.length ≤ _; have := HFew.out; omega)
    rw [HDf.out] at hsa
    have HSa := Lib.hid hsa
    clear hsa
    obtain ⟨oa5, cap5, rfl⟩ := own_slice ho5
    have HX5 := Lib.hid (And.intro (hc5.cell HX.out.1 id) (hc5.cell HX.out.2 id))
    clear ho5 hc5
    dsimp only
    refine hK _ _ (⟨HX5.out.1, HX5.out.2⟩) (fun hH2 => ?_)
    try simp only [Act.put, List.setIfInBounds_toArray, List.set_cons_zero, List.set_cons_succ]
    refine wpAnyH_ready (rs := [7]) (by kernel_rfl) (by simp) (one_list (i := 7) rfl (by rfl) (fun K hK => ?_) AllReadyH.nil)
    go_simp
    refine HSa.out.mono ?_
    rintro e w6 ⟨rfl, hc6⟩
    have HA6 := Lib.hid (HA5.out.fresh hc6)
    have HX6 := Lib.hid (And.intro (hc6.cell HX5.out.1 id) (hc6.cell HX5.out.2 id))
    clear hc6
    dsimp only
    refine hK _ _ (⟨HX6.out.1, HX6.out.2⟩) (fun hH3 => ?_)
    try simp only [Act.put, List.setIfInBounds_toArray, List.set_cons_zero, List.set_cons_succ]
    refine take_list (i := 8) (v := ?_) rfl (by kernel_rfl) (by kernel_rfl) (by kernel_rfl) (fun _ _ _ h => h) (Or.inl ⟨by rfl, fun w hSw => ?_⟩) hH3 ?_
    rotate_left
    · (obtain ⟨hSw1, hSw2⟩ := hSw; go_simp)
      try with_reducible rfl
    simp only [Act.put, List.setIfInBounds_toArray, List.set_cons_zero, List.set_cons_succ]
    refine take_list (i := 9) (v := ?_) rfl (by kernel_rfl) (by kernel_rfl) (by kernel_rfl) (fun _ _ _ h => h) (Or.inl ⟨by rfl, fun w hSw => ?_⟩) hH3 ?_
    rotate_left
    · (obtain ⟨hSw1, hSw2⟩ := hSw; go_simp)
      try with_reducible rfl
    simp only [Act.put, List.setIfInBounds_toArray, List.set_cons_zero, List.set_cons_succ]
    refine take_list (i := 11) (v := ?_) rfl (by kernel_rfl) (by kernel_rfl) (by kernel_rfl) (fun _ _ _ h => h) (Or.inl ⟨by rfl, fun w hSw => ?_⟩) hH3 ?_
    rotate_left
    · (obtain ⟨hSw1, hSw2⟩ := hSw; go_simp)
      try with_reducible rfl
    simp only [Act.put, List.setIfInBounds_toArray, List.set_cons_zero, List.set_cons_succ]
    refine take_list (i := 12) (v := ?_) rfl (by kernel_rfl) (by kernel_rfl) (by kernel_rfl) (fun _ _ _ h => h) (Or.inl ⟨by rfl, fun w hSw => ?_⟩) hH3 ?_
    rotate_left
    · (obtain ⟨hSw1, hSw2⟩ := hSw; go_simp)
      try with_reducible rfl
    simp only [Act.put, List.setIfInBounds_toArray, List.set_cons_zero, List.set_cons_succ]
    have HRec2 := Lib.hid (wat_records HA6.out HFew.out)
    refine wpAnyH_ready (rs := [10]) (by kernel_rfl) (by simp) (one_list (i := 10) rfl (by rfl) (fun K hK => ?_) AllReadyH.nil)
    go_simp
    refine HRec2.out.mono ?_
    rintro e w7 ⟨v7, rfl, ho7, hc7⟩
    have HA7 := Lib.hid (HA6.out.fresh hc7)
    have HSa2 := Lib.hid (wat_yes ho7 HKn.out HA7.out.chg (by show recs.length ≤ _; have := HFew.out; omega) HNx.out)
    obtain ⟨oa7, cap7, rfl⟩ := own_slice ho7
    have HX7 := Lib.hid (And.intro (hc7.cell HX6.out.1 id) (hc7.cell HX6.out.2 id))
    clear ho7 hc7
    dsimp only
    refine hK _ _ (⟨HX7.out.1, HX7.out.2⟩) (fun hH4 => ?_)
    try simp only [Act.put, List.setIfInBounds_toArray, List.set_cons_zero, List.set_cons_succ]
    refine wpAnyH_ready (rs := [13]) (by kernel_rfl) (by simp) (one_list (i := 13) rfl (by rfl) (fun K hK => ?_) AllReadyH.nil)
    go_simp
    refine HSa2.out.mono ?_
    rintro e w8 ⟨rfl, hc8⟩
    have HA9 := Lib.hid (HA7.out.fresh hc8)
    have HX9 := Lib.hid (And.intro (hc8.cell HX7.out.1 id) (hc8.cell HX7.out.2 id))
    clear hc8
    dsimp only
    refine hK _ _ (⟨HX9.out.1, HX9.out.2⟩) (fun hH9 => ?_)
    try simp only [Act.put, List.setIfInBounds_toArray, List.set_cons_zero, List.set_cons_succ]
    refine take_list (i := 14) (v := ?_) rfl (by kernel_rfl) (by kernel_rfl) (by kernel_rfl) (fun _ _ _ h => h) (Or.inl ⟨by rfl, fun w hSw => ?_⟩) hH9 ?_
    rotate_left
    · (obtain ⟨hSw1, hSw2⟩ := hSw; go_simp)
      try with_reducible rfl
    simp only [Act.put, List.setIfInBounds_toArray, List.set_cons_zero, List.set_cons_succ]
    refine take_list (i := 15) (v := ?_) rfl (by kernel_rfl) (by kernel_rfl) (by kernel_rfl) (fun _ _ _ h => h) (Or.inl ⟨by rfl, fun w hSw => ?_⟩) hH9 ?_
    rotate_left
    · (obtain ⟨hSw1, hSw2⟩ := hSw; go_simp)
      try with_reducible rfl
    simp only [Act.put, List.setIfInBounds_toArray, List.set_cons_zero, List.set_cons_succ]
    refine take_list (i := 16) (v := ?_) rfl (by kernel_rfl) (by kernel_rfl) (by kernel_rfl) (fun _ _ _ h => h) (Or.inl ⟨by rfl, fun w hSw => ?_⟩) hH9 ?_
    rotate_left
    · (obtain ⟨hSw1, hSw2⟩ := hSw; go_simp)
      try with_reducible rfl
    simp only [Act.put, List.setIfInBounds_toArray, List.set_cons_zero, List.set_cons_succ]
    refine take_list (i := 17) (v := ?_) rfl (by kernel_rfl) (by kernel_rfl) (by kernel_rfl) (fun _ _ _ h => h) (Or.inl ⟨by rfl, fun w hSw => ?_⟩) hH9 ?_
    rotate_left
    · (obtain ⟨hSw1, hSw2⟩ := hSw; go_simp)
      try with_reducible rfl
    simp only [Act.put, List.setIfInBounds_toArray, List.set_cons_zero, List.set_cons_succ]
    have HWt := Lib.hid (wat_waiting HA9.out)
    refine wpAnyH_ready (rs := [18]) (by kernel_rfl) (by simp) (one_list (i := 18) rfl (by rfl) (fun K hK => ?_) AllReadyH.nil)
    go_simp
    refine HWt.out.mono ?_
    rintro e w10 ⟨rfl, rfl⟩
    dsimp only
    refine hK _ _ (⟨HX9.out.1, HX9.out.2⟩) (fun hH10 => ?_)
    try simp only [Act.put, List.setIfInBounds_toArray, List.set_cons_zero, List.set_cons_succ]
    refine take_list (i := 19) (v := ?_) rfl (by kernel_rfl) (by kernel_rfl) (by kernel_rfl) (fun _ _ _ h => h) (Or.inl ⟨by rfl, fun w hSw => ?_⟩) hH10 ?_
    rotate_left
    · (obtain ⟨hSw1, hSw2⟩ := hSw; go_simp)
      try with_reducible rfl
    simp only [Act.put, List.setIfInBounds_toArray, List.set_cons_zero, List.set_cons_succ]
    refine take_list (i := 20) (v := ?_) rfl (by kernel_rfl) (by kernel_rfl) (by kernel_rfl) (fun _ _ _ h => h) (Or.inl ⟨by rfl, fun w hSw => ?_⟩) hH10 ?_
    rotate_left
    · (obtain ⟨hSw1, hSw2⟩ := hSw; go_simp)
      try with_reducible rfl
    simp only [Act.put, List.setIfInBounds_toArray, List.set_cons_zero, List.set_cons_succ]
    refine take_list (i := 21) (v := ?_) rfl (by kernel_rfl) (by kernel_rfl) (by kernel_rfl) (fun _ _ _ h => h) (Or.inl ⟨by rfl, fun w hSw => ?_⟩) hH10 ?_
    rotate_left
    · (obtain ⟨hSw1, hSw2⟩ := hSw; go_simp)
      try with_reducible rfl
    simp only [Act.put, List.setIfInBounds_toArray, List.set_cons_zero, List.set_cons_succ]
    refine wpAnyH_ready (rs := [22]) (by kernel_rfl) (by simp) (one_list (i := 22) rfl (by rfl) (fun K hK => ?_) AllReadyH.nil)
    go_simp
    refine (HWk.out _).mono ?_
    rintro e w11 ⟨rfl, hc11⟩
    have HA11 := Lib.hid (HA9.out.fresh hc11)
    dsimp only
    refine hK _ _ (⟨hc11.cell HX9.out.1 id, hc11.cell HX9.out.2 id⟩) (fun hH11 => ?_)
    try simp only [Act.put, List.setIfInBounds_toArray, List.set_cons_zero, List.set_cons_succ]
    clear hc11
    refine take_list (i := 23) (v := ?_) rfl (by kernel_rfl) (by kernel_rfl) (by kernel_rfl) (fun _ _ _ h => h) (Or.inl ⟨by rfl, fun w hSw => ?_⟩) hH11 ?_
    rotate_left
    · (skip; go_simp)
      try with_reducible rfl
    simp only [Act.put, List.setIfInBounds_toArray, List.set_cons_zero, List.set_cons_succ]
    refine take_list (i := 24) (v := ?_) rfl (by kernel_rfl) (by kernel_rfl) (by kernel_rfl) (fun _ _ _ h => h) (Or.inl ⟨by rfl, fun w hSw => ?_⟩) hH11 ?_
    rotate_left
    · (skip; go_simp)
      try with_reducible rfl
    simp only [Act.put, List.setIfInBounds_toArray, List.set_cons_zero, List.set_cons_succ]
    refine wpAnyH_done (by kernel_rfl) ?_ _
    refine NoPanic.normal ?_
    go_wp2_with fail
    go_ret
    refine ⟨rfl, ?_⟩
    exact HC2.out.new HA11.out.chg (fun k hk => HNew.out k hk.1)

set_option maxRecDepth 100000 in
theorem lifted (os : Os) (started : os.Started) (H : Type) (enc : TypeId × Value → H) :
    ReturnsInHanded {} Try.checked os 7 .any (Rows.walLastsSpec.pre6 enc Try.prog Try.f7 [] false) (Rows.walLastsSpec.post enc Try.prog Try.f7 false true false false) := by
  refine law_handed (C := Try.checked) (tb := 4) own started (by kernel_rfl) Try.func7
    (ChangeSpec.witness6 (enc := enc) (C := Try.checked) false ⟨#[], #[.slice none 0 0, .int .i64 0, .slice none 0 0], []⟩ 8 (by kernel_rfl) (by kernel_rfl) (by kernel_rfl) (by kernel_rfl))
    laidOut (by rw [show Try.checked.prog = Try.prog from rfl, Try.params7]; intro t ht; simp at ht; rcases ht with rfl | rfl | rfl <;> exact ⟨by kernel_rfl, of_decide_eq_true (by kernel_rfl)⟩) rfl rfl Try.underlying4 ?_ ?_
  · intro ds hds
    rw [Try.params7] at hds
    match ds, hds with
    | [_, _, _], _ => rfl
  · intro W base args ds before hval0 hA0 _ hsz0
    have hval : ∀ (j : Nat) t v, Try.f7.params[j]? = some t → args[j]? = some v → Value.okWide Try.prog W .any base t v := hval0
    have hA : DataW.TrodAll enc Try.prog W 0 (fun _ => true) true Try.f7.params.toList args.toList ds before := hA0
    rw [Try.params7] at hA hval
    have hsz : (DataW.weightsEach Try.prog Try.f7.params.toList ds).all (· ≤ reachBytes) = true := hsz0
    rw [Try.params7] at hsz
    obtain ⟨v0, vs0, d0, ds0, p0, q0, hargs, rfl, rfl, h0, r0⟩ := trodAll_cons hA
    obtain ⟨v1, vs1, d1, ds1, p1, q1, rfl, rfl, rfl, h1, r1⟩ := trodAll_cons r0
    obtain ⟨v2, vs2, d2, ds2, p2, q2, rfl, rfl, rfl, h2, r2⟩ := trodAll_cons r1
    obtain ⟨rfl, rfl, rfl⟩ := trodAll_nil r2
    obtain rfl : args = #[v0, v1, v2] := by cases args; simp_all
    obtain ⟨oa0, l0, cap0, rfl, -, -, g0, ok0⟩ := open_acts10 (hval 0 62 v0 rfl rfl) h0 (fun n hn => by have := List.all_eq_true.1 hsz n (weightsEach_mem (i := 0) rfl rfl n hn); simpa using this)
    obtain ⟨a1, rfl, rfl, rfl, w1⟩ := open_int Try.underlying3 (hval 1 3 v1 rfl rfl) h1
    obtain ⟨zs2, s2, z2, -⟩ := open_ints (hval 2 63 v2 rfl rfl) h2
    exact walk W oa0 cap0 l0 g0 ok0 a1 (wf_inR w1) v2 zs2 s2 z2

theorem over : Rows.walLastsRow.holds Try.pinned (OpenSpec.ofChange Rows.walLastsSpec) :=
  OpenClaim.holds_of_wide 7 Try.f7 rfl rfl rfl rfl rfl rfl rfl ⟨rfl, rfl, rfl, rfl, rfl⟩ rfl rfl rfl rfl rfl (by kernel_rfl) Try.func7 (by kernel_rfl)
    (of_decide_eq_true (by kernel_rfl)) (by unfold Func.isWrapper; first | (rw [if_pos (by decide +kernel)]; kernel_rfl) | (rw [if_neg (by decide +kernel)]; exact ⟨rfl, rfl⟩))
    (fun os started H enc _ => lifted os started H enc)

theorem proved : Rows.WalLastsSaid := over
#print axioms proved


end Go.Proofs.Ytcfgcllphfooaaa.walLasts
end

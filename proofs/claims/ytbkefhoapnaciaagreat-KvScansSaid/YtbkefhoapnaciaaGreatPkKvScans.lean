/-
  KvScans, whole: for every call the law returns true and changes nothing that was there. No condition.
-/
import Derived.Test.YtbkefhoapnaciaaGreatPkAa
import Derived.Test.YtbkefhoapnaciaaGreatPkBf
import Derived.Test.YtbkefhoapnaciaaGreatPx0KvScans
import Derived.Test.YtbkefhoapnaciaaGreatRows

section
set_option linter.unusedSimpArgs false
set_option linter.unusedVariables false
namespace Go.Proofs.YtbkefhoapnaciaaGreat.kvScans
open Go.ChangeShapes Go.WideShapes Go.ChangeAt Go.RowKit Go.My wals disks kvs

theorem laidOut : laidOutB Tryz.prog = true := by kernel_rfl
theorem own : ownKnob Tryz.prog.godebug = none := by kernel_rfl





theorem ltB_asymmE {a b : Txt} (h : ltB a b = true ∨ a = b) : ltB b a = false := by
  rcases h with h | h
  · exact ltB_asymm h
  · rw [h]; exact ltB_irrefl b

set_option linter.unusedVariables false in
set_option maxRecDepth 100000 in
set_option maxHeartbeats 4000000 in
theorem walk (W : World) (v : Value) (ps : List PV) (hv : PutsAt W v ps) (_ : ps.length ≤ maxLen) (hz : ∀ p ∈ ps, p.sized) (fr to : Txt) (hfl : fr.length ≤ maxLen) (htl : to.length ≤ maxLen) (mid : Txt) (hml : mid.length ≤ maxLen) : Calls Tryz.prog 6 #[v, .agg #[strV fr, strV to], strV mid] W fun e w' => e = .returned (.bool true) ∧ Chg (fun _ => False) W w' := by
  have HSm := Lib.hid (fun w (hc : Chg (fun _ => False) W w) => small_any w v ps (hv.kept hc (fun _ _ h => h)) hz)
  obtain ⟨oa, cap, rfl, -⟩ := hv
  obtain ⟨sf, hsf⟩ : ∃ s : ByteArray, strV fr = .string s := ⟨_, rfl⟩
  obtain ⟨st, hst⟩ : ∃ s : ByteArray, strV to = .string s := ⟨_, rfl⟩
  obtain ⟨sm, hsm⟩ : ∃ s : ByteArray, strV mid = .string s := ⟨_, rfl⟩
  have HF := Lib.hid hsf
  have HT := Lib.hid hst
  have HM := Lib.hid hsm
  rw [hsf, hst, hsm]
  have HWk := Lib.hid works_any
  obtain ⟨S, hS⟩ : ∃ S, smallP ps = S := ⟨_, rfl⟩
  have hSl : S.length ≤ 70 := by rw [← hS]; exact smallP_len ps
  rw [hS] at HSm
  have HSl := Lib.hid hSl
  have HB := Lib.hid (Blank.new 400 (by omega) (by omega))
  clear hS hz hfl htl hml hsf hst hsm hSl
  go_enter Tryz.func6, Tryz.ntmps6
  have hc1 : Chg (fun _ => False) W (W.alloc (.cells #[.string sf, .string st] 48)) := (Chg.refl _ _).alloc _
  have q0 : ∀ n : FreshW (W.alloc (.cells #[.string sf, .string st] 48)), n.val.cell? ⟨W.heap.size, 0, none⟩ = some (.string sf) := fun n => n.chg.cell (cell_of_block (block_alloc_new _ _) rfl) id
  have q1 : ∀ n : FreshW (W.alloc (.cells #[.string sf, .string st] 48)), n.val.cell? ⟨W.heap.size, 1, none⟩ = some (.string st) := fun n => n.chg.cell (cell_of_block (block_alloc_new _ _) rfl) id
  have HC1 := Lib.hid hc1
  clear hc1
  go_wp2_with fail
  refine wp_region_fresh (by kernel_rfl) (by kernel_rfl) ?_
  repeat (go_big_quiet_step (fail))
  refine wpQuiet_nil ?_
  rintro _ ⟨n1, rfl⟩
  clear q0 q1
  obtain ⟨w1, hw1⟩ : ∃ w1, n1.val = w1 := ⟨_, rfl⟩
  have hc1 : Chg (fun _ => False) W w1 := by rw [← hw1]; exact HC1.out.trans' n1.chg
  rw [hw1]
  have HNew := Lib.hid (ds_new W w1 hc1 400 (by omega) (by omega))
  clear hc1 hw1 HC1
  go_wp2_with (first
    | (go_at_call 17; fail))
  refine HNew.out.mono ?_
  rintro e w2 ⟨d, rfl, P, hd⟩
  have HO := Lib.hid (ks_open_new w2 hd HB.out rfl)
  clear hd HNew
  dsimp only
  go_wp2_with (first
    | (go_at_call 18; fail))
  refine HO.out.mono ?_
  rintro e w3 ⟨b, rfl, l, q, m, X, recs, s, a, P3, hk3, rfl, rfl, hst, hf, hlen⟩
  have HK3 := Lib.hid hk3
  have HS3 := Lib.hid (And.intro hst hf)
  clear hk3 hst hf hlen HO HB
  dsimp only
  go_wp2_with (first
    | (go_at_call 16; fail))
  refine (HSm.out w3 HK3.out.ks.chg).mono ?_
  rintro e w4 ⟨v4, rfl, hp4, hc4⟩
  obtain ⟨oa4, cap4, rfl, -⟩ := hp4.slice
  rw [List.length_map] at *
  have HDo := Lib.hid (ks_do w4 (HK3.out.ks.fresh hc4) HS3.out.1 (by omega) HK3.out.rep (by rw [HS3.out.2]; omega) hp4 (by have := HSl.out; omega) (fun g hg => HK3.out.ks.made (hp4.lt hg).1 (hp4.lt hg).2))
  clear hp4 hc4 HSm
  dsimp only
  go_wp2_with (first
    | (go_at_call 19; fail))
  refine HDo.out.mono ?_
  rintro e w5 ⟨z, rfl, X5, V5, m5, P5, hn5, ho5⟩
  obtain ⟨recs5, s5, a5, rfl, -, -, hst5, hr5, -, -, -⟩ := ho5.free HS3.out.2 HS3.out.1 HK3.out.rep
  have hfew := hr5.few hst5
  have hs5 := kat_scan hn5.ks.at' (by omega) fr to
  rw [HF.out, HT.out] at hs5
  have HSc := Lib.hid hs5
  have HK5 := Lib.hid hn5.ks
  have HR5 := Lib.hid hr5
  have HFew := Lib.hid hfew
  have HM5 := Lib.hid (show m5.length ≤ 1000000 by omega)
  clear hn5 ho5 hst5 hr5 hfew hs5 HDo HK3 HS3 HSl
  dsimp only
  go_wp2_with (first
    | (go_at_call 21; fail))
  refine HSc.out.mono ?_
  rintro e w6 ⟨v6, rfl, hp6, hc6⟩
  obtain ⟨oa6, cap6, rfl, -⟩ := hp6.slice
  rw [List.length_map, List.length_map] at *
  obtain ⟨N, hN⟩ : ∃ N, (scanF m5 fr to).length = N := ⟨_, rfl⟩
  rw [hN]
  have hNi : (N : Int) ≤ 65504 := by have h1 : (scanF m5 fr to).length ≤ (sortF m5).length := List.length_filter_le _ _; rw [sortF_len] at h1; have := HFew.out; omega
  rw [hN] at hp6
  have HP6 := Lib.hid hp6
  have HK6 := Lib.hid (HK5.out.fresh hc6)
  have HN := Lib.hid hN
  clear hp6 hc6 hN HSc HK5
  dsimp only
  go_wp2_with fail
  go_loopw [47] (fun j wr => ∃ k : Nat, j = .int .i64 k ∧ k ≤ N ∧ Chg (fun _ => False) w6 wr) (fun j _ => N - (intOf j).toNat)
  · exact ⟨0, rfl, Nat.zero_le _, Chg.refl _ _⟩
  obtain ⟨k, rfl, hk, hc⟩ := hrel
  have HCr := Lib.hid hc
  clear hc
  by_cases hlt : k < N
  · have hki : (k : Int) < (N : Int) := by omega
    obtain ⟨g', cap', p, e1, hr, d0, d1, d2⟩ := put_cells (HP6.out.kept HCr.out (fun _ _ h => h)) (k := k) (by rw [List.length_map, HN.out]; exact hlt)
    rw [List.length_map, HN.out] at e1
    simp only [Value.slice.injEq] at e1
    obtain ⟨rfl, -, -⟩ := e1
    rw [List.getElem?_map] at hr
    obtain ⟨⟨pk, pv⟩, hp⟩ : ∃ x, (scanF m5 fr to)[k]? = some x := ⟨_, List.getElem?_eq_getElem (by rw [HN.out]; exact hlt)⟩
    rw [hp] at hr
    cases hr
    obtain ⟨hms, hin⟩ := List.mem_filter.1 (List.mem_of_getElem? hp)
    have hmem : (pk, pv) ∈ m5 := (sortF_perm m5).mem_iff.1 hms
    have hgm : mget m5 pk = some pv := mem_mget HR5.out.nd hmem
    have hkl : pk.length ≤ maxLen := by have := (may_key (HR5.out.may _ hmem)).2.1; have h2 : (ofKV (pk, pv)).key.length = pk.length := rfl; unfold maxLen; omega
    have hget := kat_get (HK6.out.fresh HCr.out).at' pk hkl
    rw [hgm] at hget
    unfold ofKV at d0 d1
    simp only at d0 d1
    obtain ⟨sk, hsk⟩ : ∃ s : ByteArray, strV pk = .string s := ⟨_, rfl⟩
    obtain ⟨sv, hsv⟩ : ∃ s : ByteArray, strV pv = .string s := ⟨_, rfl⟩
    simp only [Option.getD_some, Option.isSome_some] at hget
    rw [hsk] at d0 hget
    rw [hsv] at d1 hget
    have HGet := Lib.hid hget
    have esk : sk.toList = pk := by rw [strV_string pk sk hsk, Lib.toList_data]
    have esf : sf.toList = fr := by rw [strV_string fr sf HF.out, Lib.toList_data]
    have est : st.toList = to := by rw [strV_string to st HT.out, Lib.toList_data]
    unfold inScan at hin
    simp only [Bool.and_eq_true, Bool.not_eq_true', Bool.or_eq_true, decide_eq_true_eq] at hin
    have q1 : Op.bytesLess sk.toList sf.toList = false := by rw [esk, esf]; exact hin.1
    by_cases hto : to = []
    · have q2 : (st.toList == ([] : List UInt8)) = true := by rw [est, hto]; rfl
      clear hms hin hmem hgm hkl hget hsk hsv esk esf est hto hp d2
      go_wp2_with (first
        | (go_at_call 22; refine HGet.out.mono ?_; rintro e w' ⟨rfl, rfl⟩))
      exact ⟨⟨k + 1, by go_num, by omega, HCr.out⟩, by simp [intOf]; omega⟩
    · have q2 : (st.toList == ([] : List UInt8)) = false := by rw [est]; simpa using hto
      have q3 : Op.bytesLess sk.toList st.toList = true := by rw [esk, est]; exact hin.2.resolve_left hto
      clear hms hin hmem hgm hkl hget hsk hsv esk esf est hto hp d2
      go_wp2_with (first
        | (go_at_call 22; refine HGet.out.mono ?_; rintro e w' ⟨rfl, rfl⟩))
      exact ⟨⟨k + 1, by go_num, by omega, HCr.out⟩, by simp [intOf]; omega⟩
  · have hki : ¬ (k : Int) < (N : Int) := by omega
    obtain rfl : k = N := by omega
    have HC67 := HCr
    have HK7 := Lib.hid (HK6.out.fresh HCr.out)
    have esf : sf.toList = fr := by rw [strV_string fr sf HF.out, Lib.toList_data]
    have est : st.toList = to := by rw [strV_string to st HT.out, Lib.toList_data]
    have esm : sm.toList = mid := by rw [strV_string mid sm HM.out, Lib.toList_data]
    have r1 : Op.bytesLess sf.toList sm.toList = ltB fr mid := by rw [esf, esm]; rfl
    have r2 : (sf.toList == sm.toList) = decide (fr = mid) := by rw [esf, esm]; by_cases h : fr = mid <;> simp [h]
    have r3 : Op.bytesLess sm.toList st.toList = ltB mid to := by rw [esm, est]; rfl
    have r4 : (st.toList == ([] : List UInt8)) = decide (to = []) := by rw [est]; by_cases h : to = [] <;> simp [h]
    have r5 : (sm.toList == ([] : List UInt8)) = decide (mid = []) := by rw [esm]; by_cases h : mid = [] <;> simp [h]
    clear esf est esm hki hlt hk
    have HN7 := Lib.hid (HFew.out)
    by_cases c1 : ltB fr mid = true ∨ fr = mid
    · have HLe := Lib.hid c1
      rcases c1 with h | h
      · rw [h] at r1
        clear r2 h
        by_cases h3 : ltB mid to = true
        · rw [h3] at r3
          have HTo := Lib.hid (show to = [] ∨ ltB mid to = true from Or.inr h3)
          clear h3 r4
          by_cases h5 : mid = []
          · rw [decide_eq_true h5] at r5
            clear h5
            have HSw := Lib.hid (show Calls Tryz.prog 21 #[.pointer (some ⟨b, 0, none⟩), .string ⟨#[]⟩, .string ⟨#[]⟩] wr fun e w' => ∃ v, e = .returned v ∧ Puts w' (wr).heap.size v ((sortF m5).map ofKV) ∧ Chg (fun _ => False) wr w' from by have := kat_scan HK7.out.at' HM5.out [] []; rw [scan_whole] at this; exact this)
            go_wp2_with (first
              | (go_at_call 21; refine HSw.out.mono ?_; rintro e w11 ⟨v11, rfl, hp11, hc11⟩
                 obtain ⟨oa11, cap11, rfl, -⟩ := hp11.slice
                 rw [List.length_map, List.length_map, sortF_len]
                 have HK11 := Lib.hid (HK7.out.fresh hc11)
                 have HLe := Lib.hid (kat_len HK11.out.at')
                 clear hp11 hc11)
              | (go_at_call 20; refine HLe.out.mono ?_; rintro e w' ⟨rfl, rfl⟩)
              | (go_at_call 15; refine (HWk.out _).mono ?_; rintro e w12 ⟨rfl, hc12⟩; have HC12 := Lib.hid hc12; clear hc12))
            go_ret
            exact ⟨rfl, HK11.out.chg.trans' HC12.out⟩
          · rw [decide_eq_false h5] at r5
            have HMid := Lib.hid h5
            clear h5
            have hsp := scan_split HK7.out.at'.db.map.nodup (ltB_asymmE HLe.out) HTo.out HMid.out
            have HSp := Lib.hid hsp
            have hs1 := kat_scan HK7.out.at' HM5.out fr mid
            rw [HF.out, HM.out] at hs1
            have HS1 := Lib.hid hs1
            clear hsp hs1
            go_wp2_with (first
              | (go_at_call 21; fail))
            refine HS1.out.mono ?_
            rintro e w8 ⟨v8, rfl, hp8, hc8⟩
            obtain ⟨oa8, cap8, rfl, -⟩ := hp8.slice
            rw [List.length_map, List.length_map] at *
            have HK8 := Lib.hid (HK7.out.fresh hc8)
            have hs2 := kat_scan HK8.out.at' HM5.out mid to
            rw [HM.out, HT.out] at hs2
            have HS2 := Lib.hid hs2
            have HP8 := Lib.hid hp8
            have HC8 := Lib.hid hc8
            clear hp8 hc8 hs2 HS1
            dsimp only
            go_wp2_with (first
              | (go_at_call 21; fail))
            refine HS2.out.mono ?_
            rintro e w9 ⟨v9, rfl, hp9, hc9⟩
            obtain ⟨oa9, cap9, rfl, -⟩ := hp9.slice
            rw [List.length_map, List.length_map] at *
            have hlA : (scanF m5 fr mid).length ≤ 65504 := Nat.le_trans (List.length_filter_le _ _) (by rw [sortF_len]; exact HFew.out)
            have hlB : (scanF m5 mid to).length ≤ 65504 := Nat.le_trans (List.length_filter_le _ _) (by rw [sortF_len]; exact HFew.out)
            obtain ⟨v10, w10, hap, hp10, hc10⟩ := append_puts (HP8.out.kept hc9 (fun _ _ h => h)) hp9 (by have := HC8.out.size; have := hc9.size; omega) (by rw [List.length_map, List.length_map]; omega) 22
            have hcn10 : Chg (fun _ => False) wr w10 := (HC8.out.trans' hc9).new hc10 (fun i e => (HP8.out.lt e.symm).1)
            rw [← List.map_append, ← HSp.out] at hp10
            obtain ⟨oa10, cap10, rfl, -⟩ := hp10.slice
            rw [List.length_map, List.length_map, HN.out] at hp10 hap
            have HSa := Lib.hid (same_yes w10 (puts_putsAt (HP6.out.kept (HC67.out.trans' hcn10) (fun _ _ h => h))) (puts_putsAt hp10) (by rw [List.length_map]; have := Nat.le_trans (List.length_filter_le (inScan fr to) (sortF m5)) (by rw [sortF_len]; exact HFew.out); unfold scanF; omega))
            have HAp := Lib.hid hap
            have HK10 := Lib.hid (HK7.out.fresh hcn10)
            clear hp9 hc9 hp10 hc10 hap hcn10 hlA hlB HS2
            dsimp only
            go_wp2_with (first
              | (at_builtin; refine Lib.wpList_append_run _ rfl _ _ _ _ rfl _ _ rfl rfl _ _ HAp.out ?_)
              | (go_at_call 14; fail))
            refine HSa.out.mono ?_
            rintro e w13 ⟨rfl, hc13⟩
            have HK13 := Lib.hid (HK10.out.fresh hc13)
            clear hc13 HSa
            dsimp only
            have HSw := Lib.hid (show Calls Tryz.prog 21 #[.pointer (some ⟨b, 0, none⟩), .string ⟨#[]⟩, .string ⟨#[]⟩] w13 fun e w' => ∃ v, e = .returned v ∧ Puts w' (w13).heap.size v ((sortF m5).map ofKV) ∧ Chg (fun _ => False) w13 w' from by have := kat_scan HK13.out.at' HM5.out [] []; rw [scan_whole] at this; exact this)
            go_wp2_with (first
              | (go_at_call 21; refine HSw.out.mono ?_; rintro e w11 ⟨v11, rfl, hp11, hc11⟩
                 obtain ⟨oa11, cap11, rfl, -⟩ := hp11.slice
                 rw [List.length_map, List.length_map, sortF_len]
                 have HK11 := Lib.hid (HK13.out.fresh hc11)
                 have HLe := Lib.hid (kat_len HK11.out.at')
                 clear hp11 hc11)
              | (go_at_call 20; refine HLe.out.mono ?_; rintro e w' ⟨rfl, rfl⟩)
              | (go_at_call 15; refine (HWk.out _).mono ?_; rintro e w12 ⟨rfl, hc12⟩; have HC12 := Lib.hid hc12; clear hc12))
            go_ret
            exact ⟨rfl, HK11.out.chg.trans' HC12.out⟩
        · rw [Bool.eq_false_iff.2 h3] at r3
          clear h3
          by_cases h4 : to = []
          · rw [decide_eq_true h4] at r4
            have HTo := Lib.hid (show to = [] ∨ ltB mid to = true from Or.inl h4)
            clear h4
            by_cases h5 : mid = []
            · rw [decide_eq_true h5] at r5
              clear h5
              have HSw := Lib.hid (show Calls Tryz.prog 21 #[.pointer (some ⟨b, 0, none⟩), .string ⟨#[]⟩, .string ⟨#[]⟩] wr fun e w' => ∃ v, e = .returned v ∧ Puts w' (wr).heap.size v ((sortF m5).map ofKV) ∧ Chg (fun _ => False) wr w' from by have := kat_scan HK7.out.at' HM5.out [] []; rw [scan_whole] at this; exact this)
              go_wp2_with (first
                | (go_at_call 21; refine HSw.out.mono ?_; rintro e w11 ⟨v11, rfl, hp11, hc11⟩
                   obtain ⟨oa11, cap11, rfl, -⟩ := hp11.slice
                   rw [List.length_map, List.length_map, sortF_len]
                   have HK11 := Lib.hid (HK7.out.fresh hc11)
                   have HLe := Lib.hid (kat_len HK11.out.at')
                   clear hp11 hc11)
                | (go_at_call 20; refine HLe.out.mono ?_; rintro e w' ⟨rfl, rfl⟩)
                | (go_at_call 15; refine (HWk.out _).mono ?_; rintro e w12 ⟨rfl, hc12⟩; have HC12 := Lib.hid hc12; clear hc12))
              go_ret
              exact ⟨rfl, HK11.out.chg.trans' HC12.out⟩
            · rw [decide_eq_false h5] at r5
              have HMid := Lib.hid h5
              clear h5
              have hsp := scan_split HK7.out.at'.db.map.nodup (ltB_asymmE HLe.out) HTo.out HMid.out
              have HSp := Lib.hid hsp
              have hs1 := kat_scan HK7.out.at' HM5.out fr mid
              rw [HF.out, HM.out] at hs1
              have HS1 := Lib.hid hs1
              clear hsp hs1
              go_wp2_with (first
                | (go_at_call 21; fail))
              refine HS1.out.mono ?_
              rintro e w8 ⟨v8, rfl, hp8, hc8⟩
              obtain ⟨oa8, cap8, rfl, -⟩ := hp8.slice
              rw [List.length_map, List.length_map] at *
              have HK8 := Lib.hid (HK7.out.fresh hc8)
              have hs2 := kat_scan HK8.out.at' HM5.out mid to
              rw [HM.out, HT.out] at hs2
              have HS2 := Lib.hid hs2
              have HP8 := Lib.hid hp8
              have HC8 := Lib.hid hc8
              clear hp8 hc8 hs2 HS1
              dsimp only
              go_wp2_with (first
                | (go_at_call 21; fail))
              refine HS2.out.mono ?_
              rintro e w9 ⟨v9, rfl, hp9, hc9⟩
              obtain ⟨oa9, cap9, rfl, -⟩ := hp9.slice
              rw [List.length_map, List.length_map] at *
              have hlA : (scanF m5 fr mid).length ≤ 65504 := Nat.le_trans (List.length_filter_le _ _) (by rw [sortF_len]; exact HFew.out)
              have hlB : (scanF m5 mid to).length ≤ 65504 := Nat.le_trans (List.length_filter_le _ _) (by rw [sortF_len]; exact HFew.out)
              obtain ⟨v10, w10, hap, hp10, hc10⟩ := append_puts (HP8.out.kept hc9 (fun _ _ h => h)) hp9 (by have := HC8.out.size; have := hc9.size; omega) (by rw [List.length_map, List.length_map]; omega) 22
              have hcn10 : Chg (fun _ => False) wr w10 := (HC8.out.trans' hc9).new hc10 (fun i e => (HP8.out.lt e.symm).1)
              rw [← List.map_append, ← HSp.out] at hp10
              obtain ⟨oa10, cap10, rfl, -⟩ := hp10.slice
              rw [List.length_map, List.length_map, HN.out] at hp10 hap
              have HSa := Lib.hid (same_yes w10 (puts_putsAt (HP6.out.kept (HC67.out.trans' hcn10) (fun _ _ h => h))) (puts_putsAt hp10) (by rw [List.length_map]; have := Nat.le_trans (List.length_filter_le (inScan fr to) (sortF m5)) (by rw [sortF_len]; exact HFew.out); unfold scanF; omega))
              have HAp := Lib.hid hap
              have HK10 := Lib.hid (HK7.out.fresh hcn10)
              clear hp9 hc9 hp10 hc10 hap hcn10 hlA hlB HS2
              dsimp only
              go_wp2_with (first
                | (at_builtin; refine Lib.wpList_append_run _ rfl _ _ _ _ rfl _ _ rfl rfl _ _ HAp.out ?_)
                | (go_at_call 14; fail))
              refine HSa.out.mono ?_
              rintro e w13 ⟨rfl, hc13⟩
              have HK13 := Lib.hid (HK10.out.fresh hc13)
              clear hc13 HSa
              dsimp only
              have HSw := Lib.hid (show Calls Tryz.prog 21 #[.pointer (some ⟨b, 0, none⟩), .string ⟨#[]⟩, .string ⟨#[]⟩] w13 fun e w' => ∃ v, e = .returned v ∧ Puts w' (w13).heap.size v ((sortF m5).map ofKV) ∧ Chg (fun _ => False) w13 w' from by have := kat_scan HK13.out.at' HM5.out [] []; rw [scan_whole] at this; exact this)
              go_wp2_with (first
                | (go_at_call 21; refine HSw.out.mono ?_; rintro e w11 ⟨v11, rfl, hp11, hc11⟩
                   obtain ⟨oa11, cap11, rfl, -⟩ := hp11.slice
                   rw [List.length_map, List.length_map, sortF_len]
                   have HK11 := Lib.hid (HK13.out.fresh hc11)
                   have HLe := Lib.hid (kat_len HK11.out.at')
                   clear hp11 hc11)
                | (go_at_call 20; refine HLe.out.mono ?_; rintro e w' ⟨rfl, rfl⟩)
                | (go_at_call 15; refine (HWk.out _).mono ?_; rintro e w12 ⟨rfl, hc12⟩; have HC12 := Lib.hid hc12; clear hc12))
              go_ret
              exact ⟨rfl, HK11.out.chg.trans' HC12.out⟩
          · rw [decide_eq_false h4] at r4
            clear h4 r5
            have HSw := Lib.hid (show Calls Tryz.prog 21 #[.pointer (some ⟨b, 0, none⟩), .string ⟨#[]⟩, .string ⟨#[]⟩] wr fun e w' => ∃ v, e = .returned v ∧ Puts w' (wr).heap.size v ((sortF m5).map ofKV) ∧ Chg (fun _ => False) wr w' from by have := kat_scan HK7.out.at' HM5.out [] []; rw [scan_whole] at this; exact this)
            go_wp2_with (first
              | (go_at_call 21; refine HSw.out.mono ?_; rintro e w11 ⟨v11, rfl, hp11, hc11⟩
                 obtain ⟨oa11, cap11, rfl, -⟩ := hp11.slice
                 rw [List.length_map, List.length_map, sortF_len]
                 have HK11 := Lib.hid (HK7.out.fresh hc11)
                 have HLe := Lib.hid (kat_len HK11.out.at')
                 clear hp11 hc11)
              | (go_at_call 20; refine HLe.out.mono ?_; rintro e w' ⟨rfl, rfl⟩)
              | (go_at_call 15; refine (HWk.out _).mono ?_; rintro e w12 ⟨rfl, hc12⟩; have HC12 := Lib.hid hc12; clear hc12))
            go_ret
            exact ⟨rfl, HK11.out.chg.trans' HC12.out⟩
      · rw [decide_eq_true h] at r2
        clear r1 h
        by_cases h3 : ltB mid to = true
        · rw [h3] at r3
          have HTo := Lib.hid (show to = [] ∨ ltB mid to = true from Or.inr h3)
          clear h3 r4
          by_cases h5 : mid = []
          · rw [decide_eq_true h5] at r5
            clear h5
            have HSw := Lib.hid (show Calls Tryz.prog 21 #[.pointer (some ⟨b, 0, none⟩), .string ⟨#[]⟩, .string ⟨#[]⟩] wr fun e w' => ∃ v, e = .returned v ∧ Puts w' (wr).heap.size v ((sortF m5).map ofKV) ∧ Chg (fun _ => False) wr w' from by have := kat_scan HK7.out.at' HM5.out [] []; rw [scan_whole] at this; exact this)
            go_wp2_with (first
              | (go_at_call 21; refine HSw.out.mono ?_; rintro e w11 ⟨v11, rfl, hp11, hc11⟩
                 obtain ⟨oa11, cap11, rfl, -⟩ := hp11.slice
                 rw [List.length_map, List.length_map, sortF_len]
                 have HK11 := Lib.hid (HK7.out.fresh hc11)
                 have HLe := Lib.hid (kat_len HK11.out.at')
                 clear hp11 hc11)
              | (go_at_call 20; refine HLe.out.mono ?_; rintro e w' ⟨rfl, rfl⟩)
              | (go_at_call 15; refine (HWk.out _).mono ?_; rintro e w12 ⟨rfl, hc12⟩; have HC12 := Lib.hid hc12; clear hc12))
            go_ret
            exact ⟨rfl, HK11.out.chg.trans' HC12.out⟩
          · rw [decide_eq_false h5] at r5
            have HMid := Lib.hid h5
            clear h5
            have hsp := scan_split HK7.out.at'.db.map.nodup (ltB_asymmE HLe.out) HTo.out HMid.out
            have HSp := Lib.hid hsp
            have hs1 := kat_scan HK7.out.at' HM5.out fr mid
            rw [HF.out, HM.out] at hs1
            have HS1 := Lib.hid hs1
            clear hsp hs1
            go_wp2_with (first
              | (go_at_call 21; fail))
            refine HS1.out.mono ?_
            rintro e w8 ⟨v8, rfl, hp8, hc8⟩
            obtain ⟨oa8, cap8, rfl, -⟩ := hp8.slice
            rw [List.length_map, List.length_map] at *
            have HK8 := Lib.hid (HK7.out.fresh hc8)
            have hs2 := kat_scan HK8.out.at' HM5.out mid to
            rw [HM.out, HT.out] at hs2
            have HS2 := Lib.hid hs2
            have HP8 := Lib.hid hp8
            have HC8 := Lib.hid hc8
            clear hp8 hc8 hs2 HS1
            dsimp only
            go_wp2_with (first
              | (go_at_call 21; fail))
            refine HS2.out.mono ?_
            rintro e w9 ⟨v9, rfl, hp9, hc9⟩
            obtain ⟨oa9, cap9, rfl, -⟩ := hp9.slice
            rw [List.length_map, List.length_map] at *
            have hlA : (scanF m5 fr mid).length ≤ 65504 := Nat.le_trans (List.length_filter_le _ _) (by rw [sortF_len]; exact HFew.out)
            have hlB : (scanF m5 mid to).length ≤ 65504 := Nat.le_trans (List.length_filter_le _ _) (by rw [sortF_len]; exact HFew.out)
            obtain ⟨v10, w10, hap, hp10, hc10⟩ := append_puts (HP8.out.kept hc9 (fun _ _ h => h)) hp9 (by have := HC8.out.size; have := hc9.size; omega) (by rw [List.length_map, List.length_map]; omega) 22
            have hcn10 : Chg (fun _ => False) wr w10 := (HC8.out.trans' hc9).new hc10 (fun i e => (HP8.out.lt e.symm).1)
            rw [← List.map_append, ← HSp.out] at hp10
            obtain ⟨oa10, cap10, rfl, -⟩ := hp10.slice
            rw [List.length_map, List.length_map, HN.out] at hp10 hap
            have HSa := Lib.hid (same_yes w10 (puts_putsAt (HP6.out.kept (HC67.out.trans' hcn10) (fun _ _ h => h))) (puts_putsAt hp10) (by rw [List.length_map]; have := Nat.le_trans (List.length_filter_le (inScan fr to) (sortF m5)) (by rw [sortF_len]; exact HFew.out); unfold scanF; omega))
            have HAp := Lib.hid hap
            have HK10 := Lib.hid (HK7.out.fresh hcn10)
            clear hp9 hc9 hp10 hc10 hap hcn10 hlA hlB HS2
            dsimp only
            go_wp2_with (first
              | (at_builtin; refine Lib.wpList_append_run _ rfl _ _ _ _ rfl _ _ rfl rfl _ _ HAp.out ?_)
              | (go_at_call 14; fail))
            refine HSa.out.mono ?_
            rintro e w13 ⟨rfl, hc13⟩
            have HK13 := Lib.hid (HK10.out.fresh hc13)
            clear hc13 HSa
            dsimp only
            have HSw := Lib.hid (show Calls Tryz.prog 21 #[.pointer (some ⟨b, 0, none⟩), .string ⟨#[]⟩, .string ⟨#[]⟩] w13 fun e w' => ∃ v, e = .returned v ∧ Puts w' (w13).heap.size v ((sortF m5).map ofKV) ∧ Chg (fun _ => False) w13 w' from by have := kat_scan HK13.out.at' HM5.out [] []; rw [scan_whole] at this; exact this)
            go_wp2_with (first
              | (go_at_call 21; refine HSw.out.mono ?_; rintro e w11 ⟨v11, rfl, hp11, hc11⟩
                 obtain ⟨oa11, cap11, rfl, -⟩ := hp11.slice
                 rw [List.length_map, List.length_map, sortF_len]
                 have HK11 := Lib.hid (HK13.out.fresh hc11)
                 have HLe := Lib.hid (kat_len HK11.out.at')
                 clear hp11 hc11)
              | (go_at_call 20; refine HLe.out.mono ?_; rintro e w' ⟨rfl, rfl⟩)
              | (go_at_call 15; refine (HWk.out _).mono ?_; rintro e w12 ⟨rfl, hc12⟩; have HC12 := Lib.hid hc12; clear hc12))
            go_ret
            exact ⟨rfl, HK11.out.chg.trans' HC12.out⟩
        · rw [Bool.eq_false_iff.2 h3] at r3
          clear h3
          by_cases h4 : to = []
          · rw [decide_eq_true h4] at r4
            have HTo := Lib.hid (show to = [] ∨ ltB mid to = true from Or.inl h4)
            clear h4
            by_cases h5 : mid = []
            · rw [decide_eq_true h5] at r5
              clear h5
              have HSw := Lib.hid (show Calls Tryz.prog 21 #[.pointer (some ⟨b, 0, none⟩), .string ⟨#[]⟩, .string ⟨#[]⟩] wr fun e w' => ∃ v, e = .returned v ∧ Puts w' (wr).heap.size v ((sortF m5).map ofKV) ∧ Chg (fun _ => False) wr w' from by have := kat_scan HK7.out.at' HM5.out [] []; rw [scan_whole] at this; exact this)
              go_wp2_with (first
                | (go_at_call 21; refine HSw.out.mono ?_; rintro e w11 ⟨v11, rfl, hp11, hc11⟩
                   obtain ⟨oa11, cap11, rfl, -⟩ := hp11.slice
                   rw [List.length_map, List.length_map, sortF_len]
                   have HK11 := Lib.hid (HK7.out.fresh hc11)
                   have HLe := Lib.hid (kat_len HK11.out.at')
                   clear hp11 hc11)
                | (go_at_call 20; refine HLe.out.mono ?_; rintro e w' ⟨rfl, rfl⟩)
                | (go_at_call 15; refine (HWk.out _).mono ?_; rintro e w12 ⟨rfl, hc12⟩; have HC12 := Lib.hid hc12; clear hc12))
              go_ret
              exact ⟨rfl, HK11.out.chg.trans' HC12.out⟩
            · rw [decide_eq_false h5] at r5
              have HMid := Lib.hid h5
              clear h5
              have hsp := scan_split HK7.out.at'.db.map.nodup (ltB_asymmE HLe.out) HTo.out HMid.out
              have HSp := Lib.hid hsp
              have hs1 := kat_scan HK7.out.at' HM5.out fr mid
              rw [HF.out, HM.out] at hs1
              have HS1 := Lib.hid hs1
              clear hsp hs1
              go_wp2_with (first
                | (go_at_call 21; fail))
              refine HS1.out.mono ?_
              rintro e w8 ⟨v8, rfl, hp8, hc8⟩
              obtain ⟨oa8, cap8, rfl, -⟩ := hp8.slice
              rw [List.length_map, List.length_map] at *
              have HK8 := Lib.hid (HK7.out.fresh hc8)
              have hs2 := kat_scan HK8.out.at' HM5.out mid to
              rw [HM.out, HT.out] at hs2
              have HS2 := Lib.hid hs2
              have HP8 := Lib.hid hp8
              have HC8 := Lib.hid hc8
              clear hp8 hc8 hs2 HS1
              dsimp only
              go_wp2_with (first
                | (go_at_call 21; fail))
              refine HS2.out.mono ?_
              rintro e w9 ⟨v9, rfl, hp9, hc9⟩
              obtain ⟨oa9, cap9, rfl, -⟩ := hp9.slice
              rw [List.length_map, List.length_map] at *
              have hlA : (scanF m5 fr mid).length ≤ 65504 := Nat.le_trans (List.length_filter_le _ _) (by rw [sortF_len]; exact HFew.out)
              have hlB : (scanF m5 mid to).length ≤ 65504 := Nat.le_trans (List.length_filter_le _ _) (by rw [sortF_len]; exact HFew.out)
              obtain ⟨v10, w10, hap, hp10, hc10⟩ := append_puts (HP8.out.kept hc9 (fun _ _ h => h)) hp9 (by have := HC8.out.size; have := hc9.size; omega) (by rw [List.length_map, List.length_map]; omega) 22
              have hcn10 : Chg (fun _ => False) wr w10 := (HC8.out.trans' hc9).new hc10 (fun i e => (HP8.out.lt e.symm).1)
              rw [← List.map_append, ← HSp.out] at hp10
              obtain ⟨oa10, cap10, rfl, -⟩ := hp10.slice
              rw [List.length_map, List.length_map, HN.out] at hp10 hap
              have HSa := Lib.hid (same_yes w10 (puts_putsAt (HP6.out.kept (HC67.out.trans' hcn10) (fun _ _ h => h))) (puts_putsAt hp10) (by rw [List.length_map]; have := Nat.le_trans (List.length_filter_le (inScan fr to) (sortF m5)) (by rw [sortF_len]; exact HFew.out); unfold scanF; omega))
              have HAp := Lib.hid hap
              have HK10 := Lib.hid (HK7.out.fresh hcn10)
              clear hp9 hc9 hp10 hc10 hap hcn10 hlA hlB HS2
              dsimp only
              go_wp2_with (first
                | (at_builtin; refine Lib.wpList_append_run _ rfl _ _ _ _ rfl _ _ rfl rfl _ _ HAp.out ?_)
                | (go_at_call 14; fail))
              refine HSa.out.mono ?_
              rintro e w13 ⟨rfl, hc13⟩
              have HK13 := Lib.hid (HK10.out.fresh hc13)
              clear hc13 HSa
              dsimp only
              have HSw := Lib.hid (show Calls Tryz.prog 21 #[.pointer (some ⟨b, 0, none⟩), .string ⟨#[]⟩, .string ⟨#[]⟩] w13 fun e w' => ∃ v, e = .returned v ∧ Puts w' (w13).heap.size v ((sortF m5).map ofKV) ∧ Chg (fun _ => False) w13 w' from by have := kat_scan HK13.out.at' HM5.out [] []; rw [scan_whole] at this; exact this)
              go_wp2_with (first
                | (go_at_call 21; refine HSw.out.mono ?_; rintro e w11 ⟨v11, rfl, hp11, hc11⟩
                   obtain ⟨oa11, cap11, rfl, -⟩ := hp11.slice
                   rw [List.length_map, List.length_map, sortF_len]
                   have HK11 := Lib.hid (HK13.out.fresh hc11)
                   have HLe := Lib.hid (kat_len HK11.out.at')
                   clear hp11 hc11)
                | (go_at_call 20; refine HLe.out.mono ?_; rintro e w' ⟨rfl, rfl⟩)
                | (go_at_call 15; refine (HWk.out _).mono ?_; rintro e w12 ⟨rfl, hc12⟩; have HC12 := Lib.hid hc12; clear hc12))
              go_ret
              exact ⟨rfl, HK11.out.chg.trans' HC12.out⟩
          · rw [decide_eq_false h4] at r4
            clear h4 r5
            have HSw := Lib.hid (show Calls Tryz.prog 21 #[.pointer (some ⟨b, 0, none⟩), .string ⟨#[]⟩, .string ⟨#[]⟩] wr fun e w' => ∃ v, e = .returned v ∧ Puts w' (wr).heap.size v ((sortF m5).map ofKV) ∧ Chg (fun _ => False) wr w' from by have := kat_scan HK7.out.at' HM5.out [] []; rw [scan_whole] at this; exact this)
            go_wp2_with (first
              | (go_at_call 21; refine HSw.out.mono ?_; rintro e w11 ⟨v11, rfl, hp11, hc11⟩
                 obtain ⟨oa11, cap11, rfl, -⟩ := hp11.slice
                 rw [List.length_map, List.length_map, sortF_len]
                 have HK11 := Lib.hid (HK7.out.fresh hc11)
                 have HLe := Lib.hid (kat_len HK11.out.at')
                 clear hp11 hc11)
              | (go_at_call 20; refine HLe.out.mono ?_; rintro e w' ⟨rfl, rfl⟩)
              | (go_at_call 15; refine (HWk.out _).mono ?_; rintro e w12 ⟨rfl, hc12⟩; have HC12 := Lib.hid hc12; clear hc12))
            go_ret
            exact ⟨rfl, HK11.out.chg.trans' HC12.out⟩
    · rw [Bool.eq_false_iff.2 (fun h => c1 (Or.inl h))] at r1
      rw [decide_eq_false (fun h => c1 (Or.inr h))] at r2
      clear c1 r3 r4 r5
      have HSw := Lib.hid (show Calls Tryz.prog 21 #[.pointer (some ⟨b, 0, none⟩), .string ⟨#[]⟩, .string ⟨#[]⟩] wr fun e w' => ∃ v, e = .returned v ∧ Puts w' (wr).heap.size v ((sortF m5).map ofKV) ∧ Chg (fun _ => False) wr w' from by have := kat_scan HK7.out.at' HM5.out [] []; rw [scan_whole] at this; exact this)
      go_wp2_with (first
        | (go_at_call 21; refine HSw.out.mono ?_; rintro e w11 ⟨v11, rfl, hp11, hc11⟩
           obtain ⟨oa11, cap11, rfl, -⟩ := hp11.slice
           rw [List.length_map, List.length_map, sortF_len]
           have HK11 := Lib.hid (HK7.out.fresh hc11)
           have HLe := Lib.hid (kat_len HK11.out.at')
           clear hp11 hc11)
        | (go_at_call 20; refine HLe.out.mono ?_; rintro e w' ⟨rfl, rfl⟩)
        | (go_at_call 15; refine (HWk.out _).mono ?_; rintro e w12 ⟨rfl, hc12⟩; have HC12 := Lib.hid hc12; clear hc12))
      go_ret
      exact ⟨rfl, HK11.out.chg.trans' HC12.out⟩

set_option maxRecDepth 100000 in
theorem lifted (os : Os) (started : os.Started) (H : Type) (enc : TypeId × Value → H) :
    ReturnsInHanded {} Tryz.checked os 6 .any (Rows.kvScansSpec.pre6 enc Tryz.prog Tryz.f6 [] false) (Rows.kvScansSpec.post enc Tryz.prog Tryz.f6 false true false false) := by
  refine law_handed (C := Tryz.checked) (tb := 4) own started (by kernel_rfl) Tryz.func6
    (ChangeSpec.witness6 (enc := enc) (C := Tryz.checked) false ⟨#[], #[.slice none 0 0, .agg #[.string ⟨#[]⟩, .string ⟨#[]⟩], .string ⟨#[]⟩], []⟩ 8 (by kernel_rfl) (by kernel_rfl) (by kernel_rfl) (by kernel_rfl))
    laidOut (by rw [show Tryz.checked.prog = Tryz.prog from rfl, Tryz.params6]; intro t ht; simp at ht; rcases ht with rfl | rfl | rfl <;> exact ⟨by kernel_rfl, of_decide_eq_true (by kernel_rfl)⟩) rfl rfl Tryz.underlying4 ?_ ?_
  · intro ds hds
    rw [Tryz.params6] at hds
    match ds, hds with
    | [_, _, _], _ => rfl
  · intro W base args ds before hval0 hA0 _ hsz0
    have hval : ∀ (j : Nat) t v, Tryz.f6.params[j]? = some t → args[j]? = some v → Value.okWide Tryz.prog W .any base t v := hval0
    have hA : DataW.TrodAll enc Tryz.prog W 0 (fun _ => true) true Tryz.f6.params.toList args.toList ds before := hA0
    rw [Tryz.params6] at hA hval
    obtain ⟨v0, vs0, d0, ds0, p0, q0, hargs, rfl, rfl, h0, r0⟩ := trodAll_cons hA
    obtain ⟨v1, vs1, d1, ds1, p1, q1, rfl, rfl, rfl, h1, r1⟩ := trodAll_cons r0
    obtain ⟨v2, vs2, d2, ds2, p2, q2, rfl, rfl, rfl, h2, r2⟩ := trodAll_cons r1
    obtain ⟨rfl, rfl, rfl⟩ := trodAll_nil r2
    obtain rfl : args = #[v0, v1, v2] := by cases args; simp_all
    obtain ⟨ps0, g0, n0, z0⟩ := open_puts (hval 0 22 v0 rfl rfl) h0
    obtain ⟨a1, b1, rfl, za1, zb1⟩ := open_two_strs (hval 1 48 v1 rfl rfl) h1
    obtain ⟨b2, rfl, hb2⟩ := open_str (hval 2 9 v2 rfl rfl) h2
    exact walk W v0 ps0 g0 n0 z0 a1 b1 za1 zb1 b2 hb2

theorem over : Rows.kvScansRow.holds Tryz.pinned (OpenSpec.ofChange Rows.kvScansSpec) :=
  OpenClaim.holds_of_wide 6 Tryz.f6 rfl rfl rfl rfl rfl rfl rfl ⟨rfl, rfl, rfl, rfl, rfl⟩ rfl rfl rfl rfl rfl (by kernel_rfl) Tryz.func6 (by kernel_rfl)
    (of_decide_eq_true (by kernel_rfl)) (by unfold Func.isWrapper; first | (rw [if_pos (by decide +kernel)]; kernel_rfl) | (rw [if_neg (by decide +kernel)]; exact ⟨rfl, rfl⟩))
    (fun os started H enc _ => lifted os started H enc)

theorem proved : Rows.KvScansSaid := over
#print axioms proved



end Go.Proofs.YtbkefhoapnaciaaGreat.kvScans
end

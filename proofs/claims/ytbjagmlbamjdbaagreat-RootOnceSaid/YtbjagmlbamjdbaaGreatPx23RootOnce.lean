/- . -/
import Derived.Test.YtbjagmlbamjdbaaGreatPx21RootOnce
import Derived.Test.YtbjagmlbamjdbaaGreatPx22RootOnce

set_option linter.unusedSimpArgs false
set_option linter.unusedVariables false
section
namespace Go.Proofs.YtbjagmlbamjdbaaGreat.roots
open Go.RowKit Go.Maps Go.My Go.ChangeMaps disks bufs wals kvs
set_option maxRecDepth 100000

variable {W w w' : World} {P F Q G : Nat → Prop} {r kb l q d s a : Nat} {X : DV} {m : List KV} {recs : List Txt} {S : RS} {sv wv dv : Value}

theorem pks_dig {v : Value} {l : List Pk} (h : PksAt w G v l) : ∀ p ∈ l, p.dig := by
  intro p hp
  obtain ⟨oa, cap, lv, -, hlv, -, -, hly, -⟩ := h.is
  obtain ⟨i, hi⟩ := List.getElem?_of_mem hp
  have hlt := (List.getElem?_eq_some_iff.1 hi).1
  exact (hly i p (lv[i]'(by omega)) hi (List.getElem?_eq_getElem _)).dig

theorem stage_sum (L : List PV) (x : PV) (v u : Value) (h : L.length ≤ 16) : 0 < sumL [(v, [x]), (u, L)] ∧ sumL [(v, [x]), (u, L)] ≤ 1000 := by
  simp [sumL]; omega

theorem str_snoc (c : UInt8) (x : Txt) (s : ByteArray) (h : strV x = .string s) : Value.string (s ++ (⟨#[c]⟩ : ByteArray)) = strV (x ++ [c]) := by
  unfold strV at h ⊢
  simp only [Value.string.injEq] at h ⊢
  subst h
  apply ByteArray.ext
  rw [ByteArray.data_append]
  simp

set_option maxHeartbeats 4000000 in
theorem stage_go (w : World) (h : RKS P W w r kb l q d X (lvW recs s a []) m F S sv wv dv) (hQ : ∀ g, P g ∨ g = q ∨ g = r ∨ F g ∨ dv.ownBlock = some g → Q g) (hlt : ∀ g, Q g → g < w.heap.size) (hnew : ∀ g, Q g → W.heap.size ≤ g) (hgood : RGood S) (hi : sortF m = rootL S)
    (hs : Stands X recs s a) (h60 : s ≤ 1152921504606846976) (hr : Rep recs m) (hf : X.fuse ≤ 9223372036854775807) (t : Int) {v : Value} {ps : List Pk} (hp : PksAt w G v ps) (hG : ∀ b, G b → ¬ Q b ∧ b < w.heap.size) (hz : stageE S t ps = none) :
    Calls Tryz.prog 19 #[.pointer (some ⟨r, 0, none⟩), .int .i64 t, v] w fun e w' => ∃ z : Int, e = .returned (.int .i64 z) ∧ ∃ X' V' m' S', RGo Q W w w' r d X' V' m' S' ∧ (z = 0 → S' = stageS S t.toNat ps) ∧ (z ≠ 0 → S' = S) ∧ Out X recs s a m (applyF m (stageB t.toNat ps)) (DoWhy X m (stageB t.toNat ps)) z X' V' m' := by
  have hmf : ∀ (fn : Fn) (first cap : Array Value) (w : World), (Instr.makeFunc fn first cap).run Tryz.prog w = .ok (.func fn first cap) w := fun _ _ _ _ => rfl
  obtain ⟨ha0, hr0, hs0, n, rfl, n1, n2, hnd⟩ := stage_told hz
  rw [Int.toNat_natCast]
  have hd0 : decide (∃ k ∈ S.done, (k : Int) = (n : Int)) = false := by
    rw [decide_eq_false_iff_not]; rintro ⟨k, hk, e⟩; exact hnd (by have e2 : k = n := by omega
                                                                   exact e2 ▸ hk)
  have HDec := Lib.hid hd0
  have HA := Lib.hid (asked_is w h.rt n)
  rw [ha0] at HA
  have HK := Lib.hid (check_is w hp)
  rw [hr0] at HK
  have hok := SOk.of hr0
  have hrt := h.rt
  obtain ⟨od, cd, hdv, -⟩ := rows_nums hrt.done
  obtain ⟨op, cp, lp, hv, -⟩ := id hp.is
  have HRt := Lib.hid h
  have HSt := Lib.hid hs
  have H60 := Lib.hid h60
  have HRep := Lib.hid hr
  have HFu := Lib.hid hf
  have HGood := Lib.hid hgood
  have HOk := Lib.hid hok
  have HI := Lib.hid hi
  have HDv := Lib.hid hdv
  have HNd := Lib.hid (And.intro n1 (And.intro n2 hnd))
  have HQ := Lib.hid (And.intro hQ (And.intro hlt hnew))
  have HG := Lib.hid hG
  have HP := Lib.hid hp
  have HE := Lib.hid (fun (W : World) => eight_any W n (by omega))
  obtain ⟨se, hse⟩ : ∃ s, strV (eight n) = .string s := ⟨_, rfl⟩
  rw [hse] at HE
  have hs1 := str_snoc (UInt8.ofNat ps.length) _ _ hse
  have hly : ∀ (W : World) (_ : Chg (fun _ => False) w W), Calls Tryz.prog 53 #[.string ⟨#[113]⟩, v] W fun e w' => ∃ v', e = .returned v' ∧ Puts w' W.heap.size v' ((lst 113 0 ps).map ofKV) ∧ Chg (fun _ => False) W w' := fun W hW => lay_is W 113 (hp.fresh hW) hok.each (by have := hok.few; omega)
  have HLy := Lib.hid hly
  clear hly
  rw [hv] at HLy HK
  have HV := Lib.hid hv
  rw [hv]
  obtain ⟨N, hN⟩ : ∃ N, ps.length = N := ⟨_, rfl⟩
  rw [hN] at HLy HK hs1 ⊢
  have HN := Lib.hid (And.intro hN (show N ≤ 16 by rw [← hN]; exact hok.few))
  obtain ⟨tn, htn⟩ : ∃ t, strV [UInt8.ofNat N] = .string t := ⟨_, rfl⟩
  have hcv : ∀ (W : World) (b : Nat), W.heap[b]? = some (.cells #[.int .u8 (IntKind.u8.wrap (N : Int))] 5 (0, 0)) → (convert 101 9 (.slice (some ⟨b, 0, none⟩) 1 1)).run Tryz.prog W = .ok (.string tn) W := fun W b hb => by
    rw [← htn]
    refine conv_own (b := [UInt8.ofNat N]) (n := 1) (base := 0) ?_
    have := own_of_block (w := W) (base := 0) (n := 1) hb (Nat.zero_le _) rfl (by unfold maxLen; omega)
    have e : IntKind.u8.wrap (N : Int) = ((UInt8.ofNat N).toNat : Int) := by rw [IntKind.wrap_u8, UInt8.toNat_ofNat']; omega
    rw [e] at this
    exact this
  have HCv := Lib.hid hcv
  have htn2 : tn = ⟨#[UInt8.ofNat N]⟩ := by unfold strV at htn; simp only [Value.string.injEq] at htn; exact htn.symm
  rw [← htn2] at hs1
  have HS1 := Lib.hid hs1
  have hfit : ¬ 9223372036854775807 < se.size + tn.size := by
    have h1 := str_size _ se hse
    rw [eight_length] at h1
    have h2 : tn.size = 1 := str_size _ tn htn
    omega
  have hN0 : (0 : Int) ≤ (N : Int) := by omega
  have hN16 : (N : Int) ≤ 16 := by have := HN.out.2; omega
  clear h hs h60 hr hf hgood hi hQ hlt hnew hrt hdv hnd hz ha0 hr0 hd0 n1 n2 hse hp hok hG hv hN htn hcv htn2 hs1
  have h0n : ((0 : Int) == (n : Int)) = false := by have := HNd.out.1; simp; omega
  go_enter Tryz.func19, Tryz.ntmps19
  go_wp2_with (first
    | (go_at_call 49; refine HA.out.mono ?_; rintro e w' ⟨rfl, rfl⟩)
    | (go_at_call 10; refine HK.out.mono ?_; rintro e w1 ⟨rfl, hc1⟩
       have HR1 := Lib.hid (HRt.out.rt.fresh hc1)
       have HC1 := Lib.hid hc1
       have c0 : w1.cell? ⟨r, 0, none⟩ = some (.pointer (some ⟨kb, 0, none⟩)) := cell_of_block HR1.out.head rfl
       have c2 : w1.cell? ⟨r, 2, none⟩ = some (.int .i64 (0 : Int)) := by have := (cell_of_block HR1.out.head (i := 2) rfl : w1.cell? ⟨r, 2, none⟩ = some (.int .i64 (S.staged : Int))); rw [hs0] at this; exact this
       have c4 : w1.cell? ⟨r, 4, none⟩ = some (.slice od S.done.length cd) := by have := (cell_of_block HR1.out.head (i := 4) rfl : w1.cell? ⟨r, 4, none⟩ = some dv); rw [HDv.out] at this; exact this
       clear hc1)
    | (go_at_call 50; refine (has_is _ (HDv.out ▸ SlAt.of_own HR1.out.done : NumsAt _ (.slice od S.done.length cd) S.done) (by have := HR1.out.few.2.2; omega) n).mono ?_; rw [HDec.out]; rintro e w' ⟨rfl, rfl⟩))
  have HCd := Lib.hid (show Chg (fun _ => False) w1 w1.drew from (Chg.refl _ _).drew)
  have C0 := Lib.hid c0
  clear c0 c2 c4
  refine wp_region_noPanic ?_
  refine wp_region_held_drew (S := (fun _ => True)) (by kernel_rfl) (trivial) (fun hHeld => ?_)
  refine tk 0 (v := ?_) hHeld rfl (fun w hSw => ?_) ?_
  rotate_left
  · go_simp
    try with_reducible rfl
  simp only [Act.put, zA, zB, zC]
  refine tk 2 (v := ?_) hHeld rfl (fun w hSw => ?_) ?_
  rotate_left
  · go_simp
    try with_reducible rfl
  simp only [Act.put, zA, zB, zC]
  refine tk 3 (v := ?_) hHeld rfl (fun w hSw => ?_) ?_
  rotate_left
  · go_simp
    try with_reducible rfl
  simp only [Act.put, zA, zB, zC]
  refine tk 4 (v := ?_) hHeld rfl (fun w hSw => ?_) ?_
  rotate_left
  · go_simp
    try with_reducible rfl
  simp only [Act.put, zA, zB, zC]
  refine wpAnyH_ready (rs := [1, 5]) (by kernel_rfl) (by simp) (one_list (i := 1) rfl (by rfl) (fun K hK => ?_) (one_list (i := 5) rfl (by rfl) (fun K hK => ?_) AllReadyH.nil))
  · go_simp
    refine (HE.out w1.drew).mono ?_
    rintro e w2 ⟨rfl, hc2⟩
    have HC2 := Lib.hid (HCd.out.trans' hc2)
    clear hc2
    refine hK _ _ (trivial) (fun hA1 => ?_)
    try simp only [Act.put, zA, zB, zC]
    refine on1 5 rfl (fun K hK => ?_)
    go_simp
    have hca : Chg (fun _ => False) w2 (w2.alloc (.cells #[.int .u8 (IntKind.u8.wrap (N : Int))] 5)) := (Chg.refl _ _).alloc _
    have hla := block_alloc_new w2 (.cells #[.int .u8 (IntKind.u8.wrap (N : Int))] 5)
    have hcz := HC2.out.trans' hca
    clear hca
    obtain ⟨wz, hwz⟩ : ∃ wz, w2.alloc (.cells #[.int .u8 (IntKind.u8.wrap (N : Int))] 5) = wz := ⟨_, rfl⟩
    rw [hwz] at hla hcz
    have HLit := Lib.hid hla
    have HCz := Lib.hid hcz
    try rw [hwz]
    clear hwz
    refine hK _ _ (trivial) (fun hA2 => ?_)
    try simp only [Act.put, zA, zB, zC]
    refine on1 6 rfl (fun K hK => ?_)
    go_simp
    rw [HCv.out wz w2.heap.size HLit.out]
    go_simp
    refine hK _ _ (trivial) (fun hA2b => ?_)
    try simp only [Act.put, zA, zB, zC]
    refine tk 7 (v := ?_) hA2b rfl (fun w hSw => ?_) ?_
    rotate_left
    · go_simp
      try with_reducible rfl
    simp only [Act.put, zA, zB, zC]
    refine tk 8 (v := ?_) hA2b rfl (fun w hSw => ?_) ?_
    rotate_left
    · go_simp
      try with_reducible rfl
    simp only [Act.put, zA, zB, zC]
    refine on1 9 rfl (fun K hK => ?_)
    go_simp
    obtain ⟨wx, hwx⟩ : ∃ wx, wz.alloc (.cells #[.string ⟨#[116]⟩, .string (se ++ tn), .bool false] 103) = wx := ⟨_, rfl⟩
    have hcx : Chg (fun _ => False) wz wx := by rw [← hwx]; exact (Chg.refl _ _).alloc _
    have hlx : wx.heap[wz.heap.size]? = some (.cells #[.string ⟨#[116]⟩, .string (se ++ tn), .bool false] 103 (0, 0)) := by rw [← hwx]; exact block_alloc_new wz _
    have HCx := Lib.hid (HCz.out.trans' hcx)
    have HLx := Lib.hid hlx
    try rw [hwx]
    clear hwx hcx hlx
    obtain ⟨lb, hlb⟩ : ∃ lb, wz.heap.size = lb := ⟨_, rfl⟩
    rw [hlb] at HLx
    refine hK _ _ (trivial) (fun hA2c => ?_)
    try simp only [Act.put, zA, zB, zC]
    try rw [hlb]
    refine tk 10 (v := ?_) hA2c rfl (fun w hSw => ?_) ?_
    rotate_left
    · go_simp
      try with_reducible rfl
    simp only [Act.put, zA, zB, zC]
    refine wpAnyH_done (by kernel_rfl) ?_ _
    refine NoPanic.normal ?_
    clear hlb
    have d0 : wx.cell? ⟨r, 0, none⟩ = some (.pointer (some ⟨kb, 0, none⟩)) := HCx.out.cell C0.out id
    go_wp2_with fail
    have HCW := Lib.hid (HC1.out.trans' HCx.out)
    have HS := Lib.hid (fun (v : World) (hv : Chg (fun _ => False) wx v) => hv.cell d0 id)
    refine wp_region_noPanic ?_
    refine wp_region_held_drew (S := (fun w' => w'.cell? ⟨r, 0, none⟩ = some (.pointer (some ⟨kb, 0, none⟩)))) (by kernel_rfl) (d0) (fun hB => ?_)
    have HCd2 := Lib.hid (show Chg (fun _ => False) wx wx.drew from (Chg.refl _ _).drew)
    clear d0
    refine tk 0 (v := ?_) hB rfl (fun w hSw => ?_) ?_
    rotate_left
    · go_simp
      try with_reducible rfl
    simp only [Act.put, zA, zB, zC]
    refine tk 1 (v := ?_) hB rfl (fun w hSw => ?_) ?_
    rotate_left
    · go_simp
      try with_reducible rfl
    simp only [Act.put, zA, zB, zC]
    refine tk 2 (v := ?_) hB rfl (fun w hSw => ?_) ?_
    rotate_left
    · go_simp
      try with_reducible rfl
    simp only [Act.put, zA, zB, zC]
    refine tk 3 (v := ?_) hB rfl (fun w hSw => ?_) ?_
    rotate_left
    · go_simp
      try with_reducible rfl
    simp only [Act.put, zA, zB, zC]
    refine tk 4 (v := ?_) hB rfl (fun w hSw => ?_) ?_
    rotate_left
    · go_simp
      try with_reducible rfl
    simp only [Act.put, zA, zB, zC]
    refine tk 5 (v := ?_) hB rfl (fun w hSw => ?_) ?_
    rotate_left
    · go_simp
      try with_reducible rfl
    simp only [Act.put, zA, zB, zC]
    refine on1 6 rfl (fun K hK => ?_)
    go_simp
    refine (HLy.out wx.drew (HCW.out.trans' HCd2.out)).mono ?_
    rintro e wl ⟨vl, rfl, hpl, hcl⟩
    obtain ⟨og, ng, cg, hvg⟩ : ∃ og ng cg, vl = .slice og ng cg := by obtain ⟨o, c, e, -⟩ := hpl.slice; exact ⟨o, _, c, e⟩
    subst hvg
    have HCl := Lib.hid (HCd2.out.trans' hcl)
    have HLx2 := Lib.hid ((HCd2.out.trans' hcl).at HLx.out id)
    have HPl := Lib.hid hpl
    clear hcl hpl
    refine hK _ _ (HS.out wl HCl.out) (fun hB1 => ?_)
    try simp only [Act.put, zA, zB, zC]
    refine on1 7 rfl (fun K hK => ?_)
    go_simp
    obtain ⟨wy, hwy⟩ : ∃ wy, wl.alloc (.cells #[.slice (some ⟨lb, 0, none⟩) 1 1, .slice og ng cg] 66) = wy := ⟨_, rfl⟩
    have hcy : Chg (fun _ => False) wl wy := by rw [← hwy]; exact (Chg.refl _ _).alloc _
    have hyb : wy.heap[wl.heap.size]? = some (.cells (([(.slice (some ⟨lb, 0, none⟩) 1 1, [ofKV ([116], eight n ++ [UInt8.ofNat N])]), (.slice og ng cg, (lst 113 0 ps).map ofKV)] : List (Value × List PV)).map (fun x => x.1)).toArray 66 (0, 0)) := by rw [← hwy]; exact block_alloc_new wl _
    have hrow : ([.string ⟨#[116]⟩, .string (se ++ tn), .bool false] : List Value) = (([ofKV ([116], eight n ++ [UInt8.ofNat N])] : List PV).map PV.row).flatten := by
      show _ = [strV [116], strV (eight n ++ [UInt8.ofNat N]), .bool false]
      rw [← HS1.out]
      rfl
    have hlit2 : Puts wy lb (.slice (some ⟨lb, 0, none⟩) 1 1) [ofKV ([116], eight n ++ [UInt8.ofNat N])] := puts_block (ps := [ofKV ([116], eight n ++ [UInt8.ofNat N])]) (hcy.at HLx2.out id) hrow (by simp)
    have hput2 := HPl.out.kept hcy (fun _ _ h => h)
    try rw [hwy]
    clear hwy hrow
    have hsum := stage_sum ((lst 113 0 ps).map ofKV) (ofKV ([116], eight n ++ [UInt8.ofNat N])) (.slice (some ⟨lb, 0, none⟩) 1 1) (.slice og ng cg) (by rw [List.length_map, lst_len]; exact HOk.out.few)
    have HJ := Lib.hid (join_is wy _ hyb (by
      intro x hx
      simp only [List.mem_cons, List.not_mem_nil, or_false] at hx
      rcases hx with rfl | rfl
      · exact ⟨_, hlit2⟩
      · exact ⟨_, hput2⟩) hsum.1 hsum.2 (by simp))
    have HCy := Lib.hid (HCl.out.trans' hcy)
    clear hyb hlit2 hput2 hsum hcy
    refine hK _ _ (HS.out wy HCy.out) (fun hB2 => ?_)
    try simp only [Act.put, zA, zB, zC]
    refine on1 8 rfl (fun K hK => ?_)
    go_simp
    refine HJ.out.mono ?_
    rintro e w3 ⟨v3, rfl, hp3, hc3⟩
    have HCx3 := Lib.hid (HCy.out.trans' hc3)
    have HC3 := Lib.hid (HCW.out.trans' HCx3.out)
    have hp3 : Puts w3 wy.heap.size v3 (stageB n ps) := by
      have e : stageB n ps = (([(.slice (some ⟨lb, 0, none⟩) 1 1, [ofKV ([116], eight n ++ [UInt8.ofNat N])]), (.slice og ng cg, (lst 113 0 ps).map ofKV)] : List (Value × List PV)).map (fun x => x.2)).flatten := by
        unfold stageB
        rw [HN.out.1]
        simp
      rw [e]; exact hp3
    have HP3 := Lib.hid hp3
    have HLo := Lib.hid (show w.heap.size ≤ wy.heap.size from (HCW.out.trans' HCy.out).size)
    clear hc3 hp3
    refine hK _ _ (HS.out w3 HCx3.out) (fun hB3 => ?_)
    try simp only [Act.put, zA, zB, zC]
    refine on1 9 rfl (fun K hK => ?_)
    go_simp
    have hr3 := HRt.out.fresh HC3.out
    have hfit3 := stage_fits (n := n) HOk.out (pks_dig HP.out)
    have hd3 := ks_do w3 hr3.ks HSt.out H60.out HRep.out HFu.out HP3.out (by have := hfit3.few; omega) (fun g hg => HRt.out.ks.made (Nat.le_trans HLo.out (HP3.out.lt hg).1) (HP3.out.lt hg).2)
    refine hd3.mono ?_
    rintro e w4 ⟨z, rfl, X4, V4, m4, P4, hn4, ho4⟩
    have HN4 := Lib.hid hn4
    have HO4 := Lib.hid ho4
    have HR4 := Lib.hid (hr3.next hn4)
    clear hr3 hd3 hn4 ho4 hfit3
    refine hK _ _ (cell_of_block HR4.out.rt.head rfl) (fun hB4 => ?_)
    try simp only [Act.put, zA, zB, zC]
    refine tk 10 (v := ?_) hB4 rfl (fun w hSw => ?_) ?_
    rotate_left
    · go_simp
      try with_reducible rfl
    simp only [Act.put, zA, zB, zC]
    refine wpAnyH_done (by kernel_rfl) ?_ _
    refine NoPanic.normal ?_
    by_cases hz0 : z = 0
    · subst hz0
      have hp4 : PksAt w4 G v ps := (HP.out.fresh HC3.out).kept HN4.out.chg (fun k hk e => (HG.out k hk).1 (HQ.out.1 k (e.elim Or.inl (fun e => Or.inr (Or.inl e)))))
      have hll : ∀ p ∈ ps, p.man.layers.length ≤ 20 := fun p hp => by have := (mchkF_ok (HOk.out.each p hp).2.2).few; omega
      have htw := twin_is w4 hp4 (by have := HOk.out.few; omega) hll
      rw [HV.out, HN.out.1] at htw
      have HTw := Lib.hid htw
      have HLl := Lib.hid hll
      clear hp4 hll htw
      go_wp2_with (first
        | (go_at_call 48; fail))
      refine HTw.out.mono ?_
      rintro e w5 ⟨v5, rfl, hp5, hc5⟩
      obtain ⟨o5, p5, l5, hv5, -⟩ := id hp5.is
      rw [HN.out.1] at hv5
      subst hv5
      have HP5 := Lib.hid hp5
      have HC5 := Lib.hid hc5
      have hb5 := hc5.at HR4.out.rt.head id
      have b1 := block_setCell (i := 2) (v := .int .i64 (n : Int)) hb5
      have b2 := block_setCell (i := 3) (v := .slice o5 N p5) b1
      have q2 : w5.cell? ⟨r, 2, none⟩ = some (.int .i64 (S.staged : Int)) := cell_of_block hb5 rfl
      have q3 : w5.cell? ⟨r, 3, none⟩ = some wv := cell_of_block hb5 rfl
      have f2 : w5.frozen? ⟨r, 2, none⟩ = false := free_of_block hb5
      have f3 : (w5.setCell ⟨r, 2, none⟩ (.int .i64 (n : Int))).frozen? ⟨r, 3, none⟩ = false := free_of_block b1
      have HB2 := Lib.hid b2
      clear hp5 hc5 hb5 b1 b2
      dsimp only
      go_wp2_with fail
      go_ret
      obtain ⟨w6, hw6⟩ : ∃ w6, (w5.setCell ⟨r, 2, none⟩ (.int .i64 (n : Int))).setCell ⟨r, 3, none⟩ (.slice o5 N p5) = w6 := ⟨_, rfl⟩
      have hb2 := HB2.out
      rw [hw6] at hb2
      have hcr : Chg (· = r) w5 w6 := by rw [← hw6]; exact Chg.setCell (S := (· = r)) (Chg.setCell (S := (· = r)) (Chg.refl _ _) (fun _ => rfl) _) (fun _ => rfl) _
      have hc46 : Chg (fun k => k = r ∨ some k = dv.ownBlock) w4 w6 := (HC5.out.mono (fun _ _ e => e.elim)).trans' (hcr.mono (fun _ _ e => Or.inl e))
      have hcr4 : Chg (· = r) w4 w6 := (HC5.out.mono (fun _ _ e => e.elim)).trans' hcr
      have hr4 : r < w4.heap.size := HR4.out.br.2.2
      have hs45 := HC5.out.size
      have hs56 := hcr.size
      have hne := own_ne HR4.out.rt.done HR4.out.rt.head (by decide)
      have hnF : ∀ k, F k → ¬ k = r := fun k hk e => HR4.out.fr (e ▸ hk)
      have hrt5 : RtIs w6 W.heap.size r kb (fun k => F k ∨ (w4.heap.size ≤ k ∧ k < w5.heap.size)) (stageS S n ps) sv (.slice o5 N p5) dv := ⟨by simpa [stageS] using hb2, (HR4.out.rt.stack.kept hcr4 hnF).wide (fun k hk => Or.inl hk), (HP5.out.kept hcr (fun k hk e => by have := hk.1; omega)).wide (fun k hk => Or.inr hk), own_keptS HR4.out.rt.done hcr4 hne, ⟨HR4.out.rt.few.1, by have := HOk.out.few; simp only [stageS]; omega, HR4.out.rt.few.2.2⟩, ⟨HR4.out.rt.lays.1, HLl.out⟩⟩
      have hk5 := HR4.out.set hc46 hrt5 (fun k hk => hk.elim (fun e => Beside.more (HR4.out.bf k e) hc46.size) (fun e => HR4.out.ks.made e.1 (by omega))) (fun g hg => Beside.more (HR4.out.bd g hg) hc46.size) (fun k hk => hk.elim (HR4.out.nf k) (fun e => Nat.le_trans HR4.out.ks.chg.size e.1)) (fun e => e.elim HR4.out.fr (fun e => by omega)) (fun g hg e => e.elim (HR4.out.fd g hg) (fun e => by have := (HR4.out.bd g hg).2.2; omega))
      have hm4 : m4 = applyF m (stageB n ps) := by
        have h := HO4.out
        generalize hzz : (0 : Int) = zz at h
        cases h with
        | done => rfl
        | refused h1 h2 => omega
        | cut => cases hzz
      have hs3 := HC3.out.size
      have hs4 := HN4.out.chg.size
      refine ⟨0, rfl, X4, V4, m4, stageS S n ps, ?_, fun _ => rfl, fun e => absurd rfl e, HO4.out⟩
      rw [hw6]
      refine RGo.of HRt.out.ks.chg HC3.out HN4.out hc46 hk5 HQ.out.1 HQ.out.2.1 HQ.out.2.2 (fun g hg => hg.elim Or.inl (fun e => Or.inr ⟨by omega, by omega⟩)) (fun g hg => Or.inl hg) (HGood.out.stage HNd.out.2.1 HNd.out.1 HNd.out.2.2 HOk.out.chk (pks_dig HP.out)) ?_
      rw [hm4]
      exact stage_is HRt.out.ks.at'.db.map.nodup HI.out hs0 (HGood.out.none hs0) (by have := HNd.out.1; omega) (by have := HRt.out.rt.few.1; omega) (by have := HOk.out.few; omega) HRt.out.rt.few.2.2
    · have hzb : (z != 0) = true := by simpa using hz0
      go_wp2_with fail
      go_ret
      have hm4 : m4 = m := by
        have h := HO4.out
        cases h with
        | done => exact absurd rfl hz0
        | refused h1 h2 => rfl
        | cut => rfl
      refine ⟨z, rfl, X4, V4, m4, S, ?_, fun e => absurd e hz0, fun _ => rfl, HO4.out⟩
      have hlt3 := HC3.out.size
      have hg4 := (HRt.out.fresh HC3.out).go HN4.out HQ.out.1 (fun g hg => Nat.lt_of_lt_of_le (HQ.out.2.1 g hg) hlt3) HQ.out.2.2 HGood.out (by rw [hm4]; exact HI.out)
      exact hg4.from HC3.out HRt.out.ks.chg.size
  · go_simp
    obtain ⟨wa, hwa⟩ : ∃ wa, (w1.alloc (.cells #[.int .u8 (IntKind.u8.wrap (N : Int))] 5)).drew = wa := ⟨_, rfl⟩
    have hca : Chg (fun _ => False) w1 wa := by rw [← hwa]; exact ((Chg.refl _ _).alloc _).drew
    have hla : wa.heap[w1.heap.size]? = some (.cells #[.int .u8 (IntKind.u8.wrap (N : Int))] 5 (0, 0)) := by rw [← hwa]; exact block_alloc_new w1 _
    have HCa := Lib.hid hca
    have HLa := Lib.hid hla
    try rw [hwa]
    clear hwa hca hla
    refine hK _ _ (trivial) (fun hA1 => ?_)
    try simp only [Act.put, zA, zB, zC]
    refine wpAnyH_ready (rs := [1, 6]) (by kernel_rfl) (by simp) (one_list (i := 1) rfl (by rfl) (fun K hK => ?_) (one_list (i := 6) rfl (by rfl) (fun K hK => ?_) AllReadyH.nil))
    · go_simp
      refine (HE.out wa).mono ?_
      rintro e w2 ⟨rfl, hc2⟩
      have hl2 := hc2.at HLa.out id
      have hcz := HCa.out.trans' hc2
      clear hc2
      obtain ⟨wz, hwz⟩ : ∃ wz, w2 = wz := ⟨_, rfl⟩
      rw [hwz] at hl2 hcz
      have HLit := Lib.hid hl2
      have HCz := Lib.hid hcz
      try rw [hwz]
      clear hwz
      refine hK _ _ (trivial) (fun hA2 => ?_)
      try simp only [Act.put, zA, zB, zC]
      refine on1 6 rfl (fun K hK => ?_)
      go_simp
      rw [HCv.out wz w1.heap.size HLit.out]
      go_simp
      refine hK _ _ (trivial) (fun hA2b => ?_)
      try simp only [Act.put, zA, zB, zC]
      refine tk 7 (v := ?_) hA2b rfl (fun w hSw => ?_) ?_
      rotate_left
      · go_simp
        try with_reducible rfl
      simp only [Act.put, zA, zB, zC]
      refine tk 8 (v := ?_) hA2b rfl (fun w hSw => ?_) ?_
      rotate_left
      · go_simp
        try with_reducible rfl
      simp only [Act.put, zA, zB, zC]
      refine on1 9 rfl (fun K hK => ?_)
      go_simp
      obtain ⟨wx, hwx⟩ : ∃ wx, wz.alloc (.cells #[.string ⟨#[116]⟩, .string (se ++ tn), .bool false] 103) = wx := ⟨_, rfl⟩
      have hcx : Chg (fun _ => False) wz wx := by rw [← hwx]; exact (Chg.refl _ _).alloc _
      have hlx : wx.heap[wz.heap.size]? = some (.cells #[.string ⟨#[116]⟩, .string (se ++ tn), .bool false] 103 (0, 0)) := by rw [← hwx]; exact block_alloc_new wz _
      have HCx := Lib.hid (HCz.out.trans' hcx)
      have HLx := Lib.hid hlx
      try rw [hwx]
      clear hwx hcx hlx
      obtain ⟨lb, hlb⟩ : ∃ lb, wz.heap.size = lb := ⟨_, rfl⟩
      rw [hlb] at HLx
      refine hK _ _ (trivial) (fun hA2c => ?_)
      try simp only [Act.put, zA, zB, zC]
      try rw [hlb]
      refine tk 10 (v := ?_) hA2c rfl (fun w hSw => ?_) ?_
      rotate_left
      · go_simp
        try with_reducible rfl
      simp only [Act.put, zA, zB, zC]
      refine wpAnyH_done (by kernel_rfl) ?_ _
      refine NoPanic.normal ?_
      clear hlb
      have d0 : wx.cell? ⟨r, 0, none⟩ = some (.pointer (some ⟨kb, 0, none⟩)) := HCx.out.cell C0.out id
      go_wp2_with fail
      have HCW := Lib.hid (HC1.out.trans' HCx.out)
      have HS := Lib.hid (fun (v : World) (hv : Chg (fun _ => False) wx v) => hv.cell d0 id)
      refine wp_region_noPanic ?_
      refine wp_region_held_drew (S := (fun w' => w'.cell? ⟨r, 0, none⟩ = some (.pointer (some ⟨kb, 0, none⟩)))) (by kernel_rfl) (d0) (fun hB => ?_)
      have HCd2 := Lib.hid (show Chg (fun _ => False) wx wx.drew from (Chg.refl _ _).drew)
      clear d0
      refine tk 0 (v := ?_) hB rfl (fun w hSw => ?_) ?_
      rotate_left
      · go_simp
        try with_reducible rfl
      simp only [Act.put, zA, zB, zC]
      refine tk 1 (v := ?_) hB rfl (fun w hSw => ?_) ?_
      rotate_left
      · go_simp
        try with_reducible rfl
      simp only [Act.put, zA, zB, zC]
      refine tk 2 (v := ?_) hB rfl (fun w hSw => ?_) ?_
      rotate_left
      · go_simp
        try with_reducible rfl
      simp only [Act.put, zA, zB, zC]
      refine tk 3 (v := ?_) hB rfl (fun w hSw => ?_) ?_
      rotate_left
      · go_simp
        try with_reducible rfl
      simp only [Act.put, zA, zB, zC]
      refine tk 4 (v := ?_) hB rfl (fun w hSw => ?_) ?_
      rotate_left
      · go_simp
        try with_reducible rfl
      simp only [Act.put, zA, zB, zC]
      refine tk 5 (v := ?_) hB rfl (fun w hSw => ?_) ?_
      rotate_left
      · go_simp
        try with_reducible rfl
      simp only [Act.put, zA, zB, zC]
      refine on1 6 rfl (fun K hK => ?_)
      go_simp
      refine (HLy.out wx.drew (HCW.out.trans' HCd2.out)).mono ?_
      rintro e wl ⟨vl, rfl, hpl, hcl⟩
      obtain ⟨og, ng, cg, hvg⟩ : ∃ og ng cg, vl = .slice og ng cg := by obtain ⟨o, c, e, -⟩ := hpl.slice; exact ⟨o, _, c, e⟩
      subst hvg
      have HCl := Lib.hid (HCd2.out.trans' hcl)
      have HLx2 := Lib.hid ((HCd2.out.trans' hcl).at HLx.out id)
      have HPl := Lib.hid hpl
      clear hcl hpl
      refine hK _ _ (HS.out wl HCl.out) (fun hB1 => ?_)
      try simp only [Act.put, zA, zB, zC]
      refine on1 7 rfl (fun K hK => ?_)
      go_simp
      obtain ⟨wy, hwy⟩ : ∃ wy, wl.alloc (.cells #[.slice (some ⟨lb, 0, none⟩) 1 1, .slice og ng cg] 66) = wy := ⟨_, rfl⟩
      have hcy : Chg (fun _ => False) wl wy := by rw [← hwy]; exact (Chg.refl _ _).alloc _
      have hyb : wy.heap[wl.heap.size]? = some (.cells (([(.slice (some ⟨lb, 0, none⟩) 1 1, [ofKV ([116], eight n ++ [UInt8.ofNat N])]), (.slice og ng cg, (lst 113 0 ps).map ofKV)] : List (Value × List PV)).map (fun x => x.1)).toArray 66 (0, 0)) := by rw [← hwy]; exact block_alloc_new wl _
      have hrow : ([.string ⟨#[116]⟩, .string (se ++ tn), .bool false] : List Value) = (([ofKV ([116], eight n ++ [UInt8.ofNat N])] : List PV).map PV.row).flatten := by
        show _ = [strV [116], strV (eight n ++ [UInt8.ofNat N]), .bool false]
        rw [← HS1.out]
        rfl
      have hlit2 : Puts wy lb (.slice (some ⟨lb, 0, none⟩) 1 1) [ofKV ([116], eight n ++ [UInt8.ofNat N])] := puts_block (ps := [ofKV ([116], eight n ++ [UInt8.ofNat N])]) (hcy.at HLx2.out id) hrow (by simp)
      have hput2 := HPl.out.kept hcy (fun _ _ h => h)
      try rw [hwy]
      clear hwy hrow
      have hsum := stage_sum ((lst 113 0 ps).map ofKV) (ofKV ([116], eight n ++ [UInt8.ofNat N])) (.slice (some ⟨lb, 0, none⟩) 1 1) (.slice og ng cg) (by rw [List.length_map, lst_len]; exact HOk.out.few)
      have HJ := Lib.hid (join_is wy _ hyb (by
        intro x hx
        simp only [List.mem_cons, List.not_mem_nil, or_false] at hx
        rcases hx with rfl | rfl
        · exact ⟨_, hlit2⟩
        · exact ⟨_, hput2⟩) hsum.1 hsum.2 (by simp))
      have HCy := Lib.hid (HCl.out.trans' hcy)
      clear hyb hlit2 hput2 hsum hcy
      refine hK _ _ (HS.out wy HCy.out) (fun hB2 => ?_)
      try simp only [Act.put, zA, zB, zC]
      refine on1 8 rfl (fun K hK => ?_)
      go_simp
      refine HJ.out.mono ?_
      rintro e w3 ⟨v3, rfl, hp3, hc3⟩
      have HCx3 := Lib.hid (HCy.out.trans' hc3)
      have HC3 := Lib.hid (HCW.out.trans' HCx3.out)
      have hp3 : Puts w3 wy.heap.size v3 (stageB n ps) := by
        have e : stageB n ps = (([(.slice (some ⟨lb, 0, none⟩) 1 1, [ofKV ([116], eight n ++ [UInt8.ofNat N])]), (.slice og ng cg, (lst 113 0 ps).map ofKV)] : List (Value × List PV)).map (fun x => x.2)).flatten := by
          unfold stageB
          rw [HN.out.1]
          simp
        rw [e]; exact hp3
      have HP3 := Lib.hid hp3
      have HLo := Lib.hid (show w.heap.size ≤ wy.heap.size from (HCW.out.trans' HCy.out).size)
      clear hc3 hp3
      refine hK _ _ (HS.out w3 HCx3.out) (fun hB3 => ?_)
      try simp only [Act.put, zA, zB, zC]
      refine on1 9 rfl (fun K hK => ?_)
      go_simp
      have hr3 := HRt.out.fresh HC3.out
      have hfit3 := stage_fits (n := n) HOk.out (pks_dig HP.out)
      have hd3 := ks_do w3 hr3.ks HSt.out H60.out HRep.out HFu.out HP3.out (by have := hfit3.few; omega) (fun g hg => HRt.out.ks.made (Nat.le_trans HLo.out (HP3.out.lt hg).1) (HP3.out.lt hg).2)
      refine hd3.mono ?_
      rintro e w4 ⟨z, rfl, X4, V4, m4, P4, hn4, ho4⟩
      have HN4 := Lib.hid hn4
      have HO4 := Lib.hid ho4
      have HR4 := Lib.hid (hr3.next hn4)
      clear hr3 hd3 hn4 ho4 hfit3
      refine hK _ _ (cell_of_block HR4.out.rt.head rfl) (fun hB4 => ?_)
      try simp only [Act.put, zA, zB, zC]
      refine tk 10 (v := ?_) hB4 rfl (fun w hSw => ?_) ?_
      rotate_left
      · go_simp
        try with_reducible rfl
      simp only [Act.put, zA, zB, zC]
      refine wpAnyH_done (by kernel_rfl) ?_ _
      refine NoPanic.normal ?_
      by_cases hz0 : z = 0
      · subst hz0
        have hp4 : PksAt w4 G v ps := (HP.out.fresh HC3.out).kept HN4.out.chg (fun k hk e => (HG.out k hk).1 (HQ.out.1 k (e.elim Or.inl (fun e => Or.inr (Or.inl e)))))
        have hll : ∀ p ∈ ps, p.man.layers.length ≤ 20 := fun p hp => by have := (mchkF_ok (HOk.out.each p hp).2.2).few; omega
        have htw := twin_is w4 hp4 (by have := HOk.out.few; omega) hll
        rw [HV.out, HN.out.1] at htw
        have HTw := Lib.hid htw
        have HLl := Lib.hid hll
        clear hp4 hll htw
        go_wp2_with (first
          | (go_at_call 48; fail))
        refine HTw.out.mono ?_
        rintro e w5 ⟨v5, rfl, hp5, hc5⟩
        obtain ⟨o5, p5, l5, hv5, -⟩ := id hp5.is
        rw [HN.out.1] at hv5
        subst hv5
        have HP5 := Lib.hid hp5
        have HC5 := Lib.hid hc5
        have hb5 := hc5.at HR4.out.rt.head id
        have b1 := block_setCell (i := 2) (v := .int .i64 (n : Int)) hb5
        have b2 := block_setCell (i := 3) (v := .slice o5 N p5) b1
        have q2 : w5.cell? ⟨r, 2, none⟩ = some (.int .i64 (S.staged : Int)) := cell_of_block hb5 rfl
        have q3 : w5.cell? ⟨r, 3, none⟩ = some wv := cell_of_block hb5 rfl
        have f2 : w5.frozen? ⟨r, 2, none⟩ = false := free_of_block hb5
        have f3 : (w5.setCell ⟨r, 2, none⟩ (.int .i64 (n : Int))).frozen? ⟨r, 3, none⟩ = false := free_of_block b1
        have HB2 := Lib.hid b2
        clear hp5 hc5 hb5 b1 b2
        dsimp only
        go_wp2_with fail
        go_ret
        obtain ⟨w6, hw6⟩ : ∃ w6, (w5.setCell ⟨r, 2, none⟩ (.int .i64 (n : Int))).setCell ⟨r, 3, none⟩ (.slice o5 N p5) = w6 := ⟨_, rfl⟩
        have hb2 := HB2.out
        rw [hw6] at hb2
        have hcr : Chg (· = r) w5 w6 := by rw [← hw6]; exact Chg.setCell (S := (· = r)) (Chg.setCell (S := (· = r)) (Chg.refl _ _) (fun _ => rfl) _) (fun _ => rfl) _
        have hc46 : Chg (fun k => k = r ∨ some k = dv.ownBlock) w4 w6 := (HC5.out.mono (fun _ _ e => e.elim)).trans' (hcr.mono (fun _ _ e => Or.inl e))
        have hcr4 : Chg (· = r) w4 w6 := (HC5.out.mono (fun _ _ e => e.elim)).trans' hcr
        have hr4 : r < w4.heap.size := HR4.out.br.2.2
        have hs45 := HC5.out.size
        have hs56 := hcr.size
        have hne := own_ne HR4.out.rt.done HR4.out.rt.head (by decide)
        have hnF : ∀ k, F k → ¬ k = r := fun k hk e => HR4.out.fr (e ▸ hk)
        have hrt5 : RtIs w6 W.heap.size r kb (fun k => F k ∨ (w4.heap.size ≤ k ∧ k < w5.heap.size)) (stageS S n ps) sv (.slice o5 N p5) dv := ⟨by simpa [stageS] using hb2, (HR4.out.rt.stack.kept hcr4 hnF).wide (fun k hk => Or.inl hk), (HP5.out.kept hcr (fun k hk e => by have := hk.1; omega)).wide (fun k hk => Or.inr hk), own_keptS HR4.out.rt.done hcr4 hne, ⟨HR4.out.rt.few.1, by have := HOk.out.few; simp only [stageS]; omega, HR4.out.rt.few.2.2⟩, ⟨HR4.out.rt.lays.1, HLl.out⟩⟩
        have hk5 := HR4.out.set hc46 hrt5 (fun k hk => hk.elim (fun e => Beside.more (HR4.out.bf k e) hc46.size) (fun e => HR4.out.ks.made e.1 (by omega))) (fun g hg => Beside.more (HR4.out.bd g hg) hc46.size) (fun k hk => hk.elim (HR4.out.nf k) (fun e => Nat.le_trans HR4.out.ks.chg.size e.1)) (fun e => e.elim HR4.out.fr (fun e => by omega)) (fun g hg e => e.elim (HR4.out.fd g hg) (fun e => by have := (HR4.out.bd g hg).2.2; omega))
        have hm4 : m4 = applyF m (stageB n ps) := by
          have h := HO4.out
          generalize hzz : (0 : Int) = zz at h
          cases h with
          | done => rfl
          | refused h1 h2 => omega
          | cut => cases hzz
        have hs3 := HC3.out.size
        have hs4 := HN4.out.chg.size
        refine ⟨0, rfl, X4, V4, m4, stageS S n ps, ?_, fun _ => rfl, fun e => absurd rfl e, HO4.out⟩
        rw [hw6]
        refine RGo.of HRt.out.ks.chg HC3.out HN4.out hc46 hk5 HQ.out.1 HQ.out.2.1 HQ.out.2.2 (fun g hg => hg.elim Or.inl (fun e => Or.inr ⟨by omega, by omega⟩)) (fun g hg => Or.inl hg) (HGood.out.stage HNd.out.2.1 HNd.out.1 HNd.out.2.2 HOk.out.chk (pks_dig HP.out)) ?_
        rw [hm4]
        exact stage_is HRt.out.ks.at'.db.map.nodup HI.out hs0 (HGood.out.none hs0) (by have := HNd.out.1; omega) (by have := HRt.out.rt.few.1; omega) (by have := HOk.out.few; omega) HRt.out.rt.few.2.2
      · have hzb : (z != 0) = true := by simpa using hz0
        go_wp2_with fail
        go_ret
        have hm4 : m4 = m := by
          have h := HO4.out
          cases h with
          | done => exact absurd rfl hz0
          | refused h1 h2 => rfl
          | cut => rfl
        refine ⟨z, rfl, X4, V4, m4, S, ?_, fun e => absurd e hz0, fun _ => rfl, HO4.out⟩
        have hlt3 := HC3.out.size
        have hg4 := (HRt.out.fresh HC3.out).go HN4.out HQ.out.1 (fun g hg => Nat.lt_of_lt_of_le (HQ.out.2.1 g hg) hlt3) HQ.out.2.2 HGood.out (by rw [hm4]; exact HI.out)
        exact hg4.from HC3.out HRt.out.ks.chg.size
    · go_simp
      rw [HCv.out wa w1.heap.size HLa.out]
      go_simp
      refine hK _ _ (trivial) (fun hA2 => ?_)
      try simp only [Act.put, zA, zB, zC]
      refine on1 1 rfl (fun K hK => ?_)
      go_simp
      refine (HE.out wa).mono ?_
      rintro e wz ⟨rfl, hc2⟩
      have HCz := Lib.hid (HCa.out.trans' hc2)
      clear hc2
      refine hK _ _ (trivial) (fun hA3b => ?_)
      try simp only [Act.put, zA, zB, zC]
      refine tk 7 (v := ?_) hA3b rfl (fun w hSw => ?_) ?_
      rotate_left
      · go_simp
        try with_reducible rfl
      simp only [Act.put, zA, zB, zC]
      refine tk 8 (v := ?_) hA3b rfl (fun w hSw => ?_) ?_
      rotate_left
      · go_simp
        try with_reducible rfl
      simp only [Act.put, zA, zB, zC]
      refine on1 9 rfl (fun K hK => ?_)
      go_simp
      obtain ⟨wx, hwx⟩ : ∃ wx, wz.alloc (.cells #[.string ⟨#[116]⟩, .string (se ++ tn), .bool false] 103) = wx := ⟨_, rfl⟩
      have hcx : Chg (fun _ => False) wz wx := by rw [← hwx]; exact (Chg.refl _ _).alloc _
      have hlx : wx.heap[wz.heap.size]? = some (.cells #[.string ⟨#[116]⟩, .string (se ++ tn), .bool false] 103 (0, 0)) := by rw [← hwx]; exact block_alloc_new wz _
      have HCx := Lib.hid (HCz.out.trans' hcx)
      have HLx := Lib.hid hlx
      try rw [hwx]
      clear hwx hcx hlx
      obtain ⟨lb, hlb⟩ : ∃ lb, wz.heap.size = lb := ⟨_, rfl⟩
      rw [hlb] at HLx
      refine hK _ _ (trivial) (fun hA3c => ?_)
      try simp only [Act.put, zA, zB, zC]
      try rw [hlb]
      refine tk 10 (v := ?_) hA3c rfl (fun w hSw => ?_) ?_
      rotate_left
      · go_simp
        try with_reducible rfl
      simp only [Act.put, zA, zB, zC]
      refine wpAnyH_done (by kernel_rfl) ?_ _
      refine NoPanic.normal ?_
      clear hlb
      have d0 : wx.cell? ⟨r, 0, none⟩ = some (.pointer (some ⟨kb, 0, none⟩)) := HCx.out.cell C0.out id
      go_wp2_with fail
      have HCW := Lib.hid (HC1.out.trans' HCx.out)
      have HS := Lib.hid (fun (v : World) (hv : Chg (fun _ => False) wx v) => hv.cell d0 id)
      refine wp_region_noPanic ?_
      refine wp_region_held_drew (S := (fun w' => w'.cell? ⟨r, 0, none⟩ = some (.pointer (some ⟨kb, 0, none⟩)))) (by kernel_rfl) (d0) (fun hB => ?_)
      have HCd2 := Lib.hid (show Chg (fun _ => False) wx wx.drew from (Chg.refl _ _).drew)
      clear d0
      refine tk 0 (v := ?_) hB rfl (fun w hSw => ?_) ?_
      rotate_left
      · go_simp
        try with_reducible rfl
      simp only [Act.put, zA, zB, zC]
      refine tk 1 (v := ?_) hB rfl (fun w hSw => ?_) ?_
      rotate_left
      · go_simp
        try with_reducible rfl
      simp only [Act.put, zA, zB, zC]
      refine tk 2 (v := ?_) hB rfl (fun w hSw => ?_) ?_
      rotate_left
      · go_simp
        try with_reducible rfl
      simp only [Act.put, zA, zB, zC]
      refine tk 3 (v := ?_) hB rfl (fun w hSw => ?_) ?_
      rotate_left
      · go_simp
        try with_reducible rfl
      simp only [Act.put, zA, zB, zC]
      refine tk 4 (v := ?_) hB rfl (fun w hSw => ?_) ?_
      rotate_left
      · go_simp
        try with_reducible rfl
      simp only [Act.put, zA, zB, zC]
      refine tk 5 (v := ?_) hB rfl (fun w hSw => ?_) ?_
      rotate_left
      · go_simp
        try with_reducible rfl
      simp only [Act.put, zA, zB, zC]
      refine on1 6 rfl (fun K hK => ?_)
      go_simp
      refine (HLy.out wx.drew (HCW.out.trans' HCd2.out)).mono ?_
      rintro e wl ⟨vl, rfl, hpl, hcl⟩
      obtain ⟨og, ng, cg, hvg⟩ : ∃ og ng cg, vl = .slice og ng cg := by obtain ⟨o, c, e, -⟩ := hpl.slice; exact ⟨o, _, c, e⟩
      subst hvg
      have HCl := Lib.hid (HCd2.out.trans' hcl)
      have HLx2 := Lib.hid ((HCd2.out.trans' hcl).at HLx.out id)
      have HPl := Lib.hid hpl
      clear hcl hpl
      refine hK _ _ (HS.out wl HCl.out) (fun hB1 => ?_)
      try simp only [Act.put, zA, zB, zC]
      refine on1 7 rfl (fun K hK => ?_)
      go_simp
      obtain ⟨wy, hwy⟩ : ∃ wy, wl.alloc (.cells #[.slice (some ⟨lb, 0, none⟩) 1 1, .slice og ng cg] 66) = wy := ⟨_, rfl⟩
      have hcy : Chg (fun _ => False) wl wy := by rw [← hwy]; exact (Chg.refl _ _).alloc _
      have hyb : wy.heap[wl.heap.size]? = some (.cells (([(.slice (some ⟨lb, 0, none⟩) 1 1, [ofKV ([116], eight n ++ [UInt8.ofNat N])]), (.slice og ng cg, (lst 113 0 ps).map ofKV)] : List (Value × List PV)).map (fun x => x.1)).toArray 66 (0, 0)) := by rw [← hwy]; exact block_alloc_new wl _
      have hrow : ([.string ⟨#[116]⟩, .string (se ++ tn), .bool false] : List Value) = (([ofKV ([116], eight n ++ [UInt8.ofNat N])] : List PV).map PV.row).flatten := by
        show _ = [strV [116], strV (eight n ++ [UInt8.ofNat N]), .bool false]
        rw [← HS1.out]
        rfl
      have hlit2 : Puts wy lb (.slice (some ⟨lb, 0, none⟩) 1 1) [ofKV ([116], eight n ++ [UInt8.ofNat N])] := puts_block (ps := [ofKV ([116], eight n ++ [UInt8.ofNat N])]) (hcy.at HLx2.out id) hrow (by simp)
      have hput2 := HPl.out.kept hcy (fun _ _ h => h)
      try rw [hwy]
      clear hwy hrow
      have hsum := stage_sum ((lst 113 0 ps).map ofKV) (ofKV ([116], eight n ++ [UInt8.ofNat N])) (.slice (some ⟨lb, 0, none⟩) 1 1) (.slice og ng cg) (by rw [List.length_map, lst_len]; exact HOk.out.few)
      have HJ := Lib.hid (join_is wy _ hyb (by
        intro x hx
        simp only [List.mem_cons, List.not_mem_nil, or_false] at hx
        rcases hx with rfl | rfl
        · exact ⟨_, hlit2⟩
        · exact ⟨_, hput2⟩) hsum.1 hsum.2 (by simp))
      have HCy := Lib.hid (HCl.out.trans' hcy)
      clear hyb hlit2 hput2 hsum hcy
      refine hK _ _ (HS.out wy HCy.out) (fun hB2 => ?_)
      try simp only [Act.put, zA, zB, zC]
      refine on1 8 rfl (fun K hK => ?_)
      go_simp
      refine HJ.out.mono ?_
      rintro e w3 ⟨v3, rfl, hp3, hc3⟩
      have HCx3 := Lib.hid (HCy.out.trans' hc3)
      have HC3 := Lib.hid (HCW.out.trans' HCx3.out)
      have hp3 : Puts w3 wy.heap.size v3 (stageB n ps) := by
        have e : stageB n ps = (([(.slice (some ⟨lb, 0, none⟩) 1 1, [ofKV ([116], eight n ++ [UInt8.ofNat N])]), (.slice og ng cg, (lst 113 0 ps).map ofKV)] : List (Value × List PV)).map (fun x => x.2)).flatten := by
          unfold stageB
          rw [HN.out.1]
          simp
        rw [e]; exact hp3
      have HP3 := Lib.hid hp3
      have HLo := Lib.hid (show w.heap.size ≤ wy.heap.size from (HCW.out.trans' HCy.out).size)
      clear hc3 hp3
      refine hK _ _ (HS.out w3 HCx3.out) (fun hB3 => ?_)
      try simp only [Act.put, zA, zB, zC]
      refine on1 9 rfl (fun K hK => ?_)
      go_simp
      have hr3 := HRt.out.fresh HC3.out
      have hfit3 := stage_fits (n := n) HOk.out (pks_dig HP.out)
      have hd3 := ks_do w3 hr3.ks HSt.out H60.out HRep.out HFu.out HP3.out (by have := hfit3.few; omega) (fun g hg => HRt.out.ks.made (Nat.le_trans HLo.out (HP3.out.lt hg).1) (HP3.out.lt hg).2)
      refine hd3.mono ?_
      rintro e w4 ⟨z, rfl, X4, V4, m4, P4, hn4, ho4⟩
      have HN4 := Lib.hid hn4
      have HO4 := Lib.hid ho4
      have HR4 := Lib.hid (hr3.next hn4)
      clear hr3 hd3 hn4 ho4 hfit3
      refine hK _ _ (cell_of_block HR4.out.rt.head rfl) (fun hB4 => ?_)
      try simp only [Act.put, zA, zB, zC]
      refine tk 10 (v := ?_) hB4 rfl (fun w hSw => ?_) ?_
      rotate_left
      · go_simp
        try with_reducible rfl
      simp only [Act.put, zA, zB, zC]
      refine wpAnyH_done (by kernel_rfl) ?_ _
      refine NoPanic.normal ?_
      by_cases hz0 : z = 0
      · subst hz0
        have hp4 : PksAt w4 G v ps := (HP.out.fresh HC3.out).kept HN4.out.chg (fun k hk e => (HG.out k hk).1 (HQ.out.1 k (e.elim Or.inl (fun e => Or.inr (Or.inl e)))))
        have hll : ∀ p ∈ ps, p.man.layers.length ≤ 20 := fun p hp => by have := (mchkF_ok (HOk.out.each p hp).2.2).few; omega
        have htw := twin_is w4 hp4 (by have := HOk.out.few; omega) hll
        rw [HV.out, HN.out.1] at htw
        have HTw := Lib.hid htw
        have HLl := Lib.hid hll
        clear hp4 hll htw
        go_wp2_with (first
          | (go_at_call 48; fail))
        refine HTw.out.mono ?_
        rintro e w5 ⟨v5, rfl, hp5, hc5⟩
        obtain ⟨o5, p5, l5, hv5, -⟩ := id hp5.is
        rw [HN.out.1] at hv5
        subst hv5
        have HP5 := Lib.hid hp5
        have HC5 := Lib.hid hc5
        have hb5 := hc5.at HR4.out.rt.head id
        have b1 := block_setCell (i := 2) (v := .int .i64 (n : Int)) hb5
        have b2 := block_setCell (i := 3) (v := .slice o5 N p5) b1
        have q2 : w5.cell? ⟨r, 2, none⟩ = some (.int .i64 (S.staged : Int)) := cell_of_block hb5 rfl
        have q3 : w5.cell? ⟨r, 3, none⟩ = some wv := cell_of_block hb5 rfl
        have f2 : w5.frozen? ⟨r, 2, none⟩ = false := free_of_block hb5
        have f3 : (w5.setCell ⟨r, 2, none⟩ (.int .i64 (n : Int))).frozen? ⟨r, 3, none⟩ = false := free_of_block b1
        have HB2 := Lib.hid b2
        clear hp5 hc5 hb5 b1 b2
        dsimp only
        go_wp2_with fail
        go_ret
        obtain ⟨w6, hw6⟩ : ∃ w6, (w5.setCell ⟨r, 2, none⟩ (.int .i64 (n : Int))).setCell ⟨r, 3, none⟩ (.slice o5 N p5) = w6 := ⟨_, rfl⟩
        have hb2 := HB2.out
        rw [hw6] at hb2
        have hcr : Chg (· = r) w5 w6 := by rw [← hw6]; exact Chg.setCell (S := (· = r)) (Chg.setCell (S := (· = r)) (Chg.refl _ _) (fun _ => rfl) _) (fun _ => rfl) _
        have hc46 : Chg (fun k => k = r ∨ some k = dv.ownBlock) w4 w6 := (HC5.out.mono (fun _ _ e => e.elim)).trans' (hcr.mono (fun _ _ e => Or.inl e))
        have hcr4 : Chg (· = r) w4 w6 := (HC5.out.mono (fun _ _ e => e.elim)).trans' hcr
        have hr4 : r < w4.heap.size := HR4.out.br.2.2
        have hs45 := HC5.out.size
        have hs56 := hcr.size
        have hne := own_ne HR4.out.rt.done HR4.out.rt.head (by decide)
        have hnF : ∀ k, F k → ¬ k = r := fun k hk e => HR4.out.fr (e ▸ hk)
        have hrt5 : RtIs w6 W.heap.size r kb (fun k => F k ∨ (w4.heap.size ≤ k ∧ k < w5.heap.size)) (stageS S n ps) sv (.slice o5 N p5) dv := ⟨by simpa [stageS] using hb2, (HR4.out.rt.stack.kept hcr4 hnF).wide (fun k hk => Or.inl hk), (HP5.out.kept hcr (fun k hk e => by have := hk.1; omega)).wide (fun k hk => Or.inr hk), own_keptS HR4.out.rt.done hcr4 hne, ⟨HR4.out.rt.few.1, by have := HOk.out.few; simp only [stageS]; omega, HR4.out.rt.few.2.2⟩, ⟨HR4.out.rt.lays.1, HLl.out⟩⟩
        have hk5 := HR4.out.set hc46 hrt5 (fun k hk => hk.elim (fun e => Beside.more (HR4.out.bf k e) hc46.size) (fun e => HR4.out.ks.made e.1 (by omega))) (fun g hg => Beside.more (HR4.out.bd g hg) hc46.size) (fun k hk => hk.elim (HR4.out.nf k) (fun e => Nat.le_trans HR4.out.ks.chg.size e.1)) (fun e => e.elim HR4.out.fr (fun e => by omega)) (fun g hg e => e.elim (HR4.out.fd g hg) (fun e => by have := (HR4.out.bd g hg).2.2; omega))
        have hm4 : m4 = applyF m (stageB n ps) := by
          have h := HO4.out
          generalize hzz : (0 : Int) = zz at h
          cases h with
          | done => rfl
          | refused h1 h2 => omega
          | cut => cases hzz
        have hs3 := HC3.out.size
        have hs4 := HN4.out.chg.size
        refine ⟨0, rfl, X4, V4, m4, stageS S n ps, ?_, fun _ => rfl, fun e => absurd rfl e, HO4.out⟩
        rw [hw6]
        refine RGo.of HRt.out.ks.chg HC3.out HN4.out hc46 hk5 HQ.out.1 HQ.out.2.1 HQ.out.2.2 (fun g hg => hg.elim Or.inl (fun e => Or.inr ⟨by omega, by omega⟩)) (fun g hg => Or.inl hg) (HGood.out.stage HNd.out.2.1 HNd.out.1 HNd.out.2.2 HOk.out.chk (pks_dig HP.out)) ?_
        rw [hm4]
        exact stage_is HRt.out.ks.at'.db.map.nodup HI.out hs0 (HGood.out.none hs0) (by have := HNd.out.1; omega) (by have := HRt.out.rt.few.1; omega) (by have := HOk.out.few; omega) HRt.out.rt.few.2.2
      · have hzb : (z != 0) = true := by simpa using hz0
        go_wp2_with fail
        go_ret
        have hm4 : m4 = m := by
          have h := HO4.out
          cases h with
          | done => exact absurd rfl hz0
          | refused h1 h2 => rfl
          | cut => rfl
        refine ⟨z, rfl, X4, V4, m4, S, ?_, fun e => absurd e hz0, fun _ => rfl, HO4.out⟩
        have hlt3 := HC3.out.size
        have hg4 := (HRt.out.fresh HC3.out).go HN4.out HQ.out.1 (fun g hg => Nat.lt_of_lt_of_le (HQ.out.2.1 g hg) hlt3) HQ.out.2.2 HGood.out (by rw [hm4]; exact HI.out)
        exact hg4.from HC3.out HRt.out.ks.chg.size

end Go.Proofs.YtbjagmlbamjdbaaGreat.roots
end

section
namespace Go.Proofs.YtbjagmlbamjdbaaGreat.roots
open Go.RowKit Go.Maps Go.My Go.ChangeMaps disks bufs wals kvs
set_option maxRecDepth 100000

variable {W w w' : World} {Q G : Nat → Prop} {r d s a : Nat} {X : DV} {m : List KV} {recs : List Txt} {S : RS}

structure RL (Q : Nat → Prop) (W w : World) (r d : Nat) (X : DV) (recs : List Txt) (s a : Nat) (m : List KV) (S : RS) : Prop where
  rt : RT Q W w r d X (lvW recs s a []) m S
  st : Stands X recs s a
  rep : Rep recs m
  fuse : X.fuse = -1
theorem RL.fresh (h : RL Q W w r d X recs s a m S) (hc : Chg (fun _ => False) w w') : RL Q W w' r d X recs s a m S := ⟨h.rt.fresh hc, h.st, h.rep, h.fuse⟩

def Told (E : Option Nat) (S S2 : RS) (full : Prop) (z : Int) (S' : RS) : Prop := (∃ y : Nat, E = some y ∧ z = y ∧ S' = S) ∨ (E = none ∧ z = 0 ∧ S' = S2) ∨ (E = none ∧ z = 7 ∧ S' = S ∧ full)

structure RNext (Q : Nat → Prop) (W w w' : World) (r d : Nat) (X : DV) (s : Nat) (S' : RS) : Prop where
  ex : ∃ Q' X' recs' s' a' m', RL Q' W w' r d X' recs' s' a' m' S' ∧ X'.B.length = X.B.length ∧ s' ≤ s + 1 ∧ ∀ g, g < w.heap.size → ¬ Q g → ¬ Q' g
  chg : Chg Q w w'

theorem RL.stay (h : RL Q W w r d X recs s a m S) (hc : Chg (fun _ => False) w w') : RNext Q W w w' r d X s S :=
  ⟨⟨Q, X, recs, s, a, m, h.fresh hc, rfl, Nat.le_succ _, fun _ _ h => h⟩, hc.mono (fun _ _ e => e.elim)⟩
theorem RL.out (h : RL Q W w r d X recs s a m S) {X' : DV} {V' : LV} {m' mm : List KV} {S' : RS} {ps : List PV} {z : Int} (hg : RGo Q W w w' r d X' V' m' S') (ho : Out X recs s a m mm (DoWhy X m ps) z X' V' m') (hf : Fits ps) {S2 : RS} (h0 : z = 0 → S' = S2) (h1 : z ≠ 0 → S' = S) :
    RNext Q W w w' r d X s S' ∧ Told none S S2 (DoWhy X m ps 7) z S' := by
  obtain ⟨recs', s', a', hV, k1, k2, k3, k4, k5, k6, k7⟩ := ho.free h.fuse h.st h.rep
  subst hV
  refine ⟨⟨⟨_, X', recs', s', a', m', ⟨hg.rt, k3, k4, k5⟩, k6, k2, fun g hl hn => More.off hn hl⟩, hg.chg⟩, ?_⟩
  rcases k7 with ⟨e, -⟩ | ⟨e1, e2, -⟩
  · exact Or.inr (Or.inl ⟨rfl, e, h0 e⟩)
  · have he : (encF ps).2 = 0 := by rw [hf.enc.1]
    have hz : z = 7 := by
      rcases e1 with ⟨-, e⟩ | ⟨e, -⟩
      · exact absurd he e
      · exact e
    subst hz
    exact Or.inr (Or.inr ⟨rfl, rfl, h1 (by decide), e1⟩)

theorem rl_abort (w : World) (h : RL Q W w r d X recs s a m S) (h60 : s ≤ 1152921504606846976) (t : Int) :
    Calls Tryz.prog 21 #[.pointer (some ⟨r, 0, none⟩), .int .i64 t] w fun e w' => ∃ z : Int, e = .returned (.int .i64 z) ∧ ∃ S', RNext Q W w w' r d X s S' ∧ Told (abortE S t) S (abortS S) (DoWhy X m (abortB S) 7) z S' := by
  obtain ⟨P, kb, l, q, F, sv, wv, dv, h1, h2⟩ := h.rt.ex
  cases hz : abortE S t with
  | some z =>
    refine (abort_early w h1.rt t z hz).mono ?_
    rintro e w' ⟨rfl, rfl⟩
    exact ⟨z, rfl, S, h.stay (Chg.refl _ _), Or.inl ⟨z, rfl, rfl, rfl⟩⟩
  | none =>
    refine (abort_go w h1 h2 h.rt.lt h.rt.new h.rt.good h.rt.is h.st h60 h.rep (by rw [h.fuse]; omega) t hz).mono ?_
    rintro e w' ⟨z, rfl, X', V', m', S', hg, e1, e2, ho⟩
    obtain ⟨k1, k2⟩ := h.out hg ho (abort_fits h.rt.good.wnt.few) e1 e2
    exact ⟨z, rfl, S', k1, k2⟩
theorem rl_commit (w : World) (h : RL Q W w r d X recs s a m S) (h60 : s ≤ 1152921504606846976) (hd : S.done.length < 1000) (t : Int) :
    Calls Tryz.prog 20 #[.pointer (some ⟨r, 0, none⟩), .int .i64 t] w fun e w' => ∃ z : Int, e = .returned (.int .i64 z) ∧ ∃ S', RNext Q W w w' r d X s S' ∧ Told (commitE S t) S (commitS S t.toNat) (DoWhy X m (commitB S t.toNat) 7) z S' := by
  obtain ⟨P, kb, l, q, F, sv, wv, dv, h1, h2⟩ := h.rt.ex
  cases hz : commitE S t with
  | some z =>
    refine (commit_early w h1.rt t z hz).mono ?_
    rintro e w' ⟨rfl, rfl⟩
    exact ⟨z, rfl, S, h.stay (Chg.refl _ _), Or.inl ⟨z, rfl, rfl, rfl⟩⟩
  | none =>
    refine (commit_go w h1 h2 h.rt.lt h.rt.new h.rt.good h.rt.is h.st h60 h.rep (by rw [h.fuse]; omega) hd t hz).mono ?_
    rintro e w' ⟨z, rfl, X', V', m', S', hg, e1, e2, ho⟩
    obtain ⟨k1, k2⟩ := h.out hg ho (commit_fits h.rt.good.wnt h.rt.good.wdig h.rt.good.stk.few) e1 e2
    exact ⟨z, rfl, S', k1, k2⟩
theorem rl_stage (w : World) (h : RL Q W w r d X recs s a m S) (h60 : s ≤ 1152921504606846976) (t : Int) {v : Value} {ps : List Pk} (hp : PksAt w G v ps) (hG : ∀ b, G b → ¬ Q b ∧ b < w.heap.size) :
    Calls Tryz.prog 19 #[.pointer (some ⟨r, 0, none⟩), .int .i64 t, v] w fun e w' => ∃ z : Int, e = .returned (.int .i64 z) ∧ ∃ S', RNext Q W w w' r d X s S' ∧ Told (stageE S t ps) S (stageS S t.toNat ps) (DoWhy X m (stageB t.toNat ps) 7) z S' := by
  obtain ⟨P, kb, l, q, F, sv, wv, dv, h1, h2⟩ := h.rt.ex
  cases hz : stageE S t ps with
  | some z =>
    refine (stage_early w h1.rt t hp z hz).mono ?_
    rintro e w' ⟨rfl, hc⟩
    exact ⟨z, rfl, S, h.stay hc, Or.inl ⟨z, rfl, rfl, rfl⟩⟩
  | none =>
    refine (stage_go w h1 h2 h.rt.lt h.rt.new h.rt.good h.rt.is h.st h60 h.rep (by rw [h.fuse]; omega) t hp hG hz).mono ?_
    rintro e w' ⟨z, rfl, X', V', m', S', hg, e1, e2, ho⟩
    obtain ⟨k1, k2⟩ := h.out hg ho (stage_fits (SOk.of (stage_told hz).2.1) (pks_dig hp)) e1 e2
    exact ⟨z, rfl, S', k1, k2⟩

end Go.Proofs.YtbjagmlbamjdbaaGreat.roots
end

section
namespace Go.Proofs.YtbjagmlbamjdbaaGreat.roots
open Go.RowKit Go.Maps Go.My Go.ChangeMaps disks bufs wals kvs
set_option maxRecDepth 100000

variable {W w w' : World} {Q : Nat → Prop} {r d s a : Nat} {X : DV} {m : List KV} {recs : List Txt} {S : RS}

theorem rootN_le (h : RGood S) (h31 : S.done.length ≤ 31) : rootN S ≤ 3745 := by
  have h1 := h.stk.few
  have h2 := h.stk.lays
  have h3 := h.wnt.few
  have h4 := h.wnt.lays
  unfold rootN
  omega
theorem RL.sorted (h : RL Q W w r d X recs s a m S) : NoDup (sortF m) ∧ sortF (sortF m) = rootL S := ⟨(sortF_asc h.rt.nd).nodup, by rw [sort_sort h.rt.nd, h.rt.is]⟩
theorem RL.small (h : RL Q W w r d X recs s a m S) : S.stack.length ≤ 16 ∧ S.wants.length ≤ 16 := ⟨h.rt.good.stk.few, h.rt.good.wnt.few⟩

theorem RL.room_stage (h : RL Q W w r d X recs s a m S) {t : Int} {ps : List Pk} (he : stageE S t ps = none) (hd : ∀ p ∈ ps, p.dig) (h31 : S.done.length ≤ 31) (hX : rootN (stageS S t.toNat ps) + 9 ≤ 64 * areaN X.B.length) : ¬ DoWhy X m (stageB t.toNat ps) 7 := by
  obtain ⟨-, hc, h0, n, rfl, n1, n2, hn⟩ := stage_told he
  rw [Int.toNat_natCast] at hX ⊢
  obtain ⟨k1, k2⟩ := h.sorted
  have hs := h.small
  have hg := h.rt.good.stage n2 n1 hn hc hd
  have hf := (SOk.of hc).few
  exact no_full (stage_fits (SOk.of hc) hd) (stage_is k1 k2 h0 (h.rt.good.none h0) (by omega) (by omega) (by omega) (by omega)) hg h31 hX (Nat.le_trans (rootN_le hg h31) (by omega))
theorem RL.room_commit (h : RL Q W w r d X recs s a m S) {t : Int} (he : commitE S t = none) (h31 : S.done.length ≤ 30) (hX : rootN (commitS S t.toNat) + 9 ≤ 64 * areaN X.B.length) : ¬ DoWhy X m (commitB S t.toNat) 7 := by
  obtain ⟨-, n, rfl, n1, n2, hn, -⟩ := commit_told he
  rw [Int.toNat_natCast] at hX ⊢
  obtain ⟨k1, k2⟩ := h.sorted
  have hs := h.small
  have hg := h.rt.good.commit n1 n2 hn
  have hl : (commitS S n).done.length ≤ 31 := by simp only [commitS, List.length_append, List.length_cons, List.length_nil]; omega
  exact no_full (commit_fits h.rt.good.wnt h.rt.good.wdig hs.1) (commit_is k1 k2 (by omega) (by omega) (by omega)) hg hl hX (Nat.le_trans (rootN_le hg hl) (by omega))
theorem RL.room_abort (h : RL Q W w r d X recs s a m S) (h31 : S.done.length ≤ 31) (hX : rootN (abortS S) + 9 ≤ 64 * areaN X.B.length) : ¬ DoWhy X m (abortB S) 7 := by
  obtain ⟨k1, k2⟩ := h.sorted
  have hs := h.small
  have hg := h.rt.good.abort
  exact no_full (abort_fits hs.2) (abort_is k1 k2 (by omega) (by omega)) hg h31 hX (Nat.le_trans (rootN_le hg h31) (by omega))

theorem Told.done {S2 S' : RS} {full : Prop} {z : Int} (h : Told none S S2 full z S') (hf : ¬ full) : z = 0 ∧ S' = S2 := by
  rcases h with ⟨y, e, -, -⟩ | ⟨-, h1, h2⟩ | ⟨-, -, -, h⟩
  · cases e
  · exact ⟨h1, h2⟩
  · exact absurd h hf
theorem Told.early {E : Option Nat} {S2 S' : RS} {full : Prop} {z : Int} {y : Nat} (h : Told E S S2 full z S') (he : E = some y) : z = y ∧ S' = S := by
  subst he
  rcases h with ⟨y', e, h1, h2⟩ | ⟨e, -, -⟩ | ⟨e, -⟩
  · cases e; exact ⟨h1, h2⟩
  · cases e
  · cases e

end Go.Proofs.YtbjagmlbamjdbaaGreat.roots
end

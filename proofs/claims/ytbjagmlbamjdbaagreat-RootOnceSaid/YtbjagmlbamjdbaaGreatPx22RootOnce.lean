/- . -/
import Derived.Test.YtbjagmlbamjdbaaGreatPx21RootOnce
import Derived.Maps.AppendAt

set_option linter.unusedSimpArgs false
set_option linter.unusedVariables false
section
namespace Go.Proofs.YtbjagmlbamjdbaaGreat.roots
open Go.RowKit Go.Maps Go.My Go.ChangeMaps disks bufs wals kvs
set_option maxRecDepth 100000

variable {W w w' : World} {P F Q : Nat → Prop} {r kb l q d s a : Nat} {X : DV} {m : List KV} {recs : List Txt} {S : RS} {sv wv dv : Value}

theorem commit_sum (L1 L2 L3 : List PV) (x y : PV) (v u1 u2 u3 : Value) (h1 : L1.length ≤ 16) (h2 : L2.length ≤ 16) (h3 : L3.length ≤ 16) : 0 < sumL [(v, [x, y]), (u1, L1), (u2, L2), (u3, L3)] ∧ sumL [(v, [x, y]), (u1, L1), (u2, L2), (u3, L3)] ≤ 1000 := by
  simp [sumL]; omega

theorem str_cons (c : UInt8) (x : Txt) (s : ByteArray) (h : strV x = .string s) : Value.string ((⟨#[c]⟩ : ByteArray) ++ s) = strV (c :: x) := by
  unfold strV at h ⊢
  simp only [Value.string.injEq] at h ⊢
  subst h
  apply ByteArray.ext
  rw [ByteArray.data_append]
  simp

set_option maxHeartbeats 4000000 in
theorem commit_go (w : World) (h : RKS P W w r kb l q d X (lvW recs s a []) m F S sv wv dv) (hQ : ∀ g, P g ∨ g = q ∨ g = r ∨ F g ∨ dv.ownBlock = some g → Q g) (hlt : ∀ g, Q g → g < w.heap.size) (hnew : ∀ g, Q g → W.heap.size ≤ g) (hgood : RGood S) (hi : sortF m = rootL S)
    (hs : Stands X recs s a) (h60 : s ≤ 1152921504606846976) (hr : Rep recs m) (hf : X.fuse ≤ 9223372036854775807) (h1000 : S.done.length < 1000) (t : Int) (hz : commitE S t = none) :
    Calls Tryz.prog 20 #[.pointer (some ⟨r, 0, none⟩), .int .i64 t] w fun e w' => ∃ z : Int, e = .returned (.int .i64 z) ∧ ∃ X' V' m' S', RGo Q W w w' r d X' V' m' S' ∧ (z = 0 → S' = commitS S t.toNat) ∧ (z ≠ 0 → S' = S) ∧ Out X recs s a m (applyF m (commitB S t.toNat)) (DoWhy X m (commitB S t.toNat)) z X' V' m' := by
  have hmf : ∀ (fn : Fn) (first cap : Array Value) (w : World), (Instr.makeFunc fn first cap).run Tryz.prog w = .ok (.func fn first cap) w := fun _ _ _ _ => rfl
  obtain ⟨ha0, n, rfl, n1, n2, hnd, hst⟩ := commit_told hz
  rw [Int.toNat_natCast]
  have hd0 : decide (∃ k ∈ S.done, (k : Int) = (n : Int)) = false := by
    rw [decide_eq_false_iff_not]; rintro ⟨k, hk, e⟩; exact hnd (by have e2 : k = n := by omega
                                                                   exact e2 ▸ hk)
  have HA := Lib.hid (asked_is w h.rt n)
  rw [ha0] at HA
  have hrt := h.rt
  obtain ⟨od, cd, hdv, -⟩ := rows_nums hrt.done
  have HH := Lib.hid (has_is w (SlAt.of_own hrt.done : NumsAt w _ S.done) (by have := hrt.few.2.2; omega) n)
  rw [hd0] at HH
  rw [hdv] at HH
  obtain ⟨ow, cw, lw, hwv, -⟩ := hrt.wants.is
  obtain ⟨os, cs, ls, hsv, -⟩ := hrt.stack.is
  have c0 : w.cell? ⟨r, 0, none⟩ = some (.pointer (some ⟨kb, 0, none⟩)) := cell_of_block hrt.head rfl
  have c1 : w.cell? ⟨r, 1, none⟩ = some (.slice os S.stack.length cs) := by rw [← hsv]; exact cell_of_block hrt.head rfl
  have c2 : w.cell? ⟨r, 2, none⟩ = some (.int .i64 (n : Int)) := by rw [← hst]; exact cell_of_block hrt.head rfl
  have c3 : w.cell? ⟨r, 3, none⟩ = some (.slice ow S.wants.length cw) := by rw [← hwv]; exact cell_of_block hrt.head rfl
  have c4 : w.cell? ⟨r, 4, none⟩ = some (.slice od S.done.length cd) := by rw [← hdv]; exact cell_of_block hrt.head rfl
  have H0 := Lib.hid (And.intro c0 (And.intro c1 c3))
  have HRt := Lib.hid h
  have HSt := Lib.hid hs
  have H60 := Lib.hid h60
  have HRep := Lib.hid hr
  have HFu := Lib.hid hf
  have HFew := Lib.hid (And.intro hgood.wnt.few hgood.stk.few)
  have HGood := Lib.hid hgood
  have HI := Lib.hid hi
  have H1k := Lib.hid h1000
  have HDv := Lib.hid (And.intro hdv (And.intro hwv hsv))
  have HNd := Lib.hid (And.intro n1 (And.intro n2 hnd))
  have HQ := Lib.hid (And.intro hQ (And.intro hlt hnew))
  have hg1 : ∀ W : World, Calls Tryz.prog 54 #[.string ⟨#[113]⟩, .int .i64 0, .int .i64 (S.wants.length : Int)] W fun e w' => ∃ v, e = .returned v ∧ Puts w' W.heap.size v ((lkeys 113 0 (S.wants.length - 0)).map delP) ∧ Chg (fun _ => False) W w' := fun W => gone_is W 113 0 S.wants.length (by omega) (by have := hgood.wnt.few; omega)
  have HG1 := Lib.hid hg1
  have hg2 : ∀ W : World, Calls Tryz.prog 54 #[.string ⟨#[112]⟩, .int .i64 (S.wants.length : Int), .int .i64 (S.stack.length : Int)] W fun e w' => ∃ v, e = .returned v ∧ Puts w' W.heap.size v ((lkeys 112 S.wants.length (S.stack.length - S.wants.length)).map delP) ∧ Chg (fun _ => False) W w' := fun W => gone_is W 112 S.wants.length S.stack.length (by have := hgood.wnt.few; omega) (by have := hgood.stk.few; omega)
  have HG2 := Lib.hid hg2
  have hly : ∀ (W : World) (_ : Chg (fun _ => False) w W), Calls Tryz.prog 53 #[.string ⟨#[112]⟩, .slice ow S.wants.length cw] W fun e w' => ∃ v', e = .returned v' ∧ Puts w' W.heap.size v' ((lst 112 0 S.wants).map ofKV) ∧ Chg (fun _ => False) W w' := fun W hW => by
    have := lay_is W 112 (hrt.wants.fresh hW) hgood.wnt.each (by have := hgood.wnt.few; omega)
    rw [hwv] at this
    exact this
  have HLy := Lib.hid hly
  have HE1 := Lib.hid (fun (W : World) => eight_any W S.done.length (by have := hrt.few.2.2; omega))
  have HE2 := Lib.hid (fun (W : World) => eight_any W n (by omega))
  obtain ⟨se1, hse1⟩ : ∃ s, strV (eight S.done.length) = .string s := ⟨_, rfl⟩
  obtain ⟨se2, hse2⟩ : ∃ s, strV (eight n) = .string s := ⟨_, rfl⟩
  rw [hse1] at HE1
  rw [hse2] at HE2
  have hfit : ¬ 9223372036854775807 < 1 + se1.size := by have := str_size _ se1 hse1; rw [eight_length] at this; omega
  have HS1 := Lib.hid (str_cons 99 _ _ hse1)
  have HS2 := Lib.hid hse2
  clear h hs h60 hr hf hgood hi hQ hlt hnew hrt hdv hwv hsv hnd hz ha0 hd0 n1 n2 hse1 hse2 h1000 hg1 hg2 hly
  have hnn : ((n : Int) != (n : Int)) = false := by simp
  go_enter Tryz.func20, Tryz.ntmps20
  go_wp2_with (first
    | (go_at_call 49; refine HA.out.mono ?_; rintro e w' ⟨rfl, rfl⟩)
    | (go_at_call 50; refine HH.out.mono ?_; rintro e w' ⟨rfl, rfl⟩)
    | (go_at_call 51; fail))
  refine (HE1.out w).mono ?_
  rintro e w1 ⟨rfl, hc1⟩
  have HC1 := Lib.hid hc1
  clear hc1
  dsimp only
  go_wp2_with (first
    | (go_at_call 51; fail))
  refine (HE2.out w1).mono ?_
  rintro e w2 ⟨rfl, hc2⟩
  have HC2 := Lib.hid (HC1.out.trans' hc2)
  clear hc2
  have d0 := HC2.out.cell c0 id
  have d1 := HC2.out.cell c1 id
  have d3 := HC2.out.cell c3 id
  clear c0 c1 c2 c3 c4
  dsimp only
  go_wp2_with fail
  obtain ⟨wa, hwa⟩ : ∃ wa, w2.alloc (.cells #[.string ⟨#[116]⟩, .string ⟨#[]⟩, .bool true, .string ((⟨#[99]⟩ : ByteArray) ++ se1), .string se2, .bool false] 103) = wa := ⟨_, rfl⟩
  have hca : Chg (fun _ => False) w2 wa := by rw [← hwa]; exact (Chg.refl _ _).alloc _
  have hla : wa.heap[w2.heap.size]? = some (.cells #[.string ⟨#[116]⟩, .string ⟨#[]⟩, .bool true, .string ((⟨#[99]⟩ : ByteArray) ++ se1), .string se2, .bool false] 103 (0, 0)) := by rw [← hwa]; exact block_alloc_new w2 _
  have HCa := Lib.hid (HC2.out.trans' hca)
  have HLa := Lib.hid hla
  try rw [hwa]
  obtain ⟨lb, hlb⟩ : ∃ lb, w2.heap.size = lb := ⟨_, rfl⟩
  rw [hlb] at HLa ⊢
  clear hwa hca hla hlb d0 d1 d3
  have HS := Lib.hid (fun (v : World) (hv : Chg (fun _ => False) w v) => (⟨hv.cell H0.out.1 id, hv.cell H0.out.2.1 id, hv.cell H0.out.2.2 id⟩ : v.cell? ⟨r, 0, none⟩ = some (.pointer (some ⟨kb, 0, none⟩)) ∧ v.cell? ⟨r, 1, none⟩ = some (.slice os S.stack.length cs) ∧ v.cell? ⟨r, 3, none⟩ = some (.slice ow S.wants.length cw)))
  refine wp_region_noPanic ?_
  refine wp_region_held_drew (S := (fun w' => w'.cell? ⟨r, 0, none⟩ = some (.pointer (some ⟨kb, 0, none⟩)) ∧ w'.cell? ⟨r, 1, none⟩ = some (.slice os S.stack.length cs) ∧ w'.cell? ⟨r, 3, none⟩ = some (.slice ow S.wants.length cw))) (by kernel_rfl) (HS.out wa HCa.out) (fun hHeld => ?_)
  have HCd := Lib.hid (show Chg (fun _ => False) w wa.drew from HCa.out.drew)
  refine tk 0 (v := ?_) hHeld rfl (fun w hSw => ?_) ?_
  rotate_left
  · (obtain ⟨hSw1, hSw2, hSw3⟩ := hSw; go_simp)
    try with_reducible rfl
  simp only [Act.put, zA, zB, zC]
  refine tk 1 (v := ?_) hHeld rfl (fun w hSw => ?_) ?_
  rotate_left
  · (obtain ⟨hSw1, hSw2, hSw3⟩ := hSw; go_simp)
    try with_reducible rfl
  simp only [Act.put, zA, zB, zC]
  refine tk 2 (v := ?_) hHeld rfl (fun w hSw => ?_) ?_
  rotate_left
  · (obtain ⟨hSw1, hSw2, hSw3⟩ := hSw; go_simp)
    try with_reducible rfl
  simp only [Act.put, zA, zB, zC]
  refine tk 3 (v := ?_) hHeld rfl (fun w hSw => ?_) ?_
  rotate_left
  · (obtain ⟨hSw1, hSw2, hSw3⟩ := hSw; go_simp)
    try with_reducible rfl
  simp only [Act.put, zA, zB, zC]
  refine tk 4 (v := ?_) hHeld rfl (fun w hSw => ?_) ?_
  rotate_left
  · (obtain ⟨hSw1, hSw2, hSw3⟩ := hSw; go_simp)
    try with_reducible rfl
  simp only [Act.put, zA, zB, zC]
  refine tk 5 (v := ?_) hHeld rfl (fun w hSw => ?_) ?_
  rotate_left
  · (obtain ⟨hSw1, hSw2, hSw3⟩ := hSw; go_simp)
    try with_reducible rfl
  simp only [Act.put, zA, zB, zC]
  refine tk 7 (v := ?_) hHeld rfl (fun w hSw => ?_) ?_
  rotate_left
  · (obtain ⟨hSw1, hSw2, hSw3⟩ := hSw; go_simp)
    try with_reducible rfl
  simp only [Act.put, zA, zB, zC]
  refine tk 8 (v := ?_) hHeld rfl (fun w hSw => ?_) ?_
  rotate_left
  · (obtain ⟨hSw1, hSw2, hSw3⟩ := hSw; go_simp)
    try with_reducible rfl
  simp only [Act.put, zA, zB, zC]
  refine tk 9 (v := ?_) hHeld rfl (fun w hSw => ?_) ?_
  rotate_left
  · (obtain ⟨hSw1, hSw2, hSw3⟩ := hSw; go_simp)
    try with_reducible rfl
  simp only [Act.put, zA, zB, zC]
  refine tk 10 (v := ?_) hHeld rfl (fun w hSw => ?_) ?_
  rotate_left
  · (obtain ⟨hSw1, hSw2, hSw3⟩ := hSw; go_simp)
    try with_reducible rfl
  simp only [Act.put, zA, zB, zC]
  refine tk 11 (v := ?_) hHeld rfl (fun w hSw => ?_) ?_
  rotate_left
  · (obtain ⟨hSw1, hSw2, hSw3⟩ := hSw; go_simp)
    try with_reducible rfl
  simp only [Act.put, zA, zB, zC]
  refine tk 12 (v := ?_) hHeld rfl (fun w hSw => ?_) ?_
  rotate_left
  · (obtain ⟨hSw1, hSw2, hSw3⟩ := hSw; go_simp)
    try with_reducible rfl
  simp only [Act.put, zA, zB, zC]
  refine tk 14 (v := ?_) hHeld rfl (fun w hSw => ?_) ?_
  rotate_left
  · (obtain ⟨hSw1, hSw2, hSw3⟩ := hSw; go_simp)
    try with_reducible rfl
  simp only [Act.put, zA, zB, zC]
  refine tk 15 (v := ?_) hHeld rfl (fun w hSw => ?_) ?_
  rotate_left
  · (obtain ⟨hSw1, hSw2, hSw3⟩ := hSw; go_simp)
    try with_reducible rfl
  simp only [Act.put, zA, zB, zC]
  refine tk 16 (v := ?_) hHeld rfl (fun w hSw => ?_) ?_
  rotate_left
  · (obtain ⟨hSw1, hSw2, hSw3⟩ := hSw; go_simp)
    try with_reducible rfl
  simp only [Act.put, zA, zB, zC]
  refine tk 17 (v := ?_) hHeld rfl (fun w hSw => ?_) ?_
  rotate_left
  · (obtain ⟨hSw1, hSw2, hSw3⟩ := hSw; go_simp)
    try with_reducible rfl
  simp only [Act.put, zA, zB, zC]
  refine on1 6 rfl (fun K hK => ?_)
  go_simp
  refine (HG1.out wa.drew).mono ?_
  rintro e w3 ⟨v3, rfl, hp3, hc3⟩
  obtain ⟨og, ng, cg, hvg⟩ : ∃ og ng cg, v3 = .slice og ng cg := by obtain ⟨o, c, e, -⟩ := hp3.slice; exact ⟨o, _, c, e⟩
  subst hvg
  have HC3 := Lib.hid (HCd.out.trans' hc3)
  have HP3 := Lib.hid hp3
  have HLa := Lib.hid (((Chg.refl _ wa).drew.trans' hc3).at HLa.out id)
  clear hc3 hp3
  refine hK _ _ (HS.out w3 HC3.out) (fun hA1 => ?_)
  try simp only [Act.put, zA, zB, zC]
  refine on1 13 rfl (fun K hK => ?_)
  go_simp
  refine (HG2.out w3).mono ?_
  rintro e w4 ⟨v4, rfl, hp4, hc4⟩
  obtain ⟨oh, nh, ch, hvh⟩ : ∃ og ng cg, v4 = .slice og ng cg := by obtain ⟨o, c, e, -⟩ := hp4.slice; exact ⟨o, _, c, e⟩
  subst hvh
  have HC4 := Lib.hid (HC3.out.trans' hc4)
  have HP3 := Lib.hid (HP3.out.kept hc4 (fun _ _ h => h))
  have HP4 := Lib.hid hp4
  have HLa := Lib.hid (hc4.at HLa.out id)
  clear hc4 hp4
  refine hK _ _ (HS.out w4 HC4.out) (fun hA2 => ?_)
  try simp only [Act.put, zA, zB, zC]
  refine on1 18 rfl (fun K hK => ?_)
  go_simp
  refine (HLy.out w4 HC4.out).mono ?_
  rintro e w5 ⟨v5, rfl, hp5, hc5⟩
  obtain ⟨oi, ni, ci, hvi⟩ : ∃ og ng cg, v5 = .slice og ng cg := by obtain ⟨o, c, e, -⟩ := hp5.slice; exact ⟨o, _, c, e⟩
  subst hvi
  have HC5 := Lib.hid (HC4.out.trans' hc5)
  have HP3 := Lib.hid (HP3.out.kept hc5 (fun _ _ h => h))
  have HP4 := Lib.hid (HP4.out.kept hc5 (fun _ _ h => h))
  have HP5 := Lib.hid hp5
  have HLa := Lib.hid (hc5.at HLa.out id)
  clear hc5 hp5
  refine hK _ _ (HS.out w5 HC5.out) (fun hA3 => ?_)
  try simp only [Act.put, zA, zB, zC]
  refine on1 19 rfl (fun K hK => ?_)
  go_simp
  obtain ⟨wy, hwy⟩ : ∃ wy, w5.alloc (.cells #[.slice (some ⟨lb, 0, none⟩) 2 2, .slice og ng cg, .slice oh nh ch, .slice oi ni ci] 66) = wy := ⟨_, rfl⟩
  have hcy : Chg (fun _ => False) w5 wy := by rw [← hwy]; exact (Chg.refl _ _).alloc _
  have hyb : wy.heap[w5.heap.size]? = some (.cells (([(.slice (some ⟨lb, 0, none⟩) 2 2, [delP [116], ofKV (99 :: eight S.done.length, eight n)]), (.slice og ng cg, (lkeys 113 0 (S.wants.length - 0)).map delP), (.slice oh nh ch, (lkeys 112 S.wants.length (S.stack.length - S.wants.length)).map delP), (.slice oi ni ci, (lst 112 0 S.wants).map ofKV)] : List (Value × List PV)).map (fun x => x.1)).toArray 66 (0, 0)) := by rw [← hwy]; exact block_alloc_new w5 _
  have hrow : ([.string ⟨#[116]⟩, .string ⟨#[]⟩, .bool true, .string ((⟨#[99]⟩ : ByteArray) ++ se1), .string se2, .bool false] : List Value) = (([delP [116], ofKV (99 :: eight S.done.length, eight n)] : List PV).map PV.row).flatten := by
    show _ = [strV [116], strV [], .bool true, strV (99 :: eight S.done.length), strV (eight n), .bool false]
    rw [← HS1.out, HS2.out]
    rfl
  have hlit2 : Puts wy lb (.slice (some ⟨lb, 0, none⟩) 2 2) [delP [116], ofKV (99 :: eight S.done.length, eight n)] := puts_block (ps := [delP [116], ofKV (99 :: eight S.done.length, eight n)]) (hcy.at HLa.out id) hrow (by simp)
  have hq3 := HP3.out.kept hcy (fun _ _ h => h)
  have hq4 := HP4.out.kept hcy (fun _ _ h => h)
  have hq5 := HP5.out.kept hcy (fun _ _ h => h)
  try rw [hwy]
  clear hwy hrow
  have hsum := commit_sum ((lkeys 113 0 (S.wants.length - 0)).map delP) ((lkeys 112 S.wants.length (S.stack.length - S.wants.length)).map delP) ((lst 112 0 S.wants).map ofKV) (delP [116]) (ofKV (99 :: eight S.done.length, eight n)) (.slice (some ⟨lb, 0, none⟩) 2 2) (.slice og ng cg) (.slice oh nh ch) (.slice oi ni ci) (by rw [List.length_map, lkeys_len]; have := HFew.out.1; omega) (by rw [List.length_map, lkeys_len]; have := HFew.out.2; omega) (by rw [List.length_map, lst_len]; exact HFew.out.1)
  have HJ := Lib.hid (join_is wy _ hyb (by
    intro x hx
    simp only [List.mem_cons, List.not_mem_nil, or_false] at hx
    rcases hx with rfl | rfl | rfl | rfl
    · exact ⟨_, hlit2⟩
    · exact ⟨_, hq3⟩
    · exact ⟨_, hq4⟩
    · exact ⟨_, hq5⟩) hsum.1 hsum.2 (by simp))
  have HCy := Lib.hid (HC5.out.trans' hcy)
  clear hyb hlit2 hq3 hq4 hq5 hsum hcy
  refine hK _ _ (HS.out wy HCy.out) (fun hA4 => ?_)
  try simp only [Act.put, zA, zB, zC]
  refine on1 20 rfl (fun K hK => ?_)
  go_simp
  refine HJ.out.mono ?_
  rintro e w7 ⟨v7, rfl, hp7, hc7⟩
  have HC7 := Lib.hid (HCy.out.trans' hc7)
  have hp7 : Puts w7 wy.heap.size v7 (commitB S n) := by
    have e : commitB S n = (([(.slice (some ⟨lb, 0, none⟩) 2 2, [delP [116], ofKV (99 :: eight S.done.length, eight n)]), (.slice og ng cg, (lkeys 113 0 (S.wants.length - 0)).map delP), (.slice oh nh ch, (lkeys 112 S.wants.length (S.stack.length - S.wants.length)).map delP), (.slice oi ni ci, (lst 112 0 S.wants).map ofKV)] : List (Value × List PV)).map (fun x => x.2)).flatten := by
      simp [commitB]
    rw [e]; exact hp7
  have HP7 := Lib.hid hp7
  have HLo := Lib.hid (show w.heap.size ≤ wy.heap.size from HCy.out.size)
  clear hc7 hp7
  refine hK _ _ (HS.out w7 HC7.out) (fun hA5 => ?_)
  try simp only [Act.put, zA, zB, zC]
  refine on1 21 rfl (fun K hK => ?_)
  go_simp
  have hr7 := HRt.out.fresh HC7.out
  have hfit := (commit_fits (n := n) HGood.out.wnt HGood.out.wdig HFew.out.2)
  have hd7 := ks_do w7 hr7.ks HSt.out H60.out HRep.out HFu.out HP7.out (by have := hfit.few; omega) (fun g hg => HRt.out.ks.made (Nat.le_trans HLo.out (HP7.out.lt hg).1) (HP7.out.lt hg).2)
  refine hd7.mono ?_
  rintro e w8 ⟨z, rfl, X4, V4, m4, P4, hn4, ho4⟩
  have HN4 := Lib.hid hn4
  have HO4 := Lib.hid ho4
  have HR4 := Lib.hid (hr7.next hn4)
  clear hr7 hd7 hn4 ho4 hfit
  have q0 : w8.cell? ⟨r, 0, none⟩ = some (.pointer (some ⟨kb, 0, none⟩)) := cell_of_block HR4.out.rt.head rfl
  have q1 : w8.cell? ⟨r, 1, none⟩ = some (.slice os S.stack.length cs) := by
    have := (cell_of_block HR4.out.rt.head (i := 1) rfl : w8.cell? ⟨r, 1, none⟩ = some sv)
    rw [HDv.out.2.2] at this
    exact this
  have q2 : w8.cell? ⟨r, 2, none⟩ = some (.int .i64 (S.staged : Int)) := cell_of_block HR4.out.rt.head rfl
  have q3 : w8.cell? ⟨r, 3, none⟩ = some (.slice ow S.wants.length cw) := by
    have := (cell_of_block HR4.out.rt.head (i := 3) rfl : w8.cell? ⟨r, 3, none⟩ = some wv)
    rw [HDv.out.2.1] at this
    exact this
  have q4 : w8.cell? ⟨r, 4, none⟩ = some (.slice od S.done.length cd) := by
    have := (cell_of_block HR4.out.rt.head (i := 4) rfl : w8.cell? ⟨r, 4, none⟩ = some dv)
    rw [HDv.out.1] at this
    exact this
  refine hK _ _ (⟨q0, q1, q3⟩) (fun hA6 => ?_)
  try simp only [Act.put, zA, zB, zC]
  refine tk 22 (v := ?_) hA6 rfl (fun w hSw => ?_) ?_
  rotate_left
  · go_simp
    try with_reducible rfl
  simp only [Act.put, zA, zB, zC]
  refine wpAnyH_done (by kernel_rfl) ?_ _
  refine NoPanic.normal ?_
  by_cases hz0 : z = 0
  · subst hz0
    have b1 := block_setCell (i := 1) (v := .slice ow S.wants.length cw) HR4.out.rt.head
    have b2 := block_setCell (i := 3) (v := .slice none 0 0) b1
    have b3 := block_setCell (i := 2) (v := .int .i64 0) b2
    have f1 : w8.frozen? ⟨r, 1, none⟩ = false := free_of_block HR4.out.rt.head
    have f3 : (w8.setCell ⟨r, 1, none⟩ (.slice ow S.wants.length cw)).frozen? ⟨r, 3, none⟩ = false := free_of_block b1
    have f2 : ((w8.setCell ⟨r, 1, none⟩ (.slice ow S.wants.length cw)).setCell ⟨r, 3, none⟩ (.slice none 0 0)).frozen? ⟨r, 2, none⟩ = false := free_of_block b2
    have hcr : Chg (· = r) w8 (((w8.setCell ⟨r, 1, none⟩ (.slice ow S.wants.length cw)).setCell ⟨r, 3, none⟩ (.slice none 0 0)).setCell ⟨r, 2, none⟩ (.int .i64 0)) := Chg.setCell (S := (· = r)) (Chg.setCell (S := (· = r)) (Chg.setCell (S := (· = r)) (Chg.refl _ _) (fun _ => rfl) _) (fun _ => rfl) _) (fun _ => rfl) _
    have hne := own_ne HR4.out.rt.done HR4.out.rt.head (by decide)
    have hdB := own_keptS HR4.out.rt.done hcr hne
    have hsB : (((w8.setCell ⟨r, 1, none⟩ (.slice ow S.wants.length cw)).setCell ⟨r, 3, none⟩ (.slice none 0 0)).setCell ⟨r, 2, none⟩ (.int .i64 0)).heap.size = w8.heap.size := by simp [World.setCell]
    obtain ⟨i0, hi, hz, his, hib⟩ := info_parts info_num
    have hW8 : W.heap.size ≤ w8.heap.size := HR4.out.ks.chg.size
    have hca := (Chg.refl (fun _ => False) (((w8.setCell ⟨r, 1, none⟩ (.slice ow S.wants.length cw)).setCell ⟨r, 3, none⟩ (.slice none 0 0)).setCell ⟨r, 2, none⟩ (.int .i64 0))).alloc (.cells #[.int .i64 (n : Int)] 3)
    obtain ⟨v9, w9, hap, ho9, hg9, -, hv9⟩ := run_append_own_at (P := Tryz.prog) ((((w8.setCell ⟨r, 1, none⟩ (.slice ow S.wants.length cw)).setCell ⟨r, 3, none⟩ (.slice none 0 0)).setCell ⟨r, 2, none⟩ (.int .i64 0)).alloc (.cells #[.int .i64 (n : Int)] 3)) W.heap.size 35 35 3 i0 _ 1 8 Tryz.underlying35 hi hz his hib rfl (by decide) dv _ _ (own_kept hdB hca) ⟨w8.heap.size, 0, none⟩ 1 1 [.int .i64 (n : Int)] rfl
      (fun j u hu => by rw [← hsB]; exact cells_new _ [.int .i64 (n : Int)] _ j u hu) (by intro u hu; rw [List.mem_singleton.1 hu]; rfl) (by have := H1k.out; unfold maxLen; omega) (by have := H1k.out; omega) (by rw [World.size_alloc, hsB]; omega)
    obtain ⟨oe, ce, hv9e⟩ := own_slice ho9
    have hcg := Chg.of_grown hg9
    have hb9 := hcg.at (hca.at b3 id) (fun e => hne r e.symm rfl)
    have b4 := block_setCell (i := 4) (v := v9) hb9
    have f4 : w9.frozen? ⟨r, 4, none⟩ = false := free_of_block hb9
    have g4 : w9.cell? ⟨r, 4, none⟩ = some dv := cell_of_block hb9 (by simp)
    rw [HDv.out.1] at g4
    have hap2 := hap
    rw [HDv.out.1, hsB.symm, hv9e] at hap2
    have hapS : (Builtin.append_ #[35, 35] 35 #[.slice od S.done.length cd, .slice (some ⟨w8.heap.size, 0, none⟩) 1 1]).run Tryz.prog ((((w8.setCell ⟨r, 1, none⟩ (.slice ow S.wants.length cw)).setCell ⟨r, 3, none⟩ (.slice none 0 0)).setCell ⟨r, 2, none⟩ (.int .i64 0)).alloc (.cells #[.int .i64 (n : Int)] 3)) = .ok (.slice oe (S.done.length + 1) ce) w9 := by
      have := hap
      rw [HDv.out.1, hv9e] at this
      exact this
    have HB4 := Lib.hid b4
    have HHap := Lib.hid hapS
    have HO9 := Lib.hid ho9
    have HV9 := Lib.hid hv9
    have HV9e := Lib.hid hv9e
    have HCg := Lib.hid hcg
    have HCa9 := Lib.hid hca
    have HCr := Lib.hid hcr
    have HNe := Lib.hid hne
    have HSB := Lib.hid hsB
    clear b1 b2 b3 hcr hne hdB hsB hi hz his hib hW8 hca hap hap2 hapS ho9 hg9 hv9 hv9e hcg hb9 b4
    go_wp2_with (first
      | (at_builtin; refine Lib.wpList_append_run _ rfl _ _ _ _ rfl _ _ rfl rfl _ _ HHap.out ?_))
    go_ret
    obtain ⟨w10, hw10⟩ : ∃ w10, w9.setCell ⟨r, 4, none⟩ (.slice oe (S.done.length + 1) ce) = w10 := ⟨_, rfl⟩
    have hb4 := HB4.out
    rw [HV9e.out, hw10] at hb4
    have hc48 : Chg (fun k => k = r ∨ some k = dv.ownBlock) w8 w10 := by
      rw [← hw10]
      exact Chg.setCell (((HCr.out.mono (fun _ _ e => Or.inl e)).trans' (HCa9.out.mono (fun _ _ e => e.elim))).trans' (HCg.out.mono (fun _ _ e => Or.inr e))) (fun _ => Or.inl rfl) _
    have hr8 : r < w8.heap.size := HR4.out.br.2.2
    have hs9 : w9.heap.size = w10.heap.size := by rw [← hw10]; simp [World.setCell]
    have hv : ∀ g, (Value.slice oe (S.done.length + 1) ce).ownBlock = some g → dv.ownBlock = some g ∨ (w8.heap.size ≤ g ∧ g < w10.heap.size) := fun g hg => by
      have h1 := HO9.out.lt g (by rw [HV9e.out]; exact hg)
      rcases HV9.out with e | e
      · rw [HV9e.out] at e
        exact Or.inl (e.symm.trans hg)
      · rw [HV9e.out] at e
        have h2 := Option.some.inj (hg.symm.trans e)
        refine Or.inr ⟨?_, by rw [← hs9]; exact h1.2⟩
        rw [h2, World.size_alloc, HSB.out]
        omega
    have hnr : ∀ g, (Value.slice oe (S.done.length + 1) ce).ownBlock = some g → ¬ g = r := fun g hg e => by
      rcases hv g hg with h | h
      · exact HNe.out g h e
      · omega
    have hdn : w10.ownsRow W.heap.size 3 1 (.slice oe (S.done.length + 1) ce) (S.done ++ [n]).length ((S.done ++ [n]).map (fun n : Nat => Value.int .i64 (n : Int))) := by
      have h1 := HO9.out
      rw [HV9e.out] at h1
      have h2 := own_keptS h1 (Chg.setCell (S := (· = r)) (Chg.refl _ w9) (p := ⟨r, 4, none⟩) (fun _ => rfl) (.slice oe (S.done.length + 1) ce)) hnr
      rw [hw10] at h2
      rw [List.length_append, List.map_append]
      exact h2
    have hFn : ∀ k, F k → ¬ (k = r ∨ some k = dv.ownBlock) := fun k hk e => e.elim (fun e => HR4.out.fr (e ▸ hk)) (fun e => HR4.out.fd k e.symm hk)
    have hwt := HR4.out.rt.wants
    have hfw := HR4.out.rt.few
    have hrt5 : RtIs w10 W.heap.size r kb F (commitS S n) wv (.slice none 0 0) (.slice oe (S.done.length + 1) ce) := ⟨by have h := HDv.out.2.1; rw [h]; simpa [commitS] using hb4, hwt.kept hc48 hFn, PksAt.nil _ _, hdn, ⟨hfw.2.1, by simp [commitS], by have := H1k.out; simp only [commitS, List.length_append, List.length_cons, List.length_nil]; omega⟩, ⟨HR4.out.rt.lays.2, by simp [commitS]⟩⟩
    have hk5 := HR4.out.set hc48 hrt5 (fun k hk => Beside.more (HR4.out.bf k hk) hc48.size) (fun g hg => (hv g hg).elim (fun e => Beside.more (HR4.out.bd g e) hc48.size) (fun e => HR4.out.ks.made e.1 e.2)) HR4.out.nf HR4.out.fr (fun g hg hF => (hv g hg).elim (fun e => HR4.out.fd g e hF) (fun e => by have := (HR4.out.bf g hF).2.2; omega))
    have hm4 : m4 = applyF m (commitB S n) := by
      have h := HO4.out
      generalize hzz : (0 : Int) = zz at h
      cases h with
      | done => rfl
      | refused h1 h2 => omega
      | cut => cases hzz
    have hs8 := HN4.out.chg.size
    have hs7 := HC7.out.size
    refine ⟨0, rfl, X4, V4, m4, commitS S n, ?_, fun _ => rfl, fun e => absurd rfl e, HO4.out⟩
    rw [hw10]
    refine RGo.of HRt.out.ks.chg HC7.out HN4.out hc48 hk5 HQ.out.1 HQ.out.2.1 HQ.out.2.2 (fun g hg => Or.inl hg) (fun g hg => (hv g hg).elim Or.inl (fun e => Or.inr ⟨by omega, e.2⟩)) (HGood.out.commit HNd.out.1 HNd.out.2.1 HNd.out.2.2) ?_
    rw [hm4]
    exact commit_is HRt.out.ks.at'.db.map.nodup HI.out (by have := HRt.out.rt.few.1; omega) (by have := HRt.out.rt.few.2.1; omega) (by have := H1k.out; omega)
  · have hzb : (z != 0) = true := by simpa using hz0
    go_wp2_with fail
    go_ret
    have hm4 : m4 = m := by
      have h := HO4.out
      cases h with
      | done => exact absurd rfl hz0
      | refused h1 h2 => rfl
      | cut => rfl
    refine ⟨z, rfl, X4, V4, m4, S, ?_, fun e => absurd e hz0, fun _ => rfl, HO4.out⟩
    have hlt3 := HC7.out.size
    have hg4 := (HRt.out.fresh HC7.out).go HN4.out HQ.out.1 (fun g hg => Nat.lt_of_lt_of_le (HQ.out.2.1 g hg) hlt3) HQ.out.2.2 HGood.out (by rw [hm4]; exact HI.out)
    exact hg4.from HC7.out HRt.out.ks.chg.size

end Go.Proofs.YtbjagmlbamjdbaaGreat.roots
end

/- . -/
import Derived.Test.YtbjagmlbamjdbaaGreatPx24RootOnce
import Derived.Test.YtbjagmlbamjdbaaGreatPx25RootOnce
import Derived.Maps.AppendAt

set_option linter.unusedSimpArgs false
set_option linter.unusedVariables false
section
namespace Go.Proofs.YtbjagmlbamjdbaaGreat.roots
open Go.RowKit Go.Maps Go.My Go.ChangeMaps disks bufs wals kvs
set_option maxRecDepth 100000

variable {W w w' : World} {P Q : Nat → Prop} {r kb l q d s a : Nat} {X : DV} {V : LV} {m : List KV} {recs : List Txt} {S : RS}

theorem lst_get (c : UInt8) : ∀ (L : List Pk) (i k : Nat) (p : Pk), L[k]? = some p → (lst c i L)[k]? = some ([c, UInt8.ofNat (i + k)], pencF p)
  | [], _, _, _, h => by simp at h
  | x :: L, i, 0, p, h => by simp at h; subst h; rfl
  | x :: L, i, k + 1, p, h => by
    rw [lst, List.getElem?_cons_succ, lst_get c L (i + 1) k p (by simpa using h), show i + 1 + k = i + (k + 1) by omega]

theorem str_tail (c : UInt8) (x : Txt) (s : ByteArray) (h : strV (c :: x) = .string s) : Value.string (s.extract 1 s.size) = strV x := by
  unfold strV at h ⊢
  simp only [Value.string.injEq] at h ⊢
  subst h
  apply ByteArray.ext
  have e : (⟨(c :: x).toArray⟩ : ByteArray).size = x.length + 1 := rfl
  rw [e]
  simp [ByteArray.data_extract]

theorem str_first (c : UInt8) (x : Txt) (s : ByteArray) (h : strV (c :: x) = .string s) (h0 : 0 < s.size) : s[0]'h0 = c := by
  have e := strV_string _ s h
  subst e
  rfl
theorem bytes_cut (w : World) (s : ByteArray) : ∃ g cap w', (convert 9 101 (.string s)).run Tryz.prog w = .ok (.slice (some ⟨g, 0, none⟩) s.size cap) w' ∧ CutAt w' (.slice (some ⟨g, 0, none⟩) s.size cap) s.data.toList ∧ Chg (fun _ => False) w w' := by
  have h1 := Lib.run_convert_string_bytes (P := Tryz.prog) w 9 101 5 s Tryz.underlying9 Tryz.underlying101 Tryz.underlying5
  obtain ⟨v, w', h2, h3, h4, g, cap, hv, -⟩ := string_bytes w s
  subst hv
  rw [h1] at h2
  have h5 := h2
  simp only [Result.ok.injEq, Value.slice.injEq, Option.some.injEq, Addr.mk.injEq] at h5
  obtain ⟨⟨⟨rfl, -⟩, -, rfl⟩, rfl⟩ := h5
  refine ⟨_, _, _, h1, ⟨_, _, _, rfl, ?_, h3⟩, h4⟩
  exact grownCap_ge w s.size 0 5

set_option maxHeartbeats 4000000 in
theorem read_is (w : World) (h : KAt P w kb l q d X V m) (hm : m.length ≤ 1000000) (c0 : w.cell? ⟨r, 0, none⟩ = some (.pointer (some ⟨kb, 0, none⟩))) (c : UInt8) (sc : ByteArray) (hsc : strV [c] = .string sc) (L : List Pk) (hs : scanF m [c] [c, 255] = lst c 0 L) (hok : SOk L) (hdg : ∀ p ∈ L, p.dig) :
    Calls Tryz.prog 96 #[.pointer (some ⟨r, 0, none⟩), .string sc] w fun e w' => ∃ v, e = .returned (.tuple #[v, .bool true]) ∧ PksAt w' (fun b => w.heap.size ≤ b ∧ b < w'.heap.size) v L ∧ Chg (fun _ => False) w w' := by
  have hsn := kat_scan h hm [c] [c, 255]
  rw [hs, str_app1 c 255 sc hsc, hsc] at hsn
  have HSn := Lib.hid hsn
  have hsz : sc.size = 1 := str_size _ sc hsc
  have hfit : ¬ 9223372036854775807 < sc.size + 1 := by omega
  have hky := fun (W : World) (i : Nat) (hi : i < 9223372036854775808) => key_any W c i hi
  rw [hsc] at hky
  have HKy := Lib.hid hky
  have HOk := Lib.hid (And.intro hok hdg)
  have hl16 := hok.few
  obtain ⟨N, hN⟩ : ∃ N, L.length = N := ⟨_, rfl⟩
  have hrl : (((lst c 0 L).map ofKV).map PV.row).length = N := by rw [List.length_map, List.length_map, lst_len, hN]
  have HN := Lib.hid (And.intro hN hrl)
  have hN16 : (N : Int) ≤ 16 := by omega
  clear h hsn hs hsc hsz hky hok hdg hN hrl hl16
  go_enter Tryz.func96, Tryz.ntmps96
  go_wp2_with (first
    | (go_at_call 97; refine HSn.out.mono ?_; rintro e w1 ⟨v1, rfl, hp1, hc1⟩
       obtain ⟨o1, p1, hv1, -⟩ := hp1.slice
       rw [HN.out.2] at hv1
       have HC1 := Lib.hid hc1
       have HP1 := Lib.hid hp1
       subst hv1
       clear hp1 hc1))
  go_loopw [6, 20] (fun u j wr => ∃ (k : Nat) (ou : Option Addr) (cu : Nat), u = .slice ou k cu ∧ j = .int .i64 k ∧ k ≤ N ∧ PkO w1.heap.size wr (.slice ou k cu) (L.take k) ∧ Chg (fun _ => False) w1 wr) (fun _ j _ => N - (intOf j).toNat)
  · exact ⟨0, none, 0, rfl, rfl, Nat.zero_le _, PkO.nil _ _, Chg.refl _ _⟩
  obtain ⟨k, ou, cu, rfl, rfl, hk, ho, hc⟩ := hrel
  have HO := Lib.hid ho
  have HC := Lib.hid hc
  clear ho hc
  by_cases hlt : k < N
  · have hki : (k : Int) < (N : Int) := by omega
    obtain ⟨p, hp⟩ : ∃ p, L[k]? = some p := ⟨L[k]'(by rw [HN.out.1]; exact hlt), List.getElem?_eq_getElem _⟩
    have hpo := HOk.out.1.each p (List.mem_of_getElem? hp)
    have hpd := HOk.out.2 p (List.mem_of_getElem? hp)
    have hrow : (((lst c 0 L).map ofKV))[k]? = some (ofKV ([c, UInt8.ofNat k], pencF p)) := by
      rw [List.getElem?_map, lst_get c L 0 k p hp, Nat.zero_add]; rfl
    obtain ⟨g, cp, pp, hpe, hpp, f0, f1, f2⟩ := put_cells (HP1.out.kept HC.out (fun _ _ h => h)) (k := k) (by rw [List.length_map, lst_len, HN.out.1]; exact hlt)
    simp only [Value.slice.injEq] at hpe
    obtain rfl := hpe.1
    rw [hrow] at hpp
    obtain rfl := Option.some.inj hpp
    have d0 : wr.cell? ⟨g, k * 3, none⟩ = some (strV [c, UInt8.ofNat k]) := f0
    have d1 : wr.cell? ⟨g, k * 3 + 1, none⟩ = some (strV (pencF p)) := f1
    have d2 : wr.cell? ⟨g, k * 3 + 2, none⟩ = some (.bool false) := f2
    clear f0 f1 f2
    obtain ⟨sk, hsk⟩ : ∃ s, strV [c, UInt8.ofNat k] = .string s := ⟨_, rfl⟩
    obtain ⟨sb, hsb⟩ : ∃ s, strV (pencF p) = .string s := ⟨_, rfl⟩
    have hkk := fun (W : World) => HKy.out W k (by omega)
    rw [hsk] at d0 hkk
    rw [hsb] at d1
    have HKk := Lib.hid hkk
    have hpl := pencF_len hpd hpo.2.2
    have hbz : sb.size = (pencF p).length := str_size _ sb hsb
    have hdat : sb.toList = pencF p := by rw [ByteArray.toList_eq, strV_string _ sb hsb]
    have HSb := Lib.hid (And.intro hsb (And.intro hdat hbz))
    have HPp := Lib.hid (And.intro hp (And.intro hpo hpd))
    have hb1 : 1 ≤ sb.size := by rw [hbz]; exact hpl.2
    have hb2 : sb.size ≤ 1000 := by rw [hbz]; have := (mchkF_ok hpo.2.2).few; omega
    have hemp : (sb.toList == ([] : List UInt8)) = false := by
      rw [hdat]
      cases h : pencF p with
      | nil => have := hpl.2; rw [h] at this; simp at this
      | cons a b => rfl
    obtain ⟨wA, hwA⟩ : ∃ wA, wr.alloc (.cells #[.string sk, .string sb, .bool false] 103) = wA := ⟨_, rfl⟩
    have hca : Chg (fun _ => False) wr wA := by rw [← hwA]; exact (Chg.refl _ _).alloc _
    have hba : wA.heap[wr.heap.size]? = some (.cells #[.string sk, .string sb, .bool false] 103 (0, 0)) := by rw [← hwA]; exact block_alloc_new wr _
    have HCa := Lib.hid hca
    have HBa := Lib.hid hba
    have HWA := Lib.hid hwA
    clear hwA
    clear hp hpo hpd hrow hpe hpp hsk hsb hkk hpl hbz hdat hca hba
    have q0 : ∀ n : FreshW wA, n.val.cell? ⟨wr.heap.size, 0, none⟩ = some (.string sk) := fun n => n.chg.cell (cell_of_block HBa.out rfl) id
    have q1 : ∀ n : FreshW wA, n.val.cell? ⟨wr.heap.size, 1, none⟩ = some (.string sb) := fun n => n.chg.cell (cell_of_block HBa.out rfl) id
    have hkq : ∀ n : FreshW wA, Calls Tryz.prog 94 #[.string sc, .int .i64 (k : Int)] n.val fun e w'' => e = .returned (.string sk) ∧ ∃ m' : FreshW wA, w'' = m'.val := fun n => fresh_call (HKk.out _)
    have HKq := Lib.hid hkq
    clear hkq
    go_wp2_with fail
    rw [HWA.out]
    clear HWA d0 d1 d2
    refine wp_region_fresh (by kernel_rfl) (by kernel_rfl) ?_
    repeat (go_big_quiet_step ((go_at_call 94; exact HKq.out _)))
    refine wpQuiet_nil ?_
    rintro _ ⟨nz, rfl⟩
    obtain ⟨w2, hw2⟩ : ∃ w2, nz.val = w2 := ⟨_, rfl⟩
    have hc2 : Chg (fun _ => False) wA w2 := by rw [← hw2]; exact nz.chg
    rw [hw2]
    clear q0 q1 hw2 nz
    have e1 : w2.cell? ⟨wr.heap.size, 1, none⟩ = some (.string sb) := hc2.cell (cell_of_block HBa.out rfl) id
    have HC2 := Lib.hid (HCa.out.trans' hc2)
    have HB2 := Lib.hid (hc2.at HBa.out id)
    clear hc2
    have hxs : (sb.extract 1 sb.size).size = sb.size - 1 := by rw [ByteArray.size_extract]; omega
    obtain ⟨g3, c3, w3, hcv3, hcut3, hc3⟩ := bytes_cut w2 (sb.extract 1 sb.size)
    have hex : (sb.extract 1 sb.size).data.toList = mencF p.man := by
      have h := str_tail (UInt8.ofNat p.owner.toNat) (mencF p.man) sb HSb.out.1
      rw [strV_string _ _ h.symm]
    rw [hex] at hcut3
    rw [hxs] at hcv3 hcut3
    have hdc := mdecode_is w3 hcut3 HPp.out.2.1.2.2 HPp.out.2.2
    obtain ⟨s1, hs1⟩ : ∃ s, strV p.man.name = .string s := ⟨_, rfl⟩
    obtain ⟨s2, hs2⟩ : ∃ s, strV p.man.ver = .string s := ⟨_, rfl⟩
    rw [hs1, hs2] at hdc
    have HDc := Lib.hid hdc
    have HSs := Lib.hid (And.intro hs1 hs2)
    have HC3 := Lib.hid (HC2.out.trans' hc3)
    have HB3 := Lib.hid (hc3.at HB2.out id)
    clear hcut3 hc3 hex hdc hs1 hs2
    go_wp2_with (first
      | (go_at_call 149; fail))
    refine HDc.out.mono ?_
    clear HDc e1 hcv3
    rintro e w4 ⟨u, rfl, hu4, hc4⟩
    obtain ⟨ol, cl, hue, -⟩ := id hu4.is
    obtain ⟨nl, hnl⟩ : ∃ n, p.man.layers.length = n := ⟨_, rfl⟩
    rw [hnl] at hue
    subst hue
    obtain ⟨w5, hw5⟩ : ∃ w5, w4.alloc (.cells #[.string s1, .string s2, .slice ol nl cl] 88) = w5 := ⟨_, rfl⟩
    have hc5 : Chg (fun _ => False) w4 w5 := by rw [← hw5]; exact (Chg.refl _ _).alloc _
    have hb5 : w5.heap[w4.heap.size]? = some (.cells #[.string s1, .string s2, .slice ol nl cl] 88 (0, 0)) := by rw [← hw5]; exact block_alloc_new w4 _
    have HU5 := Lib.hid (hu4.fresh hc5)
    have HS34 := Lib.hid hc4.size
    have HC5 := Lib.hid ((HC3.out.trans' hc4).trans' hc5)
    have HB5 := Lib.hid hb5
    have HB35 := Lib.hid ((hc4.trans' hc5).at HB3.out id)
    have HNl := Lib.hid hnl
    have HWA := Lib.hid hw5
    clear hu4 hc4 hc5 hb5 hnl hw5
    dsimp only
    go_wp2_with fail
    rw [HWA.out]
    clear HWA
    have e1 : w5.cell? ⟨wr.heap.size, 1, none⟩ = some (.string sb) := cell_of_block HB35.out rfl
    have m0 : w5.cell? ⟨w4.heap.size, 0, none⟩ = some (.string s1) := cell_of_block HB5.out rfl
    have m1 : w5.cell? ⟨w4.heap.size, 1, none⟩ = some (.string s2) := cell_of_block HB5.out rfl
    have m2 : w5.cell? ⟨w4.heap.size, 2, none⟩ = some (.slice ol nl cl) := cell_of_block HB5.out rfl
    refine wp_region_noPanic ?_
    refine wp_region_held_drew (S := (fun w' => w'.cell? ⟨wr.heap.size, 1, none⟩ = some (.string sb) ∧ w'.cell? ⟨w4.heap.size, 0, none⟩ = some (.string s1) ∧ w'.cell? ⟨w4.heap.size, 1, none⟩ = some (.string s2) ∧ w'.cell? ⟨w4.heap.size, 2, none⟩ = some (.slice ol nl cl))) (by kernel_rfl) (⟨e1, m0, m1, m2⟩) (fun hHeld => ?_)
    refine tk 0 (v := ?_) hHeld rfl (fun w hSw => ?_) ?_
    rotate_left
    · (obtain ⟨hSw1, hSw2, hSw3, hSw4⟩ := hSw; go_simp)
      try with_reducible rfl
    simp only [Act.put, zA, zB, zC]
    refine tk 1 (v := ?_) hHeld rfl (fun w hSw => ?_) ?_
    rotate_left
    · (obtain ⟨hSw1, hSw2, hSw3, hSw4⟩ := hSw; go_simp)
      try with_reducible rfl
    simp only [Act.put, zA, zB, zC]
    refine tk 2 (v := ?_) hHeld rfl (fun w hSw => ?_) ?_
    rotate_left
    · (obtain ⟨hSw1, hSw2, hSw3, hSw4⟩ := hSw; go_simp)
      try with_reducible rfl
    simp only [Act.put, zA, zB, zC]
    have hb0 : 0 < sb.size := by omega
    have how : ((sb[0]'hb0).toNat : Int) = p.owner := by
      rw [str_first _ _ sb HSb.out.1 hb0, toNat_ofNat_lt (by have := HPp.out.2.1; omega), Int.toNat_of_nonneg (by have := HPp.out.2.1.1; omega)]
    refine take_list (i := 3) (v := .int .u8 p.owner) rfl (by kernel_rfl) (by kernel_rfl) (by kernel_rfl) (fun _ _ _ h => h) (Or.inl ⟨by rfl, fun w hSw => ?_⟩) hHeld ?_
    · go_simp
    simp only [Act.put, zA, zB, zC]
    refine take_list (i := 4) (v := .int .i64 p.owner) rfl (by kernel_rfl) (by kernel_rfl) (by kernel_rfl) (fun _ _ _ h => h) (Or.inl ⟨by rfl, fun w hSw => ?_⟩) hHeld ?_
    · have hw1 : (0 : Int) ≤ p.owner := by have := HPp.out.2.1.1; omega
      have hw2 : p.owner ≤ 8 := HPp.out.2.1.2.1
      go_simp
      rw [wrap_small _ hw1 (by omega)]
    simp only [Act.put, zA, zB, zC]
    refine tk 5 (v := ?_) hHeld rfl (fun w hSw => ?_) ?_
    rotate_left
    · (obtain ⟨hSw1, hSw2, hSw3, hSw4⟩ := hSw; go_simp)
      try with_reducible rfl
    simp only [Act.put, zA, zB, zC]
    refine tk 6 (v := ?_) hHeld rfl (fun w hSw => ?_) ?_
    rotate_left
    · (obtain ⟨hSw1, hSw2, hSw3, hSw4⟩ := hSw; go_simp)
      try with_reducible rfl
    simp only [Act.put, zA, zB, zC]
    have hs1 := HC.out.size
    have hs3 := HC3.out.size
    have hs5 := HC5.out.size
    have hs45 : w4.heap.size ≤ w5.heap.size := by have := lt_of_block HB5.out; omega
    have hown : ∀ b, (Value.slice ou k cu).ownBlock = some b → w1.heap.size ≤ b ∧ b < wr.heap.size := fun b hb => HO.out.lt hb
    have hd5 : Chg (fun _ => False) w5 w5.drew := (Chg.refl _ _).drew
    have hkl : (L.take k).length = k := by rw [List.length_take]; have := HN.out.1; omega
    have hnm := (mchkF_ok HPp.out.2.1.2.2)
    have hn1 := nameB_len hnm.name
    have hn2 := nameB_len hnm.ver
    obtain ⟨oa, cap, w6, hap, ho6, hc6, hsz6⟩ := ((HO.out.fresh HC5.out).fresh hd5).push p (.slice ol nl cl) ((HU5.out.fresh hd5).wide (fun b hb => ⟨by have := hb.1; omega, by have := hb.2; show b < w5.heap.size; omega, fun e => by have := hown b e; have := hb.1; omega⟩)) ⟨by unfold maxLen; omega, by unfold maxLen; omega⟩ (by omega) (by show w1.heap.size ≤ w5.heap.size; omega)
    rw [hkl] at hap ho6
    have hrow : (pkC p (.slice ol nl cl)).toArray = #[.int .i64 p.owner, .string s1, .string s2, .slice ol nl cl] := by
      unfold pkC; rw [HSs.out.1, HSs.out.2]
    rw [hrow] at hap
    have htk : L.take (k + 1) = L.take k ++ [p] := by rw [List.take_add_one, HPp.out.1]; rfl
    have hmo : ∀ b, wr.heap.size ≤ b → ¬ some b = (Value.slice ou k cu).ownBlock := fun b hb e => by have := (hown b e.symm).2; omega
    have hs2 := HC2.out.size
    have hs34 : w3.heap.size ≤ w4.heap.size := HS34.out
    have hk6 : Chg (fun _ => False) w1 w6 := (HC.out.trans' (HC5.out.trans' hd5)).new hc6 (fun b e => (hown b e.symm).1)
    have hcc : w6.cell? ⟨wr.heap.size, 1, none⟩ = some (.string sb) ∧ w6.cell? ⟨w4.heap.size, 0, none⟩ = some (.string s1) ∧ w6.cell? ⟨w4.heap.size, 1, none⟩ = some (.string s2) ∧ w6.cell? ⟨w4.heap.size, 2, none⟩ = some (.slice ol nl cl) := ⟨hc6.cell (show w5.drew.cell? _ = _ from e1) (hmo _ (Nat.le_refl _)), hc6.cell (show w5.drew.cell? _ = _ from m0) (hmo _ (by show wr.heap.size ≤ w4.heap.size; omega)), hc6.cell (show w5.drew.cell? _ = _ from m1) (hmo _ (by show wr.heap.size ≤ w4.heap.size; omega)), hc6.cell (show w5.drew.cell? _ = _ from m2) (hmo _ (by show wr.heap.size ≤ w4.heap.size; omega))⟩
    refine on1 7 rfl (fun K hK => ?_)
    go_simp
    have hda : Chg (fun _ => False) w5 (w5.alloc (.cells #[.int .i64 p.owner, .string s1, .string s2, .slice ol nl cl] 90)).drew := ((Chg.refl _ _).alloc _).drew
    refine hK _ _ (⟨hda.cell e1 id, hda.cell m0 id, hda.cell m1 id, hda.cell m2 id⟩) (fun hA1 => ?_)
    try simp only [Act.put, zA, zB, zC]
    refine on1 8 rfl (fun K hK => ?_)
    refine oper_append _ _ _ rfl rfl rfl (show _ = Result.ok _ w6 from hap) ?_
    refine hK _ _ (hcc) (fun hA2 => ?_)
    try simp only [Act.put, zA, zB, zC]
    refine tk 9 (v := ?_) hA2 rfl (fun w hSw => ?_) ?_
    rotate_left
    · go_simp
      try with_reducible rfl
    simp only [Act.put, zA, zB, zC]
    refine wpAnyH_done (by kernel_rfl) ?_ _
    refine NoPanic.normal ?_
    have HF := Lib.hid (And.intro ho6 (And.intro hk6 htk))
    clear hHeld hA1 hA2 hcc hda hk6 ho6 htk hap hc6 hsz6 hrow e1 m0 m1 m2 hown hmo
    go_wp2_with fail
    exact ⟨⟨k + 1, oa, cap, rfl, by go_num, hlt, by rw [HF.out.2.2]; exact HF.out.1, HF.out.2.1⟩, by simp [intOf]; omega⟩
  · have hki : ¬ (k : Int) < (N : Int) := by omega
    obtain rfl : k = N := by omega
    have ho := HO.out
    rw [← HN.out.1, List.take_length, HN.out.1] at ho
    have hck := check_is wr ho.at
    rw [HOk.out.1.chk] at hck
    have HCk := Lib.hid hck
    have HOe := Lib.hid ho
    clear ho hck
    go_wp2_with (first
      | (go_at_call 10; refine HCk.out.mono ?_; rintro e w2 ⟨rfl, hc2⟩; have HC2 := Lib.hid hc2; clear hc2))
    go_ret2
    have hs1 := HC1.out.size
    exact ⟨_, rfl, (HOe.out.fresh HC2.out).at.wide (fun b hb => ⟨by have := hb.1; omega, hb.2⟩), (HC1.out.trans' HC.out).trans' HC2.out⟩

end Go.Proofs.YtbjagmlbamjdbaaGreat.roots
end

section
namespace Go.Proofs.YtbjagmlbamjdbaaGreat.roots
open Go.RowKit Go.Maps Go.My Go.ChangeMaps disks bufs wals kvs
set_option maxRecDepth 100000

variable {W w w' : World} {P Q : Nat → Prop} {r kb l q d s a : Nat} {X : DV} {V : LV} {m : List KV} {recs : List Txt} {S : RS}

theorem dlst_get : ∀ (L : List Nat) (i k n : Nat), L[k]? = some n → (dlst i L)[k]? = some (99 :: eight (i + k), eight n)
  | [], _, _, _, h => by simp at h
  | x :: L, i, 0, n, h => by simp at h; subst h; rfl
  | x :: L, i, k + 1, n, h => by
    rw [dlst, List.getElem?_cons_succ, dlst_get L (i + 1) k n (by simpa using h), show i + 1 + k = i + (k + 1) by omega]
theorem get_t (hn : NoDup m) (h : sortF m = rootL S) : mget m [116] = if S.staged = 0 then none else some (tval S) := by
  rw [get_is hn h, get_root, dl_none (by decide), lst_none (by rw [mem_lkeys]; rintro ⟨j, -, -, e⟩; simp at e), lst_none (by rw [mem_lkeys]; rintro ⟨j, -, -, e⟩; simp at e)]
  unfold tlst
  split
  · rfl
  · show mget [([116], tval S)] [116] = _
    rw [mget_cons, if_pos rfl]
theorem root_length (h : sortF m = rootL S) : m.length = S.stack.length + S.wants.length + S.done.length + if S.staged = 0 then 0 else 1 := by
  have h1 : (sortF m).length = m.length := sortF_len m
  rw [← h1, h]
  unfold rootL tlst
  rw [List.length_append, List.length_append, List.length_append, dlst_len, lst_len, lst_len]
  split <;> simp <;> omega

def headL (kb : Nat) (sv : Value) (st : Int) (wv dv : Value) : Array Value := #[.pointer (some ⟨kb, 0, none⟩), sv, .int .i64 st, wv, dv]

set_option maxHeartbeats 4000000 in
theorem load_is (w : World) (h : KS P W w kb l q d X V m) (hb : w.heap[r]? = some (.cells (headN kb) 37 (0, 0))) (hr : Beside P q w r) (hn : W.heap.size ≤ r) (hg : RGood S) (hi : sortF m = rootL S) (hd : S.done.length ≤ 1000) :
    Calls Tryz.prog 56 #[.pointer (some ⟨r, 0, none⟩)] w fun e w' => e = .returned (.bool true) ∧ ∃ F sv wv dv, RKS P W w' r kb l q d X V m F S sv wv dv ∧ (∀ g, F g → w.heap.size ≤ g ∧ g < w'.heap.size) ∧ (∀ g, dv.ownBlock = some g → w.heap.size ≤ g ∧ g < w'.heap.size) ∧ Chg (· = r) w w' := by
  have HB := Lib.hid hb
  have hne : r ≠ kb := by
    intro e
    have h1 := hb
    rw [e, h.at'.db.head] at h1
    simp [headN] at h1
  have hml := root_length hi
  have hsk := hg.stk.few
  have hwk := hg.wnt.few
  have hm : m.length ≤ 1000000 := by rw [hml]; split <;> omega
  have HNe := Lib.hid (And.intro hne (And.intro hr hn))
  have c0 : w.cell? ⟨r, 0, none⟩ = some (.pointer (some ⟨kb, 0, none⟩)) := cell_of_block hb rfl
  have HRp := Lib.hid (read_is w h.at' hm c0 112 ⟨#[112]⟩ rfl S.stack (scan_p hi (by omega) (by omega)) hg.stk hg.sdig)
  have hside : ∀ w', Chg (· = r) w w' → KS P W w' kb l q d X V m := fun w' hc => ks_aside h hc (fun k hk e => hr.1 (e ▸ hk)) (fun e => hr.2.1 e.symm) (fun e => hne e.symm) (fun k e => e ▸ hn)
  have HSide := Lib.hid hside
  have HG := Lib.hid (And.intro hg (And.intro hi (And.intro hd (And.intro hm hml))))
  have hrl := lt_of_block hb
  have HRl := Lib.hid hrl
  obtain ⟨n1, hn1⟩ : ∃ n, S.stack.length = n := ⟨_, rfl⟩
  obtain ⟨n2, hn2⟩ : ∃ n, S.wants.length = n := ⟨_, rfl⟩
  have HNs := Lib.hid (And.intro hn1 hn2)
  have h16a : (n1 : Int) ≤ 16 := by omega
  have h16b : (n2 : Int) ≤ 16 := by omega
  have h0a : (0 : Int) ≤ (n1 : Int) := by omega
  have h0b : (0 : Int) ≤ (n2 : Int) := by omega
  clear h hb hr hn hne hside c0 hg hi hd hm hml hsk hwk hn1 hn2 hrl
  go_enter Tryz.func56, Tryz.ntmps56
  go_wp2_with (first
    | (go_at_call 96; fail))
  refine HRp.out.mono ?_
  clear HRp
  rintro e w1 ⟨sv, rfl, hp1, hc1⟩
  obtain ⟨o1, p1, l1, hsv, -⟩ := id hp1.is
  rw [HNs.out.1] at hsv
  subst hsv
  have hb1 := hc1.at HB.out id
  have z1 : w1.frozen? ⟨r, 1, none⟩ = false := free_of_block hb1
  have y1 : w1.cell? ⟨r, 1, none⟩ = some (.slice none 0 0) := cell_of_block hb1 rfl
  have hb2 : (w1.setCell ⟨r, 1, none⟩ (.slice o1 n1 p1)).heap[r]? = some (.cells (headL kb (.slice o1 n1 p1) 0 (.slice none 0 0) (.slice none 0 0)) 37 (0, 0)) := by simpa [headN, headL] using block_setCell (i := 1) (v := .slice o1 n1 p1) hb1
  have hcs1 : Chg (· = r) w1 (w1.setCell ⟨r, 1, none⟩ (.slice o1 n1 p1)) := Chg.setCell (S := (· = r)) (Chg.refl _ _) (fun _ => rfl) _
  have hc2 : Chg (· = r) w (w1.setCell ⟨r, 1, none⟩ (.slice o1 n1 p1)) := (hc1.mono (fun _ _ e => e.elim)).trans' hcs1
  have HC2 := Lib.hid hc2
  have HB2 := Lib.hid hb2
  have HP2 := Lib.hid (hp1.kept hcs1 (fun b hb e => by have := HRl.out; have := hb.1; omega))
  have hs12 : w1.heap.size = (w1.setCell ⟨r, 1, none⟩ (.slice o1 n1 p1)).heap.size := by simp [World.setCell]
  have HS12 := Lib.hid (show w1.heap.size ≤ (w1.setCell ⟨r, 1, none⟩ (.slice o1 n1 p1)).heap.size from hcs1.size)
  have HRq := Lib.hid (read_is (r := r) (w1.setCell ⟨r, 1, none⟩ (.slice o1 n1 p1)) (HSide.out _ hc2).at' HG.out.2.2.2.1 (cell_of_block hb2 rfl) 113 ⟨#[113]⟩ rfl S.wants (scan_q HG.out.2.1 (by have := HNs.out.1; omega) (by have := HNs.out.2; omega)) HG.out.1.wnt HG.out.1.wdig)
  clear hc1 hb1 hb2 hc2 hp1 hcs1 hs12
  dsimp only
  go_wp2_with (first
    | (go_at_call 96; fail))
  refine HRq.out.mono ?_
  clear HRq z1 y1
  rintro e w3 ⟨wv, rfl, hp3, hc3⟩
  obtain ⟨o3, p3, l3, hwv, -⟩ := id hp3.is
  rw [HNs.out.2] at hwv
  subst hwv
  have hb3 := hc3.at HB2.out id
  have z3 : w3.frozen? ⟨r, 3, none⟩ = false := free_of_block hb3
  have y3 : w3.cell? ⟨r, 3, none⟩ = some (.slice none 0 0) := cell_of_block hb3 rfl
  have hcs3 : Chg (· = r) w3 (w3.setCell ⟨r, 3, none⟩ (.slice o3 n2 p3)) := Chg.setCell (S := (· = r)) (Chg.refl _ _) (fun _ => rfl) _
  have hb4 : (w3.setCell ⟨r, 3, none⟩ (.slice o3 n2 p3)).heap[r]? = some (.cells (headL kb (.slice o1 n1 p1) 0 (.slice o3 n2 p3) (.slice none 0 0)) 37 (0, 0)) := by simpa [headL] using block_setCell (i := 3) (v := .slice o3 n2 p3) hb3
  have hq3 := HC2.out.size
  have hp4 := (HP2.out.fresh hc3).kept hcs3 (fun b hb e => by have := HRl.out; have := hb.1; omega)
  have hp5 := hp3.kept hcs3 (fun b hb e => by have := HRl.out; have := hb.1; omega)
  have hc4 : Chg (· = r) w (w3.setCell ⟨r, 3, none⟩ (.slice o3 n2 p3)) := (HC2.out.trans' (hc3.mono (fun _ _ e => e.elim))).trans' hcs3
  have h43 := hc3.size
  have h44 := hcs3.size
  have h12 := HS12.out
  have hp4 := hp4.wide (F' := fun b => w.heap.size ≤ b ∧ b < (w3.setCell ⟨r, 3, none⟩ (.slice o3 n2 p3)).heap.size) (fun b hb => ⟨hb.1, by have := hb.2; omega⟩)
  have hp5 := hp5.wide (F' := fun b => w.heap.size ≤ b ∧ b < (w3.setCell ⟨r, 3, none⟩ (.slice o3 n2 p3)).heap.size) (fun b hb => ⟨by have := hb.1; omega, by have := hb.2; omega⟩)
  obtain ⟨w4, hw4⟩ : ∃ w4, w3.setCell ⟨r, 3, none⟩ (.slice o3 n2 p3) = w4 := ⟨_, rfl⟩
  rw [hw4] at hb4 hc4 hp4 hp5
  have hp4 : PksAt w4 (fun b => w.heap.size ≤ b ∧ b < w4.heap.size) (.slice o1 n1 p1) S.stack := hp4
  have hp5 : PksAt w4 (fun b => w.heap.size ≤ b ∧ b < w4.heap.size) (.slice o3 n2 p3) S.wants := hp5
  have HC4 := Lib.hid hc4
  have HB4 := Lib.hid hb4
  have HP4 := Lib.hid (And.intro hp4 hp5)
  have HW4 := Lib.hid hw4
  clear hc3 hb3 hb4 hc4 hp3 hp4 hp5 hcs3 h43 h44 h12 hq3 hw4 HP2 HC2 HB2 HS12
  dsimp only
  go_wp2_with fail
  rw [HW4.out]
  clear HW4 z3 y3
  have d1 : w4.cell? ⟨r, 1, none⟩ = some (.slice o1 n1 p1) := cell_of_block HB4.out rfl
  have d3 : w4.cell? ⟨r, 3, none⟩ = some (.slice o3 n2 p3) := cell_of_block HB4.out rfl
  refine wp_region_noPanic ?_
  refine wp_region_held_drew (S := (fun w' => w'.cell? ⟨r, 1, none⟩ = some (.slice o1 n1 p1) ∧ w'.cell? ⟨r, 3, none⟩ = some (.slice o3 n2 p3))) (by kernel_rfl) (⟨d1, d3⟩) (fun hHeld => ?_)
  refine tk 0 (v := ?_) hHeld rfl (fun w hSw => ?_) ?_
  rotate_left
  · (obtain ⟨hSw1, hSw2⟩ := hSw; go_simp)
    try with_reducible rfl
  simp only [Act.put, zA, zB, zC]
  refine tk 1 (v := ?_) hHeld rfl (fun w hSw => ?_) ?_
  rotate_left
  · (obtain ⟨hSw1, hSw2⟩ := hSw; go_simp)
    try with_reducible rfl
  simp only [Act.put, zA, zB, zC]
  refine tk 2 (v := ?_) hHeld rfl (fun w hSw => ?_) ?_
  rotate_left
  · (obtain ⟨hSw1, hSw2⟩ := hSw; go_simp)
    try with_reducible rfl
  simp only [Act.put, zA, zB, zC]
  refine tk 3 (v := ?_) hHeld rfl (fun w hSw => ?_) ?_
  rotate_left
  · (obtain ⟨hSw1, hSw2⟩ := hSw; go_simp)
    try with_reducible rfl
  simp only [Act.put, zA, zB, zC]
  refine tk 4 (v := ?_) hHeld rfl (fun w hSw => ?_) ?_
  rotate_left
  · (obtain ⟨hSw1, hSw2⟩ := hSw; go_simp)
    try with_reducible rfl
  simp only [Act.put, zA, zB, zC]
  refine tk 5 (v := ?_) hHeld rfl (fun w hSw => ?_) ?_
  rotate_left
  · (obtain ⟨hSw1, hSw2⟩ := hSw; go_simp)
    try with_reducible rfl
  simp only [Act.put, zA, zB, zC]
  refine tk 6 (v := ?_) hHeld rfl (fun w hSw => ?_) ?_
  rotate_left
  · (obtain ⟨hSw1, hSw2⟩ := hSw; go_simp)
    try with_reducible rfl
  simp only [Act.put, zA, zB, zC]
  refine tk 7 (v := ?_) hHeld rfl (fun w hSw => ?_) ?_
  rotate_left
  · (obtain ⟨hSw1, hSw2⟩ := hSw; go_simp)
    try with_reducible rfl
  simp only [Act.put, zA, zB, zC]
  refine tk 8 (v := ?_) hHeld rfl (fun w hSw => ?_) ?_
  rotate_left
  · (obtain ⟨hSw1, hSw2⟩ := hSw; go_simp)
    try with_reducible rfl
  simp only [Act.put, zA, zB, zC]
  refine tk 9 (v := ?_) hHeld rfl (fun w hSw => ?_) ?_
  rotate_left
  · (obtain ⟨hSw1, hSw2⟩ := hSw; go_simp)
    try with_reducible rfl
  simp only [Act.put, zA, zB, zC]
  refine tk 10 (v := ?_) hHeld rfl (fun w hSw => ?_) ?_
  rotate_left
  · (obtain ⟨hSw1, hSw2⟩ := hSw; go_simp)
    try with_reducible rfl
  simp only [Act.put, zA, zB, zC]
  refine tk 11 (v := ?_) hHeld rfl (fun w hSw => ?_) ?_
  rotate_left
  · (obtain ⟨hSw1, hSw2⟩ := hSw; go_simp)
    try with_reducible rfl
  simp only [Act.put, zA, zB, zC]
  refine wpAnyH_done (by kernel_rfl) ?_ _
  refine NoPanic.normal ?_
  clear hHeld d1 d3
  have hwk : IntKind.i64.wrap ((n1 : Int) + (n2 : Int)) = ((n1 + n2 : Nat) : Int) := by rw [wrap_small _ (by omega) (by omega)]; omega
  try rw [hwk]
  clear hwk
  obtain ⟨w5, hw5⟩ : ∃ w5, w4.drew = w5 := ⟨_, rfl⟩
  have HB5 := Lib.hid (show w5.heap[r]? = some (.cells (headL kb (.slice o1 n1 p1) 0 (.slice o3 n2 p3) (.slice none 0 0)) 37 (0, 0)) by rw [← hw5]; exact HB4.out)
  have HC5 := Lib.hid (show Chg (· = r) w w5 by rw [← hw5]; exact HC4.out.drew)
  have HP5 := Lib.hid (show PksAt w5 (fun b => w.heap.size ≤ b ∧ b < w5.heap.size) (.slice o1 n1 p1) S.stack ∧ PksAt w5 (fun b => w.heap.size ≤ b ∧ b < w5.heap.size) (.slice o3 n2 p3) S.wants by
    rw [← hw5]; exact ⟨HP4.out.1.fresh (Chg.refl _ _).drew, HP4.out.2.fresh (Chg.refl _ _).drew⟩)
  have HS45 := Lib.hid (show w4.heap.size = w5.heap.size by rw [← hw5]; rfl)
  rw [hw5]
  clear hw5 HB4 HC4 HP4
  have d0 : w5.cell? ⟨r, 0, none⟩ = some (.pointer (some ⟨kb, 0, none⟩)) := cell_of_block HB5.out rfl
  have hs5 := kat_scan (HSide.out w5 HC5.out).at' HG.out.2.2.2.1 [99] [100]
  rw [scan_c HG.out.2.1] at hs5
  have HS5 := Lib.hid (show Calls Tryz.prog 97 #[.pointer (some ⟨kb, 0, none⟩), .string ⟨#[99]⟩, .string ⟨#[100]⟩] w5 fun e w' => ∃ v, e = .returned v ∧ Puts w' w5.heap.size v ((dlst 0 S.done).map ofKV) ∧ Chg (fun _ => False) w5 w' from hs5)
  obtain ⟨D, hD⟩ : ∃ n, S.done.length = n := ⟨_, rfl⟩
  have hrl : (((dlst 0 S.done).map ofKV).map PV.row).length = D := by rw [List.length_map, List.length_map, dlst_len, hD]
  have HD := Lib.hid (And.intro hD (And.intro hrl (show D ≤ 1000 by rw [← hD]; exact HG.out.2.2.1)))
  have hD1 : (D : Int) ≤ 1000 := by have := HD.out.2.2; omega
  clear hs5 hD hrl
  go_wp2_with (first
    | (go_at_call 97; refine HS5.out.mono ?_; rintro e w6 ⟨v6, rfl, hp6, hc6⟩
       obtain ⟨o6, p6, hv6, -⟩ := hp6.slice
       rw [HD.out.2.1] at hv6
       have HC6 := Lib.hid hc6
       have HP6 := Lib.hid hp6
       subst hv6
       clear hp6 hc6))
  clear d0 HS5
  go_loopw [5, 53] (fun u j wr => ∃ (k : Nat) (ou : Option Addr) (cu : Nat), u = .int .i64 ((n1 + n2 + k : Nat) : Int) ∧ j = .int .i64 k ∧ k ≤ D ∧ wr.heap[r]? = some (.cells (headL kb (.slice o1 n1 p1) 0 (.slice o3 n2 p3) (.slice ou k cu)) 37 (0, 0)) ∧ wr.ownsRow w6.heap.size 3 1 (.slice ou k cu) k ((S.done.take k).map (fun n : Nat => Value.int .i64 (n : Int))) ∧ Chg (· = r) w6 wr) (fun _ j _ => D - (intOf j).toNat)
  · exact ⟨0, none, 0, congrArg (Value.int .i64) (by go_num), rfl, Nat.zero_le _, HC6.out.at HB5.out id, ⟨by simp, Or.inl ⟨rfl, by simp⟩⟩, Chg.refl _ _⟩
  obtain ⟨k, ou, cu, rfl, rfl, hk, hhd, hown, hck⟩ := hrel
  have HHd := Lib.hid hhd
  have HOw := Lib.hid hown
  have HCk := Lib.hid hck
  clear hhd hown hck
  obtain ⟨KY, hKY⟩ : ∃ n, n1 + n2 + k = n := ⟨_, rfl⟩
  rw [hKY]
  have HKY := Lib.hid hKY
  have hKY1 : (KY : Int) ≤ 1100 := by omega
  have hKY0 : (0 : Int) ≤ (KY : Int) := by omega
  clear hKY
  have hrw6 : r < w6.heap.size := by have := HRl.out; have := HC5.out.size; have := HC6.out.size; omega
  by_cases hlt : k < D
  · have hki : (k : Int) < (D : Int) := by omega
    obtain ⟨n, hn⟩ : ∃ n, S.done[k]? = some n := ⟨S.done[k]'(by rw [HD.out.1]; exact hlt), List.getElem?_eq_getElem _⟩
    have hnn := HG.out.1.nums n (List.mem_of_getElem? hn)
    have hrow : ((dlst 0 S.done).map ofKV)[k]? = some (ofKV (99 :: eight k, eight n)) := by
      rw [List.getElem?_map, dlst_get S.done 0 k n hn, Nat.zero_add]; rfl
    obtain ⟨g, cp, pp, hpe, hpp, f0, f1, f2⟩ := put_cells (HP6.out.kept HCk.out (fun b hb e => by have := (HP6.out.lt hb).1; have := HRl.out; have := HC5.out.size; omega)) (k := k) (by rw [List.length_map, dlst_len, HD.out.1]; exact hlt)
    simp only [Value.slice.injEq] at hpe
    obtain rfl := hpe.1
    rw [hrow] at hpp
    obtain rfl := Option.some.inj hpp
    have d0 : wr.cell? ⟨g, k * 3, none⟩ = some (strV (99 :: eight k)) := f0
    have d1 : wr.cell? ⟨g, k * 3 + 1, none⟩ = some (strV (eight n)) := f1
    have d2 : wr.cell? ⟨g, k * 3 + 2, none⟩ = some (.bool false) := f2
    clear f0 f1 f2
    obtain ⟨sk, hsk⟩ : ∃ s, strV (99 :: eight k) = .string s := ⟨_, rfl⟩
    obtain ⟨se, hse⟩ : ∃ s, strV (eight k) = .string s := ⟨_, rfl⟩
    obtain ⟨sb, hsb⟩ : ∃ s, strV (eight n) = .string s := ⟨_, rfl⟩
    have hnum := fun (V : World) => number_is V n hnn.1 hnn.2
    have he8 := fun (V : World) => eight_any V k (by omega)
    rw [hsb] at hnum d1
    rw [hse] at he8
    rw [hsk] at d0
    have hsz : se.size = 8 := by rw [str_size _ se hse, eight_length]
    have hske : (⟨#[99]⟩ : ByteArray) ++ se = sk := by
      have h := str_cons 99 _ _ hse
      rw [hsk] at h
      exact Value.string.inj h
    have hfit : ¬ 9223372036854775807 < 1 + se.size := by omega
    have hbs : ((k : Nat) : Int) ≤ 1000 := by omega
    have hl1 : (⟨#[99]⟩ : ByteArray).size + se.size ≤ 9223372036854775807 := by have : (⟨#[99]⟩ : ByteArray).size = 1 := rfl; omega
    subst hske
    have hcont := fun (V : World) (hV : Chg (fun _ => False) wr V) => has_is V (SlAt.of_own (show V.ownsRow w6.heap.size 3 1 (.slice ou k cu) (S.done.take k).length ((S.done.take k).map (fun n : Nat => Value.int .i64 (n : Int))) by
      rw [List.length_take, HD.out.1, Nat.min_eq_left (by omega)]
      exact own_keptS HOw.out hV (fun _ _ e => e)) : NumsAt V (.slice ou k cu) (S.done.take k)) (by rw [List.length_take]; have := HD.out.1; have := HD.out.2.2; omega) n
    have hno : decide (∃ x ∈ S.done.take k, (x : Int) = (n : Int)) = false := by
      rw [decide_eq_false_iff_not]
      rintro ⟨x, hx, e⟩
      have e2 : x = n := by omega
      subst e2
      obtain ⟨i, hi⟩ := List.getElem?_of_mem hx
      rw [List.getElem?_take] at hi
      split at hi
      · have hnd := HG.out.1.nodup
        have := (List.getElem?_inj (by rw [HD.out.1]; omega) hnd).1 (hi.trans hn.symm)
        omega
      · cases hi
    rw [hno] at hcont
    obtain ⟨wA, hwA⟩ : ∃ wA, wr.alloc (.cells #[.string ((⟨#[99]⟩ : ByteArray) ++ se), .string sb, .bool false] 103) = wA := ⟨_, rfl⟩
    have hca : Chg (fun _ => False) wr wA := by rw [← hwA]; exact (Chg.refl _ _).alloc _
    have hba : wA.heap[wr.heap.size]? = some (.cells #[.string ((⟨#[99]⟩ : ByteArray) ++ se), .string sb, .bool false] 103 (0, 0)) := by rw [← hwA]; exact block_alloc_new wr _
    have HCa := Lib.hid hca
    have HBa := Lib.hid hba
    have HWA := Lib.hid hwA
    have HNum := Lib.hid hnum
    have HE8 := Lib.hid he8
    have HCont := Lib.hid hcont
    have HNn := Lib.hid (And.intro hn hnn)
    clear hn hnn hrow hpe hpp hsk hse hsb hnum he8 hcont hno hca hba hwA
    go_wp2_with (first
      | (go_at_call 98; fail))
    rw [HWA.out]
    clear HWA d0 d1 d2
    refine (HNum.out wA).mono ?_
    clear HNum
    rintro e w2 ⟨rfl, hc2⟩
    have HC2 := Lib.hid (HCa.out.trans' hc2)
    have HB2 := Lib.hid (hc2.at HBa.out id)
    have HHd2 := Lib.hid ((HCa.out.trans' hc2).at HHd.out id)
    clear hc2
    have q0 : ∀ n : FreshW w2, n.val.cell? ⟨wr.heap.size, 0, none⟩ = some (.string ((⟨#[99]⟩ : ByteArray) ++ se)) := fun n => n.chg.cell (cell_of_block HB2.out rfl) id
    have q4 : ∀ n : FreshW w2, n.val.cell? ⟨r, 4, none⟩ = some (.slice ou k cu) := fun n => n.chg.cell (cell_of_block HHd2.out rfl) id
    have heq : ∀ n : FreshW w2, Calls Tryz.prog 51 #[.int .i64 (k : Int)] n.val fun e w'' => e = .returned (.string se) ∧ ∃ m' : FreshW w2, w'' = m'.val := fun n => fresh_call (HE8.out _)
    have hcq : ∀ nn : FreshW w2, Calls Tryz.prog 50 #[.slice ou k cu, .int .i64 (n : Int)] nn.val fun e w'' => e = .returned (.bool false) ∧ ∃ m' : FreshW w2, w'' = m'.val := fun nn => fresh_call ((HCont.out _ (HC2.out.trans' nn.chg)).mono (fun e w' h => by
      obtain ⟨h1, h2⟩ := h
      subst h2
      exact ⟨h1, Chg.refl _ _⟩))
    have HEq := Lib.hid heq
    have HCq := Lib.hid hcq
    clear heq hcq
    dsimp only
    go_wp2_with fail
    refine wp_region_fresh (by kernel_rfl) (by kernel_rfl) ?_
    repeat (go_big_quiet_step ((first | (go_at_call 51; exact HEq.out _) | (go_at_call 50; exact HCq.out _))))
    refine wpQuiet_nil ?_
    rintro _ ⟨nz, rfl⟩
    obtain ⟨w7, hw7⟩ : ∃ w7, nz.val = w7 := ⟨_, rfl⟩
    have hc7 : Chg (fun _ => False) w2 w7 := by rw [← hw7]; exact nz.chg
    rw [hw7]
    clear q0 q4 hw7 nz
    have HC7 := Lib.hid (HC2.out.trans' hc7)
    have hh7 := hc7.at HHd2.out id
    have HH7 := Lib.hid hh7
    have e4 : w7.cell? ⟨r, 4, none⟩ = some (.slice ou k cu) := cell_of_block hh7 rfl
    have hs7 := (HC2.out.trans' hc7).size
    have hck6 := HCk.out.size
    obtain ⟨i0, hi, hz, his, hib⟩ := info_parts info_num
    have hda : Chg (fun _ => False) w7 (w7.alloc (.cells #[.int .i64 (n : Int)] 3)) := (Chg.refl _ _).alloc _
    have how7 := own_keptS HOw.out (HC2.out.trans' hc7) (fun _ _ e => e)
    obtain ⟨v9, w9, hap, ho9, hg9, -, hv9⟩ := run_append_own_at (P := Tryz.prog) (w7.alloc (.cells #[.int .i64 (n : Int)] 3)) w6.heap.size 35 35 3 i0 _ 1 8 Tryz.underlying35 hi hz his hib rfl (by decide) (.slice ou k cu) _ _ (own_kept how7 hda) ⟨w7.heap.size, 0, none⟩ 1 1 [.int .i64 (n : Int)] rfl
      (cells_new _ [.int .i64 (n : Int)] _) (by intro u hu; rw [List.mem_singleton.1 hu]; rfl) (by have := HD.out.2.2; unfold maxLen; omega) (by have := HD.out.2.2; omega) (by rw [World.size_alloc]; omega)
    obtain ⟨oe, ce, hv9e⟩ := own_slice ho9
    subst hv9e
    have hcg := Chg.of_grown hg9
    have hlo : ∀ b, (Value.slice ou k cu).ownBlock = some b → w6.heap.size ≤ b := fun b hb => (HOw.out.lt b hb).1
    have hro : ¬ some r = (Value.slice ou k cu).ownBlock := fun e => by have := hlo r e.symm; omega
    have hh9 := hcg.at (hda.at hh7 id) hro
    have hb10 := block_setCell (i := 4) (v := .slice oe (k + 1) ce) hh9
    have f4 : w9.frozen? ⟨r, 4, none⟩ = false := free_of_block hh9
    have g4 : w9.cell? ⟨r, 4, none⟩ = some (.slice ou k cu) := cell_of_block hh9 rfl
    have hcs : Chg (· = r) w9 (w9.setCell ⟨r, 4, none⟩ (.slice oe (k + 1) ce)) := Chg.setCell (S := (· = r)) (Chg.refl _ _) (fun _ => rfl) _
    have how10 := own_keptS ho9 hcs (fun b hb e => by have := (ho9.lt b hb).1; omega)
    have hk10 : Chg (· = r) w6 (w9.setCell ⟨r, 4, none⟩ (.slice oe (k + 1) ce)) := by
      have h1 : Chg (· = r) w6 w9 := (HCk.out.trans' (((HC2.out.trans' hc7).trans' hda).mono (fun _ _ e => e.elim))).trans hcg (fun b hb e => by have := hlo b e.symm; omega)
      exact h1.trans' hcs
    have HF := Lib.hid (And.intro hb10 (And.intro how10 hk10))
    have HHap := Lib.hid hap
    have htk : S.done.take (k + 1) = S.done.take k ++ [n] := by rw [List.take_add_one, HNn.out.1]; rfl
    have HTk := Lib.hid htk
    clear hc7 hh7 hs7 hck6 hi hz his hib hda how7 hap ho9 hg9 hv9 hcg hlo hro hh9 hb10 hcs how10 hk10 htk
    go_wp2_with (first
      | (at_builtin; refine Lib.wpList_append_run _ rfl _ _ _ _ rfl _ _ rfl rfl _ _ HHap.out ?_))
    exact ⟨⟨k + 1, oe, ce, congrArg (Value.int .i64) (by have := HKY.out; omega), by go_num, hlt, by simpa [headL] using HF.out.1, by rw [HTk.out, List.map_append]; exact HF.out.2.1, HF.out.2.2⟩, by simp [intOf]; omega⟩
  · have hki : ¬ (k : Int) < (D : Int) := by omega
    obtain rfl : k = D := by omega
    have hdn : S.done.take k = S.done := List.take_of_length_le (by have := HD.out.1; omega)
    have HFin := Lib.hid (show ∀ (wz : World), wz.heap[r]? = some (.cells (headL kb (.slice o1 n1 p1) (S.staged : Int) (.slice o3 n2 p3) (.slice ou k cu)) 37 (0, 0)) → Chg (· = r) wr wz → RKS P W wz r kb l q d X V m (fun b => w.heap.size ≤ b ∧ b < w5.heap.size) S (.slice o1 n1 p1) (.slice o3 n2 p3) (.slice ou k cu) from fun wz hz hcz => by
      have h56 : Chg (· = r) w5 wz := ((HC6.out.mono (fun _ _ e => e.elim)).trans' HCk.out).trans' hcz
      have hcw := HC5.out.trans' h56
      have hrl := HRl.out
      have hsw := hcw.size
      have hs5 := HC5.out.size
      have hs6 := HC6.out.size
      have hs56 := h56.size
      have hkw := HSide.out w (Chg.refl _ _)
      have hoz : wz.ownsRow w6.heap.size 3 1 (.slice ou k cu) S.done.length (S.done.map (fun n : Nat => Value.int .i64 (n : Int))) := by
        have h := own_keptS HOw.out hcz (fun b hb e => by have := (HOw.out.lt b hb).1; omega)
        rw [hdn] at h
        rw [HD.out.1]
        exact h
      have hbase : wz.ownsRow W.heap.size 3 1 (.slice ou k cu) S.done.length (S.done.map (fun n : Nat => Value.int .i64 (n : Int))) := by
        obtain ⟨a1, a2⟩ := hoz
        refine ⟨a1, ?_⟩
        rcases a2 with a2 | ⟨g, cap, cur, b1, b2, b3⟩
        · exact Or.inl a2
        · exact Or.inr ⟨g, cap, cur, b1, by have := hkw.chg.size; omega, b3⟩
      have hfr : ∀ b, (w.heap.size ≤ b ∧ b < w5.heap.size) → ¬ b = r := fun b hb e => by omega
      have hlay : ∀ (L : List Pk), SOk L → ∀ p ∈ L, p.man.layers.length ≤ 20 := fun L hL p hp => by have := (mchkF_ok (hL.each p hp).2.2).few; omega
      refine ⟨HSide.out wz hcw, ⟨by simpa [headL] using hz, HP5.out.1.kept h56 hfr, HP5.out.2.kept h56 hfr, hbase, ⟨by have := HG.out.1.stk.few; omega, by have := HG.out.1.wnt.few; omega, HG.out.2.2.1⟩, ⟨hlay _ HG.out.1.stk, hlay _ HG.out.1.wnt⟩⟩, Beside.more HNe.out.2.1 hsw, fun b hb => hkw.made hb.1 (by omega), fun b hb => hkw.made (by have := (hoz.lt b hb).1; omega) (hoz.lt b hb).2, HNe.out.2.2, fun b hb => by have := hkw.chg.size; have := hb.1; omega, fun hb => by omega, fun b hb hF => by have := (hoz.lt b hb).1; have := hF.2; omega⟩)
    have hcw := (HC5.out.trans' (HC6.out.mono (fun _ _ e => e.elim))).trans' HCk.out
    have hkz := HSide.out wr hcw
    have hgt := get_t hkz.at'.db.map.nodup HG.out.2.1
    have hge := kat_get hkz.at' [116] (by decide)
    have hle := kat_len hkz.at'
    have hml := HG.out.2.2.2.2
    obtain ⟨M, hM⟩ : ∃ M, m.length = M := ⟨_, rfl⟩
    rw [hM] at hle hml
    have HMm := Lib.hid hM
    rw [HNs.out.1, HNs.out.2, HD.out.1, HKY.out] at hml
    have HCW := Lib.hid hcw
    have hhr := HHd.out
    have d0 : wr.cell? ⟨r, 0, none⟩ = some (.pointer (some ⟨kb, 0, none⟩)) := cell_of_block hhr rfl
    have d3 : wr.cell? ⟨r, 3, none⟩ = some (.slice o3 n2 p3) := cell_of_block hhr rfl
    have d4 : wr.cell? ⟨r, 4, none⟩ = some (.slice ou k cu) := cell_of_block hhr rfl
    have hown := HOw.out
    have hsz65 := HC5.out.size
    have hsz6 := HC6.out.size
    have HOr := Lib.hid (show ∀ wz, Chg (· = r) wr wz → (∀ g, (w.heap.size ≤ g ∧ g < w5.heap.size) → w.heap.size ≤ g ∧ g < wz.heap.size) ∧ ∀ g, (Value.slice ou k cu).ownBlock = some g → w.heap.size ≤ g ∧ g < wz.heap.size from fun wz hcz => by
      have h1 := hcz.size
      have h2 := HCk.out.size
      exact ⟨fun g hg => ⟨hg.1, by omega⟩, fun g hg => ⟨by have := (hown.lt g hg).1; omega, by have := (hown.lt g hg).2; omega⟩⟩)
    by_cases h0 : S.staged = 0
    · rw [if_pos h0] at hgt hml
      rw [hgt] at hge
      have hw0 : n2 = 0 := by rw [← HNs.out.2, HG.out.1.none h0]; rfl
      have hn2b : ((n2 : Int) == 0) = true := by rw [hw0]; rfl
      have hMb : ((KY : Int) == (M : Int)) = true := by rw [hml]; simp
      have HGe := Lib.hid (show Calls Tryz.prog 99 #[.pointer (some ⟨kb, 0, none⟩), .string ⟨#[116]⟩] wr fun e w' => e = .returned (.tuple #[.string ⟨#[]⟩, .bool false]) ∧ wr = w' from hge)
      have HLe := Lib.hid hle
      have HZ := Lib.hid h0
      clear hgt hge hle hml hM hkz hcw hhr hown hsz65 hsz6 h0 hw0
      go_wp2_with (first
        | (go_at_call 99; refine HGe.out.mono ?_; rintro e w' ⟨rfl, rfl⟩)
        | (go_at_call 100; refine HLe.out.mono ?_; rintro e w' ⟨rfl, rfl⟩))
      go_ret
      refine ⟨rfl, _, _, _, _, HFin.out wr (by rw [HZ.out]; exact HHd.out) (Chg.refl _ _), (HOr.out wr (Chg.refl _ _)).1, (HOr.out wr (Chg.refl _ _)).2, HCW.out⟩
    · rw [if_neg h0] at hgt hml
      rw [hgt] at hge
      obtain ⟨sT, hsT⟩ : ∃ s, strV (tval S) = .string s := ⟨_, rfl⟩
      obtain ⟨se, hse⟩ : ∃ s, strV (eight S.staged) = .string s := ⟨_, rfl⟩
      have hge2 : Calls Tryz.prog 99 #[.pointer (some ⟨kb, 0, none⟩), .string ⟨#[116]⟩] wr fun e w' => e = .returned (.tuple #[.string sT, .bool true]) ∧ wr = w' := by
        rw [← hsT]; exact hge
      have htl : (tval S).length = 9 := by unfold tval; rw [List.length_append, eight_length]; rfl
      have hsz9 : sT.size = 9 := by rw [str_size _ sT hsT, htl]
      have h9b : ((sT.size : Int) != 9) = false := by rw [hsz9]; rfl
      have h8l : 8 < sT.size := by omega
      have h8v : ((sT[8]'h8l).toNat : Int) = (n2 : Int) := by
        have e := strV_string _ sT hsT
        subst e
        have e3 : (tval S)[8]? = some (UInt8.ofNat S.wants.length) := by
          unfold tval
          rw [List.getElem?_append_right (by rw [eight_length]; exact Nat.le_refl 8), eight_length]
          rfl
        obtain ⟨_, e4⟩ := List.getElem?_eq_some_iff.1 e3
        have e2 : (⟨(tval S).toArray⟩ : ByteArray)[8]'h8l = UInt8.ofNat S.wants.length := e4
        rw [e2, toNat_ofNat_lt (by have := HNs.out.2; omega), HNs.out.2]
      have hext : sT.extract 0 8 = se := by
        have e := strV_string _ sT hsT
        have e2 := strV_string _ se hse
        subst e; subst e2
        apply ByteArray.ext
        unfold tval
        simp [ByteArray.data_extract, eight_length]
      have hwn : (IntKind.i64.wrap (n2 : Int) != (n2 : Int)) = false := by rw [wrap_small _ h0b (by omega)]; simp
      have hmx := HG.out.1.max
      have hnum := fun (V : World) => number_is V S.staged (by omega) hmx
      rw [hse] at hnum
      have hcont := fun (V : World) (hV : Chg (fun _ => False) wr V) => has_is V (SlAt.of_own (show V.ownsRow w6.heap.size 3 1 (.slice ou k cu) S.done.length (S.done.map (fun n : Nat => Value.int .i64 (n : Int))) by
        have h := own_keptS hown hV (fun _ _ e => e)
        rw [hdn] at h
        rw [HD.out.1]
        exact h) : NumsAt V (.slice ou k cu) S.done) (by have := HD.out.1; have := HD.out.2.2; omega) S.staged
      have hno : decide (∃ x ∈ S.done, (x : Int) = (S.staged : Int)) = false := by
        rw [decide_eq_false_iff_not]
        rintro ⟨x, hx, e⟩
        have e2 : x = S.staged := by omega
        exact HG.out.1.off (e2 ▸ hx)
      obtain ⟨sg, hsg⟩ : ∃ n, S.staged = n := ⟨_, rfl⟩
      rw [hno] at hcont
      rw [hsg] at hnum hcont
      have HSg := Lib.hid (And.intro hsg h0)
      have hMb : ((KY : Int) + 1 == (M : Int)) = true := by rw [hml]; simp
      have HGe := Lib.hid hge2
      have HLe := Lib.hid hle
      have HNum := Lib.hid hnum
      have HCont := Lib.hid hcont
      clear hgt hge hge2 hle hml hM hkz hcw hown hsz65 hsz6 h0 hsT hse htl hmx hnum hcont hno hsg
      go_wp2_with (first
        | (go_at_call 99; refine HGe.out.mono ?_; rintro e w' ⟨rfl, rfl⟩))
      refine wp_region_noPanic ?_
      refine wp_region_held_drew (S := (fun w' => w'.cell? ⟨r, 3, none⟩ = some (.slice o3 n2 p3))) (by kernel_rfl) (d3) (fun hHeld => ?_)
      refine tk 0 (v := ?_) hHeld rfl (fun w hSw => ?_) ?_
      rotate_left
      · go_simp
        try with_reducible rfl
      simp only [Act.put, zA, zB, zC]
      refine tk 1 (v := ?_) hHeld rfl (fun w hSw => ?_) ?_
      rotate_left
      · go_simp
        try with_reducible rfl
      simp only [Act.put, zA, zB, zC]
      refine tk 2 (v := ?_) hHeld rfl (fun w hSw => ?_) ?_
      rotate_left
      · go_simp
        try with_reducible rfl
      simp only [Act.put, zA, zB, zC]
      refine tk 3 (v := ?_) hHeld rfl (fun w hSw => ?_) ?_
      rotate_left
      · go_simp
        try with_reducible rfl
      simp only [Act.put, zA, zB, zC]
      refine tk 4 (v := ?_) hHeld rfl (fun w hSw => ?_) ?_
      rotate_left
      · go_simp
        try with_reducible rfl
      simp only [Act.put, zA, zB, zC]
      refine tk 5 (v := ?_) hHeld rfl (fun w hSw => ?_) ?_
      rotate_left
      · go_simp
        try with_reducible rfl
      simp only [Act.put, zA, zB, zC]
      refine tk 6 (v := ?_) hHeld rfl (fun w hSw => ?_) ?_
      rotate_left
      · go_simp
        try with_reducible rfl
      simp only [Act.put, zA, zB, zC]
      refine tk 7 (v := ?_) hHeld rfl (fun w hSw => ?_) ?_
      rotate_left
      · go_simp
        try with_reducible rfl
      simp only [Act.put, zA, zB, zC]
      refine tk 8 (v := ?_) hHeld rfl (fun w hSw => ?_) ?_
      rotate_left
      · go_simp
        try with_reducible rfl
      simp only [Act.put, zA, zB, zC]
      refine tk 9 (v := ?_) hHeld rfl (fun w hSw => ?_) ?_
      rotate_left
      · go_simp
        try with_reducible rfl
      simp only [Act.put, zA, zB, zC]
      refine tk 10 (v := ?_) hHeld rfl (fun w hSw => ?_) ?_
      rotate_left
      · go_simp
        try with_reducible rfl
      simp only [Act.put, zA, zB, zC]
      refine tk 11 (v := ?_) hHeld rfl (fun w hSw => ?_) ?_
      rotate_left
      · go_simp
        try with_reducible rfl
      simp only [Act.put, zA, zB, zC]
      refine tk 12 (v := ?_) hHeld rfl (fun w hSw => ?_) ?_
      rotate_left
      · go_simp
        try with_reducible rfl
      simp only [Act.put, zA, zB, zC]
      refine tk 13 (v := ?_) hHeld rfl (fun w hSw => ?_) ?_
      rotate_left
      · go_simp
        try with_reducible rfl
      simp only [Act.put, zA, zB, zC]
      refine wpAnyH_done (by kernel_rfl) ?_ _
      refine NoPanic.normal ?_
      clear hHeld
      obtain ⟨wd, hwd⟩ : ∃ wd, wr.drew = wd := ⟨_, rfl⟩
      have hcd : Chg (fun _ => False) wr wd := by rw [← hwd]; exact (Chg.refl _ _).drew
      have HHd2 := Lib.hid (hcd.at HHd.out id)
      have HCd := Lib.hid hcd
      have HLe2 := Lib.hid (show ∀ V, Chg (· = r) wr V → Calls Tryz.prog 100 #[.pointer (some ⟨kb, 0, none⟩)] V fun e w' => e = .returned (.int .i64 (M : Int)) ∧ V = w' from fun V hV => by
        have h := kat_len (HSide.out V (HCW.out.trans' hV)).at'
        rw [HMm.out] at h
        exact h)
      rw [hwd]
      clear hwd hcd d0 d3 d4 hhr HLe
      have d3 : wd.cell? ⟨r, 3, none⟩ = some (.slice o3 n2 p3) := cell_of_block HHd2.out rfl
      go_wp2_with (first
        | (go_at_call 98; fail))
      refine (HNum.out wd).mono ?_
      rintro e we ⟨rfl, hce⟩
      have hbe := hce.at HHd2.out id
      have e2 : we.cell? ⟨r, 2, none⟩ = some (.int .i64 0) := cell_of_block hbe rfl
      have e4 : we.cell? ⟨r, 4, none⟩ = some (.slice ou k cu) := cell_of_block hbe rfl
      have z2 : we.frozen? ⟨r, 2, none⟩ = false := free_of_block hbe
      have hb9 := block_setCell (i := 2) (v := .int .i64 (sg : Int)) hbe
      have hcs : Chg (· = r) we (we.setCell ⟨r, 2, none⟩ (.int .i64 (sg : Int))) := Chg.setCell (S := (· = r)) (Chg.refl _ _) (fun _ => rfl) _
      have hcz : Chg (· = r) wr (we.setCell ⟨r, 2, none⟩ (.int .i64 (sg : Int))) := ((HCd.out.trans' hce).mono (fun _ _ e => e.elim)).trans' hcs
      have f0 : (we.setCell ⟨r, 2, none⟩ (.int .i64 (sg : Int))).cell? ⟨r, 0, none⟩ = some (.pointer (some ⟨kb, 0, none⟩)) := cell_of_block hb9 rfl
      have hct := HCont.out we (HCd.out.trans' hce)
      have HCt := Lib.hid hct
      have HB9 := Lib.hid hb9
      have HCz := Lib.hid hcz
      have HLe3 := Lib.hid (HLe2.out _ hcz)
      clear hbe hb9 hcs hcz hct hce d3
      dsimp only
      go_wp2_with (first
        | (go_at_call 50; refine HCt.out.mono ?_; rintro e w' ⟨rfl, rfl⟩)
        | (go_at_call 100; refine HLe3.out.mono ?_; rintro e w' ⟨rfl, rfl⟩))
      go_ret
      have hz9 : (we.setCell ⟨r, 2, none⟩ (.int .i64 (sg : Int))).heap[r]? = some (.cells (headL kb (.slice o1 n1 p1) (S.staged : Int) (.slice o3 n2 p3) (.slice ou k cu)) 37 (0, 0)) := by
        rw [HSg.out.1]
        simpa [headL] using HB9.out
      exact ⟨rfl, _, _, _, _, HFin.out _ hz9 HCz.out, (HOr.out _ HCz.out).1, (HOr.out _ HCz.out).2, HCW.out.trans' HCz.out⟩

end Go.Proofs.YtbjagmlbamjdbaaGreat.roots
end

section
namespace Go.Proofs.YtbjagmlbamjdbaaGreat.roots
open Go.RowKit Go.Maps Go.My Go.ChangeMaps disks bufs wals kvs
set_option maxRecDepth 100000

variable {W w w' : World} {P Q : Nat → Prop} {r kb l q d s a : Nat} {X : DV} {V : LV} {m mm : List KV} {recs : List Txt} {S : RS}

set_option maxHeartbeats 1000000 in
theorem open_is (w : World) (hd : DS P W w d X) (hs : Stands X recs s a) (h60 : s ≤ 1152921504606846976) (hf : X.fuse ≤ 9223372036854775807) (hr : Rep recs mm) (hn : NoDup mm) (hg : RGood S) (hi : sortF mm = rootL S) (hdn : S.done.length ≤ 1000) :
    Calls Tryz.prog 24 #[.pointer (some ⟨d, 0, none⟩)] w fun e w' => ∃ r, e = .returned (.tuple #[.pointer (some ⟨r, 0, none⟩), .int .i64 0]) ∧ ∃ Q m, RT Q W w' r d X (lvW recs s a []) m S ∧ Rep recs m ∧ (∀ g, g < w.heap.size → ¬ P g → ¬ Q g) ∧ Chg P w w' := by
  have HO := Lib.hid (ks_open w hd hs h60 hf hr)
  have HD := Lib.hid hd
  have HG := Lib.hid (And.intro hn (And.intro hg (And.intro hi hdn)))
  clear hd hs h60 hf hr hn hg hi hdn
  go_enter Tryz.func24, Tryz.ntmps24
  go_wp2_with (first
    | (go_at_call 31; fail))
  refine HO.out.mono ?_
  rintro e w2 ⟨b, rfl, l, q, m, P2, hk2, hm2⟩
  obtain ⟨w3, hw3⟩ : ∃ w3, w2.alloc (.cells #[.pointer (some ⟨b, 0, none⟩), .slice none 0 0, .int .i64 0, .slice none 0 0, .slice none 0 0] 37) = w3 := ⟨_, rfl⟩
  have hca : Chg (fun _ => False) w2 w3 := by rw [← hw3]; exact (Chg.refl _ _).alloc _
  have hba : w3.heap[w2.heap.size]? = some (.cells (headN b) 37 (0, 0)) := by rw [← hw3]; exact block_alloc_new w2 _
  have hks := hk2.ks.fresh hca
  have hnd := hks.at'.db.map.nodup
  have hi2 : sortF m = rootL S := by rw [sortF_same hnd HG.out.1 hm2, HG.out.2.2.1]
  have hbe := hk2.ks.made (w' := w3) (Nat.le_refl w2.heap.size) (lt_of_block hba)
  have HL := Lib.hid (load_is w3 hks hba hbe hk2.ks.chg.size HG.out.2.1 hi2 HG.out.2.2.2)
  have HBe := Lib.hid (And.intro hbe (And.intro hba hi2))
  have HK2 := Lib.hid hk2
  have HCa := Lib.hid hca
  clear hca hba hks hbe hk2 hm2 hnd hi2 HO
  dsimp only
  go_wp2_with (first
    | (go_at_call 56; fail))
  try rw [hw3]
  clear hw3
  refine HL.out.mono ?_
  rintro e w4 ⟨rfl, F, sv, wv, dv, hk4, hF4, hD4, hc4⟩
  have HK4 := Lib.hid hk4
  have HC4 := Lib.hid hc4
  have HF4 := Lib.hid (And.intro hF4 hD4)
  obtain ⟨r, hr⟩ : ∃ r, w2.heap.size = r := ⟨_, rfl⟩
  rw [hr] at HBe HK4 HC4 ⊢
  have HR := Lib.hid hr
  clear hk4 hc4 HL hr hF4 hD4
  dsimp only
  go_wp2_with fail
  go_ret2
  have hs2 := HK2.out.chg.size
  have hwW := HD.out.chg
  have hrl : r < w3.heap.size := lt_of_block HBe.out.2.1
  have hs4 := HC4.out.size
  have hs3 := HCa.out.size
  have hrw := HR.out
  have hks := HK4.out.ks
  refine ⟨r, rfl, fun g => P2 g ∨ g = q ∨ g = r ∨ F g ∨ dv.ownBlock = some g, m, ⟨⟨P2, b, l, q, F, sv, wv, dv, HK4.out, fun g hg => hg⟩, fun g hg => ?_, fun g hg => ?_, HG.out.2.1, HBe.out.2.2⟩, HK2.out.rep, fun g hg hp e => ?_, ?_⟩
  · rcases hg with e | e | e | e | e
    · exact hks.at'.lt g e
    · rw [e]; exact hks.at'.db.ltq
    · rw [e]; omega
    · exact (HF4.out.1 g e).2
    · exact (HF4.out.2 g e).2
  · rcases hg with e | e | e | e | e
    · exact hks.new g e
    · rw [e]; exact hks.nq
    · rw [e]; exact HK4.out.nr
    · exact HK4.out.nf g e
    · have := (HF4.out.2 g e).1; have := HK2.out.ks.chg.size; omega
  · have h1 := HK2.out.off g hg hp
    rcases e with e | e | e | e | e
    · exact h1.1 e
    · exact h1.2.1 e
    · omega
    · have := (HF4.out.1 g e).1; omega
    · have := (HF4.out.2 g e).1; omega
  · have hc24 : Chg (· = r) w2 w4 := (HCa.out.mono (fun _ _ e => e.elim)).trans' HC4.out
    exact HK2.out.chg.trans hc24 (fun i hi e => by omega)

end Go.Proofs.YtbjagmlbamjdbaaGreat.roots
end

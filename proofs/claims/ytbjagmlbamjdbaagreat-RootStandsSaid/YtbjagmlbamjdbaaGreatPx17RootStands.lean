/-
  rootdb: gone, lay.
-/
import Derived.Test.YtbjagmlbamjdbaaGreatPx11RootStands
import Derived.Test.YtbjagmlbamjdbaaGreatPx16RootStands
import Derived.Lib.AppendZeros

section
set_option linter.unusedSimpArgs false
set_option linter.unusedVariables false
namespace Go.Proofs.YtbjagmlbamjdbaaGreat.roots
open Go.RowKit Go.Maps Go.My Go.ChangeMaps disks bufs wals kvs
set_option maxRecDepth 100000

variable {w w' : World}

/-- An append of one put, as the walks want it. -/
theorem push_put {B nb : Nat} {v : Value} {l : List PV} {p : PV} (h : Puts w B v l) (hb : w.heap[nb]? = some (.cells p.row.toArray 103 (0, 0))) (hB : B ≤ w.heap.size) (hl : l.length ≤ 1000000) :
    ∃ (o3 : Option Addr) (M p3 : Nat) (w3 : World), (Builtin.append_ #[66, 66] 66 #[v, .slice (some ⟨nb, 0, none⟩) 1 1]).run Tryz.prog w = .ok (.slice o3 M p3) w3 ∧ Puts w3 B (.slice o3 M p3) (l ++ [p]) ∧ Chg (fun k => some k = v.ownBlock) w w3 := by
  obtain ⟨i, hi, hz, hsz, hby⟩ := info_parts info_put
  have hadd : ∀ (j : Nat) u, p.row[j]? = some u → w.cell? ((⟨nb, 0, none⟩ : Addr).add j) = some u := by
    intro j u hu
    have : (⟨nb, 0, none⟩ : Addr).add j = ⟨nb, j, none⟩ := by unfold Addr.add; split <;> simp_all
    rw [this]; exact cell_of_block hb (by simpa using hu)
  obtain ⟨v', w', h1, h2, h3, -⟩ := run_append_own (P := Tryz.prog) w B 66 66 103 i _ 3 40 Tryz.underlying66 hi hz hsz hby rfl (by decide) v _ _ h.row ⟨nb, 0, none⟩ 1 1 p.row rfl hadd (row_oneCell p) (by rw [List.length_map]; unfold maxLen; omega) (by rw [List.length_map]; omega) hB
  have h4 : Puts w' B v' (l ++ [p]) := by
    show OwnRecs w' B _ 3 v' ((l ++ [p]).map PV.row)
    rw [List.map_append]
    exact OwnRecs.append (m := [p.row]) (by simpa using h2) h.each (by simp [PV.row])
  obtain ⟨o, c, rfl, -⟩ := h4.slice
  exact ⟨o, _, c, w', h1, h4, Chg.of_grown h3⟩

theorem lkeys_succ (c : UInt8) (a n : Nat) : lkeys c a (n + 1) = lkeys c a n ++ [[c, UInt8.ofNat (a + n)]] := by
  unfold lkeys
  rw [List.range'_concat, List.map_append]
  simp

set_option maxHeartbeats 1000000 in
theorem gone_is (w : World) (c : UInt8) (a b : Nat) (ha : a ≤ 1000) (hb : b ≤ 1000) :
    Calls Tryz.prog 54 #[strV [c], .int .i64 (a : Int), .int .i64 (b : Int)] w fun e w' => ∃ v, e = .returned v ∧ Puts w' w.heap.size v ((lkeys c a (b - a)).map delP) ∧ Chg (fun _ => False) w w' := by
  obtain ⟨sc, hsc⟩ : ∃ s, strV [c] = .string s := ⟨_, rfl⟩
  have hky := fun (W : World) (i : Nat) (hi : i < 9223372036854775808) => key_any W c i hi
  rw [hsc] at hky ⊢
  have HKy := Lib.hid hky
  clear hky hsc
  have ha0 : (0 : Int) ≤ (a : Int) := by omega
  have hb0 : (0 : Int) ≤ (b : Int) := by omega
  have ha1 : (a : Int) ≤ 1000 := by omega
  have hb1 : (b : Int) ≤ 1000 := by omega
  obtain ⟨bs, hbs⟩ : ∃ bs, w.heap.size = bs := ⟨_, rfl⟩
  rw [hbs]
  have HBs := Lib.hid hbs
  clear hbs
  go_enter Tryz.func54, Tryz.ntmps54
  go_wp2_with fail
  go_loopw [7, 8] (fun u j wr => ∃ (k : Nat) (ou : Option Addr) (nu cu : Nat), j = .int .i64 ((a + k : Nat) : Int) ∧ u = .slice ou nu cu ∧ k ≤ b - a ∧ Puts wr bs (.slice ou nu cu) ((lkeys c a k).map delP) ∧ Chg (fun _ => False) w wr) (fun _ j _ => b - (intOf j).toNat)
  · exact ⟨0, none, 0, 0, rfl, rfl, Nat.zero_le _, OwnRecs.nil _ _ _ _, Chg.refl _ _⟩
  obtain ⟨k, ou, nu, cu, rfl, rfl, hk, ho, hc⟩ := hrel
  have HO := Lib.hid ho
  have HC := Lib.hid hc
  clear ho hc
  obtain ⟨i, hi⟩ : ∃ i, a + k = i := ⟨_, rfl⟩
  rw [hi]
  by_cases hlt : i < b
  · have hki : (i : Int) < (b : Int) := by omega
    have HKi := Lib.hid (fun W => HKy.out W i (by omega))
    obtain ⟨sk, hsk⟩ : ∃ s, strV [c, UInt8.ofNat i] = .string s := ⟨_, rfl⟩
    rw [hsk] at HKi
    have HSk := Lib.hid hsk
    have HIk := Lib.hid hi
    clear hsk hi
    go_wp2_with (first
      | (go_at_call 94; refine (HKi.out wr).mono ?_; rintro e w1 ⟨rfl, hc1⟩
         have hca := (Chg.refl (fun _ => False) w1).alloc (.cells #[.string sk, .string ⟨#[]⟩, .bool true] 103)
         have hrow : (delP [c, UInt8.ofNat i]).row.toArray = #[.string sk, .string ⟨#[]⟩, .bool true] := by
           unfold PV.row delP; rw [← HSk.out]; rfl
         have hnb : (w1.alloc (.cells #[.string sk, .string ⟨#[]⟩, .bool true] 103)).heap[w1.heap.size]? = some (.cells (delP [c, UInt8.ofNat i]).row.toArray 103 (0, 0)) := by rw [hrow]; exact block_alloc_new _ _
         have hct := (HC.out.trans' hc1).trans' hca
         obtain ⟨o3, M3, p3, w3, hr3, ho3, hg3⟩ := push_put (HO.out.kept (hc1.trans' hca) (fun _ _ h => h)) hnb (by have := hct.size; have := HBs.out; omega) (by rw [List.length_map, lkeys_len]; omega)
         have HR3 := Lib.hid hr3
         have hfin : Puts w3 bs (.slice o3 M3 p3) ((lkeys c a (k + 1)).map delP) := by rw [lkeys_succ, HIk.out, List.map_append]; exact ho3
         have HO3 := Lib.hid hfin
         have HC3 := Lib.hid (hct.new hg3 (fun i e => by have := HBs.out; have := (HO.out.lt e.symm).1; omega))
         clear hc1 hca hrow hnb hct hr3 ho3 hg3 hfin)
      | (at_builtin; refine Lib.wpList_append_run _ rfl _ _ _ _ rfl _ _ rfl rfl _ _ HR3.out ?_))
    have hi := HIk.out
    exact ⟨⟨k + 1, _, _, _, congrArg (Value.int .i64) (by go_num), rfl, by omega, HO3.out, HC3.out⟩, by simp [intOf]; omega⟩
  · have hki : ¬ (i : Int) < (b : Int) := by omega
    have HKe := Lib.hid (show k = b - a by omega)
    clear hi
    go_wp2_with fail
    go_ret
    have h := HO.out
    rw [HKe.out] at h
    exact ⟨_, rfl, h, HC.out⟩

theorem lst_push (c : UInt8) : ∀ (l : List Pk) (i : Nat) (p : Pk), lst c i (l ++ [p]) = lst c i l ++ [([c, UInt8.ofNat (i + l.length)], pencF p)]
  | [], i, p => rfl
  | q :: l, i, p => by
    rw [List.cons_append, lst, lst, lst_push c l (i + 1) p, List.cons_append, List.length_cons, show i + 1 + l.length = i + (l.length + 1) by omega]

set_option maxHeartbeats 2000000 in
theorem lay_is (w : World) (c : UInt8) {F : Nat → Prop} {v : Value} {l : List Pk} (h : PksAt w F v l) (hok : ∀ p ∈ l, 1 ≤ p.owner ∧ p.owner ≤ 8 ∧ mchkF p.man = 0) (hl : l.length ≤ 200) :
    Calls Tryz.prog 53 #[strV [c], v] w fun e w' => ∃ v', e = .returned v' ∧ Puts w' w.heap.size v' ((lst c 0 l).map ofKV) ∧ Chg (fun _ => False) w w' := by
  obtain ⟨sc, hsc⟩ : ∃ s, strV [c] = .string s := ⟨_, rfl⟩
  have hky := fun (W : World) (i : Nat) (hi : i < 9223372036854775808) => key_any W c i hi
  rw [hsc] at hky ⊢
  have HKy := Lib.hid hky
  clear hky hsc
  obtain ⟨oa, cap, lv, rfl, hlv, hr, -, hly, hcap, hcm⟩ := h.is
  have H := Lib.hid hr
  have HLy := Lib.hid hly
  have HOk := Lib.hid hok
  obtain ⟨bs, hbs⟩ : ∃ bs, w.heap.size = bs := ⟨_, rfl⟩
  rw [hbs]
  have HBs := Lib.hid hbs
  clear hbs h hr hly hok hcap hcm
  go_enter Tryz.func53, Tryz.ntmps53
  go_wp2_with fail
  go_loopw [5, 10] (fun u j wr => ∃ (k : Nat) (ou : Option Addr) (nu cu : Nat), j = .int .i64 (k : Int) ∧ u = .slice ou nu cu ∧ k ≤ l.length ∧ Puts wr bs (.slice ou nu cu) ((lst c 0 (l.take k)).map ofKV) ∧ Chg (fun _ => False) w wr) (fun _ j _ => l.length - (intOf j).toNat)
  · exact ⟨0, none, 0, 0, rfl, rfl, Nat.zero_le _, OwnRecs.nil _ _ _ _, Chg.refl _ _⟩
  obtain ⟨k, ou, nu, cu, rfl, rfl, hk, ho, hc⟩ := hrel
  have HO := Lib.hid ho
  have HC := Lib.hid hc
  clear ho hc
  by_cases hlt : k < l.length
  · have hki : (k : Int) < (l.length : Int) := by omega
    obtain ⟨p, hp⟩ : ∃ p, l[k]? = some p := ⟨l[k]'(by omega), List.getElem?_eq_getElem _⟩
    obtain ⟨u, hu⟩ : ∃ u, lv[k]? = some u := ⟨lv[k]'(by omega), List.getElem?_eq_getElem _⟩
    obtain ⟨b, off, rfl⟩ := H.out.spot (by intro e; have e2 := congrArg List.length e; rw [List.length_zipWith, List.length_nil] at e2; omega)
    obtain ⟨d0, d1, d2, d3⟩ := pk_cells (H.out.kept HC.out (fun _ _ h => h)) hp hu
    have hlyk := HLy.out k p u hp hu
    obtain ⟨o1, o2, o3⟩ := HOk.out p (List.mem_of_getElem? hp)
    have hby := fun (W : World) (hW : Chg (fun _ => False) w W) => bytes_is W p (hlyk.fresh hW) o3 ⟨o1, o2⟩
    have hlst : lst c 0 (l.take (k + 1)) = lst c 0 (l.take k) ++ [([c, UInt8.ofNat k], pencF p)] := by
      rw [List.take_add_one, hp, Option.toList_some, lst_push, List.length_take, Nat.min_eq_left (by omega), Nat.zero_add]
    have HLst := Lib.hid hlst
    obtain ⟨ou1, cu1, rfl, -⟩ := hlyk.is
    obtain ⟨s1, hs1⟩ : ∃ s, strV p.man.name = .string s := ⟨_, rfl⟩
    obtain ⟨s2, hs2⟩ : ∃ s, strV p.man.ver = .string s := ⟨_, rfl⟩
    obtain ⟨sk, hsk⟩ : ∃ s, strV [c, UInt8.ofNat k] = .string s := ⟨_, rfl⟩
    obtain ⟨sb, hsb⟩ : ∃ s, strV (pencF p) = .string s := ⟨_, rfl⟩
    obtain ⟨n1, hn1⟩ : ∃ n, p.man.layers.length = n := ⟨_, rfl⟩
    obtain ⟨ow, how⟩ : ∃ n, p.owner = n := ⟨_, rfl⟩
    rw [hs1, hs2, hsb, hn1, how] at hby
    rw [hs1] at d1
    rw [hs2] at d2
    rw [hn1] at d3
    rw [how] at d0
    have HKi := Lib.hid (fun W => HKy.out W k (by omega))
    rw [hsk] at HKi
    have HBy := Lib.hid hby
    have hrow : (ofKV ([c, UInt8.ofNat k], pencF p)).row.toArray = #[.string sk, .string sb, .bool false] := by
      unfold PV.row ofKV; rw [← hsk, ← hsb]
    have HRow := Lib.hid hrow
    have hba := block_alloc_new wr (.cells #[.int .i64 ow, .string s1, .string s2, .slice ou1 n1 cu1] 90)
    have hca : Chg (fun _ => False) wr (wr.alloc (.cells #[.int .i64 ow, .string s1, .string s2, .slice ou1 n1 cu1] 90)) := (Chg.refl _ _).alloc _
    obtain ⟨wA, hwA⟩ : ∃ wA, wr.alloc (.cells #[.int .i64 ow, .string s1, .string s2, .slice ou1 n1 cu1] 90) = wA := ⟨_, rfl⟩
    rw [hwA] at hba hca
    have hq : ∀ W, Chg (fun k => bs ≤ k ∧ k ≠ wr.heap.size) wA W → W.cell? ⟨wr.heap.size, 0, none⟩ = some (.int .i64 ow) ∧ W.cell? ⟨wr.heap.size, 1, none⟩ = some (.string s1) ∧ W.cell? ⟨wr.heap.size, 2, none⟩ = some (.string s2) ∧ W.cell? ⟨wr.heap.size, 3, none⟩ = some (.slice ou1 n1 cu1) := fun W hW => by
      have hb := hW.at hba (fun e => e.2 rfl)
      exact ⟨cell_of_block hb rfl, cell_of_block hb rfl, cell_of_block hb rfl, cell_of_block hb rfl⟩
    have HQ := Lib.hid hq
    have HBa := Lib.hid hba
    have HCA := Lib.hid hca
    clear hp hu hlyk hby o1 o2 o3 hs1 hs2 hsk hsb hn1 how hlst hrow hba hca hq
    go_wp2_with fail
    try rw [hwA]
    clear hwA
    have HD := Lib.hid (show Chg (fun _ => False) wA wA.drew from (Chg.refl _ _).drew)
    refine wp_region_noPanic ?_
    refine wp_region_held_drew (S := (fun w' => w'.cell? ⟨wr.heap.size, 0, none⟩ = some (.int .i64 ow) ∧ w'.cell? ⟨wr.heap.size, 1, none⟩ = some (.string s1) ∧ w'.cell? ⟨wr.heap.size, 2, none⟩ = some (.string s2) ∧ w'.cell? ⟨wr.heap.size, 3, none⟩ = some (.slice ou1 n1 cu1))) (by kernel_rfl) (HQ.out _ (HD.out.mono (fun _ _ h => h.elim))) (fun hHeld => ?_)
    refine take_list (i := 0) (v := ?_) rfl (by kernel_rfl) (by kernel_rfl) (by kernel_rfl) (fun _ _ _ h => h) (Or.inl ⟨by rfl, fun w hSw => ?_⟩) hHeld ?_
    rotate_left
    · (skip; go_simp)
      try with_reducible rfl
    simp only [Act.put, List.setIfInBounds_toArray, List.set_cons_zero, List.set_cons_succ]
    refine take_list (i := 1) (v := ?_) rfl (by kernel_rfl) (by kernel_rfl) (by kernel_rfl) (fun _ _ _ h => h) (Or.inl ⟨by rfl, fun w hSw => ?_⟩) hHeld ?_
    rotate_left
    · (skip; go_simp)
      try with_reducible rfl
    simp only [Act.put, List.setIfInBounds_toArray, List.set_cons_zero, List.set_cons_succ]
    refine take_list (i := 2) (v := ?_) rfl (by kernel_rfl) (by kernel_rfl) (by kernel_rfl) (fun _ _ _ h => h) (Or.inl ⟨by rfl, fun w hSw => ?_⟩) hHeld ?_
    rotate_left
    · (skip; go_simp)
      try with_reducible rfl
    simp only [Act.put, List.setIfInBounds_toArray, List.set_cons_zero, List.set_cons_succ]
    refine take_list (i := 4) (v := ?_) rfl (by kernel_rfl) (by kernel_rfl) (by kernel_rfl) (fun _ _ _ h => h) (Or.inl ⟨by rfl, fun w hSw => ?_⟩) hHeld ?_
    rotate_left
    · (obtain ⟨hSw1, hSw2, hSw3, hSw4⟩ := hSw; go_simp)
      try with_reducible rfl
    simp only [Act.put, List.setIfInBounds_toArray, List.set_cons_zero, List.set_cons_succ]
    refine wpAnyH_ready (rs := [3]) (by kernel_rfl) (by simp) (one_list (i := 3) rfl (by rfl) (fun K hK => ?_) AllReadyH.nil)
    go_simp
    refine (HKi.out wA.drew).mono ?_
    rintro e w1 ⟨rfl, hc1⟩
    have HC1 := Lib.hid (HD.out.trans' hc1)
    clear hc1
    refine hK _ _ (HQ.out _ (HC1.out.mono (fun _ _ h => h.elim))) (fun hA1 => ?_)
    try simp only [Act.put, List.setIfInBounds_toArray, List.set_cons_zero, List.set_cons_succ]
    refine wpAnyH_ready (rs := [5]) (by kernel_rfl) (by simp) (one_list (i := 5) rfl (by rfl) (fun K hK => ?_) AllReadyH.nil)
    go_simp
    refine (HBy.out w1 (HC.out.trans' (HCA.out.trans' HC1.out))).mono ?_
    rintro e w2 ⟨rfl, hc2⟩
    have hca2 := (Chg.refl (fun _ => False) w2).alloc (.cells #[.string sk, .string sb, .bool false] 103)
    have hc3 : Chg (fun _ => False) wA (w2.alloc (.cells #[.string sk, .string sb, .bool false] 103)) := (HC1.out.trans' hc2).trans' hca2
    have hnb : (w2.alloc (.cells #[.string sk, .string sb, .bool false] 103)).heap[w2.heap.size]? = some (.cells (ofKV ([c, UInt8.ofNat k], pencF p)).row.toArray 103 (0, 0)) := by rw [HRow.out]; exact block_alloc_new _ _
    have HC2 := Lib.hid (HC1.out.trans' hc2)
    have HC3 := Lib.hid hc3
    have HNb := Lib.hid hnb
    clear hc2 hca2 hc3 hnb
    refine hK _ _ (HQ.out _ (HC2.out.mono (fun _ _ h => h.elim))) (fun hA2 => ?_)
    try simp only [Act.put, List.setIfInBounds_toArray, List.set_cons_zero, List.set_cons_succ]
    refine take_list (i := 6) (v := ?_) rfl (by kernel_rfl) (by kernel_rfl) (by kernel_rfl) (fun _ _ _ h => h) (Or.inl ⟨by rfl, fun w hSw => ?_⟩) hA2 ?_
    rotate_left
    · (skip; go_simp)
      try with_reducible rfl
    simp only [Act.put, List.setIfInBounds_toArray, List.set_cons_zero, List.set_cons_succ]
    refine wpAnyH_ready (rs := [7]) (by kernel_rfl) (by simp) (one_list (i := 7) rfl (by rfl) (fun K hK => ?_) AllReadyH.nil)
    go_simp
    refine hK _ _ (HQ.out _ (HC3.out.mono (fun _ _ h => h.elim))) (fun hA3 => ?_)
    try simp only [Act.put, List.setIfInBounds_toArray, List.set_cons_zero, List.set_cons_succ]
    have hown : ∀ g, (Value.slice ou nu cu).ownBlock = some g → bs ≤ g ∧ g < wr.heap.size := fun g hg => HO.out.lt hg
    have hcz := HC.out.trans' (HCA.out.trans' HC3.out)
    obtain ⟨o3, M3, p3, w3, hr3, ho3, hg3⟩ := push_put (HO.out.kept (HCA.out.trans' HC3.out) (fun _ _ h => h)) HNb.out (by have := hcz.size; have := HBs.out; omega) (by rw [List.length_map, lst_len, List.length_take]; omega)
    refine wpAnyH_ready (rs := [8]) (by kernel_rfl) (by simp) (one_list (i := 8) rfl (by rfl) (fun K hK => ?_) AllReadyH.nil)
    refine oper_append _ _ _ rfl rfl rfl hr3 ?_
    have hc3 : Chg (fun _ => False) w w3 := hcz.new hg3 (fun i e => by have := HBs.out; have := (hown i e.symm).1; omega)
    have hq3 := HQ.out w3 ((HC3.out.mono (fun _ _ h => h.elim) : Chg (fun k => bs ≤ k ∧ k ≠ wr.heap.size) wA _).trans' (hg3.mono (fun k _ e => ⟨(hown k e.symm).1, by have := (hown k e.symm).2; omega⟩)))
    have hfin : Puts w3 bs (.slice o3 M3 p3) ((lst c 0 (l.take (k + 1))).map ofKV) := by rw [HLst.out, List.map_append]; exact ho3
    have HFin := Lib.hid (And.intro hfin hc3)
    have HQ3 := Lib.hid hq3
    clear hown hcz hr3 ho3 hg3 hc3 hq3 hfin
    refine hK _ _ (HQ3.out) (fun hA4 => ?_)
    try simp only [Act.put, List.setIfInBounds_toArray, List.set_cons_zero, List.set_cons_succ]
    refine take_list (i := 9) (v := ?_) rfl (by kernel_rfl) (by kernel_rfl) (by kernel_rfl) (fun _ _ _ h => h) (Or.inl ⟨by rfl, fun w hSw => ?_⟩) hA4 ?_
    rotate_left
    · (skip; go_simp)
      try with_reducible rfl
    simp only [Act.put, List.setIfInBounds_toArray, List.set_cons_zero, List.set_cons_succ]
    refine wpAnyH_done (by kernel_rfl) ?_ _
    refine NoPanic.normal ?_
    go_wp2_with fail
    exact ⟨⟨k + 1, _, _, _, by go_num, rfl, hlt, HFin.out⟩, meas_step hlt⟩
  · have hki : ¬ (k : Int) < (l.length : Int) := by omega
    obtain rfl : k = l.length := by omega
    go_wp2_with fail
    go_ret
    have h := HO.out
    rw [List.take_length] at h
    exact ⟨_, rfl, h, HC.out⟩

end Go.Proofs.YtbjagmlbamjdbaaGreat.roots
end

/-
  rootdb: manifest.Size, Size.
-/
section
set_option linter.unusedSimpArgs false
set_option linter.unusedVariables false
namespace Go.Proofs.YtbjagmlbamjdbaaGreat.roots
open Go.RowKit Go.Maps Go.My Go.ChangeMaps disks bufs wals kvs
set_option maxRecDepth 100000

variable {w w' : World}

def sizesF (l : List Rf) : Nat := (l.map (fun x => x.size.toNat)).sum
def msizeF (m : Mf) : Nat := if mchkF m ≠ 0 then 0 else sizesF m.layers
theorem sizesF_le : ∀ (l : List Rf), (∀ x ∈ l, 0 ≤ x.size ∧ x.size ≤ 2147483647) → sizesF l ≤ 2147483647 * l.length
  | [], _ => by simp [sizesF]
  | x :: l, h => by
    have h1 := sizesF_le l (fun y hy => h y (by simp [hy]))
    have h2 := h x (by simp)
    have e : sizesF (x :: l) = x.size.toNat + sizesF l := by simp [sizesF]
    rw [e, List.length_cons]
    omega
theorem sizesF_take {l : List Rf} {k : Nat} {x : Rf} (h : l[k]? = some x) : sizesF (l.take (k + 1)) = sizesF (l.take k) + x.size.toNat := by
  unfold sizesF
  rw [List.take_add_one, h, Option.toList_some, List.map_append, List.sum_append]
  simp
theorem msizeF_le (m : Mf) : msizeF m ≤ 17179869176 := by
  unfold msizeF
  split
  · omega
  · rename_i h
    have h := mchkF_ok (by simpa using h)
    have h1 := sizesF_le m.layers h.sizes
    have h2 := h.few
    omega

set_option maxHeartbeats 2000000 in
theorem msize_is (w : World) (m : Mf) {F : Nat → Prop} {v : Value} (h : LysAt w F v m.layers) (h1 : m.name.length ≤ maxLen) (h2 : m.ver.length ≤ maxLen) :
    Calls Tryz.prog 45 #[.agg #[strV m.name, strV m.ver, v]] w fun e w' => e = .returned (.int .i64 (msizeF m : Int)) ∧ Chg (fun _ => False) w w' := by
  obtain ⟨nm, vr, L⟩ := m
  simp only at h h1 h2 ⊢
  obtain ⟨oa, cap, rfl, hr, -, -, -⟩ := id h.is
  have H := Lib.hid hr
  have HD := Lib.hid h.dig
  obtain ⟨sn, hsn⟩ : ∃ s, strV nm = .string s := ⟨_, rfl⟩
  obtain ⟨sv, hsv⟩ : ∃ s, strV vr = .string s := ⟨_, rfl⟩
  have hcx := ((Chg.refl (fun _ => False) w)).alloc (.cells #[.string sn, .string sv, .slice oa L.length cap] 88)
  have hmk := mcheck_is (w.alloc (.cells #[.string sn, .string sv, .slice oa L.length cap] 88)) ⟨nm, vr, L⟩ (h.fresh hcx) h1 h2
  simp only at hmk
  rw [hsn, hsv] at hmk
  rw [hsn, hsv]
  have HBx := Lib.hid (block_alloc_new w (.cells #[.string sn, .string sv, .slice oa L.length cap] 88))
  have HCx := Lib.hid hcx
  obtain ⟨M, hM⟩ : ∃ M, mchkF ⟨nm, vr, L⟩ = M := ⟨_, rfl⟩
  have hms : msizeF ⟨nm, vr, L⟩ = if M ≠ 0 then 0 else sizesF L := by unfold msizeF; rw [hM]
  rw [hM] at hmk
  rw [hms]
  have HMk := Lib.hid hmk
  clear h hr hsn hsv hcx hmk h1 h2 hms
  by_cases m0 : M = 0
  · subst m0
    have hok := mchkF_ok hM
    have HSz := Lib.hid hok.sizes
    have n3 := hok.few
    simp only at n3
    rw [if_neg (by simp)]
    obtain ⟨b, off, rfl⟩ := H.out.spot (by intro e; rw [List.map_eq_nil_iff] at e; have := hok.some; rw [e] at this; simp at this)
    obtain ⟨S, hS⟩ : ∃ S, sizesF L = S := ⟨_, rfl⟩
    rw [hS]
    have HS := Lib.hid hS
    clear hok hS hM
    go_enter Tryz.func45, Tryz.ntmps45
    go_wp2_with (first
      | (go_at_call 41; refine HMk.out.mono ?_; rintro e w1 ⟨rfl, hc1⟩
         have hb1 := hc1.at HBx.out id
         have c2 : w1.cell? ⟨w.heap.size, 2, none⟩ = some (.slice (some ⟨b, off, none⟩) L.length cap) := cell_of_block hb1 rfl
         have HC1 := Lib.hid (HCx.out.trans' hc1)
         clear hb1 hc1))
    go_loopw [3, 12] (fun u j wr => ∃ k : Nat, j = .int .i64 k ∧ k ≤ L.length ∧ u = .int .i64 (sizesF (L.take k) : Int) ∧ Chg (fun _ => False) w wr) (fun _ j _ => L.length - (intOf j).toNat)
    · exact ⟨0, rfl, Nat.zero_le _, rfl, HC1.out⟩
    obtain ⟨k, rfl, hk, rfl, hc⟩ := hrel
    have HC := Lib.hid hc
    clear hc HC1 c2
    by_cases hlt : k < L.length
    · have hki : (k : Int) < (L.length : Int) := by omega
      obtain ⟨x, hx⟩ : ∃ x, L[k]? = some x := ⟨L[k], List.getElem?_eq_getElem hlt⟩
      have hb32 : x.sum.length = 32 := HD.out x (List.mem_of_getElem? hx)
      obtain ⟨z0, z1⟩ := HSz.out x (List.mem_of_getElem? hx)
      obtain ⟨z, hz⟩ : ∃ z : Nat, x.size = (z : Int) := ⟨x.size.toNat, by omega⟩
      have htk : sizesF (L.take (k + 1)) = sizesF (L.take k) + z := by rw [sizesF_take hx, hz]; rfl
      have hle := sizesF_le (L.take k) (fun y hy => HSz.out y (List.mem_of_mem_take hy))
      have hlen : (rfC x).length = 33 := by simp [rfC, cellsB_length, hb32]
      have hrng : wr.rangeAt b (off + k * 33) (rfC x) := fun j v hj => (H.out.kept HC.out (fun _ _ h => h)).cell b off rfl k (rfC x) j v (by rw [List.getElem?_map, hx]; rfl) hj
      have hone : ∀ v ∈ rfC x, v.oneCell' = true := by
        intro v hv
        simp only [rfC, cellsB, List.mem_append, List.mem_map, List.mem_singleton] at hv
        rcases hv with ⟨y, -, rfl⟩ | rfl <;> rfl
      have HRng := Lib.hid hrng
      have HOne := Lib.hid hone
      have HLen := Lib.hid hlen
      obtain ⟨row, hrow⟩ : ∃ row, rfC x = row := ⟨_, rfl⟩
      rw [hrow] at HRng HOne HLen
      have hba := block_alloc_new wr (.cells row.toArray 98)
      have hca : Chg (fun _ => False) wr (wr.alloc (.cells row.toArray 98)) := (Chg.refl _ _).alloc _
      obtain ⟨wA, hwA⟩ : ∃ wA, wr.alloc (.cells row.toArray 98) = wA := ⟨_, rfl⟩
      rw [hwA] at hba hca
      have a32 : wA.cell? ⟨wr.heap.size, 32, none⟩ = some (.int .i64 (z : Int)) := cell_of_block hba (by rw [List.getElem?_toArray, ← hrow, rfC, List.getElem?_append_right (by rw [cellsB_length, hb32]; exact Nat.le_refl _), cellsB_length, hb32, hz]; rfl)
      obtain ⟨A, hA⟩ : ∃ A, sizesF (L.take k) = A := ⟨_, rfl⟩
      rw [hA] at htk hle ⊢
      have hlk : (L.take k).length ≤ 8 := by rw [List.length_take]; omega
      have hA0 : (0 : Int) ≤ (A : Int) := by omega
      have hA1 : (A : Int) ≤ 17179869176 := by omega
      have hz0 : (0 : Int) ≤ (z : Int) := by omega
      have hz1 : (z : Int) ≤ 2147483647 := by omega
      have HTk := Lib.hid htk
      have HCA := Lib.hid hca
      clear hx hb32 z0 z1 hz htk hle hlen hrng hone hrow hba hca hA hlk
      go_wp2_with (first
        | (refine wpList_load_mid rfl 98 _ rfl b (off + k * 33) rfl row _ HRng.out Tryz.underlying98 rfl (size_ref.trans (by rw [HLen.out])) ?_)
        | (refine wpList_store_new rfl 98 _ _ rfl row.toArray rfl rfl (size_ref.trans (by rw [List.size_toArray, HLen.out])) (by rw [show row.toArray.size = 33 from by rw [List.size_toArray, HLen.out]]; rfl) (all_oneCell_toArray HOne.out) ?_))
      exact ⟨⟨k + 1, by go_num, hlt, by rw [HTk.out]; go_num, HC.out.trans' HCA.out⟩, meas_step hlt⟩
    · have hki : ¬ (k : Int) < (L.length : Int) := by omega
      obtain rfl : k = L.length := by omega
      go_wp2_with fail
      go_ret
      rw [← HS.out]
      first
        | exact ⟨rfl, HC.out⟩
        | (rw [List.take_length]; exact ⟨rfl, HC.out⟩)
  · rw [if_pos m0]
    have m0b : ((M : Int) != 0) = true := by simpa using m0
    have m0i : ¬ (M : Int) = 0 := by omega
    clear hM
    go_enter Tryz.func45, Tryz.ntmps45
    go_wp2_with (first
      | (go_at_call 41; refine HMk.out.mono ?_; rintro e w1 ⟨rfl, hc1⟩
         have HC1 := Lib.hid (HCx.out.trans' hc1)
         clear hc1))
    go_ret
    exact ⟨rfl, HC1.out⟩

/-! ### Size -/
def sizeF (o : Int) (l : List Pk) : Nat := (l.map (fun p => if p.owner = o then msizeF p.man else 0)).sum
theorem sizeF_le (o : Int) : ∀ (l : List Pk), sizeF o l ≤ 17179869176 * l.length
  | [] => by simp [sizeF]
  | p :: l => by
    have h1 := sizeF_le o l
    have h2 := msizeF_le p.man
    have e : sizeF o (p :: l) = (if p.owner = o then msizeF p.man else 0) + sizeF o l := by simp [sizeF]
    rw [e, List.length_cons]
    split <;> omega
theorem sizeF_take {o : Int} {l : List Pk} {k : Nat} {p : Pk} (h : l[k]? = some p) : sizeF o (l.take (k + 1)) = sizeF o (l.take k) + if p.owner = o then msizeF p.man else 0 := by
  unfold sizeF
  rw [List.take_add_one, h, Option.toList_some, List.map_append, List.sum_append]
  simp

set_option maxHeartbeats 1000000 in
theorem size_is (w : World) {F : Nat → Prop} {v : Value} {l : List Pk} (h : PksAt w F v l) (hl : l.length ≤ 1000) (o : Int) :
    Calls Tryz.prog 15 #[v, .int .i64 o] w fun e w' => e = .returned (.int .i64 (sizeF o l : Int)) ∧ Chg (fun _ => False) w w' := by
  obtain ⟨oa, cap, lv, rfl, hlv, hr, -, hly, hcap, hcm⟩ := h.is
  have HTx := Lib.hid h.txt
  have H := Lib.hid hr
  have HLy := Lib.hid hly
  obtain ⟨S, hS⟩ : ∃ S, sizeF o l = S := ⟨_, rfl⟩
  rw [hS]
  have HS := Lib.hid hS
  clear h hr hly hcap hcm hS
  go_enter Tryz.func15, Tryz.ntmps15
  go_wp2_with fail
  go_loopw [5, 10] (fun u j wr => ∃ k : Nat, u = .int .i64 (sizeF o (l.take k) : Int) ∧ j = .int .i64 k ∧ k ≤ l.length ∧ Chg (fun _ => False) w wr) (fun _ j _ => l.length - (intOf j).toNat)
  · exact ⟨0, rfl, rfl, Nat.zero_le _, Chg.refl _ _⟩
  obtain ⟨k, rfl, rfl, hk, hc⟩ := hrel
  have HC := Lib.hid hc
  clear hc
  by_cases hlt : k < l.length
  · have hki : (k : Int) < (l.length : Int) := by omega
    obtain ⟨p, hp⟩ : ∃ p, l[k]? = some p := ⟨l[k]'(by omega), List.getElem?_eq_getElem _⟩
    obtain ⟨u, hu⟩ : ∃ u, lv[k]? = some u := ⟨lv[k]'(by omega), List.getElem?_eq_getElem _⟩
    obtain ⟨b, off, rfl⟩ := H.out.spot (by intro e; have e2 := congrArg List.length e; rw [List.length_zipWith, List.length_nil] at e2; omega)
    obtain ⟨d0, d1, d2, d3⟩ := pk_cells (H.out.kept HC.out (fun _ _ h => h)) hp hu
    have hlyk := HLy.out k p u hp hu
    obtain ⟨t1, t2⟩ := HTx.out p (List.mem_of_getElem? hp)
    have htk := sizeF_take (o := o) hp
    obtain ⟨A, hA⟩ : ∃ A, sizeF o (l.take k) = A := ⟨_, rfl⟩
    have hAl := sizeF_le o (l.take k)
    rw [hA] at hAl
    have hlk : (l.take k).length ≤ 1000 := by rw [List.length_take]; omega
    have hA0 : (0 : Int) ≤ (A : Int) := by omega
    have hA1 : (A : Int) ≤ 17179869176000 := by omega
    rw [hA] at htk ⊢
    obtain ⟨ou, cu, rfl, -⟩ := hlyk.is
    obtain ⟨ow, nm, vr, L⟩ := p
    simp only at d0 d1 d2 d3 hlyk t1 t2 htk
    obtain ⟨s1, hs1⟩ : ∃ s, strV nm = .string s := ⟨_, rfl⟩
    obtain ⟨s2, hs2⟩ : ∃ s, strV vr = .string s := ⟨_, rfl⟩
    rw [hs1] at d1
    rw [hs2] at d2
    have hcx : Chg (fun _ => False) w (wr.alloc (.cells #[.int .i64 ow, .string s1, .string s2, .slice ou L.length cu] 90)) := HC.out.alloc _
    have hmk := msize_is (wr.alloc (.cells #[.int .i64 ow, .string s1, .string s2, .slice ou L.length cu] 90)) ⟨nm, vr, L⟩ (hlyk.fresh hcx) t1 t2
    rw [hs1, hs2] at hmk
    obtain ⟨M, hM⟩ : ∃ M, msizeF ⟨nm, vr, L⟩ = M := ⟨_, rfl⟩
    have hMl := msizeF_le ⟨nm, vr, L⟩
    rw [hM] at hmk htk hMl
    have hM0 : (0 : Int) ≤ (M : Int) := by omega
    have hM1 : (M : Int) ≤ 17179869176 := by omega
    have HMk := Lib.hid hmk
    have HCa := Lib.hid hcx
    have HTk := Lib.hid htk
    clear hp hu hlyk t1 t2 htk hA hAl hlk hs1 hs2 hcx hmk hM hMl
    by_cases he : ow = o
    · subst he
      go_wp2_with (first
        | (go_at_call 45; refine HMk.out.mono ?_; rintro e w1 ⟨rfl, hc1⟩
           have HC1 := Lib.hid (HCa.out.trans' hc1)
           clear hc1))
      exact ⟨⟨k + 1, by rw [HTk.out]; simp, by go_num, hlt, HC1.out⟩, meas_step hlt⟩
    · have heb : (ow == o) = false := by simpa using he
      have HNe := Lib.hid he
      clear he
      go_wp2_with fail
      exact ⟨⟨k + 1, by rw [HTk.out, if_neg HNe.out, Nat.add_zero], by go_num, hlt, HCa.out⟩, meas_step hlt⟩
  · have hki : ¬ (k : Int) < (l.length : Int) := by omega
    obtain rfl : k = l.length := by omega
    go_wp2_with fail
    go_ret
    rw [← HS.out]
    first
      | exact ⟨rfl, HC.out⟩
      | (rw [List.take_length]; exact ⟨rfl, HC.out⟩)

end Go.Proofs.YtbjagmlbamjdbaaGreat.roots
end

/-
  rootdb: slices.Grow, slices.Concat of batches: join.
-/
section
set_option linter.unusedSimpArgs false
set_option linter.unusedVariables false
namespace Go.Proofs.YtbjagmlbamjdbaaGreat.roots
open Go.RowKit Go.Maps Go.My Go.ChangeMaps disks bufs wals kvs
set_option maxRecDepth 100000

variable {w w' : World}

theorem grow_is (w : World) (n : Nat) (h0 : 0 < n) (hn : n ≤ 1000) :
    Calls Tryz.prog 147 #[.slice none 0 0, .int .i64 (n : Int)] w fun e w' => ∃ v, e = .returned v ∧ Puts w' w.heap.size v [] ∧ Chg (fun _ => False) w w' := by
  obtain ⟨i, hi, hz, hsz, hby⟩ := info_parts info_put
  have hr := Lib.run_append_nil_zeros (P := Tryz.prog) w 66 3 66 103 i _ .i64 .i64 Tryz.underlying66 Tryz.underlying3 hi hz n h0 (by rw [hsz]; omega) (by omega) (by rw [hby]; omega)
  have hc1 := grownCap_ge w n 0 103
  have hc2 := grownCap_le_maxLen w n 0 103 (by unfold maxLen; omega)
  obtain ⟨C, hC⟩ : ∃ C, grownCap w n 0 103 = C := ⟨_, rfl⟩
  rw [hC] at hr hc1 hc2
  obtain ⟨cur, hcur⟩ : ∃ cur, Builtin.zeroCells (Value.agg #[.string ⟨#[]⟩, .string ⟨#[]⟩, .bool false]).cells n ++ Builtin.zeroCells (Value.agg #[.string ⟨#[]⟩, .string ⟨#[]⟩, .bool false]).cells (C - n) = cur := ⟨_, rfl⟩
  have hcs : cur.size = C * 3 := by
    rw [← hcur, Array.size_append, size_zeroCells, size_zeroCells]
    simp only [Value.cells, List.size_toArray, List.length_cons, List.length_nil]
    omega
  rw [hcur] at hr
  have hown : Puts (w.drew.alloc (.cells cur 103)) w.heap.size (.slice (some ⟨w.heap.size, 0, none⟩) 0 C) [] :=
    ⟨⟨by simp, .inr ⟨w.heap.size, C, cur, rfl, Nat.le_refl _, heap_alloc_new w.drew _, Nat.zero_le _, hc2, hcs, by simp⟩⟩, by simp⟩
  have hch : Chg (fun _ => False) w (w.drew.alloc (.cells cur 103)) := ((Chg.refl _ _).drew).alloc _
  have HR := Lib.hid hr
  have HO := Lib.hid hown
  have HC := Lib.hid hch
  have n1 : (0 : Int) < (n : Int) := by omega
  have n2 : (n : Int) ≤ 1000 := by omega
  have n3 : (n : Int) ≤ (C : Int) := by omega
  have n4 : (0 : Int) ≤ (C : Int) := by omega
  clear hr hown hch hcs hcur hC hi hz hsz hby hc1
  go_enter Tryz.func147, Tryz.ntmps147
  go_wp2_with (first
    | (at_builtin; refine Lib.wpList_append_run _ rfl _ _ _ _ rfl _ _ rfl rfl _ _ HR.out ?_))
  go_ret
  exact ⟨_, rfl, HO.out, HC.out⟩

/-- A batch put behind a batch. -/
theorem push_puts {B B2 : Nat} {v u : Value} {l ps : List PV} (h : Puts w B v l) (hs : Puts w B2 u ps) (hB : B ≤ w.heap.size) (hl : l.length + ps.length ≤ 1000000) :
    ∃ (o3 : Option Addr) (M p3 : Nat) (w3 : World), (Builtin.append_ #[66, 66] 66 #[v, u]).run Tryz.prog w = .ok (.slice o3 M p3) w3 ∧ Puts w3 B (.slice o3 M p3) (l ++ ps) ∧ Chg (fun k => some k = v.ownBlock) w w3 := by
  obtain ⟨i, hi, hz, hsz, hby⟩ := info_parts info_put
  rcases hs.row.2 with ⟨rfl, h0⟩ | ⟨g, cap, cur, rfl, -, -, -⟩
  · have hps : ps = [] := by rw [List.length_map] at h0; exact List.eq_nil_of_length_eq_zero h0
    subst hps
    rw [List.append_nil]
    have hr := run_append_owned_none (P := Tryz.prog) (w := w) B 66 66 103 i 3 Tryz.underlying66 hi v _ _ h.row
    obtain ⟨o, c, hv, -⟩ := h.slice
    subst hv
    exact ⟨_, _, _, w, hr, h, Chg.refl _ _⟩
  · have hone : ∀ x ∈ (ps.map PV.row).flatten, x.oneCell' = true := by
      intro x hx
      obtain ⟨r, hr, hxr⟩ := List.mem_flatten.1 hx
      obtain ⟨q, -, rfl⟩ := List.mem_map.1 hr
      exact row_oneCell q x hxr
    obtain ⟨v', w', h1, h2, h3, -⟩ := run_append_own (P := Tryz.prog) w B 66 66 103 i _ 3 40 Tryz.underlying66 hi hz hsz hby rfl (by decide) v _ _ h.row ⟨g, 0, none⟩ (ps.map PV.row).length cap (ps.map PV.row).flatten (flat_length 3 _ hs.each) (hs.row.cells (g := g) rfl) hone (by rw [List.length_map, List.length_map]; unfold maxLen; omega) (by rw [List.length_map, List.length_map]; omega) hB
    have h4 : Puts w' B v' (l ++ ps) := by
      show OwnRecs w' B _ 3 v' ((l ++ ps).map PV.row)
      rw [List.map_append]
      exact OwnRecs.append h2 h.each hs.each
    obtain ⟨o, c, rfl, -⟩ := h4.slice
    exact ⟨o, _, c, w', h1, h4, Chg.of_grown h3⟩

def sumL (L : List (Value × List PV)) : Nat := (L.map (fun x => x.2.length)).sum
theorem sumL_take {L : List (Value × List PV)} {k : Nat} {x : Value × List PV} (h : L[k]? = some x) : sumL (L.take (k + 1)) = sumL (L.take k) + x.2.length := by
  unfold sumL
  rw [List.take_add_one, h, Option.toList_some, List.map_append, List.sum_append]
  simp
theorem sumL_le (L : List (Value × List PV)) (k : Nat) : sumL (L.take k) ≤ sumL L := by
  have h : sumL L = sumL (L.take k) + sumL (L.drop k) := by
    unfold sumL
    rw [← List.sum_append, ← List.map_append, List.take_append_drop]
  omega

set_option maxHeartbeats 1000000 in
theorem concat_is (w : World) (L : List (Value × List PV)) {lb : Nat} (hb : w.heap[lb]? = some (.cells (L.map (fun x => x.1)).toArray 66 (0, 0))) (hp : ∀ x ∈ L, ∃ B, Puts w B x.1 x.2) (h0 : 0 < sumL L) (h1 : sumL L ≤ 1000) (hl : L.length ≤ 10) :
    Calls Tryz.prog 93 #[.slice (some ⟨lb, 0, none⟩) L.length L.length] w fun e w' => ∃ v, e = .returned v ∧ Puts w' w.heap.size v (L.map (fun x => x.2)).flatten ∧ Chg (fun _ => False) w w' := by
  have HB := Lib.hid hb
  have HP := Lib.hid hp
  obtain ⟨S, hS⟩ : ∃ S, sumL L = S := ⟨_, rfl⟩
  rw [hS] at h0 h1
  have HS := Lib.hid hS
  have HG := Lib.hid (fun W => grow_is W S h0 h1)
  clear hb hp hS
  go_enter Tryz.func93, Tryz.ntmps93
  go_wp2_with fail
  go_loopw [3, 11] (fun u j wr => ∃ k : Nat, u = .int .i64 (sumL (L.take k) : Int) ∧ j = .int .i64 k ∧ k ≤ L.length ∧ w = wr) (fun _ j _ => L.length - (intOf j).toNat)
  · exact ⟨0, rfl, rfl, Nat.zero_le _, rfl⟩
  obtain ⟨k, rfl, rfl, hk, rfl⟩ := hrel
  by_cases hlt : k < L.length
  · have hki : (k : Int) < (L.length : Int) := by omega
    obtain ⟨x, hx⟩ : ∃ x, L[k]? = some x := ⟨L[k], List.getElem?_eq_getElem hlt⟩
    obtain ⟨B, hpx⟩ := HP.out x (List.mem_of_getElem? hx)
    have htk := sumL_take hx
    have hle := sumL_le L k
    have hle2 := sumL_le L (k + 1)
    rw [HS.out] at hle hle2
    have c0 : w.cell? ⟨lb, k, none⟩ = some x.1 := cell_of_block HB.out (by simp [hx])
    obtain ⟨o, c, hv, -⟩ := hpx.slice
    rw [List.length_map] at hv
    rw [hv] at c0
    obtain ⟨A, hA⟩ : ∃ A, sumL (L.take k) = A := ⟨_, rfl⟩
    obtain ⟨N, hN⟩ : ∃ N, x.2.length = N := ⟨_, rfl⟩
    rw [hA] at htk hle ⊢
    rw [hN] at htk c0
    rw [htk] at hle2
    have a0 : (0 : Int) ≤ (A : Int) := by omega
    have a1 : (A : Int) ≤ 1000 := by omega
    have a2 : (0 : Int) ≤ (N : Int) := by omega
    have a3 : (N : Int) ≤ 1000 := by omega
    have a4 : ¬ (A : Int) + (N : Int) < 0 := by omega
    have HTk := Lib.hid htk
    clear hx hpx htk hle hle2 hv hA hN
    go_wp2_with fail
    exact ⟨⟨k + 1, by rw [HTk.out]; go_num, by go_num, hlt, trivial⟩, meas_step hlt⟩
  · have hki : ¬ (k : Int) < (L.length : Int) := by omega
    obtain rfl : k = L.length := by omega
    rw [List.take_length, HS.out]
    obtain ⟨bs, hbs⟩ : ∃ bs, w.heap.size = bs := ⟨_, rfl⟩
    have HBs := Lib.hid hbs
    clear hbs
    go_wp2_with (first
      | (go_at_call 147; refine (HG.out w).mono ?_; rintro e w1 ⟨v1, rfl, ho1, hc1⟩
         obtain ⟨o1, p1, hv1, -⟩ := ho1.slice
         subst hv1
         have HO1 := Lib.hid ho1
         have HC1 := Lib.hid hc1
         clear ho1 hc1))
    go_loopw [6, 27] (fun u j wr => ∃ (k : Nat) (ou : Option Addr) (nu cu : Nat), u = .slice ou nu cu ∧ j = .int .i64 k ∧ k ≤ L.length ∧ Puts wr w.heap.size (.slice ou nu cu) ((L.take k).map (fun x => x.2)).flatten ∧ Chg (fun _ => False) w wr) (fun _ j _ => L.length - (intOf j).toNat)
    · exact ⟨0, _, _, _, rfl, rfl, Nat.zero_le _, HO1.out, HC1.out⟩
    clear HO1 HC1
    obtain ⟨k, ou, nu, cu, rfl, rfl, hk, ho, hc⟩ := hrel
    by_cases hlt : k < L.length
    · have hki : (k : Int) < (L.length : Int) := by omega
      obtain ⟨x, hx⟩ : ∃ x, L[k]? = some x := ⟨L[k], List.getElem?_eq_getElem hlt⟩
      obtain ⟨B, hpx⟩ := HP.out x (List.mem_of_getElem? hx)
      have c0 : wr.cell? ⟨lb, k, none⟩ = some x.1 := cell_of_block (hc.at HB.out id) (by simp [hx])
      have hfl : ((L.take (k + 1)).map (fun x => x.2)).flatten = ((L.take k).map (fun x => x.2)).flatten ++ x.2 := by
        rw [List.take_add_one, hx, Option.toList_some, List.map_append, List.flatten_append]; simp
      have hle := sumL_le L k
      have hle2 := sumL_le L (k + 1)
      rw [sumL_take hx, HS.out] at hle2
      have hfs : (((L.take k).map (fun x => x.2)).flatten).length = sumL (L.take k) := by
        rw [List.length_flatten, List.map_map]; rfl
      obtain ⟨o, c, hv, -⟩ := hpx.slice
      have hpw := hpx.kept hc (fun _ _ h => h)
      rw [hv] at c0 hpw
      obtain ⟨o3, M3, p3, w3, hr3, ho3, hg3⟩ := push_puts ho hpw (by exact hc.size) (by rw [hfs]; omega)
      obtain ⟨N, hN⟩ : ∃ N, (x.2.map PV.row).length = N := ⟨_, rfl⟩
      rw [hN] at c0 hr3
      rw [← hfl] at ho3
      have HR3 := Lib.hid hr3
      have HO3 := Lib.hid ho3
      have HC3 := Lib.hid (hc.new hg3 (fun i e => (ho.lt e.symm).1))
      clear hx hpx hfl hle hle2 hfs hv hpw hr3 ho3 hg3 ho hc hN
      go_wp2_with (first
        | (at_builtin; refine Lib.wpList_append_run _ rfl _ _ _ _ rfl _ _ rfl rfl _ _ HR3.out ?_))
      exact ⟨⟨k + 1, _, _, _, rfl, by go_num, hlt, HO3.out, HC3.out⟩, meas_step hlt⟩
    · have hki : ¬ (k : Int) < (L.length : Int) := by omega
      obtain rfl : k = L.length := by omega
      rw [List.take_length] at ho
      have HO := Lib.hid ho
      have HC := Lib.hid hc
      clear ho hc
      go_wp2_with fail
      go_ret
      exact ⟨_, rfl, HO.out, HC.out⟩

theorem join_is (w : World) (L : List (Value × List PV)) {lb : Nat} (hb : w.heap[lb]? = some (.cells (L.map (fun x => x.1)).toArray 66 (0, 0))) (hp : ∀ x ∈ L, ∃ B, Puts w B x.1 x.2) (h0 : 0 < sumL L) (h1 : sumL L ≤ 1000) (hl : L.length ≤ 10) :
    Calls Tryz.prog 52 #[.slice (some ⟨lb, 0, none⟩) L.length L.length] w fun e w' => ∃ v, e = .returned v ∧ Puts w' w.heap.size v (L.map (fun x => x.2)).flatten ∧ Chg (fun _ => False) w w' := by
  have HC := Lib.hid (concat_is w L hb hp h0 h1 hl)
  clear hb hp
  go_enter Tryz.func52, Tryz.ntmps52
  go_wp2_with (go_at_call 93; refine HC.out.mono ?_; rintro e w1 ⟨v, rfl, ho, hc⟩
               obtain ⟨o1, p1, hv1, -⟩ := ho.slice
               obtain ⟨M, hM⟩ : ∃ M, ((L.map (fun x => x.2)).flatten.map PV.row).length = M := ⟨_, rfl⟩
               rw [hM] at hv1
               subst hv1
               clear hM
               have HO := Lib.hid ho
               have HC1 := Lib.hid hc
               clear ho hc)
  go_ret
  exact ⟨_, rfl, HO.out, HC1.out⟩

end Go.Proofs.YtbjagmlbamjdbaaGreat.roots
end

/-
  rootdb: a root in the memory: its five words, its packages, its numbers; what it is asked.
-/
section
set_option linter.unusedSimpArgs false
set_option linter.unusedVariables false
namespace Go.Proofs.YtbjagmlbamjdbaaGreat.roots
open Go.RowKit Go.Maps Go.My Go.ChangeMaps disks bufs wals kvs
set_option maxRecDepth 100000

variable {w w' : World} {B r kb : Nat} {F : Nat → Prop} {S : RS} {sv wv dv : Value}

/-- A root's five words: its database, its stack, what is staged, what is wanted (packages in the blocks F), who was committed. -/
structure RtIs (w : World) (B r kb : Nat) (F : Nat → Prop) (S : RS) (sv wv dv : Value) : Prop where
  head : w.heap[r]? = some (.cells #[.pointer (some ⟨kb, 0, none⟩), sv, .int .i64 (S.staged : Int), wv, dv] 37 (0, 0))
  stack : PksAt w F sv S.stack
  wants : PksAt w F wv S.wants
  done : w.ownsRow B 3 1 dv S.done.length (S.done.map (fun n : Nat => Value.int .i64 (n : Int)))
  few : S.stack.length ≤ 20 ∧ S.wants.length ≤ 20 ∧ S.done.length ≤ 1000
  lays : (∀ p ∈ S.stack, p.man.layers.length ≤ 20) ∧ (∀ p ∈ S.wants, p.man.layers.length ≤ 20)
theorem RtIs.fresh (h : RtIs w B r kb F S sv wv dv) (hc : Chg (fun _ => False) w w') : RtIs w' B r kb F S sv wv dv :=
  ⟨hc.at h.head id, h.stack.fresh hc, h.wants.fresh hc, own_kept h.done hc, h.few, h.lays⟩

theorem none_is (w : World) (h : RtIs w B r kb F S sv wv dv) : Calls Tryz.prog 47 #[.pointer (some ⟨r, 0, none⟩)] w fun e w' => e = .returned (.bool false) ∧ w = w' := by
  have c0 : w.cell? ⟨r, 0, none⟩ = some (.pointer (some ⟨kb, 0, none⟩)) := cell_of_block h.head rfl
  clear h
  go_enter Tryz.func47, Tryz.ntmps47
  go_wp2_with fail
  go_ret
  exact ⟨rfl, rfl⟩

/-- What a number is told. -/
def askF (t : Int) : Nat := if t < 1 ∨ 1099511627776 < t then 2 else 0
theorem asked_is (w : World) (h : RtIs w B r kb F S sv wv dv) (t : Int) : Calls Tryz.prog 49 #[.pointer (some ⟨r, 0, none⟩), .int .i64 t] w fun e w' => e = .returned (.int .i64 (askF t : Int)) ∧ w = w' := by
  have HN := Lib.hid (none_is w h)
  clear h
  unfold askF
  by_cases t1 : t < 1
  · rw [if_pos (Or.inl t1)]
    go_enter Tryz.func49, Tryz.ntmps49
    go_wp2_with (first
      | (go_at_call 47; refine HN.out.mono ?_; rintro e w' ⟨rfl, rfl⟩))
    go_ret
    exact ⟨rfl, rfl⟩
  · by_cases t2 : 1099511627776 < t
    · rw [if_pos (Or.inr t2)]
      go_enter Tryz.func49, Tryz.ntmps49
      go_wp2_with (first
        | (go_at_call 47; refine HN.out.mono ?_; rintro e w' ⟨rfl, rfl⟩))
      go_ret
      exact ⟨rfl, rfl⟩
    · rw [if_neg (by omega)]
      go_enter Tryz.func49, Tryz.ntmps49
      go_wp2_with (first
        | (go_at_call 47; refine HN.out.mono ?_; rintro e w' ⟨rfl, rfl⟩))
      go_ret
      exact ⟨rfl, rfl⟩

theorem stack_of (w : World) (h : RtIs w B r kb F S sv wv dv) : Calls Tryz.prog 22 #[.pointer (some ⟨r, 0, none⟩)] w fun e w' => ∃ v, e = .returned v ∧ PksAt w' (fun b => w.heap.size ≤ b ∧ b < w'.heap.size) v S.stack ∧ Chg (fun _ => False) w w' := by
  have HN := Lib.hid (none_is w h)
  obtain ⟨oa, cap, lv, rfl, -⟩ := id h.stack.is
  have c1 : w.cell? ⟨r, 1, none⟩ = some (.slice oa S.stack.length cap) := cell_of_block h.head rfl
  have HT := Lib.hid (twin_is w h.stack h.few.1 h.lays.1)
  obtain ⟨L, hL⟩ : ∃ L, S.stack = L := ⟨_, rfl⟩
  rw [hL] at c1 HT ⊢
  clear h hL
  go_enter Tryz.func22, Tryz.ntmps22
  go_wp2_with (first
    | (go_at_call 47; refine HN.out.mono ?_; rintro e w' ⟨rfl, rfl⟩)
    | (go_at_call 48; refine HT.out.mono ?_; rintro e w1 ⟨v1, rfl, hp1, hc1⟩
       obtain ⟨o1, p1, l1, hv1, -⟩ := id hp1.is
       subst hv1
       have HP := Lib.hid hp1
       have HC := Lib.hid hc1
       clear hp1 hc1))
  go_ret
  exact ⟨_, rfl, HP.out, HC.out⟩

theorem staged_of (w : World) (h : RtIs w B r kb F S sv wv dv) : Calls Tryz.prog 18 #[.pointer (some ⟨r, 0, none⟩)] w fun e w' => ∃ v, e = .returned (.tuple #[.int .i64 (S.staged : Int), v]) ∧ PksAt w' (fun b => w.heap.size ≤ b ∧ b < w'.heap.size) v S.wants ∧ Chg (fun _ => False) w w' := by
  have HN := Lib.hid (none_is w h)
  obtain ⟨oa, cap, lv, rfl, -⟩ := id h.wants.is
  have c2 : w.cell? ⟨r, 2, none⟩ = some (.int .i64 (S.staged : Int)) := cell_of_block h.head rfl
  have c3 : w.cell? ⟨r, 3, none⟩ = some (.slice oa S.wants.length cap) := cell_of_block h.head rfl
  have hd : Chg (fun _ => False) w w.drew := (Chg.refl _ _).drew
  have HT := Lib.hid (twin_is w.drew (h.wants.fresh hd) h.few.2.1 h.lays.2)
  have HD := Lib.hid hd
  obtain ⟨L, hL⟩ : ∃ L, S.wants = L := ⟨_, rfl⟩
  rw [hL] at c3 HT ⊢
  clear h hL hd
  go_enter Tryz.func18, Tryz.ntmps18
  go_wp2_with (first
    | (go_at_call 47; refine HN.out.mono ?_; rintro e w' ⟨rfl, rfl⟩))
  refine wp_region_noPanic ?_
  refine wp_region_held_drew (S := (fun w' => w'.cell? ⟨r, 2, none⟩ = some (.int .i64 (S.staged : Int)) ∧ w'.cell? ⟨r, 3, none⟩ = some (.slice oa L.length cap))) (by kernel_rfl) (⟨c2, c3⟩) (fun hHeld => ?_)
  refine take_list (i := 0) (v := ?_) rfl (by kernel_rfl) (by kernel_rfl) (by kernel_rfl) (fun _ _ _ h => h) (Or.inl ⟨by rfl, fun w hSw => ?_⟩) hHeld ?_
  rotate_left
  · (obtain ⟨hSw1, hSw2⟩ := hSw; go_simp)
    try with_reducible rfl
  simp only [Act.put, List.setIfInBounds_toArray, List.set_cons_zero, List.set_cons_succ]
  refine take_list (i := 1) (v := ?_) rfl (by kernel_rfl) (by kernel_rfl) (by kernel_rfl) (fun _ _ _ h => h) (Or.inl ⟨by rfl, fun w hSw => ?_⟩) hHeld ?_
  rotate_left
  · (obtain ⟨hSw1, hSw2⟩ := hSw; go_simp)
    try with_reducible rfl
  simp only [Act.put, List.setIfInBounds_toArray, List.set_cons_zero, List.set_cons_succ]
  refine take_list (i := 2) (v := ?_) rfl (by kernel_rfl) (by kernel_rfl) (by kernel_rfl) (fun _ _ _ h => h) (Or.inl ⟨by rfl, fun w hSw => ?_⟩) hHeld ?_
  rotate_left
  · (obtain ⟨hSw1, hSw2⟩ := hSw; go_simp)
    try with_reducible rfl
  simp only [Act.put, List.setIfInBounds_toArray, List.set_cons_zero, List.set_cons_succ]
  refine take_list (i := 3) (v := ?_) rfl (by kernel_rfl) (by kernel_rfl) (by kernel_rfl) (fun _ _ _ h => h) (Or.inl ⟨by rfl, fun w hSw => ?_⟩) hHeld ?_
  rotate_left
  · (obtain ⟨hSw1, hSw2⟩ := hSw; go_simp)
    try with_reducible rfl
  simp only [Act.put, List.setIfInBounds_toArray, List.set_cons_zero, List.set_cons_succ]
  refine take_list (i := 4) (v := ?_) rfl (by kernel_rfl) (by kernel_rfl) (by kernel_rfl) (fun _ _ _ h => h) (Or.inl ⟨by rfl, fun w hSw => ?_⟩) hHeld ?_
  rotate_left
  · (obtain ⟨hSw1, hSw2⟩ := hSw; go_simp)
    try with_reducible rfl
  simp only [Act.put, List.setIfInBounds_toArray, List.set_cons_zero, List.set_cons_succ]
  refine take_list (i := 5) (v := ?_) rfl (by kernel_rfl) (by kernel_rfl) (by kernel_rfl) (fun _ _ _ h => h) (Or.inl ⟨by rfl, fun w hSw => ?_⟩) hHeld ?_
  rotate_left
  · (obtain ⟨hSw1, hSw2⟩ := hSw; go_simp)
    try with_reducible rfl
  simp only [Act.put, List.setIfInBounds_toArray, List.set_cons_zero, List.set_cons_succ]
  refine take_list (i := 6) (v := ?_) rfl (by kernel_rfl) (by kernel_rfl) (by kernel_rfl) (fun _ _ _ h => h) (Or.inl ⟨by rfl, fun w hSw => ?_⟩) hHeld ?_
  rotate_left
  · (obtain ⟨hSw1, hSw2⟩ := hSw; go_simp)
    try with_reducible rfl
  simp only [Act.put, List.setIfInBounds_toArray, List.set_cons_zero, List.set_cons_succ]
  refine take_list (i := 7) (v := ?_) rfl (by kernel_rfl) (by kernel_rfl) (by kernel_rfl) (fun _ _ _ h => h) (Or.inl ⟨by rfl, fun w hSw => ?_⟩) hHeld ?_
  rotate_left
  · (obtain ⟨hSw1, hSw2⟩ := hSw; go_simp)
    try with_reducible rfl
  simp only [Act.put, List.setIfInBounds_toArray, List.set_cons_zero, List.set_cons_succ]
  refine wpAnyH_ready (rs := [8]) (by kernel_rfl) (by simp) (one_list (i := 8) rfl (by rfl) (fun K hK => ?_) AllReadyH.nil)
  go_simp
  refine HT.out.mono ?_
  rintro e w1 ⟨v1, rfl, hp1, hc1⟩
  obtain ⟨o1, p1, l1, hv1, -⟩ := id hp1.is
  subst hv1
  have HP := Lib.hid hp1
  have HC := Lib.hid (HD.out.trans' hc1)
  clear hp1 hc1
  refine hK _ _ (⟨HC.out.cell c2 id, HC.out.cell c3 id⟩) (fun hA => ?_)
  try simp only [Act.put, List.setIfInBounds_toArray, List.set_cons_zero, List.set_cons_succ]
  refine take_list (i := 9) (v := ?_) rfl (by kernel_rfl) (by kernel_rfl) (by kernel_rfl) (fun _ _ _ h => h) (Or.inl ⟨by rfl, fun w hSw => ?_⟩) hA ?_
  rotate_left
  · (skip; go_simp)
    try with_reducible rfl
  simp only [Act.put, List.setIfInBounds_toArray, List.set_cons_zero, List.set_cons_succ]
  refine take_list (i := 10) (v := ?_) rfl (by kernel_rfl) (by kernel_rfl) (by kernel_rfl) (fun _ _ _ h => h) (Or.inl ⟨by rfl, fun w hSw => ?_⟩) hA ?_
  rotate_left
  · (skip; go_simp)
    try with_reducible rfl
  simp only [Act.put, List.setIfInBounds_toArray, List.set_cons_zero, List.set_cons_succ]
  refine wpAnyH_done (by kernel_rfl) ?_ _
  refine NoPanic.normal ?_
  go_wp2_with fail
  go_ret2
  exact ⟨_, rfl, HP.out, HC.out⟩

theorem rows_nums {v : Value} {l : List Nat} (h : w.ownsRow B 3 1 v l.length (l.map (fun n : Nat => Value.int .i64 (n : Int)))) : ∃ oa cap, v = .slice oa l.length cap ∧ RowsAt w 1 oa (l.map (fun n : Nat => [Value.int .i64 (n : Int)])) := by
  obtain ⟨oa, cap, h1, h2, h3⟩ := SlAt.of_own h
  rw [List.length_map] at h1
  refine ⟨oa, cap, h1, fun hne => h2 (fun e => hne (by rw [List.map_eq_nil_iff] at e ⊢; exact e)), fun i r hr => ?_, fun b off ho i r j v hi hj => ?_⟩
  · rw [List.getElem?_map] at hr
    cases hl : l[i]? with
    | none => rw [hl] at hr; simp at hr
    | some n => rw [hl] at hr; simp only [Option.map_some, Option.some.injEq] at hr; rw [← hr]; rfl
  · rw [List.getElem?_map] at hi
    cases hl : l[i]? with
    | none => rw [hl] at hi; simp at hi
    | some n =>
      rw [hl] at hi
      simp only [Option.map_some, Option.some.injEq] at hi
      rw [← hi] at hj
      cases j with
      | zero =>
        simp only [List.getElem?_cons_zero, Option.some.injEq] at hj
        have := h3 b off ho i _ (by rw [List.getElem?_map, hl]; rfl)
        rw [Nat.mul_one, Nat.add_zero, ← hj]
        exact this
      | succ j => simp at hj

theorem flat_one : ∀ (l : List Nat), (l.map (fun n : Nat => [Value.int .i64 (n : Int)])).flatten = l.map (fun n : Nat => Value.int .i64 (n : Int))
  | [] => rfl
  | a :: l => by rw [List.map_cons, List.flatten_cons, flat_one l]; rfl

theorem done_of (w : World) (h : RtIs w B r kb F S sv wv dv) : Calls Tryz.prog 23 #[.pointer (some ⟨r, 0, none⟩)] w fun e w' => ∃ v, e = .returned v ∧ w'.ownsRow w.heap.size 3 1 v S.done.length (S.done.map (fun n : Nat => Value.int .i64 (n : Int))) ∧ Chg (fun _ => False) w w' := by
  have HN := Lib.hid (none_is w h)
  obtain ⟨oa, cap, rfl, hr⟩ := rows_nums h.done
  have c4 : w.cell? ⟨r, 4, none⟩ = some (.slice oa S.done.length cap) := cell_of_block h.head rfl
  have hcl := clone_ints w oa cap _ hr (by intro x hx; obtain ⟨y, hy, hxy⟩ := List.mem_flatten.1 hx; obtain ⟨n, -, rfl⟩ := List.mem_map.1 hy; rw [List.mem_singleton.1 hxy]; rfl) (by rw [List.length_map]; exact h.few.2.2)
  rw [List.length_map] at hcl
  have HT := Lib.hid hcl
  obtain ⟨L, hL⟩ : ∃ L, S.done = L := ⟨_, rfl⟩
  rw [hL] at c4 HT ⊢
  clear h hL hr hcl
  go_enter Tryz.func23, Tryz.ntmps23
  go_wp2_with (first
    | (go_at_call 47; refine HN.out.mono ?_; rintro e w' ⟨rfl, rfl⟩)
    | (go_at_call 55; refine HT.out.mono ?_; rintro e w1 ⟨v1, rfl, hp1, hc1⟩
       have hrow := hp1.row
       rw [List.length_map, flat_one] at hrow
       obtain ⟨o1, p1, hv1⟩ := own_slice hrow
       subst hv1
       have HP := Lib.hid hrow
       have HC := Lib.hid hc1
       clear hp1 hrow hc1))
  go_ret
  have h := HP.out
  exact ⟨_, rfl, h, HC.out⟩

end Go.Proofs.YtbjagmlbamjdbaaGreat.roots
end

/-
  rootdb: Stage, Commit, Abort that are told without the database.
-/
section
set_option linter.unusedSimpArgs false
set_option linter.unusedVariables false
namespace Go.Proofs.YtbjagmlbamjdbaaGreat.roots
open Go.RowKit Go.Maps Go.My Go.ChangeMaps disks bufs wals kvs
set_option maxRecDepth 100000

variable {w w' : World} {B r kb : Nat} {F : Nat → Prop} {S : RS} {sv wv dv : Value}

/-- What an abort is told ahead of the database. -/
def abortE (S : RS) (t : Int) : Option Nat := if askF t ≠ 0 then some (askF t) else if ∃ n ∈ S.done, (n : Int) = t then some 11 else if (S.staged : Int) ≠ t then some 0 else none
def commitE (S : RS) (t : Int) : Option Nat := if askF t ≠ 0 then some (askF t) else if ∃ n ∈ S.done, (n : Int) = t then some 0 else if (S.staged : Int) ≠ t then some 11 else none

theorem abort_early (w : World) (h : RtIs w B r kb F S sv wv dv) (t : Int) (z : Nat) (hz : abortE S t = some z) :
    Calls Tryz.prog 21 #[.pointer (some ⟨r, 0, none⟩), .int .i64 t] w fun e w' => e = .returned (.int .i64 (z : Int)) ∧ w = w' := by
  have hmf : ∀ (fn : Fn) (first cap : Array Value) (w : World), (Instr.makeFunc fn first cap).run Tryz.prog w = .ok (.func fn first cap) w := fun _ _ _ _ => rfl
  have HA := Lib.hid (asked_is w h t)
  obtain ⟨od, cd, rfl, -⟩ := rows_nums h.done
  have HH := Lib.hid (has_is w (SlAt.of_own h.done : NumsAt w _ S.done) (by have := h.few.2.2; omega) t)
  have c2 : w.cell? ⟨r, 2, none⟩ = some (.int .i64 (S.staged : Int)) := cell_of_block h.head rfl
  have c4 : w.cell? ⟨r, 4, none⟩ = some (.slice od S.done.length cd) := cell_of_block h.head rfl
  clear h
  unfold abortE at hz
  obtain ⟨A, hA⟩ : ∃ A, askF t = A := ⟨_, rfl⟩
  rw [hA] at hz HA
  clear hA
  by_cases a0 : A = 0
  · subst a0
    rw [if_neg (by simp)] at hz
    by_cases hd : ∃ n ∈ S.done, (n : Int) = t
    · rw [if_pos hd] at hz
      cases hz
      rw [decide_eq_true hd] at HH
      clear hd
      go_enter Tryz.func21, Tryz.ntmps21
      go_wp2_with (first
        | (go_at_call 49; refine HA.out.mono ?_; rintro e w' ⟨rfl, rfl⟩)
        | (go_at_call 50; refine HH.out.mono ?_; rintro e w' ⟨rfl, rfl⟩))
      go_ret
      exact ⟨rfl, rfl⟩
    · rw [if_neg hd] at hz
      rw [decide_eq_false hd] at HH
      clear hd
      by_cases hs : (S.staged : Int) = t
      · rw [if_neg (by simpa using hs)] at hz
        cases hz
      · rw [if_pos hs] at hz
        cases hz
        have hsb : ((S.staged : Int) == t) = false := by simpa using hs
        have hsn : ((S.staged : Int) != t) = true := by simpa using hs
        go_enter Tryz.func21, Tryz.ntmps21
        go_wp2_with (first
          | (go_at_call 49; refine HA.out.mono ?_; rintro e w' ⟨rfl, rfl⟩)
          | (go_at_call 50; refine HH.out.mono ?_; rintro e w' ⟨rfl, rfl⟩))
        go_ret
        exact ⟨rfl, rfl⟩
  · rw [if_pos a0] at hz
    have a1 : ((A : Int) != 0) = true := by simpa using a0
    have a2 : ¬ (A : Int) = 0 := by omega
    cases hz
    go_enter Tryz.func21, Tryz.ntmps21
    go_wp2_with (first
      | (go_at_call 49; refine HA.out.mono ?_; rintro e w' ⟨rfl, rfl⟩)
      | (go_at_call 50; refine HH.out.mono ?_; rintro e w' ⟨rfl, rfl⟩))
    go_ret
    exact ⟨rfl, rfl⟩

theorem commit_early (w : World) (h : RtIs w B r kb F S sv wv dv) (t : Int) (z : Nat) (hz : commitE S t = some z) :
    Calls Tryz.prog 20 #[.pointer (some ⟨r, 0, none⟩), .int .i64 t] w fun e w' => e = .returned (.int .i64 (z : Int)) ∧ w = w' := by
  have hmf : ∀ (fn : Fn) (first cap : Array Value) (w : World), (Instr.makeFunc fn first cap).run Tryz.prog w = .ok (.func fn first cap) w := fun _ _ _ _ => rfl
  have HA := Lib.hid (asked_is w h t)
  obtain ⟨od, cd, rfl, -⟩ := rows_nums h.done
  have HH := Lib.hid (has_is w (SlAt.of_own h.done : NumsAt w _ S.done) (by have := h.few.2.2; omega) t)
  have c2 : w.cell? ⟨r, 2, none⟩ = some (.int .i64 (S.staged : Int)) := cell_of_block h.head rfl
  have c4 : w.cell? ⟨r, 4, none⟩ = some (.slice od S.done.length cd) := cell_of_block h.head rfl
  clear h
  unfold commitE at hz
  obtain ⟨A, hA⟩ : ∃ A, askF t = A := ⟨_, rfl⟩
  rw [hA] at hz HA
  clear hA
  by_cases a0 : A = 0
  · subst a0
    rw [if_neg (by simp)] at hz
    by_cases hd : ∃ n ∈ S.done, (n : Int) = t
    · rw [if_pos hd] at hz
      cases hz
      rw [decide_eq_true hd] at HH
      clear hd
      go_enter Tryz.func20, Tryz.ntmps20
      go_wp2_with (first
        | (go_at_call 49; refine HA.out.mono ?_; rintro e w' ⟨rfl, rfl⟩)
        | (go_at_call 50; refine HH.out.mono ?_; rintro e w' ⟨rfl, rfl⟩))
      go_ret
      exact ⟨rfl, rfl⟩
    · rw [if_neg hd] at hz
      rw [decide_eq_false hd] at HH
      clear hd
      by_cases hs : (S.staged : Int) = t
      · rw [if_neg (by simpa using hs)] at hz
        cases hz
      · rw [if_pos hs] at hz
        cases hz
        have hsb : ((S.staged : Int) == t) = false := by simpa using hs
        have hsn : ((S.staged : Int) != t) = true := by simpa using hs
        go_enter Tryz.func20, Tryz.ntmps20
        go_wp2_with (first
          | (go_at_call 49; refine HA.out.mono ?_; rintro e w' ⟨rfl, rfl⟩)
          | (go_at_call 50; refine HH.out.mono ?_; rintro e w' ⟨rfl, rfl⟩))
        go_ret
        exact ⟨rfl, rfl⟩
  · rw [if_pos a0] at hz
    have a1 : ((A : Int) != 0) = true := by simpa using a0
    have a2 : ¬ (A : Int) = 0 := by omega
    cases hz
    go_enter Tryz.func20, Tryz.ntmps20
    go_wp2_with (first
      | (go_at_call 49; refine HA.out.mono ?_; rintro e w' ⟨rfl, rfl⟩)
      | (go_at_call 50; refine HH.out.mono ?_; rintro e w' ⟨rfl, rfl⟩))
    go_ret
    exact ⟨rfl, rfl⟩

end Go.Proofs.YtbjagmlbamjdbaaGreat.roots
end

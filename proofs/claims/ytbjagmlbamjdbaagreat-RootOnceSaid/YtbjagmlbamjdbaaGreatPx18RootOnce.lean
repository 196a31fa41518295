/- . -/
import Derived.Test.YtbjagmlbamjdbaaGreatPx1RootOnce
import Derived.Test.YtbjagmlbamjdbaaGreatPx17RootOnce
import Derived.WalkLawsBesides
import Derived.Maps.AppendAt
import Derived.Laws.OwnMore
import Derived.Deep.WholeRow
import Derived.Deep.RegionHeld3

set_option linter.unusedSimpArgs false
set_option linter.unusedVariables false
section
namespace Go.Proofs.YtbjagmlbamjdbaaGreat.roots
open Go.RowKit Go.Maps Go.My Go.ChangeMaps disks bufs wals kvs
set_option maxRecDepth 100000

variable {w w' : World}

theorem str_same {a b : Txt} {s t : ByteArray} (hs : strV a = .string s) (ht : strV b = .string t) : (s.toList == t.toList) = decide (a = b) := by
  rw [strV_string a s hs, strV_string b t ht, Lib.toList_data, Lib.toList_data]
  by_cases h : a = b
  · subst h; simp
  · simp [h]

theorem pk_cells {l : List Pk} {lv : List Value} {b off k : Nat} {p : Pk} {u : Value} (h : RowsAt w 4 (some ⟨b, off, none⟩) (List.zipWith pkC l lv)) (hp : l[k]? = some p) (hu : lv[k]? = some u) :
    w.cell? ⟨b, off + k * 4, none⟩ = some (.int .i64 p.owner) ∧ w.cell? ⟨b, off + k * 4 + 1, none⟩ = some (strV p.man.name) ∧ w.cell? ⟨b, off + k * 4 + 2, none⟩ = some (strV p.man.ver) ∧ w.cell? ⟨b, off + k * 4 + 3, none⟩ = some u := by
  have hk : (List.zipWith pkC l lv)[k]? = some (pkC p u) := by rw [List.getElem?_zipWith, hp, hu]
  exact ⟨h.cell b off rfl k _ 0 _ hk rfl, h.cell b off rfl k _ 1 _ hk rfl, h.cell b off rfl k _ 2 _ hk rfl, h.cell b off rfl k _ 3 _ hk rfl⟩

theorem same_name (w : World) (ow : Int) (nm vr : Txt) (ly : Value) (g : Nat) (nm' : Txt) (hg : w.cell? ⟨g, 1, none⟩ = some (strV nm')) (hly : ∃ oa n c, ly = .slice oa n c) :
    Calls Tryz.prog 43 #[.agg #[.int .i64 ow, strV nm, strV vr, ly], .pointer (some ⟨g, 0, none⟩)] w fun e w' => e = .returned (.bool (decide (nm = nm'))) ∧ Chg (fun _ => False) w w' := by
  obtain ⟨oa, n, c, rfl⟩ := hly
  obtain ⟨s, hs⟩ : ∃ s, strV nm = .string s := ⟨_, rfl⟩
  obtain ⟨t, ht⟩ : ∃ s, strV nm' = .string s := ⟨_, rfl⟩
  obtain ⟨v, hv⟩ : ∃ s, strV vr = .string s := ⟨_, rfl⟩
  have heq := str_same hs ht
  rw [hs, hv]
  rw [ht] at hg
  have HE := Lib.hid heq
  clear hs ht hv heq
  have g1 : (w.alloc (.cells #[.int .i64 ow, .string s, .string v, .slice oa n c] 90)).cell? ⟨g, 1, none⟩ = some (.string t) := ((Chg.refl (fun _ => False) w).alloc _).cell hg id
  go_enter Tryz.func43, Tryz.ntmps43
  go_wp2_with fail
  go_ret
  exact ⟨congrArg (fun b => Ending.returned (.bool b)) HE.out, (Chg.refl _ _).alloc _⟩

theorem pindex_is (w : World) {F : Nat → Prop} (oa : Option Addr) (cap : Nat) (l : List Pk) (lv : List Value) (hlv : lv.length = l.length) (n : Nat) (hn : n ≤ l.length) (h : RowsAt w 4 oa (List.zipWith pkC l lv)) (hr : ∀ (i : Nat) (p : Pk) (u : Value), l[i]? = some p → lv[i]? = some u → LysAt w F u p.man.layers) (hl : l.length ≤ maxLen) (g : Nat) (nm' : Txt) (hg : w.cell? ⟨g, 1, none⟩ = some (strV nm')) :
    Calls Tryz.prog 87 #[.slice oa n cap, .func (.func 43) #[] #[.pointer (some ⟨g, 0, none⟩)]] w fun e w' => ∃ k : Int, e = .returned (.int .i64 k) ∧ (nm' ∈ (l.take n).map (fun p => p.man.name) → 0 ≤ k) ∧ (nm' ∉ (l.take n).map (fun p => p.man.name) → k = -1) ∧ Chg (fun _ => False) w w' := by
  have H := Lib.hid h
  have HR := Lib.hid hr
  have HG := Lib.hid hg
  unfold maxLen at hl
  clear h hr hg
  go_enter Tryz.func87, Tryz.ntmps87
  go_wp2_with fail
  go_loopw [8] (fun j wr => ∃ k : Nat, j = .int .i64 k ∧ k ≤ n ∧ nm' ∉ (l.take k).map (fun p => p.man.name) ∧ Chg (fun _ => False) w wr) (fun j _ => n - (intOf j).toNat)
  · exact ⟨0, rfl, Nat.zero_le _, by simp, Chg.refl _ _⟩
  obtain ⟨k, rfl, hk, hno, hc⟩ := hrel
  have HC := Lib.hid hc
  have HNo := Lib.hid hno
  clear hc hno
  by_cases hlt : k < n
  · have hki : (k : Int) < (n : Int) := by omega
    obtain ⟨p, hp⟩ : ∃ p, l[k]? = some p := ⟨l[k]'(by omega), List.getElem?_eq_getElem _⟩
    obtain ⟨u, hu⟩ : ∃ u, lv[k]? = some u := ⟨lv[k]'(by omega), List.getElem?_eq_getElem _⟩
    obtain ⟨b, off, rfl⟩ := H.out.spot (by intro e; have e2 := congrArg List.length e; rw [List.length_zipWith, List.length_nil] at e2; omega)
    obtain ⟨d0, d1, d2, d3⟩ := pk_cells (H.out.kept HC.out (fun _ _ h => h)) hp hu
    obtain ⟨ou, cu, rfl, -⟩ := (HR.out k p u hp hu).is
    have htk : (l.take (k + 1)).map (fun p => p.man.name) = (l.take k).map (fun p => p.man.name) ++ [p.man.name] := by rw [List.take_add_one, hp, Option.toList_some, List.map_append]; rfl
    have HTk := Lib.hid htk
    obtain ⟨s1, hs1⟩ : ∃ s, strV p.man.name = .string s := ⟨_, rfl⟩
    obtain ⟨s2, hs2⟩ : ∃ s, strV p.man.ver = .string s := ⟨_, rfl⟩
    have hsm := fun w => same_name w p.owner p.man.name p.man.ver (.slice ou p.man.layers.length cu) g nm'
    rw [hs1, hs2] at hsm
    rw [hs1] at d1
    rw [hs2] at d2
    have HSm := Lib.hid hsm
    clear hp hu htk hs1 hs2 hsm
    by_cases he : p.man.name = nm'
    · rw [decide_eq_true he] at HSm
      have HMem := Lib.hid (show nm' ∈ (l.take n).map (fun p => p.man.name) from by
        have h1 : nm' ∈ (l.take (k + 1)).map (fun p => p.man.name) := by rw [HTk.out, he]; simp
        rw [← List.take_append_drop (k + 1) (l.take n), List.take_take, Nat.min_eq_left (by omega), List.map_append]
        exact List.mem_append_left _ h1)
      clear he
      go_wp2_with (go_at_call 43; refine (HSm.out _ (HC.out.cell HG.out id) ⟨_, _, _, rfl⟩).mono ?_; rintro e w1 ⟨rfl, hc1⟩; have HC1 := Lib.hid hc1; clear hc1)
      go_ret
      exact ⟨k, rfl, fun _ => by omega, fun h => absurd HMem.out h, HC.out.trans' HC1.out⟩
    · rw [decide_eq_false he] at HSm
      have HNe := Lib.hid he
      clear he
      go_wp2_with (go_at_call 43; refine (HSm.out _ (HC.out.cell HG.out id) ⟨_, _, _, rfl⟩).mono ?_; rintro e w1 ⟨rfl, hc1⟩; have HC1 := Lib.hid hc1; clear hc1)
      exact ⟨⟨k + 1, by go_num, hlt, by rw [HTk.out, List.mem_append, List.mem_singleton]; exact fun h => h.elim HNo.out (fun e => HNe.out e.symm), HC.out.trans' HC1.out⟩, meas_step hlt⟩
  · have hki : ¬ (k : Int) < (n : Int) := by omega
    obtain rfl : k = n := by omega
    go_wp2_with fail
    go_ret
    exact ⟨-1, rfl, fun h => by (first | exact absurd h HNo.out | (rw [← List.map_take] at h; exact absurd h HNo.out)), fun _ => rfl, HC.out⟩

theorem pcontains_is (w : World) {F : Nat → Prop} (oa : Option Addr) (cap : Nat) (l : List Pk) (lv : List Value) (hlv : lv.length = l.length) (n : Nat) (hn : n ≤ l.length) (h : RowsAt w 4 oa (List.zipWith pkC l lv)) (hr : ∀ (i : Nat) (p : Pk) (u : Value), l[i]? = some p → lv[i]? = some u → LysAt w F u p.man.layers) (hl : l.length ≤ maxLen) (g : Nat) (nm' : Txt) (hg : w.cell? ⟨g, 1, none⟩ = some (strV nm')) :
    Calls Tryz.prog 42 #[.slice oa n cap, .func (.func 43) #[] #[.pointer (some ⟨g, 0, none⟩)]] w fun e w' => e = .returned (.bool (decide (nm' ∈ (l.take n).map (fun p => p.man.name)))) ∧ Chg (fun _ => False) w w' := by
  have HI := Lib.hid (pindex_is w oa cap l lv hlv n hn h hr hl g nm' hg)
  clear hn h hr hl hg
  obtain ⟨P, hP⟩ : ∃ P, (nm' ∈ (l.take n).map (fun p => p.man.name)) = P := ⟨_, rfl⟩
  by_cases hm : nm' ∈ (l.take n).map (fun p => p.man.name)
  · have HM := Lib.hid hm
    rw [decide_eq_true hm]
    clear hm
    go_enter Tryz.func42, Tryz.ntmps42
    go_wp2_with (go_at_call 87; refine HI.out.mono ?_; rintro e w1 ⟨k, rfl, hk, -, hc1⟩; have hk := hk HM.out; have HC1 := Lib.hid hc1; clear hc1)
    go_ret
    exact ⟨rfl, HC1.out⟩
  · have HM := Lib.hid hm
    rw [decide_eq_false hm]
    clear hm
    go_enter Tryz.func42, Tryz.ntmps42
    go_wp2_with (go_at_call 87; refine HI.out.mono ?_; rintro e w1 ⟨k, rfl, -, hk, hc1⟩; obtain rfl := hk HM.out; have HC1 := Lib.hid hc1; clear hc1)
    go_ret
    exact ⟨rfl, HC1.out⟩

set_option maxHeartbeats 1000000 in
theorem check_is (w : World) {F : Nat → Prop} {v : Value} {l : List Pk} (h : PksAt w F v l) :
    Calls Tryz.prog 10 #[v] w fun e w' => e = .returned (.int .i64 (rchkF l : Int)) ∧ Chg (fun _ => False) w w' := by
  have hmf : ∀ (fn : Fn) (first cap : Array Value) (w : World), (Instr.makeFunc fn first cap).run Tryz.prog w = .ok (.func fn first cap) w := fun _ _ _ _ => rfl
  obtain ⟨oa, cap, lv, rfl, hlv, hr, -, hly, hcap, hcm⟩ := h.is
  have HTx := Lib.hid h.txt
  have H := Lib.hid hr
  have HLy := Lib.hid hly
  have HCm := Lib.hid (Nat.le_trans hcap hcm)
  unfold maxLen at hcm
  obtain ⟨R, hR⟩ : ∃ R, rchkF l = R := ⟨_, rfl⟩
  rw [hR]
  have HR := Lib.hid hR
  clear h hr hly hR
  go_enter Tryz.func10, Tryz.ntmps10
  go_wp2_with fail
  go_loopw [3, 9] (fun u j wr => ∃ (k n : Nat) (seen : List Txt), u = .int .i64 n ∧ j = .int .i64 k ∧ k ≤ l.length ∧ n ≤ 16 ∧ R = rchkL seen n (l.drop k) ∧ (∀ x, x ∈ seen ↔ x ∈ (l.take k).map (fun p => p.man.name)) ∧ Chg (fun _ => False) w wr) (fun _ j _ => l.length - (intOf j).toNat)
  · exact ⟨0, 0, [], rfl, rfl, Nat.zero_le _, by omega, HR.out.symm, by simp, Chg.refl _ _⟩
  obtain ⟨k, n, seen, rfl, rfl, hk, hn16, hRk, hsn, hc⟩ := hrel
  have HC := Lib.hid hc
  have HSn := Lib.hid hsn
  have HRk := Lib.hid hRk
  clear hc hsn hRk HR
  have hn16i : (n : Int) ≤ 16 := by omega
  have hn0i : (0 : Int) ≤ (n : Int) := by omega
  by_cases hlt : k < l.length
  · have hki : (k : Int) < (l.length : Int) := by omega
    have hkc : (k : Int) ≤ (cap : Int) := by omega
    obtain ⟨p, hp⟩ : ∃ p, l[k]? = some p := ⟨l[k]'(by omega), List.getElem?_eq_getElem _⟩
    obtain ⟨u, hu⟩ : ∃ u, lv[k]? = some u := ⟨lv[k]'(by omega), List.getElem?_eq_getElem _⟩
    obtain ⟨b, off, rfl⟩ := H.out.spot (by intro e; have e2 := congrArg List.length e; rw [List.length_zipWith, List.length_nil] at e2; omega)
    obtain ⟨d0, d1, d2, d3⟩ := pk_cells (H.out.kept HC.out (fun _ _ h => h)) hp hu
    have hlyk := HLy.out k p u hp hu
    obtain ⟨t1, t2⟩ := HTx.out p (List.mem_of_getElem? hp)
    have hdr : l.drop k = p :: l.drop (k + 1) := by rw [List.drop_eq_getElem_cons hlt]; congr 1; exact (List.getElem?_eq_some_iff.1 hp).2
    have hRk := HRk.out
    rw [hdr, rchkL] at hRk
    have htk : (l.take (k + 1)).map (fun p => p.man.name) = (l.take k).map (fun p => p.man.name) ++ [p.man.name] := by rw [List.take_add_one, hp, Option.toList_some, List.map_append]; rfl
    have HTk := Lib.hid htk
    obtain ⟨ou, cu, rfl, -⟩ := hlyk.is
    obtain ⟨ow, nm, vr, L⟩ := p
    simp only at hRk d0 d1 d2 d3 hlyk t1 t2 HTk
    obtain ⟨s1, hs1⟩ : ∃ s, strV nm = .string s := ⟨_, rfl⟩
    obtain ⟨s2, hs2⟩ : ∃ s, strV vr = .string s := ⟨_, rfl⟩
    rw [hs1] at d1
    rw [hs2] at d2
    have hcx : Chg (fun _ => False) w (wr.alloc (.cells #[.int .i64 ow, .string s1, .string s2, .slice ou L.length cu] 90)) := HC.out.alloc _
    have hmk := mcheck_is (wr.alloc (.cells #[.int .i64 ow, .string s1, .string s2, .slice ou L.length cu] 90)) ⟨nm, vr, L⟩ (hlyk.fresh hcx) t1 t2
    rw [hs1, hs2] at hmk
    have hba := block_alloc_new wr (.cells #[.int .i64 ow, .string s1, .string s2, .slice ou L.length cu] 90)
    have HBa := Lib.hid hba
    have HCa := Lib.hid hcx
    have HRk2 := Lib.hid hRk
    have HS1 := Lib.hid hs1
    obtain ⟨M, hM⟩ : ∃ M, mchkF ⟨nm, vr, L⟩ = M := ⟨_, rfl⟩
    rw [hM] at hmk HRk2
    have HMk := Lib.hid hmk
    have HMo := Lib.hid hM
    clear hp hu hlyk t1 t2 hdr hRk HRk htk hs1 hs2 hcx hmk hba hM
    by_cases o1 : ow < 1
    · have hR := HRk2.out
      rw [if_pos (Or.inl o1)] at hR
      subst hR
      go_wp2_with fail
      go_ret
      exact ⟨rfl, HCa.out⟩
    by_cases o2 : 8 < ow
    · have hR := HRk2.out
      rw [if_pos (Or.inr o2)] at hR
      subst hR
      go_wp2_with fail
      go_ret
      exact ⟨rfl, HCa.out⟩
    have hR := HRk2.out
    rw [if_neg (by omega)] at hR
    by_cases m0 : M = 0
    · subst m0
      rw [if_neg (by simp)] at hR
      have HL8 := Lib.hid (mchkF_ok HMo.out).few
      have hmem := HSn.out nm
      by_cases hin : nm ∈ seen
      · rw [if_pos hin] at hR
        subst hR
        have HIn := Lib.hid (decide_eq_true (hmem.1 hin))
        clear hin hmem HRk2
        go_wp2_with (first
          | (go_at_call 41; refine HMk.out.mono ?_; rintro e w1 ⟨rfl, hc1⟩
             have hb1 := hc1.at HBa.out id
             have HB1 := Lib.hid hb1
             have HC1 := Lib.hid (HCa.out.trans' hc1)
             have e1 : w1.cell? ⟨wr.heap.size, 1, none⟩ = some (.string s1) := cell_of_block hb1 rfl
             have HE1 := Lib.hid e1
             clear hb1 hc1 e1)
          | (go_at_call 42; refine (pcontains_is _ _ _ l lv hlv k (Nat.le_of_lt hlt) (H.out.kept HC1.out (fun _ _ h => h)) (fun i p u hi hu => (HLy.out i p u hi hu).fresh HC1.out) HCm.out wr.heap.size nm (by rw [HS1.out]; exact HE1.out)).mono ?_; rw [HIn.out]; rintro e w2 ⟨rfl, hc2⟩
             have HC2 := Lib.hid (HC1.out.trans' hc2)
             clear hc2))
        go_ret
        exact ⟨rfl, HC2.out⟩
      · rw [if_neg hin] at hR
        have HIn := Lib.hid (decide_eq_false (fun h => hin (hmem.2 h)))
        have HRk3 := Lib.hid hR
        have HSn2 := Lib.hid (show ∀ x, x ∈ nm :: seen ↔ x ∈ (l.take (k + 1)).map (fun p => p.man.name) from fun x => by
          rw [HTk.out, List.mem_append, List.mem_singleton, List.mem_cons, HSn.out x]
          exact ⟨fun h => h.elim Or.inr Or.inl, fun h => h.elim Or.inr Or.inl⟩)
        have hL8i : (L.length : Int) ≤ 8 := by have := HL8.out; simp only at this; omega
        have hL0i : (0 : Int) ≤ (L.length : Int) := by omega
        clear hin hmem HRk2 hR
        by_cases h16 : 16 < n + L.length
        · have hR := HRk3.out
          rw [if_pos h16] at hR
          subst hR
          have h16i : (16 : Int) < (n : Int) + (L.length : Int) := by omega
          go_wp2_with (first
            | (go_at_call 41; refine HMk.out.mono ?_; rintro e w1 ⟨rfl, hc1⟩
               have hb1 := hc1.at HBa.out id
               have HB1 := Lib.hid hb1
               have HC1 := Lib.hid (HCa.out.trans' hc1)
               have e1 : w1.cell? ⟨wr.heap.size, 1, none⟩ = some (.string s1) := cell_of_block hb1 rfl
               have HE1 := Lib.hid e1
               clear hb1 hc1 e1)
            | (go_at_call 42; refine (pcontains_is _ _ _ l lv hlv k (Nat.le_of_lt hlt) (H.out.kept HC1.out (fun _ _ h => h)) (fun i p u hi hu => (HLy.out i p u hi hu).fresh HC1.out) HCm.out wr.heap.size nm (by rw [HS1.out]; exact HE1.out)).mono ?_; rw [HIn.out]; rintro e w2 ⟨rfl, hc2⟩
               have e3 : w2.cell? ⟨wr.heap.size, 3, none⟩ = some (.slice ou L.length cu) := cell_of_block (hc2.at HB1.out id) rfl
               have HC2 := Lib.hid (HC1.out.trans' hc2)
               clear hc2))
          go_ret
          exact ⟨rfl, HC2.out⟩
        · have hR := HRk3.out
          rw [if_neg h16] at hR
          have HRk4 := Lib.hid hR
          have h16i : (n : Int) + (L.length : Int) ≤ 16 := by omega
          clear hR
          go_wp2_with (first
            | (go_at_call 41; refine HMk.out.mono ?_; rintro e w1 ⟨rfl, hc1⟩
               have hb1 := hc1.at HBa.out id
               have HB1 := Lib.hid hb1
               have HC1 := Lib.hid (HCa.out.trans' hc1)
               have e1 : w1.cell? ⟨wr.heap.size, 1, none⟩ = some (.string s1) := cell_of_block hb1 rfl
               have HE1 := Lib.hid e1
               clear hb1 hc1 e1)
            | (go_at_call 42; refine (pcontains_is _ _ _ l lv hlv k (Nat.le_of_lt hlt) (H.out.kept HC1.out (fun _ _ h => h)) (fun i p u hi hu => (HLy.out i p u hi hu).fresh HC1.out) HCm.out wr.heap.size nm (by rw [HS1.out]; exact HE1.out)).mono ?_; rw [HIn.out]; rintro e w2 ⟨rfl, hc2⟩
               have e3 : w2.cell? ⟨wr.heap.size, 3, none⟩ = some (.slice ou L.length cu) := cell_of_block (hc2.at HB1.out id) rfl
               have HC2 := Lib.hid (HC1.out.trans' hc2)
               clear hc2))
          exact ⟨⟨k + 1, n + L.length, nm :: seen, by go_num, by go_num, hlt, by omega, HRk4.out, HSn2.out, HC2.out⟩, meas_step hlt⟩
    · rw [if_pos m0] at hR
      subst hR
      have m0i : ¬ (R : Int) = 0 := by omega
      have m0b : ((R : Int) != 0) = true := by simpa using m0
      clear HRk2
      go_wp2_with (first
        | (go_at_call 41; refine HMk.out.mono ?_; rintro e w1 ⟨rfl, hc1⟩
           have HC1 := Lib.hid (HCa.out.trans' hc1)
           clear hc1))
      go_ret
      exact ⟨rfl, HC1.out⟩
  · have hki : ¬ (k : Int) < (l.length : Int) := by omega
    have hR := HRk.out
    rw [List.drop_eq_nil_of_le (by omega), rchkL] at hR
    subst hR
    go_wp2_with fail
    go_ret
    exact ⟨rfl, HC.out⟩

end Go.Proofs.YtbjagmlbamjdbaaGreat.roots
end

section
namespace Go.Proofs.YtbjagmlbamjdbaaGreat.roots
open Go.RowKit Go.Maps Go.My Go.ChangeMaps disks bufs wals kvs
set_option maxRecDepth 100000

variable {w w' : World}

theorem own_no (w : World) (e : TypeId) (n : Nat) : (w.alloc (.cells #[] e)).ownsRow w.heap.size e n (.slice (some ⟨w.heap.size, 0, none⟩) 0 0) 0 [] := by
  have := World.ownsRow_lit (base := w.heap.size) (e := e) (size := n) w #[] 0 (by simp) (by unfold maxLen; omega) (by simp)
  simpa using this

theorem info_pack : (Tryz.prog.info? 90).map (fun i => (i.zero, i.size, i.bytes)) = some (some (.agg #[.int .i64 0, .string ByteArray.empty, .string ByteArray.empty, .slice none 0 0]), 4, 64) := by kernel_rfl
theorem info_ref : (Tryz.prog.info? 98).map (fun i => (i.zero, i.size, i.bytes)) = some (some (.agg (List.replicate 32 (Value.int .u8 0) ++ [Value.int .i64 0]).toArray), 33, 40) := by kernel_rfl
theorem info_num : (Tryz.prog.info? 3).map (fun i => (i.zero, i.size, i.bytes)) = some (some (.int .i64 0), 1, 8) := by kernel_rfl

theorem rows_flat {n : Nat} {oa : Option Addr} {l : List (List Value)} (h : RowsAt w n oa l) (hn : 0 < n) {a : Addr} (ha : oa = some a) : ∀ j u, l.flatten[j]? = some u → w.cell? (a.add j) = some u := by
  intro j u hu
  have hr : ∀ r ∈ l, r.length = n := fun r hr => by obtain ⟨i, hi⟩ := List.getElem?_of_mem hr; exact h.row i r hi
  have hlen := flat_length n l hr
  have hj : j < l.length * n := by rw [← hlen]; exact (List.getElem?_eq_some_iff.1 hu).1
  have hne : l ≠ [] := by intro e; subst e; simp at hj
  obtain ⟨b, off, e⟩ := h.spot hne
  rw [e] at ha
  cases ha
  have hd : j = (j / n) * n + j % n := by have := Nat.div_add_mod j n; rw [Nat.mul_comm] at this; omega
  have hjn := Nat.mod_lt j hn
  rw [hd, flat_get n l hr (j / n) (j % n) hjn] at hu
  cases hk : l[j / n]? with
  | none => rw [hk] at hu; simp at hu
  | some r =>
    rw [hk, Option.bind_some] at hu
    have := h.cell b off e (j / n) r (j % n) u hk hu
    rw [show off + j / n * n + j % n = off + j from by omega] at this
    rw [show (⟨b, off, none⟩ : Addr).add j = ⟨b, off + j, none⟩ from by unfold Addr.add; by_cases e1 : j = 0 <;> simp [e1]]
    exact this

set_option maxHeartbeats 1000000 in
theorem clone_packs (w : World) (oa : Option Addr) (cap : Nat) (l : List (List Value)) (h : RowsAt w 4 oa l) (h1 : ∀ x ∈ l.flatten, x.oneCell' = true) (hl : l.length ≤ 20) :
    Calls Tryz.prog 89 #[.slice oa l.length cap] w fun e w' => ∃ v, e = .returned v ∧ OwnRecs w' w.heap.size 90 4 v l ∧ Chg (fun _ => False) w w' := by
  obtain ⟨i0, hI0⟩ := info_parts info_pack
  have HI0 := Lib.hid hI0
  have hnil := fun w' => run_eql_slice_nil (P := Tryz.prog) w' 22 _ oa l.length cap Tryz.underlying22
  have heach : ∀ r ∈ l, r.length = 4 := fun r hr => by obtain ⟨i, hi⟩ := List.getElem?_of_mem hr; exact h.row i r hi
  have H := Lib.hid h
  have HE := Lib.hid heach
  have H1 := Lib.hid h1
  clear h hI0 heach h1
  cases oa with
  | none =>
    have hl0 : l = [] := by
      cases l with
      | nil => rfl
      | cons a l => obtain ⟨b, off, e⟩ := H.out.spot (by simp); cases e
    subst hl0
    clear hnil
    have hnil := fun w' => run_eql_slice_nil (P := Tryz.prog) w' 22 _ none 0 cap Tryz.underlying22
    show Calls Tryz.prog 89 #[.slice none 0 cap] w _
    go_enter Tryz.func89, Tryz.ntmps89
    go_wp2_with fail
    go_ret
    exact ⟨_, rfl, OwnRecs.nil _ _ _ _, Chg.refl _ _⟩
  | some a =>
    have hcells : ∀ j u, l.flatten[j]? = some u → (w.alloc (.cells #[] 90)).cell? (a.add j) = some u := fun j u hu => ((Chg.refl (fun _ => False) w).alloc _).cell (rows_flat H.out (by omega) rfl j u hu) id
    have HCells := Lib.hid hcells
    have HFl := Lib.hid (flat_length 4 l HE.out)
    clear hcells
    go_enter Tryz.func89, Tryz.ntmps89
    go_wp2_with (first
      | (at_builtin; (refine wpList_append_own_at _ rfl _ _ 22 rfl w.heap.size 90 i0 (.agg #[.int .i64 0, .string ByteArray.empty, .string ByteArray.empty, .slice none 0 0]) 4 64 Tryz.underlying22 HI0.out.1 HI0.out.2.1 HI0.out.2.2.1 HI0.out.2.2.2 rfl (by decide) _ _ _ rfl (own_no w _ _) a l.length cap l.flatten rfl HFl.out HCells.out H1.out (by unfold maxLen; omega) (by omega) (by simp only [World.size_alloc]; omega) ?_)))
    intro v' w2 ho hg _ _
    have HO := Lib.hid ho
    have HG := Lib.hid hg
    clear ho hg
    go_wp2_with fail
    go_ret
    refine ⟨_, rfl, ⟨by simpa using HO.out, HE.out⟩, ?_⟩
    exact ((Chg.refl _ _).alloc _).trans (Chg.of_grown HG.out) (fun i hi hk => by simp [Value.ownBlock] at hk; omega)

set_option maxHeartbeats 1000000 in
theorem clone_refs (w : World) (oa : Option Addr) (cap : Nat) (l : List (List Value)) (h : RowsAt w 33 oa l) (h1 : ∀ x ∈ l.flatten, x.oneCell' = true) (hl : l.length ≤ 20) :
    Calls Tryz.prog 90 #[.slice oa l.length cap] w fun e w' => ∃ v, e = .returned v ∧ OwnRecs w' w.heap.size 98 33 v l ∧ Chg (fun _ => False) w w' := by
  obtain ⟨i0, hI0⟩ := info_parts info_ref
  have HI0 := Lib.hid hI0
  have hnil := fun w' => run_eql_slice_nil (P := Tryz.prog) w' 86 _ oa l.length cap Tryz.underlying86
  have heach : ∀ r ∈ l, r.length = 33 := fun r hr => by obtain ⟨i, hi⟩ := List.getElem?_of_mem hr; exact h.row i r hi
  have H := Lib.hid h
  have HE := Lib.hid heach
  have H1 := Lib.hid h1
  clear h hI0 heach h1
  cases oa with
  | none =>
    have hl0 : l = [] := by
      cases l with
      | nil => rfl
      | cons a l => obtain ⟨b, off, e⟩ := H.out.spot (by simp); cases e
    subst hl0
    clear hnil
    have hnil := fun w' => run_eql_slice_nil (P := Tryz.prog) w' 86 _ none 0 cap Tryz.underlying86
    show Calls Tryz.prog 90 #[.slice none 0 cap] w _
    go_enter Tryz.func90, Tryz.ntmps90
    go_wp2_with fail
    go_ret
    exact ⟨_, rfl, OwnRecs.nil _ _ _ _, Chg.refl _ _⟩
  | some a =>
    have hcells : ∀ j u, l.flatten[j]? = some u → (w.alloc (.cells #[] 98)).cell? (a.add j) = some u := fun j u hu => ((Chg.refl (fun _ => False) w).alloc _).cell (rows_flat H.out (by omega) rfl j u hu) id
    have HCells := Lib.hid hcells
    have HFl := Lib.hid (flat_length 33 l HE.out)
    clear hcells
    go_enter Tryz.func90, Tryz.ntmps90
    go_wp2_with (first
      | (at_builtin; (refine wpList_append_own_at _ rfl _ _ 86 rfl w.heap.size 98 i0 (.agg (List.replicate 32 (Value.int .u8 0) ++ [Value.int .i64 0]).toArray) 33 40 Tryz.underlying86 HI0.out.1 HI0.out.2.1 HI0.out.2.2.1 HI0.out.2.2.2 rfl (by decide) _ _ _ rfl (own_no w _ _) a l.length cap l.flatten rfl HFl.out HCells.out H1.out (by unfold maxLen; omega) (by omega) (by simp only [World.size_alloc]; omega) ?_)))
    intro v' w2 ho hg _ _
    have HO := Lib.hid ho
    have HG := Lib.hid hg
    clear ho hg
    go_wp2_with fail
    go_ret
    refine ⟨_, rfl, ⟨by simpa using HO.out, HE.out⟩, ?_⟩
    exact ((Chg.refl _ _).alloc _).trans (Chg.of_grown HG.out) (fun i hi hk => by simp [Value.ownBlock] at hk; omega)

set_option maxHeartbeats 1000000 in
theorem clone_ints (w : World) (oa : Option Addr) (cap : Nat) (l : List (List Value)) (h : RowsAt w 1 oa l) (h1 : ∀ x ∈ l.flatten, x.oneCell' = true) (hl : l.length ≤ 1000) :
    Calls Tryz.prog 55 #[.slice oa l.length cap] w fun e w' => ∃ v, e = .returned v ∧ OwnRecs w' w.heap.size 3 1 v l ∧ Chg (fun _ => False) w w' := by
  obtain ⟨i0, hI0⟩ := info_parts info_num
  have HI0 := Lib.hid hI0
  have hnil := fun w' => run_eql_slice_nil (P := Tryz.prog) w' 35 _ oa l.length cap Tryz.underlying35
  have heach : ∀ r ∈ l, r.length = 1 := fun r hr => by obtain ⟨i, hi⟩ := List.getElem?_of_mem hr; exact h.row i r hi
  have H := Lib.hid h
  have HE := Lib.hid heach
  have H1 := Lib.hid h1
  clear h hI0 heach h1
  cases oa with
  | none =>
    have hl0 : l = [] := by
      cases l with
      | nil => rfl
      | cons a l => obtain ⟨b, off, e⟩ := H.out.spot (by simp); cases e
    subst hl0
    clear hnil
    have hnil := fun w' => run_eql_slice_nil (P := Tryz.prog) w' 35 _ none 0 cap Tryz.underlying35
    show Calls Tryz.prog 55 #[.slice none 0 cap] w _
    go_enter Tryz.func55, Tryz.ntmps55
    go_wp2_with fail
    go_ret
    exact ⟨_, rfl, OwnRecs.nil _ _ _ _, Chg.refl _ _⟩
  | some a =>
    have hcells : ∀ j u, l.flatten[j]? = some u → (w.alloc (.cells #[] 3)).cell? (a.add j) = some u := fun j u hu => ((Chg.refl (fun _ => False) w).alloc _).cell (rows_flat H.out (by omega) rfl j u hu) id
    have HCells := Lib.hid hcells
    have HFl := Lib.hid (flat_length 1 l HE.out)
    clear hcells
    go_enter Tryz.func55, Tryz.ntmps55
    go_wp2_with (first
      | (at_builtin; (refine wpList_append_own_at _ rfl _ _ 35 rfl w.heap.size 3 i0 (.int .i64 0) 1 8 Tryz.underlying35 HI0.out.1 HI0.out.2.1 HI0.out.2.2.1 HI0.out.2.2.2 rfl (by decide) _ _ _ rfl (own_no w _ _) a l.length cap l.flatten rfl HFl.out HCells.out H1.out (by unfold maxLen; omega) (by omega) (by simp only [World.size_alloc]; omega) ?_)))
    intro v' w2 ho hg _ _
    have HO := Lib.hid ho
    have HG := Lib.hid hg
    clear ho hg
    go_wp2_with fail
    go_ret
    refine ⟨_, rfl, ⟨by simpa using HO.out, HE.out⟩, ?_⟩
    exact ((Chg.refl _ _).alloc _).trans (Chg.of_grown HG.out) (fun i hi hk => by simp [Value.ownBlock] at hk; omega)

theorem one_rf (l : List Rf) : ∀ x ∈ (l.map rfC).flatten, x.oneCell' = true := by
  intro x hx
  obtain ⟨r, hr, hxr⟩ := List.mem_flatten.1 hx
  obtain ⟨y, -, rfl⟩ := List.mem_map.1 hr
  simp only [rfC, cellsB, List.mem_append, List.mem_map, List.mem_singleton] at hxr
  rcases hxr with ⟨z, -, rfl⟩ | rfl <;> rfl
theorem zip_get {l : List Pk} {lv : List Value} {k : Nat} {r : List Value} (h : (List.zipWith pkC l lv)[k]? = some r) : ∃ p u, l[k]? = some p ∧ lv[k]? = some u ∧ r = pkC p u := by
  rw [List.getElem?_zipWith] at h
  cases hp : l[k]? with
  | none => rw [hp] at h; simp at h
  | some p =>
    cases hu : lv[k]? with
    | none => rw [hp, hu] at h; simp at h
    | some u => rw [hp, hu] at h; exact ⟨p, u, rfl, rfl, (Option.some.inj h).symm⟩
theorem one_pk {l : List Pk} {lv : List Value} (h : ∀ u ∈ lv, u.oneCell' = true) : ∀ x ∈ (List.zipWith pkC l lv).flatten, x.oneCell' = true := by
  intro x hx
  obtain ⟨r, hr, hxr⟩ := List.mem_flatten.1 hx
  obtain ⟨k, hk⟩ := List.getElem?_of_mem hr
  obtain ⟨p, u, -, hu, rfl⟩ := zip_get hk
  simp only [pkC, List.mem_cons, List.not_mem_nil, or_false] at hxr
  rcases hxr with rfl | rfl | rfl | rfl
  · rfl
  · rfl
  · rfl
  · exact h _ (List.mem_of_getElem? hu)
theorem zip_set {l : List Pk} {lv : List Value} {k : Nat} {v : Value} (hk : k < lv.length) : (List.zipWith pkC l lv).modify k (fun r => r.set 3 v) = List.zipWith pkC l (lv.set k v) := by
  apply List.ext_getElem?
  intro i
  rw [List.getElem?_modify, List.getElem?_zipWith, List.getElem?_zipWith, List.getElem?_set]
  by_cases hi : k = i
  · subst hi
    simp only [if_true, if_pos hk]
    rw [List.getElem?_eq_getElem hk]
    cases l[k]? <;> simp [pkC]
  · simp only [if_neg hi]
    cases l[i]? <;> cases lv[i]? <;> simp

theorem rows_of_own {base : Nat} {e : TypeId} {n m cap : Nat} {oa : Option Addr} {l : List (List Value)} (h : OwnRecs w base e n (.slice oa m cap) l) : RowsAt w n oa l := by
  refine ⟨fun hne => ?_, fun i r hr => h.each r (List.mem_of_getElem? hr), fun b off ho i r j v hi hj => ?_⟩
  · obtain ⟨g, e1, -⟩ := h.cell' (k := 0) (List.length_pos_iff.2 hne)
    exact ⟨g, 0, e1⟩
  · have hlt := (List.getElem?_eq_some_iff.1 hi).1
    obtain ⟨g, e1, -, -, hc, -⟩ := h.cell' (k := i) hlt
    rw [ho] at e1
    cases e1
    rw [List.getElem?_eq_getElem hlt] at hi
    cases hi
    rw [Nat.zero_add]
    exact hc j v hj
theorem in_of_own {base : Nat} {e : TypeId} {n m cap k : Nat} {oa : Option Addr} {l : List (List Value)} (h : OwnRecs w base e n (.slice oa m cap) l) (hk : l.length = k) {F : Nat → Prop} (hF : ∀ b, base ≤ b → b < w.heap.size → F b) : InF F oa k := by
  intro hne b off ho
  obtain ⟨g, e1, h1, h2, -⟩ := h.cell' (k := 0) (by omega)
  rw [ho] at e1
  cases e1
  exact hF _ h1 h2
theorem PksAt.ones {F : Nat → Prop} {l : List Pk} {lv : List Value} (hlv : lv.length = l.length) (h : ∀ (i : Nat) (p : Pk) (u : Value), l[i]? = some p → lv[i]? = some u → LysAt w F u p.man.layers) : ∀ u ∈ lv, u.oneCell' = true := by
  intro u hu
  obtain ⟨i, hi⟩ := List.getElem?_of_mem hu
  have hlt := (List.getElem?_eq_some_iff.1 hi).1
  obtain ⟨oa, cap, rfl, -⟩ := (h i _ u (List.getElem?_eq_getElem (by omega)) hi).is
  rfl

set_option maxHeartbeats 1000000 in
theorem twin_is (w : World) {F : Nat → Prop} {v : Value} {l : List Pk} (h : PksAt w F v l) (hl : l.length ≤ 20) (hll : ∀ p ∈ l, p.man.layers.length ≤ 20) :
    Calls Tryz.prog 48 #[v] w fun e w' => ∃ v', e = .returned v' ∧ PksAt w' (fun b => w.heap.size ≤ b ∧ b < w'.heap.size) v' l ∧ Chg (fun _ => False) w w' := by
  obtain ⟨oa, cap, lv, rfl, hlv, hr, -, hly, -, -⟩ := h.is
  have hzl : (List.zipWith pkC l lv).length = l.length := by rw [List.length_zipWith]; omega
  have HTx := Lib.hid h.txt
  have HR := Lib.hid hr
  have HLy := Lib.hid hly
  have HLL := Lib.hid hll
  have HCp := Lib.hid (clone_packs w oa cap _ hr (one_pk (PksAt.ones hlv hly)) (by omega))
  rw [hzl] at HCp
  clear h hr hly hll
  go_enter Tryz.func48, Tryz.ntmps48
  go_wp2_with (go_at_call 89; refine HCp.out.mono ?_; rintro e w1 ⟨v, rfl, ho, hc⟩
               obtain ⟨ov, cv, rfl, hlc, hcm⟩ := ho.slice
               rw [hzl] at hlc ho ⊢
               have HO := Lib.hid ho
               have HC := Lib.hid hc
               have HLC := Lib.hid (And.intro hlc hcm)
               clear ho hc hlc hcm)
  obtain ⟨B, hB⟩ : ∃ B, w1.heap.size = B := ⟨_, rfl⟩
  have HBo := Lib.hid (show ∀ g off, ov = some ⟨g, off, none⟩ → 0 < l.length → g < B from fun g off e hne => by
    obtain ⟨g', e1, -, h2, -⟩ := HO.out.cell' (k := 0) (by omega)
    rw [e] at e1; cases e1; omega)
  have HBw := Lib.hid (show w.heap.size ≤ B from by rw [← hB]; exact HC.out.size)
  go_loopw [9] (fun j wr => ∃ (k : Nat) (lw : List Value), j = .int .i64 k ∧ k ≤ l.length ∧ lw.length = l.length ∧ OwnRecs wr w.heap.size 90 4 (.slice ov l.length cv) (List.zipWith pkC l lw) ∧ (∀ (i : Nat) (p : Pk) (u : Value), i < k → l[i]? = some p → lw[i]? = some u → LysAt wr (fun b => B ≤ b ∧ b < wr.heap.size) u p.man.layers) ∧ (∀ i, k ≤ i → lw[i]? = lv[i]?) ∧ Chg (fun _ => False) w wr ∧ B ≤ wr.heap.size) (fun j _ => l.length - (intOf j).toNat)
  · exact ⟨0, lv, rfl, Nat.zero_le _, hlv, HO.out, by intro i p u h; omega, fun _ _ => rfl, HC.out, by omega⟩
  clear hB
  obtain ⟨k, lw, rfl, hk, hwl, ho2, hdone, hrest, hc2, hBr⟩ := hrel
  have hzw : (List.zipWith pkC l lw).length = l.length := by rw [List.length_zipWith]; omega
  have HO2 := Lib.hid ho2
  have HD := Lib.hid hdone
  have HRe := Lib.hid hrest
  have HC2 := Lib.hid hc2
  have HBr := Lib.hid hBr
  clear ho2 hdone hrest hc2 HO HC hBr
  by_cases hlt : k < l.length
  · have hki : (k : Int) < (l.length : Int) := by omega
    obtain ⟨p, hp⟩ : ∃ p, l[k]? = some p := ⟨l[k], List.getElem?_eq_getElem hlt⟩
    obtain ⟨u, hu⟩ : ∃ u, lv[k]? = some u := ⟨lv[k]'(by omega), List.getElem?_eq_getElem _⟩
    have huw : lw[k]? = some u := by rw [HRe.out k (Nat.le_refl _), hu]
    have hlyk := (HLy.out k p u hp hu).fresh HC2.out
    obtain ⟨la, lc, rfl, h3, -, -, -⟩ := hlyk.is
    obtain ⟨g, e1, hgb, hgl, hcell, hfz⟩ := HO2.out.cell' (k := k) (by rw [hzw]; exact hlt)
    obtain rfl := e1
    have hRk : (List.zipWith pkC l lw)[k]'(by rw [hzw]; exact hlt) = pkC p (.slice la p.man.layers.length lc) := by
      have h1 := List.getElem?_eq_getElem (l := List.zipWith pkC l lw) (i := k) (by rw [hzw]; exact hlt)
      rw [List.getElem?_zipWith, hp, huw] at h1
      exact (Option.some.inj h1).symm
    rw [hRk] at hcell
    have d3 : wr.cell? ⟨g, k * 4 + 3, none⟩ = some (.slice la p.man.layers.length lc) := hcell 3 _ rfl
    have hcl := clone_refs wr la lc (p.man.layers.map rfC) h3 (one_rf _) (by rw [List.length_map]; exact HLL.out p (List.mem_of_getElem? hp))
    rw [List.length_map] at hcl
    obtain ⟨nl, hnl⟩ : ∃ nl, p.man.layers.length = nl := ⟨_, rfl⟩
    rw [hnl] at d3 hcl
    have HD3 := Lib.hid d3
    have HFz := Lib.hid (hfz (k * 4 + 3))
    have HCl := Lib.hid hcl
    have HP := Lib.hid hp
    have HDg := Lib.hid hlyk.dig
    have HNl := Lib.hid hnl
    have HGb := Lib.hid hgb
    have HGB := Lib.hid (HBo.out g 0 rfl (by omega))
    clear hp hu huw hlyk h3 hRk hcell hfz hgb hgl hcl hnl
    go_wp2_with (go_at_call 90; refine HCl.out.mono ?_; rintro e w3 ⟨v3, rfl, ho3, hc3⟩
                 obtain ⟨lv3, lcv, rfl, hl3, hm3⟩ := ho3.slice
                 rw [List.length_map, HNl.out] at hl3 ho3 ⊢
                 have k3 : w3.cell? ⟨g, k * 4 + 1 + 2, none⟩ = some (.slice la nl lc) := hc3.cell HD3.out id
                 have z3 : w3.frozen? ⟨g, k * 4 + 1 + 2, none⟩ = false := ((HO2.out.kept hc3 (fun _ _ h => h)).cell' (k := k) (by rw [hzw]; exact hlt)).elim (fun g' h => by obtain ⟨e1, -, -, -, h5⟩ := h; cases e1; exact h5 _)
                 have HO3 := Lib.hid ho3
                 have HC3 := Lib.hid hc3
                 have HL3 := Lib.hid (And.intro hl3 hm3)
                 clear ho3 hc3 hl3 hm3)
    obtain ⟨w4, hw4⟩ : ∃ w4, w3.setCell ⟨g, k * 4 + 3, none⟩ (.slice lv3 nl lcv) = w4 := ⟨_, rfl⟩
    have hcs : Chg (· = g) w3 w4 := by rw [← hw4]; exact Chg.setCell (S := (· = g)) (Chg.refl _ _) (fun _ => rfl) _
    have ho4 : OwnRecs w4 w.heap.size 90 4 (.slice (some ⟨g, 0, none⟩) l.length cv) (List.zipWith pkC l (lw.set k (.slice lv3 nl lcv))) := by
      have h := HO2.out.kept HC3.out (fun _ _ h => h)
      rw [← hzw] at h
      rw [← hw4, ← zip_set (by omega)]
      have h2 := h.set (j := 3) (by omega) (.slice lv3 nl lcv) (k := k)
      rw [hzw] at h2
      exact h2
    have hsz : wr.heap.size ≤ w3.heap.size := HC3.out.size
    have hsz4 : w3.heap.size ≤ w4.heap.size := hcs.size
    have hg4 : Chg (fun _ => False) w w4 := (HC2.out.trans' HC3.out).new hcs (fun i e => by have := HGb.out; omega)
    refine ⟨⟨k + 1, lw.set k (.slice lv3 nl lcv), by go_num, hlt, by rw [List.length_set]; omega, ?_, fun i q u hi hq hu => ?_, fun i hi => ?_, ?_, ?_⟩, meas_step hlt⟩
    · show OwnRecs (w3.setCell ⟨g, k * 4 + 3, none⟩ (.slice lv3 nl lcv)) _ _ _ _ _
      rw [hw4]; exact ho4
    · show LysAt (w3.setCell ⟨g, k * 4 + 3, none⟩ (.slice lv3 nl lcv)) _ u q.man.layers
      rw [hw4]
      rw [List.getElem?_set] at hu
      by_cases hik : k = i
      · subst hik
        rw [if_pos rfl, if_pos (by omega)] at hu
        obtain rfl := (Option.some.inj hu)
        have hqp : q = p := by have := HP.out; rw [hq] at this; exact Option.some.inj this
        subst hqp
        have hin : InF (fun b => wr.heap.size ≤ b ∧ b < w3.heap.size) lv3 nl := in_of_own HO3.out (by rw [List.length_map]; exact HNl.out) (fun b h1 h2 => ⟨h1, h2⟩)
        refine ⟨⟨lv3, lcv, by rw [HNl.out], rows_keptF (rows_of_own HO3.out) hcs hin (by rw [List.length_map]; exact HNl.out) (fun b hb e => ?_), fun hn b off ho => ?_, by rw [HNl.out]; exact HL3.out.1, HL3.out.2⟩, HDg.out⟩
        · have := HGB.out; have := HBr.out; have := hb.1; omega
        · obtain ⟨h1, h2⟩ := hin (by rw [← HNl.out]; exact hn) b off ho
          have h3 := HBr.out
          show B ≤ b ∧ b < w4.heap.size
          omega
      · rw [if_neg hik] at hu
        refine ((HD.out i q u (by omega) hq hu).kept (HC3.out.mono (fun _ _ h => h.elim) |>.trans' hcs : Chg (· = g) wr w4) (fun b hb e => by have := HGB.out; have := hb.1; omega)).wide (fun b hb => ?_)
        have h1 := hb.1
        have h2 := hb.2
        show B ≤ b ∧ b < w4.heap.size
        omega
    · rw [List.getElem?_set, if_neg (by omega), HRe.out i (by omega)]
    · show Chg _ w (w3.setCell ⟨g, k * 4 + 3, none⟩ (.slice lv3 nl lcv))
      rw [hw4]; exact hg4
    · show B ≤ (w3.setCell ⟨g, k * 4 + 3, none⟩ (.slice lv3 nl lcv)).heap.size
      rw [hw4]
      have := HBr.out; omega
  · have hki : ¬ (k : Int) < (l.length : Int) := by omega
    have HKl := Lib.hid (show k = l.length by omega)
    go_wp2_with fail
    go_ret
    have hkl := HKl.out
    have hBw := HBw.out
    refine ⟨.slice ov l.length cv, rfl, ⟨⟨ov, cv, lw, rfl, hwl, rows_of_own HO2.out, in_of_own HO2.out hzw (fun b h1 h2 => ⟨h1, h2⟩), fun i p u hp hu => ?_, HLC.out.1, HLC.out.2⟩, HTx.out⟩, HC2.out⟩
    have hil := (List.getElem?_eq_some_iff.1 hp).1
    exact (HD.out i p u (by omega) hp hu).wide (fun b hb => ⟨by have := hb.1; omega, hb.2⟩)

def NumsAt (w : World) (v : Value) (l : List Nat) : Prop := SlAt w v (l.map (fun n : Nat => Value.int .i64 (n : Int)))

theorem index_is (w : World) {v : Value} {l : List Nat} (h : NumsAt w v l) (hl : l.length ≤ 1000000) (t : Int) :
    Calls Tryz.prog 91 #[v, .int .i64 t] w fun e w' => ∃ k : Int, e = .returned (.int .i64 k) ∧ ((∃ n ∈ l, (n : Int) = t) → 0 ≤ k) ∧ ((¬ ∃ n ∈ l, (n : Int) = t) → k = -1) ∧ w = w' := by
  obtain ⟨oa, cap, rfl, -⟩ := id h
  rw [List.length_map] at h ⊢
  have H := Lib.hid h
  clear h
  go_enter Tryz.func91, Tryz.ntmps91
  go_wp2_with fail
  go_loopw [8] (fun j wr => ∃ k : Nat, j = .int .i64 k ∧ k ≤ l.length ∧ (∀ n ∈ l.take k, (n : Int) ≠ t) ∧ w = wr) (fun j _ => l.length - (intOf j).toNat)
  · exact ⟨0, rfl, Nat.zero_le _, by simp, rfl⟩
  obtain ⟨k, rfl, hk, hno, rfl⟩ := hrel
  have HNo := Lib.hid hno
  clear hno
  by_cases hlt : k < l.length
  · have hki : (k : Int) < (l.length : Int) := by omega
    obtain ⟨b, off, rfl, -, hcell⟩ := H.out.cell (k := k) (by rw [List.length_map]; exact hlt)
    rw [List.getElem_map] at hcell
    obtain ⟨n, hn⟩ : ∃ n, l[k] = n := ⟨_, rfl⟩
    have HN := Lib.hid (show l[k]? = some n by rw [List.getElem?_eq_getElem hlt, hn])
    rw [hn] at hcell
    clear hn
    by_cases he : t = (n : Int)
    · subst he
      have HEx := Lib.hid (show ∃ m ∈ l, (m : Int) = (n : Int) from ⟨n, List.mem_of_getElem? HN.out, rfl⟩)
      go_wp2_with fail
      go_ret
      exact ⟨k, rfl, fun _ => by omega, fun h => absurd HEx.out h, rfl⟩
    · have heb : (t == (n : Int)) = false := by simpa using he
      have HNe := Lib.hid he
      clear he
      go_wp2_with fail
      refine ⟨⟨k + 1, by go_num, hlt, fun m hm => ?_, trivial⟩, meas_step hlt⟩
      rw [List.take_add_one, HN.out, Option.toList_some, List.mem_append, List.mem_singleton] at hm
      rcases hm with hm | rfl
      · exact HNo.out m hm
      · exact fun e => HNe.out e.symm
  · have hki : ¬ (k : Int) < (l.length : Int) := by omega
    obtain rfl : k = l.length := by omega
    go_wp2_with fail
    go_ret
    have hno := HNo.out
    rw [List.take_length] at hno
    exact ⟨-1, rfl, by (first | exact fun ⟨n, h1, h2⟩ => absurd h2 (hno n h1) | exact fun n h1 h2 => absurd h2 (hno n h1)), fun _ => rfl, rfl⟩

theorem has_is (w : World) {v : Value} {l : List Nat} (h : NumsAt w v l) (hl : l.length ≤ 1000000) (t : Int) :
    Calls Tryz.prog 50 #[v, .int .i64 t] w fun e w' => e = .returned (.bool (decide (∃ n ∈ l, (n : Int) = t))) ∧ w = w' := by
  have HI := Lib.hid (index_is w h hl t)
  obtain ⟨oa, cap, rfl, -⟩ := id h
  rw [List.length_map] at *
  clear h
  by_cases hm : ∃ n ∈ l, (n : Int) = t
  · have HM := Lib.hid hm
    rw [decide_eq_true hm]
    clear hm
    go_enter Tryz.func50, Tryz.ntmps50
    go_wp2_with (go_at_call 91; refine HI.out.mono ?_; rintro e w1 ⟨k, rfl, hk, -, rfl⟩; have hk := hk HM.out)
    go_ret
    exact ⟨rfl, rfl⟩
  · have HM := Lib.hid hm
    rw [decide_eq_false hm]
    clear hm
    go_enter Tryz.func50, Tryz.ntmps50
    go_wp2_with (go_at_call 91; refine HI.out.mono ?_; rintro e w1 ⟨k, rfl, -, hk, rfl⟩; obtain rfl := hk HM.out)
    go_ret
    exact ⟨rfl, rfl⟩

end Go.Proofs.YtbjagmlbamjdbaaGreat.roots
end

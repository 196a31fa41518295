/-
  veneerref09: Crash, the walk.
-/
import Derived.Test.YtomceindibnpnaaDiskRefWait
namespace Go.Proofs.Ytomceindibnpnaa.disks
open Go.RowKit Go.Maps Go.My Go.ChangeMaps
set_option maxRecDepth 100000

variable {w w' : World} {r : Nat} {F F' : Nat → Prop} {R R' : RV} {bv lv : Value}

def RV.crashN (R : RV) (keep : List Int) : Nat → List Blk
  | 0 => R.B
  | k + 1 => match (refWaits R)[k]? with
    | some p => (R.crashN keep k).set p.1 (R.at p.1 ((keepAt keep k p.2 : Nat) : Int))
    | none => R.crashN keep k

def RV.crash (R : RV) (keep : List Int) : RV := { R with B := R.crashN keep (refWaits R).length, S := [], fuse := -1, down := false }

theorem crashR_len (R : RV) (keep : List Int) (k : Nat) : (R.crashN keep k).length = R.B.length := by
  induction k with
  | zero => rfl
  | succ k ih =>
    rw [RV.crashN]
    split
    · rw [List.length_set, ih]
    · exact ih

theorem refWaits_at {k i N : Nat} (h : (refWaits R)[k]? = some (i, N)) : i < R.B.length ∧ N = (sel R.S i).length := by
  have := List.mem_of_getElem? h
  simp only [refWaits, refWaitsN, List.mem_map, List.mem_filter, List.mem_range, Prod.mk.injEq] at this
  obtain ⟨j, ⟨h1, _⟩, rfl, rfl⟩ := this
  exact ⟨h1, rfl⟩



set_option maxHeartbeats 4000000 in
theorem refcrash_any (w : World) (h : RefIs w r F R bv lv) (hS : R.S.length < 1000000) (hB : R.B.length ≤ 4096) (hne : R.B ≠ []) (oa : Option Addr) (n cap : Nat) (keep : List Int) (hk : SlAt w (.slice oa n cap) (keep.map (Value.int .i64))) (hin : ∀ z ∈ keep, inR z) :
    Calls Try.prog 71 #[.pointer (some ⟨r, 0, none⟩), .slice oa n cap] w fun e w' => e = .returned (.tuple #[]) ∧ RefAt w' r (grow F w w') (R.crash keep) ∧ Chg F w w' := by
  obtain rfl : n = keep.length := by
    obtain ⟨_, _, h1, _⟩ := hk
    simp only [Value.slice.injEq] at h1
    rw [h1.2.1, List.length_map]
  obtain ⟨oab, cb, rfl⟩ := own_slice h.rows
  obtain ⟨gb, rfl⟩ : ∃ gb, oab = some ⟨gb, 0, none⟩ := by
    rcases h.rows.2 with ⟨e1, h0⟩ | ⟨g, cap', cur, e1, -⟩
    · exact absurd (List.eq_nil_of_length_eq_zero h0) hne
    · simp only [Value.slice.injEq] at e1; exact ⟨g, e1.1⟩
  obtain ⟨i0, hI0⟩ := info_parts info_str
  have HI0 := Lib.hid hI0
  have H := Lib.hid h
  have HK := Lib.hid hk
  have HIn := Lib.hid hin
  have HNe := Lib.hid hne
  clear h hk hin hI0 hne
  go_enter Try.func71, Try.ntmps71
  go_wp2_with (first
    | (go_at_call 72; refine (refwaiting_any _ H.out hS hB).mono ?_; rintro e w1 ⟨v, rfl, hv, hc1⟩
       obtain ⟨oaW, cW, rfl, -⟩ := hv.slice
       rw [List.length_map] at hv
       have d1 : w1.cell? ⟨r, 0, none⟩ = some (.slice (some ⟨gb, 0, none⟩) R.B.length cb) := cell_of_block (hc1.at H.out.head id) rfl
       have d2 : (w1.alloc (.cells #[] 9)).cell? ⟨r, 0, none⟩ = some (.slice (some ⟨gb, 0, none⟩) R.B.length cb) := ((Chg.refl (fun _ => False) w1).alloc _).cell d1 id
       have hl := World.ownsRow_lit (e := 9) (size := 1) w1 #[] 0 (Nat.le_refl _) (by unfold maxLen; omega) rfl
       have hca := (Chg.refl (fun _ => False) w1).alloc (.cells #[] 9)
       have hnew : ∀ j u, (R.B.map strV)[j]? = some u → (w1.alloc (.cells #[] 9)).cell? ((⟨gb, 0, none⟩ : Addr).add j) = some u := (row_kept H.out.rows (hc1.trans' hca) (fun _ _ h => h)).cells rfl
       have HV := Lib.hid hv
       have HC1 := Lib.hid hc1
       have HL := Lib.hid hl
       have HCa := Lib.hid hca
       have HNew := Lib.hid hnew
       rw [List.length_map]
       clear hv hc1 hl hca hnew)
    | (at_builtin; refine wpList_append_own_at _ rfl _ _ 57 rfl w1.heap.size 9 i0 (.string ⟨#[]⟩) 1 16 Try.underlying57 HI0.out.1 HI0.out.2.1 HI0.out.2.2.1 HI0.out.2.2.2 rfl (by decide) _ _ _ rfl HL.out ⟨gb, 0, none⟩ R.B.length cb (R.B.map strV) rfl (by simp) HNew.out (by intro x hx; obtain ⟨b, -, rfl⟩ := List.mem_map.1 hx; rfl) (by unfold maxLen; omega) (by omega) (by have := HCa.out.size; omega) ?_; intro v6 w6 ho6 hg6 hx1 hx2
       rw [Nat.zero_add] at ho6
       obtain ⟨oau, cu, rfl⟩ := own_slice ho6
       have ho6 : w6.ownsRow w1.heap.size 9 1 (.slice oau R.B.length cu) R.B.length (R.B.map strV) := ho6
       obtain ⟨go, rfl⟩ : ∃ go, oau = some ⟨go, 0, none⟩ := by
         rcases ho6.2 with ⟨e1, h0⟩ | ⟨g, cap', cur, e1, -⟩
         · exact absurd (List.eq_nil_of_length_eq_zero h0) HNe.out
         · simp only [Value.slice.injEq] at e1; exact ⟨g, e1.1⟩
       have hc6 : Chg (fun _ => False) w1 w6 := HCa.out.new (Chg.of_grown hg6) (fun j e => (HL.out.lt j e.symm).1)
       have HV6 := Lib.hid (HV.out.kept hc6 (fun _ _ h => h))
       have HO6 := Lib.hid ho6
       have HC6 := Lib.hid (HC1.out.trans' hc6)
       clear ho6 hg6 hx1 hx2 hc6 HV HL HCa HNew))
  have hs1 : w.heap.size ≤ w1.heap.size := HC1.out.size
  go_loopw [6] (fun j wr => ∃ k : Nat, j = .int .i64 k ∧ k ≤ (refWaits R).length ∧ wr.ownsRow w.heap.size 9 1 (.slice (some ⟨go, 0, none⟩) R.B.length cu) R.B.length ((R.crashN keep k).map strV) ∧ OwnRecs wr w.heap.size 114 2 (.slice oaW (refWaits R).length cW) ((refWaits R).map encW) ∧ Chg (fun _ => False) w wr) (fun j _ => (refWaits R).length - (intOf j).toNat)
  · exact ⟨0, rfl, Nat.zero_le _, World.ownsRow.mono HO6.out hs1, HV6.out, HC6.out⟩
  obtain ⟨k, rfl, hkl, hO, hV, hC⟩ := hrel
  have HO := Lib.hid hO
  have HV := Lib.hid hV
  have HC := Lib.hid hC
  have HR := Lib.hid (H.out.kept hC (fun _ _ h => h))
  clear hO hV hC HV6
  have hlM : (refWaits R).length ≤ 4096 := Nat.le_trans (refWaitsN_len R _) hB
  by_cases hlt : k < (refWaits R).length
  · obtain ⟨i, N, hp⟩ : ∃ i N, (refWaits R)[k]? = some (i, N) := ⟨(refWaits R)[k].1, (refWaits R)[k].2, List.getElem?_eq_getElem hlt⟩
    obtain ⟨hiB, hN⟩ := refWaits_at hp
    obtain ⟨g2, hoaW, hg2, -, hcells, -⟩ := HV.out.cell' (k := k) (by simpa using hlt)
    subst hoaW
    have hrec : ((refWaits R).map encW)[k]'(by simpa using hlt) = [.int .i64 (i : Int), .int .i64 (N : Int)] := by
      obtain ⟨h1, h2⟩ := List.getElem?_eq_some_iff.1 hp
      rw [List.getElem_map, h2, encW, Nat.mod_eq_of_lt (by omega)]
    rw [hrec] at hcells
    subst hN
    have D0 := Lib.hid (show wr.cell? ⟨g2, k * 2, none⟩ = some (.int .i64 (i : Int)) from hcells 0 _ rfl)
    have D1 := Lib.hid (show wr.cell? ⟨g2, k * 2 + 1, none⟩ = some (.int .i64 ((sel R.S i).length : Int)) from hcells 1 _ rfl)
    have hk' : (k : Int) < ((refWaits R).length : Int) := by omega
    have hib : (i : Int) < (R.B.length : Int) := by omega
    obtain ⟨cv, hcO, hzO, hgo, hgo2⟩ : ∃ cv, wr.cell? ⟨go, i, none⟩ = some cv ∧ wr.frozen? ⟨go, i, none⟩ = false ∧ w.heap.size ≤ go ∧ go < wr.heap.size := by obtain ⟨_, h1, h2⟩ := own_cell HO.out hiB; exact ⟨_, h1, h2⟩
    have hne2 : g2 ≠ go := fun e => by
      obtain ⟨c1, h1⟩ := row_obj HO.out (g := go) rfl
      obtain ⟨c2, h2⟩ := own_obj HV.out (g := g2) rfl
      rw [e, h1] at h2
      simp only [Option.some.injEq, Obj.cells.injEq] at h2
      exact absurd h2.2.1 (by decide)
    have Hne2 := Lib.hid hne2
    have Hgo := Lib.hid hgo
    have HP := Lib.hid hp
    have hNl : (sel R.S i).length < 1000000 := by
      have := sel_le R.S i R.S.length
      rw [List.take_length] at this
      omega
    clear hcells hrec hp hne2 hgo
    cases hz : keep[k]? with
    | none =>
      have hkn : ¬ (k : Int) < (keep.length : Int) := by have := List.getElem?_eq_none_iff.1 hz; omega
      have hm0 : keepAt keep k (sel R.S i).length = 0 := by simp [keepAt, hz]
      clear hz
      have HOw := Lib.hid (row_kept HO.out ((Chg.refl (fun _ => False) wr).drew) (fun _ _ h => h))
      obtain ⟨sx, hsx⟩ : ∃ sx : ByteArray, (⟨(R.at i ((keepAt keep k (sel R.S i).length : Nat) : Int)).toArray⟩ : ByteArray) = sx := ⟨_, rfl⟩
      have hcs : Chg (· = go) wr (wr.drew.setCell ⟨go, i, none⟩ (.string sx)) := Chg.setCell (S := (· = go)) ((Chg.refl _ _).drew) (fun _ => rfl) _
      have hst := (HOw.out.stored i (.string sx)).1
      have hfin : ((wr.drew.setCell ⟨go, i, none⟩ (.string sx)).ownsRow w.heap.size 9 1 (.slice (some ⟨go, 0, none⟩) R.B.length cu) R.B.length ((R.crashN keep (k + 1)).map strV)) ∧ OwnRecs (wr.drew.setCell ⟨go, i, none⟩ (.string sx)) w.heap.size 114 2 (.slice (some ⟨g2, 0, none⟩) (refWaits R).length cW) ((refWaits R).map encW) ∧ Chg (fun _ => False) w (wr.drew.setCell ⟨go, i, none⟩ (.string sx)) := by
        refine ⟨?_, HV.out.kept hcs (fun j hj e => Hne2.out (by cases hj; exact e)), HC.out.new hcs (fun j e => by rw [e]; exact Hgo.out)⟩
        have e1 : (R.crashN keep (k + 1)).map strV = ((R.crashN keep k).map strV).set i (.string sx) := by
          rw [RV.crashN, HP.out]
          simp only
          rw [List.map_set, strV, hsx]
        rw [e1]
        exact hst
      have HSx := Lib.hid hsx
      have HCs := Lib.hid hcs
      have HFin := Lib.hid hfin
      clear hsx hcs hst hfin
      rw [hm0] at HSx
      have HR2 := Lib.hid (HR.out.kept ((Chg.refl (fun _ => False) wr).drew) (fun _ _ h => h))
      go_wp2_with fail
      refine wp_region_noPanic ?_
      refine wp_region_held_drew (S := (fun w' => w'.cell? ⟨g2, k * 2, none⟩ = some (.int .i64 (i : Int)))) (by kernel_rfl) (D0.out) (fun hHeld => ?_)
      refine take_list (i := 0) (v := ?_) rfl (by kernel_rfl) (by kernel_rfl) (by kernel_rfl) (fun _ _ _ h => h) (Or.inl ⟨by rfl, fun w hSw => ?_⟩) hHeld ?_
      rotate_left
      · (have hSw1 := hSw; go_simp)
        try with_reducible rfl
      simp only [Act.put, List.setIfInBounds_toArray, List.set_cons_zero, List.set_cons_succ]
      refine take_list (i := 1) (v := ?_) rfl (by kernel_rfl) (by kernel_rfl) (by kernel_rfl) (fun _ _ _ h => h) (Or.inl ⟨by rfl, fun w hSw => ?_⟩) hHeld ?_
      rotate_left
      · (have hSw1 := hSw; go_simp)
        try with_reducible rfl
      simp only [Act.put, List.setIfInBounds_toArray, List.set_cons_zero, List.set_cons_succ]
      refine take_list (i := 2) (v := ?_) rfl (by kernel_rfl) (by kernel_rfl) (by kernel_rfl) (fun _ _ _ h => h) (Or.inl ⟨by rfl, fun w hSw => ?_⟩) hHeld ?_
      rotate_left
      · (have hSw1 := hSw; go_simp)
        try with_reducible rfl
      simp only [Act.put, List.setIfInBounds_toArray, List.set_cons_zero, List.set_cons_succ]
      refine take_list (i := 3) (v := ?_) rfl (by kernel_rfl) (by kernel_rfl) (by kernel_rfl) (fun _ _ _ h => h) (Or.inl ⟨by rfl, fun w hSw => ?_⟩) hHeld ?_
      rotate_left
      · (have hSw1 := hSw; go_simp)
        try with_reducible rfl
      simp only [Act.put, List.setIfInBounds_toArray, List.set_cons_zero, List.set_cons_succ]
      refine take_list (i := 4) (v := ?_) rfl (by kernel_rfl) (by kernel_rfl) (by kernel_rfl) (fun _ _ _ h => h) (Or.inl ⟨by rfl, fun w hSw => ?_⟩) hHeld ?_
      rotate_left
      · (have hSw1 := hSw; go_simp)
        try with_reducible rfl
      simp only [Act.put, List.setIfInBounds_toArray, List.set_cons_zero, List.set_cons_succ]
      refine take_list (i := 5) (v := ?_) rfl (by kernel_rfl) (by kernel_rfl) (by kernel_rfl) (fun _ _ _ h => h) (Or.inl ⟨by rfl, fun w hSw => ?_⟩) hHeld ?_
      rotate_left
      · (have hSw1 := hSw; go_simp)
        try with_reducible rfl
      simp only [Act.put, List.setIfInBounds_toArray, List.set_cons_zero, List.set_cons_succ]
      refine take_list (i := 6) (v := ?_) rfl (by kernel_rfl) (by kernel_rfl) (by kernel_rfl) (fun _ _ _ h => h) (Or.inl ⟨by rfl, fun w hSw => ?_⟩) hHeld ?_
      rotate_left
      · (have hSw1 := hSw; go_simp)
        try with_reducible rfl
      simp only [Act.put, List.setIfInBounds_toArray, List.set_cons_zero, List.set_cons_succ]
      refine take_list (i := 7) (v := ?_) rfl (by kernel_rfl) (by kernel_rfl) (by kernel_rfl) (fun _ _ _ h => h) (Or.inl ⟨by rfl, fun w hSw => ?_⟩) hHeld ?_
      rotate_left
      · (have hSw1 := hSw; go_simp)
        try with_reducible rfl
      simp only [Act.put, List.setIfInBounds_toArray, List.set_cons_zero, List.set_cons_succ]
      refine take_list (i := 8) (v := ?_) rfl (by kernel_rfl) (by kernel_rfl) (by kernel_rfl) (fun _ _ _ h => h) (Or.inl ⟨by rfl, fun w hSw => ?_⟩) hHeld ?_
      rotate_left
      · (have hSw1 := hSw; go_simp)
        try with_reducible rfl
      simp only [Act.put, List.setIfInBounds_toArray, List.set_cons_zero, List.set_cons_succ]
      refine take_list (i := 9) (v := ?_) rfl (by kernel_rfl) (by kernel_rfl) (by kernel_rfl) (fun _ _ _ h => h) (Or.inl ⟨by rfl, fun w hSw => ?_⟩) hHeld ?_
      rotate_left
      · (have hSw1 := hSw; go_simp)
        try with_reducible rfl
      simp only [Act.put, List.setIfInBounds_toArray, List.set_cons_zero, List.set_cons_succ]
      refine take_list (i := 10) (v := ?_) rfl (by kernel_rfl) (by kernel_rfl) (by kernel_rfl) (fun _ _ _ h => h) (Or.inl ⟨by rfl, fun w hSw => ?_⟩) hHeld ?_
      rotate_left
      · (have hSw1 := hSw; go_simp)
        try with_reducible rfl
      simp only [Act.put, List.setIfInBounds_toArray, List.set_cons_zero, List.set_cons_succ]
      refine take_list (i := 11) (v := ?_) rfl (by kernel_rfl) (by kernel_rfl) (by kernel_rfl) (fun _ _ _ h => h) (Or.inl ⟨by rfl, fun w hSw => ?_⟩) hHeld ?_
      rotate_left
      · (have hSw1 := hSw; go_simp)
        try with_reducible rfl
      simp only [Act.put, List.setIfInBounds_toArray, List.set_cons_zero, List.set_cons_succ]
      refine take_list (i := 12) (v := ?_) rfl (by kernel_rfl) (by kernel_rfl) (by kernel_rfl) (fun _ _ _ h => h) (Or.inl ⟨by rfl, fun w hSw => ?_⟩) hHeld ?_
      rotate_left
      · (have hSw1 := hSw; go_simp)
        try with_reducible rfl
      simp only [Act.put, List.setIfInBounds_toArray, List.set_cons_zero, List.set_cons_succ]
      refine wpAnyH_ready (rs := [13]) (by kernel_rfl) (by simp) (one_list (i := 13) rfl (by rfl) (fun K hK => ?_) AllReadyH.nil)
      go_simp
      refine (at_any _ HR2.out i hiB ((0 : Nat) : Int) hS).mono ?_
      rw [strV, HSx.out]
      rintro e w5 ⟨rfl, rfl⟩
      dsimp only
      refine hK _ _ D0.out (fun hH2 => ?_)
      try simp only [Act.put, List.setIfInBounds_toArray, List.set_cons_zero, List.set_cons_succ]
      refine take_list (i := 14) (v := ?_) rfl (by kernel_rfl) (by kernel_rfl) (by kernel_rfl) (fun _ _ _ h => h) (Or.inl ⟨by rfl, fun w hSw => ?_⟩) hH2 ?_
      rotate_left
      · (have hSw1 := hSw; go_simp)
        try with_reducible rfl
      simp only [Act.put, List.setIfInBounds_toArray, List.set_cons_zero, List.set_cons_succ]
      refine wpAnyH_ready (rs := [15]) (by kernel_rfl) (by simp) (one_list (i := 15) rfl (by rfl) (fun K hK => ?_) AllReadyH.nil)
      go_simp
      refine hK _ _ ((HCs.out.cell D0.out Hne2.out)) (fun hH3 => ?_)
      try simp only [Act.put, List.setIfInBounds_toArray, List.set_cons_zero, List.set_cons_succ]
      refine wpAnyH_done (by kernel_rfl) ?_ _
      refine NoPanic.normal ?_
      go_wp2_with fail
      exact ⟨⟨k + 1, by go_num, hlt, HFin.out⟩, meas_step hlt⟩
    | some z =>
      obtain ⟨hkn', hkz⟩ := List.getElem?_eq_some_iff.1 hz
      have hkn : (k : Int) < (keep.length : Int) := by omega
      have hzr : inR z := HIn.out z (List.mem_of_getElem? hz)
      obtain ⟨gk, ok, hoa, -, hck⟩ := (HK.out.kept HC.out).cell (k := k) (by simpa using hkn')
      simp only [List.getElem_map, hkz] at hck
      subst hoa
      by_cases hz0 : 0 ≤ z
      · have hm0 : keepAt keep k (sel R.S i).length = z.toNat % ((sel R.S i).length + 1) := by simp [keepAt, hz, hz0]
        have hrem : z.tmod (((sel R.S i).length : Int) + 1) = ((z.toNat % ((sel R.S i).length + 1) : Nat) : Int) := tmod_keep z hz0 _
        obtain ⟨mm, hmm⟩ : ∃ mm, z.toNat % ((sel R.S i).length + 1) = mm := ⟨_, rfl⟩
        rw [hmm] at hm0 hrem
        clear hmm hz
        have HOw := Lib.hid (row_kept HO.out ((Chg.refl (fun _ => False) wr).drewN 2) (fun _ _ h => h))
        obtain ⟨sx, hsx⟩ : ∃ sx : ByteArray, (⟨(R.at i ((keepAt keep k (sel R.S i).length : Nat) : Int)).toArray⟩ : ByteArray) = sx := ⟨_, rfl⟩
        have hcs : Chg (· = go) wr (wr.drew.drew.setCell ⟨go, i, none⟩ (.string sx)) := Chg.setCell (S := (· = go)) ((Chg.refl _ _).drew.drew) (fun _ => rfl) _
        have hst := (HOw.out.stored i (.string sx)).1
        have hfin : ((wr.drew.drew.setCell ⟨go, i, none⟩ (.string sx)).ownsRow w.heap.size 9 1 (.slice (some ⟨go, 0, none⟩) R.B.length cu) R.B.length ((R.crashN keep (k + 1)).map strV)) ∧ OwnRecs (wr.drew.drew.setCell ⟨go, i, none⟩ (.string sx)) w.heap.size 114 2 (.slice (some ⟨g2, 0, none⟩) (refWaits R).length cW) ((refWaits R).map encW) ∧ Chg (fun _ => False) w (wr.drew.drew.setCell ⟨go, i, none⟩ (.string sx)) := by
          refine ⟨?_, HV.out.kept hcs (fun j hj e => Hne2.out (by cases hj; exact e)), HC.out.new hcs (fun j e => by rw [e]; exact Hgo.out)⟩
          have e1 : (R.crashN keep (k + 1)).map strV = ((R.crashN keep k).map strV).set i (.string sx) := by
            rw [RV.crashN, HP.out]
            simp only
            rw [List.map_set, strV, hsx]
          rw [e1]
          exact hst
        have HSx := Lib.hid hsx
        have HCs := Lib.hid hcs
        have HFin := Lib.hid hfin
        clear hsx hcs hst hfin
        rw [hm0] at HSx
        have HR2 := Lib.hid (HR.out.kept ((Chg.refl (fun _ => False) wr).drewN 2) (fun _ _ h => h))
        have hlw : wrap64 (((sel R.S i).length : Int) + 1) = ((sel R.S i).length : Int) + 1 := wrap_succ _ hNl
        have hlw2 : IntKind.i64.wrap (((sel R.S i).length : Int) + 1) = ((sel R.S i).length : Int) + 1 := (IntWalk.i64_left _).trans hlw
        have hne1 : ¬ ((sel R.S i).length : Int) + 1 = 0 := ne_succ _
        go_wp2_with fail
        refine wp_region_noPanic ?_
        refine wp_region_held_drew (S := (fun w' => w'.cell? ⟨gk, ok + k, none⟩ = some (.int .i64 z) ∧ w'.cell? ⟨g2, k * 2 + 1, none⟩ = some (.int .i64 ((sel R.S i).length : Int)))) (by kernel_rfl) (⟨hck, D1.out⟩) (fun hHeld => ?_)
        refine take_list (i := 0) (v := ?_) rfl (by kernel_rfl) (by kernel_rfl) (by kernel_rfl) (fun _ _ _ h => h) (Or.inl ⟨by rfl, fun w hSw => ?_⟩) hHeld ?_
        rotate_left
        · (obtain ⟨hSw1, hSw2⟩ := hSw; go_simp)
          try with_reducible rfl
        simp only [Act.put, List.setIfInBounds_toArray, List.set_cons_zero, List.set_cons_succ]
        refine take_list (i := 1) (v := ?_) rfl (by kernel_rfl) (by kernel_rfl) (by kernel_rfl) (fun _ _ _ h => h) (Or.inl ⟨by rfl, fun w hSw => ?_⟩) hHeld ?_
        rotate_left
        · (obtain ⟨hSw1, hSw2⟩ := hSw; go_simp)
          try with_reducible rfl
        simp only [Act.put, List.setIfInBounds_toArray, List.set_cons_zero, List.set_cons_succ]
        refine take_list (i := 2) (v := ?_) rfl (by kernel_rfl) (by kernel_rfl) (by kernel_rfl) (fun _ _ _ h => h) (Or.inl ⟨by rfl, fun w hSw => ?_⟩) hHeld ?_
        rotate_left
        · (obtain ⟨hSw1, hSw2⟩ := hSw; go_simp)
          try with_reducible rfl
        simp only [Act.put, List.setIfInBounds_toArray, List.set_cons_zero, List.set_cons_succ]
        refine take_list (i := 3) (v := ?_) rfl (by kernel_rfl) (by kernel_rfl) (by kernel_rfl) (fun _ _ _ h => h) (Or.inl ⟨by rfl, fun w hSw => ?_⟩) hHeld ?_
        rotate_left
        · (obtain ⟨hSw1, hSw2⟩ := hSw; go_simp)
          try with_reducible rfl
        simp only [Act.put, List.setIfInBounds_toArray, List.set_cons_zero, List.set_cons_succ]
        refine take_list (i := 4) (v := ?_) rfl (by kernel_rfl) (by kernel_rfl) (by kernel_rfl) (fun _ _ _ h => h) (Or.inl ⟨by rfl, fun w hSw => ?_⟩) hHeld ?_
        rotate_left
        · (obtain ⟨hSw1, hSw2⟩ := hSw; go_simp)
          try with_reducible rfl
        simp only [Act.put, List.setIfInBounds_toArray, List.set_cons_zero, List.set_cons_succ]
        refine take_list (i := 5) (v := ?_) rfl (by kernel_rfl) (by kernel_rfl) (by kernel_rfl) (fun _ _ _ h => h) (Or.inl ⟨by rfl, fun w hSw => ?_⟩) hHeld ?_
        rotate_left
        · (obtain ⟨hSw1, hSw2⟩ := hSw; go_simp)
          try with_reducible rfl
        simp only [Act.put, List.setIfInBounds_toArray, List.set_cons_zero, List.set_cons_succ]
        refine take_list (i := 6) (v := ?_) rfl (by kernel_rfl) (by kernel_rfl) (by kernel_rfl) (fun _ _ _ h => h) (Or.inl ⟨by rfl, fun w hSw => ?_⟩) hHeld ?_
        rotate_left
        · (obtain ⟨hSw1, hSw2⟩ := hSw; go_simp)
          try with_reducible rfl
        simp only [Act.put, List.setIfInBounds_toArray, List.set_cons_zero, List.set_cons_succ]
        refine take_list (i := 7) (v := ?_) rfl (by kernel_rfl) (by kernel_rfl) (by kernel_rfl) (fun _ _ _ h => h) (Or.inl ⟨by rfl, fun w hSw => ?_⟩) hHeld ?_
        rotate_left
        · (obtain ⟨hSw1, hSw2⟩ := hSw; go_simp)
          try with_reducible rfl
        simp only [Act.put, List.setIfInBounds_toArray, List.set_cons_zero, List.set_cons_succ]
        refine take_list (i := 8) (v := ?_) rfl (by kernel_rfl) (by kernel_rfl) (by kernel_rfl) (fun _ _ _ h => h) (Or.inl ⟨by rfl, fun w hSw => ?_⟩) hHeld ?_
        rotate_left
        · (obtain ⟨hSw1, hSw2⟩ := hSw; go_simp)
          try with_reducible rfl
        simp only [Act.put, List.setIfInBounds_toArray, List.set_cons_zero, List.set_cons_succ]
        refine take_list (i := 9) (v := ?_) rfl (by kernel_rfl) (by kernel_rfl) (by kernel_rfl) (fun _ _ _ h => h) (Or.inl ⟨by rfl, fun w hSw => ?_⟩) hHeld ?_
        rotate_left
        · (obtain ⟨hSw1, hSw2⟩ := hSw; go_simp)
          try with_reducible rfl
        simp only [Act.put, List.setIfInBounds_toArray, List.set_cons_zero, List.set_cons_succ]
        refine take_list (i := 10) (v := ?_) rfl (by kernel_rfl) (by kernel_rfl) (by kernel_rfl) (fun _ _ _ h => h) (Or.inl ⟨by rfl, fun w hSw => ?_⟩) hHeld ?_
        rotate_left
        · (obtain ⟨hSw1, hSw2⟩ := hSw; go_simp)
          try with_reducible rfl
        simp only [Act.put, List.setIfInBounds_toArray, List.set_cons_zero, List.set_cons_succ]
        refine take_list (i := 11) (v := ?_) rfl (by kernel_rfl) (by kernel_rfl) (by kernel_rfl) (fun _ _ _ h => h) (Or.inl ⟨by rfl, fun w hSw => ?_⟩) hHeld ?_
        rotate_left
        · (obtain ⟨hSw1, hSw2⟩ := hSw; go_simp)
          try with_reducible rfl
        simp only [Act.put, List.setIfInBounds_toArray, List.set_cons_zero, List.set_cons_succ]
        refine wpAnyH_done (by kernel_rfl) ?_ _
        refine NoPanic.normal ?_
        go_wp2_with fail
        refine wp_region_noPanic ?_
        refine wp_region_held_drew (S := (fun w' => w'.cell? ⟨g2, k * 2, none⟩ = some (.int .i64 (i : Int)))) (by kernel_rfl) (D0.out) (fun hHeld => ?_)
        refine take_list (i := 0) (v := ?_) rfl (by kernel_rfl) (by kernel_rfl) (by kernel_rfl) (fun _ _ _ h => h) (Or.inl ⟨by rfl, fun w hSw => ?_⟩) hHeld ?_
        rotate_left
        · (have hSw1 := hSw; go_simp)
          try with_reducible rfl
        simp only [Act.put, List.setIfInBounds_toArray, List.set_cons_zero, List.set_cons_succ]
        refine take_list (i := 1) (v := ?_) rfl (by kernel_rfl) (by kernel_rfl) (by kernel_rfl) (fun _ _ _ h => h) (Or.inl ⟨by rfl, fun w hSw => ?_⟩) hHeld ?_
        rotate_left
        · (have hSw1 := hSw; go_simp)
          try with_reducible rfl
        simp only [Act.put, List.setIfInBounds_toArray, List.set_cons_zero, List.set_cons_succ]
        refine take_list (i := 2) (v := ?_) rfl (by kernel_rfl) (by kernel_rfl) (by kernel_rfl) (fun _ _ _ h => h) (Or.inl ⟨by rfl, fun w hSw => ?_⟩) hHeld ?_
        rotate_left
        · (have hSw1 := hSw; go_simp)
          try with_reducible rfl
        simp only [Act.put, List.setIfInBounds_toArray, List.set_cons_zero, List.set_cons_succ]
        refine take_list (i := 3) (v := ?_) rfl (by kernel_rfl) (by kernel_rfl) (by kernel_rfl) (fun _ _ _ h => h) (Or.inl ⟨by rfl, fun w hSw => ?_⟩) hHeld ?_
        rotate_left
        · (have hSw1 := hSw; go_simp)
          try with_reducible rfl
        simp only [Act.put, List.setIfInBounds_toArray, List.set_cons_zero, List.set_cons_succ]
        refine take_list (i := 4) (v := ?_) rfl (by kernel_rfl) (by kernel_rfl) (by kernel_rfl) (fun _ _ _ h => h) (Or.inl ⟨by rfl, fun w hSw => ?_⟩) hHeld ?_
        rotate_left
        · (have hSw1 := hSw; go_simp)
          try with_reducible rfl
        simp only [Act.put, List.setIfInBounds_toArray, List.set_cons_zero, List.set_cons_succ]
        refine take_list (i := 5) (v := ?_) rfl (by kernel_rfl) (by kernel_rfl) (by kernel_rfl) (fun _ _ _ h => h) (Or.inl ⟨by rfl, fun w hSw => ?_⟩) hHeld ?_
        rotate_left
        · (have hSw1 := hSw; go_simp)
          try with_reducible rfl
        simp only [Act.put, List.setIfInBounds_toArray, List.set_cons_zero, List.set_cons_succ]
        refine take_list (i := 6) (v := ?_) rfl (by kernel_rfl) (by kernel_rfl) (by kernel_rfl) (fun _ _ _ h => h) (Or.inl ⟨by rfl, fun w hSw => ?_⟩) hHeld ?_
        rotate_left
        · (have hSw1 := hSw; go_simp)
          try with_reducible rfl
        simp only [Act.put, List.setIfInBounds_toArray, List.set_cons_zero, List.set_cons_succ]
        refine take_list (i := 7) (v := ?_) rfl (by kernel_rfl) (by kernel_rfl) (by kernel_rfl) (fun _ _ _ h => h) (Or.inl ⟨by rfl, fun w hSw => ?_⟩) hHeld ?_
        rotate_left
        · (have hSw1 := hSw; go_simp)
          try with_reducible rfl
        simp only [Act.put, List.setIfInBounds_toArray, List.set_cons_zero, List.set_cons_succ]
        refine take_list (i := 8) (v := ?_) rfl (by kernel_rfl) (by kernel_rfl) (by kernel_rfl) (fun _ _ _ h => h) (Or.inl ⟨by rfl, fun w hSw => ?_⟩) hHeld ?_
        rotate_left
        · (have hSw1 := hSw; go_simp)
          try with_reducible rfl
        simp only [Act.put, List.setIfInBounds_toArray, List.set_cons_zero, List.set_cons_succ]
        refine take_list (i := 9) (v := ?_) rfl (by kernel_rfl) (by kernel_rfl) (by kernel_rfl) (fun _ _ _ h => h) (Or.inl ⟨by rfl, fun w hSw => ?_⟩) hHeld ?_
        rotate_left
        · (have hSw1 := hSw; go_simp)
          try with_reducible rfl
        simp only [Act.put, List.setIfInBounds_toArray, List.set_cons_zero, List.set_cons_succ]
        refine take_list (i := 10) (v := ?_) rfl (by kernel_rfl) (by kernel_rfl) (by kernel_rfl) (fun _ _ _ h => h) (Or.inl ⟨by rfl, fun w hSw => ?_⟩) hHeld ?_
        rotate_left
        · (have hSw1 := hSw; go_simp)
          try with_reducible rfl
        simp only [Act.put, List.setIfInBounds_toArray, List.set_cons_zero, List.set_cons_succ]
        refine take_list (i := 11) (v := ?_) rfl (by kernel_rfl) (by kernel_rfl) (by kernel_rfl) (fun _ _ _ h => h) (Or.inl ⟨by rfl, fun w hSw => ?_⟩) hHeld ?_
        rotate_left
        · (have hSw1 := hSw; go_simp)
          try with_reducible rfl
        simp only [Act.put, List.setIfInBounds_toArray, List.set_cons_zero, List.set_cons_succ]
        refine take_list (i := 12) (v := ?_) rfl (by kernel_rfl) (by kernel_rfl) (by kernel_rfl) (fun _ _ _ h => h) (Or.inl ⟨by rfl, fun w hSw => ?_⟩) hHeld ?_
        rotate_left
        · (have hSw1 := hSw; go_simp)
          try with_reducible rfl
        simp only [Act.put, List.setIfInBounds_toArray, List.set_cons_zero, List.set_cons_succ]
        refine wpAnyH_ready (rs := [13]) (by kernel_rfl) (by simp) (one_list (i := 13) rfl (by rfl) (fun K hK => ?_) AllReadyH.nil)
        go_simp
        refine (at_any _ HR2.out i hiB (mm : Int) hS).mono ?_
        rw [strV, HSx.out]
        rintro e w5 ⟨rfl, rfl⟩
        dsimp only
        refine hK _ _ D0.out (fun hH2 => ?_)
        try simp only [Act.put, List.setIfInBounds_toArray, List.set_cons_zero, List.set_cons_succ]
        refine take_list (i := 14) (v := ?_) rfl (by kernel_rfl) (by kernel_rfl) (by kernel_rfl) (fun _ _ _ h => h) (Or.inl ⟨by rfl, fun w hSw => ?_⟩) hH2 ?_
        rotate_left
        · (have hSw1 := hSw; go_simp)
          try with_reducible rfl
        simp only [Act.put, List.setIfInBounds_toArray, List.set_cons_zero, List.set_cons_succ]
        refine wpAnyH_ready (rs := [15]) (by kernel_rfl) (by simp) (one_list (i := 15) rfl (by rfl) (fun K hK => ?_) AllReadyH.nil)
        go_simp
        refine hK _ _ ((HCs.out.cell D0.out Hne2.out)) (fun hH3 => ?_)
        try simp only [Act.put, List.setIfInBounds_toArray, List.set_cons_zero, List.set_cons_succ]
        refine wpAnyH_done (by kernel_rfl) ?_ _
        refine NoPanic.normal ?_
        go_wp2_with fail
        exact ⟨⟨k + 1, by go_num, hlt, HFin.out⟩, meas_step hlt⟩
      · have hm0 : keepAt keep k (sel R.S i).length = 0 := by simp [keepAt, hz, hz0]
        clear hz
        have HOw := Lib.hid (row_kept HO.out ((Chg.refl (fun _ => False) wr).drew) (fun _ _ h => h))
        obtain ⟨sx, hsx⟩ : ∃ sx : ByteArray, (⟨(R.at i ((keepAt keep k (sel R.S i).length : Nat) : Int)).toArray⟩ : ByteArray) = sx := ⟨_, rfl⟩
        have hcs : Chg (· = go) wr (wr.drew.setCell ⟨go, i, none⟩ (.string sx)) := Chg.setCell (S := (· = go)) ((Chg.refl _ _).drew) (fun _ => rfl) _
        have hst := (HOw.out.stored i (.string sx)).1
        have hfin : ((wr.drew.setCell ⟨go, i, none⟩ (.string sx)).ownsRow w.heap.size 9 1 (.slice (some ⟨go, 0, none⟩) R.B.length cu) R.B.length ((R.crashN keep (k + 1)).map strV)) ∧ OwnRecs (wr.drew.setCell ⟨go, i, none⟩ (.string sx)) w.heap.size 114 2 (.slice (some ⟨g2, 0, none⟩) (refWaits R).length cW) ((refWaits R).map encW) ∧ Chg (fun _ => False) w (wr.drew.setCell ⟨go, i, none⟩ (.string sx)) := by
          refine ⟨?_, HV.out.kept hcs (fun j hj e => Hne2.out (by cases hj; exact e)), HC.out.new hcs (fun j e => by rw [e]; exact Hgo.out)⟩
          have e1 : (R.crashN keep (k + 1)).map strV = ((R.crashN keep k).map strV).set i (.string sx) := by
            rw [RV.crashN, HP.out]
            simp only
            rw [List.map_set, strV, hsx]
          rw [e1]
          exact hst
        have HSx := Lib.hid hsx
        have HCs := Lib.hid hcs
        have HFin := Lib.hid hfin
        clear hsx hcs hst hfin
        rw [hm0] at HSx
        have HR2 := Lib.hid (HR.out.kept ((Chg.refl (fun _ => False) wr).drew) (fun _ _ h => h))
        go_wp2_with fail
        refine wp_region_noPanic ?_
        refine wp_region_held_drew (S := (fun w' => w'.cell? ⟨g2, k * 2, none⟩ = some (.int .i64 (i : Int)))) (by kernel_rfl) (D0.out) (fun hHeld => ?_)
        refine take_list (i := 0) (v := ?_) rfl (by kernel_rfl) (by kernel_rfl) (by kernel_rfl) (fun _ _ _ h => h) (Or.inl ⟨by rfl, fun w hSw => ?_⟩) hHeld ?_
        rotate_left
        · (have hSw1 := hSw; go_simp)
          try with_reducible rfl
        simp only [Act.put, List.setIfInBounds_toArray, List.set_cons_zero, List.set_cons_succ]
        refine take_list (i := 1) (v := ?_) rfl (by kernel_rfl) (by kernel_rfl) (by kernel_rfl) (fun _ _ _ h => h) (Or.inl ⟨by rfl, fun w hSw => ?_⟩) hHeld ?_
        rotate_left
        · (have hSw1 := hSw; go_simp)
          try with_reducible rfl
        simp only [Act.put, List.setIfInBounds_toArray, List.set_cons_zero, List.set_cons_succ]
        refine take_list (i := 2) (v := ?_) rfl (by kernel_rfl) (by kernel_rfl) (by kernel_rfl) (fun _ _ _ h => h) (Or.inl ⟨by rfl, fun w hSw => ?_⟩) hHeld ?_
        rotate_left
        · (have hSw1 := hSw; go_simp)
          try with_reducible rfl
        simp only [Act.put, List.setIfInBounds_toArray, List.set_cons_zero, List.set_cons_succ]
        refine take_list (i := 3) (v := ?_) rfl (by kernel_rfl) (by kernel_rfl) (by kernel_rfl) (fun _ _ _ h => h) (Or.inl ⟨by rfl, fun w hSw => ?_⟩) hHeld ?_
        rotate_left
        · (have hSw1 := hSw; go_simp)
          try with_reducible rfl
        simp only [Act.put, List.setIfInBounds_toArray, List.set_cons_zero, List.set_cons_succ]
        refine take_list (i := 4) (v := ?_) rfl (by kernel_rfl) (by kernel_rfl) (by kernel_rfl) (fun _ _ _ h => h) (Or.inl ⟨by rfl, fun w hSw => ?_⟩) hHeld ?_
        rotate_left
        · (have hSw1 := hSw; go_simp)
          try with_reducible rfl
        simp only [Act.put, List.setIfInBounds_toArray, List.set_cons_zero, List.set_cons_succ]
        refine take_list (i := 5) (v := ?_) rfl (by kernel_rfl) (by kernel_rfl) (by kernel_rfl) (fun _ _ _ h => h) (Or.inl ⟨by rfl, fun w hSw => ?_⟩) hHeld ?_
        rotate_left
        · (have hSw1 := hSw; go_simp)
          try with_reducible rfl
        simp only [Act.put, List.setIfInBounds_toArray, List.set_cons_zero, List.set_cons_succ]
        refine take_list (i := 6) (v := ?_) rfl (by kernel_rfl) (by kernel_rfl) (by kernel_rfl) (fun _ _ _ h => h) (Or.inl ⟨by rfl, fun w hSw => ?_⟩) hHeld ?_
        rotate_left
        · (have hSw1 := hSw; go_simp)
          try with_reducible rfl
        simp only [Act.put, List.setIfInBounds_toArray, List.set_cons_zero, List.set_cons_succ]
        refine take_list (i := 7) (v := ?_) rfl (by kernel_rfl) (by kernel_rfl) (by kernel_rfl) (fun _ _ _ h => h) (Or.inl ⟨by rfl, fun w hSw => ?_⟩) hHeld ?_
        rotate_left
        · (have hSw1 := hSw; go_simp)
          try with_reducible rfl
        simp only [Act.put, List.setIfInBounds_toArray, List.set_cons_zero, List.set_cons_succ]
        refine take_list (i := 8) (v := ?_) rfl (by kernel_rfl) (by kernel_rfl) (by kernel_rfl) (fun _ _ _ h => h) (Or.inl ⟨by rfl, fun w hSw => ?_⟩) hHeld ?_
        rotate_left
        · (have hSw1 := hSw; go_simp)
          try with_reducible rfl
        simp only [Act.put, List.setIfInBounds_toArray, List.set_cons_zero, List.set_cons_succ]
        refine take_list (i := 9) (v := ?_) rfl (by kernel_rfl) (by kernel_rfl) (by kernel_rfl) (fun _ _ _ h => h) (Or.inl ⟨by rfl, fun w hSw => ?_⟩) hHeld ?_
        rotate_left
        · (have hSw1 := hSw; go_simp)
          try with_reducible rfl
        simp only [Act.put, List.setIfInBounds_toArray, List.set_cons_zero, List.set_cons_succ]
        refine take_list (i := 10) (v := ?_) rfl (by kernel_rfl) (by kernel_rfl) (by kernel_rfl) (fun _ _ _ h => h) (Or.inl ⟨by rfl, fun w hSw => ?_⟩) hHeld ?_
        rotate_left
        · (have hSw1 := hSw; go_simp)
          try with_reducible rfl
        simp only [Act.put, List.setIfInBounds_toArray, List.set_cons_zero, List.set_cons_succ]
        refine take_list (i := 11) (v := ?_) rfl (by kernel_rfl) (by kernel_rfl) (by kernel_rfl) (fun _ _ _ h => h) (Or.inl ⟨by rfl, fun w hSw => ?_⟩) hHeld ?_
        rotate_left
        · (have hSw1 := hSw; go_simp)
          try with_reducible rfl
        simp only [Act.put, List.setIfInBounds_toArray, List.set_cons_zero, List.set_cons_succ]
        refine take_list (i := 12) (v := ?_) rfl (by kernel_rfl) (by kernel_rfl) (by kernel_rfl) (fun _ _ _ h => h) (Or.inl ⟨by rfl, fun w hSw => ?_⟩) hHeld ?_
        rotate_left
        · (have hSw1 := hSw; go_simp)
          try with_reducible rfl
        simp only [Act.put, List.setIfInBounds_toArray, List.set_cons_zero, List.set_cons_succ]
        refine wpAnyH_ready (rs := [13]) (by kernel_rfl) (by simp) (one_list (i := 13) rfl (by rfl) (fun K hK => ?_) AllReadyH.nil)
        go_simp
        refine (at_any _ HR2.out i hiB ((0 : Nat) : Int) hS).mono ?_
        rw [strV, HSx.out]
        rintro e w5 ⟨rfl, rfl⟩
        dsimp only
        refine hK _ _ D0.out (fun hH2 => ?_)
        try simp only [Act.put, List.setIfInBounds_toArray, List.set_cons_zero, List.set_cons_succ]
        refine take_list (i := 14) (v := ?_) rfl (by kernel_rfl) (by kernel_rfl) (by kernel_rfl) (fun _ _ _ h => h) (Or.inl ⟨by rfl, fun w hSw => ?_⟩) hH2 ?_
        rotate_left
        · (have hSw1 := hSw; go_simp)
          try with_reducible rfl
        simp only [Act.put, List.setIfInBounds_toArray, List.set_cons_zero, List.set_cons_succ]
        refine wpAnyH_ready (rs := [15]) (by kernel_rfl) (by simp) (one_list (i := 15) rfl (by rfl) (fun K hK => ?_) AllReadyH.nil)
        go_simp
        refine hK _ _ ((HCs.out.cell D0.out Hne2.out)) (fun hH3 => ?_)
        try simp only [Act.put, List.setIfInBounds_toArray, List.set_cons_zero, List.set_cons_succ]
        refine wpAnyH_done (by kernel_rfl) ?_ _
        refine NoPanic.normal ?_
        go_wp2_with fail
        exact ⟨⟨k + 1, by go_num, hlt, HFin.out⟩, meas_step hlt⟩
  · have hk' : ¬ (k : Int) < ((refWaits R).length : Int) := by omega
    obtain rfl : k = (refWaits R).length := by omega
    have z0 : wr.frozen? ⟨r, 0, none⟩ = false := free_of_block HR.out.head
    have hh1 := block_setCell (i := 0) (v := .slice (some ⟨go, 0, none⟩) R.B.length cu) HR.out.head
    obtain ⟨wa, hwa⟩ : ∃ wa, wr.setCell ⟨r, 0, none⟩ (.slice (some ⟨go, 0, none⟩) R.B.length cu) = wa := ⟨_, rfl⟩
    have hca : Chg (· = r) wr wa := by rw [← hwa]; exact Chg.setCell (S := (· = r)) (Chg.refl _ _) (fun _ => rfl) _
    rw [hwa] at hh1
    have z1 : wa.frozen? ⟨r, 1, none⟩ = false := free_of_block hh1
    have e1 : wa.cell? ⟨r, 1, none⟩ = some lv := cell_of_block hh1 rfl
    have hh2 := block_setCell (i := 1) (v := .slice none 0 0) hh1
    obtain ⟨wb, hwb⟩ : ∃ wb, wa.setCell ⟨r, 1, none⟩ (.slice none 0 0) = wb := ⟨_, rfl⟩
    have hcb : Chg (· = r) wa wb := by rw [← hwb]; exact Chg.setCell (S := (· = r)) (Chg.refl _ _) (fun _ => rfl) _
    rw [hwb] at hh2
    have z2 : wb.frozen? ⟨r, 2, none⟩ = false := free_of_block hh2
    have e2 : wb.cell? ⟨r, 2, none⟩ = some (.int .i64 R.fuse) := cell_of_block hh2 rfl
    have hh3 := block_setCell (i := 2) (v := .int .i64 (-1)) hh2
    obtain ⟨wc, hwc⟩ : ∃ wc, wb.setCell ⟨r, 2, none⟩ (.int .i64 (-1)) = wc := ⟨_, rfl⟩
    have hcc : Chg (· = r) wb wc := by rw [← hwc]; exact Chg.setCell (S := (· = r)) (Chg.refl _ _) (fun _ => rfl) _
    rw [hwc] at hh3
    have z3 : wc.frozen? ⟨r, 3, none⟩ = false := free_of_block hh3
    have e3 : wc.cell? ⟨r, 3, none⟩ = some (.bool R.down) := cell_of_block hh3 rfl
    have hh4 := block_setCell (i := 3) (v := .bool false) hh3
    have hcd : Chg (· = r) wc (wc.setCell ⟨r, 3, none⟩ (.bool false)) := Chg.setCell (S := (· = r)) (Chg.refl _ _) (fun _ => rfl) _
    have e0 : wr.cell? ⟨r, 0, none⟩ = some (.slice (some ⟨gb, 0, none⟩) R.B.length cb) := cell_of_block HR.out.head rfl
    have HH4 := Lib.hid hh4
    have HCs := Lib.hid (((hca.trans' hcb).trans' hcc).trans' hcd)
    clear hh1 hca hh2 hcb hh3 hcc hh4 hcd
    go_wp2_with fail
    all_goals (try rw [hwa])
    go_wp2_with fail
    all_goals (try rw [hwb])
    go_wp2_with fail
    all_goals (try rw [hwc])
    go_wp2_with fail
    go_end0
    have hbn : ∀ g, (Value.slice (some ⟨go, 0, none⟩) R.B.length cu).ownBlock = some g → ¬ g = r := fun g hg e => by
      obtain ⟨c1, e1⟩ := row_obj HO.out hg
      rw [e, HR.out.head, objR] at e1
      simp only [Option.some.injEq, Obj.cells.injEq] at e1
      exact types_ref.1 e1.2.1
    have hs := HC.out.size
    have hs' := HCs.out.size
    refine ⟨rfl, ⟨.slice (some ⟨go, 0, none⟩) R.B.length cu, .slice none 0 0, HH4.out.trans rfl, ?_, OwnRecs.nil _ _ _ _, Or.inl H.out.fr, fun g hg => ?_, by simp [Value.ownBlock], ?_⟩, ?_⟩
    · have h1 := row_kept HO.out HCs.out hbn
      have e1 : (R.crash keep).B.length = R.B.length := crashR_len R keep _
      rw [e1]
      exact World.ownsRow.mono h1 (Nat.zero_le _)
    · have h1 := HO.out.lt g hg
      exact Or.inr ⟨h1.1, by omega⟩
    · rintro j (hj | hj)
      · have := H.out.lt j hj; omega
      · exact hj.2
    · exact (HC.out.mono (fun _ _ h => h.elim)).trans' (HCs.out.mono (fun j _ e => by rw [e]; exact H.out.fr))

end Go.Proofs.Ytomceindibnpnaa.disks

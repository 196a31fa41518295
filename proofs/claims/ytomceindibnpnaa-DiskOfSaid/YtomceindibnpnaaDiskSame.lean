/-
  disk's law: 'same': the disk's image, its numbers and what waits are the document's.
-/
import Derived.Test.YtomceindibnpnaaDiskDuo
import Derived.Deep.RegionHeld3
namespace Go.Proofs.Ytomceindibnpnaa.disks
open Go.RowKit Go.Maps Go.My Go.ChangeMaps diskTwins
set_option maxRecDepth 100000

variable {W w w' : World} {d r : Nat} {Fd Fr : Nat → Prop} {X X' : DV} {R R' : RV} {n : Nat}

set_option maxHeartbeats 4000000 in
theorem same_any (w : World) (h : Duo W w d r Fd Fr X R) (hl : Link X R n) (hn : n < 1000000) :
    Calls Try.prog 46 #[.pointer (some ⟨d, 0, none⟩), .pointer (some ⟨r, 0, none⟩)] w fun e w' => e = .returned (.bool true) ∧ Chg (fun _ => False) w w' := by
  have hB4 : X.B.length ≤ 4096 := by obtain ⟨_, _, _, h⟩ := h.x; exact h.size
  have hRB4 : R.B.length ≤ 4096 := by rw [hl.m.B]; exact hB4
  have hRS : R.S.length < 1000000 := Nat.lt_of_le_of_lt hl.S hn
  have hwl : (waitsOf X).length ≤ 4096 := Nat.le_trans (waitsOf_len X) hB4
  have hwR : refWaits R = waitsOf X := hl.m.waits
  have hXB := hl.m.B
  have hXd := hl.m.down
  have hXn := hl.m.done
  have hb64 : ∀ b ∈ X.B, b.length = 64 := by
    obtain ⟨_, _, _, h⟩ := h.x
    intro b hb
    have := h.rows.each _ (List.mem_map_of_mem hb)
    rwa [cellsB_length] at this
  have HX := Lib.hid h.x
  have HY := Lib.hid h.y
  obtain ⟨bv, lv, hI⟩ := h.y
  obtain ⟨oab, cb, rfl⟩ := own_slice hI.rows
  have HI := Lib.hid hI
  have hrB : w.cell? ⟨r, 0, none⟩ = some (.slice oab X.B.length cb) := by rw [← hXB]; exact cell_of_block hI.head rfl
  have hr3 : w.cell? ⟨r, 3, none⟩ = some (.bool X.down) := by rw [← hXd]; exact cell_of_block hI.head rfl
  have hr4 : w.cell? ⟨r, 4, none⟩ = some (.int .i64 X.done) := by rw [← hXn]; exact cell_of_block hI.head rfl
  have HrB := Lib.hid hrB
  have Hr3 := Lib.hid hr3
  have Hr4 := Lib.hid hr4
  have HXB := Lib.hid hXB
  have H64 := Lib.hid hb64
  have HwR := Lib.hid hwR
  have HWl := Lib.hid hwl
  obtain ⟨N, hN⟩ : ∃ N, N = X.B.length := ⟨_, rfl⟩
  rw [← hN] at HrB hB4
  have HNx := Lib.hid hN
  clear h hl hI hrB hr3 hr4 hXB hXd hXn hb64 hwR hwl hn hN
  go_enter Try.func46, Try.ntmps46
  go_wp2_with (first
    | (go_at_call 31; refine (image_at _ HX.out).mono ?_; rintro e w1 ⟨v, rfl, hv, hc1⟩
       obtain ⟨oai, capi, rfl⟩ := hv.sl
       rw [← HNx.out]
       have HV := Lib.hid hv
       have HC1 := Lib.hid hc1
       have hrB := hc1.cell HrB.out id
       have hr3 := hc1.cell Hr3.out id
       have hr4 := hc1.cell Hr4.out id
       clear hv hc1))
  have hb1 : ((N : Int) != (N : Int)) = false := by simp
  have hb2 : ((!X.down) == X.down) = false := by cases X.down <;> rfl
  have hb3 : (X.done != X.done) = false := by simp
  have hch : Chg (fun _ => False) w1 w1.drew := (Chg.refl _ _).drew
  go_region_held3 (fun w' => Chg (fun _ => False) w1 w' ∧ w'.cell? ⟨r, 0, none⟩ = some (.slice oab N cb) ∧ w'.cell? ⟨r, 3, none⟩ = some (.bool X.down) ∧ w'.cell? ⟨r, 4, none⟩ = some (.int .i64 X.done)) (go_keep)
    (first
    | (go_at_call 47; refine (blocks_any _ (HX.out.fresh (HC1.out.trans' (by assumption)))).mono ?_; rw [← HNx.out]; rintro e wx ⟨rfl, rfl⟩)
    | (go_at_call 37; refine (up_any _ (HX.out.fresh (HC1.out.trans' (by assumption)))).mono ?_; rintro e wx ⟨rfl, rfl⟩)
    | (go_at_call 40; refine (done_any _ (HX.out.fresh (HC1.out.trans' (by assumption)))).mono ?_; rintro e wx ⟨rfl, rfl⟩)
    | (go_at_call 36; refine (waiting_at _ (HX.out.fresh (HC1.out.trans' (by assumption)))).mono ?_; rintro e wx ⟨v2, rfl, ho2, hcx⟩; have Ho2 := Lib.hid ho2; clear ho2; have hC := Chg.trans' (S := fun _ => False) (a := w1) (by assumption) hcx; have HCa := Lib.hid hC; have e0 := (HC1.out.trans' hC).cell HrB.out id; have e3 := (HC1.out.trans' hC).cell Hr3.out id; have e4 := (HC1.out.trans' hC).cell Hr4.out id; clear hcx)
    | (go_at_call 72; refine (refwaiting_any _ (HI.out.kept (HC1.out.trans' (by assumption)) (fun _ _ h => h)) hRS hRB4).mono ?_; rw [HwR.out]; rintro e wx ⟨v3, rfl, ho3, hcx⟩; have Ho3 := Lib.hid ho3; have Ho4 := Lib.hid (Ho2.out.kept hcx (fun _ _ h => h)); clear ho3; have hC := Chg.trans' (S := fun _ => False) (a := w1) (by assumption) hcx; have e0 := (HC1.out.trans' hC).cell HrB.out id; have e3 := (HC1.out.trans' hC).cell Hr3.out id; have e4 := (HC1.out.trans' hC).cell Hr4.out id; clear hcx)
    | (go_at_call 42; refine (waits_same _ Ho4.out Ho3.out HWl.out).mono ?_; rintro e wx ⟨rfl, hcx⟩; have hC := Chg.trans' (S := fun _ => False) (a := w1) (by assumption) hcx; have e0 := (HC1.out.trans' hC).cell HrB.out id; have e3 := (HC1.out.trans' hC).cell Hr3.out id; have e4 := (HC1.out.trans' hC).cell Hr4.out id; clear hcx))
  obtain ⟨gs, hgl, hgr, hge, hga⟩ := (HV.out.kept hC (fun _ _ h => h)).ex
  rw [← HNx.out] at hgl hgr
  have HGl := Lib.hid hgl
  have HGr := Lib.hid hgr
  have HGe := Lib.hid hge
  have HGa := Lib.hid hga
  have HWx := Lib.hid (HC1.out.trans' hC)
  clear hgl hgr hge hga hC e0 e3 e4 hrB hr3 hr4 hch hb1 hb2 hb3 HV HC1 Ho2 Ho3 Ho4 HCa
  go_wp2_with fail
  go_loopw [56] (fun j wr => ∃ i : Nat, j = .int .i64 i ∧ i ≤ N ∧ wr.ownsRow w.heap.size 68 1 (.slice oai N capi) N gs ∧ (∀ (t : Nat) g b, i ≤ t → gs[t]? = some g → X.B[t]? = some b → wr.ownsRow w.heap.size 5 1 g b.length (cellsB b)) ∧ Chg (fun _ => False) w wr) (fun j _ => N - (intOf j).toNat)
  · exact ⟨0, rfl, Nat.zero_le _, HGr.out, fun t g b _ hg hb => (HGe.out t g b hg hb).1, HWx.out⟩
  obtain ⟨i, rfl, hi, hro, hrg, hc⟩ := hrel
  have HRo := Lib.hid hro
  have HRg := Lib.hid hrg
  have HC := Lib.hid hc
  clear hro hrg hc HGr HGe HWx
  by_cases hlt : i < N
  · have hii : (i : Int) < (N : Int) := by omega
    have hib : i < X.B.length := by rw [← HNx.out]; exact hlt
    have hig : i < gs.length := by rw [HGl.out]; exact hlt
    obtain ⟨b, hb⟩ : ∃ b, X.B[i]? = some b := ⟨X.B[i], List.getElem?_eq_getElem hib⟩
    obtain ⟨g, hg⟩ : ∃ g, gs[i]? = some g := ⟨gs[i], List.getElem?_eq_getElem hig⟩
    have hb64 : b.length = 64 := H64.out b (List.mem_of_getElem? hb)
    have hrow := HRg.out i g b (Nat.le_refl _) hg hb
    rw [hb64] at hrow
    obtain ⟨oag, cg, rfl⟩ := own_slice hrow
    obtain ⟨go, e1, hcg⟩ : ∃ go, oai = some ⟨go, 0, none⟩ ∧ wr.cell? ⟨go, i, none⟩ = some (.slice oag 64 cg) := by
      rcases HRo.out.2 with ⟨e1, h0⟩ | ⟨go, cap', cur, e1, -⟩
      · omega
      · simp only [Value.slice.injEq] at e1
        obtain ⟨rfl, -, -⟩ := e1
        refine ⟨go, rfl, ?_⟩
        obtain ⟨hx, h1, -⟩ := own_cell HRo.out hlt
        rw [h1]
        rw [List.getElem?_eq_getElem hig] at hg
        exact hg
    subst e1
    obtain ⟨str, hstr⟩ : ∃ str : ByteArray, (⟨b.toArray⟩ : ByteArray) = str := ⟨_, rfl⟩
    obtain ⟨gB, e2, hcB⟩ : ∃ gB, oab = some ⟨gB, 0, none⟩ ∧ wr.cell? ⟨gB, i, none⟩ = some (.string str) := by
      have hrr := (HI.out.kept HC.out (fun _ _ h => h)).rows
      have hRl : R.B.length = N := by rw [HXB.out]; exact HNx.out.symm
      have hiR : i < R.B.length := by omega
      have hbR : R.B[i] = b := by
        have h1 := List.getElem?_eq_getElem hiR
        have h2 : R.B[i]? = some b := by rw [HXB.out]; exact hb
        rw [h2] at h1
        exact (Option.some.inj h1).symm
      rcases hrr.2 with ⟨e1, h0⟩ | ⟨go, cap', cur, e1, -⟩
      · omega
      · simp only [Value.slice.injEq] at e1
        obtain ⟨rfl, -, -⟩ := e1
        refine ⟨go, rfl, ?_⟩
        obtain ⟨hx, h1, -⟩ := own_cell hrr hiR
        rw [h1, List.getElem_map, hbR, strV, hstr]
    subst e2
    have hcv : (convert 68 9 (.slice oag 64 cg)).run Try.prog wr.drew = .ok (.string str) wr.drew := by
      have h1 := conv_own (row_kept hrow ((Chg.refl (fun _ => False) wr).drew) (fun _ _ h => h))
      rw [hstr] at h1
      exact h1
    have hrB := HC.out.cell HrB.out id
    have hgo : ∀ k, (Value.slice oag 64 cg).ownBlock = some k → ¬ go = k := fun k hk e => by
      obtain ⟨c1, h1⟩ := row_obj hrow hk
      obtain ⟨c2, h2⟩ := row_obj HRo.out (g := go) rfl
      rw [← e, h2] at h1
      simp only [Option.some.injEq, Obj.cells.injEq] at h1
      exact types_ne' h1.2.1
    have HGo := Lib.hid hgo
    have HRow := Lib.hid hrow
    have HCg := Lib.hid hcg
    have HCB := Lib.hid hcB
    have HCv := Lib.hid hcv
    have HrB2 := Lib.hid hrB
    have Hg := Lib.hid hg
    clear hgo hrow hcg hcB hcv hrB hg hb hstr hb64
    go_wp2_with fail
    refine wp_region_noPanic ?_
    refine wp_region_held_drew (S := (fun w' => w'.cell? ⟨go, i, none⟩ = some (.slice oag 64 cg) ∧ (convert 68 9 (.slice oag 64 cg)).run Try.prog w' = .ok (.string str) w' ∧ w'.cell? ⟨r, 0, none⟩ = some (.slice (some ⟨gB, 0, none⟩) N cb) ∧ w'.cell? ⟨gB, i, none⟩ = some (.string str))) (by kernel_rfl) (⟨HCg.out, HCv.out, HrB2.out, HCB.out⟩) (fun hHeld => ?_)
    refine take_list (i := 0) (v := ?_) rfl (by kernel_rfl) (by kernel_rfl) (by kernel_rfl) (fun _ _ _ h => h) (Or.inl ⟨by rfl, fun w hSw => ?_⟩) hHeld ?_
    rotate_left
    · (obtain ⟨hSw1, hSw2, hSw3, hSw4⟩ := hSw; go_simp)
      try with_reducible rfl
    simp only [Act.put, List.setIfInBounds_toArray, List.set_cons_zero, List.set_cons_succ]
    refine take_list (i := 1) (v := ?_) rfl (by kernel_rfl) (by kernel_rfl) (by kernel_rfl) (fun _ _ _ h => h) (Or.inl ⟨by rfl, fun w hSw => ?_⟩) hHeld ?_
    rotate_left
    · (obtain ⟨hSw1, hSw2, hSw3, hSw4⟩ := hSw; go_simp)
      try with_reducible rfl
    simp only [Act.put, List.setIfInBounds_toArray, List.set_cons_zero, List.set_cons_succ]
    refine take_list (i := 2) (v := ?_) rfl (by kernel_rfl) (by kernel_rfl) (by kernel_rfl) (fun _ _ _ h => h) (Or.inl ⟨by rfl, fun w hSw => ?_⟩) hHeld ?_
    rotate_left
    · (obtain ⟨hSw1, hSw2, hSw3, hSw4⟩ := hSw; go_simp)
      try with_reducible rfl
    simp only [Act.put, List.setIfInBounds_toArray, List.set_cons_zero, List.set_cons_succ]
    refine take_list (i := 3) (v := ?_) rfl (by kernel_rfl) (by kernel_rfl) (by kernel_rfl) (fun _ _ _ h => h) (Or.inl ⟨by rfl, fun w hSw => ?_⟩) hHeld ?_
    rotate_left
    · (obtain ⟨hSw1, hSw2, hSw3, hSw4⟩ := hSw; go_simp)
      try with_reducible rfl
    simp only [Act.put, List.setIfInBounds_toArray, List.set_cons_zero, List.set_cons_succ]
    refine take_list (i := 4) (v := ?_) rfl (by kernel_rfl) (by kernel_rfl) (by kernel_rfl) (fun _ _ _ h => h) (Or.inl ⟨by rfl, fun w hSw => ?_⟩) hHeld ?_
    rotate_left
    · (obtain ⟨hSw1, hSw2, hSw3, hSw4⟩ := hSw; go_simp)
      try with_reducible rfl
    simp only [Act.put, List.setIfInBounds_toArray, List.set_cons_zero, List.set_cons_succ]
    refine take_list (i := 5) (v := ?_) rfl (by kernel_rfl) (by kernel_rfl) (by kernel_rfl) (fun _ _ _ h => h) (Or.inl ⟨by rfl, fun w hSw => ?_⟩) hHeld ?_
    rotate_left
    · (obtain ⟨hSw1, hSw2, hSw3, hSw4⟩ := hSw; go_simp)
      try with_reducible rfl
    simp only [Act.put, List.setIfInBounds_toArray, List.set_cons_zero, List.set_cons_succ]
    refine take_list (i := 6) (v := ?_) rfl (by kernel_rfl) (by kernel_rfl) (by kernel_rfl) (fun _ _ _ h => h) (Or.inl ⟨by rfl, fun w hSw => ?_⟩) hHeld ?_
    rotate_left
    · (obtain ⟨hSw1, hSw2, hSw3, hSw4⟩ := hSw; go_simp)
      try with_reducible rfl
    simp only [Act.put, List.setIfInBounds_toArray, List.set_cons_zero, List.set_cons_succ]
    refine take_list (i := 7) (v := ?_) rfl (by kernel_rfl) (by kernel_rfl) (by kernel_rfl) (fun _ _ _ h => h) (Or.inl ⟨by rfl, fun w hSw => ?_⟩) hHeld ?_
    rotate_left
    · (obtain ⟨hSw1, hSw2, hSw3, hSw4⟩ := hSw; go_simp)
      try with_reducible rfl
    simp only [Act.put, List.setIfInBounds_toArray, List.set_cons_zero, List.set_cons_succ]
    refine take_list (i := 8) (v := ?_) rfl (by kernel_rfl) (by kernel_rfl) (by kernel_rfl) (fun _ _ _ h => h) (Or.inl ⟨by rfl, fun w hSw => ?_⟩) hHeld ?_
    rotate_left
    · (obtain ⟨hSw1, hSw2, hSw3, hSw4⟩ := hSw; go_simp)
      try with_reducible rfl
    simp only [Act.put, List.setIfInBounds_toArray, List.set_cons_zero, List.set_cons_succ]
    refine take_list (i := 9) (v := ?_) rfl (by kernel_rfl) (by kernel_rfl) (by kernel_rfl) (fun _ _ _ h => h) (Or.inl ⟨by rfl, fun w hSw => ?_⟩) hHeld ?_
    rotate_left
    · (obtain ⟨hSw1, hSw2, hSw3, hSw4⟩ := hSw; go_simp)
      try with_reducible rfl
    simp only [Act.put, List.setIfInBounds_toArray, List.set_cons_zero, List.set_cons_succ]
    refine take_list (i := 10) (v := ?_) rfl (by kernel_rfl) (by kernel_rfl) (by kernel_rfl) (fun _ _ _ h => h) (Or.inl ⟨by rfl, fun w hSw => ?_⟩) hHeld ?_
    rotate_left
    · (obtain ⟨hSw1, hSw2, hSw3, hSw4⟩ := hSw; go_simp)
      try with_reducible rfl
    simp only [Act.put, List.setIfInBounds_toArray, List.set_cons_zero, List.set_cons_succ]
    refine take_list (i := 11) (v := ?_) rfl (by kernel_rfl) (by kernel_rfl) (by kernel_rfl) (fun _ _ _ h => h) (Or.inl ⟨by rfl, fun w hSw => ?_⟩) hHeld ?_
    rotate_left
    · (obtain ⟨hSw1, hSw2, hSw3, hSw4⟩ := hSw; go_simp)
      try with_reducible rfl
    simp only [Act.put, List.setIfInBounds_toArray, List.set_cons_zero, List.set_cons_succ]
    refine take_list (i := 12) (v := ?_) rfl (by kernel_rfl) (by kernel_rfl) (by kernel_rfl) (fun _ _ _ h => h) (Or.inl ⟨by rfl, fun w hSw => ?_⟩) hHeld ?_
    rotate_left
    · (obtain ⟨hSw1, hSw2, hSw3, hSw4⟩ := hSw; go_simp)
      try with_reducible rfl
    simp only [Act.put, List.setIfInBounds_toArray, List.set_cons_zero, List.set_cons_succ]
    refine wpAnyH_done (by kernel_rfl) ?_ _
    refine NoPanic.normal ?_
    clear hHeld
    have hcg := HCg.out
    go_wp2_with fail
    go_loopw [77] (fun j wr' => ∃ k : Nat, j = .int .i64 k ∧ k ≤ 64 ∧ (∃ b' : Blk, wr'.ownsRow w.heap.size 5 1 (.slice oag 64 cg) 64 (cellsB b')) ∧ Chg (fun x => (Value.slice oag 64 cg).ownBlock = some x) wr wr') (fun j _ => 64 - (intOf j).toNat)
    · exact ⟨0, rfl, Nat.zero_le _, ⟨b, row_kept HRow.out ((Chg.refl (fun _ => False) wr).drew) (fun _ _ h => h)⟩, (Chg.refl _ _).drew⟩
    clear hcg
    obtain ⟨k, rfl, hk, ⟨b', hb'⟩, hc'⟩ := hrel
    have HC' := Lib.hid hc'
    have hcg := hc'.cell HCg.out (fun e => HGo.out _ e rfl)
    have hlt' : i < N := hlt
    by_cases hltk : k < 64
    · have hkk : (k : Int) < 64 := by omega
      obtain ⟨gg, c, rfl, hcc, hzz, hbg, hbg2, hnext⟩ := inc_at hb' hltk
      have HNext := Lib.hid hnext
      clear hb' hc' hnext
      go_wp2_with fail
      refine ⟨⟨k + 1, by go_num, hltk, ⟨_, HNext.out _ (by first | exact inc_wrap _ | exact inc_mod _)⟩, HC'.out.setCell (p := ⟨gg, k, none⟩) (fun _ => rfl) _⟩, meas_step hltk⟩
    · have hkk : ¬ (k : Int) < 64 := by omega
      clear hb' hc'
      go_wp2_with fail
      have hcn : Chg (fun _ => False) w wr := HC.out.new HC'.out (fun x e => (HRow.out.lt x e).1)
      refine ⟨⟨i + 1, by go_num, hlt', row_kept HRo.out HC'.out (fun x hx e => ?_), fun t g b ht hg hb => row_kept (HRg.out t g b (by omega) hg hb) HC'.out (fun x hx e => ?_), hcn⟩, meas_step hlt'⟩
      · cases hx; exact HGo.out _ e rfl
      · rcases HGa.out i t _ _ (by omega) Hg.out hg with h | h
        · rw [h] at e; cases e
        · exact h (by rw [e, hx])
  · have hii : ¬ (i : Int) < (N : Int) := by omega
    go_wp2_with fail
    go_ret
    exact ⟨rfl, HC.out⟩

end Go.Proofs.Ytomceindibnpnaa.disks

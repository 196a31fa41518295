/-
  veneerref09: New, the walk.
-/
import Derived.Test.YtomceindibnpnaaDiskRef
namespace Go.Proofs.Ytomceindibnpnaa.disks
open Go.RowKit Go.Maps Go.My Go.ChangeMaps
set_option maxRecDepth 100000

variable {w w' : World} {r : Nat} {F F' : Nat → Prop} {R R' : RV} {bv lv : Value}

def RV.new (n : Nat) : RV := ⟨List.replicate n zeroBlk, [], -1, false, 0⟩

theorem refnew_bad (w : World) (n : Int) (h1 : n < 1 ∨ 4096 < n) :
    Calls Try.prog 48 #[.int .i64 n] w fun e w' => e = .returned (.tuple #[.pointer none, .int .i64 2]) ∧ w = w' := by
  by_cases h : n < 1
  · go_enter Try.func48, Try.ntmps48
    go_wp2
    go_ret2
    exact ⟨rfl, rfl⟩
  · have h2 : 4096 < n := by omega
    go_enter Try.func48, Try.ntmps48
    go_wp2
    go_ret2
    exact ⟨rfl, rfl⟩


set_option maxHeartbeats 4000000 in
theorem refnew_any (w : World) (n : Nat) (h1 : 1 ≤ n) (hn : n ≤ 4096) :
    Calls Try.prog 48 #[.int .i64 (n : Int)] w fun e w' => ∃ r, e = .returned (.tuple #[.pointer (some ⟨r, 0, none⟩), .int .i64 0]) ∧ RefAt w' r (born w w') (RV.new n) ∧ Chg (fun _ => False) w w' := by
  have l1 : ((n : Int) < 1) = False := by simp; omega
  have l2 : ((4096 : Int) < n) = False := by simp; omega
  obtain ⟨i0, hI0⟩ := info_parts info_str
  have HI0 := Lib.hid hI0
  clear hI0
  go_enter Try.func48, Try.ntmps48
  go_wp2_with fail
  go_loopw [5] (fun j wr => ∃ k : Nat, j = .int .i64 k ∧ k ≤ n ∧ ∃ bv, wr.heap[w.heap.size]? = some (objR bv (.slice none 0 0) (RV.new k)) ∧ wr.ownsRow w.heap.size 9 1 bv k ((RV.new k).B.map strV) ∧ Chg (fun _ => False) w wr) (fun j _ => n - (intOf j).toNat)
  · exact ⟨0, rfl, Nat.zero_le _, .slice none 0 0, block_alloc_new _ _, World.ownsRow_nil _ _ _ _, (Chg.refl _ _).alloc _⟩
  obtain ⟨k, rfl, hk, bv, hh, ho, hc⟩ := hrel
  have HH := Lib.hid hh
  have HO := Lib.hid ho
  have HC := Lib.hid hc
  clear hh ho hc
  by_cases hlt : k < n
  · have hki : (k : Int) < (n : Int) := by omega
    obtain ⟨oab, cb, rfl⟩ := own_slice HO.out
    obtain ⟨w1, hm, ho1, hc1⟩ := made_u8 wr.drew 64 (by omega)
    have hm' : (Instr.makeSlice 68 (.int .i64 64) (.int .i64 64)).run Try.prog wr.drew = .ok (.slice (some ⟨wr.heap.size, 0, none⟩) 64 64) w1 := hm
    have hcv : (convert 68 9 (.slice (some ⟨wr.heap.size, 0, none⟩) 64 64)).run Try.prog w1 = .ok (strV zeroBlk) w1 := conv_own (b := zeroBlk) ho1
    unfold strV at hcv
    obtain ⟨zs, hzs⟩ : ∃ zs : ByteArray, (⟨zeroBlk.toArray⟩ : ByteArray) = zs := ⟨_, rfl⟩
    rw [hzs] at hcv
    have hw1 : Chg (fun _ => False) wr w1 := ((Chg.refl (fun _ => False) wr).drew).trans' hc1
    have hwb := hw1.alloc (.cells #[.string zs] 9)
    have d0 : wr.cell? ⟨w.heap.size, 0, none⟩ = some (.slice oab k cb) := cell_of_block HH.out rfl
    have d1 := hw1.cell d0 id
    have d2 := hwb.cell d0 id
    obtain ⟨u', w6, hap, ho6, hg6, -, hvn⟩ := run_append_own_at (P := Try.prog) (w1.alloc (.cells #[.string zs] 9)) w.heap.size 57 57 9 i0 (.string ⟨#[]⟩) 1 16 Try.underlying57 HI0.out.1 HI0.out.2.1 HI0.out.2.2.1 HI0.out.2.2.2 rfl (by decide)
      (.slice oab k cb) _ _ (row_kept HO.out hwb (fun _ _ h => h)) ⟨w1.heap.size, 0, none⟩ 1 1 [.string zs] rfl (cells_new w1 [.string zs] _) (by intro x hx; rw [List.mem_singleton.1 hx]; rfl) (by unfold maxLen; omega) (by omega) (by have := HC.out.size; have := hwb.size; omega)
    obtain ⟨oau, cu, rfl⟩ := own_slice ho6
    have hcg := Chg.of_grown hg6
    have hbn : ∀ {W' : World} {v : Value} {kk bb : Nat} {xs : List Value}, W'.ownsRow bb 9 1 v kk xs → ∀ o, W'.heap[w.heap.size]? = some (objR o (.slice none 0 0) (RV.new k)) → ¬ some w.heap.size = v.ownBlock := fun hr o hob e => by
      obtain ⟨cur, hcu⟩ := row_obj hr e.symm
      rw [hob, objR] at hcu
      simp only [Option.some.injEq, Obj.cells.injEq] at hcu
      exact types_ref.1 hcu.2.1
    have hh6 := (hwb.at HH.out id)
    have hh6' := hcg.at hh6 (fun e => hbn HO.out _ HH.out e)
    have d6 : w6.cell? ⟨w.heap.size, 0, none⟩ = some (.slice oab k cb) := cell_of_block hh6' rfl
    have z6 : w6.frozen? ⟨w.heap.size, 0, none⟩ = false := free_of_block hh6'
    have cs7 : Chg (· = w.heap.size) w6 (w6.setCell ⟨w.heap.size, 0, none⟩ (.slice oau (k + 1) cu)) := Chg.setCell (S := (· = w.heap.size)) (Chg.refl _ _) (fun _ => rfl) _
    have hfin : (w6.setCell ⟨w.heap.size, 0, none⟩ (.slice oau (k + 1) cu)).heap[w.heap.size]? = some (objR (.slice oau (k + 1) cu) (.slice none 0 0) (RV.new (k + 1))) ∧ (w6.setCell ⟨w.heap.size, 0, none⟩ (.slice oau (k + 1) cu)).ownsRow w.heap.size 9 1 (.slice oau (k + 1) cu) (k + 1) ((RV.new (k + 1)).B.map strV) ∧ Chg (fun _ => False) w (w6.setCell ⟨w.heap.size, 0, none⟩ (.slice oau (k + 1) cu)) := by
      refine ⟨by rw [block_setCell hh6']; rfl, row_kept ?_ cs7 (fun g hg e => hbn ho6 _ hh6' (by rw [hg, ← e])), ((HC.out.trans' hwb).new hcg (fun i e => (HO.out.lt i e.symm).1)).new cs7 (fun i e => by omega)⟩
      have e1 : (RV.new (k + 1)).B.map strV = (RV.new k).B.map strV ++ [.string zs] := by
        simp only [RV.new, List.map_replicate, strV, hzs]
        rw [List.replicate_succ']
      rw [e1]; exact ho6
    have HFin := Lib.hid hfin
    clear hm ho1 hc1 hw1 hwb ho6 hg6 hvn hcg hbn hh6 hh6' cs7 hfin hzs
    go_wp2_with fail
    refine wp_region_noPanic ?_
    refine wp_region_held_drew (S := (fun _ => True)) (by kernel_rfl) (trivial) (fun hHeld => ?_)
    refine take_list (i := 0) (v := ?_) rfl (by kernel_rfl) (by kernel_rfl) (by kernel_rfl) (fun _ _ _ h => h) (Or.inl ⟨by rfl, fun w hSw => ?_⟩) hHeld ?_
    rotate_left
    · (skip; go_simp)
      try with_reducible rfl
    simp only [Act.put, List.setIfInBounds_toArray, List.set_cons_zero, List.set_cons_succ]
    refine take_list (i := 1) (v := ?_) rfl (by kernel_rfl) (by kernel_rfl) (by kernel_rfl) (fun _ _ _ h => h) (Or.inl ⟨by rfl, fun w hSw => ?_⟩) hHeld ?_
    rotate_left
    · (skip; go_simp)
      try with_reducible rfl
    simp only [Act.put, List.setIfInBounds_toArray, List.set_cons_zero, List.set_cons_succ]
    refine take_list (i := 2) (v := ?_) rfl (by kernel_rfl) (by kernel_rfl) (by kernel_rfl) (fun _ _ _ h => h) (Or.inl ⟨by rfl, fun w hSw => ?_⟩) hHeld ?_
    rotate_left
    · (skip; go_simp)
      try with_reducible rfl
    simp only [Act.put, List.setIfInBounds_toArray, List.set_cons_zero, List.set_cons_succ]
    refine take_list (i := 3) (v := ?_) rfl (by kernel_rfl) (by kernel_rfl) (by kernel_rfl) (fun _ _ _ h => h) (Or.inl ⟨by rfl, fun w hSw => ?_⟩) hHeld ?_
    rotate_left
    · (skip; go_simp)
      try with_reducible rfl
    simp only [Act.put, List.setIfInBounds_toArray, List.set_cons_zero, List.set_cons_succ]
    refine wpAnyH_ready (rs := [4, 5]) (by kernel_rfl) (by simp) (one_list (i := 4) rfl (by rfl) (fun K hK => ?_) (one_list (i := 5) rfl (by rfl) (fun K hK => ?_) AllReadyH.nil))
    · go_simp
      refine hK _ _ (trivial) (fun hH1 => ?_)
      try simp only [Act.put, List.setIfInBounds_toArray, List.set_cons_zero, List.set_cons_succ]
      refine wpAnyH_ready (rs := [5]) (by kernel_rfl) (by simp) (one_list (i := 5) rfl (by rfl) (fun K hK => ?_) AllReadyH.nil)
      go_simp
      refine hK _ _ (trivial) (fun hH2 => ?_)
      try simp only [Act.put, List.setIfInBounds_toArray, List.set_cons_zero, List.set_cons_succ]
      refine wpAnyH_ready (rs := [6]) (by kernel_rfl) (by simp) (one_list (i := 6) rfl (by rfl) (fun K hK => ?_) AllReadyH.nil)
      go_simp
      refine hK _ _ (trivial) (fun hH3 => ?_)
      try simp only [Act.put, List.setIfInBounds_toArray, List.set_cons_zero, List.set_cons_succ]
      refine wpAnyH_ready (rs := [7]) (by kernel_rfl) (by simp) (one_list (i := 7) rfl (by rfl) (fun K hK => ?_) AllReadyH.nil)
      go_simp
      refine hK _ _ (trivial) (fun hH3' => ?_)
      try simp only [Act.put, List.setIfInBounds_toArray, List.set_cons_zero, List.set_cons_succ]
      refine wpAnyH_ready (rs := [8]) (by kernel_rfl) (by simp) (one_list (i := 8) rfl (by rfl) (fun K hK => ?_) AllReadyH.nil)
      refine oper_append _ _ _ rfl rfl rfl hap ?_
      refine hK _ _ (trivial) (fun hH4 => ?_)
      try simp only [Act.put, List.setIfInBounds_toArray, List.set_cons_zero, List.set_cons_succ]
      refine take_list (i := 9) (v := ?_) rfl (by kernel_rfl) (by kernel_rfl) (by kernel_rfl) (fun _ _ _ h => h) (Or.inl ⟨by rfl, fun w hSw => ?_⟩) hH4 ?_
      rotate_left
      · (skip; go_simp)
        try with_reducible rfl
      simp only [Act.put, List.setIfInBounds_toArray, List.set_cons_zero, List.set_cons_succ]
      refine take_list (i := 10) (v := ?_) rfl (by kernel_rfl) (by kernel_rfl) (by kernel_rfl) (fun _ _ _ h => h) (Or.inl ⟨by rfl, fun w hSw => ?_⟩) hH4 ?_
      rotate_left
      · (skip; go_simp)
        try with_reducible rfl
      simp only [Act.put, List.setIfInBounds_toArray, List.set_cons_zero, List.set_cons_succ]
      refine wpAnyH_ready (rs := [11]) (by kernel_rfl) (by simp) (one_list (i := 11) rfl (by rfl) (fun K hK => ?_) AllReadyH.nil)
      go_simp
      refine hK _ _ (trivial) (fun hH5 => ?_)
      try simp only [Act.put, List.setIfInBounds_toArray, List.set_cons_zero, List.set_cons_succ]
      refine wpAnyH_done (by kernel_rfl) ?_ _
      refine NoPanic.normal ?_
      go_wp2_with fail
      exact ⟨⟨k + 1, by go_num, hlt, _, HFin.out⟩, meas_step hlt⟩
    · go_simp
      refine hK _ _ (trivial) (fun hH1 => ?_)
      try simp only [Act.put, List.setIfInBounds_toArray, List.set_cons_zero, List.set_cons_succ]
      refine wpAnyH_ready (rs := [4, 6]) (by kernel_rfl) (by simp) (one_list (i := 4) rfl (by rfl) (fun K hK => ?_) (one_list (i := 6) rfl (by rfl) (fun K hK => ?_) AllReadyH.nil))
      · go_simp
        refine hK _ _ (trivial) (fun hH2 => ?_)
        try simp only [Act.put, List.setIfInBounds_toArray, List.set_cons_zero, List.set_cons_succ]
        refine wpAnyH_ready (rs := [6]) (by kernel_rfl) (by simp) (one_list (i := 6) rfl (by rfl) (fun K hK => ?_) AllReadyH.nil)
        go_simp
        refine hK _ _ (trivial) (fun hH3 => ?_)
        try simp only [Act.put, List.setIfInBounds_toArray, List.set_cons_zero, List.set_cons_succ]
        refine wpAnyH_ready (rs := [7]) (by kernel_rfl) (by simp) (one_list (i := 7) rfl (by rfl) (fun K hK => ?_) AllReadyH.nil)
        go_simp
        refine hK _ _ (trivial) (fun hH3' => ?_)
        try simp only [Act.put, List.setIfInBounds_toArray, List.set_cons_zero, List.set_cons_succ]
        refine wpAnyH_ready (rs := [8]) (by kernel_rfl) (by simp) (one_list (i := 8) rfl (by rfl) (fun K hK => ?_) AllReadyH.nil)
        refine oper_append _ _ _ rfl rfl rfl hap ?_
        refine hK _ _ (trivial) (fun hH4 => ?_)
        try simp only [Act.put, List.setIfInBounds_toArray, List.set_cons_zero, List.set_cons_succ]
        refine take_list (i := 9) (v := ?_) rfl (by kernel_rfl) (by kernel_rfl) (by kernel_rfl) (fun _ _ _ h => h) (Or.inl ⟨by rfl, fun w hSw => ?_⟩) hH4 ?_
        rotate_left
        · (skip; go_simp)
          try with_reducible rfl
        simp only [Act.put, List.setIfInBounds_toArray, List.set_cons_zero, List.set_cons_succ]
        refine take_list (i := 10) (v := ?_) rfl (by kernel_rfl) (by kernel_rfl) (by kernel_rfl) (fun _ _ _ h => h) (Or.inl ⟨by rfl, fun w hSw => ?_⟩) hH4 ?_
        rotate_left
        · (skip; go_simp)
          try with_reducible rfl
        simp only [Act.put, List.setIfInBounds_toArray, List.set_cons_zero, List.set_cons_succ]
        refine wpAnyH_ready (rs := [11]) (by kernel_rfl) (by simp) (one_list (i := 11) rfl (by rfl) (fun K hK => ?_) AllReadyH.nil)
        go_simp
        refine hK _ _ (trivial) (fun hH5 => ?_)
        try simp only [Act.put, List.setIfInBounds_toArray, List.set_cons_zero, List.set_cons_succ]
        refine wpAnyH_done (by kernel_rfl) ?_ _
        refine NoPanic.normal ?_
        go_wp2_with fail
        exact ⟨⟨k + 1, by go_num, hlt, _, HFin.out⟩, meas_step hlt⟩
      · go_simp
        refine hK _ _ (trivial) (fun hH2 => ?_)
        try simp only [Act.put, List.setIfInBounds_toArray, List.set_cons_zero, List.set_cons_succ]
        refine wpAnyH_ready (rs := [4, 7]) (by kernel_rfl) (by simp) (one_list (i := 4) rfl (by rfl) (fun K hK => ?_) (one_list (i := 7) rfl (by rfl) (fun K hK => ?_) AllReadyH.nil))
        · go_simp
          refine hK _ _ (trivial) (fun hH3 => ?_)
          try simp only [Act.put, List.setIfInBounds_toArray, List.set_cons_zero, List.set_cons_succ]
          refine wpAnyH_ready (rs := [7]) (by kernel_rfl) (by simp) (one_list (i := 7) rfl (by rfl) (fun K hK => ?_) AllReadyH.nil)
          go_simp
          refine hK _ _ (trivial) (fun hH3' => ?_)
          try simp only [Act.put, List.setIfInBounds_toArray, List.set_cons_zero, List.set_cons_succ]
          refine wpAnyH_ready (rs := [8]) (by kernel_rfl) (by simp) (one_list (i := 8) rfl (by rfl) (fun K hK => ?_) AllReadyH.nil)
          refine oper_append _ _ _ rfl rfl rfl hap ?_
          refine hK _ _ (trivial) (fun hH4 => ?_)
          try simp only [Act.put, List.setIfInBounds_toArray, List.set_cons_zero, List.set_cons_succ]
          refine take_list (i := 9) (v := ?_) rfl (by kernel_rfl) (by kernel_rfl) (by kernel_rfl) (fun _ _ _ h => h) (Or.inl ⟨by rfl, fun w hSw => ?_⟩) hH4 ?_
          rotate_left
          · (skip; go_simp)
            try with_reducible rfl
          simp only [Act.put, List.setIfInBounds_toArray, List.set_cons_zero, List.set_cons_succ]
          refine take_list (i := 10) (v := ?_) rfl (by kernel_rfl) (by kernel_rfl) (by kernel_rfl) (fun _ _ _ h => h) (Or.inl ⟨by rfl, fun w hSw => ?_⟩) hH4 ?_
          rotate_left
          · (skip; go_simp)
            try with_reducible rfl
          simp only [Act.put, List.setIfInBounds_toArray, List.set_cons_zero, List.set_cons_succ]
          refine wpAnyH_ready (rs := [11]) (by kernel_rfl) (by simp) (one_list (i := 11) rfl (by rfl) (fun K hK => ?_) AllReadyH.nil)
          go_simp
          refine hK _ _ (trivial) (fun hH5 => ?_)
          try simp only [Act.put, List.setIfInBounds_toArray, List.set_cons_zero, List.set_cons_succ]
          refine wpAnyH_done (by kernel_rfl) ?_ _
          refine NoPanic.normal ?_
          go_wp2_with fail
          exact ⟨⟨k + 1, by go_num, hlt, _, HFin.out⟩, meas_step hlt⟩
        · go_simp
          refine hK _ _ (trivial) (fun hH3 => ?_)
          try simp only [Act.put, List.setIfInBounds_toArray, List.set_cons_zero, List.set_cons_succ]
          refine wpAnyH_ready (rs := [4]) (by kernel_rfl) (by simp) (one_list (i := 4) rfl (by rfl) (fun K hK => ?_) AllReadyH.nil)
          go_simp
          refine hK _ _ (trivial) (fun hH3' => ?_)
          try simp only [Act.put, List.setIfInBounds_toArray, List.set_cons_zero, List.set_cons_succ]
          refine wpAnyH_ready (rs := [8]) (by kernel_rfl) (by simp) (one_list (i := 8) rfl (by rfl) (fun K hK => ?_) AllReadyH.nil)
          refine oper_append _ _ _ rfl rfl rfl hap ?_
          refine hK _ _ (trivial) (fun hH4 => ?_)
          try simp only [Act.put, List.setIfInBounds_toArray, List.set_cons_zero, List.set_cons_succ]
          refine take_list (i := 9) (v := ?_) rfl (by kernel_rfl) (by kernel_rfl) (by kernel_rfl) (fun _ _ _ h => h) (Or.inl ⟨by rfl, fun w hSw => ?_⟩) hH4 ?_
          rotate_left
          · (skip; go_simp)
            try with_reducible rfl
          simp only [Act.put, List.setIfInBounds_toArray, List.set_cons_zero, List.set_cons_succ]
          refine take_list (i := 10) (v := ?_) rfl (by kernel_rfl) (by kernel_rfl) (by kernel_rfl) (fun _ _ _ h => h) (Or.inl ⟨by rfl, fun w hSw => ?_⟩) hH4 ?_
          rotate_left
          · (skip; go_simp)
            try with_reducible rfl
          simp only [Act.put, List.setIfInBounds_toArray, List.set_cons_zero, List.set_cons_succ]
          refine wpAnyH_ready (rs := [11]) (by kernel_rfl) (by simp) (one_list (i := 11) rfl (by rfl) (fun K hK => ?_) AllReadyH.nil)
          go_simp
          refine hK _ _ (trivial) (fun hH5 => ?_)
          try simp only [Act.put, List.setIfInBounds_toArray, List.set_cons_zero, List.set_cons_succ]
          refine wpAnyH_done (by kernel_rfl) ?_ _
          refine NoPanic.normal ?_
          go_wp2_with fail
          exact ⟨⟨k + 1, by go_num, hlt, _, HFin.out⟩, meas_step hlt⟩
  · have hki : ¬ (k : Int) < (n : Int) := by omega
    obtain rfl : k = n := by omega
    go_wp2_with fail
    go_ret2
    refine ⟨_, rfl, ⟨bv, .slice none 0 0, HH.out, ?_, OwnRecs.nil _ _ _ _, ⟨Nat.le_refl _, lt_of_block HH.out⟩, fun g hg => HO.out.lt g hg, by simp [Value.ownBlock], fun k hk => hk.2⟩, HC.out⟩
    rw [show (RV.new k).B.length = k from by simp [RV.new]]
    refine ⟨HO.out.1, ?_⟩
    rcases HO.out.2 with h | ⟨g, cap, cur, e1, e2, e3⟩
    · exact Or.inl h
    · exact Or.inr ⟨g, cap, cur, e1, Nat.zero_le _, e3⟩

end Go.Proofs.Ytomceindibnpnaa.disks

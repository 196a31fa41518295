/-
  veneerref09: Of, the walk.
-/
import Derived.Test.YtomceindibnpnaaDiskRefNew
import Derived.Test.YtomceindibnpnaaDiskOf
namespace Go.Proofs.Ytomceindibnpnaa.disks
open Go.RowKit Go.Maps Go.My Go.ChangeMaps
set_option maxRecDepth 100000

variable {w w' : World} {r : Nat} {F F' : Nat → Prop} {R R' : RV} {bv lv : Value}

/-- 'string(b)' of any byte slice that is read. -/
theorem conv_slat {v : Value} {b : Blk} (h : SlAt w v (cellsB b)) : (convert 68 9 v).run Try.prog w = .ok (.string ⟨b.toArray⟩) w := by
  obtain ⟨oa, cap, rfl, hne, hc⟩ := h
  rw [cellsB_length]
  cases oa with
  | none =>
    have hb : b = [] := by
      cases b with
      | nil => rfl
      | cons x l => obtain ⟨g, off, e⟩ := hne (by simp [cellsB]); cases e
    subst hb
    have h0 := conv_own (w := w) (b := []) (World.ownsRow_nil w 0 5 1)
    rw [run_convert_bytes_string w 68 9 5 none _ _ Try.underlying68 Try.underlying5 Try.underlying9] at h0 ⊢
    exact h0
  | some a =>
    refine run_convert_bytes_back w 68 9 5 a cap b Try.underlying68 Try.underlying5 Try.underlying9 (fun j hj => ?_)
    obtain ⟨g, off, e⟩ := hne (by intro e; have := congrArg List.length e; rw [cellsB_length, List.length_nil] at this; omega)
    cases e
    have e : (⟨g, off, none⟩ : Addr).add j = ⟨g, off + j, none⟩ := by unfold Addr.add; split <;> simp_all
    rw [e]
    exact hc g off rfl j _ (by simp [cellsB, hj])

def RV.ofK (L : List Blk) (k : Nat) : RV := ⟨L.take k, [], -1, false, 0⟩

theorem refof_bad (w : World) (oa : Option Addr) (n cap : Nat) (h1 : n < 1 ∨ 4096 < n) :
    Calls Try.prog 44 #[.slice oa n cap] w fun e w' => e = .returned (.tuple #[.pointer none, .int .i64 2]) ∧ w = w' := by
  by_cases h : n < 1
  · have hh : (n : Int) < 1 := by omega
    go_enter Try.func44, Try.ntmps44
    go_wp2
    go_ret2
    exact ⟨rfl, rfl⟩
  · have hh : ¬ (n : Int) < 1 := by omega
    have h2 : (4096 : Int) < n := by omega
    go_enter Try.func44, Try.ntmps44
    go_wp2
    go_ret2
    exact ⟨rfl, rfl⟩


set_option maxHeartbeats 4000000 in
theorem refof_any (w : World) (oa : Option Addr) (cap : Nat) (gs : List Value) (L : List Blk) (hlen : gs.length = L.length) (ho : SlAt w (.slice oa L.length cap) gs) (heach : ∀ (i : Nat) g b, gs[i]? = some g → L[i]? = some b → SlAt w g (cellsB b)) (h1 : 1 ≤ L.length) (h2 : L.length ≤ 4096) :
    Calls Try.prog 44 #[.slice oa L.length cap] w fun e w' => ((∀ b ∈ L, b.length = 64) ∧ ∃ r, e = .returned (.tuple #[.pointer (some ⟨r, 0, none⟩), .int .i64 0]) ∧ RefAt w' r (born w w') (RV.ofK L L.length) ∧ Chg (fun _ => False) w w') ∨
      ((∃ b ∈ L, b.length ≠ 64) ∧ e = .returned (.tuple #[.pointer none, .int .i64 2]) ∧ Chg (fun _ => False) w w') := by
  have l1 : ¬ ((L.length : Int) < 1) := by omega
  have l2 : ¬ ((4096 : Int) < L.length) := by omega
  obtain ⟨i0, hI0⟩ := info_parts info_str
  have HI0 := Lib.hid hI0
  have HO := Lib.hid ho
  have HE := Lib.hid heach
  have HLen := Lib.hid hlen
  clear hI0 ho heach hlen
  go_enter Try.func44, Try.ntmps44
  go_wp2_with fail
  go_loopw [5] (fun j wr => ∃ k : Nat, j = .int .i64 k ∧ k ≤ L.length ∧ (∀ (i : Nat) b, i < k → L[i]? = some b → b.length = 64) ∧ ∃ bv, wr.heap[w.heap.size]? = some (objR bv (.slice none 0 0) (RV.ofK L k)) ∧ wr.ownsRow w.heap.size 9 1 bv k ((L.take k).map strV) ∧ Chg (fun _ => False) w wr) (fun j _ => L.length - (intOf j).toNat)
  · exact ⟨0, rfl, Nat.zero_le _, by intro i b h; omega, .slice none 0 0, block_alloc_new _ _, World.ownsRow_nil _ _ _ _, (Chg.refl _ _).alloc _⟩
  obtain ⟨k, rfl, hk, h64, bv, hh, ho, hc⟩ := hrel
  have HH := Lib.hid hh
  have HOw := Lib.hid ho
  have HC := Lib.hid hc
  have H64 := Lib.hid h64
  clear hh ho hc h64
  by_cases hlt : k < L.length
  · have hki : (k : Int) < (L.length : Int) := by omega
    have hkg : k < gs.length := by rw [HLen.out]; exact hlt
    obtain ⟨b0, off, hoa, -, hc0⟩ := HO.out.cell hkg
    subst hoa
    have hsl := HE.out k _ _ (List.getElem?_eq_getElem hkg) (List.getElem?_eq_getElem hlt)
    obtain ⟨b, hb⟩ : ∃ b, L[k] = b := ⟨_, rfl⟩
    rw [hb] at hsl
    have hSl := hsl
    obtain ⟨oag, capg, hgv, -, -⟩ := hsl
    rw [cellsB_length] at hgv
    rw [hgv] at hc0 hSl
    have hce := HC.out.cell hc0 id
    have HB := Lib.hid hb
    have HSl := Lib.hid hSl
    have HC0 := Lib.hid hc0
    clear hgv hb hSl hc0
    by_cases hb64 : b.length = 64
    · have hbi : ((b.length : Int) != 64) = false := by rw [hb64]; rfl
      obtain ⟨oab, cb, rfl⟩ := own_slice HOw.out
      obtain ⟨zs, hzs⟩ : ∃ zs : ByteArray, (⟨b.toArray⟩ : ByteArray) = zs := ⟨_, rfl⟩
      have hcv : ∀ w', Chg (fun _ => False) w w' → (convert 68 9 (.slice oag 64 capg)).run Try.prog w' = .ok (.string zs) w' := fun w' hc => by have h1 := conv_slat (HSl.out.kept hc); rw [hb64, hzs] at h1; exact h1
      have hld : ∀ w', Chg (fun _ => False) w w' → w'.cell? ⟨b0, off + k, none⟩ = some (.slice oag 64 capg) := fun w' hc => by have h1 := hc.cell HC0.out id; rw [hb64] at h1; exact h1
      rw [hb64] at hce
      have HCv := Lib.hid hcv
      have HLd := Lib.hid hld
      have d1 : wr.drew.cell? ⟨w.heap.size, 0, none⟩ = some (.slice oab k cb) := cell_of_block HH.out rfl
      have d2 : (wr.drew.alloc (.cells #[.string zs] 9)).cell? ⟨w.heap.size, 0, none⟩ = some (.slice oab k cb) := ((Chg.refl (fun _ => False) wr.drew).alloc _).cell d1 id
      have d3 : (wr.alloc (.cells #[.string zs] 9)).cell? ⟨w.heap.size, 0, none⟩ = some (.slice oab k cb) := ((Chg.refl (fun _ => False) wr).alloc _).cell (cell_of_block HH.out rfl) id
      have hwb : Chg (fun _ => False) wr (wr.drew.alloc (.cells #[.string zs] 9)) := ((Chg.refl _ _).drew).alloc _
      obtain ⟨u', w6, hap, ho6, hg6, -, hvn⟩ := run_append_own_at (P := Try.prog) (wr.drew.alloc (.cells #[.string zs] 9)) w.heap.size 57 57 9 i0 (.string ⟨#[]⟩) 1 16 Try.underlying57 HI0.out.1 HI0.out.2.1 HI0.out.2.2.1 HI0.out.2.2.2 rfl (by decide)
        (.slice oab k cb) _ _ (row_kept HOw.out hwb (fun _ _ h => h)) ⟨wr.heap.size, 0, none⟩ 1 1 [.string zs] rfl (cells_new wr.drew [.string zs] _) (by intro x hx; rw [List.mem_singleton.1 hx]; rfl) (by unfold maxLen; omega) (by omega) (by have := HC.out.size; have := hwb.size; omega)
      obtain ⟨oau, cu, rfl⟩ := own_slice ho6
      have hcg := Chg.of_grown hg6
      have hbn : ∀ {W' : World} {v : Value} {kk bb : Nat} {xs : List Value}, W'.ownsRow bb 9 1 v kk xs → ∀ o, W'.heap[w.heap.size]? = some (objR o (.slice none 0 0) (RV.ofK L k)) → ¬ some w.heap.size = v.ownBlock := fun hr o hob e => by
        obtain ⟨cur, hcu⟩ := row_obj hr e.symm
        rw [hob, objR] at hcu
        simp only [Option.some.injEq, Obj.cells.injEq] at hcu
        exact types_ref.1 hcu.2.1
      have hh6' := hcg.at (hwb.at HH.out id) (fun e => hbn HOw.out _ HH.out e)
      have d6 : w6.cell? ⟨w.heap.size, 0, none⟩ = some (.slice oab k cb) := cell_of_block hh6' rfl
      have z6 : w6.frozen? ⟨w.heap.size, 0, none⟩ = false := free_of_block hh6'
      have cs7 : Chg (· = w.heap.size) w6 (w6.setCell ⟨w.heap.size, 0, none⟩ (.slice oau (k + 1) cu)) := Chg.setCell (S := (· = w.heap.size)) (Chg.refl _ _) (fun _ => rfl) _
      have hcC : Chg (fun _ => False) w (wr.drew.alloc (.cells #[.string zs] 9)) := HC.out.trans' hwb
      have hc6 : Chg (fun _ => False) w w6 := hcC.new hcg (fun i e => (HOw.out.lt i e.symm).1)
      have hc7 := hc6.new cs7 (fun i e => by omega)
      have hfin : (w6.setCell ⟨w.heap.size, 0, none⟩ (.slice oau (k + 1) cu)).heap[w.heap.size]? = some (objR (.slice oau (k + 1) cu) (.slice none 0 0) (RV.ofK L (k + 1))) ∧ (w6.setCell ⟨w.heap.size, 0, none⟩ (.slice oau (k + 1) cu)).ownsRow w.heap.size 9 1 (.slice oau (k + 1) cu) (k + 1) ((L.take (k + 1)).map strV) := by
        refine ⟨by rw [block_setCell hh6']; rfl, row_kept ?_ cs7 (fun g hg e => hbn ho6 _ hh6' (by rw [hg, ← e]))⟩
        have e1 : (L.take (k + 1)).map strV = (L.take k).map strV ++ [.string zs] := by
          rw [List.take_add_one, List.getElem?_eq_getElem hlt, HB.out, List.map_append, ← hzs]
          rfl
        rw [e1]; exact ho6
      have HFin := Lib.hid hfin
      have HCC := Lib.hid hcC
      have HC6 := Lib.hid hc6
      have HC7 := Lib.hid hc7
      clear hwb ho6 hg6 hvn hcg hbn hh6' cs7 hfin hzs hcC hc6 hc7 hcv hld
      go_wp2_with fail
      refine wp_region_noPanic ?_
      refine wp_region_held_drew (S := (fun w' => Chg (fun _ => False) w w')) (by kernel_rfl) (HC.out.drew) (fun hHeld => ?_)
      refine take_list (i := 0) (v := ?_) rfl (by kernel_rfl) (by kernel_rfl) (by kernel_rfl) (fun _ _ _ h => h) (Or.inl ⟨by rfl, fun w hSw => ?_⟩) hHeld ?_
      rotate_left
      · (skip; go_simp)
        try with_reducible rfl
      simp only [Act.put, List.setIfInBounds_toArray, List.set_cons_zero, List.set_cons_succ]
      refine take_list (i := 1) (v := ?_) rfl (by kernel_rfl) (by kernel_rfl) (by kernel_rfl) (fun _ _ _ h => h) (Or.inl ⟨by rfl, fun w hSw => ?_⟩) hHeld ?_
      rotate_left
      · (skip; go_simp)
        try with_reducible rfl
      simp only [Act.put, List.setIfInBounds_toArray, List.set_cons_zero, List.set_cons_succ]
      refine take_list (i := 2) (v := ?_) rfl (by kernel_rfl) (by kernel_rfl) (by kernel_rfl) (fun _ _ _ h => h) (Or.inl ⟨by rfl, fun w hSw => ?_⟩) hHeld ?_
      rotate_left
      · (skip; go_simp)
        try with_reducible rfl
      simp only [Act.put, List.setIfInBounds_toArray, List.set_cons_zero, List.set_cons_succ]
      refine take_list (i := 3) (v := ?_) rfl (by kernel_rfl) (by kernel_rfl) (by kernel_rfl) (fun _ _ _ h => h) (Or.inl ⟨by rfl, fun w hSw => ?_⟩) hHeld ?_
      rotate_left
      · (skip; go_simp)
        try with_reducible rfl
      simp only [Act.put, List.setIfInBounds_toArray, List.set_cons_zero, List.set_cons_succ]
      refine take_list (i := 5) (v := ?_) rfl (by kernel_rfl) (by kernel_rfl) (by kernel_rfl) (fun _ _ _ h => h) (Or.inl ⟨by rfl, fun w hSw => ?_⟩) hHeld ?_
      rotate_left
      · (skip; go_simp)
        try with_reducible rfl
      simp only [Act.put, List.setIfInBounds_toArray, List.set_cons_zero, List.set_cons_succ]
      refine take_list (i := 6) (v := ?_) rfl (by kernel_rfl) (by kernel_rfl) (by kernel_rfl) (fun _ _ _ h => h) (Or.inl ⟨by rfl, fun w hSw => ?_⟩) hHeld ?_
      rotate_left
      · (skip; go_simp)
        try with_reducible rfl
      simp only [Act.put, List.setIfInBounds_toArray, List.set_cons_zero, List.set_cons_succ]
      refine take_list (i := 7) (v := ?_) rfl (by kernel_rfl) (by kernel_rfl) (by kernel_rfl) (fun _ _ _ h => h) (Or.inl ⟨by rfl, fun w hSw => ?_⟩) hHeld ?_
      rotate_left
      · (skip; go_simp)
        try with_reducible rfl
      simp only [Act.put, List.setIfInBounds_toArray, List.set_cons_zero, List.set_cons_succ]
      refine take_list (i := 8) (v := ?_) rfl (by kernel_rfl) (by kernel_rfl) (by kernel_rfl) (fun _ _ _ h => h) (Or.inl ⟨by rfl, fun w hSw => ?_⟩) hHeld ?_
      rotate_left
      · (have hSw1 := HLd.out _ hSw; go_simp)
        try with_reducible rfl
      simp only [Act.put, List.setIfInBounds_toArray, List.set_cons_zero, List.set_cons_succ]
      refine take_list (i := 9) (v := ?_) rfl (by kernel_rfl) (by kernel_rfl) (by kernel_rfl) (fun _ _ _ h => h) (Or.inl ⟨by rfl, fun w hSw => ?_⟩) hHeld ?_
      rotate_left
      · (have hSw1 := HCv.out _ hSw; go_simp)
        try with_reducible rfl
      simp only [Act.put, List.setIfInBounds_toArray, List.set_cons_zero, List.set_cons_succ]
      refine wpAnyH_ready (rs := [4, 10]) (by kernel_rfl) (by simp) (one_list (i := 4) rfl (by rfl) (fun K hK => ?_) (one_list (i := 10) rfl (by rfl) (fun K hK => ?_) AllReadyH.nil))
      · go_simp
        refine hK _ _ (HC.out.drew) (fun hH2 => ?_)
        try simp only [Act.put, List.setIfInBounds_toArray, List.set_cons_zero, List.set_cons_succ]
        refine wpAnyH_ready (rs := [10]) (by kernel_rfl) (by simp) (one_list (i := 10) rfl (by rfl) (fun K hK => ?_) AllReadyH.nil)
        go_simp
        refine hK _ _ (HCC.out) (fun hH3 => ?_)
        try simp only [Act.put, List.setIfInBounds_toArray, List.set_cons_zero, List.set_cons_succ]
        refine wpAnyH_ready (rs := [11]) (by kernel_rfl) (by simp) (one_list (i := 11) rfl (by rfl) (fun K hK => ?_) AllReadyH.nil)
        refine oper_append _ _ _ rfl rfl rfl hap ?_
        refine hK _ _ (HC6.out) (fun hH4 => ?_)
        try simp only [Act.put, List.setIfInBounds_toArray, List.set_cons_zero, List.set_cons_succ]
        refine take_list (i := 12) (v := ?_) rfl (by kernel_rfl) (by kernel_rfl) (by kernel_rfl) (fun _ _ _ h => h) (Or.inl ⟨by rfl, fun w hSw => ?_⟩) hH4 ?_
        rotate_left
        · (skip; go_simp)
          try with_reducible rfl
        simp only [Act.put, List.setIfInBounds_toArray, List.set_cons_zero, List.set_cons_succ]
        refine take_list (i := 13) (v := ?_) rfl (by kernel_rfl) (by kernel_rfl) (by kernel_rfl) (fun _ _ _ h => h) (Or.inl ⟨by rfl, fun w hSw => ?_⟩) hH4 ?_
        rotate_left
        · (skip; go_simp)
          try with_reducible rfl
        simp only [Act.put, List.setIfInBounds_toArray, List.set_cons_zero, List.set_cons_succ]
        refine wpAnyH_ready (rs := [14]) (by kernel_rfl) (by simp) (one_list (i := 14) rfl (by rfl) (fun K hK => ?_) AllReadyH.nil)
        go_simp
        refine hK _ _ (HC7.out) (fun hH5 => ?_)
        try simp only [Act.put, List.setIfInBounds_toArray, List.set_cons_zero, List.set_cons_succ]
        refine wpAnyH_done (by kernel_rfl) ?_ _
        refine NoPanic.normal ?_
        go_wp2_with fail
        refine ⟨⟨k + 1, by go_num, hlt, ?_, _, HFin.out.1, HFin.out.2, HC7.out⟩, meas_step hlt⟩
        intro i b' hi hb'
        rcases Nat.lt_or_ge i k with h | h
        · exact H64.out i b' h hb'
        · have : i = k := by omega
          subst this
          rw [List.getElem?_eq_getElem hlt, HB.out] at hb'
          cases hb'; exact hb64
      · go_simp
        refine hK _ _ (HCC.out) (fun hH2 => ?_)
        try simp only [Act.put, List.setIfInBounds_toArray, List.set_cons_zero, List.set_cons_succ]
        refine wpAnyH_ready (rs := [4]) (by kernel_rfl) (by simp) (one_list (i := 4) rfl (by rfl) (fun K hK => ?_) AllReadyH.nil)
        go_simp
        refine hK _ _ (HCC.out) (fun hH3 => ?_)
        try simp only [Act.put, List.setIfInBounds_toArray, List.set_cons_zero, List.set_cons_succ]
        refine wpAnyH_ready (rs := [11]) (by kernel_rfl) (by simp) (one_list (i := 11) rfl (by rfl) (fun K hK => ?_) AllReadyH.nil)
        refine oper_append _ _ _ rfl rfl rfl hap ?_
        refine hK _ _ (HC6.out) (fun hH4 => ?_)
        try simp only [Act.put, List.setIfInBounds_toArray, List.set_cons_zero, List.set_cons_succ]
        refine take_list (i := 12) (v := ?_) rfl (by kernel_rfl) (by kernel_rfl) (by kernel_rfl) (fun _ _ _ h => h) (Or.inl ⟨by rfl, fun w hSw => ?_⟩) hH4 ?_
        rotate_left
        · (skip; go_simp)
          try with_reducible rfl
        simp only [Act.put, List.setIfInBounds_toArray, List.set_cons_zero, List.set_cons_succ]
        refine take_list (i := 13) (v := ?_) rfl (by kernel_rfl) (by kernel_rfl) (by kernel_rfl) (fun _ _ _ h => h) (Or.inl ⟨by rfl, fun w hSw => ?_⟩) hH4 ?_
        rotate_left
        · (skip; go_simp)
          try with_reducible rfl
        simp only [Act.put, List.setIfInBounds_toArray, List.set_cons_zero, List.set_cons_succ]
        refine wpAnyH_ready (rs := [14]) (by kernel_rfl) (by simp) (one_list (i := 14) rfl (by rfl) (fun K hK => ?_) AllReadyH.nil)
        go_simp
        refine hK _ _ (HC7.out) (fun hH5 => ?_)
        try simp only [Act.put, List.setIfInBounds_toArray, List.set_cons_zero, List.set_cons_succ]
        refine wpAnyH_done (by kernel_rfl) ?_ _
        refine NoPanic.normal ?_
        go_wp2_with fail
        refine ⟨⟨k + 1, by go_num, hlt, ?_, _, HFin.out.1, HFin.out.2, HC7.out⟩, meas_step hlt⟩
        intro i b' hi hb'
        rcases Nat.lt_or_ge i k with h | h
        · exact H64.out i b' h hb'
        · have : i = k := by omega
          subst this
          rw [List.getElem?_eq_getElem hlt, HB.out] at hb'
          cases hb'; exact hb64
    · have hbi : ((b.length : Int) != 64) = true := by simp; omega
      go_wp2_with fail
      go_ret2
      exact Or.inr ⟨⟨b, by rw [← HB.out]; exact List.getElem_mem _, hb64⟩, rfl, HC.out⟩
  · have hki : ¬ (k : Int) < (L.length : Int) := by omega
    obtain rfl : k = L.length := by omega
    go_wp2_with fail
    go_ret2
    refine Or.inl ⟨fun b hb => ?_, _, rfl, ⟨bv, .slice none 0 0, HH.out, ?_, OwnRecs.nil _ _ _ _, ⟨Nat.le_refl _, lt_of_block HH.out⟩, fun g hg => HOw.out.lt g hg, by simp [Value.ownBlock], fun k hk => hk.2⟩, HC.out⟩
    · obtain ⟨i, hi⟩ := List.getElem?_of_mem hb
      exact H64.out i b (List.getElem?_eq_some_iff.1 hi).1 hi
    · rw [show (RV.ofK L L.length).B.length = L.length from by simp [RV.ofK]]
      exact World.ownsRow.mono HOw.out (Nat.zero_le _)

end Go.Proofs.Ytomceindibnpnaa.disks

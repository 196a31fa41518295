/-
  disk: Of, the walk.
-/
import Derived.Test.YtomceindibnpnaaDiskLaw
namespace Go.Proofs.Ytomceindibnpnaa.disks
open Go.RowKit Go.Maps Go.My Go.ChangeMaps
set_option maxRecDepth 100000

variable {w w' : World} {d q : Nat} {F F' : Nat → Prop} {X X' : DV} {bv : Value} {m : List (Int × (Value × List Blk))}

/-- The blocks when the first k are laid. -/
def ofB (L : List Blk) (k : Nat) : List Blk := L.take k ++ List.replicate (L.length - k) zeroBlk
def DV.ofK (L : List Blk) (k : Nat) : DV := ⟨ofB L k, fun _ => [], -1, false, 0⟩

theorem ofB_len (L : List Blk) (k : Nat) (h : k ≤ L.length) : (ofB L k).length = L.length := by
  simp [ofB]; omega

theorem ofB_succ (L : List Blk) {k : Nat} (h : k < L.length) : (ofB L k).set k L[k] = ofB L (k + 1) := by
  unfold ofB
  rw [List.set_append_right _ _ (by simp; omega), List.length_take, Nat.min_eq_left (by omega), Nat.sub_self, List.take_add_one (i := k), List.getElem?_eq_getElem h, Option.toList_some]
  rw [show L.length - k = (L.length - (k + 1)) + 1 by omega, List.replicate_succ, List.set_cons_zero]
  simp only [List.append_assoc, List.cons_append, List.nil_append]

theorem of_zero (L : List Blk) : DV.ofK L 0 = DV.new L.length := by simp [DV.ofK, ofB, DV.new]

set_option maxHeartbeats 4000000 in
theorem of_any (w : World) (oa : Option Addr) (cap : Nat) (gs : List Value) (L : List Blk) (hlen : gs.length = L.length) (ho : SlAt w (.slice oa L.length cap) gs) (heach : ∀ (i : Nat) g b, gs[i]? = some g → L[i]? = some b → SlAt w g (cellsB b)) (h1 : 1 ≤ L.length) (h2 : L.length ≤ 4096) :
    Calls Try.prog 43 #[.slice oa L.length cap] w fun e w' => ((∀ b ∈ L, b.length = 64) ∧ ∃ d, e = .returned (.tuple #[.pointer (some ⟨d, 0, none⟩), .int .i64 0]) ∧ DiskAt w' d (born w w') (DV.ofK L L.length) ∧ Chg (fun _ => False) w w') ∨
      ((∃ b ∈ L, b.length ≠ 64) ∧ e = .returned (.tuple #[.pointer none, .int .i64 2]) ∧ Chg (fun _ => False) w w') := by
  have HO := Lib.hid ho
  have HE := Lib.hid heach
  have HLen := Lib.hid hlen
  clear ho heach hlen
  go_enter Try.func43, Try.ntmps43
  go_wp2_with (first
    | (go_at_call 38; refine (new_any _ L.length h1 h2).mono ?_; rintro e w1 ⟨d, rfl, hx, hc1⟩; have HX := Lib.hid hx; have HC1 := Lib.hid hc1; clear hx hc1))
  go_loopw [19] (fun j wr => ∃ k : Nat, j = .int .i64 k ∧ k ≤ L.length ∧ (∀ (i : Nat) b, i < k → L[i]? = some b → b.length = 64) ∧ DiskAt wr d (born w w1) (DV.ofK L k) ∧ Chg (fun _ => False) w wr ∧ w1.heap.size ≤ wr.heap.size) (fun j _ => L.length - (intOf j).toNat)
  · exact ⟨0, rfl, Nat.zero_le _, by intro i b h; omega, by rw [of_zero]; exact HX.out, HC1.out, Nat.le_refl _⟩
  obtain ⟨k, rfl, hk, h64, hD, hC, hsz⟩ := hrel
  have HD := Lib.hid hD
  have HC := Lib.hid hC
  have H64 := Lib.hid h64
  clear hD hC h64
  by_cases hlt : k < L.length
  · have hki : (k : Int) < (L.length : Int) := by omega
    have hkg : k < gs.length := by rw [HLen.out]; exact hlt
    obtain ⟨b0, off, hoa, -, hc0⟩ := HO.out.cell hkg
    subst hoa
    have hce := HC.out.cell hc0 id
    have hsl := HE.out k _ _ (List.getElem?_eq_getElem hkg) (List.getElem?_eq_getElem hlt)
    obtain ⟨b, hb⟩ : ∃ b, L[k] = b := ⟨_, rfl⟩
    rw [hb] at hsl
    obtain ⟨oag, capg, hgv, hgs, hgc⟩ := hsl
    rw [cellsB_length] at hgv
    rw [hgv] at hce
    have HB := Lib.hid hb
    have HGs := Lib.hid hgs
    have HGc := Lib.hid hgc
    clear hc0 hgv hb hgs hgc
    by_cases hb64 : b.length = 64
    · have hbi : ((b.length : Int) != 64) = false := by rw [hb64]; rfl
      obtain ⟨gg, og, rfl⟩ := HGs.out (by intro e; have := congrArg List.length e; rw [cellsB_length, hb64] at this; simp at this)
      have hr0 : w.rangeAt gg og (cellsB b) := fun j x hx => HGc.out gg og rfl j x hx
      have hr : wr.rangeAt gg og (cellsB b) := fun j x hx => HC.out.cell (hr0 j x hx) id
      obtain ⟨bv, q, m, hI⟩ := HD.out
      obtain ⟨gb, capB, rfl, -⟩ := hI.sl
      have hgbF := hI.fb gb rfl
      have hne : gg ≠ gb := fun e => by
        have h0 : 0 < (cellsB b).length := by rw [cellsB_length, hb64]; omega
        have := World.block_lt_of_cell? _ _ (hr0 0 _ (List.getElem?_eq_getElem h0))
        have := hgbF.1
        simp only at *
        omega
      have hdb : d ≠ gb := fun e => row_ne_d hI hI.rows (by rw [e]; rfl)
      have c0 : wr.cell? ⟨d, 0, none⟩ = some (.slice (some ⟨gb, 0, none⟩) L.length capB) := by
        have := cell_of_block (i := 0) hI.head rfl
        rw [show (DV.ofK L k).B.length = L.length from ofB_len L k hk] at this
        exact this
      have hId : DiskIs wr.drew d (born w w1) (DV.ofK L k) (.slice (some ⟨gb, 0, none⟩) (DV.ofK L k).B.length capB) q m := hI.kept ((Chg.refl (fun _ => False) wr).drew) (fun _ _ h => h)
      have hI5 := hId.setB k b hb64
      have hth : wr.drew.there gb (k * 64) 64 := rows_there hId.rows (by rw [show (DV.ofK L k).B.length = L.length from ofB_len L k hk]; exact hlt)
      have hsa : ∀ w', (Instr.arrayAt 112 (.slice (some ⟨gg, og, none⟩) b.length capg)).run Try.prog w' = .ok (.pointer (some ⟨gg, og, none⟩)) w' := fun w' => run_arrayAt _ _ _ 64 _ _ _ Try.underlying112 (by omega)
      have hty := Try.underlying112
      have hsz2 : (Try.prog.info? 112).map (·.size) = some (cellsB b).length := by rw [cellsB_length, hb64]; exact size_block
      have HI5 := Lib.hid hI5
      have HTh := Lib.hid hth
      have HR := Lib.hid hr
      have hgw := hgbF.1
      clear hI hgbF hId hI5 hth hr hr0
      rw [hb64] at hce hsa
      go_wp2_with fail
      refine wp_region_noPanic ?_
      refine wp_region_held_drew (S := (fun w' => w'.cell? ⟨d, 0, none⟩ = some (.slice (some ⟨gb, 0, none⟩) L.length capB) ∧ w'.rangeAt gg og (cellsB b))) (by kernel_rfl) (⟨c0, HR.out⟩) (fun hHeld => ?_)
      refine take_list (i := 0) (v := ?_) rfl (by kernel_rfl) (by kernel_rfl) (by kernel_rfl) (fun _ _ _ h => h) (Or.inl ⟨by rfl, fun w hSw => ?_⟩) hHeld ?_
      rotate_left
      · (obtain ⟨hSw1, hSw2⟩ := hSw; go_simp)
        try with_reducible rfl
      simp only [Act.put, List.setIfInBounds_toArray, List.set_cons_zero, List.set_cons_succ]
      refine take_list (i := 1) (v := ?_) rfl (by kernel_rfl) (by kernel_rfl) (by kernel_rfl) (fun _ _ _ h => h) (Or.inl ⟨by rfl, fun w hSw => ?_⟩) hHeld ?_
      rotate_left
      · (obtain ⟨hSw1, hSw2⟩ := hSw; go_simp)
        try with_reducible rfl
      simp only [Act.put, List.setIfInBounds_toArray, List.set_cons_zero, List.set_cons_succ]
      refine take_list (i := 2) (v := ?_) rfl (by kernel_rfl) (by kernel_rfl) (by kernel_rfl) (fun _ _ _ h => h) (Or.inl ⟨by rfl, fun w hSw => ?_⟩) hHeld ?_
      rotate_left
      · (obtain ⟨hSw1, hSw2⟩ := hSw; go_simp)
        try with_reducible rfl
      simp only [Act.put, List.setIfInBounds_toArray, List.set_cons_zero, List.set_cons_succ]
      refine take_list (i := 3) (v := ?_) rfl (by kernel_rfl) (by kernel_rfl) (by kernel_rfl) (fun _ _ _ h => h) (Or.inl ⟨by rfl, fun w hSw => ?_⟩) hHeld ?_
      rotate_left
      · (obtain ⟨hSw1, hSw2⟩ := hSw; go_simp)
        try with_reducible rfl
      simp only [Act.put, List.setIfInBounds_toArray, List.set_cons_zero, List.set_cons_succ]
      refine take_list (i := 4) (v := ?_) rfl (by kernel_rfl) (by kernel_rfl) (by kernel_rfl) (fun _ _ _ h => h) (Or.inl ⟨by rfl, fun w hSw => ?_⟩) hHeld ?_
      rotate_left
      · (obtain ⟨hSw1, hSw2⟩ := hSw; go_simp)
        try with_reducible rfl
      simp only [Act.put, List.setIfInBounds_toArray, List.set_cons_zero, List.set_cons_succ]
      refine take_list (i := 5) (v := ?_) rfl (by kernel_rfl) (by kernel_rfl) (by kernel_rfl) (fun _ _ _ h => h) (Or.inl ⟨by rfl, fun w hSw => ?_⟩) hHeld ?_
      rotate_left
      · (obtain ⟨hSw1, hSw2⟩ := hSw; go_simp)
        try with_reducible rfl
      simp only [Act.put, List.setIfInBounds_toArray, List.set_cons_zero, List.set_cons_succ]
      refine take_list (i := 6) (v := ?_) rfl (by kernel_rfl) (by kernel_rfl) (by kernel_rfl) (fun _ _ _ h => h) (Or.inl ⟨by rfl, fun w hSw => ?_⟩) hHeld ?_
      rotate_left
      · (obtain ⟨hSw1, hSw2⟩ := hSw; go_simp)
        try with_reducible rfl
      simp only [Act.put, List.setIfInBounds_toArray, List.set_cons_zero, List.set_cons_succ]
      refine take_list (i := 7) rfl (by kernel_rfl) (by kernel_rfl) (by kernel_rfl) (fun _ _ _ h => h) ((yieldsIf_load_mid (by rfl) _ _ rfl _ _ rfl (cellsB b) _ (fun w h => h.2) hty rfl hsz2)) hHeld ?_
      simp only [Act.put, List.setIfInBounds_toArray, List.set_cons_zero, List.set_cons_succ]
      refine take_list (i := 8) (v := ?_) rfl (by kernel_rfl) (by kernel_rfl) (by kernel_rfl) (fun _ _ _ h => h) (Or.inl ⟨by rfl, fun w hSw => ?_⟩) hHeld ?_
      rotate_left
      · (obtain ⟨hSw1, hSw2⟩ := hSw; go_simp)
        try with_reducible rfl
      simp only [Act.put, List.setIfInBounds_toArray, List.set_cons_zero, List.set_cons_succ]
      refine wpAnyH_ready (rs := [9]) (by kernel_rfl) (by simp) (one_list (i := 9) rfl (by rfl) (fun K hK => ?_) AllReadyH.nil)
      refine wp_store_mid _ _ _ rfl gb (k * 64) (cellsB b).toArray rfl rfl (by rw [List.size_toArray, cellsB_length, hb64]; exact HTh.out) (by rw [List.size_toArray]; exact hsz2) (all_oneCell_toArray (one_cellsB _)) ?_
      rw [List.toList_toArray]
      obtain ⟨w5, hw5⟩ : ∃ w5, wr.drew.setCells gb (k * 64) (cellsB b) = w5 := ⟨_, rfl⟩
      have H5 := HI5.out
      rw [hw5] at H5 ⊢
      refine hK _ _ ⟨H5.2.cell c0 hdb, fun j x hx => H5.2.cell (HR.out j x hx) hne⟩ (fun hH2 => ?_)
      try simp only [Act.put, List.setIfInBounds_toArray, List.set_cons_zero, List.set_cons_succ]
      have HH5 := Lib.hid H5
      clear hw5 H5 HI5
      refine wpAnyH_done (by kernel_rfl) ?_ _
      refine NoPanic.normal ?_
      go_wp2_with fail
      refine ⟨⟨k + 1, by go_num, hlt, ?_, ?_, (HC.out.drew).new HH5.out.2 (fun i e => by rw [e]; exact hgw), Nat.le_trans hsz HH5.out.2.size⟩, meas_step hlt⟩
      · intro i b' hi hb'
        rcases Nat.lt_or_ge i k with h | h
        · exact H64.out i b' h hb'
        · have : i = k := by omega
          subst this
          rw [List.getElem?_eq_getElem hlt, HB.out] at hb'
          cases hb'; exact hb64
      · have e : ({ DV.ofK L k with B := (DV.ofK L k).B.set k b } : DV) = DV.ofK L (k + 1) := by
          unfold DV.ofK
          simp only
          rw [← HB.out, ofB_succ L hlt]
        rw [← e]
        exact ⟨_, _, _, HH5.out.1⟩
    · have hbi : ((b.length : Int) != 64) = true := by simp; omega
      go_wp2_with fail
      go_ret2
      exact Or.inr ⟨⟨b, by rw [← HB.out]; exact List.getElem_mem _, hb64⟩, rfl, HC.out⟩
  · have hki : ¬ (k : Int) < (L.length : Int) := by omega
    obtain rfl : k = L.length := by omega
    go_wp2_with fail
    go_ret2
    refine Or.inl ⟨fun b hb => ?_, _, rfl, HD.out.wide (fun j hj => ⟨hj.1, Nat.lt_of_lt_of_le hj.2 hsz⟩) (fun j hj => hj.2), HC.out⟩
    obtain ⟨i, hi⟩ := List.getElem?_of_mem hb
    exact H64.out i b (List.getElem?_eq_some_iff.1 hi).1 hi

end Go.Proofs.Ytomceindibnpnaa.disks

/-
  disk: Flush, the walk.
-/
import Derived.Test.YtomceindibnpnaaDiskRow
namespace Go.Proofs.Ytomceindibnpnaa.disks
open Go.RowKit Go.Maps Go.My Go.ChangeMaps
set_option maxRecDepth 100000

variable {w w' : World} {d q : Nat} {F F' : Nat → Prop} {X X' : DV} {bv : Value} {m : List (Int × (Value × List Blk))}

def flushC (X : DV) : Int := if X.down then 15 else if X.fuse = 0 then 15 else 0
/-- The blocks when those of 'done' are through. -/
def DV.upto (X : DV) (done : List Int) : List Blk := (List.range X.B.length).map fun i : Nat => if (i : Int) ∈ done then X.cur i else X.B[i]?.getD []
def DV.all (X : DV) : DV := { X with B := (List.range X.B.length).map X.cur, L := fun _ => [] }
def DV.flush (X : DV) : DV := if X.down then X else if X.fuse = 0 then X.burn else X.burn.all

theorem mem_mget {K V : Type} [DecidableEq K] {m : List (K × V)} {k : K} {v : V} (h : mget m k = Option.some v) : (k, v) ∈ m := by
  unfold mget at h
  obtain ⟨p, hp, rfl⟩ := Option.map_eq_some_iff.1 h
  have h1 := List.mem_of_find?_eq_some hp
  have h2 := List.find?_some hp
  simp only [decide_eq_true_eq] at h2
  rw [← h2]; exact h1

theorem some_nil (X : DV) : X.upto [] = X.B := by
  apply List.ext_getElem?
  intro i
  unfold DV.upto
  by_cases h : i < X.B.length
  · simp [h]
  · simp [h]

theorem some_length (X : DV) (done : List Int) : (X.upto done).length = X.B.length := by simp [DV.upto]

theorem some_cons (X : DV) (done : List Int) (k : Nat) : X.upto ((k : Int) :: done) = (X.upto done).set k (X.cur k) := by
  apply List.ext_getElem?
  intro i
  unfold DV.upto
  rw [List.getElem?_set]
  by_cases h : i < X.B.length
  · by_cases hk : k = i
    · subst hk; simp [h]
    · have : ¬ (i : Int) = (k : Int) := by omega
      simp [h, hk, this]
  · simp [h]
    intro e; omega

theorem DiskIs.some_all (h : DiskIs w d F X bv q m) (done : List Int) (hd : ∀ p ∈ m, p.1 ∈ done) : X.upto done = X.all.B := by
  unfold DV.upto DV.all
  apply List.map_congr_left
  intro i hi
  by_cases hk : (i : Int) ∈ done
  · rw [if_pos hk]
  · rw [if_neg hk]
    have : X.L i = [] := by
      rw [h.waits i]
      cases hm : mget m (i : Int) with
      | none => rfl
      | some v => exact absurd (hd _ (mem_mget hm)) hk
    simp [DV.cur, this]

theorem burn_B (X : DV) : X.burn.B = X.B := by unfold DV.burn; split <;> rfl
theorem burn_L (X : DV) : X.burn.L = X.L := by unfold DV.burn; split <;> rfl

/-- The last one that waits, of an entry. -/
theorem DiskIs.last (h : DiskIs w d F X bv q m) {i : Int} {v : Value} {L : List Blk} (hm : (i, v, L) ∈ m) :
    ∃ (k : Nat) (l : List Blk) (b : Blk) (g cap : Nat), i = (k : Int) ∧ k < X.B.length ∧ L = l ++ [b] ∧ X.L k = l ++ [b] ∧ b.length = 64 ∧ v = .slice (some ⟨g, 0, none⟩) (l.length + 1) cap ∧ w.rangeAt g (l.length * 64) (cellsB b) ∧
      l.length + 1 ≤ maxLen ∧ bv.ownBlock ≠ some g ∧ g < w.heap.size := by
  obtain ⟨h1, h2, h3, h4⟩ := h.lists _ hm
  rcases List.eq_nil_or_concat L with rfl | ⟨l, b, hL⟩
  · exact absurd rfl h2
  rw [List.concat_eq_append] at hL
  subst hL
  obtain ⟨g, cap, hv, hg, hr, -⟩ := rows_range h1 (k := l.length) (by simp)
  have hb : b.length = 64 := by
    have := h1.each (cellsB b) (by simp)
    rwa [cellsB_length] at this
  have hk : ((i.toNat : Nat) : Int) = i := Int.toNat_of_nonneg h3
  obtain ⟨j, hj⟩ := List.getElem?_of_mem hm
  have hL : X.L i.toNat = l ++ [b] := by
    rw [h.waits, hk, mget_some_of m h.wmap.nodup hj]; rfl
  simp only at hv h4
  refine ⟨i.toNat, l, b, g, cap, hk.symm, by omega, rfl, hL, hb, by simpa using hv, by simpa using hr, ?_, ?_, hg⟩
  · obtain ⟨_, _, _, e1, e2⟩ := h1.slice
    simp only [List.length_map, List.length_append, List.length_cons, List.length_nil] at e1
    omega
  · intro e
    exact h.off _ hm (by rw [e]; simp only [hv]; rfl)

set_option maxHeartbeats 4000000 in
theorem flush_any (w : World) (h : DiskIs w d F X bv q m) (hf : X.fuse ≤ 9223372036854775807) :
    Calls Try.prog 30 #[.pointer (some ⟨d, 0, none⟩)] w fun e w' => e = .returned (.int .i64 (flushC X)) ∧ DiskAt w' d F X.flush ∧ Chg F w w' := by
  have ha := asked0 h
  have H := Lib.hid h
  clear h
  cases hd : X.down with
  | true =>
    have ha' : askedC X 0 = 15 := by rw [ha, hd]; rfl
    go_enter Try.func30, Try.ntmps30
    go_wp2_with (first
      | (go_at_call 61; refine (asked_any _ ⟨_, _, _, H.out⟩ _).mono ?_; rw [ha']; rintro e w' ⟨rfl, rfl⟩))
    go_ret
    refine ⟨by simp [flushC, hd], ?_, Chg.refl _ _⟩
    rw [DV.flush, if_pos hd]
    exact ⟨_, _, _, H.out⟩
  | false =>
    have ha' : askedC X 0 = 0 := by rw [ha, hd]; rfl
    by_cases hz : X.fuse = 0
    · go_enter Try.func30, Try.ntmps30
      go_wp2_with (first
        | (go_at_call 61; refine (asked_any _ ⟨_, _, _, H.out⟩ _).mono ?_; rw [ha']; rintro e w' ⟨rfl, rfl⟩)
        | (go_at_call 62; refine (through_any _ H.out hf).mono ?_; simp only [hz, ne_eq, not_true_eq_false, decide_false]; rintro e w1 ⟨rfl, h1, hc1⟩))
      go_ret
      refine ⟨by simp [flushC, hz], ?_, hc1.mono (fun j _ e => e ▸ H.out.fd)⟩
      rw [DV.flush, if_neg (by simp [hd]), if_pos hz]
      exact ⟨_, _, _, h1⟩
    · go_enter Try.func30, Try.ntmps30
      go_wp2_with (first
        | (go_at_call 61; refine (asked_any _ ⟨_, _, _, H.out⟩ _).mono ?_; rw [ha']; rintro e w' ⟨rfl, rfl⟩)
        | (go_at_call 62; refine (through_any _ H.out hf).mono ?_; simp only [hz, ne_eq, not_false_eq_true, decide_true]; rintro e w1 ⟨rfl, h1, hc1⟩
           have H1 := Lib.hid h1
           have HC1 := Lib.hid hc1
           have c1 : w1.cell? ⟨d, 1, none⟩ = some (.map (some q)) := cell_of_block h1.head rfl
           clear h1 hc1)
        | (at_range; refine wpList_rangeM H1.out.wmap rfl _ 92 91 rfl Try.underlying92 rfl ?_; intro w2 cnt hr2 hc2 hs2))
      go_frame
      have hI2 : DiskIs w2 d F { X.burn with B := X.burn.upto [] } bv q m := by rw [some_nil]; exact H1.out.kept hc2 (fun _ _ h => h)
      go_loopw [4] (fun _ wr => ∃ done cnt, RngIs iKey Prod.fst wr q w1.heap.size m done cnt ∧ DiskIs wr d F { X.burn with B := X.burn.upto done } bv q m ∧ Chg F w1 wr) (fun _ wr => wr.rangeLeft q w1.heap.size)
      · exact ⟨[], cnt, hr2, hI2, hc2.mono (fun _ _ h => h.elim)⟩
      clear hr2 hI2 hc2 hs2
      obtain ⟨done, cnt, hr, hI, hc⟩ := hrel
      have HR := Lib.hid hr
      have HI := Lib.hid hI
      have HC := Lib.hid hc
      clear hr hI hc
      rcases HR.out.next 0 with ⟨hall, hrun⟩ | ⟨k, v, w', cnt', hm, hn, hrun, hr', hlt, hcr, hsz, hen⟩
      · have hclr : ∃ clock, ∀ ty, (Builtin.clear_ #[92] ty #[.map (some q)]).run Try.prog wr = .ok (.tuple #[]) (setBlock wr q (.map #[] clock)) := by
          obtain ⟨es, clock, hb, -⟩ := HI.out.wmap
          exact ⟨_, fun ty => by simp [Builtin.clear_, run_underlying Try.underlying92, MapKept.run_getObj_map hb, MapKept.run_setObj_map _ hb, Result.andThen]; rfl⟩
        obtain ⟨clock, hclr⟩ := hclr
        have c1 : wr.cell? ⟨d, 1, none⟩ = some (.map (some q)) := cell_of_block HI.out.head rfl
        go_wp2_with fail
        go_ret
        have e : ({ X.burn with B := X.burn.upto done, L := fun _ => [] } : DV) = X.burn.all := by rw [H1.out.some_all done hall]; rfl
        refine ⟨by simp [flushC, hd, hz], ?_, ?_⟩
        · rw [DV.flush, if_neg (by simp [hd]), if_neg hz, ← e]
          exact ⟨_, _, _, (HI.out.cleared clock).1⟩
        · exact ((HC1.out.mono (fun j _ e => e ▸ H.out.fd)).trans' (HC.out)).trans' ((HI.out.cleared clock).2.mono (fun j _ e => e ▸ H.out.fq))
      · obtain ⟨v, L⟩ := v
        have hen' : (Instr.entry (.pointer (some ⟨w1.heap.size, 0, none⟩))).run Try.prog w' = .ok (.tuple #[.int .i64 k, v]) w' := hen
        have hrun' : (Instr.next (.pointer (some ⟨w1.heap.size, 0, none⟩)) false 0).run Try.prog wr = .ok (.tuple #[.bool true, .int .i64 k, v]) w' := hrun
        have hI' : DiskIs w' d F { X.burn with B := X.burn.upto done } bv q m := HI.out.kept hcr (fun j hj e => by have := H1.out.lt j hj; omega)
        obtain ⟨k, l, b, g, cap, rfl, hk, rfl, hLk, hb, rfl, hrg, hmx, hoff, hglt⟩ := hI'.last hm
        obtain ⟨gb, capB, rfl, hcapB⟩ := hI'.sl
        simp only [some_length, burn_B] at hk hcapB
        have c0 : w'.cell? ⟨d, 0, none⟩ = some (.slice (some ⟨gb, 0, none⟩) (X.burn.upto done).length capB) := cell_of_block hI'.head rfl
        rw [some_length, burn_B] at c0
        simp only at hI'
        have hlw : wrap64 (l.length : Int) = (l.length : Int) := by unfold maxLen at hmx; exact IntWalk.wrap64_in _ (by omega)
        have hlw2 : IntKind.i64.wrap (l.length : Int) = (l.length : Int) := (IntWalk.i64_left _).trans hlw
        have hll : (l.length : Int) < (l.length : Int) + 1 := by omega
        have hR' := Lib.hid hr'
        have HI' := Lib.hid hI'
        have HI'' : Hid (DiskIs w'.drew d F { X.burn with B := X.burn.upto done } (.slice (some ⟨gb, 0, none⟩) (X.burn.upto done).length capB) q m) := Lib.hid (HI'.out.kept ((Chg.refl (fun _ => False) w').drew) (fun _ _ h => h))
        have HC' := Lib.hid hcr
        clear hen hrun hr' hI' hcr
        go_wp2_with fail
        have hkn : (k : Int) < (X.B.length : Int) := by omega
        have hty := Try.underlying112
        have hsz : (Try.prog.info? 112).map (·.size) = some (cellsB b).length := by rw [cellsB_length, hb]; exact size_block
        refine wp_region_noPanic ?_
        refine wp_region_held_drew (S := (fun w'' => w''.cell? ⟨d, 0, none⟩ = some (.slice (some ⟨gb, 0, none⟩) X.B.length capB) ∧ w''.rangeAt g (l.length * 64) (cellsB b))) (by kernel_rfl) (⟨c0, hrg⟩) (fun hHeld => ?_)
        refine take_list (i := 0) (v := ?_) rfl (by kernel_rfl) (by kernel_rfl) (by kernel_rfl) (fun _ _ _ h => h) (Or.inl ⟨by rfl, fun w hSw => ?_⟩) hHeld ?_
        rotate_left
        · (obtain ⟨hSw1, hSw2⟩ := hSw; go_simp)
          try with_reducible rfl
        simp only [Act.put, List.setIfInBounds_toArray, List.set_cons_zero, List.set_cons_succ]
        refine take_list (i := 1) (v := ?_) rfl (by kernel_rfl) (by kernel_rfl) (by kernel_rfl) (fun _ _ _ h => h) (Or.inl ⟨by rfl, fun w hSw => ?_⟩) hHeld ?_
        rotate_left
        · (obtain ⟨hSw1, hSw2⟩ := hSw; go_simp)
          try with_reducible rfl
        simp only [Act.put, List.setIfInBounds_toArray, List.set_cons_zero, List.set_cons_succ]
        refine take_list (i := 2) (v := ?_) rfl (by kernel_rfl) (by kernel_rfl) (by kernel_rfl) (fun _ _ _ h => h) (Or.inl ⟨by rfl, fun w hSw => ?_⟩) hHeld ?_
        rotate_left
        · (obtain ⟨hSw1, hSw2⟩ := hSw; go_simp)
          try with_reducible rfl
        simp only [Act.put, List.setIfInBounds_toArray, List.set_cons_zero, List.set_cons_succ]
        refine take_list (i := 3) (v := ?_) rfl (by kernel_rfl) (by kernel_rfl) (by kernel_rfl) (fun _ _ _ h => h) (Or.inl ⟨by rfl, fun w hSw => ?_⟩) hHeld ?_
        rotate_left
        · (obtain ⟨hSw1, hSw2⟩ := hSw; go_simp)
          try with_reducible rfl
        simp only [Act.put, List.setIfInBounds_toArray, List.set_cons_zero, List.set_cons_succ]
        refine take_list (i := 4) (v := ?_) rfl (by kernel_rfl) (by kernel_rfl) (by kernel_rfl) (fun _ _ _ h => h) (Or.inl ⟨by rfl, fun w hSw => ?_⟩) hHeld ?_
        rotate_left
        · (obtain ⟨hSw1, hSw2⟩ := hSw; go_simp)
          try with_reducible rfl
        simp only [Act.put, List.setIfInBounds_toArray, List.set_cons_zero, List.set_cons_succ]
        refine take_list (i := 5) (v := ?_) rfl (by kernel_rfl) (by kernel_rfl) (by kernel_rfl) (fun _ _ _ h => h) (Or.inl ⟨by rfl, fun w hSw => ?_⟩) hHeld ?_
        rotate_left
        · (obtain ⟨hSw1, hSw2⟩ := hSw; go_simp)
          try with_reducible rfl
        simp only [Act.put, List.setIfInBounds_toArray, List.set_cons_zero, List.set_cons_succ]
        refine take_list (i := 6) (v := ?_) rfl (by kernel_rfl) (by kernel_rfl) (by kernel_rfl) (fun _ _ _ h => h) (Or.inl ⟨by rfl, fun w hSw => ?_⟩) hHeld ?_
        rotate_left
        · (obtain ⟨hSw1, hSw2⟩ := hSw; go_simp)
          try with_reducible rfl
        simp only [Act.put, List.setIfInBounds_toArray, List.set_cons_zero, List.set_cons_succ]
        refine take_list (i := 7) (v := ?_) rfl (by kernel_rfl) (by kernel_rfl) (by kernel_rfl) (fun _ _ _ h => h) (Or.inl ⟨by rfl, fun w hSw => ?_⟩) hHeld ?_
        rotate_left
        · (obtain ⟨hSw1, hSw2⟩ := hSw; go_simp)
          try with_reducible rfl
        simp only [Act.put, List.setIfInBounds_toArray, List.set_cons_zero, List.set_cons_succ]
        refine take_list (i := 8) (v := ?_) rfl (by kernel_rfl) (by kernel_rfl) (by kernel_rfl) (fun _ _ _ h => h) (Or.inl ⟨by rfl, fun w hSw => ?_⟩) hHeld ?_
        rotate_left
        · (obtain ⟨hSw1, hSw2⟩ := hSw; go_simp)
          try with_reducible rfl
        simp only [Act.put, List.setIfInBounds_toArray, List.set_cons_zero, List.set_cons_succ]
        refine take_list (i := 9) (v := ?_) rfl (by kernel_rfl) (by kernel_rfl) (by kernel_rfl) (fun _ _ _ h => h) (Or.inl ⟨by rfl, fun w hSw => ?_⟩) hHeld ?_
        rotate_left
        · (obtain ⟨hSw1, hSw2⟩ := hSw; go_simp)
          try with_reducible rfl
        simp only [Act.put, List.setIfInBounds_toArray, List.set_cons_zero, List.set_cons_succ]
        refine take_list (i := 10) rfl (by kernel_rfl) (by kernel_rfl) (by kernel_rfl) (fun _ _ _ h => h) ((yieldsIf_load_mid (by rfl) _ _ rfl _ _ rfl (cellsB b) _ (fun w h => h.2) hty rfl hsz)) hHeld ?_
        simp only [Act.put, List.setIfInBounds_toArray, List.set_cons_zero, List.set_cons_succ]
        refine take_list (i := 11) (v := ?_) rfl (by kernel_rfl) (by kernel_rfl) (by kernel_rfl) (fun _ _ _ h => h) (Or.inl ⟨by rfl, fun w hSw => ?_⟩) hHeld ?_
        rotate_left
        · (obtain ⟨hSw1, hSw2⟩ := hSw; go_simp)
          try with_reducible rfl
        simp only [Act.put, List.setIfInBounds_toArray, List.set_cons_zero, List.set_cons_succ]
        refine wpAnyH_ready (rs := [12]) (by kernel_rfl) (by simp) (one_list (i := 12) rfl (by rfl) (fun K hK => ?_) AllReadyH.nil)
        refine wp_store_mid _ _ _ rfl gb (k * 64) (cellsB b).toArray rfl rfl ?_ ?_ ?_ ?_
        · rw [List.size_toArray, cellsB_length, hb]
          exact rows_there HI''.out.rows (by rw [some_length, burn_B]; exact hk)
        · simpa using hsz
        · exact all_oneCell_toArray (one_cellsB _)
        rw [List.toList_toArray]
        obtain ⟨hI3, hC3⟩ := HI''.out.setB k b hb
        have c03 := hC3.cell c0 (fun e => row_ne_d HI''.out HI''.out.rows (by rw [show d = gb from e]; rfl))
        have r3 : (w'.drew.setCells gb (k * 64) (cellsB b)).rangeAt g (l.length * 64) (cellsB b) := fun j x hx => hC3.cell (hrg j x hx) (fun e => hoff (by rw [show g = gb from e]; rfl))
        refine hK _ _ (⟨c03, r3⟩) (fun hHeld2 => ?_)
        try simp only [Act.put, List.setIfInBounds_toArray, List.set_cons_zero, List.set_cons_succ]
        refine wpAnyH_done (by kernel_rfl) ?_ _
        refine NoPanic.normal ?_
        go_wp2_with fail
        have hgF := H1.out.lt gb (H1.out.fb gb rfl)
        have hqg : q ≠ gb := fun e => row_ne_q HI''.out HI''.out.rows (by rw [e]; rfl)
        have hC4 : Chg (· = gb) w' (w'.drew.setCells gb (k * 64) (cellsB b)) := ((Chg.refl (fun _ => False) w').drew.mono (fun _ _ h => h.elim)).trans' hC3
        have hRn := hR'.out.kept hC4 hqg (by omega)
        refine ⟨⟨(k : Int) :: done, cnt', hRn, ?_, ?_⟩, ?_⟩
        · have e : X.burn.upto ((k : Int) :: done) = (X.burn.upto done).set k b := by
            rw [some_cons, show X.burn.cur k = b from by have h1 : X.burn.L k = l ++ [b] := hLk; simp [DV.cur, h1]]
          rw [e]
          exact hI3
        · exact (HC.out.trans HC'.out (fun i hi e => by omega)).trans' (hC4.mono (fun i _ e => e ▸ H1.out.fb gb rfl))
        · rw [hRn.left_eq, HR.out.left_eq]
          exact hlt

end Go.Proofs.Ytomceindibnpnaa.disks

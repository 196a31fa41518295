/-
  disk: Flush, the walk.
-/
import Derived.Test.YtbkefhoapnaciaaGreatPkAa
import Derived.Test.YtbkefhoapnaciaaGreatPkAb
import Derived.Laws.OwnMore
import Derived.Laws.IdiomStrings
import Derived.Shelf.GgSortFunc.InsertionK
import Derived.Shelf.SlSortCmp.WholeK
import Derived.Shelf.SlSortCmp.NoneTotal

section
set_option linter.unusedSimpArgs false
set_option linter.unusedVariables false
namespace Go.Proofs.YtbkefhoapnaciaaGreat.disks
open Go.RowKit Go.Maps Go.My Go.ChangeMaps
set_option maxRecDepth 100000

variable {w w' : World} {d q : Nat} {F F' : Nat → Prop} {X X' : DV} {bv : Value} {m : List (Int × (Value × List Blk))}

def flushC (X : DV) : Int := if X.down then 15 else if X.fuse = 0 then 15 else 0
/-- The blocks when those of 'done' are through. -/
def DV.upto (X : DV) (done : List Int) : List Blk := (List.range X.B.length).map fun i : Nat => if (i : Int) ∈ done then X.cur i else X.B[i]?.getD []
def DV.all (X : DV) : DV := { X with B := (List.range X.B.length).map X.cur, L := fun _ => [] }
def DV.flush (X : DV) : DV := if X.down then X else if X.fuse = 0 then X.burn else X.burn.all

theorem mem_mget {K V : Type} [DecidableEq K] {m : List (K × V)} {k : K} {v : V} (h : mget m k = Option.some v) : (k, v) ∈ m := by
  unfold mget at h
  obtain ⟨p, hp, rfl⟩ := Option.map_eq_some_iff.1 h
  have h1 := List.mem_of_find?_eq_some hp
  have h2 := List.find?_some hp
  simp only [decide_eq_true_eq] at h2
  rw [← h2]; exact h1

theorem some_nil (X : DV) : X.upto [] = X.B := by
  apply List.ext_getElem?
  intro i
  unfold DV.upto
  by_cases h : i < X.B.length
  · simp [h]
  · simp [h]

theorem some_length (X : DV) (done : List Int) : (X.upto done).length = X.B.length := by simp [DV.upto]

theorem some_cons (X : DV) (done : List Int) (k : Nat) : X.upto ((k : Int) :: done) = (X.upto done).set k (X.cur k) := by
  apply List.ext_getElem?
  intro i
  unfold DV.upto
  rw [List.getElem?_set]
  by_cases h : i < X.B.length
  · by_cases hk : k = i
    · subst hk; simp [h]
    · have : ¬ (i : Int) = (k : Int) := by omega
      simp [h, hk, this]
  · simp [h]
    intro e; omega

theorem DiskIs.some_all (h : DiskIs w d F X bv q m) (done : List Int) (hd : ∀ p ∈ m, p.1 ∈ done) : X.upto done = X.all.B := by
  unfold DV.upto DV.all
  apply List.map_congr_left
  intro i hi
  by_cases hk : (i : Int) ∈ done
  · rw [if_pos hk]
  · rw [if_neg hk]
    have : X.L i = [] := by
      rw [h.waits i]
      cases hm : mget m (i : Int) with
      | none => rfl
      | some v => exact absurd (hd _ (mem_mget hm)) hk
    simp [DV.cur, this]

theorem burn_B (X : DV) : X.burn.B = X.B := by unfold DV.burn; split <;> rfl
theorem burn_L (X : DV) : X.burn.L = X.L := by unfold DV.burn; split <;> rfl

/-- The last one that waits, of an entry. -/
theorem DiskIs.last (h : DiskIs w d F X bv q m) {i : Int} {v : Value} {L : List Blk} (hm : (i, v, L) ∈ m) :
    ∃ (k : Nat) (l : List Blk) (b : Blk) (g cap : Nat), i = (k : Int) ∧ k < X.B.length ∧ L = l ++ [b] ∧ X.L k = l ++ [b] ∧ b.length = 64 ∧ v = .slice (some ⟨g, 0, none⟩) (l.length + 1) cap ∧ w.rangeAt g (l.length * 64) (cellsB b) ∧
      l.length + 1 ≤ maxLen ∧ bv.ownBlock ≠ some g ∧ g < w.heap.size := by
  obtain ⟨h1, h2, h3, h4⟩ := h.lists _ hm
  rcases List.eq_nil_or_concat L with rfl | ⟨l, b, hL⟩
  · exact absurd rfl h2
  rw [List.concat_eq_append] at hL
  subst hL
  obtain ⟨g, cap, hv, hg, hr, -⟩ := rows_range h1 (k := l.length) (by simp)
  have hb : b.length = 64 := by
    have := h1.each (cellsB b) (by simp)
    rwa [cellsB_length] at this
  have hk : ((i.toNat : Nat) : Int) = i := Int.toNat_of_nonneg h3
  obtain ⟨j, hj⟩ := List.getElem?_of_mem hm
  have hL : X.L i.toNat = l ++ [b] := by
    rw [h.waits, hk, mget_some_of m h.wmap.nodup hj]; rfl
  simp only at hv h4
  refine ⟨i.toNat, l, b, g, cap, hk.symm, by omega, rfl, hL, hb, by simpa using hv, by simpa using hr, ?_, ?_, hg⟩
  · obtain ⟨_, _, _, e1, e2⟩ := h1.slice
    simp only [List.length_map, List.length_append, List.length_cons, List.length_nil] at e1
    omega
  · intro e
    exact h.off _ hm (by rw [e]; simp only [hv]; rfl)

set_option maxHeartbeats 4000000 in
theorem flush_any (w : World) (h : DiskIs w d F X bv q m) (hf : X.fuse ≤ 9223372036854775807) :
    Calls Tryz.prog 86 #[.pointer (some ⟨d, 0, none⟩)] w fun e w' => e = .returned (.int .i64 (flushC X)) ∧ DiskAt w' d F X.flush ∧ Chg F w w' := by
  have ha := asked0 h
  have H := Lib.hid h
  clear h
  cases hd : X.down with
  | true =>
    have ha' : askedC X 0 = 15 := by rw [ha, hd]; rfl
    go_enter Tryz.func86, Tryz.ntmps86
    go_wp2_with (first
      | (go_at_call 54; refine (asked_any _ ⟨_, _, _, H.out⟩ _).mono ?_; rw [ha']; rintro e w' ⟨rfl, rfl⟩))
    go_ret
    refine ⟨by simp [flushC, hd], ?_, Chg.refl _ _⟩
    rw [DV.flush, if_pos hd]
    exact ⟨_, _, _, H.out⟩
  | false =>
    have ha' : askedC X 0 = 0 := by rw [ha, hd]; rfl
    by_cases hz : X.fuse = 0
    · go_enter Tryz.func86, Tryz.ntmps86
      go_wp2_with (first
        | (go_at_call 54; refine (asked_any _ ⟨_, _, _, H.out⟩ _).mono ?_; rw [ha']; rintro e w' ⟨rfl, rfl⟩)
        | (go_at_call 95; refine (through_any _ H.out hf).mono ?_; simp only [hz, ne_eq, not_true_eq_false, decide_false]; rintro e w1 ⟨rfl, h1, hc1⟩))
      go_ret
      refine ⟨by simp [flushC, hz], ?_, hc1.mono (fun j _ e => e ▸ H.out.fd)⟩
      rw [DV.flush, if_neg (by simp [hd]), if_pos hz]
      exact ⟨_, _, _, h1⟩
    · go_enter Tryz.func86, Tryz.ntmps86
      go_wp2_with (first
        | (go_at_call 54; refine (asked_any _ ⟨_, _, _, H.out⟩ _).mono ?_; rw [ha']; rintro e w' ⟨rfl, rfl⟩)
        | (go_at_call 95; refine (through_any _ H.out hf).mono ?_; simp only [hz, ne_eq, not_false_eq_true, decide_true]; rintro e w1 ⟨rfl, h1, hc1⟩
           have H1 := Lib.hid h1
           have HC1 := Lib.hid hc1
           have c1 : w1.cell? ⟨d, 1, none⟩ = some (.map (some q)) := cell_of_block h1.head rfl
           clear h1 hc1)
        | (at_range; refine wpList_rangeM H1.out.wmap rfl _ 60 59 rfl Tryz.underlying60 rfl ?_; intro w2 cnt hr2 hc2 hs2))
      go_frame
      have hI2 : DiskIs w2 d F { X.burn with B := X.burn.upto [] } bv q m := by rw [some_nil]; exact H1.out.kept hc2 (fun _ _ h => h)
      go_loopw [4] (fun _ wr => ∃ done cnt, RngIs iKey Prod.fst wr q w1.heap.size m done cnt ∧ DiskIs wr d F { X.burn with B := X.burn.upto done } bv q m ∧ Chg F w1 wr) (fun _ wr => wr.rangeLeft q w1.heap.size)
      · exact ⟨[], cnt, hr2, hI2, hc2.mono (fun _ _ h => h.elim)⟩
      clear hr2 hI2 hc2 hs2
      obtain ⟨done, cnt, hr, hI, hc⟩ := hrel
      have HR := Lib.hid hr
      have HI := Lib.hid hI
      have HC := Lib.hid hc
      clear hr hI hc
      rcases HR.out.next 0 with ⟨hall, hrun⟩ | ⟨k, v, w', cnt', hm, hn, hrun, hr', hlt, hcr, hsz, hen⟩
      · have hclr : ∃ clock, ∀ ty, (Builtin.clear_ #[60] ty #[.map (some q)]).run Tryz.prog wr = .ok (.tuple #[]) (setBlock wr q (.map #[] clock)) := by
          obtain ⟨es, clock, hb, -⟩ := HI.out.wmap
          exact ⟨_, fun ty => by simp [Builtin.clear_, run_underlying Tryz.underlying60, MapKept.run_getObj_map hb, MapKept.run_setObj_map _ hb, Result.andThen]; rfl⟩
        obtain ⟨clock, hclr⟩ := hclr
        have c1 : wr.cell? ⟨d, 1, none⟩ = some (.map (some q)) := cell_of_block HI.out.head rfl
        go_wp2_with fail
        go_ret
        have e : ({ X.burn with B := X.burn.upto done, L := fun _ => [] } : DV) = X.burn.all := by rw [H1.out.some_all done hall]; rfl
        refine ⟨by simp [flushC, hd, hz], ?_, ?_⟩
        · rw [DV.flush, if_neg (by simp [hd]), if_neg hz, ← e]
          exact ⟨_, _, _, (HI.out.cleared clock).1⟩
        · exact ((HC1.out.mono (fun j _ e => e ▸ H.out.fd)).trans' (HC.out)).trans' ((HI.out.cleared clock).2.mono (fun j _ e => e ▸ H.out.fq))
      · obtain ⟨v, L⟩ := v
        have hen' : (Instr.entry (.pointer (some ⟨w1.heap.size, 0, none⟩))).run Tryz.prog w' = .ok (.tuple #[.int .i64 k, v]) w' := hen
        have hrun' : (Instr.next (.pointer (some ⟨w1.heap.size, 0, none⟩)) false 0).run Tryz.prog wr = .ok (.tuple #[.bool true, .int .i64 k, v]) w' := hrun
        have hI' : DiskIs w' d F { X.burn with B := X.burn.upto done } bv q m := HI.out.kept hcr (fun j hj e => by have := H1.out.lt j hj; omega)
        obtain ⟨k, l, b, g, cap, rfl, hk, rfl, hLk, hb, rfl, hrg, hmx, hoff, hglt⟩ := hI'.last hm
        obtain ⟨gb, capB, rfl, hcapB⟩ := hI'.sl
        simp only [some_length, burn_B] at hk hcapB
        have c0 : w'.cell? ⟨d, 0, none⟩ = some (.slice (some ⟨gb, 0, none⟩) (X.burn.upto done).length capB) := cell_of_block hI'.head rfl
        rw [some_length, burn_B] at c0
        simp only at hI'
        have hlw : wrap64 (l.length : Int) = (l.length : Int) := by unfold maxLen at hmx; exact IntWalk.wrap64_in _ (by omega)
        have hlw2 : IntKind.i64.wrap (l.length : Int) = (l.length : Int) := (IntWalk.i64_left _).trans hlw
        have hll : (l.length : Int) < (l.length : Int) + 1 := by omega
        have hR' := Lib.hid hr'
        have HI' := Lib.hid hI'
        have HI'' : Hid (DiskIs w'.drew d F { X.burn with B := X.burn.upto done } (.slice (some ⟨gb, 0, none⟩) (X.burn.upto done).length capB) q m) := Lib.hid (HI'.out.kept ((Chg.refl (fun _ => False) w').drew) (fun _ _ h => h))
        have HC' := Lib.hid hcr
        clear hen hrun hr' hI' hcr
        go_wp2_with fail
        have hkn : (k : Int) < (X.B.length : Int) := by omega
        have hty := Tryz.underlying107
        have hsz : (Tryz.prog.info? 107).map (·.size) = some (cellsB b).length := by rw [cellsB_length, hb]; exact size_block
        refine wp_region_noPanic ?_
        refine wp_region_held_drew (S := (fun w'' => w''.cell? ⟨d, 0, none⟩ = some (.slice (some ⟨gb, 0, none⟩) X.B.length capB) ∧ w''.rangeAt g (l.length * 64) (cellsB b))) (by kernel_rfl) (⟨c0, hrg⟩) (fun hHeld => ?_)
        refine take_list (i := 0) (v := ?_) rfl (by kernel_rfl) (by kernel_rfl) (by kernel_rfl) (fun _ _ _ h => h) (Or.inl ⟨by rfl, fun w hSw => ?_⟩) hHeld ?_
        rotate_left
        · (obtain ⟨hSw1, hSw2⟩ := hSw; go_simp)
          try with_reducible rfl
        simp only [Act.put, List.setIfInBounds_toArray, List.set_cons_zero, List.set_cons_succ]
        refine take_list (i := 1) (v := ?_) rfl (by kernel_rfl) (by kernel_rfl) (by kernel_rfl) (fun _ _ _ h => h) (Or.inl ⟨by rfl, fun w hSw => ?_⟩) hHeld ?_
        rotate_left
        · (obtain ⟨hSw1, hSw2⟩ := hSw; go_simp)
          try with_reducible rfl
        simp only [Act.put, List.setIfInBounds_toArray, List.set_cons_zero, List.set_cons_succ]
        refine take_list (i := 2) (v := ?_) rfl (by kernel_rfl) (by kernel_rfl) (by kernel_rfl) (fun _ _ _ h => h) (Or.inl ⟨by rfl, fun w hSw => ?_⟩) hHeld ?_
        rotate_left
        · (obtain ⟨hSw1, hSw2⟩ := hSw; go_simp)
          try with_reducible rfl
        simp only [Act.put, List.setIfInBounds_toArray, List.set_cons_zero, List.set_cons_succ]
        refine take_list (i := 3) (v := ?_) rfl (by kernel_rfl) (by kernel_rfl) (by kernel_rfl) (fun _ _ _ h => h) (Or.inl ⟨by rfl, fun w hSw => ?_⟩) hHeld ?_
        rotate_left
        · (obtain ⟨hSw1, hSw2⟩ := hSw; go_simp)
          try with_reducible rfl
        simp only [Act.put, List.setIfInBounds_toArray, List.set_cons_zero, List.set_cons_succ]
        refine take_list (i := 4) (v := ?_) rfl (by kernel_rfl) (by kernel_rfl) (by kernel_rfl) (fun _ _ _ h => h) (Or.inl ⟨by rfl, fun w hSw => ?_⟩) hHeld ?_
        rotate_left
        · (obtain ⟨hSw1, hSw2⟩ := hSw; go_simp)
          try with_reducible rfl
        simp only [Act.put, List.setIfInBounds_toArray, List.set_cons_zero, List.set_cons_succ]
        refine take_list (i := 5) (v := ?_) rfl (by kernel_rfl) (by kernel_rfl) (by kernel_rfl) (fun _ _ _ h => h) (Or.inl ⟨by rfl, fun w hSw => ?_⟩) hHeld ?_
        rotate_left
        · (obtain ⟨hSw1, hSw2⟩ := hSw; go_simp)
          try with_reducible rfl
        simp only [Act.put, List.setIfInBounds_toArray, List.set_cons_zero, List.set_cons_succ]
        refine take_list (i := 6) (v := ?_) rfl (by kernel_rfl) (by kernel_rfl) (by kernel_rfl) (fun _ _ _ h => h) (Or.inl ⟨by rfl, fun w hSw => ?_⟩) hHeld ?_
        rotate_left
        · (obtain ⟨hSw1, hSw2⟩ := hSw; go_simp)
          try with_reducible rfl
        simp only [Act.put, List.setIfInBounds_toArray, List.set_cons_zero, List.set_cons_succ]
        refine take_list (i := 7) (v := ?_) rfl (by kernel_rfl) (by kernel_rfl) (by kernel_rfl) (fun _ _ _ h => h) (Or.inl ⟨by rfl, fun w hSw => ?_⟩) hHeld ?_
        rotate_left
        · (obtain ⟨hSw1, hSw2⟩ := hSw; go_simp)
          try with_reducible rfl
        simp only [Act.put, List.setIfInBounds_toArray, List.set_cons_zero, List.set_cons_succ]
        refine take_list (i := 8) (v := ?_) rfl (by kernel_rfl) (by kernel_rfl) (by kernel_rfl) (fun _ _ _ h => h) (Or.inl ⟨by rfl, fun w hSw => ?_⟩) hHeld ?_
        rotate_left
        · (obtain ⟨hSw1, hSw2⟩ := hSw; go_simp)
          try with_reducible rfl
        simp only [Act.put, List.setIfInBounds_toArray, List.set_cons_zero, List.set_cons_succ]
        refine take_list (i := 9) (v := ?_) rfl (by kernel_rfl) (by kernel_rfl) (by kernel_rfl) (fun _ _ _ h => h) (Or.inl ⟨by rfl, fun w hSw => ?_⟩) hHeld ?_
        rotate_left
        · (obtain ⟨hSw1, hSw2⟩ := hSw; go_simp)
          try with_reducible rfl
        simp only [Act.put, List.setIfInBounds_toArray, List.set_cons_zero, List.set_cons_succ]
        refine take_list (i := 10) rfl (by kernel_rfl) (by kernel_rfl) (by kernel_rfl) (fun _ _ _ h => h) ((yieldsIf_load_mid (by rfl) _ _ rfl _ _ rfl (cellsB b) _ (fun w h => h.2) hty rfl hsz)) hHeld ?_
        simp only [Act.put, List.setIfInBounds_toArray, List.set_cons_zero, List.set_cons_succ]
        refine take_list (i := 11) (v := ?_) rfl (by kernel_rfl) (by kernel_rfl) (by kernel_rfl) (fun _ _ _ h => h) (Or.inl ⟨by rfl, fun w hSw => ?_⟩) hHeld ?_
        rotate_left
        · (obtain ⟨hSw1, hSw2⟩ := hSw; go_simp)
          try with_reducible rfl
        simp only [Act.put, List.setIfInBounds_toArray, List.set_cons_zero, List.set_cons_succ]
        refine wpAnyH_ready (rs := [12]) (by kernel_rfl) (by simp) (one_list (i := 12) rfl (by rfl) (fun K hK => ?_) AllReadyH.nil)
        refine wp_store_mid _ _ _ rfl gb (k * 64) (cellsB b).toArray rfl rfl ?_ ?_ ?_ ?_
        · rw [List.size_toArray, cellsB_length, hb]
          exact rows_there HI''.out.rows (by rw [some_length, burn_B]; exact hk)
        · simpa using hsz
        · exact all_oneCell_toArray (one_cellsB _)
        rw [List.toList_toArray]
        obtain ⟨hI3, hC3⟩ := HI''.out.setB k b hb
        have c03 := hC3.cell c0 (fun e => row_ne_d HI''.out HI''.out.rows (by rw [show d = gb from e]; rfl))
        have r3 : (w'.drew.setCells gb (k * 64) (cellsB b)).rangeAt g (l.length * 64) (cellsB b) := fun j x hx => hC3.cell (hrg j x hx) (fun e => hoff (by rw [show g = gb from e]; rfl))
        refine hK _ _ (⟨c03, r3⟩) (fun hHeld2 => ?_)
        try simp only [Act.put, List.setIfInBounds_toArray, List.set_cons_zero, List.set_cons_succ]
        refine wpAnyH_done (by kernel_rfl) ?_ _
        refine NoPanic.normal ?_
        go_wp2_with fail
        have hgF := H1.out.lt gb (H1.out.fb gb rfl)
        have hqg : q ≠ gb := fun e => row_ne_q HI''.out HI''.out.rows (by rw [e]; rfl)
        have hC4 : Chg (· = gb) w' (w'.drew.setCells gb (k * 64) (cellsB b)) := ((Chg.refl (fun _ => False) w').drew.mono (fun _ _ h => h.elim)).trans' hC3
        have hRn := hR'.out.kept hC4 hqg (by omega)
        refine ⟨⟨(k : Int) :: done, cnt', hRn, ?_, ?_⟩, ?_⟩
        · have e : X.burn.upto ((k : Int) :: done) = (X.burn.upto done).set k b := by
            rw [some_cons, show X.burn.cur k = b from by have h1 : X.burn.L k = l ++ [b] := hLk; simp [DV.cur, h1]]
          rw [e]
          exact hI3
        · exact (HC.out.trans HC'.out (fun i hi e => by omega)).trans' (hC4.mono (fun i _ e => e ▸ H1.out.fb gb rfl))
        · rw [hRn.left_eq, HR.out.left_eq]
          exact hlt

end Go.Proofs.YtbkefhoapnaciaaGreat.disks
end

/-
  disk: New, the walk.
-/
section
set_option linter.unusedSimpArgs false
set_option linter.unusedVariables false
namespace Go.Proofs.YtbkefhoapnaciaaGreat.disks
open Go.RowKit Go.Maps Go.My Go.ChangeMaps
set_option maxRecDepth 100000

variable {w w' : World} {d q : Nat} {F F' : Nat → Prop} {X X' : DV} {bv : Value} {m : List (Int × (Value × List Blk))}

def zeroBlk : Blk := List.replicate 64 0
def DV.new (n : Nat) : DV := ⟨List.replicate n zeroBlk, fun _ => [], -1, false, 0⟩
/-- The blocks that came between two worlds. -/
def born (w w' : World) : Nat → Prop := fun j => w.heap.size ≤ j ∧ j < w'.heap.size

theorem cells_zero : cellsB zeroBlk = List.replicate 64 (.int .u8 0) := rfl

theorem flatten_zero (n : Nat) : ((DV.new n).B.map cellsB).flatten = List.replicate (n * 64) (.int .u8 0) := by
  show ((List.replicate n zeroBlk).map cellsB).flatten = _
  rw [List.map_replicate, cells_zero, List.flatten_replicate_replicate]

theorem made_blocks (w : World) (n : Nat) (hn : n ≤ 4096) : ∃ w', (Instr.makeSlice 59 (.int .i64 (n : Int)) (.int .i64 (n : Int))).run Tryz.prog w = .ok (.slice (some ⟨w.heap.size, 0, none⟩) n n) w' ∧
      OwnRecs w' 0 107 64 (.slice (some ⟨w.heap.size, 0, none⟩) n n) ((DV.new n).B.map cellsB) ∧ Chg (fun _ => False) w w' := by
  obtain ⟨i0, hi, hz, hs, hb⟩ := info_parts info_block
  obtain ⟨w', h1, h2, h3⟩ := run_makeSlice_full (P := Tryz.prog) w 0 59 107 i0 (.agg (Array.replicate 64 (.int .u8 0))) 64 Tryz.underlying59 hi hz hs .i64 .i64 n (by omega) (by rw [hb]; omega) (by unfold maxLen; omega) (Nat.zero_le _)
  refine ⟨w', h1, ⟨?_, ?_⟩, (Chg.of_grown h3).mono (fun i _ h => by cases h)⟩
  · have : (madeCells (Value.agg (Array.replicate 64 (.int .u8 0))).cells (n * 64)).toList = ((DV.new n).B.map cellsB).flatten := by
      rw [flatten_zero]
      apply List.ext_getElem
      · simp [madeCells]
      · intro i h1 h2
        have : i % 64 < 64 := Nat.mod_lt _ (by omega)
        simp [madeCells, Value.cells, this]
    rw [this] at h2
    have hl : ((DV.new n).B.map cellsB).length = n := by simp [DV.new]
    rw [hl]; exact h2
  · intro r hr
    obtain ⟨b, hb, rfl⟩ := List.mem_map.1 hr
    rw [List.eq_of_mem_replicate hb, cells_zero, List.length_replicate]

theorem new_any (w : World) (n : Nat) (h1 : 1 ≤ n) (hn : n ≤ 4096) :
    Calls Tryz.prog 17 #[.int .i64 (n : Int)] w fun e w' => ∃ d, e = .returned (.tuple #[.pointer (some ⟨d, 0, none⟩), .int .i64 0]) ∧ DiskAt w' d (born w w') (DV.new n) ∧ Chg (fun _ => False) w w' := by
  have hmm := @run_makeMap Tryz.prog
  obtain ⟨w1, hm, ho, hc⟩ := made_blocks w n hn
  have HO := Lib.hid ho
  have HC := Lib.hid hc
  have hs1 : w.heap.size < w1.heap.size := by
    obtain ⟨g, cap, e1, _, _, h2, _⟩ := ho.cell (k := 0) (by simp [DV.new]; omega)
    simp only [Value.slice.injEq, Option.some.injEq, Addr.mk.injEq] at e1
    rw [e1.1.1]; exact h2
  clear ho hc
  have l1 : ((n : Int) < 1) = False := by simp; omega
  have l2 : ((4096 : Int) < n) = False := by simp; omega
  go_enter Tryz.func17, Tryz.ntmps17
  go_wp2
  go_ret2
  have ca := (Chg.refl (fun _ => False) w1).alloc (.map #[] 0)
  have cb := ca.alloc (.cells #[.slice (some ⟨w.heap.size, 0, none⟩) n n, .map (some w1.heap.size), .int .i64 (-1), .bool false, .int .i64 0] 62)
  refine ⟨_, rfl, ⟨_, w1.heap.size, [], ⟨?_, HO.out.kept cb (fun _ _ h => h), ?_, .made _ _ (clock := 0) ?_, by simp, by simp [mget, DV.new], by simp, by simp, ?_, ?_, ?_, by simp, fun j hj => hj.2, by simpa [DV.new] using hn⟩⟩, HC.out.trans' cb⟩
  · simp only [heap_alloc_get, World.size_alloc]
    rw [if_pos trivial]; rfl
  · intro e
    have := congrArg List.length e
    simp [DV.new] at this; omega
  · simp only [heap_alloc_get, World.size_alloc]
    rw [if_neg (by omega), if_pos trivial]
  · exact ⟨by omega, by simp only [World.size_alloc]; omega⟩
  · exact ⟨by omega, by simp only [World.size_alloc]; omega⟩
  · intro g hg
    simp only [Value.ownBlock, Option.some.injEq] at hg
    rw [← hg]
    exact ⟨Nat.le_refl _, by simp only [World.size_alloc]; omega⟩

theorem new_bad (w : World) (n : Int) (h1 : n < 1 ∨ 4096 < n) :
    Calls Tryz.prog 17 #[.int .i64 n] w fun e w' => e = .returned (.tuple #[.pointer none, .int .i64 2]) ∧ w = w' := by
  by_cases h : n < 1
  · go_enter Tryz.func17, Tryz.ntmps17
    go_wp2
    go_ret2
    exact ⟨rfl, rfl⟩
  · have h2 : 4096 < n := by omega
    go_enter Tryz.func17, Tryz.ntmps17
    go_wp2
    go_ret2
    exact ⟨rfl, rfl⟩

end Go.Proofs.YtbkefhoapnaciaaGreat.disks
end

/-
  disk: Image, the walk.
-/
section
set_option linter.unusedSimpArgs false
set_option linter.unusedVariables false
namespace Go.Proofs.YtbkefhoapnaciaaGreat.disks
open Go.RowKit Go.Maps Go.My Go.ChangeMaps
set_option maxRecDepth 100000

variable {w w' : World} {d q : Nat} {F F' : Nat → Prop} {X X' : DV} {bv : Value} {m : List (Int × (Value × List Blk))}

theorem info_bytes : (Tryz.prog.info? 76).map (fun i => (i.zero, i.size, i.bytes)) = some (some (.slice none 0 0), 1, 24) := by kernel_rfl

/-- A slice of byte slices, all of them new since 'base', no two over one block. -/
structure ImgAt (w : World) (base : Nat) (v : Value) (L : List Blk) : Prop where
  ex : ∃ gs : List Value, gs.length = L.length ∧ w.ownsRow base 76 1 v L.length gs ∧ (∀ (i : Nat) g b, gs[i]? = some g → L[i]? = some b → w.ownsRow base 5 1 g b.length (cellsB b) ∧ g.oneCell' = true) ∧
    (∀ (i j : Nat) g g', i < j → gs[i]? = some g → gs[j]? = some g' → g.ownBlock = none ∨ g.ownBlock ≠ g'.ownBlock)

theorem types_ne' : (76 : Nat) ≠ 5 := by decide

theorem row_obj {w : World} {base : Nat} {e : TypeId} {n : Nat} {v : Value} {k : Nat} {l : List Value} (h : w.ownsRow base e n v k l) {g : Nat} (hg : v.ownBlock = some g) : ∃ cur, w.heap[g]? = some (.cells cur e (0, 0)) := by
  rcases h.2 with ⟨rfl, h0⟩ | ⟨g', cap, cur, rfl, _, hh, _⟩
  · simp [Value.ownBlock] at hg
  · simp only [Value.ownBlock, Option.some.injEq] at hg
    subst hg
    exact ⟨_, hh⟩

theorem row_kept {w w' : World} {base : Nat} {e : TypeId} {n : Nat} {v : Value} {k : Nat} {l : List Value} (h : w.ownsRow base e n v k l) {S : Nat → Prop} (hc : Chg S w w') (hs : ∀ g, v.ownBlock = some g → ¬ S g) : w'.ownsRow base e n v k l := by
  obtain ⟨h1, h2⟩ := h
  refine ⟨h1, ?_⟩
  rcases h2 with h2 | ⟨g, cap, cur, rfl, a1, a2, a3⟩
  · exact Or.inl h2
  · exact Or.inr ⟨g, cap, cur, rfl, a1, hc.at a2 (hs g rfl), a3⟩

theorem ImgAt.nil (w : World) (base : Nat) : ImgAt w base (.slice none 0 0) [] := ⟨[], rfl, World.ownsRow_nil _ _ _ _, by simp, by simp⟩

/-- One more: the byte slice v' (new since w), then the outer slice appended. -/
theorem img_step {w w2 w3 : World} {base : Nat} {gs : List Value} {L : List Blk} {u u' v' : Value} {b : Blk} (hlen : gs.length = L.length) (hrow : w.ownsRow base 76 1 u L.length gs)
    (heach : ∀ (i : Nat) g b, gs[i]? = some g → L[i]? = some b → w.ownsRow base 5 1 g b.length (cellsB b) ∧ g.oneCell' = true)
    (hap : ∀ (i j : Nat) g g', i < j → gs[i]? = some g → gs[j]? = some g' → g.ownBlock = none ∨ g.ownBlock ≠ g'.ownBlock)
    (hc2 : Chg (fun _ => False) w w2) (hv : w2.ownsRow w.heap.size 5 1 v' b.length (cellsB b)) (hb : base ≤ w.heap.size) (hone : v'.oneCell' = true)
    (hu : w3.ownsRow base 76 1 u' (L.length + 1) (gs ++ [v'])) (hc3 : Chg (fun k => some k = u.ownBlock) w2 w3) : ImgAt w3 base u' (L ++ [b]) := by
  have hne : ∀ {g : Value} {n : Nat} {l : List Value} {W : World} {b0 : Nat}, W.ownsRow b0 5 1 g n l → Chg (fun _ => False) W w2 → ∀ k, g.ownBlock = some k → ¬ some k = u.ownBlock := by
    intro g n l W b0 h hc k hk e
    obtain ⟨c1, h1⟩ := row_obj h hk
    obtain ⟨c2, h2⟩ := row_obj (row_kept hrow hc2 (fun _ _ h => h)) e.symm
    rw [hc.at h1 id] at h2
    simp only [Option.some.injEq, Obj.cells.injEq] at h2
    exact types_ne' h2.2.1.symm
  refine ⟨gs ++ [v'], by simp [hlen], by simpa using hu, ?_, ?_⟩
  · intro i g b' hg hb'
    rcases Nat.lt_trichotomy i gs.length with hi | hi | hi
    · rw [List.getElem?_append_left hi] at hg
      rw [List.getElem?_append_left (by omega)] at hb'
      have := heach i g b' hg hb'
      exact ⟨row_kept (row_kept this.1 hc2 (fun _ _ h => h)) hc3 (hne this.1 hc2), this.2⟩
    · subst hi
      rw [List.getElem?_append_right (Nat.le_refl _), Nat.sub_self] at hg
      rw [hlen, List.getElem?_append_right (Nat.le_refl _), Nat.sub_self] at hb'
      simp only [List.getElem?_cons_zero, Option.some.injEq] at hg hb'
      subst hg; subst hb'
      have := row_kept hv hc3 (hne hv (Chg.refl _ _))
      refine ⟨⟨this.1, ?_⟩, hone⟩
      rcases this.2 with h | ⟨g, cap, cur, h1, h2, h3⟩
      · exact Or.inl h
      · exact Or.inr ⟨g, cap, cur, h1, Nat.le_trans hb h2, h3⟩
    · rw [List.getElem?_eq_none (by simp; omega)] at hg; cases hg
  · intro i j g g' hij hg hg'
    have hjl : j < gs.length + 1 := by
      have := (List.getElem?_eq_some_iff.1 hg').1
      simpa using this
    rw [List.getElem?_append_left (by omega)] at hg
    by_cases hj : j < gs.length
    · rw [List.getElem?_append_left hj] at hg'
      exact hap i j g g' hij hg hg'
    · rw [List.getElem?_append_right (by omega), show j - gs.length = 0 by omega] at hg'
      simp only [List.getElem?_cons_zero, Option.some.injEq] at hg'
      subst hg'
      have hil : i < L.length := by omega
      obtain ⟨h1, -⟩ := heach i g _ hg (List.getElem?_eq_getElem hil)
      cases hgo : g.ownBlock with
      | none => exact Or.inl rfl
      | some k =>
        right
        intro e
        have h2 := (h1.lt k hgo).2
        have h3 := (hv.lt k e.symm).1
        omega

end Go.Proofs.YtbkefhoapnaciaaGreat.disks
end

/-
  disk: the contracts over DiskAt; two disks apart, images read.
-/
section
set_option linter.unusedSimpArgs false
set_option linter.unusedVariables false
namespace Go.Proofs.YtbkefhoapnaciaaGreat.disks
open Go.RowKit Go.Maps Go.My Go.ChangeMaps
set_option maxRecDepth 100000

variable {W w w' : World} {d q : Nat} {F F' : Nat → Prop} {X X' Y : DV} {bv : Value} {m : List (Int × (Value × List Blk))}

/-- 'string(b)' of an own byte slice. -/
theorem conv_own {base n : Nat} {v : Value} {b : Blk} (h : w.ownsRow base 5 1 v n (cellsB b)) : (convert 76 9 v).run Tryz.prog w = .ok (.string ⟨b.toArray⟩) w := by
  have hn : n = b.length := by have := h.1; rw [cellsB_length] at this; omega
  subst hn
  rcases h.2 with ⟨rfl, h0⟩ | ⟨g, cap, cur, rfl, _, hg, hc, _, hcs, ht⟩
  · have : b = [] := List.eq_nil_of_length_eq_zero h0
    subst this
    rw [run_convert_bytes_string w 76 9 5 none 0 0 Tryz.underlying76 Tryz.underlying5 Tryz.underlying9]
    rfl
  · refine run_convert_bytes_back w 76 9 5 ⟨g, 0, none⟩ cap b Tryz.underlying76 Tryz.underlying5 Tryz.underlying9 (fun j hj => ?_)
    have e : (⟨g, 0, none⟩ : Addr).add j = ⟨g, j, none⟩ := by unfold Addr.add; split <;> simp_all
    rw [e]
    have h1 : cur.toList[j]? = some (.int .u8 (b[j].toNat : Int)) := by
      have h2 : (cur.toList.take (b.length * 1))[j]? = (cellsB b)[j]? := by rw [ht]
      rw [List.getElem?_take_of_lt (by omega)] at h2
      rw [h2]
      simp [cellsB, hj]
    exact cell_of_block hg (by rw [← Array.getElem?_toList]; exact h1)

theorem ImgAt.sl {base : Nat} {v : Value} {L : List Blk} (h : ImgAt w base v L) : ∃ oa cap, v = .slice oa L.length cap := by
  obtain ⟨gs, _, hr, _⟩ := h.ex
  exact own_slice hr

theorem ImgAt.kept {base : Nat} {v : Value} {L : List Blk} (h : ImgAt w base v L) {S : Nat → Prop} (hc : Chg S w w') (hs : ∀ k, base ≤ k → ¬ S k) : ImgAt w' base v L := by
  obtain ⟨gs, h1, h2, h3, h4⟩ := h.ex
  exact ⟨gs, h1, row_kept h2 hc (fun g hg => hs g (h2.lt g hg).1), fun i g b hg hb => ⟨row_kept (h3 i g b hg hb).1 hc (fun k hk => hs k ((h3 i g b hg hb).1.lt k hk).1), (h3 i g b hg hb).2⟩, h4⟩

/-- An image's i-th block: its slice's value, its string. -/
theorem ImgAt.get {base : Nat} {v : Value} {L : List Blk} (h : ImgAt w base v L) {i : Nat} (hi : i < L.length) :
    ∃ go cap g, v = .slice (some ⟨go, 0, none⟩) L.length cap ∧ w.cell? ⟨go, i, none⟩ = some g ∧ (convert 76 9 g).run Tryz.prog w = .ok (.string ⟨(L[i]).toArray⟩) w := by
  obtain ⟨gs, h1, h2, h3, h4⟩ := h.ex
  have hig : i < gs.length := by omega
  rcases h2.2 with ⟨rfl, h0⟩ | ⟨go, cap, cur, rfl, _, hg, hc, _, hcs, ht⟩
  · omega
  · refine ⟨go, cap, gs[i], rfl, ?_, conv_own (h3 i _ _ (List.getElem?_eq_getElem hig) (List.getElem?_eq_getElem hi)).1⟩
    have h5 : cur.toList[i]? = some gs[i] := by
      have h6 : (cur.toList.take (L.length * 1))[i]? = gs[i]? := by rw [ht]
      rw [List.getElem?_take_of_lt (by omega)] at h6
      rw [h6]; exact List.getElem?_eq_getElem hig
    exact cell_of_block hg (by rw [← Array.getElem?_toList]; exact h5)

theorem flush_at (w : World) (h : DiskAt w d F X) (hf : X.fuse ≤ 9223372036854775807) :
    Calls Tryz.prog 86 #[.pointer (some ⟨d, 0, none⟩)] w fun e w' => e = .returned (.int .i64 (flushC X)) ∧ DiskAt w' d F X.flush ∧ Chg F w w' := by
  obtain ⟨bv, q, m, h⟩ := h
  exact flush_any w h hf

theorem DiskAt.lt (h : DiskAt w d F X) : ∀ k, F k → k < w.heap.size := by obtain ⟨_, _, _, h⟩ := h; exact h.lt

theorem write_at (w : World) (h : DiskAt w d F X) (i : Int) (hi : inR i) (hf : X.fuse ≤ 9223372036854775807) {base n : Nat} {v : Value} {b : Blk} (hb : w.ownsRow base 5 1 v n (cellsB b)) (hbf : ∀ g, v.ownBlock = some g → ¬ F g) (hL : ∀ j, (X.L j).length < 1000000) :
    Calls Tryz.prog 85 #[.pointer (some ⟨d, 0, none⟩), .int .i64 i, v] w fun e w' => e = .returned (.int .i64 (writeC X i b.length)) ∧ DiskAt w' d (grow F w w') (X.write i b) ∧ Chg F w w' := by
  obtain ⟨bv, q, m, h⟩ := h
  obtain ⟨oa, cap, rfl⟩ := own_slice hb
  exact write_any w h i hi hf oa n cap b (SlAt.of_own hb) (fun a ha => by subst ha; exact hbf _ rfl) hL

theorem fuse_at (w : World) (h : DiskAt w d F X) (n : Int) : Calls Tryz.prog 26 #[.pointer (some ⟨d, 0, none⟩), .int .i64 n] w fun e w' => e = .returned (.int .i64 (fuseC X n)) ∧ DiskAt w' d F (X.set n) ∧ Chg F w w' := by
  obtain ⟨bv, q, m, h⟩ := h
  refine (fuse_any w h n).mono ?_
  rintro e w' ⟨h1, h2, h3⟩
  exact ⟨h1, ⟨_, _, _, h2⟩, h3.mono (fun k _ e => by rw [e]; exact h.fd)⟩

theorem slat_old {v : Value} {xs : List Value} (h : SlAt w v xs) (hne : xs ≠ []) {g : Nat} (hg : v.ownBlock = some g) : g < w.heap.size := by
  obtain ⟨oa, cap, rfl, h2, h3⟩ := h
  obtain ⟨b, off, rfl⟩ := h2 hne
  simp only [Value.ownBlock, Option.some.injEq] at hg
  subst hg
  cases xs with
  | nil => exact absurd rfl hne
  | cons x xs => exact World.block_lt_of_cell? _ _ (h3 b off rfl 0 x rfl)

/-- Two disks apart, both of them the law's own. -/
structure Two (W w : World) (Fx : Nat → Prop) (dx : Nat) (X : DV) (Fy : Nat → Prop) (dy : Nat) (Y : DV) : Prop where
  x : DiskAt w dx Fx X
  y : DiskAt w dy Fy Y
  ox : ∀ k, Fx k → W.heap.size ≤ k
  oy : ∀ k, Fy k → W.heap.size ≤ k
  ap : ∀ k, Fx k → ¬ Fy k
  chg : Chg (fun _ => False) W w

variable {Fx Fy : Nat → Prop} {dx dy : Nat}

theorem Two.fresh (h : Two W w Fx dx X Fy dy Y) (hc : Chg (fun _ => False) w w') : Two W w' Fx dx X Fy dy Y :=
  ⟨h.x.fresh hc, h.y.fresh hc, h.ox, h.oy, h.ap, h.chg.trans' hc⟩

theorem Two.swap (h : Two W w Fx dx X Fy dy Y) : Two W w Fy dy Y Fx dx X := ⟨h.y, h.x, h.oy, h.ox, fun k h1 h2 => h.ap k h2 h1, h.chg⟩

theorem Two.setX (h : Two W w Fx dx X Fy dy Y) {X' : DV} (hx : DiskAt w' dx Fx X') (hc : Chg Fx w w') : Two W w' Fx dx X' Fy dy Y :=
  ⟨hx, h.y.kept hc (fun k hk hx => h.ap k hx hk), h.ox, h.oy, h.ap, h.chg.new hc h.ox⟩

theorem Two.growX (h : Two W w Fx dx X Fy dy Y) {X' : DV} (hx : DiskAt w' dx (grow Fx w w') X') (hc : Chg Fx w w') : Two W w' (grow Fx w w') dx X' Fy dy Y :=
  ⟨hx, h.y.kept hc (fun k hk hx => h.ap k hx hk), fun k hk => by rcases hk with hk | hk; exact h.ox k hk; exact Nat.le_trans h.chg.size hk.1, h.oy,
    fun k hk hy => by rcases hk with hk | hk; exact h.ap k hk hy; exact Nat.not_lt.2 hk.1 (h.y.lt k hy), h.chg.new hc h.ox⟩

end Go.Proofs.YtbkefhoapnaciaaGreat.disks
end

/-
  GENERAL LEMMAS OF MY OWN: an own slice of records, behind the library's sort.
-/
section
set_option linter.unusedSimpArgs false
set_option linter.unusedVariables false
namespace Go.My
open Go.RowKit Go.Maps Go.ChangeMaps Go.Proofs Go.Sort

variable {α : Type} [Inhabited α]

theorem flatK_list (enc : α → List Value) (k : Nat) (hk : ∀ x, (enc x).length = k) (d : List α) : (flatK enc k d.toArray).toList = (d.map enc).flatten := by
  have hl : (d.map enc).flatten.length = d.length * k := by
    rw [flat_length k _ (fun r hr => by obtain ⟨x, _, rfl⟩ := List.mem_map.1 hr; exact hk x), List.length_map]
  apply List.ext_getElem?
  intro t
  by_cases h : t < d.length * k
  · have hk0 : 0 < k := by
      rcases Nat.eq_zero_or_pos k with h0 | h0
      · subst h0; omega
      · exact h0
    have h1 : t / k < d.length := Nat.div_lt_of_lt_mul (by rw [Nat.mul_comm]; exact h)
    have h2 : t % k < k := Nat.mod_lt _ hk0
    have h3 := flat_get k (d.map enc) (fun r hr => by obtain ⟨x, _, rfl⟩ := List.mem_map.1 hr; exact hk x) (t / k) (t % k) h2
    rw [Nat.mul_comm, Nat.div_add_mod] at h3
    rw [h3]
    have h4 : t % k < (enc d[t / k]).length := by rw [hk]; exact h2
    simp [flatK, h, h1, h4]
  · have e1 : (flatK enc k d.toArray).toList.length ≤ t := by simp; omega
    have e2 : (d.map enc).flatten.length ≤ t := by rw [hl]; omega
    rw [List.getElem?_eq_none e1, List.getElem?_eq_none e2]

theorem take_putCells (F : Array Value) (cur : Array Value) (h : F.size ≤ cur.size) : (putCells id 0 F cur).toList.take F.size = F.toList := by
  apply List.ext_getElem?
  intro j
  by_cases hj : j < F.size
  · rw [List.getElem?_take_of_lt hj, Array.getElem?_toList]
    simp [putCells, hj, show j < cur.size by omega]
  · rw [List.getElem?_take_eq_none (by omega), List.getElem?_eq_none (by simp; omega)]

theorem chg_sorted (enc : α → List Value) (k : Nat) (w : World) (g n : Nat) (d : Array α) (os : Array Obj) : Chg (· = g) w (sortWorldK enc k w g 0 n d os) := by
  refine ⟨rfl, rfl, rfl, ?_, fun i hi hne => ?_⟩
  · simp [sortWorldK, putRowK, putRow, mapBlock, Sort.ahead]
  · unfold sortWorldK
    rw [heap_grow_old _ _ (by simpa [putRowK, putRow, mapBlock, Sort.ahead] using hi)]
    have : g ≠ i := fun e => hne (by rw [e])
    simp [putRowK, putRow, mapBlock, Sort.ahead, Array.getElem?_modify, this]

theorem heap_sortedK (enc : α → List Value) (k : Nat) {w : World} {g n : Nat} {os : Array Obj} {cur : Array Value} {e : TypeId} {fr : Nat × Nat} (d : Array α) (hb : w.heap[g]? = some (.cells cur e fr)) :
    (sortWorldK enc k w g 0 n d os).heap[g]? = some (.cells (putCells id 0 (flatK enc k d) cur) e fr) := by
  have hg : g < w.heap.size := (Array.getElem?_eq_some_iff.1 hb).1
  unfold sortWorldK
  rw [heap_grow_old _ _ (by simpa [putRowK, putRow, mapBlock, Sort.ahead] using hg)]
  simp [putRowK, putRow, mapBlock, Sort.ahead, Array.getElem?_modify, hb, onCells]

theorem recs_sorted (enc : α → List Value) (k : Nat) (hk : ∀ x, (enc x).length = k) {w : World} {base : Nat} {e : TypeId} {g cap : Nat} {d d' : List α} (h : OwnRecs w base e k (.slice (some ⟨g, 0, none⟩) d.length cap) (d.map enc))
    (hl : d'.length = d.length) (n : Nat) (os : Array Obj) : OwnRecs (sortWorldK enc k w g 0 n d'.toArray os) base e k (.slice (some ⟨g, 0, none⟩) d'.length cap) (d'.map enc) := by
  have hf : (d'.map enc).flatten.length = d'.length * k := by
    rw [flat_length k _ (fun r hr => by obtain ⟨x, _, rfl⟩ := List.mem_map.1 hr; exact hk x), List.length_map]
  refine ⟨⟨by rw [hf, List.length_map], ?_⟩, fun r hr => by obtain ⟨x, _, rfl⟩ := List.mem_map.1 hr; exact hk x⟩
  rcases h.row.2 with ⟨h1, -⟩ | ⟨g', cap', cur, h1, h2, h3, h4, h5, h6, h7⟩
  · cases h1
  · simp only [Value.slice.injEq, Option.some.injEq, Addr.mk.injEq, List.length_map] at h1 h4
    obtain ⟨⟨rfl, -⟩, -, rfl⟩ := h1
    have hs : (flatK enc k d'.toArray).size = d'.length * k := by simp
    refine Or.inr ⟨g, cap, putCells id 0 (flatK enc k d'.toArray) cur, by simp, h2, heap_sortedK enc k d'.toArray h3, by rw [List.length_map, hl]; exact h4, h5, by simpa [putCells] using h6, ?_⟩
    have hc : (flatK enc k d'.toArray).size ≤ cur.size := by rw [hs, h6, hl]; exact Nat.mul_le_mul_right k h4
    have := take_putCells (flatK enc k d'.toArray) cur hc
    rw [hs, flatK_list enc k hk] at this
    rw [List.length_map]; exact this

theorem recs_holds (enc : α → List Value) (k : Nat) (hk : ∀ x, (enc x).length = k) {w : World} {base : Nat} {e : TypeId} {g cap : Nat} {d : List α} (h : OwnRecs w base e k (.slice (some ⟨g, 0, none⟩) d.length cap) (d.map enc)) : HoldsK enc k w g 0 d.toArray := by
  intro j hj
  have hj' : j < d.length * k := by simpa using hj
  have hk0 : 0 < k := by
    rcases Nat.eq_zero_or_pos k with h0 | h0
    · subst h0; omega
    · exact h0
  have h1 : j / k < d.length := Nat.div_lt_of_lt_mul (by rw [Nat.mul_comm]; exact hj')
  have h2 : j % k < k := Nat.mod_lt _ hk0
  obtain ⟨g', cap', e1, _, _, _, hc, hf⟩ := h.cell (k := j / k) (by simpa using h1)
  simp only [Value.slice.injEq, Option.some.injEq, Addr.mk.injEq] at e1
  obtain ⟨⟨rfl, -⟩, -⟩ := e1
  have h4 : j % k < (enc d[j / k]).length := by rw [hk]; exact h2
  have h3 := hc (j % k) ((enc d[j / k])[j % k]) (by simp [h4])
  rw [Nat.mul_comm, Nat.div_add_mod] at h3
  rw [Nat.zero_add]
  refine ⟨?_, hf j⟩
  rw [h3, get_flatK enc k _ j (by simpa using hj')]
  simp [h1, h4]

end Go.My
end

/-
  disk: the library sort laid at this program (the text of the kit command, by my program laytpl.py).
-/
section
set_option linter.unusedSimpArgs false
set_option linter.unusedVariables false
namespace Go.Proofs.YtbkefhoapnaciaaGreat.disks
open Go.Shelf

def sortW_ren : Go.Shelf.Ren := ⟨fun | 6 => 76 | 15 => 88 | 14 => 90 | 28 => 104 | 29 => 105 | 20 => 107 | 21 => 108 | 22 => 109 | 23 => 110 | 24 => 111 | 25 => 112 | 26 => 113 | 27 => 114 | 46 => 124 | 47 => 120 | 48 => 121 | 49 => 125 | 50 => 126 | 57 => 128 | n => n, fun | 22 => 102 | 24 => 105 | 25 => 131 | 3 => 3 | 39 => 109 | 0 => 0 | 53 => 148 | 55 => 84 | 4 => 4 | 46 => 155 | 45 => 154 | 50 => 124 | 5 => 5 | 9 => 9 | 66 => 173 | 70 => 176 | 76 => 180 | 77 => 181 | n => n, fun | n => n⟩

theorem sortW : Go.Proofs.SlLaysF0.n6 Tryz.prog sortW_ren := {
  mixed := by kernel_rfl,
  f6 := ⟨Tryz.f76.name, by decide, Tryz.func76.trans (congrArg some (by kernel_rfl))⟩,
  f14 := ⟨Tryz.f90.name, by decide, Tryz.func90.trans (congrArg some (by kernel_rfl))⟩,
  f15 := Tryz.func88.trans (congrArg some (by kernel_rfl)),
  f20 := ⟨Tryz.f107.name, by decide, Tryz.func107.trans (congrArg some (by kernel_rfl))⟩,
  f21 := ⟨Tryz.f108.name, by decide, Tryz.func108.trans (congrArg some (by kernel_rfl))⟩,
  f22 := ⟨Tryz.f109.name, by decide, Tryz.func109.trans (congrArg some (by kernel_rfl))⟩,
  f23 := ⟨Tryz.f110.name, by decide, Tryz.func110.trans (congrArg some (by kernel_rfl))⟩,
  f24 := ⟨Tryz.f111.name, by decide, Tryz.func111.trans (congrArg some (by kernel_rfl))⟩,
  f25 := ⟨Tryz.f112.name, by decide, Tryz.func112.trans (congrArg some (by kernel_rfl))⟩,
  f26 := ⟨Tryz.f113.name, by decide, Tryz.func113.trans (congrArg some (by kernel_rfl))⟩,
  f27 := ⟨Tryz.f114.name, by decide, Tryz.func114.trans (congrArg some (by kernel_rfl))⟩,
  f28 := Tryz.func104.trans (congrArg some (by kernel_rfl)),
  f29 := Tryz.func105.trans (congrArg some (by kernel_rfl)),
  f46 := ⟨Tryz.f124.name, by decide, Tryz.func124.trans (congrArg some (by kernel_rfl))⟩,
  f47 := Tryz.func120.trans (congrArg some (by kernel_rfl)),
  f48 := Tryz.func121.trans (congrArg some (by kernel_rfl)),
  f49 := ⟨Tryz.f125.name, by decide, Tryz.func125.trans (congrArg some (by kernel_rfl))⟩,
  f50 := ⟨Tryz.f126.name, by decide, Tryz.func126.trans (congrArg some (by kernel_rfl))⟩,
  f57 := ⟨Tryz.f128.name, by decide, Tryz.func128.trans (congrArg some (by kernel_rfl))⟩,
  t0 := Tryz.underlying0,
  a0 := Tryz.isAgg0,
  z0 := Tryz.sizeOf0,
  v0 := Tryz.zeroValue0,
  t3 := Tryz.underlying3,
  a3 := Tryz.isAgg3,
  z3 := Tryz.sizeOf3,
  v3 := Tryz.zeroValue3,
  t4 := Tryz.underlying4,
  a4 := Tryz.isAgg4,
  z4 := Tryz.sizeOf4,
  v4 := Tryz.zeroValue4,
  t5 := Tryz.underlying5,
  a5 := Tryz.isAgg5,
  z5 := Tryz.sizeOf5,
  v5 := Tryz.zeroValue5,
  t9 := Tryz.underlying9,
  a9 := Tryz.isAgg9,
  z9 := Tryz.sizeOf9,
  v9 := Tryz.zeroValue9,
  t22 := Tryz.underlying102,
  a22 := Tryz.isAgg102,
  z22 := Tryz.sizeOf102,
  v22 := Tryz.zeroValue102,
  t25 := Tryz.underlying131,
  a25 := Tryz.isAgg131,
  z25 := Tryz.sizeOf131,
  v25 := Tryz.zeroValue131,
  t39 := Tryz.underlying109,
  a39 := Tryz.isAgg109,
  z39 := Tryz.sizeOf109,
  v39 := Tryz.zeroValue109,
  t45 := Tryz.underlying154,
  a45 := Tryz.isAgg154,
  z45 := Tryz.sizeOf154,
  v45 := Tryz.zeroValue154,
  t46 := Tryz.underlying155,
  a46 := Tryz.isAgg155,
  z46 := Tryz.sizeOf155,
  v46 := Tryz.zeroValue155,
  t50 := Tryz.underlying124,
  a50 := Tryz.isAgg124,
  z50 := Tryz.sizeOf124,
  v50 := Tryz.zeroValue124,
  t53 := Tryz.underlying148,
  a53 := Tryz.isAgg148,
  z53 := Tryz.sizeOf148,
  v53 := Tryz.zeroValue148,
  t55 := Tryz.underlying84,
  a55 := Tryz.isAgg84,
  z55 := Tryz.sizeOf84,
  v55 := Tryz.zeroValue84,
  t66 := Tryz.underlying173,
  a66 := Tryz.isAgg173,
  z66 := Tryz.sizeOf173,
  v66 := Tryz.zeroValue173,
  t70 := Tryz.underlying176,
  a70 := Tryz.isAgg176,
  z70 := Tryz.sizeOf176,
  v70 := Tryz.zeroValue176,
  t76 := Tryz.underlying180,
  a76 := Tryz.isAgg180,
  z76 := Tryz.sizeOf180,
  v76 := Tryz.zeroValue180,
  t77 := Tryz.underlying181,
  a77 := Tryz.isAgg181,
  z77 := Tryz.sizeOf181,
  v77 := Tryz.zeroValue181 }

end Go.Proofs.YtbkefhoapnaciaaGreat.disks
end

/-
  disk: the library's sort at the list of what waits.
-/
section
set_option linter.unusedSimpArgs false
set_option linter.unusedVariables false
namespace Go.Proofs.YtbkefhoapnaciaaGreat.disks
open Go.RowKit Go.Maps Go.My Go.ChangeMaps Go.Shelf Go.Lib Go.Sort
set_option maxRecDepth 100000

/-- A Wait's two cells. -/
def encW (x : Nat × Nat) : List Value := [.int .i64 ((x.1 % 4096 : Nat) : Int), .int .i64 (x.2 : Int)]

def cfW (x y : Nat × Nat) : Int := ((x.1 % 4096 : Nat) : Int) - ((y.1 % 4096 : Nat) : Int)

theorem ltW (x y : Nat × Nat) : ltOf cfW x y = decide (x.1 % 4096 < y.1 % 4096) := by
  unfold ltOf cfW
  by_cases h : x.1 % 4096 < y.1 % 4096
  · simp only [h, decide_true, decide_eq_true_eq]; omega
  · simp only [h, decide_false, decide_eq_false_iff_not]; omega

theorem swoW : SWO (ltOf cfW) where
  irrefl x := by rw [ltW]; simp
  trans x y z h1 h2 := by rw [ltW] at *; simp at *; omega
  ntrans x y z h1 h2 := by rw [ltW] at *; simp at *; omega

set_option maxHeartbeats 1000000 in
theorem closure_any (x y : Nat × Nat) (W : World) : Calls Tryz.prog 77 #[.agg (encW x).toArray, .agg (encW y).toArray] W fun e w' => e = .returned (.int .i64 (cfW x y)) ∧ ∃ q os', w' = Go.Sort.grow (W.drewN q) os' := by
  unfold encW cfW
  obtain ⟨a, ha⟩ : ∃ a : Int, ((x.1 % 4096 : Nat) : Int) = a := ⟨_, rfl⟩
  obtain ⟨b, hb⟩ : ∃ b : Int, ((y.1 % 4096 : Nat) : Int) = b := ⟨_, rfl⟩
  have ha1 : 0 ≤ a ∧ a < 4096 := by omega
  have hb1 : 0 ≤ b ∧ b < 4096 := by omega
  rw [ha, hb]
  clear ha hb
  have hw : wrap64 (a - b) = a - b := IntWalk.wrap64_in _ (by omega)
  go_enter Tryz.func77, Tryz.ntmps77
  go_wp2
  go_ret
  refine ⟨?_, 0, _, by rw [alloc_eq_grow, alloc_eq_grow, grow_grow]; rfl⟩
  simp [hw]

theorem cmpW (blk off size : Nat) (w : World) : CmpLays Tryz.prog 77 #[] encW 2 cfW blk off size w := fun _ _ _ _ x y => closure_any x y _

theorem size_wait : ∀ w, (Go.sizeOf 105).run Tryz.prog w = .ok 2 w := Tryz.sizeOf105
theorem agg_wait : ∀ w, (isAgg 105).run Tryz.prog w = .ok true w := Tryz.isAgg105

theorem sort_any (w : World) {base : Nat} {v : Value} {ws : List (Nat × Nat)} (h : OwnRecs w base 105 2 v (ws.map encW)) (hn : ws.length ≤ 4096) :
    Calls Tryz.prog 76 #[v, .func (.func 77) #[] #[]] w fun e w' => e = .returned (.tuple #[]) ∧
      ∃ ws' : List (Nat × Nat), ws'.Perm ws ∧ ws'.Pairwise (fun a b => a.1 % 4096 ≤ b.1 % 4096) ∧ OwnRecs w' base 105 2 v (ws'.map encW) ∧ Chg (fun j => some j = v.ownBlock) w w' := by
  obtain ⟨oa, cap, rfl, -⟩ := h.slice
  rw [List.length_map] at *
  rcases ws with _ | ⟨x0, ws0⟩
  · refine (AnyF.slices_SortFunc_none (P := Tryz.prog) (ρ := sortW_ren) { sortW with } oa cap (.func (.func 77) #[] #[]) w).mono ?_
    rintro e w' ⟨rfl, rfl⟩
    exact ⟨rfl, [], List.Perm.refl _, List.Pairwise.nil, h, Chg.refl _ _⟩
  · obtain ⟨ws, hws⟩ : ∃ ws, ws = x0 :: ws0 := ⟨_, rfl⟩
    rw [← hws] at h hn ⊢
    have hpos : 0 < (ws.map encW).length := by rw [hws]; simp
    obtain ⟨g, cap', e1, -, -, hg, -, -⟩ := h.cell hpos
    simp only [Value.slice.injEq] at e1
    obtain ⟨rfl, -, -⟩ := e1
    have eg : ∀ args w, (callFunc 77 args).run Tryz.prog w = .ok (.enter 77 args) w := enters_of Tryz.func77 (by kernel_rfl) rfl
    have hcon := AnyQ.slices_SortFunc (P := Tryz.prog) (ρ := sortW_ren) sortW 2 agg_wait size_wait encW (fun _ => rfl) (fun x v hv => by simp [encW] at hv; rcases hv with rfl | rfl <;> rfl) cfW swoW 77 #[] g 0 cap ws.toArray w eg (cmpW g 0 _ w)
      (recs_holds encW 2 (fun _ => rfl) h) hg (by rw [List.size_toArray]; omega)
    rw [List.size_toArray] at hcon
    refine hcon.mono ?_
    rintro e w' ⟨rfl, d', n, os, hp, hs, rfl⟩
    obtain ⟨h1, -, h2⟩ := hp
    have h1' : d'.size = ws.length := by simpa using h1
    have e2 : (d'.extract 0 ws.length).toList = d'.toList := by rw [← h1']; simp
    have e3 : (ws.toArray.extract 0 ws.length).toList = ws := by simp
    rw [e2, e3] at h2
    have hl : d'.toList.length = ws.length := h2.length_eq
    refine ⟨rfl, d'.toList, h2, ?_, ?_, (chg_sorted encW 2 w g n d' os).mono (fun j _ e => by rw [e]; rfl)⟩
    · rw [List.pairwise_iff_getElem]
      intro i j hi hj hij
      have := hs i j (Nat.zero_le _) hij (by rw [← h1']; simpa using hj)
      rw [ltW, getElem!_pos d' j (by simpa using hj), getElem!_pos d' i (by simpa using hi)] at this
      simpa using this
    · have := recs_sorted encW 2 (fun _ => rfl) (d' := d'.toList) h hl n os
      rw [hl] at this
      simpa using this

end Go.Proofs.YtbkefhoapnaciaaGreat.disks
end

/-
  disk: Waiting, the walk.
-/
section
set_option linter.unusedSimpArgs false
set_option linter.unusedVariables false
namespace Go.Proofs.YtbkefhoapnaciaaGreat.disks
open Go.RowKit Go.Maps Go.My Go.ChangeMaps
set_option maxRecDepth 100000

variable {w w' : World} {d q : Nat} {F F' : Nat → Prop} {X X' : DV} {bv : Value} {m : List (Int × (Value × List Blk))}

theorem info_wait : (Tryz.prog.info? 105).map (fun i => (i.zero, i.size, i.bytes)) = some (some (.agg #[.int .i64 0, .int .i64 0]), 2, 16) := by kernel_rfl

/-- What waits, by the order of the blocks. -/
def waitsOf (X : DV) : List (Nat × Nat) := ((List.range X.B.length).filter (fun i => !(X.L i).isEmpty)).map (fun i => (i, (X.L i).length))
/-- What waits, of the blocks of a list. -/
def waitsIn (X : DV) (done : List Int) : List (Nat × Nat) := done.reverse.map (fun i => (i.toNat, (X.L i.toNat).length))

theorem waitsIn_cons (X : DV) (k : Nat) (done : List Int) : waitsIn X ((k : Int) :: done) = waitsIn X done ++ [(k, (X.L k).length)] := by
  simp [waitsIn]

theorem waits_pairwise (X : DV) : (waitsOf X).Pairwise (fun a b => a.1 < b.1) := by
  unfold waitsOf
  rw [List.pairwise_map]
  exact List.Pairwise.filter _ List.pairwise_lt_range

theorem DiskIs.done_perm (h : DiskIs w d F X bv q m) {done : List Int} (hn : done.Nodup) (hin : ∀ i ∈ done, ∃ p ∈ m, p.1 = i) (hall : ∀ p ∈ m, p.1 ∈ done) : (waitsIn X done).Perm (waitsOf X) := by
  have h0 : ∀ i ∈ done, 0 ≤ i := by
    intro i hi
    obtain ⟨p, hp, rfl⟩ := hin i hi
    exact (h.lists p hp).2.2.1
  have h1 : waitsIn X done = (done.reverse.map Int.toNat).map (fun i => (i, (X.L i).length)) := by simp [waitsIn]
  rw [h1, waitsOf]
  apply List.Perm.map
  rw [List.perm_iff_count]
  intro a
  have hnd : (done.reverse.map Int.toNat).Nodup := by
    unfold List.Nodup
    rw [List.pairwise_map]
    have hr : done.reverse.Pairwise (· ≠ ·) := by rw [List.pairwise_reverse]; exact hn.imp (fun h e => h e.symm)
    refine (List.Pairwise.and_mem.1 hr).imp ?_
    rintro a b ⟨ha, hb, hab⟩ e
    have := h0 a (List.mem_reverse.1 ha)
    have := h0 b (List.mem_reverse.1 hb)
    exact hab (by omega)
  have hnf : ((List.range X.B.length).filter (fun i => !(X.L i).isEmpty)).Nodup := List.Pairwise.filter _ List.nodup_range
  rw [hnd.count, hnf.count]
  have : a ∈ done.reverse.map Int.toNat ↔ a ∈ (List.range X.B.length).filter (fun i => !(X.L i).isEmpty) := by
    simp only [List.mem_map, List.mem_reverse, List.mem_filter, List.mem_range]
    constructor
    · rintro ⟨i, hi, rfl⟩
      obtain ⟨p, hp, rfl⟩ := hin i hi
      have hl := h.lists p hp
      refine ⟨by omega, ?_⟩
      obtain ⟨j, hj⟩ := List.getElem?_of_mem hp
      rw [h.waits, Int.toNat_of_nonneg hl.2.2.1, mget_some_of m h.wmap.nodup hj]
      have := hl.2.1
      simpa using this
    · rintro ⟨_, ha⟩
      rw [h.waits] at ha
      cases hm : mget m (a : Int) with
      | none => rw [hm] at ha; simp at ha
      | some v => exact ⟨(a : Int), hall _ (mem_mget hm), by simp⟩
  simp only [this]

theorem sorted_is {X : DV} {ws : List (Nat × Nat)} (hB : X.B.length ≤ 4096) (hp : ws.Perm (waitsOf X)) (hs : ws.Pairwise (fun a b => a.1 % 4096 ≤ b.1 % 4096)) : ws = waitsOf X := by
  have hlt : ∀ a ∈ waitsOf X, a.1 < 4096 ∧ a.2 = (X.L a.1).length := by
    intro a ha
    simp only [waitsOf, List.mem_map, List.mem_filter, List.mem_range] at ha
    obtain ⟨i, hi, rfl⟩ := ha
    exact ⟨by omega, rfl⟩
  refine List.Perm.eq_of_pairwise (le := fun a b => a.1 % 4096 ≤ b.1 % 4096) ?_ hs ?_ hp
  · intro a b ha hb h1 h2
    have ha' := hlt a (hp.mem_iff.1 ha)
    have hb' := hlt b hb
    have : a.1 = b.1 := by
      rw [Nat.mod_eq_of_lt ha'.1, Nat.mod_eq_of_lt hb'.1] at h1 h2
      omega
    exact Prod.ext this (by rw [ha'.2, hb'.2, this])
  · refine (List.Pairwise.and_mem.1 (waits_pairwise X)).imp ?_
    rintro a b ⟨ha, hb, h⟩
    rw [Nat.mod_eq_of_lt (hlt a ha).1, Nat.mod_eq_of_lt (hlt b hb).1]
    omega

set_option maxHeartbeats 4000000 in
theorem waiting_any (w : World) (h : DiskIs w d F X bv q m) :
    Calls Tryz.prog 56 #[.pointer (some ⟨d, 0, none⟩)] w fun e w' => ∃ v, e = .returned v ∧ OwnRecs w' w.heap.size 105 2 v ((waitsOf X).map encW) ∧ Chg (fun _ => False) w w' := by
  obtain ⟨i0, hI0⟩ := info_parts info_wait
  have HI0 := Lib.hid hI0
  clear hI0
  have c1 : w.cell? ⟨d, 1, none⟩ = some (.map (some q)) := cell_of_block h.head rfl
  have H := Lib.hid h
  clear h
  go_enter Tryz.func56, Tryz.ntmps56
  go_wp2_with (first
    | (go_at_call 55; refine (none_no _ ⟨_, _, _, H.out⟩).mono ?_; rintro e w' ⟨rfl, rfl⟩)
    | (at_range; refine wpList_rangeM H.out.wmap rfl _ 60 59 rfl Tryz.underlying60 rfl ?_; intro w2 cnt hr2 hc2 hs2))
  go_frame
  go_loopw [3] (fun u wr => ∃ done cnt, RngIs iKey Prod.fst wr q w.heap.size m done cnt ∧ OwnRecs wr w.heap.size 105 2 u ((waitsIn X done).map encW) ∧ Chg (fun _ => False) w wr ∧ done.Nodup ∧ (∀ i ∈ done, ∃ p ∈ m, p.1 = i)) (fun _ wr => wr.rangeLeft q w.heap.size)
  · exact ⟨[], cnt, hr2, OwnRecs.nil _ _ _ _, hc2, List.nodup_nil, by simp⟩
  clear hr2 hc2 hs2
  obtain ⟨done, cnt, hr, ho, hc, hnd, hin⟩ := hrel
  have HR := Lib.hid hr
  have HO := Lib.hid ho
  have HC := Lib.hid hc
  have HN := Lib.hid hnd
  have HIn := Lib.hid hin
  have hlen : done.length ≤ 4096 := by
    have h1 : (done.map id).Nodup := by simpa using hnd
    have h2 : done ⊆ (List.range 4096).map (fun i : Nat => (i : Int)) := by
      intro i hi
      obtain ⟨p, hp, rfl⟩ := hin i hi
      have := H.out.lists p hp
      have := H.out.size
      exact List.mem_map.2 ⟨p.1.toNat, by rw [List.mem_range]; omega, by omega⟩
    have := hnd.length_le_of_subset h2
    simpa using this
  clear hr ho hc hnd hin
  rcases HR.out.next 0 with ⟨hall, hrun⟩ | ⟨k, v, w', cnt', hm, hn, hrun, hr', hlt, hcr, hsz, hen⟩
  · have hpm := H.out.done_perm HN.out HIn.out hall
    have hlw : (waitsIn X done).length ≤ 4096 := by simpa [waitsIn] using hlen
    have HP := Lib.hid hpm
    clear hpm hall
    go_wp2_with (first
      | (go_at_call 76; refine (sort_any _ HO.out hlw).mono ?_; rintro e w' ⟨rfl, ws', hp', hs', ho', hc'⟩))
    go_ret
    rw [← sorted_is H.out.size (hp'.trans HP.out) hs']
    exact ⟨_, rfl, ho', HC.out.new hc' (fun i e => (HO.out.lt e.symm).1)⟩
  · obtain ⟨v, L⟩ := v
    have hen' : (Instr.entry (.pointer (some ⟨w.heap.size, 0, none⟩))).run Tryz.prog w' = .ok (.tuple #[.int .i64 k, v]) w' := hen
    have hrun' : (Instr.next (.pointer (some ⟨w.heap.size, 0, none⟩)) false 0).run Tryz.prog wr = .ok (.tuple #[.bool true, .int .i64 k, v]) w' := hrun
    have hI1 := H.out.kept HC.out (fun _ _ h => h)
    obtain ⟨k, l, b, g, cap, rfl, hk, rfl, hLk, hb, rfl, -, hmx, -, -⟩ := hI1.last hm
    have hk' := H.out.size
    have hR' := Lib.hid hr'
    have HC' := Lib.hid hcr
    have hou := HO.out.kept HC'.out (fun j hj e => by
      obtain ⟨c1, h1⟩ := own_obj HO.out hj
      obtain ⟨_, _, _, _, _, _, _, _, _, h5, _⟩ := HR.out
      rw [show j = w.heap.size from e, h5] at h1
      cases h1)
    have hca := (Chg.refl (fun _ => False) w').alloc (.cells #[.int .i64 (k : Int), .int .i64 ((l.length : Int) + 1)] 105)
    have HOU := Lib.hid (hou.kept hca (fun _ _ h => h)).row
    have hwl : ((waitsIn X done).map encW).length ≤ 4096 := by simpa [waitsIn] using hlen
    have hmax : (l.length : Int) + 1 ≤ 9223372036854775807 := by unfold maxLen at hmx; omega
    have HMax := Lib.hid hmax
    have HWl := Lib.hid hwl
    have HK := Lib.hid hk'
    have HSz := Lib.hid hsz
    have hc2 : ∀ j u, [.int .i64 (k : Int), .int .i64 ((l.length : Int) + 1)][j]? = some u → (w'.alloc (.cells #[.int .i64 (k : Int), .int .i64 ((l.length : Int) + 1)] 105)).cell? ((⟨w'.heap.size, 0, none⟩ : Addr).add j) = some u := cells_new w' [.int .i64 (k : Int), .int .i64 ((l.length : Int) + 1)] _
    have hc3 : ∀ x ∈ [Value.int .i64 (k : Int), .int .i64 ((l.length : Int) + 1)], x.oneCell' = true := by intro x hx; simp only [List.mem_cons, List.not_mem_nil, or_false] at hx; rcases hx with rfl | rfl <;> rfl
    have hc4 : ((waitsIn X done).map encW).length + 1 ≤ maxLen := by unfold maxLen; omega
    have hc5 : (((waitsIn X done).map encW).length + 1) * 16 ≤ 140737488355328 := by omega
    have hc6 : w.heap.size ≤ (w'.alloc (.cells #[.int .i64 (k : Int), .int .i64 ((l.length : Int) + 1)] 105)).heap.size := by simp only [World.size_alloc]; rw [hsz]; have := HC.out.size; omega
    have hc2 := Lib.hid hc2
    have hc3 := Lib.hid hc3
    have hc4 := Lib.hid hc4
    have hc5 := Lib.hid hc5
    have hc6 := Lib.hid hc6
    clear hen hrun hr' hI1 hcr hca hou hmax hwl hlen hk' hsz
    go_wp2_with (first
      | (at_builtin; refine wpList_append_own_at _ rfl _ _ 102 rfl w.heap.size 105 i0 (.agg #[.int .i64 0, .int .i64 0]) 2 16 Tryz.underlying102 HI0.out.1 HI0.out.2.1 HI0.out.2.2.1 HI0.out.2.2.2 rfl (by decide) _ _ _ rfl HOU.out ⟨w'.heap.size, 0, none⟩ 1 1 [.int .i64 (k : Int), .int .i64 ((l.length : Int) + 1)] rfl rfl hc2.out hc3.out hc4.out hc5.out hc6.out ?_; intro u' w3 ho3 hg3 hx1 hx2; have HO3 := Lib.hid ho3; have HG3 := Lib.hid hg3; clear ho3 hg3 hx1 hx2))
    have hcu : Chg (fun i => some i = u3.ownBlock) w' w3 := ((Chg.refl _ _).alloc _).trans' (Chg.of_grown HG3.out)
    have hq1 : ¬ some q = u3.ownBlock := fun e => by
      obtain ⟨c1, h1⟩ := own_obj HO.out e.symm
      obtain ⟨es, clock, hb, _⟩ := HR.out.map
      rw [hb] at h1; cases h1
    have hr1 : ¬ some w.heap.size = u3.ownBlock := fun e => by
      obtain ⟨c1, h1⟩ := own_obj HO.out e.symm
      obtain ⟨_, _, _, _, _, _, _, _, _, h5, _⟩ := HR.out
      rw [h5] at h1; cases h1
    have hRn := hR'.out.kept hcu hq1 hr1
    have hkk : k % 4096 = k := Nat.mod_eq_of_lt (by have := HK.out; omega)
    refine ⟨⟨(k : Int) :: done, cnt', hRn, ?_, ?_, List.nodup_cons.2 ⟨hn, HN.out⟩, ?_⟩, ?_⟩
    · rw [waitsIn_cons, List.map_append]
      refine OwnRecs.append ?_ HO.out.each ?_
      · have h1 := HO3.out
        have e : ([(k, (X.L k).length)].map encW).flatten = [.int .i64 (k : Int), .int .i64 ((l.length : Int) + 1)] := by
          simp [encW, hkk, hLk]
        rw [e]
        simpa using h1
      · intro r hr
        simp only [List.map_cons, List.map_nil, List.mem_singleton] at hr
        rw [hr]; rfl
    · exact (HC.out.new HC'.out (fun i e => by omega)).new hcu (fun i e => (HO.out.lt e.symm).1)
    · intro i hi
      rcases List.mem_cons.1 hi with rfl | hi
      · exact ⟨_, hm, rfl⟩
      · exact HIn.out i hi
    · rw [hRn.left_eq, HR.out.left_eq]
      exact hlt

end Go.Proofs.YtbkefhoapnaciaaGreat.disks
end

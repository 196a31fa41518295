/- . -/
import Derived.Test.YtbjagmlbamjdbaaGreatPx6RootOnce

set_option linter.unusedSimpArgs false
set_option linter.unusedVariables false
section
namespace Go.Proofs.YtbjagmlbamjdbaaGreat.wals
open Go.RowKit Go.My disks bufs
set_option maxRecDepth 100000

variable {w w' : World} {l d : Nat} {F Fd : Nat → Prop} {X : DV} {V : LV} {rv tv wv : Value}

theorem goes_write (X : DV) (i : Int) (b : Blk) : Goes X (X.write i b) := by
  unfold DV.write
  split
  · exact Goes.refl X
  · split
    · exact goes_burn X
    · exact ⟨(goes_burn X).fuse, (goes_burn X).free⟩
theorem goes_flush (X : DV) : Goes X X.flush := by
  unfold DV.flush
  split
  · exact Goes.refl X
  · split
    · exact goes_burn X
    · exact ⟨(goes_burn X).fuse, (goes_burn X).free⟩

theorem write_sl (w : World) (h : DiskAt w d Fd X) (i : Int) (hi : inR i) (hf : X.fuse ≤ 9223372036854775807) {v : Value} {b : Blk} (hb : SlAt w v (cellsB b)) (hbf : ∀ g, v.ownBlock = some g → ¬ Fd g) (hL : ∀ j, (X.L j).length < 1000000) :
    Calls Tryz.prog 166 #[.pointer (some ⟨d, 0, none⟩), .int .i64 i, v] w fun e w' => e = .returned (.int .i64 (writeC X i b.length)) ∧ DiskAt w' d (grow Fd w w') (X.write i b) ∧ Chg Fd w w' := by
  obtain ⟨bv, q, m, h⟩ := h
  obtain ⟨oa, cap, rfl, h2, h3⟩ := hb
  rw [cellsB_length] at *
  exact write_any w h i hi hf oa _ cap b ⟨oa, cap, by rw [cellsB_length], h2, h3⟩ (fun a ha => by subst ha; exact hbf _ rfl) hL

theorem LogIs.setHead (h : LogIs w l d F V rv tv wv) (s a u : Nat) : LogIs (w.setCells l 1 [.int .i64 s, .int .i64 a, .int .i64 u]) l d F { V with seq := s, area := a, used := u } rv tv wv ∧ Chg (· = l) w (w.setCells l 1 [.int .i64 s, .int .i64 a, .int .i64 u]) := by
  have hc := chg_setCells l [.int .i64 s, .int .i64 a, .int .i64 u] 1 w
  have hne : ∀ {base n : Nat} {e : TypeId} {v : Value} {xs : List Value}, w.ownsRow base e 1 v n xs → e ≠ 177 → ∀ g, v.ownBlock = some g → g ≠ l := by
    intro base n e v xs ho hne g hg e1
    obtain ⟨cur, hcur⟩ := row_obj ho hg
    rw [e1, h.head] at hcur
    simp only [Option.some.injEq, Obj.cells.injEq] at hcur
    exact hne hcur.2.1.symm
  refine ⟨⟨arr_setCells [.int .i64 s, .int .i64 a, .int .i64 u] 1 w _ h.head (by simp [logC]), row_kept h.recs hc (hne h.recs (by decide)), row_kept h.tail hc (hne h.tail (by decide)), row_kept h.wait hc (hne h.wait (by decide)), h.rw, h.fl, h.fr, h.ft, h.fw, fun k hk => Nat.lt_of_lt_of_le (h.lt k hk) hc.size⟩, hc⟩

def LogPost (w : World) (l d : Nat) (F Fd : Nat → Prop) (n : Int) (X' : DV) (V' : LV) (e : Ending) (w' : World) : Prop :=
  e = .returned (.int .i64 n) ∧ ∃ F' Fd', LogAt w' l d F' Fd' X' V' ∧ (∀ k, F' k → F k ∨ w.heap.size ≤ k) ∧ (∀ k, Fd' k → Fd k ∨ w.heap.size ≤ k) ∧ Chg (fun k => F k ∨ Fd k) w w'

def putV (V : LV) (n : Int) (s a u : Nat) : LV := if n = 0 then { V with seq := s, area := a, used := u } else V

set_option maxHeartbeats 2000000 in
theorem put_any (w : World) (h : LogAt w l d F Fd X V) (s a u : Nat) (hs : s < 9223372036854775808) (ha : a < 256) (hu : u < 4294967296) (hf : X.fuse ≤ 9223372036854775807) (hL : ∀ j, (X.L j).length < 1000000) :
    Calls Tryz.prog 151 #[.pointer (some ⟨l, 0, none⟩), .agg #[.int .i64 s, .int .i64 a, .int .i64 u]] w (LogPost w l d F Fd (putH X s a u).1 (putH X s a u).2 (putV V (putH X s a u).1 s a u)) := by
  have HBy := fun w' => Lib.hid (bytes_any w' s a u hs ha hu)
  obtain ⟨hd, hhd⟩ : ∃ hd, headB s a u = hd := ⟨_, rfl⟩
  have hl64 : hd.length = 64 := by rw [← hhd]; exact headB_length _ _ _
  simp only [hhd] at HBy
  obtain ⟨p, hp⟩ : ∃ p, s % 2 = p := ⟨_, rfl⟩
  have hp2 : p < 2 := by omega
  have hm1 : (s : Int).tmod 2 = (p : Int) := by rw [Int.tmod_eq_emod_of_nonneg (by omega)]; omega
  have hm2 : (s : Int) % 2 = (p : Int) := by omega
  have hput : putH X s a u = if writeC X (p : Int) 64 ≠ 0 then (writeC X (p : Int) 64, X.write (p : Int) hd) else if flushC (X.write (p : Int) hd) ≠ 0 then (flushC (X.write (p : Int) hd), (X.write (p : Int) hd).flush) else (0, (X.write (p : Int) hd).flush) := by
    unfold putH; rw [hhd, hp]
  obtain ⟨R, hR⟩ : ∃ R, putH X s a u = R := ⟨_, rfl⟩
  rw [hR] at hput ⊢
  have HPut := Lib.hid hput
  clear hput hp hR
  have H := Lib.hid h
  have HF := Lib.hid hf
  have HL := Lib.hid hL
  have HHd := Lib.hid hhd
  have H64 := Lib.hid hl64
  have i1 : (0 : Int) ≤ s := by omega
  have i2 : (s : Int) < 9223372036854775808 := by omega
  have HI := Lib.hid (And.intro i1 (And.intro hm1 hm2))
  clear h hf hL hhd hl64 ha hu hs i1 i2 hm1 hm2
  go_enter Tryz.func151, Tryz.ntmps151
  go_wp2_with (first
    | (go_at_call 152; fail))
  refine (HBy _).out.mono ?_
  rintro e w1 ⟨rfl, hc1⟩
  have HA1 := Lib.hid (show Arr w1 w.heap.size 175 [.int .i64 s, .int .i64 a, .int .i64 u] from hc1.at at1 id)
  have HC1 := Lib.hid (show Chg (fun _ => False) w w1 from ((Chg.refl _ _).alloc _).trans' hc1)
  have HSzB : Hid ((cellsB hd).toArray.size = 64) := Lib.hid (by simp [cellsB_length, H64.out])
  clear hc1 HBy
  dsimp only
  go_wp2_with (first
    | (refine wpList_store_new rfl 178 _ _ rfl (cellsB hd).toArray rfl rfl (size_wblock.trans (by rw [HSzB.out])) (by rw [HSzB.out]; rfl) (all_oneCell_toArray (one_cellsB _)) ?_))
  obtain ⟨w2, hw2⟩ : ∃ w2, w1.alloc (.cells (cellsB hd).toArray 178) = w2 := ⟨_, rfl⟩
  have hc2 : Chg (fun _ => False) w1 w2 := by rw [← hw2]; exact (Chg.refl _ _).alloc _
  have hB2 : Arr w2 w1.heap.size 178 (cellsB hd) := by rw [← hw2]; exact at1
  have HB2 := Lib.hid hB2
  have HA2 := Lib.hid (show Arr w2 w.heap.size 175 [.int .i64 s, .int .i64 a, .int .i64 u] from hc2.at HA1.out id)
  have HC2 := Lib.hid (HC1.out.trans' hc2)
  have HL2 := Lib.hid (H.out.fresh (HC1.out.trans' hc2))
  have HSl := Lib.hid (show SlAt w2 (.slice (some ⟨w1.heap.size, 0, none⟩) 64 64) (cellsB hd) from by
    have := blk_sub hB2 0 64 64 (by rw [H64.out]; omega) (by omega)
    rwa [List.drop_zero, List.take_of_length_le (by rw [H64.out]; omega)] at this)
  have HS1 := Lib.hid (show w.heap.size < w1.heap.size from lt_of_block HA1.out)
  rw [hw2]
  clear hw2 hc2 hB2 HA1 HC1 HSzB
  obtain ⟨i1, hm1, hm2⟩ := HI.out
  have hcd : w2.cell? ⟨l, 0, none⟩ = some (.pointer (some ⟨d, 0, none⟩)) := by
    obtain ⟨⟨rv, tv, wv, hl⟩, -, -⟩ := HL2.out
    exact hl.head.cell rfl
  have hcs : w2.cell? ⟨w.heap.size, 0, none⟩ = some (.int .i64 s) := HA2.out.cell rfl
  refine wp_region_noPanic ?_
  refine wp_region_held_drew (S := (fun w' => w'.cell? ⟨l, 0, none⟩ = some (.pointer (some ⟨d, 0, none⟩)) ∧ w'.cell? ⟨w.heap.size, 0, none⟩ = some (.int .i64 s))) (by kernel_rfl) (⟨hcd, hcs⟩) (fun hHeld => ?_)
  refine tk 0 (v := ?_) hHeld rfl (fun w hSw => ?_) ?_
  rotate_left
  · (obtain ⟨hSw1, hSw2⟩ := hSw; go_simp)
    try with_reducible rfl
  simp only [Act.put, zA, zB, zC]
  refine tk 1 (v := ?_) hHeld rfl (fun w hSw => ?_) ?_
  rotate_left
  · (obtain ⟨hSw1, hSw2⟩ := hSw; go_simp)
    try with_reducible rfl
  simp only [Act.put, zA, zB, zC]
  refine tk 2 (v := ?_) hHeld rfl (fun w hSw => ?_) ?_
  rotate_left
  · (obtain ⟨hSw1, hSw2⟩ := hSw; go_simp)
    try with_reducible rfl
  simp only [Act.put, zA, zB, zC]
  refine tk 3 (v := ?_) hHeld rfl (fun w hSw => ?_) ?_
  rotate_left
  · (obtain ⟨hSw1, hSw2⟩ := hSw; go_simp)
    try with_reducible rfl
  simp only [Act.put, zA, zB, zC]
  refine tk 4 (v := ?_) hHeld rfl (fun w hSw => ?_) ?_
  rotate_left
  · (obtain ⟨hSw1, hSw2⟩ := hSw; go_simp)
    try with_reducible rfl
  simp only [Act.put, zA, zB, zC]
  refine tk 5 (v := ?_) hHeld rfl (fun w hSw => ?_) ?_
  rotate_left
  · (obtain ⟨hSw1, hSw2⟩ := hSw; go_simp)
    try with_reducible rfl
  simp only [Act.put, zA, zB, zC]
  refine tk 6 (v := ?_) hHeld rfl (fun w hSw => ?_) ?_
  rotate_left
  · (obtain ⟨hSw1, hSw2⟩ := hSw; go_simp)
    try with_reducible rfl
  simp only [Act.put, zA, zB, zC]
  refine tk 7 (v := ?_) hHeld rfl (fun w hSw => ?_) ?_
  rotate_left
  · (obtain ⟨hSw1, hSw2⟩ := hSw; go_simp)
    try with_reducible rfl
  simp only [Act.put, zA, zB, zC]
  refine on1 8 rfl (fun K hK => ?_)
  go_simp
  refine (write_sl _ (HL2.out.disk.fresh (Chg.refl _ _).drew) (p : Int) ⟨by omega, by omega⟩ HF.out (HSl.out.kept (Chg.refl _ _).drew) (fun g hg hF => ?_) HL.out).mono ?_
  · simp only [Value.ownBlock, Option.some.injEq] at hg
    have := H.out.disk.lt g hF
    have := HS1.out
    omega
  rintro e w3 ⟨rfl, hd3, hc3⟩
  rw [H64.out]
  have hFd : ∀ k, Fd k → k < w.heap.size := H.out.disk.lt
  have hc23 : Chg Fd w2 w3 := (Chg.refl _ w2).drew.trans' hc3
  have hA3 : Arr w3 w.heap.size 175 [.int .i64 s, .int .i64 a, .int .i64 u] := hc23.at HA2.out (fun hF => by have := hFd _ hF; omega)
  have hL3 : LogAt w3 l d F (grow Fd w2 w3) (X.write (p : Int) hd) V := by
    obtain ⟨hl, -, ho⟩ := HL2.out
    obtain ⟨rv, tv, wv, hl⟩ := hl
    refine ⟨⟨rv, tv, wv, hl.kept hc23 (fun k hk hF => ho k hk hF)⟩, hd3, fun k hk hg => ?_⟩
    rcases hg with hg | hg
    · exact ho k hk hg
    · have := hl.lt k hk
      omega
  have hcd3 : w3.cell? ⟨l, 0, none⟩ = some (.pointer (some ⟨d, 0, none⟩)) := by
    obtain ⟨⟨rv, tv, wv, hl⟩, -, -⟩ := hL3
    exact hl.head.cell rfl
  have HL3 := Lib.hid hL3
  have HA3 := Lib.hid hA3
  have HC3 := Lib.hid (show Chg Fd w w3 from (HC2.out.mono (fun _ _ h => h.elim)).trans' hc23)
  have HGr := Lib.hid (show ∀ k, grow Fd w2 w3 k → Fd k ∨ w.heap.size ≤ k from fun k hk => by
    rcases hk with hk | hk
    · exact Or.inl hk
    · have := HC2.out.size
      exact Or.inr (by omega))
  have HSq := Lib.hid (show w.heap.size < w2.heap.size from Nat.lt_trans HS1.out (lt_of_block HB2.out))
  have HFl := Lib.hid (show (X.write (p : Int) hd).fuse ≤ 9223372036854775807 from Int.le_trans (goes_write X _ hd).fuse HF.out)
  clear hFd hc23 hL3 hd3 hc3
  dsimp only
  refine hK _ _ (⟨hcd3, hA3.cell rfl⟩) (fun hHeld2 => ?_)
  try simp only [Act.put, zA, zB, zC]
  clear hA3
  refine tk 9 (v := ?_) hHeld2 rfl (fun w hSw => ?_) ?_
  rotate_left
  · go_simp
    try with_reducible rfl
  simp only [Act.put, zA, zB, zC]
  refine wpAnyH_done (by kernel_rfl) ?_ _
  refine NoPanic.normal ?_
  clear hHeld hHeld2 hcd hcs HA2 HL2 HSl HS1 i1 hm1 hm2
  by_cases h1 : writeC X (p : Int) 64 = 0
  · have hb1 : (writeC X (p : Int) 64 != 0) = false := by simp [h1]
    have HZ1 := Lib.hid h1
    clear h1
    have cd4 := hcd3
    clear hcd3
    go_wp2_with (first
      | (go_at_call 167; fail))
    refine (flush_at _ HL3.out.disk HFl.out).mono ?_
    rintro e w4 ⟨rfl, hd4, hc4⟩
    have hL4 : LogAt w4 l d F (grow Fd w2 w3) (X.write (p : Int) hd).flush V := by
      obtain ⟨⟨rv, tv, wv, hl⟩, -, ho⟩ := HL3.out
      exact ⟨⟨rv, tv, wv, hl.kept hc4 (fun k hk hF => ho k hk hF)⟩, hd4, ho⟩
    have hC4 : Chg Fd w w4 := HC3.out.trans hc4 (fun i hi hg => by
      rcases HGr.out i hg with h | h
      · exact h
      · omega)
    have hA4 : Arr w4 w.heap.size 175 [.int .i64 s, .int .i64 a, .int .i64 u] := hc4.at HA3.out (fun hg => by
      rcases hg with h | h
      · have := H.out.disk.lt _ h; omega
      · have := lt_of_block HB2.out
        have := HSq.out
        omega)
    have HL4 := Lib.hid hL4
    have HC4 := Lib.hid hC4
    have HA4 := Lib.hid hA4
    clear hL4 hC4 hA4 hd4 hc4 cd4
    dsimp only
    by_cases h2 : flushC (X.write (p : Int) hd) = 0
    · have hb2 : (flushC (X.write (p : Int) hd) != 0) = false := by simp [h2]
      have HZ2 := Lib.hid h2
      clear h2
      have hth : w4.there l 1 3 := by
        obtain ⟨⟨rv, tv, wv, hl⟩, -, -⟩ := HL4.out
        intro j hj
        have := hl.head.there (1 + j) (by simp [logC]; omega)
        simpa using this
      have HTh := Lib.hid hth
      clear hth
      go_wp2_with (first
        | (refine wpList_load_mid rfl 175 _ rfl w.heap.size 0 rfl [.int .i64 s, .int .i64 a, .int .i64 u] _ HA4.out.range Tryz.underlying175 rfl size_head ?_)
        | (refine wpList_store_mid rfl 175 _ _ rfl l 1 #[.int .i64 s, .int .i64 a, .int .i64 u] rfl rfl HTh.out size_head (head_ones _ _ _) ?_))
      go_ret
      obtain ⟨⟨rv, tv, wv, hl⟩, hdk, ho⟩ := HL4.out
      obtain ⟨hl2, hc5⟩ := hl.setHead s a u
      rw [show R = (0, (X.write (p : Int) hd).flush) by rw [HPut.out, if_neg (fun h => h HZ1.out), if_neg (fun h => h HZ2.out)]]
      exact ⟨rfl, F, grow Fd w2 w3, ⟨⟨rv, tv, wv, hl2⟩, hdk.kept hc5 (fun k hk e => ho l hl.fl (e ▸ hk)), ho⟩, fun k hk => Or.inl hk, HGr.out, (HC4.out.mono (fun k _ hk => Or.inr hk)).trans' (hc5.mono (fun k _ e => Or.inl (e ▸ hl.fl)))⟩
    · have hb2 : (flushC (X.write (p : Int) hd) != 0) = true := by simp [h2]
      have HZ2 := Lib.hid h2
      clear h2
      go_wp2_with fail
      go_ret
      rw [show R = (flushC (X.write (p : Int) hd), (X.write (p : Int) hd).flush) by rw [HPut.out, if_neg (fun h => h HZ1.out), if_pos HZ2.out]]
      exact ⟨rfl, F, grow Fd w2 w3, by unfold putV; rw [if_neg HZ2.out]; exact HL4.out, fun k hk => Or.inl hk, HGr.out, HC4.out.mono (fun k _ hk => Or.inr hk)⟩
  · have hb1 : (writeC X (p : Int) 64 != 0) = true := by simp [h1]
    have HZ1 := Lib.hid h1
    clear h1
    go_wp2_with fail
    go_ret
    rw [show R = (writeC X (p : Int) 64, X.write (p : Int) hd) by rw [HPut.out, if_pos HZ1.out]]
    exact ⟨rfl, F, grow Fd w2 w3, by unfold putV; rw [if_neg HZ1.out]; exact HL3.out, fun k hk => Or.inl hk, HGr.out, HC3.out.mono (fun k _ hk => Or.inr hk)⟩

end Go.Proofs.YtbjagmlbamjdbaaGreat.wals
end

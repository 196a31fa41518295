/-
  DiskFlushed, whole: for all acts, all later acts and every list of what is kept the law returns true and changes nothing that was there. No condition.
-/
import Derived.Test.YtomceindibnpnaaDiskBegun
import Derived.Test.YtomceindibnpnaaRows
namespace Go.Proofs.Ytomceindibnpnaa.diskFlushed
open Go.ChangeShapes Go.WideShapes Go.ChangeAt Go.RowKit Go.My disks

/-- A disk that is up, without a fuse, with the blocks B0. -/
structure Up (B0 : List Blk) (n : Nat) (X : DV) : Prop where
  B : X.B = B0
  down : X.down = false
  fuse : X.fuse = -1
  done : 0 ≤ X.done ∧ X.done ≤ n
  Ls : ∀ j, (X.L j).length ≤ n

theorem burn_up {X : DV} {n : Nat} (hf : X.fuse = -1) (hd : 0 ≤ X.done ∧ X.done ≤ n) (hn : n < 1000) : X.burn = { X with done := X.done + 1 } := by
  rw [burn_of (by rw [hf]; omega), if_neg (by rw [hf]; omega), disks.wrap_small (by omega) (by omega)]

theorem Up.write {B0 : List Blk} {n : Nat} {X : DV} (h : Up B0 n X) (h8 : B0.length = 8) (hn : n < 1000) {k : Nat} (hk : k < 8) {b : Blk} (hb : b.length = 64) : writeC X k 64 = 0 ∧ Up B0 (n + 1) (X.write k b) := by
  have ha : askedC X (k : Int) = 0 := by
    have := h.B
    simp [askedC, h.down, this, h8]; omega
  have hf := h.fuse
  refine ⟨by simp [writeC, ha, hf], ?_⟩
  rw [DV.write, if_neg (by simp [ha, hb]), if_neg (by rw [hf]; omega), burn_up hf h.done hn, Int.toNat_natCast]
  have hd := h.done
  refine ⟨h.B, h.down, h.fuse, ⟨by show 0 ≤ X.done + 1; omega, by show X.done + 1 ≤ _; omega⟩, fun j => ?_⟩
  have := h.Ls j
  show (if j = k then X.L j ++ [b] else X.L j).length ≤ _
  split
  · simp; omega
  · omega

theorem crash_nil_B (X : DV) (k : Nat) : (X.crashN [] k).B = X.B := by
  induction k with
  | zero => rfl
  | succ k ih =>
    rw [DV.crashN]
    split
    · simp only
      rw [if_neg (by simp [keepAt])]
      exact ih
    · exact ih

/-- A crash of a disk on which nothing waits, or that keeps nothing, leaves the blocks. -/
theorem crash_none {X : DV} (h : ∀ i, X.L i = []) (keep : List Int) : (X.crash keep).B = X.B ∧ (X.crash keep).done = X.done ∧ (∀ i, (X.crash keep).L i = []) := by
  have hw : waitsOf X = [] := by
    unfold waitsOf
    rw [List.filter_eq_nil_iff.2 (by intro i _; simp [h i])]; rfl
  unfold DV.crash
  rw [hw]
  exact ⟨rfl, rfl, h⟩

theorem bg_flush_up {W w : World} {F : Nat → Prop} {d n : Nat} {X : DV} {ls : List Value} (h : BgOut W w F d X ls n) (hn : n ≤ 60) : flushC X = 0 ∧ Up X.flush.B (n + 1) X.flush ∧ (∀ i, X.flush.L i = []) ∧ X.flush.B.length = 8 := by
  have hX : X.flush = X.burn.all := by rw [DV.flush, if_neg (by simp [h.down]), if_neg (by rw [h.fuse]; omega)]
  have hb := burn_up h.fuse h.done (by omega)
  have hd := h.done
  have hf := h.fuse
  have hL : ∀ i, X.flush.L i = [] := fun i => by rw [hX]; rfl
  refine ⟨by simp [flushC, h.down, hf], ⟨rfl, by rw [hX, hb]; exact h.down, by rw [hX, hb]; exact h.fuse, by rw [hX, hb]; exact ⟨by show 0 ≤ X.done + 1; omega, by show X.done + 1 ≤ _; omega⟩, fun j => by rw [hL j]; simp⟩, hL, ?_⟩
  rw [hX, hb]
  simp [DV.all, h.len]

theorem Up.crash {B0 : List Blk} {n : Nat} {X : DV} (h : Up B0 n X) (hL : ∀ i, X.L i = []) (keep : List Int) : Up B0 n (X.crash keep) := by
  obtain ⟨h1, h2, h3⟩ := crash_none hL keep
  exact ⟨h1.trans h.B, rfl, rfl, by rw [h2]; exact h.done, fun j => by rw [h3 j]; simp⟩

theorem place_wrap (z : Int) : wrap64 (z.tmod 8 + 8) = z.tmod 8 + 8 := place_wrap' z

/-- Two arrays made, then stored into. -/
theorem two_arrs (w1 : World) {al ls : List Value} (ha : al.length = 8) (hl : ls.length = 8) {wX : World} (hX : wX = (w1.alloc (.cells #[.string ⟨#[]⟩, .string ⟨#[]⟩, .string ⟨#[]⟩, .string ⟨#[]⟩, .string ⟨#[]⟩, .string ⟨#[]⟩, .string ⟨#[]⟩, .string ⟨#[]⟩] 56)).alloc (.cells #[.slice none 0 0, .slice none 0 0, .slice none 0 0, .slice none 0 0, .slice none 0 0, .slice none 0 0, .slice none 0 0, .slice none 0 0] 58)) :
    wX.there w1.heap.size 0 al.length ∧ (wX.setCells w1.heap.size 0 al).there (w1.heap.size + 1) 0 ls.length ∧ Chg (fun _ => False) w1 ((wX.setCells w1.heap.size 0 al).setCells (w1.heap.size + 1) 0 ls) ∧
      Arr ((wX.setCells w1.heap.size 0 al).setCells (w1.heap.size + 1) 0 ls) w1.heap.size 56 al ∧ Arr ((wX.setCells w1.heap.size 0 al).setCells (w1.heap.size + 1) 0 ls) (w1.heap.size + 1) 58 ls := by
  have a1 : Arr wX w1.heap.size 56 (List.replicate 8 (.string ⟨#[]⟩)) := by
    subst hX; unfold Arr; simp only [heap_alloc_get, World.size_alloc]; rw [if_neg (by omega), if_pos trivial]; rfl
  have a2 : Arr wX (w1.heap.size + 1) 58 (List.replicate 8 nilS) := by
    subst hX; unfold Arr; simp only [heap_alloc_get, World.size_alloc]; rw [if_pos trivial]; rfl
  have cX : Chg (fun _ => False) w1 wX := by subst hX; exact ((Chg.refl _ _).alloc _).alloc _
  have c1 := chg_setCells w1.heap.size al 0 wX
  have c2 := chg_setCells (w1.heap.size + 1) ls 0 (wX.setCells w1.heap.size 0 al)
  have b1 := a1.all (vs := al) (by simp [ha])
  have b2 := a2.kept c1 (by omega)
  refine ⟨?_, ?_, (cX.new c1 (fun k e => by omega)).new c2 (fun k e => by omega), b1.kept c2 (by omega), b2.all (by simp [hl])⟩
  · have := a1.there; rw [List.length_replicate] at this; rw [ha]; exact this
  · have := b2.there; rw [List.length_replicate] at this; rw [hl]; exact this

theorem bg_ls_one {W w : World} {F : Nat → Prop} {d n : Nat} {X : DV} {ls : List Value} (h : BgOut W w F d X ls n) : ∀ x ∈ ls, x.oneCell' = true := by
  intro x hx
  obtain ⟨j, hj⟩ := List.getElem?_of_mem hx
  obtain ⟨oax, cx, e⟩ := own_slice (h.each j x hj)
  rw [e]; rfl

/-- The box of an act, cell by cell. -/
def Box (w : World) (g : Nat) (a : DAct) (oak : Option Addr) (lk ck : Nat) : Prop :=
  w.cell? ⟨g, 0, none⟩ = some (.int .i64 a.kind) ∧ w.cell? ⟨g, 1, none⟩ = some (.int .i64 a.place) ∧ w.cell? ⟨g, 2, none⟩ = some (.int .i64 a.n) ∧ w.cell? ⟨g, 3, none⟩ = some (.int .i64 0) ∧ w.cell? ⟨g, 4, none⟩ = some (.slice oak lk ck)


set_option maxRecDepth 100000 in
set_option maxHeartbeats 4000000 in
theorem walk (W : World) (oa : Option Addr) (cap : Nat) (acts : List DAct) (hacts : RowsAt W 5 oa (acts.map DAct.row)) (hok : ∀ a ∈ acts, a.ok W) (oa1 : Option Addr) (cap1 : Nat) (more : List DAct) (hmore : RowsAt W 5 oa1 (more.map DAct.row)) (hok1 : ∀ a ∈ more, a.ok W)
    (kv : Value) (keep : List Int) (hkeep : SlAt W kv (keep.map (Value.int .i64))) (hkr : ∀ z ∈ keep, inR z) :
    Calls Try.prog 8 #[.slice oa acts.length cap, .slice oa1 more.length cap1, kv] W fun e w' => e = .returned (.bool true) ∧ Chg (fun _ => False) W w' := by
  have HMore := Lib.hid hmore
  have HOk := Lib.hid hok1
  have HKeep := Lib.hid hkeep
  have HKr := Lib.hid hkr
  have hbeg := begun_any W oa cap acts hacts hok
  have HBeg := Lib.hid hbeg
  clear hmore hok1 hkeep hkr hacts hok hbeg
  go_enter Try.func8, Try.ntmps8
  go_wp2_with (first
    | (go_at_call 29; refine HBeg.out.mono ?_; rintro e w1 ⟨d, F, X, ls, n, rfl, hB, hn⟩
       have HB := Lib.hid hB
       have HNn := Lib.hid hn
       obtain ⟨al, hal⟩ : ∃ al, X.B.map strV = al := ⟨_, rfl⟩
       have hall : al.length = 8 := by rw [← hal, List.length_map]; exact hB.len
       rw [hal]
       have HTA := Lib.hid (two_arrs w1 hall hB.ll rfl)
       have HSz1 := Lib.hid (show (Try.prog.info? 56).map (·.size) = some al.toArray.size from by rw [List.size_toArray, hall]; exact size_s8)
       have HSz2 := Lib.hid (show (Try.prog.info? 58).map (·.size) = some ls.toArray.size from by rw [List.size_toArray, hB.ll]; exact size_ss8)
       have HO1 := Lib.hid (show al.toArray.all (·.oneCell') = true from all_oneCell_toArray (by rw [← hal]; exact one_map' _ trivial))
       have HO2 := Lib.hid (show ls.toArray.all (·.oneCell') = true from all_oneCell_toArray (bg_ls_one hB))
       clear hB hal hall hn)
    | (refine wpList_store_mid rfl 56 _ _ rfl w1.heap.size 0 al.toArray rfl rfl (by rw [List.size_toArray]; exact HTA.out.1) HSz1.out HO1.out ?_; rw [List.toList_toArray])
    | (refine wpList_store_mid rfl 58 _ _ rfl (w1.heap.size + 1) 0 ls.toArray rfl rfl (by rw [List.size_toArray]; exact HTA.out.2.1) HSz2.out HO2.out ?_; rw [List.toList_toArray]
       obtain ⟨w2, hw2⟩ : ∃ w2, (((w1.alloc (.cells #[.string ⟨#[]⟩, .string ⟨#[]⟩, .string ⟨#[]⟩, .string ⟨#[]⟩, .string ⟨#[]⟩, .string ⟨#[]⟩, .string ⟨#[]⟩, .string ⟨#[]⟩] 56)).alloc (.cells #[.slice none 0 0, .slice none 0 0, .slice none 0 0, .slice none 0 0, .slice none 0 0, .slice none 0 0, .slice none 0 0, .slice none 0 0] 58)).setCells w1.heap.size 0 al).setCells (w1.heap.size + 1) 0 ls = w2 := ⟨_, rfl⟩
       rw [hw2]
       have HC2 := Lib.hid (show Chg (fun _ => False) w1 w2 from by rw [← hw2]; exact HTA.out.2.2.1)
       clear hw2))
  obtain ⟨hfl, hup, hL0, hB8⟩ := bg_flush_up HB.out HNn.out
  obtain ⟨X1, hX1⟩ : ∃ X1, X.flush = X1 := ⟨_, rfl⟩
  have hfx : X.fuse ≤ 9223372036854775807 := by rw [HB.out.fuse]; omega
  have hD2 := HB.out.disk.fresh HC2.out
  have hD2' : Hid (DiskAt w2 d F X) := Lib.hid hD2
  have HFx := Lib.hid hfx
  have hW2 : Chg (fun _ => False) W w2 := HB.out.chg.trans' HC2.out
  have HW2 := Lib.hid hW2
  rw [hX1] at hup hL0 hB8
  have HUp := Lib.hid hup
  have HL0 := Lib.hid hL0
  have HOld := Lib.hid HB.out.old
  have HX1 := Lib.hid hX1
  obtain ⟨B1, hB1⟩ : ∃ B1, X1.B = B1 := ⟨_, rfl⟩
  have HB1 := Lib.hid hB1
  rw [hB1] at hB8 HUp
  have hko : keep ≠ [] → ∀ g, kv.ownBlock = some g → g < W.heap.size := fun hne g hg => slat_old HKeep.out (by intro e; exact hne (List.map_eq_nil_iff.1 e)) hg
  have HKo := Lib.hid hko
  clear hfx hD2 hW2 hup hL0 hX1 hB1 hko
  refine (flush_at _ hD2'.out HFx.out).mono ?_
  rw [hfl]
  rintro e w3 ⟨rfl, hx3, hc3⟩
  rw [HX1.out] at hx3
  have HD3 := Lib.hid hx3
  have HW3 := Lib.hid (HW2.out.new hc3 HOld.out)
  clear hx3 hc3
  go_wp2_with (first
    | (go_at_call 31; refine (image_at _ HD3.out).mono ?_; rintro e w4 ⟨v1, rfl, hi1, hc4⟩; obtain ⟨oai, capi, hv1⟩ := hi1.sl; rw [HB1.out] at hv1 hi1; rw [hB8] at hv1; subst hv1; have HI := Lib.hid hi1; have HC4 := Lib.hid hc4; clear hi1 hc4)
    | (go_at_call 32; refine (crash_at _ (HD3.out.fresh HC4.out) (HKeep.out.kept (HW3.out.trans' HC4.out)) (fun hne g hg hF => Nat.not_lt.2 (HOld.out g hF) (HKo.out hne g hg)) HKr.out (fun j => by rw [HL0.out j]; simp)).mono ?_; rintro e w5 ⟨rfl, hx5, hc5⟩; have HD5 := Lib.hid hx5; have HC5 := Lib.hid hc5; clear hx5 hc5))
  go_loopw [12] (fun j wr => ∃ i : Nat, j = .int .i64 i ∧ i ≤ more.length ∧ i ≤ 30 ∧ ∃ F X, DiskAt wr d F X ∧ (∀ k, F k → W.heap.size ≤ k) ∧ (∀ k, F k → k < w3.heap.size ∨ w4.heap.size ≤ k) ∧ Up B1 (n + 1 + i) X ∧ Chg (fun k => W.heap.size ≤ k ∧ k < w3.heap.size) w4 wr) (fun j _ => 30 - (intOf j).toNat)
  · exact ⟨0, rfl, Nat.zero_le _, by omega, F, _, HD5.out, HOld.out, fun k hk => Or.inl (HD3.out.lt k hk), HUp.out.crash HL0.out keep, HC5.out.mono (fun k _ hk => ⟨HOld.out k hk, HD3.out.lt k hk⟩)⟩
  clear HD5 HC5
  obtain ⟨i, rfl, hil, hi30, F1, X2, hD, hO, hT, hU, hC⟩ := hrel
  have HD := Lib.hid hD
  have HO := Lib.hid hO
  have HT := Lib.hid hT
  have HU := Lib.hid hU
  have HC := Lib.hid hC
  clear hD hO hT hU hC
  have hWr : Chg (fun _ => False) W wr := (HW3.out.trans' HC4.out).new HC.out (fun k hk => hk.1)
  have HWr := Lib.hid hWr
  have hLx : ∀ j, (X2.L j).length < 1000000 := fun j => by have := HU.out.Ls j; have := HNn.out; omega
  have HLx := Lib.hid hLx
  have hfx : X2.fuse ≤ 9223372036854775807 := by rw [HU.out.fuse]; omega
  have HFx2 := Lib.hid hfx
  clear hWr hLx hfx
  by_cases hlt : i < more.length ∧ i < 30
  · obtain ⟨hl1, hl2⟩ := hlt
    have hd30 : decide ((i : Int) < 30) = true := by simp; omega
    obtain ⟨b, off, rfl⟩ := HMore.out.spot (by intro e; cases more with | nil => simp at hl1 | cons => simp at e)
    obtain ⟨a, ha⟩ : ∃ a, more[i]? = some a := ⟨more[i], List.getElem?_eq_getElem hl1⟩
    have hcell := fun j v hj => (HMore.out.kept HWr.out (fun _ _ h => h)).cell b off rfl i a.row j v (by simp [ha]) hj
    have c0 : wr.cell? ⟨b, off + i * 5, none⟩ = some (.int .i64 a.kind) := hcell 0 _ rfl
    have c1 : wr.cell? ⟨b, off + i * 5 + 1, none⟩ = some (.int .i64 a.place) := hcell 1 _ rfl
    have c2 : wr.cell? ⟨b, off + i * 5 + 2, none⟩ = some (.int .i64 a.n) := hcell 2 _ rfl
    have c3 : wr.cell? ⟨b, off + i * 5 + 3, none⟩ = some (.int .i64 a.long) := hcell 3 _ rfl
    have c4 : wr.cell? ⟨b, off + i * 5 + 4, none⟩ = some a.kv := hcell 4 _ rfl
    have HOa := Lib.hid (HOk.out a (List.mem_of_getElem? ha))
    obtain ⟨oak, lk, ck, hkv⟩ : ∃ oak lk ck, a.kv = .slice oak lk ck := by obtain ⟨oak, ck, e, _⟩ := HOa.out.keep; exact ⟨_, _, _, e⟩
    rw [hkv] at c4
    obtain ⟨hk1, hk8⟩ := kOf_eq a
    have hkR : inR (kOf a : Int) := by constructor <;> omega
    have inR0 : inR 0 := by constructor <;> omega
    obtain ⟨hwc, hU1⟩ := HU.out.write hB8 (by have := HNn.out; omega) hk8 (bOf_len a)
    have HU1 := Lib.hid hU1
    clear hcell ha hkv hk8 hU1
    have hpw := place_wrap a.place
    have hpw2 : IntKind.i64.wrap (a.place.tmod 8 + 8) = a.place.tmod 8 + 8 := (IntWalk.i64_left _).trans hpw
    go_wp2_with fail
    obtain ⟨wa, hwa⟩ : ∃ wa, (wr.alloc (.cells #[.int .i64 a.kind, .int .i64 a.place, .int .i64 a.n, .int .i64 0, .slice oak lk ck] 66)).drew = wa := ⟨_, rfl⟩
    have hca : Chg (fun _ => False) wr wa := by subst hwa; exact ((Chg.refl _ _).alloc _).drew
    have hba : wa.heap[wr.heap.size]? = some (.cells #[.int .i64 a.kind, .int .i64 a.place, .int .i64 a.n, .int .i64 0, .slice oak lk ck] 66 (0, 0)) := by subst hwa; exact block_alloc_new _ _
    have hbox : ∀ (w' : World) (S : Nat → Prop), Chg S wa w' → ¬ S wr.heap.size → Box w' wr.heap.size a oak lk ck := fun w' S hc hn => by
      have h1 := hc.at hba hn
      exact ⟨cell_of_block h1 rfl, cell_of_block h1 rfl, cell_of_block h1 rfl, cell_of_block h1 rfl, cell_of_block h1 rfl⟩
    have hnF : ¬ F1 wr.heap.size := fun h => Nat.lt_irrefl _ (HD.out.lt _ h)
    have HCa := Lib.hid hca
    have HBox := Lib.hid hbox
    have HNF := Lib.hid hnF
    have hb0 := hbox wa _ (Chg.refl (fun _ => False) wa) id
    clear hca hba hbox hnF c0 c1 c2 c3 c4
    refine wp_region_noPanic ?_
    refine wp_region_held_drew (S := fun w' => Box w' wr.heap.size a oak lk ck) (by kernel_rfl) (by rw [hwa]; exact hb0) (fun hHeld => ?_)
    rw [hwa] at hHeld ⊢
    clear hwa hb0
    refine take_list (i := 0) (v := ?_) rfl (by kernel_rfl) (by kernel_rfl) (by kernel_rfl) (fun _ _ _ h => h) (Or.inl ⟨by rfl, fun w hSw => ?_⟩) hHeld ?_
    rotate_left
    · (obtain ⟨hSw1, hSw2, hSw3, hSw4, hSw5⟩ := hSw; go_simp)
      try with_reducible rfl
    simp only [Act.put, List.setIfInBounds_toArray, List.set_cons_zero, List.set_cons_succ]
    refine take_list (i := 1) (v := ?_) rfl (by kernel_rfl) (by kernel_rfl) (by kernel_rfl) (fun _ _ _ h => h) (Or.inl ⟨by rfl, fun w hSw => ?_⟩) hHeld ?_
    rotate_left
    · (obtain ⟨hSw1, hSw2, hSw3, hSw4, hSw5⟩ := hSw; go_simp)
      try with_reducible rfl
    simp only [Act.put, List.setIfInBounds_toArray, List.set_cons_zero, List.set_cons_succ]
    refine take_list (i := 2) (v := ?_) rfl (by kernel_rfl) (by kernel_rfl) (by kernel_rfl) (fun _ _ _ h => h) (Or.inl ⟨by rfl, fun w hSw => ?_⟩) hHeld ?_
    rotate_left
    · (obtain ⟨hSw1, hSw2, hSw3, hSw4, hSw5⟩ := hSw; go_simp)
      try with_reducible rfl
    simp only [Act.put, List.setIfInBounds_toArray, List.set_cons_zero, List.set_cons_succ]
    refine take_list (i := 3) (v := ?_) rfl (by kernel_rfl) (by kernel_rfl) (by kernel_rfl) (fun _ _ _ h => h) (Or.inl ⟨by rfl, fun w hSw => ?_⟩) hHeld ?_
    rotate_left
    · (obtain ⟨hSw1, hSw2, hSw3, hSw4, hSw5⟩ := hSw; go_simp)
      try with_reducible rfl
    simp only [Act.put, List.setIfInBounds_toArray, List.set_cons_zero, List.set_cons_succ]
    refine take_list (i := 4) (v := ?_) rfl (by kernel_rfl) (by kernel_rfl) (by kernel_rfl) (fun _ _ _ h => h) (Or.inl ⟨by rfl, fun w hSw => ?_⟩) hHeld ?_
    rotate_left
    · (obtain ⟨hSw1, hSw2, hSw3, hSw4, hSw5⟩ := hSw; go_simp)
      try with_reducible rfl
    simp only [Act.put, List.setIfInBounds_toArray, List.set_cons_zero, List.set_cons_succ]
    refine take_list (i := 5) (v := ?_) rfl (by kernel_rfl) (by kernel_rfl) (by kernel_rfl) (fun _ _ _ h => h) (Or.inl ⟨by rfl, fun w hSw => ?_⟩) hHeld ?_
    rotate_left
    · (obtain ⟨hSw1, hSw2, hSw3, hSw4, hSw5⟩ := hSw; go_simp)
      try with_reducible rfl
    simp only [Act.put, List.setIfInBounds_toArray, List.set_cons_zero, List.set_cons_succ]
    refine take_list (i := 6) (v := ?_) rfl (by kernel_rfl) (by kernel_rfl) (by kernel_rfl) (fun _ _ _ h => h) (Or.inl ⟨by rfl, fun w hSw => ?_⟩) hHeld ?_
    rotate_left
    · (obtain ⟨hSw1, hSw2, hSw3, hSw4, hSw5⟩ := hSw; go_simp)
      try with_reducible rfl
    simp only [Act.put, List.setIfInBounds_toArray, List.set_cons_zero, List.set_cons_succ]
    refine wpAnyH_ready (rs := [7]) (by kernel_rfl) (by simp) (one_list (i := 7) rfl (by rfl) (fun K hK => ?_) AllReadyH.nil)
    go_simp
    refine (bytesOf_any _ { a with long := 0, kv := .slice oak lk ck } HOa.out.n inR0).mono ?_
    rintro e w6 ⟨v1', rfl, hv6, hc6⟩
    have HV6 := Lib.hid hv6
    have HC6 := Lib.hid hc6
    clear hv6 hc6
    dsimp only
    refine hK _ _ (HBox.out _ _ HC6.out id) (fun hH2 => ?_)
    try simp only [Act.put, List.setIfInBounds_toArray, List.set_cons_zero, List.set_cons_succ]
    have hD6 := (HD.out.fresh HCa.out).fresh HC6.out
    have HD6 := Lib.hid hD6
    clear hD6
    refine wpAnyH_ready (rs := [8]) (by kernel_rfl) (by simp) (one_list (i := 8) rfl (by rfl) (fun K hK => ?_) AllReadyH.nil)
    go_simp
    refine (write_at _ HD6.out _ hkR HFx2.out (b := bOf a) HV6.out (fun g hg hF => Nat.not_lt.2 (HV6.out.lt g hg).1 ((HD.out.fresh HCa.out).lt g hF)) HLx.out).mono ?_
    rw [bOf_len, hwc]
    rintro e w7 ⟨rfl, hx7, hc7⟩
    have HD7 := Lib.hid hx7
    have HC7 := Lib.hid hc7
    clear hx7 hc7
    dsimp only
    refine hK _ _ (HBox.out w7 F1 ((HC6.out.mono (fun _ _ h => h.elim)).trans' HC7.out) HNF.out) (fun hH3 => ?_)
    try simp only [Act.put, List.setIfInBounds_toArray, List.set_cons_zero, List.set_cons_succ]
    refine take_list (i := 9) (v := ?_) rfl (by kernel_rfl) (by kernel_rfl) (by kernel_rfl) (fun _ _ _ h => h) (Or.inl ⟨by rfl, fun w hSw => ?_⟩) hH3 ?_
    rotate_left
    · (skip; go_simp)
      try with_reducible rfl
    simp only [Act.put, List.setIfInBounds_toArray, List.set_cons_zero, List.set_cons_succ]
    refine wpAnyH_done (by kernel_rfl) ?_ _
    refine NoPanic.normal ?_
    go_wp2_with fail
    have c46 : Chg (fun k => W.heap.size ≤ k ∧ k < w3.heap.size) w4 w6 := (HC.out.trans' (HCa.out.mono (fun _ _ h => h.elim))).trans' (HC6.out.mono (fun _ _ h => h.elim))
    refine ⟨⟨i + 1, by go_num, hl1, by omega, _, _, HD7.out, fun k hk => ?_, fun k hk => ?_, HU1.out, c46.trans HC7.out (fun k hk hF => ?_)⟩, by simp [intOf]; omega⟩
    · rcases hk with hk | hk
      · exact HO.out k hk
      · exact Nat.le_trans HWr.out.size (Nat.le_trans (Nat.le_trans HCa.out.size HC6.out.size) hk.1)
    · rcases hk with hk | hk
      · exact HT.out k hk
      · exact Or.inr (Nat.le_trans c46.size hk.1)
    · refine ⟨HO.out k hF, ?_⟩
      rcases HT.out k hF with h | h
      · exact h
      · exact absurd hk (Nat.not_lt.2 h)
  · rcases Nat.lt_or_ge i more.length with hl1 | hl1
    · have hd30 : decide ((i : Int) < 30) = false := by simp; omega
      have hl2 : (i : Int) < (more.length : Int) := by omega
      clear hl1 hlt
      go_wp2_with (first
        | (go_at_call 32; refine (crash_at _ HD.out (keep := []) (v := .slice none 0 0) ⟨none, 0, rfl, by simp, by simp⟩ (fun hne => absurd rfl hne) (by simp) HLx.out).mono ?_; rintro e w8 ⟨rfl, hx8, hc8⟩; have HD8 := Lib.hid hx8; have HC8 := Lib.hid hc8; clear hx8 hc8)
        | (go_at_call 31; refine (image_at _ HD8.out).mono ?_; rintro e w9 ⟨v2, rfl, hi2, hc9⟩
           have hB2 : (X2.crash []).B = B1 := (crash_nil_B X2 _).trans HU.out.B
           obtain ⟨oa2, cap2, hv2⟩ := hi2.sl
           rw [hB2] at hv2 hi2
           rw [hB8] at hv2
           subst hv2
           have c49 : Chg (fun k => W.heap.size ≤ k ∧ k < w3.heap.size) w4 w9 := (HC.out.trans HC8.out (fun k hk hF => ⟨HO.out k hF, by rcases HT.out k hF with h | h; exact h; exact absurd hk (Nat.not_lt.2 h)⟩)).trans' (hc9.mono (fun _ _ h => h.elim))
           have HI1 := Lib.hid (HI.out.kept c49 (fun k hk hs => Nat.not_lt.2 hk hs.2))
           have HI2 := Lib.hid hi2
           have HW9 := Lib.hid ((HW3.out.trans' HC4.out).new c49 (fun k hk => hk.1))
           clear hi2 hc9 c49 hB2))
      go_loopw [68] (fun j wr => ∃ k : Nat, j = .int .i64 k ∧ k ≤ 8 ∧ Chg (fun _ => False) w9 wr) (fun j _ => 8 - (intOf j).toNat)
      · exact ⟨0, rfl, Nat.zero_le _, Chg.refl _ _⟩
      obtain ⟨k, rfl, hk8, hcr⟩ := hrel
      have HCr := Lib.hid hcr
      clear hcr
      by_cases hlt : k < 8
      · obtain ⟨ga, ca, g1, e1, d1, x1⟩ := (HI1.out.kept HCr.out.drew (fun _ _ h => h)).get (i := k) (by rw [hB8]; exact hlt)
        obtain ⟨gb, cb, g2, e2, d2, x2⟩ := (HI2.out.kept HCr.out.drew (fun _ _ h => h)).get (i := k) (by rw [hB8]; exact hlt)
        simp only [Value.slice.injEq] at e1 e2
        obtain ⟨rfl, -, -⟩ := e1
        obtain ⟨rfl, -, -⟩ := e2
        obtain ⟨str, hstr⟩ : ∃ str : ByteArray, ByteArray.mk (B1[k]'(by rw [hB8]; exact hlt)).toArray = str := ⟨_, rfl⟩
        rw [hstr] at x1 x2
        have hki : (k : Int) < 8 := by omega
        clear hstr
        have X1' := Lib.hid x1
        have X2' := Lib.hid x2
        have D1 := Lib.hid d1
        have D2 := Lib.hid d2
        clear x1 x2 d1 d2
        go_wp2_with fail
        refine wp_region_noPanic ?_
        refine wp_region_held_drew (S := (fun w' => w'.cell? ⟨ga, k, none⟩ = some g1 ∧ (convert 68 9 g1).run Try.prog w' = .ok (.string str) w' ∧ w'.cell? ⟨gb, k, none⟩ = some g2 ∧ (convert 68 9 g2).run Try.prog w' = .ok (.string str) w')) (by kernel_rfl) (⟨D1.out, X1'.out, D2.out, X2'.out⟩) (fun hHeld => ?_)
        refine take_list (i := 0) (v := ?_) rfl (by kernel_rfl) (by kernel_rfl) (by kernel_rfl) (fun _ _ _ h => h) (Or.inl ⟨by rfl, fun w hSw => ?_⟩) hHeld ?_
        rotate_left
        · (obtain ⟨hSw1, hSw2, hSw3, hSw4⟩ := hSw; go_simp)
          try with_reducible rfl
        simp only [Act.put, List.setIfInBounds_toArray, List.set_cons_zero, List.set_cons_succ]
        refine take_list (i := 1) (v := ?_) rfl (by kernel_rfl) (by kernel_rfl) (by kernel_rfl) (fun _ _ _ h => h) (Or.inl ⟨by rfl, fun w hSw => ?_⟩) hHeld ?_
        rotate_left
        · (obtain ⟨hSw1, hSw2, hSw3, hSw4⟩ := hSw; go_simp)
          try with_reducible rfl
        simp only [Act.put, List.setIfInBounds_toArray, List.set_cons_zero, List.set_cons_succ]
        refine take_list (i := 2) (v := ?_) rfl (by kernel_rfl) (by kernel_rfl) (by kernel_rfl) (fun _ _ _ h => h) (Or.inl ⟨by rfl, fun w hSw => ?_⟩) hHeld ?_
        rotate_left
        · (obtain ⟨hSw1, hSw2, hSw3, hSw4⟩ := hSw; go_simp)
          try with_reducible rfl
        simp only [Act.put, List.setIfInBounds_toArray, List.set_cons_zero, List.set_cons_succ]
        refine take_list (i := 3) (v := ?_) rfl (by kernel_rfl) (by kernel_rfl) (by kernel_rfl) (fun _ _ _ h => h) (Or.inl ⟨by rfl, fun w hSw => ?_⟩) hHeld ?_
        rotate_left
        · (obtain ⟨hSw1, hSw2, hSw3, hSw4⟩ := hSw; go_simp)
          try with_reducible rfl
        simp only [Act.put, List.setIfInBounds_toArray, List.set_cons_zero, List.set_cons_succ]
        refine take_list (i := 4) (v := ?_) rfl (by kernel_rfl) (by kernel_rfl) (by kernel_rfl) (fun _ _ _ h => h) (Or.inl ⟨by rfl, fun w hSw => ?_⟩) hHeld ?_
        rotate_left
        · (obtain ⟨hSw1, hSw2, hSw3, hSw4⟩ := hSw; go_simp)
          try with_reducible rfl
        simp only [Act.put, List.setIfInBounds_toArray, List.set_cons_zero, List.set_cons_succ]
        refine take_list (i := 5) (v := ?_) rfl (by kernel_rfl) (by kernel_rfl) (by kernel_rfl) (fun _ _ _ h => h) (Or.inl ⟨by rfl, fun w hSw => ?_⟩) hHeld ?_
        rotate_left
        · (obtain ⟨hSw1, hSw2, hSw3, hSw4⟩ := hSw; go_simp)
          try with_reducible rfl
        simp only [Act.put, List.setIfInBounds_toArray, List.set_cons_zero, List.set_cons_succ]
        refine take_list (i := 6) (v := ?_) rfl (by kernel_rfl) (by kernel_rfl) (by kernel_rfl) (fun _ _ _ h => h) (Or.inl ⟨by rfl, fun w hSw => ?_⟩) hHeld ?_
        rotate_left
        · (obtain ⟨hSw1, hSw2, hSw3, hSw4⟩ := hSw; go_simp)
          try with_reducible rfl
        simp only [Act.put, List.setIfInBounds_toArray, List.set_cons_zero, List.set_cons_succ]
        refine take_list (i := 7) (v := ?_) rfl (by kernel_rfl) (by kernel_rfl) (by kernel_rfl) (fun _ _ _ h => h) (Or.inl ⟨by rfl, fun w hSw => ?_⟩) hHeld ?_
        rotate_left
        · (obtain ⟨hSw1, hSw2, hSw3, hSw4⟩ := hSw; go_simp)
          try with_reducible rfl
        simp only [Act.put, List.setIfInBounds_toArray, List.set_cons_zero, List.set_cons_succ]
        refine take_list (i := 8) (v := ?_) rfl (by kernel_rfl) (by kernel_rfl) (by kernel_rfl) (fun _ _ _ h => h) (Or.inl ⟨by rfl, fun w hSw => ?_⟩) hHeld ?_
        rotate_left
        · (obtain ⟨hSw1, hSw2, hSw3, hSw4⟩ := hSw; go_simp)
          try with_reducible rfl
        simp only [Act.put, List.setIfInBounds_toArray, List.set_cons_zero, List.set_cons_succ]
        refine take_list (i := 9) (v := ?_) rfl (by kernel_rfl) (by kernel_rfl) (by kernel_rfl) (fun _ _ _ h => h) (Or.inl ⟨by rfl, fun w hSw => ?_⟩) hHeld ?_
        rotate_left
        · (obtain ⟨hSw1, hSw2, hSw3, hSw4⟩ := hSw; go_simp)
          try with_reducible rfl
        simp only [Act.put, List.setIfInBounds_toArray, List.set_cons_zero, List.set_cons_succ]
        refine take_list (i := 10) (v := ?_) rfl (by kernel_rfl) (by kernel_rfl) (by kernel_rfl) (fun _ _ _ h => h) (Or.inl ⟨by rfl, fun w hSw => ?_⟩) hHeld ?_
        rotate_left
        · (obtain ⟨hSw1, hSw2, hSw3, hSw4⟩ := hSw; go_simp)
          try with_reducible rfl
        simp only [Act.put, List.setIfInBounds_toArray, List.set_cons_zero, List.set_cons_succ]
        refine take_list (i := 11) (v := ?_) rfl (by kernel_rfl) (by kernel_rfl) (by kernel_rfl) (fun _ _ _ h => h) (Or.inl ⟨by rfl, fun w hSw => ?_⟩) hHeld ?_
        rotate_left
        · (obtain ⟨hSw1, hSw2, hSw3, hSw4⟩ := hSw; go_simp)
          try with_reducible rfl
        simp only [Act.put, List.setIfInBounds_toArray, List.set_cons_zero, List.set_cons_succ]
        refine take_list (i := 12) (v := ?_) rfl (by kernel_rfl) (by kernel_rfl) (by kernel_rfl) (fun _ _ _ h => h) (Or.inl ⟨by rfl, fun w hSw => ?_⟩) hHeld ?_
        rotate_left
        · (obtain ⟨hSw1, hSw2, hSw3, hSw4⟩ := hSw; go_simp)
          try with_reducible rfl
        simp only [Act.put, List.setIfInBounds_toArray, List.set_cons_zero, List.set_cons_succ]
        refine take_list (i := 13) (v := ?_) rfl (by kernel_rfl) (by kernel_rfl) (by kernel_rfl) (fun _ _ _ h => h) (Or.inl ⟨by rfl, fun w hSw => ?_⟩) hHeld ?_
        rotate_left
        · (obtain ⟨hSw1, hSw2, hSw3, hSw4⟩ := hSw; go_simp)
          try with_reducible rfl
        simp only [Act.put, List.setIfInBounds_toArray, List.set_cons_zero, List.set_cons_succ]
        refine take_list (i := 14) (v := ?_) rfl (by kernel_rfl) (by kernel_rfl) (by kernel_rfl) (fun _ _ _ h => h) (Or.inl ⟨by rfl, fun w hSw => ?_⟩) hHeld ?_
        rotate_left
        · (obtain ⟨hSw1, hSw2, hSw3, hSw4⟩ := hSw; go_simp)
          try with_reducible rfl
        simp only [Act.put, List.setIfInBounds_toArray, List.set_cons_zero, List.set_cons_succ]
        refine take_list (i := 15) (v := ?_) rfl (by kernel_rfl) (by kernel_rfl) (by kernel_rfl) (fun _ _ _ h => h) (Or.inl ⟨by rfl, fun w hSw => ?_⟩) hHeld ?_
        rotate_left
        · (obtain ⟨hSw1, hSw2, hSw3, hSw4⟩ := hSw; go_simp)
          try with_reducible rfl
        simp only [Act.put, List.setIfInBounds_toArray, List.set_cons_zero, List.set_cons_succ]
        refine wpAnyH_done (by kernel_rfl) ?_ _
        refine NoPanic.normal ?_
        go_wp2_with fail
        exact ⟨⟨k + 1, by go_num, hlt, HCr.out.drew⟩, by simp [intOf]; omega⟩
      · have hki : ¬ (k : Int) < 8 := by omega
        go_wp2_with fail
        go_ret
        exact ⟨rfl, HW9.out.trans' HCr.out⟩
    · have hl2 : ¬ (i : Int) < (more.length : Int) := by omega
      clear hl1 hlt
      go_wp2_with (first
        | (go_at_call 32; refine (crash_at _ HD.out (keep := []) (v := .slice none 0 0) ⟨none, 0, rfl, by simp, by simp⟩ (fun hne => absurd rfl hne) (by simp) HLx.out).mono ?_; rintro e w8 ⟨rfl, hx8, hc8⟩; have HD8 := Lib.hid hx8; have HC8 := Lib.hid hc8; clear hx8 hc8)
        | (go_at_call 31; refine (image_at _ HD8.out).mono ?_; rintro e w9 ⟨v2, rfl, hi2, hc9⟩
           have hB2 : (X2.crash []).B = B1 := (crash_nil_B X2 _).trans HU.out.B
           obtain ⟨oa2, cap2, hv2⟩ := hi2.sl
           rw [hB2] at hv2 hi2
           rw [hB8] at hv2
           subst hv2
           have c49 : Chg (fun k => W.heap.size ≤ k ∧ k < w3.heap.size) w4 w9 := (HC.out.trans HC8.out (fun k hk hF => ⟨HO.out k hF, by rcases HT.out k hF with h | h; exact h; exact absurd hk (Nat.not_lt.2 h)⟩)).trans' (hc9.mono (fun _ _ h => h.elim))
           have HI1 := Lib.hid (HI.out.kept c49 (fun k hk hs => Nat.not_lt.2 hk hs.2))
           have HI2 := Lib.hid hi2
           have HW9 := Lib.hid ((HW3.out.trans' HC4.out).new c49 (fun k hk => hk.1))
           clear hi2 hc9 c49 hB2))
      go_loopw [68] (fun j wr => ∃ k : Nat, j = .int .i64 k ∧ k ≤ 8 ∧ Chg (fun _ => False) w9 wr) (fun j _ => 8 - (intOf j).toNat)
      · exact ⟨0, rfl, Nat.zero_le _, Chg.refl _ _⟩
      obtain ⟨k, rfl, hk8, hcr⟩ := hrel
      have HCr := Lib.hid hcr
      clear hcr
      by_cases hlt : k < 8
      · obtain ⟨ga, ca, g1, e1, d1, x1⟩ := (HI1.out.kept HCr.out.drew (fun _ _ h => h)).get (i := k) (by rw [hB8]; exact hlt)
        obtain ⟨gb, cb, g2, e2, d2, x2⟩ := (HI2.out.kept HCr.out.drew (fun _ _ h => h)).get (i := k) (by rw [hB8]; exact hlt)
        simp only [Value.slice.injEq] at e1 e2
        obtain ⟨rfl, -, -⟩ := e1
        obtain ⟨rfl, -, -⟩ := e2
        obtain ⟨str, hstr⟩ : ∃ str : ByteArray, ByteArray.mk (B1[k]'(by rw [hB8]; exact hlt)).toArray = str := ⟨_, rfl⟩
        rw [hstr] at x1 x2
        have hki : (k : Int) < 8 := by omega
        clear hstr
        have X1' := Lib.hid x1
        have X2' := Lib.hid x2
        have D1 := Lib.hid d1
        have D2 := Lib.hid d2
        clear x1 x2 d1 d2
        go_wp2_with fail
        refine wp_region_noPanic ?_
        refine wp_region_held_drew (S := (fun w' => w'.cell? ⟨ga, k, none⟩ = some g1 ∧ (convert 68 9 g1).run Try.prog w' = .ok (.string str) w' ∧ w'.cell? ⟨gb, k, none⟩ = some g2 ∧ (convert 68 9 g2).run Try.prog w' = .ok (.string str) w')) (by kernel_rfl) (⟨D1.out, X1'.out, D2.out, X2'.out⟩) (fun hHeld => ?_)
        refine take_list (i := 0) (v := ?_) rfl (by kernel_rfl) (by kernel_rfl) (by kernel_rfl) (fun _ _ _ h => h) (Or.inl ⟨by rfl, fun w hSw => ?_⟩) hHeld ?_
        rotate_left
        · (obtain ⟨hSw1, hSw2, hSw3, hSw4⟩ := hSw; go_simp)
          try with_reducible rfl
        simp only [Act.put, List.setIfInBounds_toArray, List.set_cons_zero, List.set_cons_succ]
        refine take_list (i := 1) (v := ?_) rfl (by kernel_rfl) (by kernel_rfl) (by kernel_rfl) (fun _ _ _ h => h) (Or.inl ⟨by rfl, fun w hSw => ?_⟩) hHeld ?_
        rotate_left
        · (obtain ⟨hSw1, hSw2, hSw3, hSw4⟩ := hSw; go_simp)
          try with_reducible rfl
        simp only [Act.put, List.setIfInBounds_toArray, List.set_cons_zero, List.set_cons_succ]
        refine take_list (i := 2) (v := ?_) rfl (by kernel_rfl) (by kernel_rfl) (by kernel_rfl) (fun _ _ _ h => h) (Or.inl ⟨by rfl, fun w hSw => ?_⟩) hHeld ?_
        rotate_left
        · (obtain ⟨hSw1, hSw2, hSw3, hSw4⟩ := hSw; go_simp)
          try with_reducible rfl
        simp only [Act.put, List.setIfInBounds_toArray, List.set_cons_zero, List.set_cons_succ]
        refine take_list (i := 3) (v := ?_) rfl (by kernel_rfl) (by kernel_rfl) (by kernel_rfl) (fun _ _ _ h => h) (Or.inl ⟨by rfl, fun w hSw => ?_⟩) hHeld ?_
        rotate_left
        · (obtain ⟨hSw1, hSw2, hSw3, hSw4⟩ := hSw; go_simp)
          try with_reducible rfl
        simp only [Act.put, List.setIfInBounds_toArray, List.set_cons_zero, List.set_cons_succ]
        refine take_list (i := 4) (v := ?_) rfl (by kernel_rfl) (by kernel_rfl) (by kernel_rfl) (fun _ _ _ h => h) (Or.inl ⟨by rfl, fun w hSw => ?_⟩) hHeld ?_
        rotate_left
        · (obtain ⟨hSw1, hSw2, hSw3, hSw4⟩ := hSw; go_simp)
          try with_reducible rfl
        simp only [Act.put, List.setIfInBounds_toArray, List.set_cons_zero, List.set_cons_succ]
        refine take_list (i := 5) (v := ?_) rfl (by kernel_rfl) (by kernel_rfl) (by kernel_rfl) (fun _ _ _ h => h) (Or.inl ⟨by rfl, fun w hSw => ?_⟩) hHeld ?_
        rotate_left
        · (obtain ⟨hSw1, hSw2, hSw3, hSw4⟩ := hSw; go_simp)
          try with_reducible rfl
        simp only [Act.put, List.setIfInBounds_toArray, List.set_cons_zero, List.set_cons_succ]
        refine take_list (i := 6) (v := ?_) rfl (by kernel_rfl) (by kernel_rfl) (by kernel_rfl) (fun _ _ _ h => h) (Or.inl ⟨by rfl, fun w hSw => ?_⟩) hHeld ?_
        rotate_left
        · (obtain ⟨hSw1, hSw2, hSw3, hSw4⟩ := hSw; go_simp)
          try with_reducible rfl
        simp only [Act.put, List.setIfInBounds_toArray, List.set_cons_zero, List.set_cons_succ]
        refine take_list (i := 7) (v := ?_) rfl (by kernel_rfl) (by kernel_rfl) (by kernel_rfl) (fun _ _ _ h => h) (Or.inl ⟨by rfl, fun w hSw => ?_⟩) hHeld ?_
        rotate_left
        · (obtain ⟨hSw1, hSw2, hSw3, hSw4⟩ := hSw; go_simp)
          try with_reducible rfl
        simp only [Act.put, List.setIfInBounds_toArray, List.set_cons_zero, List.set_cons_succ]
        refine take_list (i := 8) (v := ?_) rfl (by kernel_rfl) (by kernel_rfl) (by kernel_rfl) (fun _ _ _ h => h) (Or.inl ⟨by rfl, fun w hSw => ?_⟩) hHeld ?_
        rotate_left
        · (obtain ⟨hSw1, hSw2, hSw3, hSw4⟩ := hSw; go_simp)
          try with_reducible rfl
        simp only [Act.put, List.setIfInBounds_toArray, List.set_cons_zero, List.set_cons_succ]
        refine take_list (i := 9) (v := ?_) rfl (by kernel_rfl) (by kernel_rfl) (by kernel_rfl) (fun _ _ _ h => h) (Or.inl ⟨by rfl, fun w hSw => ?_⟩) hHeld ?_
        rotate_left
        · (obtain ⟨hSw1, hSw2, hSw3, hSw4⟩ := hSw; go_simp)
          try with_reducible rfl
        simp only [Act.put, List.setIfInBounds_toArray, List.set_cons_zero, List.set_cons_succ]
        refine take_list (i := 10) (v := ?_) rfl (by kernel_rfl) (by kernel_rfl) (by kernel_rfl) (fun _ _ _ h => h) (Or.inl ⟨by rfl, fun w hSw => ?_⟩) hHeld ?_
        rotate_left
        · (obtain ⟨hSw1, hSw2, hSw3, hSw4⟩ := hSw; go_simp)
          try with_reducible rfl
        simp only [Act.put, List.setIfInBounds_toArray, List.set_cons_zero, List.set_cons_succ]
        refine take_list (i := 11) (v := ?_) rfl (by kernel_rfl) (by kernel_rfl) (by kernel_rfl) (fun _ _ _ h => h) (Or.inl ⟨by rfl, fun w hSw => ?_⟩) hHeld ?_
        rotate_left
        · (obtain ⟨hSw1, hSw2, hSw3, hSw4⟩ := hSw; go_simp)
          try with_reducible rfl
        simp only [Act.put, List.setIfInBounds_toArray, List.set_cons_zero, List.set_cons_succ]
        refine take_list (i := 12) (v := ?_) rfl (by kernel_rfl) (by kernel_rfl) (by kernel_rfl) (fun _ _ _ h => h) (Or.inl ⟨by rfl, fun w hSw => ?_⟩) hHeld ?_
        rotate_left
        · (obtain ⟨hSw1, hSw2, hSw3, hSw4⟩ := hSw; go_simp)
          try with_reducible rfl
        simp only [Act.put, List.setIfInBounds_toArray, List.set_cons_zero, List.set_cons_succ]
        refine take_list (i := 13) (v := ?_) rfl (by kernel_rfl) (by kernel_rfl) (by kernel_rfl) (fun _ _ _ h => h) (Or.inl ⟨by rfl, fun w hSw => ?_⟩) hHeld ?_
        rotate_left
        · (obtain ⟨hSw1, hSw2, hSw3, hSw4⟩ := hSw; go_simp)
          try with_reducible rfl
        simp only [Act.put, List.setIfInBounds_toArray, List.set_cons_zero, List.set_cons_succ]
        refine take_list (i := 14) (v := ?_) rfl (by kernel_rfl) (by kernel_rfl) (by kernel_rfl) (fun _ _ _ h => h) (Or.inl ⟨by rfl, fun w hSw => ?_⟩) hHeld ?_
        rotate_left
        · (obtain ⟨hSw1, hSw2, hSw3, hSw4⟩ := hSw; go_simp)
          try with_reducible rfl
        simp only [Act.put, List.setIfInBounds_toArray, List.set_cons_zero, List.set_cons_succ]
        refine take_list (i := 15) (v := ?_) rfl (by kernel_rfl) (by kernel_rfl) (by kernel_rfl) (fun _ _ _ h => h) (Or.inl ⟨by rfl, fun w hSw => ?_⟩) hHeld ?_
        rotate_left
        · (obtain ⟨hSw1, hSw2, hSw3, hSw4⟩ := hSw; go_simp)
          try with_reducible rfl
        simp only [Act.put, List.setIfInBounds_toArray, List.set_cons_zero, List.set_cons_succ]
        refine wpAnyH_done (by kernel_rfl) ?_ _
        refine NoPanic.normal ?_
        go_wp2_with fail
        exact ⟨⟨k + 1, by go_num, hlt, HCr.out.drew⟩, by simp [intOf]; omega⟩
      · have hki : ¬ (k : Int) < 8 := by omega
        go_wp2_with fail
        go_ret
        exact ⟨rfl, HW9.out.trans' HCr.out⟩


set_option maxRecDepth 100000 in
theorem lifted (os : Os) (started : os.Started) (H : Type) (enc : TypeId × Value → H) :
    ReturnsInHanded {} Try.checked os 8 .any (Rows.diskFlushedSpec.pre6 enc Try.prog Try.f8 [] false) (Rows.diskFlushedSpec.post enc Try.prog Try.f8 false true false false) := by
  refine law_handed (C := Try.checked) (tb := 4) own started (by kernel_rfl) Try.func8
    (ChangeSpec.witness6 (enc := enc) (C := Try.checked) false ⟨#[], #[.slice none 0 0, .slice none 0 0, .slice none 0 0], []⟩ 8 (by kernel_rfl) (by kernel_rfl) (by kernel_rfl) (by kernel_rfl))
    laidOut (by rw [show Try.checked.prog = Try.prog from rfl, Try.params8]; intro t ht; simp at ht; (first | (rcases ht with rfl | rfl | rfl <;> exact ⟨by kernel_rfl, of_decide_eq_true (by kernel_rfl)⟩) | (rcases ht with rfl | rfl <;> exact ⟨by kernel_rfl, of_decide_eq_true (by kernel_rfl)⟩))) rfl rfl Try.underlying4 ?_ ?_
  · intro ds hds
    rw [Try.params8] at hds
    match ds, hds with
    | [_, _, _], _ => rfl
  · intro W base args ds before hval0 hA0 _ _
    have hval : ∀ (j : Nat) t v, Try.f8.params[j]? = some t → args[j]? = some v → Value.okWide Try.prog W .any base t v := hval0
    have hA : DataW.TrodAll enc Try.prog W 0 (fun _ => true) true Try.f8.params.toList args.toList ds before := hA0
    rw [Try.params8] at hA hval
    obtain ⟨v0, vs0, d0, ds0, p0, q0, hargs, rfl, rfl, h0, r0⟩ := trodAll_cons hA
    obtain ⟨v1, vs1, d1, ds1, p1, q1, rfl, rfl, rfl, h1, r1⟩ := trodAll_cons r0
    obtain ⟨v2, vs2, d2, ds2, p2, q2, rfl, rfl, rfl, h2, r2⟩ := trodAll_cons r1
    obtain ⟨rfl, rfl, rfl⟩ := trodAll_nil r2
    obtain rfl : args = #[v0, v1, v2] := by cases args; simp_all
    obtain ⟨oa0, l0, cap0, rfl, -, -, g0, ok0⟩ := open_acts (hval 0 54 v0 rfl rfl) h0
    obtain ⟨oa1, l1, cap1, rfl, -, -, g1, ok1⟩ := open_acts (hval 1 54 v1 rfl rfl) h1
    obtain ⟨zs2, s2, z2, -⟩ := open_ints (hval 2 41 v2 rfl rfl) h2
    exact walk W oa0 cap0 l0 g0 ok0 oa1 cap1 l1 g1 ok1 v2 zs2 s2 z2

theorem over : Rows.diskFlushedRow.holds Try.pinned (OpenSpec.ofChange Rows.diskFlushedSpec) :=
  OpenClaim.holds_of_wide 8 Try.f8 rfl rfl rfl rfl rfl rfl rfl ⟨rfl, rfl, rfl, rfl, rfl⟩ rfl rfl rfl rfl rfl (by kernel_rfl) Try.func8 (by kernel_rfl)
    (of_decide_eq_true (by kernel_rfl)) (by unfold Func.isWrapper; first | (rw [if_pos (by decide +kernel)]; kernel_rfl) | (rw [if_neg (by decide +kernel)]; exact ⟨rfl, rfl⟩))
    (fun os started H enc _ => lifted os started H enc)

theorem proved : Rows.DiskFlushedSaid := over
#print axioms proved


end Go.Proofs.Ytomceindibnpnaa.diskFlushed

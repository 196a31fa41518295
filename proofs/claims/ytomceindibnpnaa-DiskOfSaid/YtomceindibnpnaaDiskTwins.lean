/-
  DiskTwins, whole: for all acts and all later acts the law returns true and changes nothing that was there. No condition.
-/
import Derived.Test.YtomceindibnpnaaDiskKeepsLaw
import Derived.Test.YtomceindibnpnaaDiskCopy
import Derived.Test.YtomceindibnpnaaRows
namespace Go.Proofs.Ytomceindibnpnaa.diskTwins
open Go.ChangeShapes Go.WideShapes Go.ChangeAt Go.RowKit Go.My disks

set_option maxRecDepth 100000 in
set_option maxHeartbeats 1000000 in
/-- Two lists of waits that are one: 'waits' says so. -/
theorem waits_same (w : World) {b1 b2 : Nat} {v1 v2 : Value} {ws : List (Nat × Nat)} (h1 : OwnRecs w b1 114 2 v1 (ws.map encW)) (h2 : OwnRecs w b2 114 2 v2 (ws.map encW)) (hn : ws.length ≤ 4096) :
    Calls Try.prog 42 #[v1, v2] w fun e w' => e = .returned (.bool true) ∧ Chg (fun _ => False) w w' := by
  obtain ⟨oa1, cap1, rfl, -, -⟩ := h1.slice
  obtain ⟨oa2, cap2, rfl, -, -⟩ := h2.slice
  rw [List.length_map] at h1 h2 ⊢
  have H1 := Lib.hid h1
  have H2 := Lib.hid h2
  clear h1 h2
  go_enter Try.func42, Try.ntmps42
  go_wp2_with fail
  go_loopw [13] (fun j wr => ∃ k : Nat, j = .int .i64 k ∧ k ≤ ws.length ∧ Chg (fun _ => False) w wr) (fun j _ => ws.length - (intOf j).toNat)
  · exact ⟨0, rfl, Nat.zero_le _, Chg.refl _ _⟩
  obtain ⟨k, rfl, hk, hc⟩ := hrel
  have HC := Lib.hid hc
  clear hc
  by_cases hlt : k < ws.length
  · have hki : (k : Int) < (ws.length : Int) := by omega
    obtain ⟨g1, e1, -, -, hc1, -⟩ := (H1.out.kept HC.out.drew (fun _ _ h => h)).cell' (k := k) (by simpa using hlt)
    obtain ⟨g2, e2, -, -, hc2, -⟩ := (H2.out.kept HC.out.drew (fun _ _ h => h)).cell' (k := k) (by simpa using hlt)
    subst e1
    subst e2
    obtain ⟨a, hA⟩ : ∃ a, a = ((ws[k].1 % 4096 : Nat) : Int) := ⟨_, rfl⟩
    obtain ⟨b, hB⟩ : ∃ b, b = ((ws[k].2 : Nat) : Int) := ⟨_, rfl⟩
    have hrec : (ws.map encW)[k]'(by simpa using hlt) = [.int .i64 a, .int .i64 b] := by rw [List.getElem_map, encW, hA, hB]
    rw [hrec] at hc1 hc2
    have d0 := hc1 0 _ rfl
    have d1 := hc1 1 _ rfl
    have d2 := hc2 0 _ rfl
    have d3 := hc2 1 _ rfl
    have D0 := Lib.hid d0
    have D1 := Lib.hid d1
    have D2 := Lib.hid d2
    have D3 := Lib.hid d3
    clear hc1 hc2 hrec d0 d1 d2 d3 hA hB
    go_wp2_with fail
    refine wp_region_noPanic ?_
    refine wp_region_held_drew (S := (fun w' => w'.cell? ⟨g1, k * 2, none⟩ = some (.int .i64 a) ∧ w'.cell? ⟨g1, k * 2 + 1, none⟩ = some (.int .i64 b) ∧ w'.cell? ⟨g2, k * 2, none⟩ = some (.int .i64 a) ∧ w'.cell? ⟨g2, k * 2 + 1, none⟩ = some (.int .i64 b))) (by kernel_rfl) (⟨D0.out, D1.out, D2.out, D3.out⟩) (fun hHeld => ?_)
    refine take_list (i := 0) (v := ?_) rfl (by kernel_rfl) (by kernel_rfl) (by kernel_rfl) (fun _ _ _ h => h) (Or.inl ⟨by rfl, fun w hSw => ?_⟩) hHeld ?_
    rotate_left
    · (obtain ⟨hSw1, hSw2, hSw3, hSw4⟩ := hSw; go_simp)
      try with_reducible rfl
    simp only [Act.put, List.setIfInBounds_toArray, List.set_cons_zero, List.set_cons_succ]
    refine take_list (i := 1) (v := ?_) rfl (by kernel_rfl) (by kernel_rfl) (by kernel_rfl) (fun _ _ _ h => h) (Or.inl ⟨by rfl, fun w hSw => ?_⟩) hHeld ?_
    rotate_left
    · (obtain ⟨hSw1, hSw2, hSw3, hSw4⟩ := hSw; go_simp)
      try with_reducible rfl
    simp only [Act.put, List.setIfInBounds_toArray, List.set_cons_zero, List.set_cons_succ]
    refine take_list (i := 2) (v := ?_) rfl (by kernel_rfl) (by kernel_rfl) (by kernel_rfl) (fun _ _ _ h => h) (Or.inl ⟨by rfl, fun w hSw => ?_⟩) hHeld ?_
    rotate_left
    · (obtain ⟨hSw1, hSw2, hSw3, hSw4⟩ := hSw; go_simp)
      try with_reducible rfl
    simp only [Act.put, List.setIfInBounds_toArray, List.set_cons_zero, List.set_cons_succ]
    refine take_list (i := 3) (v := ?_) rfl (by kernel_rfl) (by kernel_rfl) (by kernel_rfl) (fun _ _ _ h => h) (Or.inl ⟨by rfl, fun w hSw => ?_⟩) hHeld ?_
    rotate_left
    · (obtain ⟨hSw1, hSw2, hSw3, hSw4⟩ := hSw; go_simp)
      try with_reducible rfl
    simp only [Act.put, List.setIfInBounds_toArray, List.set_cons_zero, List.set_cons_succ]
    refine take_list (i := 4) (v := ?_) rfl (by kernel_rfl) (by kernel_rfl) (by kernel_rfl) (fun _ _ _ h => h) (Or.inl ⟨by rfl, fun w hSw => ?_⟩) hHeld ?_
    rotate_left
    · (obtain ⟨hSw1, hSw2, hSw3, hSw4⟩ := hSw; go_simp)
      try with_reducible rfl
    simp only [Act.put, List.setIfInBounds_toArray, List.set_cons_zero, List.set_cons_succ]
    refine take_list (i := 5) (v := ?_) rfl (by kernel_rfl) (by kernel_rfl) (by kernel_rfl) (fun _ _ _ h => h) (Or.inl ⟨by rfl, fun w hSw => ?_⟩) hHeld ?_
    rotate_left
    · (obtain ⟨hSw1, hSw2, hSw3, hSw4⟩ := hSw; go_simp)
      try with_reducible rfl
    simp only [Act.put, List.setIfInBounds_toArray, List.set_cons_zero, List.set_cons_succ]
    refine take_list (i := 6) (v := ?_) rfl (by kernel_rfl) (by kernel_rfl) (by kernel_rfl) (fun _ _ _ h => h) (Or.inl ⟨by rfl, fun w hSw => ?_⟩) hHeld ?_
    rotate_left
    · (obtain ⟨hSw1, hSw2, hSw3, hSw4⟩ := hSw; go_simp)
      try with_reducible rfl
    simp only [Act.put, List.setIfInBounds_toArray, List.set_cons_zero, List.set_cons_succ]
    refine take_list (i := 7) (v := ?_) rfl (by kernel_rfl) (by kernel_rfl) (by kernel_rfl) (fun _ _ _ h => h) (Or.inl ⟨by rfl, fun w hSw => ?_⟩) hHeld ?_
    rotate_left
    · (obtain ⟨hSw1, hSw2, hSw3, hSw4⟩ := hSw; go_simp)
      try with_reducible rfl
    simp only [Act.put, List.setIfInBounds_toArray, List.set_cons_zero, List.set_cons_succ]
    refine take_list (i := 8) (v := ?_) rfl (by kernel_rfl) (by kernel_rfl) (by kernel_rfl) (fun _ _ _ h => h) (Or.inl ⟨by rfl, fun w hSw => ?_⟩) hHeld ?_
    rotate_left
    · (obtain ⟨hSw1, hSw2, hSw3, hSw4⟩ := hSw; go_simp)
      try with_reducible rfl
    simp only [Act.put, List.setIfInBounds_toArray, List.set_cons_zero, List.set_cons_succ]
    refine wpAnyH_done (by kernel_rfl) ?_ _
    refine NoPanic.normal ?_
    go_wp2_with fail
    exact ⟨⟨k + 1, by go_num, hlt, HC.out.drew⟩, meas_step hlt⟩
  · have hki : ¬ (k : Int) < (ws.length : Int) := by omega
    go_wp2_with fail
    go_ret
    exact ⟨rfl, HC.out⟩

/-- A disk that is up, without a fuse, of eight blocks. -/
structure Ok (n : Nat) (X : DV) : Prop where
  len : X.B.length = 8
  down : X.down = false
  fuse : X.fuse = -1
  done : 0 ≤ X.done ∧ X.done ≤ n
  Ls : ∀ j, (X.L j).length ≤ n

theorem burn_ok {X : DV} {n : Nat} (h : Ok n X) (hn : n < 1000) : X.burn = { X with done := X.done + 1 } := by
  have hf := h.fuse
  have hd := h.done
  rw [burn_of (by rw [hf]; omega), if_neg (by rw [hf]; omega), disks.wrap_small (by omega) (by omega)]

theorem Ok.write {n : Nat} {X : DV} (h : Ok n X) (hn : n < 1000) {k : Nat} (hk : k < 8) {b : Blk} (hb : b.length = 64) : Ok (n + 1) (X.write k b) := by
  have hl := h.len
  have ha : askedC X (k : Int) = 0 := by simp [askedC, h.down, hl]; omega
  have hf := h.fuse
  have hd := h.done
  rw [DV.write, if_neg (by simp [ha, hb]), if_neg (by rw [hf]; omega), burn_ok h hn, Int.toNat_natCast]
  refine ⟨h.len, h.down, h.fuse, ⟨by show 0 ≤ X.done + 1; omega, by show X.done + 1 ≤ _; omega⟩, fun j => ?_⟩
  have := h.Ls j
  show (if j = k then X.L j ++ [b] else X.L j).length ≤ _
  split
  · simp; omega
  · omega

theorem Ok.flush {n : Nat} {X : DV} (h : Ok n X) (hn : n < 1000) : Ok (n + 1) X.flush := by
  have hf := h.fuse
  have hd := h.done
  have hl := h.len
  rw [DV.flush, if_neg (by simp [h.down]), if_neg (by rw [hf]; omega), burn_ok h hn]
  exact ⟨by simp [DV.all, hl], h.down, h.fuse, ⟨by show 0 ≤ X.done + 1; omega, by show X.done + 1 ≤ _; omega⟩, fun j => by simp [DV.all]⟩

theorem Ok.crash {n : Nat} {X : DV} (h : Ok n X) (keep : List Int) : Ok n (X.crash keep) :=
  ⟨by rw [crash_len]; exact h.len, rfl, rfl, by rw [crash_done]; exact h.done, fun j => Nat.le_trans (crash_L_le X keep j) (h.Ls j)⟩

theorem Ok.more {n m : Nat} {X : DV} (h : Ok n X) (hm : n ≤ m) : Ok m X := by
  have := h.done
  exact ⟨h.len, h.down, h.fuse, by omega, fun j => Nat.le_trans (h.Ls j) hm⟩

theorem copy_at {w : World} {d : Nat} {F : Nat → Prop} {X : DV} (h : DiskAt w d F X) (hL : ∀ j, (X.L j).length < 1000000) :
    Calls Try.prog 41 #[.pointer (some ⟨d, 0, none⟩)] w fun e w' => ∃ c, e = .returned (.pointer (some ⟨c, 0, none⟩)) ∧ DiskAt w' c (born w w') X ∧ Chg (fun _ => False) w w' := by
  obtain ⟨bv, q, m, h⟩ := h
  exact copy_any w h hL

/-- Two arrays made, then stored into. -/
theorem two_arrs (w1 : World) {al ls : List Value} (ha : al.length = 8) (hl : ls.length = 8) {wX : World} (hX : wX = (w1.alloc (.cells #[.string ⟨#[]⟩, .string ⟨#[]⟩, .string ⟨#[]⟩, .string ⟨#[]⟩, .string ⟨#[]⟩, .string ⟨#[]⟩, .string ⟨#[]⟩, .string ⟨#[]⟩] 56)).alloc (.cells #[.slice none 0 0, .slice none 0 0, .slice none 0 0, .slice none 0 0, .slice none 0 0, .slice none 0 0, .slice none 0 0, .slice none 0 0] 58)) :
    wX.there w1.heap.size 0 al.length ∧ (wX.setCells w1.heap.size 0 al).there (w1.heap.size + 1) 0 ls.length ∧ Chg (fun _ => False) w1 ((wX.setCells w1.heap.size 0 al).setCells (w1.heap.size + 1) 0 ls) ∧
      Arr ((wX.setCells w1.heap.size 0 al).setCells (w1.heap.size + 1) 0 ls) w1.heap.size 56 al ∧ Arr ((wX.setCells w1.heap.size 0 al).setCells (w1.heap.size + 1) 0 ls) (w1.heap.size + 1) 58 ls := by
  have a1 : Arr wX w1.heap.size 56 (List.replicate 8 (.string ⟨#[]⟩)) := by
    subst hX; unfold Arr; simp only [heap_alloc_get, World.size_alloc]; rw [if_neg (by omega), if_pos trivial]; rfl
  have a2 : Arr wX (w1.heap.size + 1) 58 (List.replicate 8 nilS) := by
    subst hX; unfold Arr; simp only [heap_alloc_get, World.size_alloc]; rw [if_pos trivial]; rfl
  have cX : Chg (fun _ => False) w1 wX := by subst hX; exact ((Chg.refl _ _).alloc _).alloc _
  have c1 := chg_setCells w1.heap.size al 0 wX
  have c2 := chg_setCells (w1.heap.size + 1) ls 0 (wX.setCells w1.heap.size 0 al)
  have b1 := a1.all (vs := al) (by simp [ha])
  have b2 := a2.kept c1 (by omega)
  refine ⟨?_, ?_, (cX.new c1 (fun k e => by omega)).new c2 (fun k e => by omega), b1.kept c2 (by omega), b2.all (by simp [hl])⟩
  · have := a1.there; rw [List.length_replicate] at this; rw [ha]; exact this
  · have := b2.there; rw [List.length_replicate] at this; rw [hl]; exact this

theorem bg_ls_one {W w : World} {F : Nat → Prop} {d n : Nat} {X : DV} {ls : List Value} (h : BgOut W w F d X ls n) : ∀ x ∈ ls, x.oneCell' = true := by
  intro x hx
  obtain ⟨j, hj⟩ := List.getElem?_of_mem hx
  obtain ⟨oax, cx, e⟩ := own_slice (h.each j x hj)
  rw [e]; rfl

/-- The box of an act, cell by cell. -/
def Box (w : World) (g : Nat) (a : DAct) (oak : Option Addr) (lk ck : Nat) : Prop :=
  w.cell? ⟨g, 0, none⟩ = some (.int .i64 a.kind) ∧ w.cell? ⟨g, 1, none⟩ = some (.int .i64 a.place) ∧ w.cell? ⟨g, 2, none⟩ = some (.int .i64 a.n) ∧ w.cell? ⟨g, 3, none⟩ = some (.int .i64 0) ∧ w.cell? ⟨g, 4, none⟩ = some (.slice oak lk ck)



set_option maxRecDepth 100000 in
set_option maxHeartbeats 4000000 in
theorem walk (W : World) (oa : Option Addr) (cap : Nat) (acts : List DAct) (hacts : RowsAt W 5 oa (acts.map DAct.row)) (hok : ∀ a ∈ acts, a.ok W) (oa1 : Option Addr) (cap1 : Nat) (more : List DAct) (hmore : RowsAt W 5 oa1 (more.map DAct.row)) (hok1 : ∀ a ∈ more, a.ok W) :
    Calls Try.prog 11 #[.slice oa acts.length cap, .slice oa1 more.length cap1] W fun e w' => e = .returned (.bool true) ∧ Chg (fun _ => False) W w' := by
  have HMore := Lib.hid hmore
  have HOk := Lib.hid hok1
  have hbeg := begun_any W oa cap acts hacts hok
  have HBeg := Lib.hid hbeg
  clear hmore hok1 hacts hok hbeg
  go_enter Try.func11, Try.ntmps11
  go_wp2_with (first
    | (go_at_call 29; refine HBeg.out.mono ?_; rintro e w1 ⟨d, F, X, ls, n, rfl, hB, hn⟩
       have HB := Lib.hid hB
       have HNn := Lib.hid hn
       obtain ⟨al, hal⟩ : ∃ al, X.B.map strV = al := ⟨_, rfl⟩
       have hall : al.length = 8 := by rw [← hal, List.length_map]; exact hB.len
       rw [hal]
       have HTA := Lib.hid (two_arrs w1 hall hB.ll rfl)
       have HSz1 := Lib.hid (show (Try.prog.info? 56).map (·.size) = some al.toArray.size from by rw [List.size_toArray, hall]; exact size_s8)
       have HSz2 := Lib.hid (show (Try.prog.info? 58).map (·.size) = some ls.toArray.size from by rw [List.size_toArray, hB.ll]; exact size_ss8)
       have HO1 := Lib.hid (show al.toArray.all (·.oneCell') = true from all_oneCell_toArray (by rw [← hal]; exact one_map' _ trivial))
       have HO2 := Lib.hid (show ls.toArray.all (·.oneCell') = true from all_oneCell_toArray (bg_ls_one hB))
       clear hB hal hall hn)
    | (refine wpList_store_mid rfl 56 _ _ rfl w1.heap.size 0 al.toArray rfl rfl (by rw [List.size_toArray]; exact HTA.out.1) HSz1.out HO1.out ?_; rw [List.toList_toArray])
    | (refine wpList_store_mid rfl 58 _ _ rfl (w1.heap.size + 1) 0 ls.toArray rfl rfl (by rw [List.size_toArray]; exact HTA.out.2.1) HSz2.out HO2.out ?_; rw [List.toList_toArray]
       obtain ⟨w2, hw2⟩ : ∃ w2, (((w1.alloc (.cells #[.string ⟨#[]⟩, .string ⟨#[]⟩, .string ⟨#[]⟩, .string ⟨#[]⟩, .string ⟨#[]⟩, .string ⟨#[]⟩, .string ⟨#[]⟩, .string ⟨#[]⟩] 56)).alloc (.cells #[.slice none 0 0, .slice none 0 0, .slice none 0 0, .slice none 0 0, .slice none 0 0, .slice none 0 0, .slice none 0 0, .slice none 0 0] 58)).setCells w1.heap.size 0 al).setCells (w1.heap.size + 1) 0 ls = w2 := ⟨_, rfl⟩
       rw [hw2]
       have HC2 := Lib.hid (show Chg (fun _ => False) w1 w2 from by rw [← hw2]; exact HTA.out.2.2.1)
       clear hw2))
  have hLx : ∀ j, (X.L j).length < 1000000 := fun j => by have := HB.out.Ls j; have := HNn.out; omega
  have HLx := Lib.hid hLx
  have hW2 : Chg (fun _ => False) W w2 := HB.out.chg.trans' HC2.out
  have HW2 := Lib.hid hW2
  have HD2 := Lib.hid (HB.out.disk.fresh HC2.out)
  have hX8 := HB.out.len
  have hXd := HB.out.down
  have hwl : (waitsOf X).length ≤ 4096 := by have := waitsOf_len X; omega
  have HWl := Lib.hid hwl
  have hok0 : Ok 60 X := ⟨hX8, hXd, HB.out.fuse, by have := HB.out.done; have := HNn.out; omega, fun j => Nat.le_trans (HB.out.Ls j) HNn.out⟩
  have HOk0 := Lib.hid hok0
  clear hLx hW2 hwl hok0
  refine (copy_at HD2.out HLx.out).mono ?_
  rintro e w3 ⟨c, rfl, hcD, hc3⟩
  have HCD := Lib.hid hcD
  have HC3 := Lib.hid hc3
  clear hcD hc3
  go_wp2_with (first
    | (go_at_call 31; refine (image_at _ (HD2.out.fresh HC3.out)).mono ?_; rintro e w4 ⟨v1, rfl, hi1, hc4⟩; obtain ⟨oai, capi, hv1⟩ := hi1.sl; rw [hX8] at hv1; subst hv1; have HI := Lib.hid hi1; have HC4 := Lib.hid hc4; clear hi1 hc4)
    | (go_at_call 36; refine (waiting_at _ ((HD2.out.fresh HC3.out).fresh HC4.out)).mono ?_; rintro e w5 ⟨vW, rfl, hvW, hc5⟩; have HVW := Lib.hid hvW; have HC5 := Lib.hid hc5; clear hvW hc5))
  go_loopw [12] (fun j wr => ∃ i : Nat, j = .int .i64 i ∧ i ≤ more.length ∧ i ≤ 20 ∧ ∃ Fc Y, DiskAt wr c Fc Y ∧ (∀ k, Fc k → (w2.heap.size ≤ k ∧ k < w3.heap.size) ∨ w5.heap.size ≤ k) ∧ Ok (60 + 2 * i) Y ∧ Chg (fun k => w2.heap.size ≤ k ∧ k < w3.heap.size) w5 wr) (fun j _ => 20 - (intOf j).toNat)
  · exact ⟨0, rfl, Nat.zero_le _, by omega, _, X, (HCD.out.fresh HC4.out).fresh HC5.out, fun k hk => Or.inl hk, HOk0.out, Chg.refl _ _⟩
  obtain ⟨i, rfl, hil, hi20, Fc, Y, hD, hT, hU, hC⟩ := hrel
  have HD := Lib.hid hD
  have HT := Lib.hid hT
  have HU := Lib.hid hU
  have HC := Lib.hid hC
  clear hD hT hU hC
  have hWr : Chg (fun _ => False) W wr := (((HW2.out.trans' HC3.out).trans' HC4.out).trans' HC5.out).new HC.out (fun k hk => Nat.le_trans HW2.out.size hk.1)
  have HWr := Lib.hid hWr
  have hLy : ∀ j, (Y.L j).length < 1000000 := fun j => by have := HU.out.Ls j; omega
  have HLy := Lib.hid hLy
  have hfy : Y.fuse ≤ 9223372036854775807 := by rw [HU.out.fuse]; omega
  have HFy := Lib.hid hfy
  clear hWr hLy hfy
  by_cases hlt : i < more.length ∧ i < 20
  · obtain ⟨hl1, hl2⟩ := hlt
    have hd20 : decide ((i : Int) < 20) = true := by simp; omega
    obtain ⟨b, off, rfl⟩ := HMore.out.spot (by intro e; cases more with | nil => simp at hl1 | cons => simp at e)
    obtain ⟨a, ha⟩ : ∃ a, more[i]? = some a := ⟨more[i], List.getElem?_eq_getElem hl1⟩
    have hcell := fun j v hj => (HMore.out.kept HWr.out (fun _ _ h => h)).cell b off rfl i a.row j v (by simp [ha]) hj
    have c0 : wr.cell? ⟨b, off + i * 5, none⟩ = some (.int .i64 a.kind) := hcell 0 _ rfl
    have c1 : wr.cell? ⟨b, off + i * 5 + 1, none⟩ = some (.int .i64 a.place) := hcell 1 _ rfl
    have c2 : wr.cell? ⟨b, off + i * 5 + 2, none⟩ = some (.int .i64 a.n) := hcell 2 _ rfl
    have c3 : wr.cell? ⟨b, off + i * 5 + 3, none⟩ = some (.int .i64 a.long) := hcell 3 _ rfl
    have c4 : wr.cell? ⟨b, off + i * 5 + 4, none⟩ = some a.kv := hcell 4 _ rfl
    have HOa := Lib.hid (HOk.out a (List.mem_of_getElem? ha))
    obtain ⟨oak, lk, ck, hkv⟩ : ∃ oak lk ck, a.kv = .slice oak lk ck := by obtain ⟨oak, ck, e, _⟩ := HOa.out.keep; exact ⟨_, _, _, e⟩
    rw [hkv] at c4
    have HKv := Lib.hid hkv
    obtain ⟨hk1, hk8⟩ := kOf_eq a
    have hkR : inR (kOf a : Int) := by constructor <;> omega
    have inR0 : inR 0 := by constructor <;> omega
    have hU1 := HU.out.write (by omega) hk8 (bOf_len a)
    have HU1 := Lib.hid hU1
    clear hcell ha hkv hk8 hU1
    have hpw := place_wrap' a.place
    have hpw2 : IntKind.i64.wrap (a.place.tmod 8 + 8) = a.place.tmod 8 + 8 := (IntWalk.i64_left _).trans hpw
    go_wp2_with fail
    obtain ⟨wa, hwa⟩ : ∃ wa, (wr.alloc (.cells #[.int .i64 a.kind, .int .i64 a.place, .int .i64 a.n, .int .i64 0, .slice oak lk ck] 66)).drew = wa := ⟨_, rfl⟩
    have hca : Chg (fun _ => False) wr wa := by subst hwa; exact ((Chg.refl _ _).alloc _).drew
    have hba : wa.heap[wr.heap.size]? = some (.cells #[.int .i64 a.kind, .int .i64 a.place, .int .i64 a.n, .int .i64 0, .slice oak lk ck] 66 (0, 0)) := by subst hwa; exact block_alloc_new _ _
    have hbox : ∀ (w' : World) (S : Nat → Prop), Chg S wa w' → ¬ S wr.heap.size → Box w' wr.heap.size a oak lk ck := fun w' S hc hn => by
      have h1 := hc.at hba hn
      exact ⟨cell_of_block h1 rfl, cell_of_block h1 rfl, cell_of_block h1 rfl, cell_of_block h1 rfl, cell_of_block h1 rfl⟩
    have hnF : ¬ Fc wr.heap.size := fun h => Nat.lt_irrefl _ (HD.out.lt _ h)
    have HCa := Lib.hid hca
    have HBox := Lib.hid hbox
    have HNF := Lib.hid hnF
    have hb0 := hbox wa _ (Chg.refl (fun _ => False) wa) id
    clear hca hba hbox hnF c0 c1 c2 c3 c4
    refine wp_region_noPanic ?_
    refine wp_region_held_drew (S := fun w' => Box w' wr.heap.size a oak lk ck) (by kernel_rfl) (by rw [hwa]; exact hb0) (fun hHeld => ?_)
    rw [hwa] at hHeld ⊢
    clear hwa hb0
    refine take_list (i := 0) (v := ?_) rfl (by kernel_rfl) (by kernel_rfl) (by kernel_rfl) (fun _ _ _ h => h) (Or.inl ⟨by rfl, fun w hSw => ?_⟩) hHeld ?_
    rotate_left
    · (obtain ⟨hSw1, hSw2, hSw3, hSw4, hSw5⟩ := hSw; go_simp)
      try with_reducible rfl
    simp only [Act.put, List.setIfInBounds_toArray, List.set_cons_zero, List.set_cons_succ]
    refine take_list (i := 1) (v := ?_) rfl (by kernel_rfl) (by kernel_rfl) (by kernel_rfl) (fun _ _ _ h => h) (Or.inl ⟨by rfl, fun w hSw => ?_⟩) hHeld ?_
    rotate_left
    · (obtain ⟨hSw1, hSw2, hSw3, hSw4, hSw5⟩ := hSw; go_simp)
      try with_reducible rfl
    simp only [Act.put, List.setIfInBounds_toArray, List.set_cons_zero, List.set_cons_succ]
    refine take_list (i := 2) (v := ?_) rfl (by kernel_rfl) (by kernel_rfl) (by kernel_rfl) (fun _ _ _ h => h) (Or.inl ⟨by rfl, fun w hSw => ?_⟩) hHeld ?_
    rotate_left
    · (obtain ⟨hSw1, hSw2, hSw3, hSw4, hSw5⟩ := hSw; go_simp)
      try with_reducible rfl
    simp only [Act.put, List.setIfInBounds_toArray, List.set_cons_zero, List.set_cons_succ]
    refine take_list (i := 3) (v := ?_) rfl (by kernel_rfl) (by kernel_rfl) (by kernel_rfl) (fun _ _ _ h => h) (Or.inl ⟨by rfl, fun w hSw => ?_⟩) hHeld ?_
    rotate_left
    · (obtain ⟨hSw1, hSw2, hSw3, hSw4, hSw5⟩ := hSw; go_simp)
      try with_reducible rfl
    simp only [Act.put, List.setIfInBounds_toArray, List.set_cons_zero, List.set_cons_succ]
    refine take_list (i := 4) (v := ?_) rfl (by kernel_rfl) (by kernel_rfl) (by kernel_rfl) (fun _ _ _ h => h) (Or.inl ⟨by rfl, fun w hSw => ?_⟩) hHeld ?_
    rotate_left
    · (obtain ⟨hSw1, hSw2, hSw3, hSw4, hSw5⟩ := hSw; go_simp)
      try with_reducible rfl
    simp only [Act.put, List.setIfInBounds_toArray, List.set_cons_zero, List.set_cons_succ]
    refine take_list (i := 5) (v := ?_) rfl (by kernel_rfl) (by kernel_rfl) (by kernel_rfl) (fun _ _ _ h => h) (Or.inl ⟨by rfl, fun w hSw => ?_⟩) hHeld ?_
    rotate_left
    · (obtain ⟨hSw1, hSw2, hSw3, hSw4, hSw5⟩ := hSw; go_simp)
      try with_reducible rfl
    simp only [Act.put, List.setIfInBounds_toArray, List.set_cons_zero, List.set_cons_succ]
    refine take_list (i := 6) (v := ?_) rfl (by kernel_rfl) (by kernel_rfl) (by kernel_rfl) (fun _ _ _ h => h) (Or.inl ⟨by rfl, fun w hSw => ?_⟩) hHeld ?_
    rotate_left
    · (obtain ⟨hSw1, hSw2, hSw3, hSw4, hSw5⟩ := hSw; go_simp)
      try with_reducible rfl
    simp only [Act.put, List.setIfInBounds_toArray, List.set_cons_zero, List.set_cons_succ]
    refine wpAnyH_ready (rs := [7]) (by kernel_rfl) (by simp) (one_list (i := 7) rfl (by rfl) (fun K hK => ?_) AllReadyH.nil)
    go_simp
    refine (bytesOf_any _ { a with long := 0, kv := .slice oak lk ck } HOa.out.n inR0).mono ?_
    rintro e w6 ⟨v1', rfl, hv6, hc6⟩
    have HV6 := Lib.hid hv6
    have HC6 := Lib.hid hc6
    clear hv6 hc6
    dsimp only
    refine hK _ _ (HBox.out _ _ HC6.out id) (fun hH2 => ?_)
    try simp only [Act.put, List.setIfInBounds_toArray, List.set_cons_zero, List.set_cons_succ]
    have hD6 := (HD.out.fresh HCa.out).fresh HC6.out
    have HD6 := Lib.hid hD6
    clear hD6
    refine wpAnyH_ready (rs := [8]) (by kernel_rfl) (by simp) (one_list (i := 8) rfl (by rfl) (fun K hK => ?_) AllReadyH.nil)
    go_simp
    refine (write_at _ HD6.out _ hkR HFy.out (b := bOf a) HV6.out (fun g hg hF => Nat.not_lt.2 (HV6.out.lt g hg).1 ((HD.out.fresh HCa.out).lt g hF)) HLy.out).mono ?_
    rintro e w7 ⟨rfl, hx7, hc7⟩
    have HD7 := Lib.hid hx7
    have HC7 := Lib.hid hc7
    clear hx7 hc7
    dsimp only
    refine hK _ _ (HBox.out w7 Fc ((HC6.out.mono (fun _ _ h => h.elim)).trans' HC7.out) HNF.out) (fun hH3 => ?_)
    try simp only [Act.put, List.setIfInBounds_toArray, List.set_cons_zero, List.set_cons_succ]
    refine wpAnyH_done (by kernel_rfl) ?_ _
    refine NoPanic.normal ?_
    have hb7 := HBox.out w7 Fc ((HC6.out.mono (fun _ _ h => h.elim)).trans' HC7.out) HNF.out
    obtain ⟨q0, q1, q2, q3, q4⟩ := hb7
    have c56 : Chg (fun k => w2.heap.size ≤ k ∧ k < w3.heap.size) w5 w6 := (HC.out.trans' (HCa.out.mono (fun _ _ h => h.elim))).trans' (HC6.out.mono (fun _ _ h => h.elim))
    have c57 : Chg (fun k => w2.heap.size ≤ k ∧ k < w3.heap.size) w5 w7 := c56.trans HC7.out (fun k hk hF => by rcases HT.out k hF with h | h; exact h; exact absurd hk (Nat.not_lt.2 h))
    have hT7 : ∀ k, grow Fc w6 w7 k → (w2.heap.size ≤ k ∧ k < w3.heap.size) ∨ w5.heap.size ≤ k := fun k hk => by
      rcases hk with hk | hk
      · exact HT.out k hk
      · exact Or.inr (Nat.le_trans c56.size hk.1)
    have hS7 : ∀ {w' : World}, Chg (grow Fc w6 w7) w7 w' → Chg (fun k => w2.heap.size ≤ k ∧ k < w3.heap.size) w5 w' := fun hc => c57.trans hc (fun k hk hF => by rcases hT7 k hF with h | h; exact h; exact absurd hk (Nat.not_lt.2 h))
    have HT7 := Lib.hid hT7
    have HS7 := Lib.hid (fun w' hc => @hS7 w' hc)
    have H57 := Lib.hid c57
    clear c56 c57 hT7 hS7 hH2 hH3 hHeld hpw hpw2
    have hf7 : (Y.write (kOf a) (bOf a)).fuse ≤ 9223372036854775807 := by rw [HU1.out.fuse]; omega
    have hL7 : ∀ j, ((Y.write (kOf a) (bOf a)).L j).length < 1000000 := fun j => by have := HU1.out.Ls j; omega
    have HF7 := Lib.hid hf7
    have HL7 := Lib.hid hL7
    clear hf7 hL7
    have hN7 : ¬ grow Fc w6 w7 wr.heap.size := fun h => by
      rcases h with h | h
      · exact HNF.out h
      · have h6 := World.block_lt_of_cell? _ _ (HBox.out _ _ HC6.out id).1
        exact Nat.not_lt.2 h.1 h6
    have hw25 : w2.heap.size ≤ w5.heap.size := Nat.le_trans (Nat.le_trans HC3.out.size HC4.out.size) HC5.out.size
    have hW7 : Chg (fun _ => False) W w7 := ((HWr.out.trans' HCa.out).trans' HC6.out).new HC7.out (fun k hk => by have := HW2.out.size; rcases HT.out k hk with h | h; exact Nat.le_trans this h.1; exact Nat.le_trans this (Nat.le_trans hw25 h))
    have hold7 : ∀ k, grow Fc w6 w7 k → W.heap.size ≤ k := fun k hk => by have := HW2.out.size; rcases HT7.out k hk with h | h; exact Nat.le_trans this h.1; exact Nat.le_trans this (Nat.le_trans hw25 h)
    have HN7 := Lib.hid hN7
    have HW7 := Lib.hid hW7
    have HO7 := Lib.hid hold7
    clear hN7 hW7 hold7 hw25
    by_cases hk1 : a.kind = 1
    · rw [hk1] at q0
      go_wp2_with (first
        | (go_at_call 30; refine (flush_at _ HD7.out HF7.out).mono ?_; rintro e w8 ⟨rfl, hx8, hc8⟩
           have HD8 := Lib.hid hx8
           have HC8 := Lib.hid hc8
           have q0' := hc8.cell q0 HN7.out
           clear hx8 hc8))
      exact ⟨⟨i + 1, by go_num, hl1, by omega, _, _, HD8.out, HT7.out, (HU1.out.flush (by omega)).more (by omega), HS7.out _ HC8.out⟩, meas_step hl2⟩
    · have hkb1 : (a.kind == 1) = false := by simp [hk1]
      by_cases hk4 : a.kind = 4
      · rw [hk4] at q0
        go_wp2_with (first
          | (go_at_call 32; refine (crash_at _ HD7.out (keep := a.keep) (v := .slice oak lk ck) (by have := HOa.out.keep.kept HW7.out; rw [HKv.out] at this; exact this) (fun hne g hg hF => Nat.not_lt.2 (HO7.out g hF) (slat_old HOa.out.keep (by intro e; exact hne (List.map_eq_nil_iff.1 e)) (by rw [HKv.out]; exact hg))) HOa.out.each HL7.out).mono ?_; rintro e w8 ⟨rfl, hx8, hc8⟩
             have HD8 := Lib.hid hx8
             have HC8 := Lib.hid hc8
             clear hx8 hc8))
        exact ⟨⟨i + 1, by go_num, hl1, by omega, _, _, HD8.out, HT7.out, (HU1.out.crash a.keep).more (by omega), HS7.out _ HC8.out⟩, meas_step hl2⟩
      · have hkb4 : (a.kind == 4) = false := by simp [hk4]
        go_wp2_with fail
        exact ⟨⟨i + 1, by go_num, hl1, by omega, _, _, HD7.out, HT7.out, HU1.out.more (by omega), H57.out⟩, meas_step hl2⟩
  · have hDr : DiskAt wr d F X := ((((HD2.out.fresh HC3.out).fresh HC4.out).fresh HC5.out)).kept HC.out (fun k hk hs => Nat.not_lt.2 hs.1 (HD2.out.lt k hk))
    have HDr := Lib.hid hDr
    have hI5 := (HI.out.kept HC5.out (fun _ _ h => h)).kept HC.out (fun k hk hs => Nat.not_lt.2 hk hs.2)
    have HI5 := Lib.hid hI5
    have hVr := HVW.out.kept HC.out (fun k hk hs => Nat.not_lt.2 (Nat.le_trans HC4.out.size (HVW.out.lt hk).1) hs.2)
    have HVr := Lib.hid hVr
    clear hDr hI5 hVr
    rcases Nat.lt_or_ge i more.length with hl1 | hl1
    · have hd20 : decide ((i : Int) < 20) = false := by simp; omega
      have hl2 : (i : Int) < (more.length : Int) := by omega
      clear hl1 hlt
      go_wp2_with (first
        | (go_at_call 31; refine (image_at _ HDr.out).mono ?_; rintro e w9 ⟨v2, rfl, hi2, hc9⟩
           obtain ⟨oa2, cap2, hv2⟩ := hi2.sl
           rw [hX8] at hv2
           subst hv2
           have HI1 := Lib.hid (HI5.out.kept hc9 (fun _ _ h => h))
           have HI2 := Lib.hid hi2
           have HC9 := Lib.hid hc9
           clear hi2 hc9))
      go_loopw [73] (fun j wr => ∃ k : Nat, j = .int .i64 k ∧ k ≤ 8 ∧ Chg (fun _ => False) w9 wr) (fun j _ => 8 - (intOf j).toNat)
      · exact ⟨0, rfl, Nat.zero_le _, Chg.refl _ _⟩
      obtain ⟨k, rfl, hk8, hcr⟩ := hrel
      have HCr := Lib.hid hcr
      clear hcr
      by_cases hlt : k < 8
      · have hkB : k < X.B.length := by rw [hX8]; exact hlt
        obtain ⟨ga, ca, g1, e1, d1, x1⟩ := (HI1.out.kept HCr.out.drew (fun _ _ h => h)).get hkB
        obtain ⟨gb, cb, g2, e2, d2, x2⟩ := (HI2.out.kept HCr.out.drew (fun _ _ h => h)).get hkB
        simp only [Value.slice.injEq] at e1 e2
        obtain ⟨rfl, -, -⟩ := e1
        obtain ⟨rfl, -, -⟩ := e2
        obtain ⟨str, hstr⟩ : ∃ str : ByteArray, ByteArray.mk (X.B[k]'hkB).toArray = str := ⟨_, rfl⟩
        rw [hstr] at x1 x2
        have hki : (k : Int) < 8 := by omega
        clear hstr
        have X1' := Lib.hid x1
        have X2' := Lib.hid x2
        have D1 := Lib.hid d1
        have D2 := Lib.hid d2
        clear x1 x2 d1 d2
        go_wp2_with fail
        refine wp_region_noPanic ?_
        refine wp_region_held_drew (S := (fun w' => w'.cell? ⟨ga, k, none⟩ = some g1 ∧ (convert 68 9 g1).run Try.prog w' = .ok (.string str) w' ∧ w'.cell? ⟨gb, k, none⟩ = some g2 ∧ (convert 68 9 g2).run Try.prog w' = .ok (.string str) w')) (by kernel_rfl) (⟨D1.out, X1'.out, D2.out, X2'.out⟩) (fun hHeld => ?_)
        refine take_list (i := 0) (v := ?_) rfl (by kernel_rfl) (by kernel_rfl) (by kernel_rfl) (fun _ _ _ h => h) (Or.inl ⟨by rfl, fun w hSw => ?_⟩) hHeld ?_
        rotate_left
        · (obtain ⟨hSw1, hSw2, hSw3, hSw4⟩ := hSw; go_simp)
          try with_reducible rfl
        simp only [Act.put, List.setIfInBounds_toArray, List.set_cons_zero, List.set_cons_succ]
        refine take_list (i := 1) (v := ?_) rfl (by kernel_rfl) (by kernel_rfl) (by kernel_rfl) (fun _ _ _ h => h) (Or.inl ⟨by rfl, fun w hSw => ?_⟩) hHeld ?_
        rotate_left
        · (obtain ⟨hSw1, hSw2, hSw3, hSw4⟩ := hSw; go_simp)
          try with_reducible rfl
        simp only [Act.put, List.setIfInBounds_toArray, List.set_cons_zero, List.set_cons_succ]
        refine take_list (i := 2) (v := ?_) rfl (by kernel_rfl) (by kernel_rfl) (by kernel_rfl) (fun _ _ _ h => h) (Or.inl ⟨by rfl, fun w hSw => ?_⟩) hHeld ?_
        rotate_left
        · (obtain ⟨hSw1, hSw2, hSw3, hSw4⟩ := hSw; go_simp)
          try with_reducible rfl
        simp only [Act.put, List.setIfInBounds_toArray, List.set_cons_zero, List.set_cons_succ]
        refine take_list (i := 3) (v := ?_) rfl (by kernel_rfl) (by kernel_rfl) (by kernel_rfl) (fun _ _ _ h => h) (Or.inl ⟨by rfl, fun w hSw => ?_⟩) hHeld ?_
        rotate_left
        · (obtain ⟨hSw1, hSw2, hSw3, hSw4⟩ := hSw; go_simp)
          try with_reducible rfl
        simp only [Act.put, List.setIfInBounds_toArray, List.set_cons_zero, List.set_cons_succ]
        refine take_list (i := 4) (v := ?_) rfl (by kernel_rfl) (by kernel_rfl) (by kernel_rfl) (fun _ _ _ h => h) (Or.inl ⟨by rfl, fun w hSw => ?_⟩) hHeld ?_
        rotate_left
        · (obtain ⟨hSw1, hSw2, hSw3, hSw4⟩ := hSw; go_simp)
          try with_reducible rfl
        simp only [Act.put, List.setIfInBounds_toArray, List.set_cons_zero, List.set_cons_succ]
        refine take_list (i := 5) (v := ?_) rfl (by kernel_rfl) (by kernel_rfl) (by kernel_rfl) (fun _ _ _ h => h) (Or.inl ⟨by rfl, fun w hSw => ?_⟩) hHeld ?_
        rotate_left
        · (obtain ⟨hSw1, hSw2, hSw3, hSw4⟩ := hSw; go_simp)
          try with_reducible rfl
        simp only [Act.put, List.setIfInBounds_toArray, List.set_cons_zero, List.set_cons_succ]
        refine take_list (i := 6) (v := ?_) rfl (by kernel_rfl) (by kernel_rfl) (by kernel_rfl) (fun _ _ _ h => h) (Or.inl ⟨by rfl, fun w hSw => ?_⟩) hHeld ?_
        rotate_left
        · (obtain ⟨hSw1, hSw2, hSw3, hSw4⟩ := hSw; go_simp)
          try with_reducible rfl
        simp only [Act.put, List.setIfInBounds_toArray, List.set_cons_zero, List.set_cons_succ]
        refine take_list (i := 7) (v := ?_) rfl (by kernel_rfl) (by kernel_rfl) (by kernel_rfl) (fun _ _ _ h => h) (Or.inl ⟨by rfl, fun w hSw => ?_⟩) hHeld ?_
        rotate_left
        · (obtain ⟨hSw1, hSw2, hSw3, hSw4⟩ := hSw; go_simp)
          try with_reducible rfl
        simp only [Act.put, List.setIfInBounds_toArray, List.set_cons_zero, List.set_cons_succ]
        refine take_list (i := 8) (v := ?_) rfl (by kernel_rfl) (by kernel_rfl) (by kernel_rfl) (fun _ _ _ h => h) (Or.inl ⟨by rfl, fun w hSw => ?_⟩) hHeld ?_
        rotate_left
        · (obtain ⟨hSw1, hSw2, hSw3, hSw4⟩ := hSw; go_simp)
          try with_reducible rfl
        simp only [Act.put, List.setIfInBounds_toArray, List.set_cons_zero, List.set_cons_succ]
        refine take_list (i := 9) (v := ?_) rfl (by kernel_rfl) (by kernel_rfl) (by kernel_rfl) (fun _ _ _ h => h) (Or.inl ⟨by rfl, fun w hSw => ?_⟩) hHeld ?_
        rotate_left
        · (obtain ⟨hSw1, hSw2, hSw3, hSw4⟩ := hSw; go_simp)
          try with_reducible rfl
        simp only [Act.put, List.setIfInBounds_toArray, List.set_cons_zero, List.set_cons_succ]
        refine take_list (i := 10) (v := ?_) rfl (by kernel_rfl) (by kernel_rfl) (by kernel_rfl) (fun _ _ _ h => h) (Or.inl ⟨by rfl, fun w hSw => ?_⟩) hHeld ?_
        rotate_left
        · (obtain ⟨hSw1, hSw2, hSw3, hSw4⟩ := hSw; go_simp)
          try with_reducible rfl
        simp only [Act.put, List.setIfInBounds_toArray, List.set_cons_zero, List.set_cons_succ]
        refine take_list (i := 11) (v := ?_) rfl (by kernel_rfl) (by kernel_rfl) (by kernel_rfl) (fun _ _ _ h => h) (Or.inl ⟨by rfl, fun w hSw => ?_⟩) hHeld ?_
        rotate_left
        · (obtain ⟨hSw1, hSw2, hSw3, hSw4⟩ := hSw; go_simp)
          try with_reducible rfl
        simp only [Act.put, List.setIfInBounds_toArray, List.set_cons_zero, List.set_cons_succ]
        refine take_list (i := 12) (v := ?_) rfl (by kernel_rfl) (by kernel_rfl) (by kernel_rfl) (fun _ _ _ h => h) (Or.inl ⟨by rfl, fun w hSw => ?_⟩) hHeld ?_
        rotate_left
        · (obtain ⟨hSw1, hSw2, hSw3, hSw4⟩ := hSw; go_simp)
          try with_reducible rfl
        simp only [Act.put, List.setIfInBounds_toArray, List.set_cons_zero, List.set_cons_succ]
        refine take_list (i := 13) (v := ?_) rfl (by kernel_rfl) (by kernel_rfl) (by kernel_rfl) (fun _ _ _ h => h) (Or.inl ⟨by rfl, fun w hSw => ?_⟩) hHeld ?_
        rotate_left
        · (obtain ⟨hSw1, hSw2, hSw3, hSw4⟩ := hSw; go_simp)
          try with_reducible rfl
        simp only [Act.put, List.setIfInBounds_toArray, List.set_cons_zero, List.set_cons_succ]
        refine take_list (i := 14) (v := ?_) rfl (by kernel_rfl) (by kernel_rfl) (by kernel_rfl) (fun _ _ _ h => h) (Or.inl ⟨by rfl, fun w hSw => ?_⟩) hHeld ?_
        rotate_left
        · (obtain ⟨hSw1, hSw2, hSw3, hSw4⟩ := hSw; go_simp)
          try with_reducible rfl
        simp only [Act.put, List.setIfInBounds_toArray, List.set_cons_zero, List.set_cons_succ]
        refine take_list (i := 15) (v := ?_) rfl (by kernel_rfl) (by kernel_rfl) (by kernel_rfl) (fun _ _ _ h => h) (Or.inl ⟨by rfl, fun w hSw => ?_⟩) hHeld ?_
        rotate_left
        · (obtain ⟨hSw1, hSw2, hSw3, hSw4⟩ := hSw; go_simp)
          try with_reducible rfl
        simp only [Act.put, List.setIfInBounds_toArray, List.set_cons_zero, List.set_cons_succ]
        refine wpAnyH_done (by kernel_rfl) ?_ _
        refine NoPanic.normal ?_
        go_wp2_with fail
        exact ⟨⟨k + 1, by go_num, hlt, HCr.out.drew⟩, meas_step hlt⟩
      · have hki : ¬ (k : Int) < 8 := by omega
        have HDz := Lib.hid ((HDr.out.fresh HC9.out).fresh HCr.out)
        have HVz := Lib.hid ((HVr.out.kept HC9.out (fun _ _ h => h)).kept HCr.out (fun _ _ h => h))
        go_wp2_with (first
          | (go_at_call 36; refine (waiting_at _ HDz.out).mono ?_; rintro e w10 ⟨vZ, rfl, hvZ, hcz⟩; have HV1 := Lib.hid hvZ; have HV2 := Lib.hid (HVz.out.kept hcz (fun _ _ h => h)); have HCz := Lib.hid hcz; clear hvZ hcz)
          | (go_at_call 42; refine (waits_same _ HV1.out HV2.out HWl.out).mono ?_; rintro e w11 ⟨rfl, hcy⟩; have HCy := Lib.hid hcy; clear hcy)
          | (go_at_call 37; refine (up_any _ ((HDz.out.fresh HCz.out).fresh HCy.out)).mono ?_; rw [hXd]; rintro e w12 ⟨rfl, rfl⟩))
        go_ret
        exact ⟨rfl, (((HWr.out.trans' HC9.out).trans' HCr.out).trans' HCz.out).trans' HCy.out⟩
    · have hl2 : ¬ (i : Int) < (more.length : Int) := by omega
      clear hl1 hlt
      go_wp2_with (first
        | (go_at_call 31; refine (image_at _ HDr.out).mono ?_; rintro e w9 ⟨v2, rfl, hi2, hc9⟩
           obtain ⟨oa2, cap2, hv2⟩ := hi2.sl
           rw [hX8] at hv2
           subst hv2
           have HI1 := Lib.hid (HI5.out.kept hc9 (fun _ _ h => h))
           have HI2 := Lib.hid hi2
           have HC9 := Lib.hid hc9
           clear hi2 hc9))
      go_loopw [73] (fun j wr => ∃ k : Nat, j = .int .i64 k ∧ k ≤ 8 ∧ Chg (fun _ => False) w9 wr) (fun j _ => 8 - (intOf j).toNat)
      · exact ⟨0, rfl, Nat.zero_le _, Chg.refl _ _⟩
      obtain ⟨k, rfl, hk8, hcr⟩ := hrel
      have HCr := Lib.hid hcr
      clear hcr
      by_cases hlt : k < 8
      · have hkB : k < X.B.length := by rw [hX8]; exact hlt
        obtain ⟨ga, ca, g1, e1, d1, x1⟩ := (HI1.out.kept HCr.out.drew (fun _ _ h => h)).get hkB
        obtain ⟨gb, cb, g2, e2, d2, x2⟩ := (HI2.out.kept HCr.out.drew (fun _ _ h => h)).get hkB
        simp only [Value.slice.injEq] at e1 e2
        obtain ⟨rfl, -, -⟩ := e1
        obtain ⟨rfl, -, -⟩ := e2
        obtain ⟨str, hstr⟩ : ∃ str : ByteArray, ByteArray.mk (X.B[k]'hkB).toArray = str := ⟨_, rfl⟩
        rw [hstr] at x1 x2
        have hki : (k : Int) < 8 := by omega
        clear hstr
        have X1' := Lib.hid x1
        have X2' := Lib.hid x2
        have D1 := Lib.hid d1
        have D2 := Lib.hid d2
        clear x1 x2 d1 d2
        go_wp2_with fail
        refine wp_region_noPanic ?_
        refine wp_region_held_drew (S := (fun w' => w'.cell? ⟨ga, k, none⟩ = some g1 ∧ (convert 68 9 g1).run Try.prog w' = .ok (.string str) w' ∧ w'.cell? ⟨gb, k, none⟩ = some g2 ∧ (convert 68 9 g2).run Try.prog w' = .ok (.string str) w')) (by kernel_rfl) (⟨D1.out, X1'.out, D2.out, X2'.out⟩) (fun hHeld => ?_)
        refine take_list (i := 0) (v := ?_) rfl (by kernel_rfl) (by kernel_rfl) (by kernel_rfl) (fun _ _ _ h => h) (Or.inl ⟨by rfl, fun w hSw => ?_⟩) hHeld ?_
        rotate_left
        · (obtain ⟨hSw1, hSw2, hSw3, hSw4⟩ := hSw; go_simp)
          try with_reducible rfl
        simp only [Act.put, List.setIfInBounds_toArray, List.set_cons_zero, List.set_cons_succ]
        refine take_list (i := 1) (v := ?_) rfl (by kernel_rfl) (by kernel_rfl) (by kernel_rfl) (fun _ _ _ h => h) (Or.inl ⟨by rfl, fun w hSw => ?_⟩) hHeld ?_
        rotate_left
        · (obtain ⟨hSw1, hSw2, hSw3, hSw4⟩ := hSw; go_simp)
          try with_reducible rfl
        simp only [Act.put, List.setIfInBounds_toArray, List.set_cons_zero, List.set_cons_succ]
        refine take_list (i := 2) (v := ?_) rfl (by kernel_rfl) (by kernel_rfl) (by kernel_rfl) (fun _ _ _ h => h) (Or.inl ⟨by rfl, fun w hSw => ?_⟩) hHeld ?_
        rotate_left
        · (obtain ⟨hSw1, hSw2, hSw3, hSw4⟩ := hSw; go_simp)
          try with_reducible rfl
        simp only [Act.put, List.setIfInBounds_toArray, List.set_cons_zero, List.set_cons_succ]
        refine take_list (i := 3) (v := ?_) rfl (by kernel_rfl) (by kernel_rfl) (by kernel_rfl) (fun _ _ _ h => h) (Or.inl ⟨by rfl, fun w hSw => ?_⟩) hHeld ?_
        rotate_left
        · (obtain ⟨hSw1, hSw2, hSw3, hSw4⟩ := hSw; go_simp)
          try with_reducible rfl
        simp only [Act.put, List.setIfInBounds_toArray, List.set_cons_zero, List.set_cons_succ]
        refine take_list (i := 4) (v := ?_) rfl (by kernel_rfl) (by kernel_rfl) (by kernel_rfl) (fun _ _ _ h => h) (Or.inl ⟨by rfl, fun w hSw => ?_⟩) hHeld ?_
        rotate_left
        · (obtain ⟨hSw1, hSw2, hSw3, hSw4⟩ := hSw; go_simp)
          try with_reducible rfl
        simp only [Act.put, List.setIfInBounds_toArray, List.set_cons_zero, List.set_cons_succ]
        refine take_list (i := 5) (v := ?_) rfl (by kernel_rfl) (by kernel_rfl) (by kernel_rfl) (fun _ _ _ h => h) (Or.inl ⟨by rfl, fun w hSw => ?_⟩) hHeld ?_
        rotate_left
        · (obtain ⟨hSw1, hSw2, hSw3, hSw4⟩ := hSw; go_simp)
          try with_reducible rfl
        simp only [Act.put, List.setIfInBounds_toArray, List.set_cons_zero, List.set_cons_succ]
        refine take_list (i := 6) (v := ?_) rfl (by kernel_rfl) (by kernel_rfl) (by kernel_rfl) (fun _ _ _ h => h) (Or.inl ⟨by rfl, fun w hSw => ?_⟩) hHeld ?_
        rotate_left
        · (obtain ⟨hSw1, hSw2, hSw3, hSw4⟩ := hSw; go_simp)
          try with_reducible rfl
        simp only [Act.put, List.setIfInBounds_toArray, List.set_cons_zero, List.set_cons_succ]
        refine take_list (i := 7) (v := ?_) rfl (by kernel_rfl) (by kernel_rfl) (by kernel_rfl) (fun _ _ _ h => h) (Or.inl ⟨by rfl, fun w hSw => ?_⟩) hHeld ?_
        rotate_left
        · (obtain ⟨hSw1, hSw2, hSw3, hSw4⟩ := hSw; go_simp)
          try with_reducible rfl
        simp only [Act.put, List.setIfInBounds_toArray, List.set_cons_zero, List.set_cons_succ]
        refine take_list (i := 8) (v := ?_) rfl (by kernel_rfl) (by kernel_rfl) (by kernel_rfl) (fun _ _ _ h => h) (Or.inl ⟨by rfl, fun w hSw => ?_⟩) hHeld ?_
        rotate_left
        · (obtain ⟨hSw1, hSw2, hSw3, hSw4⟩ := hSw; go_simp)
          try with_reducible rfl
        simp only [Act.put, List.setIfInBounds_toArray, List.set_cons_zero, List.set_cons_succ]
        refine take_list (i := 9) (v := ?_) rfl (by kernel_rfl) (by kernel_rfl) (by kernel_rfl) (fun _ _ _ h => h) (Or.inl ⟨by rfl, fun w hSw => ?_⟩) hHeld ?_
        rotate_left
        · (obtain ⟨hSw1, hSw2, hSw3, hSw4⟩ := hSw; go_simp)
          try with_reducible rfl
        simp only [Act.put, List.setIfInBounds_toArray, List.set_cons_zero, List.set_cons_succ]
        refine take_list (i := 10) (v := ?_) rfl (by kernel_rfl) (by kernel_rfl) (by kernel_rfl) (fun _ _ _ h => h) (Or.inl ⟨by rfl, fun w hSw => ?_⟩) hHeld ?_
        rotate_left
        · (obtain ⟨hSw1, hSw2, hSw3, hSw4⟩ := hSw; go_simp)
          try with_reducible rfl
        simp only [Act.put, List.setIfInBounds_toArray, List.set_cons_zero, List.set_cons_succ]
        refine take_list (i := 11) (v := ?_) rfl (by kernel_rfl) (by kernel_rfl) (by kernel_rfl) (fun _ _ _ h => h) (Or.inl ⟨by rfl, fun w hSw => ?_⟩) hHeld ?_
        rotate_left
        · (obtain ⟨hSw1, hSw2, hSw3, hSw4⟩ := hSw; go_simp)
          try with_reducible rfl
        simp only [Act.put, List.setIfInBounds_toArray, List.set_cons_zero, List.set_cons_succ]
        refine take_list (i := 12) (v := ?_) rfl (by kernel_rfl) (by kernel_rfl) (by kernel_rfl) (fun _ _ _ h => h) (Or.inl ⟨by rfl, fun w hSw => ?_⟩) hHeld ?_
        rotate_left
        · (obtain ⟨hSw1, hSw2, hSw3, hSw4⟩ := hSw; go_simp)
          try with_reducible rfl
        simp only [Act.put, List.setIfInBounds_toArray, List.set_cons_zero, List.set_cons_succ]
        refine take_list (i := 13) (v := ?_) rfl (by kernel_rfl) (by kernel_rfl) (by kernel_rfl) (fun _ _ _ h => h) (Or.inl ⟨by rfl, fun w hSw => ?_⟩) hHeld ?_
        rotate_left
        · (obtain ⟨hSw1, hSw2, hSw3, hSw4⟩ := hSw; go_simp)
          try with_reducible rfl
        simp only [Act.put, List.setIfInBounds_toArray, List.set_cons_zero, List.set_cons_succ]
        refine take_list (i := 14) (v := ?_) rfl (by kernel_rfl) (by kernel_rfl) (by kernel_rfl) (fun _ _ _ h => h) (Or.inl ⟨by rfl, fun w hSw => ?_⟩) hHeld ?_
        rotate_left
        · (obtain ⟨hSw1, hSw2, hSw3, hSw4⟩ := hSw; go_simp)
          try with_reducible rfl
        simp only [Act.put, List.setIfInBounds_toArray, List.set_cons_zero, List.set_cons_succ]
        refine take_list (i := 15) (v := ?_) rfl (by kernel_rfl) (by kernel_rfl) (by kernel_rfl) (fun _ _ _ h => h) (Or.inl ⟨by rfl, fun w hSw => ?_⟩) hHeld ?_
        rotate_left
        · (obtain ⟨hSw1, hSw2, hSw3, hSw4⟩ := hSw; go_simp)
          try with_reducible rfl
        simp only [Act.put, List.setIfInBounds_toArray, List.set_cons_zero, List.set_cons_succ]
        refine wpAnyH_done (by kernel_rfl) ?_ _
        refine NoPanic.normal ?_
        go_wp2_with fail
        exact ⟨⟨k + 1, by go_num, hlt, HCr.out.drew⟩, meas_step hlt⟩
      · have hki : ¬ (k : Int) < 8 := by omega
        have HDz := Lib.hid ((HDr.out.fresh HC9.out).fresh HCr.out)
        have HVz := Lib.hid ((HVr.out.kept HC9.out (fun _ _ h => h)).kept HCr.out (fun _ _ h => h))
        go_wp2_with (first
          | (go_at_call 36; refine (waiting_at _ HDz.out).mono ?_; rintro e w10 ⟨vZ, rfl, hvZ, hcz⟩; have HV1 := Lib.hid hvZ; have HV2 := Lib.hid (HVz.out.kept hcz (fun _ _ h => h)); have HCz := Lib.hid hcz; clear hvZ hcz)
          | (go_at_call 42; refine (waits_same _ HV1.out HV2.out HWl.out).mono ?_; rintro e w11 ⟨rfl, hcy⟩; have HCy := Lib.hid hcy; clear hcy)
          | (go_at_call 37; refine (up_any _ ((HDz.out.fresh HCz.out).fresh HCy.out)).mono ?_; rw [hXd]; rintro e w12 ⟨rfl, rfl⟩))
        go_ret
        exact ⟨rfl, (((HWr.out.trans' HC9.out).trans' HCr.out).trans' HCz.out).trans' HCy.out⟩


set_option maxRecDepth 100000 in
theorem lifted (os : Os) (started : os.Started) (H : Type) (enc : TypeId × Value → H) :
    ReturnsInHanded {} Try.checked os 11 .any (Rows.diskTwinsSpec.pre6 enc Try.prog Try.f11 [] false) (Rows.diskTwinsSpec.post enc Try.prog Try.f11 false true false false) := by
  refine law_handed (C := Try.checked) (tb := 4) own started (by kernel_rfl) Try.func11
    (ChangeSpec.witness6 (enc := enc) (C := Try.checked) false ⟨#[], #[.slice none 0 0, .slice none 0 0], []⟩ 8 (by kernel_rfl) (by kernel_rfl) (by kernel_rfl) (by kernel_rfl))
    laidOut (by rw [show Try.checked.prog = Try.prog from rfl, Try.params11]; intro t ht; simp at ht; subst ht; exact ⟨by kernel_rfl, of_decide_eq_true (by kernel_rfl)⟩) rfl rfl Try.underlying4 ?_ ?_
  · intro ds hds
    rw [Try.params11] at hds
    match ds, hds with
    | [_, _], _ => rfl
  · intro W base args ds before hval0 hA0 _ _
    have hval : ∀ (j : Nat) t v, Try.f11.params[j]? = some t → args[j]? = some v → Value.okWide Try.prog W .any base t v := hval0
    have hA : DataW.TrodAll enc Try.prog W 0 (fun _ => true) true Try.f11.params.toList args.toList ds before := hA0
    rw [Try.params11] at hA hval
    obtain ⟨v0, vs0, d0, ds0, p0, q0, hargs, rfl, rfl, h0, r0⟩ := trodAll_cons hA
    obtain ⟨v1, vs1, d1, ds1, p1, q1, rfl, rfl, rfl, h1, r1⟩ := trodAll_cons r0
    obtain ⟨rfl, rfl, rfl⟩ := trodAll_nil r1
    obtain rfl : args = #[v0, v1] := by cases args; simp_all
    obtain ⟨oa0, l0, cap0, rfl, -, -, g0, ok0⟩ := open_acts (hval 0 54 v0 rfl rfl) h0
    obtain ⟨oa1, l1, cap1, rfl, -, -, g1, ok1⟩ := open_acts (hval 1 54 v1 rfl rfl) h1
    exact walk W oa0 cap0 l0 g0 ok0 oa1 cap1 l1 g1 ok1

theorem over : Rows.diskTwinsRow.holds Try.pinned (OpenSpec.ofChange Rows.diskTwinsSpec) :=
  OpenClaim.holds_of_wide 11 Try.f11 rfl rfl rfl rfl rfl rfl rfl ⟨rfl, rfl, rfl, rfl, rfl⟩ rfl rfl rfl rfl rfl (by kernel_rfl) Try.func11 (by kernel_rfl)
    (of_decide_eq_true (by kernel_rfl)) (by unfold Func.isWrapper; first | (rw [if_pos (by decide +kernel)]; kernel_rfl) | (rw [if_neg (by decide +kernel)]; exact ⟨rfl, rfl⟩))
    (fun os started H enc _ => lifted os started H enc)

theorem proved : Rows.DiskTwinsSaid := over
#print axioms proved


end Go.Proofs.Ytomceindibnpnaa.diskTwins

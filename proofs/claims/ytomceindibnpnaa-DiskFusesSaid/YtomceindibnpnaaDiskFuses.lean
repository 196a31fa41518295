/-
  DiskFuses, whole: for all acts, every fuse and every list of what is kept the law returns true and changes nothing that was there. No condition.
-/
import Derived.Test.YtomceindibnpnaaDiskFusesLaw
import Derived.Test.YtomceindibnpnaaRows
namespace Go.Proofs.Ytomceindibnpnaa.diskFuses
open Go.ChangeShapes Go.WideShapes Go.ChangeAt Go.RowKit Go.My disks

/-- The fuse. -/
def fuseOf (n : Int) : Nat := ((n.tmod 40 + 40).tmod 40).toNat
theorem fuseOf_eq (n : Int) : (n.tmod 40 + 40).tmod 40 = (fuseOf n : Int) ∧ fuseOf n < 40 ∧ wrap64 (n.tmod 40 + 40) = n.tmod 40 + 40 := by
  have h1 := Int.tmod_lt_of_pos n (b := 40) (by omega)
  have h2 := Int.lt_tmod_of_pos n (b := 40) (by omega)
  have h3 : 0 ≤ (n.tmod 40 + 40).tmod 40 := Int.tmod_nonneg _ (by omega)
  have h4 := Int.tmod_lt_of_pos (n.tmod 40 + 40) (b := 40) (by omega)
  refine ⟨?_, ?_, IntWalk.wrap64_in _ (by omega)⟩
  · unfold fuseOf; omega
  · unfold fuseOf; omega

theorem place_wrap (z : Int) : wrap64 (z.tmod 8 + 8) = z.tmod 8 + 8 := by
  have h1 := Int.tmod_lt_of_pos z (b := 8) (by omega)
  have h2 := Int.lt_tmod_of_pos z (b := 8) (by omega)
  exact IntWalk.wrap64_in _ (by omega)

theorem new8 (w : World) : Calls Try.prog 38 #[.int .i64 8] w fun e w' => ∃ d, e = .returned (.tuple #[.pointer (some ⟨d, 0, none⟩), .int .i64 0]) ∧ DiskAt w' d (born w w') (DV.new 8) ∧ Chg (fun _ => False) w w' :=
  new_any w 8 (by omega) (by omega)

theorem two_new {W w1 w2 : World} {dx dy : Nat} {X Y : DV} (hx : DiskAt w1 dx (born W w1) X) (h1 : Chg (fun _ => False) W w1) (hy : DiskAt w2 dy (born w1 w2) Y) (h2 : Chg (fun _ => False) w1 w2) : Two W w2 (born W w1) dx X (born w1 w2) dy Y :=
  ⟨hx.fresh h2, hy, fun k hk => hk.1, fun k hk => Nat.le_trans h1.size hk.1, fun k hk hk' => Nat.not_lt.2 hk'.1 hk.2, h1.trans' h2⟩

theorem write_ok {X : DV} {keep : List Int} (h : 0 < (X.crash keep).B.length) : writeC (X.crash keep) 0 64 = 0 := by
  have ha : askedC (X.crash keep) 0 = 0 := by
    unfold askedC
    rw [show (X.crash keep).down = false from rfl]
    rw [if_neg (by simp), if_pos (by omega)]
  rw [writeC, ha]
  rw [show (X.crash keep).fuse = -1 from rfl]
  rfl

theorem fuse_le (X : DV) (keep : List Int) : (X.crash keep).fuse ≤ 9223372036854775807 := by
  rw [show (X.crash keep).fuse = -1 from rfl]; omega


set_option maxRecDepth 100000 in
set_option maxHeartbeats 4000000 in
theorem walk (W : World) (oa : Option Addr) (cap : Nat) (acts : List DAct) (hacts : RowsAt W 5 oa (acts.map DAct.row)) (hok : ∀ a ∈ acts, a.ok W) (n : Int) (hn : inR n) (kv : Value) (keep : List Int) (hkeep : SlAt W kv (keep.map (Value.int .i64))) (hkr : ∀ z ∈ keep, inR z) :
    Calls Try.prog 10 #[.slice oa acts.length cap, .int .i64 n, kv] W fun e w' => e = .returned (.bool true) ∧ Chg (fun _ => False) W w' := by
  have HActs := Lib.hid hacts
  have HOk := Lib.hid hok
  have HKeep := Lib.hid hkeep
  have HKr := Lib.hid hkr
  obtain ⟨hf1, hf2, hf3⟩ := fuseOf_eq n
  obtain ⟨u, hu⟩ : ∃ u, fuseOf n = u := ⟨_, rfl⟩
  rw [hu] at hf1 hf2
  have HF2 := Lib.hid hf2
  clear hacts hok hkeep hkr hu hf2
  go_enter Try.func10, Try.ntmps10
  have hfc : fuseC (DV.new 8) (u : Int) = 0 := by
    have : ¬ ((u : Int) < 0) := by omega
    simp [fuseC, DV.new, this]
  go_wp2_with (first
    | (go_at_call 38; have _h := HX1; refine (new8 _).mono ?_; rintro e w2 ⟨dy, rfl, hy, hc2⟩; have HT := Lib.hid (two_new HX1.out.1 HX1.out.2 hy hc2); clear hy hc2)
    | (go_at_call 38; refine (new8 _).mono ?_; rintro e w1 ⟨dx, rfl, hx, hc1⟩; have HX1 := Lib.hid (And.intro hx hc1); clear hx hc1)
    | (go_at_call 39; refine (fuse_at _ HT.out.x _).mono ?_; rw [hfc]; rintro e w3 ⟨rfl, hx3, hc3⟩; have HT3 := Lib.hid (HT.out.setX hx3 hc3); clear hx3 hc3))
  go_loopw [11] (fun j wr => ∃ i : Nat, j = .int .i64 i ∧ i ≤ acts.length ∧ i ≤ 60 ∧ ∃ Fx Fy X Y, Two W wr Fx dx X Fy dy Y ∧ Sync u i X Y) (fun j _ => 60 - (intOf j).toNat)
  · exact ⟨0, rfl, Nat.zero_le _, by omega, _, _, _, _, HT3.out, sync_start u⟩
  clear HT HT3 HX1
  obtain ⟨i, rfl, hil, hi60, Fx, Fy, X, Y, hT, hS⟩ := hrel
  have HT := Lib.hid hT
  have HS := Lib.hid hS
  clear hT hS
  by_cases hlt : i < acts.length ∧ i < 60
  · obtain ⟨hl1, hl2⟩ := hlt
    have hd60 : decide ((i : Int) < 60) = true := by simp; omega
    obtain ⟨b, off, rfl⟩ := HActs.out.spot (by intro e; cases acts with | nil => simp at hl1 | cons => simp at e)
    obtain ⟨a, ha⟩ : ∃ a, acts[i]? = some a := ⟨acts[i], List.getElem?_eq_getElem hl1⟩
    have hcell := fun j v hj => (HActs.out.kept HT.out.chg (fun _ _ h => h)).cell b off rfl i a.row j v (by simp [ha]) hj
    have c0 : wr.cell? ⟨b, off + i * 5, none⟩ = some (.int .i64 a.kind) := hcell 0 _ rfl
    have c1 : wr.cell? ⟨b, off + i * 5 + 1, none⟩ = some (.int .i64 a.place) := hcell 1 _ rfl
    have c2 : wr.cell? ⟨b, off + i * 5 + 2, none⟩ = some (.int .i64 a.n) := hcell 2 _ rfl
    have c3 : wr.cell? ⟨b, off + i * 5 + 3, none⟩ = some (.int .i64 a.long) := hcell 3 _ rfl
    have c4 : wr.cell? ⟨b, off + i * 5 + 4, none⟩ = some a.kv := hcell 4 _ rfl
    have HOa := Lib.hid (HOk.out a (List.mem_of_getElem? ha))
    obtain ⟨oak, lk, ck, hkv⟩ : ∃ oak lk ck, a.kv = .slice oak lk ck := by obtain ⟨oak, ck, e, _⟩ := HOa.out.keep; exact ⟨_, _, _, e⟩
    rw [hkv] at c4
    obtain ⟨hk1, hk8⟩ := kOf_eq a
    have hkR : inR (kOf a : Int) := by constructor <;> omega
    have inR0 : inR 0 := by constructor <;> omega
    have hpw := place_wrap a.place
    have HK8 := Lib.hid hk8
    have HKv := Lib.hid hkv
    clear hcell ha hkv hk8
    have hTf : ∀ o, Two W (wr.alloc o) Fx dx X Fy dy Y := fun o => HT.out.fresh ((Chg.refl _ _).alloc o)
    have hnx : ¬ Fx wr.heap.size := fun h => Nat.lt_irrefl _ (HT.out.x.lt _ h)
    have hny : ¬ Fy wr.heap.size := fun h => Nat.lt_irrefl _ (HT.out.y.lt _ h)
    have hLx : ∀ j, (X.L j).length < 1000000 := fun j => by have := HS.out.Ls j; omega
    have hLy : ∀ j, (Y.L j).length < 1000000 := fun j => by have := HS.out.Ls j; rw [HS.out.L] at this; omega
    have hfx : X.fuse ≤ 9223372036854775807 := by
      rcases Nat.lt_or_ge u i with h | h
      · rw [(HS.out.hi h).2]; omega
      · rw [(HS.out.lo h).2]; have := HF2.out; omega
    have hfy : Y.fuse ≤ 9223372036854775807 := by rw [HS.out.yf]; omega
    have HTf := Lib.hid hTf
    have HLx := Lib.hid hLx
    have HLy := Lib.hid hLy
    have HFx := Lib.hid hfx
    have HFy := Lib.hid hfy
    clear hTf hLx hLy hfx hfy
    have HNx := Lib.hid hnx
    have HNy := Lib.hid hny
    clear hnx hny
    by_cases hiu : i < u
    · obtain ⟨hxC, hyC, hS1, hup⟩ := HS.out.act_lo hiu HF2.out a
      have hiu' : (i : Int) < (u : Int) := by omega
      have HS1 := Lib.hid hS1
      clear hS1
      by_cases hkd : a.kind = 1
      · have hkb : (a.kind == 1) = true := by simp [hkd]
        rw [actC, if_pos hkd] at hxC hyC
        rw [DV.act, if_pos hkd] at hup
        rw [DV.act, DV.act, if_pos hkd, if_pos hkd] at HS1
        go_wp2_with (first
          | (go_at_call 30; refine (flush_at _ HT2.out.swap.x HFy.out).mono ?_; rw [hyC]; rintro e w3 ⟨rfl, hy3, hcy⟩; have HT3 := Lib.hid (HT2.out.swap.setX hy3 hcy).swap; clear hy3 hcy)
          | (go_at_call 30; refine (flush_at _ (HTf.out _).x HFx.out).mono ?_; rw [hxC]; rintro e w2 ⟨rfl, hx2, hcx⟩; have ck := hcx.cell (cell_of_block (i := 0) (block_alloc_new _ _) rfl) HNx.out; have HT2 := Lib.hid ((HTf.out _).setX hx2 hcx); clear hx2 hcx)
          | (go_at_call 37; refine (up_any _ HT3.out.x).mono ?_; rw [hup]; rintro e w4 ⟨rfl, rfl⟩))
        exact ⟨⟨i + 1, by go_num, hl1, by omega, _, _, _, _, HT3.out, HS1.out⟩, by simp [intOf]; omega⟩
      · have hkb : (a.kind == 1) = false := by simp [hkd]
        rw [actC, if_neg hkd] at hxC hyC
        rw [DV.act, if_neg hkd] at hup
        rw [DV.act, DV.act, if_neg hkd, if_neg hkd] at HS1
        go_wp2_with (first
          | (go_at_call 33; refine (write_at _ HT4.out.swap.x _ hkR HFy.out (b := bOf a) HV2.out (fun g hg hF => Nat.not_lt.2 (HV2.out.lt g hg).1 (HT3.out.y.lt g hF)) HLy.out).mono ?_; rw [bOf_len, hyC]; rintro e w5 ⟨rfl, hy5, hcy⟩; have HT5 := Lib.hid (HT4.out.swap.growX hy5 hcy).swap; clear hy5 hcy)
          | (go_at_call 33; refine (write_at _ HT2.out.x _ hkR HFx.out (b := bOf a) HV1.out (fun g hg hF => Nat.not_lt.2 (HV1.out.lt g hg).1 ((HTf.out _).x.lt g hF)) HLx.out).mono ?_; rw [bOf_len, hxC]; rintro e w3 ⟨rfl, hx3, hcx⟩; have hb3 := hcx.at HB2.out HNx.out; have k0 := cell_of_block (i := 0) hb3 rfl; have k1 := cell_of_block (i := 1) hb3 rfl; have k2 := cell_of_block (i := 2) hb3 rfl; have k3 := cell_of_block (i := 3) hb3 rfl; have k4 := cell_of_block (i := 4) hb3 rfl; have HT3 := Lib.hid (HT2.out.growX hx3 hcx); clear hx3 hcx hb3)
          | (go_at_call 34; have _h := HT3; refine (bytesOf_any _ { a with long := 0, kv := .slice oak lk ck } HOa.out.n inR0).mono ?_; rintro e w4 ⟨v2, rfl, hv2, hcb2⟩; have HV2 := Lib.hid hv2; have HT4 := Lib.hid (HT3.out.fresh hcb2); clear hv2 hcb2)
          | (go_at_call 34; refine (bytesOf_any _ { a with long := 0, kv := .slice oak lk ck } HOa.out.n inR0).mono ?_; rintro e w2 ⟨v1, rfl, hv1, hcb1⟩; have HV1 := Lib.hid hv1; have HB2 := Lib.hid (hcb1.at (block_alloc_new _ _) id); have HT2 := Lib.hid ((HTf.out _).fresh hcb1); clear hv1 hcb1)
          | (go_at_call 37; refine (up_any _ HT5.out.x).mono ?_; rw [hup]; rintro e w9 ⟨rfl, rfl⟩))
        exact ⟨⟨i + 1, by go_num, hl1, by omega, _, _, _, _, HT5.out, HS1.out⟩, by simp [intOf]; omega⟩
    · obtain ⟨hxC, hS1, hup⟩ := HS.out.act_hi (by omega) a
      have hiu' : ¬ (i : Int) < (u : Int) := by omega
      have HS1 := Lib.hid hS1
      clear hS1
      by_cases hkd : a.kind = 1
      · have hkb : (a.kind == 1) = true := by simp [hkd]
        rw [actC, if_pos hkd] at hxC
        rw [DV.act, if_pos hkd] at hup HS1
        go_wp2_with (first
          | (go_at_call 30; refine (flush_at _ (HTf.out _).x HFx.out).mono ?_; rw [hxC]; rintro e w2 ⟨rfl, hx2, hcx⟩; have ck := hcx.cell (cell_of_block (i := 0) (block_alloc_new _ _) rfl) HNx.out; have HT2 := Lib.hid ((HTf.out _).setX hx2 hcx); clear hx2 hcx)
          | (go_at_call 37; refine (up_any _ HT2.out.x).mono ?_; rw [hup]; rintro e w4 ⟨rfl, rfl⟩))
        exact ⟨⟨i + 1, by go_num, hl1, by omega, _, _, _, _, HT2.out, HS1.out⟩, by simp [intOf]; omega⟩
      · have hkb : (a.kind == 1) = false := by simp [hkd]
        rw [actC, if_neg hkd] at hxC
        rw [DV.act, if_neg hkd] at hup HS1
        go_wp2_with (first
          | (go_at_call 33; refine (write_at _ HT2.out.x _ hkR HFx.out (b := bOf a) HV1.out (fun g hg hF => Nat.not_lt.2 (HV1.out.lt g hg).1 ((HTf.out _).x.lt g hF)) HLx.out).mono ?_; rw [bOf_len, hxC]; rintro e w3 ⟨rfl, hx3, hcx⟩; have hb3 := hcx.at HB2.out HNx.out; have k0 := cell_of_block (i := 0) hb3 rfl; have k1 := cell_of_block (i := 1) hb3 rfl; have k2 := cell_of_block (i := 2) hb3 rfl; have k3 := cell_of_block (i := 3) hb3 rfl; have k4 := cell_of_block (i := 4) hb3 rfl; have HT3 := Lib.hid (HT2.out.growX hx3 hcx); clear hx3 hcx hb3)
          | (go_at_call 34; refine (bytesOf_any _ { a with long := 0, kv := .slice oak lk ck } HOa.out.n inR0).mono ?_; rintro e w2 ⟨v1, rfl, hv1, hcb1⟩; have HV1 := Lib.hid hv1; have HB2 := Lib.hid (hcb1.at (block_alloc_new _ _) id); have HT2 := Lib.hid ((HTf.out _).fresh hcb1); clear hv1 hcb1)
          | (go_at_call 37; refine (up_any _ HT3.out.x).mono ?_; rw [hup]; rintro e w9 ⟨rfl, rfl⟩))
        exact ⟨⟨i + 1, by go_num, hl1, by omega, _, _, _, _, HT3.out, HS1.out⟩, by simp [intOf]; omega⟩
  · have hL' : ∀ j, (X.L j).length < 1000000 := fun j => by have := HS.out.Ls j; omega
    have hLy' : ∀ j, (Y.L j).length < 1000000 := fun j => by have := HS.out.Ls j; rw [HS.out.L] at this; omega
    have hkw := HKeep.out.kept HT.out.chg
    have hko : keep ≠ [] → ∀ g, kv.ownBlock = some g → g < W.heap.size := fun hne g hg => slat_old HKeep.out (by intro e; exact hne (List.map_eq_nil_iff.1 e)) hg
    have hdn : X.done = ((min i u : Nat) : Int) := HS.out.dx
    have hdny : Y.done = ((min i u : Nat) : Int) := HS.out.dy
    have hle : ¬ (u : Int) < ((min i u : Nat) : Int) := by omega
    have hcd := crash_done X keep
    have hcdy := crash_done Y keep
    rw [hdn] at hcd
    rw [hdny] at hcdy
    obtain ⟨Lx, hLx⟩ : ∃ Lx, (X.crash keep).B = Lx := ⟨_, rfl⟩
    have hxB := hLx
    have hyB : (Y.crash keep).B = Lx := by rw [← hLx]; exact (crash_congr keep HS.out.B HS.out.L).symm
    have hL8 : Lx.length = 8 := by rw [← hLx, crash_len]; exact HS.out.len
    clear hLx
    have HL' := Lib.hid hL'
    have HLy' := Lib.hid hLy'
    have HKw := Lib.hid hkw
    have HKo := Lib.hid hko
    have HLe := Lib.hid hle
    clear hL' hLy' hkw hko hdn hdny hle
    obtain ⟨mn, hmn⟩ : ∃ mn : Nat, min i u = mn := ⟨_, rfl⟩
    rw [hmn] at hcd hcdy HLe
    have hle := HLe.out
    clear hmn
    rcases Nat.lt_or_ge i acts.length with hl1 | hl1
    · have hd60 : decide ((i : Int) < 60) = false := by simp; omega
      have hl2 : (i : Int) < (acts.length : Int) := by omega
      clear hl1 hlt
      go_wp2_with (first
        | (go_at_call 32; refine (crash_at _ HT2.out.swap.x HKw2.out (fun hne g hg hF => Nat.not_lt.2 (HT2.out.oy g hF) (HKo.out hne g hg)) HKr.out HLy'.out).mono ?_; rintro e w3 ⟨rfl, hy3, hcy⟩; have HT3 := Lib.hid (HT2.out.swap.setX hy3 hcy).swap; clear hy3 hcy)
        | (go_at_call 32; refine (crash_at _ HT.out.x HKw.out (fun hne g hg hF => Nat.not_lt.2 (HT.out.ox g hF) (HKo.out hne g hg)) HKr.out HL'.out).mono ?_; rintro e w2 ⟨rfl, hx2, hcx⟩; have HT2 := Lib.hid (HT.out.setX hx2 hcx); have HKw2 := Lib.hid (HKeep.out.kept HT2.out.chg); clear hx2 hcx)
        | (go_at_call 37; refine (up_any _ HT3.out.x).mono ?_; rw [show (X.crash keep).down = false from rfl]; rintro e w9 ⟨rfl, rfl⟩)
        | (go_at_call 40; refine (done_any _ HT3.out.x).mono ?_; rw [hcd]; rintro e w9 ⟨rfl, rfl⟩)
        | (go_at_call 40; refine (done_any _ HT3.out.swap.x).mono ?_; rw [hcdy]; rintro e w9 ⟨rfl, rfl⟩)
        | (go_at_call 31; have _h := HI1; refine (image_at _ HT4.out.swap.x).mono ?_; rintro e w5 ⟨v2, rfl, hi2, hc2⟩; obtain ⟨oa2, cap2, hv2⟩ := hi2.sl; rw [hyB, hL8] at hv2; subst hv2; rw [hyB] at hi2; have HI2 := Lib.hid hi2; have HI1' := Lib.hid (HI1.out.kept hc2 (fun _ _ h => h)); have HT5 := Lib.hid (HT4.out.fresh hc2); clear hi2 hc2)
        | (go_at_call 31; refine (image_at _ HT3.out.x).mono ?_; rintro e w4 ⟨v1, rfl, hi1, hc1⟩; obtain ⟨oa1, cap1, hv1⟩ := hi1.sl; rw [hxB, hL8] at hv1; subst hv1; rw [hxB] at hi1; have HI1 := Lib.hid hi1; have HT4 := Lib.hid (HT3.out.fresh hc1); clear hi1 hc1))
      go_loopw [131] (fun j wr => ∃ k : Nat, j = .int .i64 k ∧ k ≤ 8 ∧ Chg (fun _ => False) w5 wr) (fun j _ => 8 - (intOf j).toNat)
      · exact ⟨0, rfl, Nat.zero_le _, Chg.refl _ _⟩
      obtain ⟨k, rfl, hk8, hcr⟩ := hrel
      have HCr := Lib.hid hcr
      clear hcr
      by_cases hlt : k < 8
      · obtain ⟨ga, ca, g1, e1, d1, x1⟩ := (HI1'.out.kept HCr.out.drew (fun _ _ h => h)).get (i := k) (by rw [hL8]; exact hlt)
        obtain ⟨gb, cb, g2, e2, d2, x2⟩ := (HI2.out.kept HCr.out.drew (fun _ _ h => h)).get (i := k) (by rw [hL8]; exact hlt)
        simp only [Value.slice.injEq] at e1 e2
        obtain ⟨rfl, -, -⟩ := e1
        obtain ⟨rfl, -, -⟩ := e2
        obtain ⟨str, hstr⟩ : ∃ str : ByteArray, ByteArray.mk (Lx[k]'(by rw [hL8]; exact hlt)).toArray = str := ⟨_, rfl⟩
        rw [hstr] at x1 x2
        have hki : (k : Int) < 8 := by omega
        clear hstr
        have X1 := Lib.hid x1
        have X2 := Lib.hid x2
        have D1 := Lib.hid d1
        have D2 := Lib.hid d2
        clear x1 x2 d1 d2
        go_wp2_with fail
        refine wp_region_noPanic ?_
        refine wp_region_held_drew (S := (fun w' => w'.cell? ⟨ga, k, none⟩ = some g1 ∧ (convert 68 9 g1).run Try.prog w' = .ok (.string str) w' ∧ w'.cell? ⟨gb, k, none⟩ = some g2 ∧ (convert 68 9 g2).run Try.prog w' = .ok (.string str) w')) (by kernel_rfl) (⟨D1.out, X1.out, D2.out, X2.out⟩) (fun hHeld => ?_)
        refine take_list (i := 0) (v := ?_) rfl (by kernel_rfl) (by kernel_rfl) (by kernel_rfl) (fun _ _ _ h => h) (Or.inl ⟨by rfl, fun w hSw => ?_⟩) hHeld ?_
        rotate_left
        · (obtain ⟨hSw1, hSw2, hSw3, hSw4⟩ := hSw; go_simp)
          try with_reducible rfl
        simp only [Act.put, List.setIfInBounds_toArray, List.set_cons_zero, List.set_cons_succ]
        refine take_list (i := 1) (v := ?_) rfl (by kernel_rfl) (by kernel_rfl) (by kernel_rfl) (fun _ _ _ h => h) (Or.inl ⟨by rfl, fun w hSw => ?_⟩) hHeld ?_
        rotate_left
        · (obtain ⟨hSw1, hSw2, hSw3, hSw4⟩ := hSw; go_simp)
          try with_reducible rfl
        simp only [Act.put, List.setIfInBounds_toArray, List.set_cons_zero, List.set_cons_succ]
        refine take_list (i := 2) (v := ?_) rfl (by kernel_rfl) (by kernel_rfl) (by kernel_rfl) (fun _ _ _ h => h) (Or.inl ⟨by rfl, fun w hSw => ?_⟩) hHeld ?_
        rotate_left
        · (obtain ⟨hSw1, hSw2, hSw3, hSw4⟩ := hSw; go_simp)
          try with_reducible rfl
        simp only [Act.put, List.setIfInBounds_toArray, List.set_cons_zero, List.set_cons_succ]
        refine take_list (i := 3) (v := ?_) rfl (by kernel_rfl) (by kernel_rfl) (by kernel_rfl) (fun _ _ _ h => h) (Or.inl ⟨by rfl, fun w hSw => ?_⟩) hHeld ?_
        rotate_left
        · (obtain ⟨hSw1, hSw2, hSw3, hSw4⟩ := hSw; go_simp)
          try with_reducible rfl
        simp only [Act.put, List.setIfInBounds_toArray, List.set_cons_zero, List.set_cons_succ]
        refine take_list (i := 4) (v := ?_) rfl (by kernel_rfl) (by kernel_rfl) (by kernel_rfl) (fun _ _ _ h => h) (Or.inl ⟨by rfl, fun w hSw => ?_⟩) hHeld ?_
        rotate_left
        · (obtain ⟨hSw1, hSw2, hSw3, hSw4⟩ := hSw; go_simp)
          try with_reducible rfl
        simp only [Act.put, List.setIfInBounds_toArray, List.set_cons_zero, List.set_cons_succ]
        refine take_list (i := 5) (v := ?_) rfl (by kernel_rfl) (by kernel_rfl) (by kernel_rfl) (fun _ _ _ h => h) (Or.inl ⟨by rfl, fun w hSw => ?_⟩) hHeld ?_
        rotate_left
        · (obtain ⟨hSw1, hSw2, hSw3, hSw4⟩ := hSw; go_simp)
          try with_reducible rfl
        simp only [Act.put, List.setIfInBounds_toArray, List.set_cons_zero, List.set_cons_succ]
        refine take_list (i := 6) (v := ?_) rfl (by kernel_rfl) (by kernel_rfl) (by kernel_rfl) (fun _ _ _ h => h) (Or.inl ⟨by rfl, fun w hSw => ?_⟩) hHeld ?_
        rotate_left
        · (obtain ⟨hSw1, hSw2, hSw3, hSw4⟩ := hSw; go_simp)
          try with_reducible rfl
        simp only [Act.put, List.setIfInBounds_toArray, List.set_cons_zero, List.set_cons_succ]
        refine take_list (i := 7) (v := ?_) rfl (by kernel_rfl) (by kernel_rfl) (by kernel_rfl) (fun _ _ _ h => h) (Or.inl ⟨by rfl, fun w hSw => ?_⟩) hHeld ?_
        rotate_left
        · (obtain ⟨hSw1, hSw2, hSw3, hSw4⟩ := hSw; go_simp)
          try with_reducible rfl
        simp only [Act.put, List.setIfInBounds_toArray, List.set_cons_zero, List.set_cons_succ]
        refine take_list (i := 8) (v := ?_) rfl (by kernel_rfl) (by kernel_rfl) (by kernel_rfl) (fun _ _ _ h => h) (Or.inl ⟨by rfl, fun w hSw => ?_⟩) hHeld ?_
        rotate_left
        · (obtain ⟨hSw1, hSw2, hSw3, hSw4⟩ := hSw; go_simp)
          try with_reducible rfl
        simp only [Act.put, List.setIfInBounds_toArray, List.set_cons_zero, List.set_cons_succ]
        refine take_list (i := 9) (v := ?_) rfl (by kernel_rfl) (by kernel_rfl) (by kernel_rfl) (fun _ _ _ h => h) (Or.inl ⟨by rfl, fun w hSw => ?_⟩) hHeld ?_
        rotate_left
        · (obtain ⟨hSw1, hSw2, hSw3, hSw4⟩ := hSw; go_simp)
          try with_reducible rfl
        simp only [Act.put, List.setIfInBounds_toArray, List.set_cons_zero, List.set_cons_succ]
        refine take_list (i := 10) (v := ?_) rfl (by kernel_rfl) (by kernel_rfl) (by kernel_rfl) (fun _ _ _ h => h) (Or.inl ⟨by rfl, fun w hSw => ?_⟩) hHeld ?_
        rotate_left
        · (obtain ⟨hSw1, hSw2, hSw3, hSw4⟩ := hSw; go_simp)
          try with_reducible rfl
        simp only [Act.put, List.setIfInBounds_toArray, List.set_cons_zero, List.set_cons_succ]
        refine take_list (i := 11) (v := ?_) rfl (by kernel_rfl) (by kernel_rfl) (by kernel_rfl) (fun _ _ _ h => h) (Or.inl ⟨by rfl, fun w hSw => ?_⟩) hHeld ?_
        rotate_left
        · (obtain ⟨hSw1, hSw2, hSw3, hSw4⟩ := hSw; go_simp)
          try with_reducible rfl
        simp only [Act.put, List.setIfInBounds_toArray, List.set_cons_zero, List.set_cons_succ]
        refine take_list (i := 12) (v := ?_) rfl (by kernel_rfl) (by kernel_rfl) (by kernel_rfl) (fun _ _ _ h => h) (Or.inl ⟨by rfl, fun w hSw => ?_⟩) hHeld ?_
        rotate_left
        · (obtain ⟨hSw1, hSw2, hSw3, hSw4⟩ := hSw; go_simp)
          try with_reducible rfl
        simp only [Act.put, List.setIfInBounds_toArray, List.set_cons_zero, List.set_cons_succ]
        refine take_list (i := 13) (v := ?_) rfl (by kernel_rfl) (by kernel_rfl) (by kernel_rfl) (fun _ _ _ h => h) (Or.inl ⟨by rfl, fun w hSw => ?_⟩) hHeld ?_
        rotate_left
        · (obtain ⟨hSw1, hSw2, hSw3, hSw4⟩ := hSw; go_simp)
          try with_reducible rfl
        simp only [Act.put, List.setIfInBounds_toArray, List.set_cons_zero, List.set_cons_succ]
        refine take_list (i := 14) (v := ?_) rfl (by kernel_rfl) (by kernel_rfl) (by kernel_rfl) (fun _ _ _ h => h) (Or.inl ⟨by rfl, fun w hSw => ?_⟩) hHeld ?_
        rotate_left
        · (obtain ⟨hSw1, hSw2, hSw3, hSw4⟩ := hSw; go_simp)
          try with_reducible rfl
        simp only [Act.put, List.setIfInBounds_toArray, List.set_cons_zero, List.set_cons_succ]
        refine take_list (i := 15) (v := ?_) rfl (by kernel_rfl) (by kernel_rfl) (by kernel_rfl) (fun _ _ _ h => h) (Or.inl ⟨by rfl, fun w hSw => ?_⟩) hHeld ?_
        rotate_left
        · (obtain ⟨hSw1, hSw2, hSw3, hSw4⟩ := hSw; go_simp)
          try with_reducible rfl
        simp only [Act.put, List.setIfInBounds_toArray, List.set_cons_zero, List.set_cons_succ]
        refine wpAnyH_done (by kernel_rfl) ?_ _
        refine NoPanic.normal ?_
        go_wp2_with fail
        exact ⟨⟨k + 1, by go_num, hlt, HCr.out.drew⟩, by simp [intOf]; omega⟩
      · have hki : ¬ (k : Int) < 8 := by omega
        obtain ⟨w6, hm, ho, hc6⟩ := made_u8 wr 64 (by omega)
        have hm' : (Instr.makeSlice 68 (.int .i64 64) (.int .i64 64)).run Try.prog wr = .ok (.slice (some ⟨wr.heap.size, 0, none⟩) 64 64) w6 := hm
        have HO6 := Lib.hid ho
        have HT6 := Lib.hid ((HT5.out.fresh HCr.out).fresh hc6)
        have HT6r := Lib.hid (HT5.out.fresh HCr.out)
        have hwc : writeC (X.crash keep) 0 64 = 0 := write_ok (by rw [hxB, hL8]; omega)
        have hz0 : inR 0 := by constructor <;> omega
        clear hm ho hc6
        go_wp2_with (first
          | (go_at_call 33; refine (write_at _ HT6.out.x _ hz0 (fuse_le _ _) (b := zeroBlk) HO6.out (fun g hg hF => Nat.not_lt.2 (HO6.out.lt g hg).1 (HT6r.out.x.lt g hF)) (fun j => Nat.lt_of_le_of_lt (crash_L_le X keep j) (HL'.out j))).mono ?_; rw [show zeroBlk.length = 64 from rfl, hwc]; rintro e w7 ⟨rfl, hx7, hcx⟩; have HT7 := Lib.hid (HT6.out.growX hx7 hcx); clear hx7 hcx))
        go_ret
        exact ⟨rfl, HT7.out.chg⟩
    · have hl2 : ¬ (i : Int) < (acts.length : Int) := by omega
      clear hl1 hlt
      go_wp2_with (first
        | (go_at_call 32; refine (crash_at _ HT2.out.swap.x HKw2.out (fun hne g hg hF => Nat.not_lt.2 (HT2.out.oy g hF) (HKo.out hne g hg)) HKr.out HLy'.out).mono ?_; rintro e w3 ⟨rfl, hy3, hcy⟩; have HT3 := Lib.hid (HT2.out.swap.setX hy3 hcy).swap; clear hy3 hcy)
        | (go_at_call 32; refine (crash_at _ HT.out.x HKw.out (fun hne g hg hF => Nat.not_lt.2 (HT.out.ox g hF) (HKo.out hne g hg)) HKr.out HL'.out).mono ?_; rintro e w2 ⟨rfl, hx2, hcx⟩; have HT2 := Lib.hid (HT.out.setX hx2 hcx); have HKw2 := Lib.hid (HKeep.out.kept HT2.out.chg); clear hx2 hcx)
        | (go_at_call 37; refine (up_any _ HT3.out.x).mono ?_; rw [show (X.crash keep).down = false from rfl]; rintro e w9 ⟨rfl, rfl⟩)
        | (go_at_call 40; refine (done_any _ HT3.out.x).mono ?_; rw [hcd]; rintro e w9 ⟨rfl, rfl⟩)
        | (go_at_call 40; refine (done_any _ HT3.out.swap.x).mono ?_; rw [hcdy]; rintro e w9 ⟨rfl, rfl⟩)
        | (go_at_call 31; have _h := HI1; refine (image_at _ HT4.out.swap.x).mono ?_; rintro e w5 ⟨v2, rfl, hi2, hc2⟩; obtain ⟨oa2, cap2, hv2⟩ := hi2.sl; rw [hyB, hL8] at hv2; subst hv2; rw [hyB] at hi2; have HI2 := Lib.hid hi2; have HI1' := Lib.hid (HI1.out.kept hc2 (fun _ _ h => h)); have HT5 := Lib.hid (HT4.out.fresh hc2); clear hi2 hc2)
        | (go_at_call 31; refine (image_at _ HT3.out.x).mono ?_; rintro e w4 ⟨v1, rfl, hi1, hc1⟩; obtain ⟨oa1, cap1, hv1⟩ := hi1.sl; rw [hxB, hL8] at hv1; subst hv1; rw [hxB] at hi1; have HI1 := Lib.hid hi1; have HT4 := Lib.hid (HT3.out.fresh hc1); clear hi1 hc1))
      go_loopw [131] (fun j wr => ∃ k : Nat, j = .int .i64 k ∧ k ≤ 8 ∧ Chg (fun _ => False) w5 wr) (fun j _ => 8 - (intOf j).toNat)
      · exact ⟨0, rfl, Nat.zero_le _, Chg.refl _ _⟩
      obtain ⟨k, rfl, hk8, hcr⟩ := hrel
      have HCr := Lib.hid hcr
      clear hcr
      by_cases hlt : k < 8
      · obtain ⟨ga, ca, g1, e1, d1, x1⟩ := (HI1'.out.kept HCr.out.drew (fun _ _ h => h)).get (i := k) (by rw [hL8]; exact hlt)
        obtain ⟨gb, cb, g2, e2, d2, x2⟩ := (HI2.out.kept HCr.out.drew (fun _ _ h => h)).get (i := k) (by rw [hL8]; exact hlt)
        simp only [Value.slice.injEq] at e1 e2
        obtain ⟨rfl, -, -⟩ := e1
        obtain ⟨rfl, -, -⟩ := e2
        obtain ⟨str, hstr⟩ : ∃ str : ByteArray, ByteArray.mk (Lx[k]'(by rw [hL8]; exact hlt)).toArray = str := ⟨_, rfl⟩
        rw [hstr] at x1 x2
        have hki : (k : Int) < 8 := by omega
        clear hstr
        have X1 := Lib.hid x1
        have X2 := Lib.hid x2
        have D1 := Lib.hid d1
        have D2 := Lib.hid d2
        clear x1 x2 d1 d2
        go_wp2_with fail
        refine wp_region_noPanic ?_
        refine wp_region_held_drew (S := (fun w' => w'.cell? ⟨ga, k, none⟩ = some g1 ∧ (convert 68 9 g1).run Try.prog w' = .ok (.string str) w' ∧ w'.cell? ⟨gb, k, none⟩ = some g2 ∧ (convert 68 9 g2).run Try.prog w' = .ok (.string str) w')) (by kernel_rfl) (⟨D1.out, X1.out, D2.out, X2.out⟩) (fun hHeld => ?_)
        refine take_list (i := 0) (v := ?_) rfl (by kernel_rfl) (by kernel_rfl) (by kernel_rfl) (fun _ _ _ h => h) (Or.inl ⟨by rfl, fun w hSw => ?_⟩) hHeld ?_
        rotate_left
        · (obtain ⟨hSw1, hSw2, hSw3, hSw4⟩ := hSw; go_simp)
          try with_reducible rfl
        simp only [Act.put, List.setIfInBounds_toArray, List.set_cons_zero, List.set_cons_succ]
        refine take_list (i := 1) (v := ?_) rfl (by kernel_rfl) (by kernel_rfl) (by kernel_rfl) (fun _ _ _ h => h) (Or.inl ⟨by rfl, fun w hSw => ?_⟩) hHeld ?_
        rotate_left
        · (obtain ⟨hSw1, hSw2, hSw3, hSw4⟩ := hSw; go_simp)
          try with_reducible rfl
        simp only [Act.put, List.setIfInBounds_toArray, List.set_cons_zero, List.set_cons_succ]
        refine take_list (i := 2) (v := ?_) rfl (by kernel_rfl) (by kernel_rfl) (by kernel_rfl) (fun _ _ _ h => h) (Or.inl ⟨by rfl, fun w hSw => ?_⟩) hHeld ?_
        rotate_left
        · (obtain ⟨hSw1, hSw2, hSw3, hSw4⟩ := hSw; go_simp)
          try with_reducible rfl
        simp only [Act.put, List.setIfInBounds_toArray, List.set_cons_zero, List.set_cons_succ]
        refine take_list (i := 3) (v := ?_) rfl (by kernel_rfl) (by kernel_rfl) (by kernel_rfl) (fun _ _ _ h => h) (Or.inl ⟨by rfl, fun w hSw => ?_⟩) hHeld ?_
        rotate_left
        · (obtain ⟨hSw1, hSw2, hSw3, hSw4⟩ := hSw; go_simp)
          try with_reducible rfl
        simp only [Act.put, List.setIfInBounds_toArray, List.set_cons_zero, List.set_cons_succ]
        refine take_list (i := 4) (v := ?_) rfl (by kernel_rfl) (by kernel_rfl) (by kernel_rfl) (fun _ _ _ h => h) (Or.inl ⟨by rfl, fun w hSw => ?_⟩) hHeld ?_
        rotate_left
        · (obtain ⟨hSw1, hSw2, hSw3, hSw4⟩ := hSw; go_simp)
          try with_reducible rfl
        simp only [Act.put, List.setIfInBounds_toArray, List.set_cons_zero, List.set_cons_succ]
        refine take_list (i := 5) (v := ?_) rfl (by kernel_rfl) (by kernel_rfl) (by kernel_rfl) (fun _ _ _ h => h) (Or.inl ⟨by rfl, fun w hSw => ?_⟩) hHeld ?_
        rotate_left
        · (obtain ⟨hSw1, hSw2, hSw3, hSw4⟩ := hSw; go_simp)
          try with_reducible rfl
        simp only [Act.put, List.setIfInBounds_toArray, List.set_cons_zero, List.set_cons_succ]
        refine take_list (i := 6) (v := ?_) rfl (by kernel_rfl) (by kernel_rfl) (by kernel_rfl) (fun _ _ _ h => h) (Or.inl ⟨by rfl, fun w hSw => ?_⟩) hHeld ?_
        rotate_left
        · (obtain ⟨hSw1, hSw2, hSw3, hSw4⟩ := hSw; go_simp)
          try with_reducible rfl
        simp only [Act.put, List.setIfInBounds_toArray, List.set_cons_zero, List.set_cons_succ]
        refine take_list (i := 7) (v := ?_) rfl (by kernel_rfl) (by kernel_rfl) (by kernel_rfl) (fun _ _ _ h => h) (Or.inl ⟨by rfl, fun w hSw => ?_⟩) hHeld ?_
        rotate_left
        · (obtain ⟨hSw1, hSw2, hSw3, hSw4⟩ := hSw; go_simp)
          try with_reducible rfl
        simp only [Act.put, List.setIfInBounds_toArray, List.set_cons_zero, List.set_cons_succ]
        refine take_list (i := 8) (v := ?_) rfl (by kernel_rfl) (by kernel_rfl) (by kernel_rfl) (fun _ _ _ h => h) (Or.inl ⟨by rfl, fun w hSw => ?_⟩) hHeld ?_
        rotate_left
        · (obtain ⟨hSw1, hSw2, hSw3, hSw4⟩ := hSw; go_simp)
          try with_reducible rfl
        simp only [Act.put, List.setIfInBounds_toArray, List.set_cons_zero, List.set_cons_succ]
        refine take_list (i := 9) (v := ?_) rfl (by kernel_rfl) (by kernel_rfl) (by kernel_rfl) (fun _ _ _ h => h) (Or.inl ⟨by rfl, fun w hSw => ?_⟩) hHeld ?_
        rotate_left
        · (obtain ⟨hSw1, hSw2, hSw3, hSw4⟩ := hSw; go_simp)
          try with_reducible rfl
        simp only [Act.put, List.setIfInBounds_toArray, List.set_cons_zero, List.set_cons_succ]
        refine take_list (i := 10) (v := ?_) rfl (by kernel_rfl) (by kernel_rfl) (by kernel_rfl) (fun _ _ _ h => h) (Or.inl ⟨by rfl, fun w hSw => ?_⟩) hHeld ?_
        rotate_left
        · (obtain ⟨hSw1, hSw2, hSw3, hSw4⟩ := hSw; go_simp)
          try with_reducible rfl
        simp only [Act.put, List.setIfInBounds_toArray, List.set_cons_zero, List.set_cons_succ]
        refine take_list (i := 11) (v := ?_) rfl (by kernel_rfl) (by kernel_rfl) (by kernel_rfl) (fun _ _ _ h => h) (Or.inl ⟨by rfl, fun w hSw => ?_⟩) hHeld ?_
        rotate_left
        · (obtain ⟨hSw1, hSw2, hSw3, hSw4⟩ := hSw; go_simp)
          try with_reducible rfl
        simp only [Act.put, List.setIfInBounds_toArray, List.set_cons_zero, List.set_cons_succ]
        refine take_list (i := 12) (v := ?_) rfl (by kernel_rfl) (by kernel_rfl) (by kernel_rfl) (fun _ _ _ h => h) (Or.inl ⟨by rfl, fun w hSw => ?_⟩) hHeld ?_
        rotate_left
        · (obtain ⟨hSw1, hSw2, hSw3, hSw4⟩ := hSw; go_simp)
          try with_reducible rfl
        simp only [Act.put, List.setIfInBounds_toArray, List.set_cons_zero, List.set_cons_succ]
        refine take_list (i := 13) (v := ?_) rfl (by kernel_rfl) (by kernel_rfl) (by kernel_rfl) (fun _ _ _ h => h) (Or.inl ⟨by rfl, fun w hSw => ?_⟩) hHeld ?_
        rotate_left
        · (obtain ⟨hSw1, hSw2, hSw3, hSw4⟩ := hSw; go_simp)
          try with_reducible rfl
        simp only [Act.put, List.setIfInBounds_toArray, List.set_cons_zero, List.set_cons_succ]
        refine take_list (i := 14) (v := ?_) rfl (by kernel_rfl) (by kernel_rfl) (by kernel_rfl) (fun _ _ _ h => h) (Or.inl ⟨by rfl, fun w hSw => ?_⟩) hHeld ?_
        rotate_left
        · (obtain ⟨hSw1, hSw2, hSw3, hSw4⟩ := hSw; go_simp)
          try with_reducible rfl
        simp only [Act.put, List.setIfInBounds_toArray, List.set_cons_zero, List.set_cons_succ]
        refine take_list (i := 15) (v := ?_) rfl (by kernel_rfl) (by kernel_rfl) (by kernel_rfl) (fun _ _ _ h => h) (Or.inl ⟨by rfl, fun w hSw => ?_⟩) hHeld ?_
        rotate_left
        · (obtain ⟨hSw1, hSw2, hSw3, hSw4⟩ := hSw; go_simp)
          try with_reducible rfl
        simp only [Act.put, List.setIfInBounds_toArray, List.set_cons_zero, List.set_cons_succ]
        refine wpAnyH_done (by kernel_rfl) ?_ _
        refine NoPanic.normal ?_
        go_wp2_with fail
        exact ⟨⟨k + 1, by go_num, hlt, HCr.out.drew⟩, by simp [intOf]; omega⟩
      · have hki : ¬ (k : Int) < 8 := by omega
        obtain ⟨w6, hm, ho, hc6⟩ := made_u8 wr 64 (by omega)
        have hm' : (Instr.makeSlice 68 (.int .i64 64) (.int .i64 64)).run Try.prog wr = .ok (.slice (some ⟨wr.heap.size, 0, none⟩) 64 64) w6 := hm
        have HO6 := Lib.hid ho
        have HT6 := Lib.hid ((HT5.out.fresh HCr.out).fresh hc6)
        have HT6r := Lib.hid (HT5.out.fresh HCr.out)
        have hwc : writeC (X.crash keep) 0 64 = 0 := write_ok (by rw [hxB, hL8]; omega)
        have hz0 : inR 0 := by constructor <;> omega
        clear hm ho hc6
        go_wp2_with (first
          | (go_at_call 33; refine (write_at _ HT6.out.x _ hz0 (fuse_le _ _) (b := zeroBlk) HO6.out (fun g hg hF => Nat.not_lt.2 (HO6.out.lt g hg).1 (HT6r.out.x.lt g hF)) (fun j => Nat.lt_of_le_of_lt (crash_L_le X keep j) (HL'.out j))).mono ?_; rw [show zeroBlk.length = 64 from rfl, hwc]; rintro e w7 ⟨rfl, hx7, hcx⟩; have HT7 := Lib.hid (HT6.out.growX hx7 hcx); clear hx7 hcx))
        go_ret
        exact ⟨rfl, HT7.out.chg⟩

set_option maxRecDepth 100000 in
theorem lifted (os : Os) (started : os.Started) (H : Type) (enc : TypeId × Value → H) :
    ReturnsInHanded {} Try.checked os 10 .any (Rows.diskFusesSpec.pre6 enc Try.prog Try.f10 [] false) (Rows.diskFusesSpec.post enc Try.prog Try.f10 false true false false) := by
  refine law_handed (C := Try.checked) (tb := 4) own started (by kernel_rfl) Try.func10
    (ChangeSpec.witness6 (enc := enc) (C := Try.checked) false ⟨#[], #[.slice none 0 0, .int .i64 0, .slice none 0 0], []⟩ 8 (by kernel_rfl) (by kernel_rfl) (by kernel_rfl) (by kernel_rfl))
    laidOut (by rw [show Try.checked.prog = Try.prog from rfl, Try.params10]; intro t ht; simp at ht; rcases ht with rfl | rfl | rfl <;> exact ⟨by kernel_rfl, of_decide_eq_true (by kernel_rfl)⟩) rfl rfl Try.underlying4 ?_ ?_
  · intro ds hds
    rw [Try.params10] at hds
    match ds, hds with
    | [_, _, _], _ => rfl
  · intro W base args ds before hval0 hA0 _ _
    have hval : ∀ (j : Nat) t v, Try.f10.params[j]? = some t → args[j]? = some v → Value.okWide Try.prog W .any base t v := hval0
    have hA : DataW.TrodAll enc Try.prog W 0 (fun _ => true) true Try.f10.params.toList args.toList ds before := hA0
    rw [Try.params10] at hA hval
    obtain ⟨v0, vs0, d0, ds0, p0, q0, hargs, rfl, rfl, h0, r0⟩ := trodAll_cons hA
    obtain ⟨v1, vs1, d1, ds1, p1, q1, rfl, rfl, rfl, h1, r1⟩ := trodAll_cons r0
    obtain ⟨v2, vs2, d2, ds2, p2, q2, rfl, rfl, rfl, h2, r2⟩ := trodAll_cons r1
    obtain ⟨rfl, rfl, rfl⟩ := trodAll_nil r2
    obtain rfl : args = #[v0, v1, v2] := by cases args; simp_all
    obtain ⟨oa0, l0, cap0, rfl, -, -, g0, ok0⟩ := open_acts (hval 0 54 v0 rfl rfl) h0
    obtain ⟨a1, rfl, rfl, rfl, w1⟩ := open_int Try.underlying3 (hval 1 3 v1 rfl rfl) h1
    obtain ⟨zs2, s2, z2, -⟩ := open_ints (hval 2 41 v2 rfl rfl) h2
    exact walk W oa0 cap0 l0 g0 ok0 a1 (wf_inR w1) v2 zs2 s2 z2

theorem over : Rows.diskFusesRow.holds Try.pinned (OpenSpec.ofChange Rows.diskFusesSpec) :=
  OpenClaim.holds_of_wide 10 Try.f10 rfl rfl rfl rfl rfl rfl rfl ⟨rfl, rfl, rfl, rfl, rfl⟩ rfl rfl rfl rfl rfl (by kernel_rfl) Try.func10 (by kernel_rfl)
    (of_decide_eq_true (by kernel_rfl)) (by unfold Func.isWrapper; first | (rw [if_pos (by decide +kernel)]; kernel_rfl) | (rw [if_neg (by decide +kernel)]; exact ⟨rfl, rfl⟩))
    (fun os started H enc _ => lifted os started H enc)

theorem proved : Rows.DiskFusesSaid := over
#print axioms proved


end Go.Proofs.Ytomceindibnpnaa.diskFuses

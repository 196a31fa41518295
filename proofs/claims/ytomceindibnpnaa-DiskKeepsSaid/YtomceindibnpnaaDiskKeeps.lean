/-
  DiskKeeps, whole: for all acts and every list of what is kept the law returns true and changes nothing that was there. No condition.
-/
import Derived.Test.YtomceindibnpnaaDiskKeepsLaw
import Derived.Test.YtomceindibnpnaaRows
namespace Go.Proofs.Ytomceindibnpnaa.diskKeeps
open Go.ChangeShapes Go.WideShapes Go.ChangeAt Go.RowKit Go.My disks

/-- Two arrays made, then stored into. -/
theorem two_arrs (w1 : World) {al ls : List Value} (ha : al.length = 8) (hl : ls.length = 8) {wX : World} (hX : wX = (w1.alloc (.cells #[.string ⟨#[]⟩, .string ⟨#[]⟩, .string ⟨#[]⟩, .string ⟨#[]⟩, .string ⟨#[]⟩, .string ⟨#[]⟩, .string ⟨#[]⟩, .string ⟨#[]⟩] 56)).alloc (.cells #[.slice none 0 0, .slice none 0 0, .slice none 0 0, .slice none 0 0, .slice none 0 0, .slice none 0 0, .slice none 0 0, .slice none 0 0] 58)) :
    wX.there w1.heap.size 0 al.length ∧ (wX.setCells w1.heap.size 0 al).there (w1.heap.size + 1) 0 ls.length ∧ Chg (fun _ => False) w1 ((wX.setCells w1.heap.size 0 al).setCells (w1.heap.size + 1) 0 ls) ∧
      Arr ((wX.setCells w1.heap.size 0 al).setCells (w1.heap.size + 1) 0 ls) w1.heap.size 56 al ∧ Arr ((wX.setCells w1.heap.size 0 al).setCells (w1.heap.size + 1) 0 ls) (w1.heap.size + 1) 58 ls := by
  have a1 : Arr wX w1.heap.size 56 (List.replicate 8 (.string ⟨#[]⟩)) := by
    subst hX; unfold Arr; simp only [heap_alloc_get, World.size_alloc]; rw [if_neg (by omega), if_pos trivial]; rfl
  have a2 : Arr wX (w1.heap.size + 1) 58 (List.replicate 8 nilS) := by
    subst hX; unfold Arr; simp only [heap_alloc_get, World.size_alloc]; rw [if_pos trivial]; rfl
  have cX : Chg (fun _ => False) w1 wX := by subst hX; exact ((Chg.refl _ _).alloc _).alloc _
  have c1 := chg_setCells w1.heap.size al 0 wX
  have c2 := chg_setCells (w1.heap.size + 1) ls 0 (wX.setCells w1.heap.size 0 al)
  have b1 := a1.all (vs := al) (by simp [ha])
  have b2 := a2.kept c1 (by omega)
  refine ⟨?_, ?_, (cX.new c1 (fun k e => by omega)).new c2 (fun k e => by omega), b1.kept c2 (by omega), b2.all (by simp [hl])⟩
  · have := a1.there; rw [List.length_replicate] at this; rw [ha]; exact this
  · have := b2.there; rw [List.length_replicate] at this; rw [hl]; exact this

theorem bg_ls_one {W w : World} {F : Nat → Prop} {d n : Nat} {X : DV} {ls : List Value} (h : BgOut W w F d X ls n) : ∀ x ∈ ls, x.oneCell' = true := by
  intro x hx
  obtain ⟨j, hj⟩ := List.getElem?_of_mem hx
  obtain ⟨oax, cx, e⟩ := own_slice (h.each j x hj)
  rw [e]; rfl

theorem read_at {w : World} {d : Nat} {F : Nat → Prop} {X : DV} (h : DiskAt w d F X) (i : Int) (hi : inR i) :
    Calls Try.prog 35 #[.pointer (some ⟨d, 0, none⟩), .int .i64 i] w fun e w' => ∃ v, e = .returned (.tuple #[v, .int .i64 (askedC X i)]) ∧
      w'.ownsRow w.heap.size 5 1 v (if askedC X i = 0 then 64 else 0) (cellsB (if askedC X i = 0 then X.cur i.toNat else [])) ∧ Chg (fun _ => False) w w' := by
  obtain ⟨bv, q, m, h⟩ := h
  exact read_any w h i hi



set_option maxRecDepth 100000 in
set_option maxHeartbeats 4000000 in
theorem walk (W : World) (oa : Option Addr) (cap : Nat) (acts : List DAct) (hacts : RowsAt W 5 oa (acts.map DAct.row)) (hok : ∀ a ∈ acts, a.ok W)
    (kv : Value) (keep : List Int) (hkeep : SlAt W kv (keep.map (Value.int .i64))) (hkr : ∀ z ∈ keep, inR z) :
    Calls Try.prog 9 #[.slice oa acts.length cap, kv] W fun e w' => e = .returned (.bool true) ∧ Chg (fun _ => False) W w' := by
  have HKeep := Lib.hid hkeep
  have HKr := Lib.hid hkr
  obtain ⟨oak, capk, rfl, -, -⟩ := hkeep
  rw [List.length_map] at HKeep ⊢
  have hbeg := begun_any W oa cap acts hacts hok
  have HBeg := Lib.hid hbeg
  clear hkr hacts hok hbeg
  go_enter Try.func9, Try.ntmps9
  go_wp2_with (first
    | (go_at_call 29; refine HBeg.out.mono ?_; rintro e w1 ⟨d, F, X, ls, n, rfl, hB, hn⟩
       have HB := Lib.hid hB
       have HNn := Lib.hid hn
       obtain ⟨al, hal⟩ : ∃ al, X.B.map strV = al := ⟨_, rfl⟩
       have hall : al.length = 8 := by rw [← hal, List.length_map]; exact hB.len
       rw [hal]
       have HTA := Lib.hid (two_arrs w1 hall hB.ll rfl)
       have HSz1 := Lib.hid (show (Try.prog.info? 56).map (·.size) = some al.toArray.size from by rw [List.size_toArray, hall]; exact size_s8)
       have HSz2 := Lib.hid (show (Try.prog.info? 58).map (·.size) = some ls.toArray.size from by rw [List.size_toArray, hB.ll]; exact size_ss8)
       have HO1 := Lib.hid (show al.toArray.all (·.oneCell') = true from all_oneCell_toArray (by rw [← hal]; exact one_map' _ trivial))
       have HO2 := Lib.hid (show ls.toArray.all (·.oneCell') = true from all_oneCell_toArray (bg_ls_one hB))
       have HAl := Lib.hid hal
       clear hB hal hall hn)
    | (refine wpList_store_mid rfl 56 _ _ rfl w1.heap.size 0 al.toArray rfl rfl (by rw [List.size_toArray]; exact HTA.out.1) HSz1.out HO1.out ?_; rw [List.toList_toArray])
    | (refine wpList_store_mid rfl 58 _ _ rfl (w1.heap.size + 1) 0 ls.toArray rfl rfl (by rw [List.size_toArray]; exact HTA.out.2.1) HSz2.out HO2.out ?_; rw [List.toList_toArray]
       obtain ⟨w2, hw2⟩ : ∃ w2, (((w1.alloc (.cells #[.string ⟨#[]⟩, .string ⟨#[]⟩, .string ⟨#[]⟩, .string ⟨#[]⟩, .string ⟨#[]⟩, .string ⟨#[]⟩, .string ⟨#[]⟩, .string ⟨#[]⟩] 56)).alloc (.cells #[.slice none 0 0, .slice none 0 0, .slice none 0 0, .slice none 0 0, .slice none 0 0, .slice none 0 0, .slice none 0 0, .slice none 0 0] 58)).setCells w1.heap.size 0 al).setCells (w1.heap.size + 1) 0 ls = w2 := ⟨_, rfl⟩
       rw [hw2]
       have HC2 := Lib.hid (show Chg (fun _ => False) w1 w2 from by rw [← hw2]; exact HTA.out.2.2.1)
       have HA1 := Lib.hid (show Arr w2 w1.heap.size 56 al from by rw [← hw2]; exact HTA.out.2.2.2.1)
       have HA2 := Lib.hid (show Arr w2 (w1.heap.size + 1) 58 ls from by rw [← hw2]; exact HTA.out.2.2.2.2)
       clear hw2))
  have hLx : ∀ j, (X.L j).length < 1000000 := fun j => by have := HB.out.Ls j; have := HNn.out; omega
  have HLx := Lib.hid hLx
  have hW2 : Chg (fun _ => False) W w2 := HB.out.chg.trans' HC2.out
  have HW2 := Lib.hid hW2
  have hko : keep ≠ [] → ∀ g, (Value.slice oak keep.length capk).ownBlock = some g → g < W.heap.size := fun hne g hg => slat_old HKeep.out (by intro e; exact hne (List.map_eq_nil_iff.1 e)) hg
  have HKo := Lib.hid hko
  obtain ⟨C, hCx⟩ : ∃ C, X.crash keep = C := ⟨_, rfl⟩
  have hC8 : C.B.length = 8 := by rw [← hCx, crash_len]; exact HB.out.len
  have hcd : C.down = false := by rw [← hCx]; rfl
  have HCx := Lib.hid hCx
  have HD2 := Lib.hid (HB.out.disk.fresh HC2.out)
  have HF1 := Lib.hid (show ∀ k, F k → k < w1.heap.size from HB.out.disk.lt)
  clear hLx hW2 hko hCx
  refine (crash_at _ HD2.out (HKeep.out.kept HW2.out) (fun hne g hg hF => Nat.not_lt.2 (HB.out.old g hF) (HKo.out hne g hg)) HKr.out HLx.out).mono ?_
  rintro e w3 ⟨rfl, hx3, hc3⟩
  rw [HCx.out] at hx3
  have HD3 := Lib.hid hx3
  have HC3 := Lib.hid hc3
  have HW3 := Lib.hid (HW2.out.new hc3 HB.out.old)
  clear hx3 hc3
  go_wp2_with (first
    | (go_at_call 31; refine (image_at _ HD3.out).mono ?_; rintro e w4 ⟨v1, rfl, hi1, hc4⟩; obtain ⟨oai, capi, hv1⟩ := hi1.sl; rw [hC8] at hv1; subst hv1; have HI := Lib.hid hi1; have HC4 := Lib.hid hc4; clear hi1 hc4))
  go_loopw [10, 33] (fun pl j wr => ∃ i : Nat, j = .int .i64 i ∧ i ≤ 8 ∧ pl = .int .i64 (placeOf X i) ∧ Chg (fun _ => False) w4 wr) (fun _ j _ => 8 - (intOf j).toNat)
  · exact ⟨0, rfl, Nat.zero_le _, rfl, Chg.refl _ _⟩
  obtain ⟨i, rfl, hi8, rfl, hcr⟩ := hrel
  have HCr := Lib.hid hcr
  clear hcr
  by_cases hlt : i < 8
  · have hki : (i : Int) < 8 := by omega
    have hiB : i < X.B.length := by rw [HB.out.len]; exact hlt
    have hiC : i < C.B.length := by rw [hC8]; exact hlt
    have hnA1 : ¬ F w1.heap.size := fun h => Nat.lt_irrefl _ (HF1.out _ h)
    have hnA2 : ¬ F (w1.heap.size + 1) := fun h => by have := HF1.out _ h; omega
    have ha1 := ((HA1.out.kept HC3.out hnA1).kept HC4.out id).kept HCr.out id
    have ha2 := ((HA2.out.kept HC3.out hnA2).kept HC4.out id).kept HCr.out id
    rw [← HAl.out] at ha1
    obtain ⟨b, hb⟩ : ∃ b, C.B[i]? = some b := ⟨C.B[i], List.getElem?_eq_getElem hiC⟩
    obtain ⟨x, hx⟩ : ∃ x, X.B[i]? = some x := ⟨X.B[i], List.getElem?_eq_getElem hiB⟩
    obtain ⟨v, hv⟩ : ∃ v, ls[i]? = some v := ⟨ls[i]'(by rw [HB.out.ll]; exact hlt), List.getElem?_eq_getElem _⟩
    have hrow := row_kept (row_kept (row_kept (row_kept (HB.out.each i v hv) HC2.out (fun _ _ h => h)) HC3.out (fun g hg => HB.out.off i v g hv hg)) HC4.out (fun _ _ h => h)) HCr.out (fun _ _ h => h)
    have hc1 : wr.cell? ⟨w1.heap.size, i, none⟩ = some (strV x) := cell_of_block ha1 (by simp [hx])
    have hc2 : wr.cell? ⟨w1.heap.size + 1, i, none⟩ = some v := cell_of_block ha2 (by simpa using hv)
    obtain ⟨hCL, hCn, hCs⟩ := crash_keeps X keep hiB
    rw [HCx.out, hb, hx] at hCn hCs
    rw [HCx.out] at hCL
    have hcur : C.cur i = b := by simp [DV.cur, hCL, hb]
    have hask : askedC C (i : Int) = 0 := by simp [askedC, hcd, hC8]; omega
    have hiR : inR (i : Int) := by constructor <;> omega
    have hpl := placeOf_le X i
    have hps := placeOf_succ X i
    obtain ⟨p, hp⟩ : ∃ p, placeOf X i = p := ⟨_, rfl⟩
    rw [hp] at hpl hps hCs ⊢
    obtain ⟨sb, hsb⟩ : ∃ sb : ByteArray, (⟨b.toArray⟩ : ByteArray) = sb := ⟨_, rfl⟩
    have hHI : ∀ w', Chg (fun _ => False) wr w' → ∃ ga ca g1, Value.slice oai 8 capi = .slice (some ⟨ga, 0, none⟩) C.B.length ca ∧ w'.cell? ⟨ga, i, none⟩ = some g1 ∧ (convert 68 9 g1).run Try.prog w' = .ok (.string sb) w' := fun w' hc => by
      obtain ⟨ga, ca, g1, e1, d1, x1⟩ := (HI.out.kept (HCr.out.trans' hc) (fun _ _ h => h)).get hiC
      rw [List.getElem?_eq_getElem hiC] at hb
      cases hb
      rw [hsb] at x1
      exact ⟨ga, ca, g1, e1, d1, x1⟩
    have HHI := Lib.hid hHI
    have HRd : Hid (∀ w', Chg (fun _ => False) wr w' → DiskAt w' d F C) := Lib.hid (fun w' hc => ((HD3.out.fresh HC4.out).fresh HCr.out).fresh hc)
    have HCur := Lib.hid hcur
    have HSb := Lib.hid hsb
    have HRow := Lib.hid hrow
    have HCn := Lib.hid hCn
    have HCs := Lib.hid hCs
    have HPs := Lib.hid hps
    obtain ⟨oav, capv, rfl⟩ := own_slice hrow
    clear ha1 ha2 hb hx hv hrow hCL hCn hCs hcur hsb hHI hps hp hnA1 hnA2
    rcases List.eq_nil_or_concat (X.L i) with hL | ⟨l0, b0, hL⟩
    · have hxs : strV x = .string sb := by
        have := HCn.out hL
        simp only [Option.some.injEq] at this
        rw [← HSb.out, this]; rfl
      rw [hxs] at hc1
      have hpp : placeOf X (i + 1) = p := by rw [HPs.out, if_pos hL]; rfl
      have HPp := Lib.hid hpp
      have hN : (X.L i).length = 0 := by rw [hL]; rfl
      rw [hN] at hc2 HRow
      have hcw := Chg.refl (fun _ => False) wr
      have HCw := Lib.hid hcw
      clear hL hpp hN hxs hcw
      go_wp2_with (first
        | (go_at_call 35; refine (read_at (HRd.out _ HCw.out) (i : Int) hiR).mono ?_; rw [hask, if_pos rfl, if_pos rfl, Int.toNat_natCast]; rintro e w5 ⟨v3, rfl, hv3, hc5⟩
           rw [HCur.out] at hv3
           have hcv3 : (convert 68 9 v3).run Try.prog w5 = .ok (.string sb) w5 := by rw [← HSb.out]; exact conv_own hv3
           obtain ⟨ga, ca, g1, e1, d1, x1⟩ := HHI.out w5 (HCw.out.trans' hc5)
           simp only [Value.slice.injEq] at e1
           obtain ⟨rfl, -, -⟩ := e1
           have HC5 := Lib.hid (HCw.out.trans' hc5)
           clear hv3 hc5))
      exact ⟨⟨i + 1, by go_num, hlt, by rw [HPp.out], HCr.out.trans' HC5.out⟩, by simp [intOf]; omega⟩
    · rw [List.concat_eq_append] at hL
      have hne : X.L i ≠ [] := by rw [hL]; simp
      have hpp : placeOf X (i + 1) = p + 1 := by rw [HPs.out, if_neg hne]
      have HPp := Lib.hid hpp
      have hcs := HCs.out hne
      obtain ⟨N, hN⟩ : ∃ N, (X.L i).length = N := ⟨_, rfl⟩
      have hN1 : 0 < N := by rw [← hN, hL]; simp
      have hN2 : N < 1000000 := by rw [← hN]; exact HLx.out i
      rw [hN] at hc2 HRow hcs
      have hNp : (0 : Int) < (N : Int) := by omega
      obtain ⟨sx, hsx⟩ : ∃ sx : ByteArray, (⟨x.toArray⟩ : ByteArray) = sx := ⟨_, rfl⟩
      have hxe : b = x → sx = sb := fun e => by rw [← hsx, ← HSb.out, e]
      rw [strV, hsx] at hc1
      have HN := Lib.hid hN
      have HL := Lib.hid hL
      clear hne hpp hN hsx hL
      cases hz : keep[p]? with
      | none =>
        have hm0 : keepAt keep p N = 0 := by simp [keepAt, hz]
        rw [hm0, if_neg (Nat.lt_irrefl 0)] at hcs
        rw [hxe (Option.some.inj hcs)] at hc1
        have hkn : ¬ (p : Int) < (keep.length : Int) := by have := List.getElem?_eq_none_iff.1 hz; omega
        have HCw := Lib.hid (Chg.refl (fun _ => False) wr)
        clear hm0 hcs hz hxe
        go_wp2_with (first
          | (go_at_call 35; refine (read_at (HRd.out _ HCw.out) (i : Int) hiR).mono ?_; rw [hask, if_pos rfl, if_pos rfl, Int.toNat_natCast]; rintro e w5 ⟨v3, rfl, hv3, hc5⟩
             rw [HCur.out] at hv3
             have hcv3 : (convert 68 9 v3).run Try.prog w5 = .ok (.string sb) w5 := by rw [← HSb.out]; exact conv_own hv3
             obtain ⟨ga, ca, g1, e1, d1, x1⟩ := HHI.out w5 (HCw.out.trans' hc5)
             simp only [Value.slice.injEq] at e1
             obtain ⟨rfl, -, -⟩ := e1
             have HC5 := Lib.hid (HCw.out.trans' hc5)
             clear hv3 hc5))
        exact ⟨⟨i + 1, by go_num, hlt, by rw [HPp.out]; go_num, HCr.out.trans' HC5.out⟩, meas_step hlt⟩
      | some z =>
        obtain ⟨hkn', hkz⟩ := List.getElem?_eq_some_iff.1 hz
        have hkn : (p : Int) < (keep.length : Int) := by omega
        obtain ⟨gk, ok, hoa, -, hck⟩ := HKeep.out.cell (k := p) (by simpa using hkn')
        simp only [List.getElem_map, hkz] at hck
        subst hoa
        have hkc : wr.cell? ⟨gk, ok + p, none⟩ = some (.int .i64 z) := ((HW3.out.trans' HC4.out).trans' HCr.out).cell hck id
        have hzr := HKr.out z (List.mem_of_getElem? hz)
        by_cases hz0 : 0 ≤ z
        · have hm0 : keepAt keep p N = z.toNat % (N + 1) := by simp [keepAt, hz, hz0]
          have hlt1 : z.toNat % (N + 1) < N + 1 := Nat.mod_lt _ (by omega)
          have hrem : z.tmod ((N : Int) + 1) = ((z.toNat % (N + 1) : Nat) : Int) := tmod_keep z hz0 _
          obtain ⟨mm, hmm⟩ : ∃ mm, z.toNat % (N + 1) = mm := ⟨_, rfl⟩
          rw [hmm] at hm0 hlt1 hrem
          rw [hm0] at hcs
          have hne1 : ¬ (N : Int) + 1 = 0 := ne_succ _
          clear hmm hm0 hz hck hkz hkn'
          rcases Nat.eq_zero_or_pos mm with rfl | hmpos
          · rw [if_neg (Nat.lt_irrefl 0)] at hcs
            rw [hxe (Option.some.inj hcs)] at hc1
            have hlw : wrap64 ((N : Int) + 1) = (N : Int) + 1 := wrap_succ _ hN2
            have hlw2 : IntKind.i64.wrap ((N : Int) + 1) = (N : Int) + 1 := (IntWalk.i64_left _).trans hlw
            clear hcs hxe
            go_wp2_with fail
            refine wp_region_noPanic ?_
            refine wp_region_held_drew (S := (fun w' => w'.cell? ⟨gk, ok + p, none⟩ = some (.int .i64 z) ∧ w'.cell? ⟨w1.heap.size + 1, i, none⟩ = some (.slice oav N capv))) (by kernel_rfl) (⟨hkc, hc2⟩) (fun hHeld => ?_)
            refine take_list (i := 0) (v := ?_) rfl (by kernel_rfl) (by kernel_rfl) (by kernel_rfl) (fun _ _ _ h => h) (Or.inl ⟨by rfl, fun w hSw => ?_⟩) hHeld ?_
            rotate_left
            · (obtain ⟨hSw1, hSw2⟩ := hSw; go_simp)
              try with_reducible rfl
            simp only [Act.put, List.setIfInBounds_toArray, List.set_cons_zero, List.set_cons_succ]
            refine take_list (i := 1) (v := ?_) rfl (by kernel_rfl) (by kernel_rfl) (by kernel_rfl) (fun _ _ _ h => h) (Or.inl ⟨by rfl, fun w hSw => ?_⟩) hHeld ?_
            rotate_left
            · (obtain ⟨hSw1, hSw2⟩ := hSw; go_simp)
              try with_reducible rfl
            simp only [Act.put, List.setIfInBounds_toArray, List.set_cons_zero, List.set_cons_succ]
            refine take_list (i := 2) (v := ?_) rfl (by kernel_rfl) (by kernel_rfl) (by kernel_rfl) (fun _ _ _ h => h) (Or.inl ⟨by rfl, fun w hSw => ?_⟩) hHeld ?_
            rotate_left
            · (obtain ⟨hSw1, hSw2⟩ := hSw; go_simp)
              try with_reducible rfl
            simp only [Act.put, List.setIfInBounds_toArray, List.set_cons_zero, List.set_cons_succ]
            refine take_list (i := 3) (v := ?_) rfl (by kernel_rfl) (by kernel_rfl) (by kernel_rfl) (fun _ _ _ h => h) (Or.inl ⟨by rfl, fun w hSw => ?_⟩) hHeld ?_
            rotate_left
            · (obtain ⟨hSw1, hSw2⟩ := hSw; go_simp)
              try with_reducible rfl
            simp only [Act.put, List.setIfInBounds_toArray, List.set_cons_zero, List.set_cons_succ]
            refine take_list (i := 4) (v := ?_) rfl (by kernel_rfl) (by kernel_rfl) (by kernel_rfl) (fun _ _ _ h => h) (Or.inl ⟨by rfl, fun w hSw => ?_⟩) hHeld ?_
            rotate_left
            · (obtain ⟨hSw1, hSw2⟩ := hSw; go_simp)
              try with_reducible rfl
            simp only [Act.put, List.setIfInBounds_toArray, List.set_cons_zero, List.set_cons_succ]
            refine take_list (i := 5) (v := ?_) rfl (by kernel_rfl) (by kernel_rfl) (by kernel_rfl) (fun _ _ _ h => h) (Or.inl ⟨by rfl, fun w hSw => ?_⟩) hHeld ?_
            rotate_left
            · (obtain ⟨hSw1, hSw2⟩ := hSw; go_simp)
              try with_reducible rfl
            simp only [Act.put, List.setIfInBounds_toArray, List.set_cons_zero, List.set_cons_succ]
            refine take_list (i := 6) (v := ?_) rfl (by kernel_rfl) (by kernel_rfl) (by kernel_rfl) (fun _ _ _ h => h) (Or.inl ⟨by rfl, fun w hSw => ?_⟩) hHeld ?_
            rotate_left
            · (obtain ⟨hSw1, hSw2⟩ := hSw; go_simp)
              try with_reducible rfl
            simp only [Act.put, List.setIfInBounds_toArray, List.set_cons_zero, List.set_cons_succ]
            refine take_list (i := 7) (v := ?_) rfl (by kernel_rfl) (by kernel_rfl) (by kernel_rfl) (fun _ _ _ h => h) (Or.inl ⟨by rfl, fun w hSw => ?_⟩) hHeld ?_
            rotate_left
            · (obtain ⟨hSw1, hSw2⟩ := hSw; go_simp)
              try with_reducible rfl
            simp only [Act.put, List.setIfInBounds_toArray, List.set_cons_zero, List.set_cons_succ]
            refine take_list (i := 8) (v := ?_) rfl (by kernel_rfl) (by kernel_rfl) (by kernel_rfl) (fun _ _ _ h => h) (Or.inl ⟨by rfl, fun w hSw => ?_⟩) hHeld ?_
            rotate_left
            · (obtain ⟨hSw1, hSw2⟩ := hSw; go_simp)
              try with_reducible rfl
            simp only [Act.put, List.setIfInBounds_toArray, List.set_cons_zero, List.set_cons_succ]
            refine take_list (i := 9) (v := ?_) rfl (by kernel_rfl) (by kernel_rfl) (by kernel_rfl) (fun _ _ _ h => h) (Or.inl ⟨by rfl, fun w hSw => ?_⟩) hHeld ?_
            rotate_left
            · (obtain ⟨hSw1, hSw2⟩ := hSw; go_simp)
              try with_reducible rfl
            simp only [Act.put, List.setIfInBounds_toArray, List.set_cons_zero, List.set_cons_succ]
            refine take_list (i := 10) (v := ?_) rfl (by kernel_rfl) (by kernel_rfl) (by kernel_rfl) (fun _ _ _ h => h) (Or.inl ⟨by rfl, fun w hSw => ?_⟩) hHeld ?_
            rotate_left
            · (obtain ⟨hSw1, hSw2⟩ := hSw; go_simp)
              try with_reducible rfl
            simp only [Act.put, List.setIfInBounds_toArray, List.set_cons_zero, List.set_cons_succ]
            refine wpAnyH_done (by kernel_rfl) ?_ _
            refine NoPanic.normal ?_
            obtain ⟨wd, hwd⟩ : ∃ wd, wr.drew = wd := ⟨_, rfl⟩
            rw [hwd]
            have hcd2 : wd.cell? ⟨w1.heap.size + 1, i, none⟩ = some (.slice oav N capv) := by rw [← hwd]; exact hc2
            have HCw := Lib.hid (show Chg (fun _ => False) wr wd from by rw [← hwd]; exact (Chg.refl _ _).drew)
            clear hwd hlw hlw2 hrem hne1
            go_wp2_with (first
              | (go_at_call 35; refine (read_at (HRd.out _ HCw.out) (i : Int) hiR).mono ?_; rw [hask, if_pos rfl, if_pos rfl, Int.toNat_natCast]; rintro e w5 ⟨v3, rfl, hv3, hc5⟩
                 rw [HCur.out] at hv3
                 have hcv3 : (convert 68 9 v3).run Try.prog w5 = .ok (.string sb) w5 := by rw [← HSb.out]; exact conv_own hv3
                 obtain ⟨ga, ca, g1, e1, d1, x1⟩ := HHI.out w5 (HCw.out.trans' hc5)
                 simp only [Value.slice.injEq] at e1
                 obtain ⟨rfl, -, -⟩ := e1
                 have HC5 := Lib.hid (HCw.out.trans' hc5)
                 clear hv3 hc5))
            exact ⟨⟨i + 1, by go_num, hlt, by rw [HPp.out]; go_num, HCr.out.trans' HC5.out⟩, meas_step hlt⟩
          · obtain ⟨mp, rfl⟩ : ∃ mp, mm = mp + 1 := ⟨mm - 1, (Nat.succ_pred_eq_of_pos hmpos).symm⟩
            have hmp : mp < N := Nat.lt_of_succ_lt_succ hlt1
            rw [if_pos hmpos, Nat.add_sub_cancel] at hcs
            obtain ⟨g, rfl, hgc⟩ : ∃ g, oav = some ⟨g, 0, none⟩ ∧ ∀ w', Chg (fun _ => False) wr w' → w'.cell? ⟨g, mp, none⟩ = some (.string sb) := by
              rcases HRow.out.2 with ⟨e1, h0⟩ | ⟨g, cap', cur, e1, -, hg, -⟩
              · omega
              · simp only [Value.slice.injEq] at e1
                obtain ⟨rfl, -, rfl⟩ := e1
                refine ⟨g, rfl, fun w' hc => ?_⟩
                obtain ⟨hx', c1, -, -, -⟩ := own_cell HRow.out hmp
                refine hc.cell (c1.trans ?_) id
                have hml : mp < (X.L i).length := by rw [HN.out]; exact hmp
                rw [List.getElem?_eq_getElem hml] at hcs
                simp only [Option.getD_some, Option.some.injEq] at hcs
                rw [List.getElem_map, ← hcs, strV, HSb.out]
            have HGc := Lib.hid hgc
            have hmpi : (mp : Int) < (N : Int) := Int.ofNat_lt.2 hmp
            have hmp0 : (0 : Int) < (mp : Int) + 1 := by clear hrem; omega
            have hlw : wrap64 ((N : Int) + 1) = (N : Int) + 1 := wrap_succ _ hN2
            have hlw2 : IntKind.i64.wrap ((N : Int) + 1) = (N : Int) + 1 := (IntWalk.i64_left _).trans hlw
            clear hcs hxe hgc
            go_wp2_with fail
            refine wp_region_noPanic ?_
            refine wp_region_held_drew (S := (fun w' => w'.cell? ⟨gk, ok + p, none⟩ = some (.int .i64 z) ∧ w'.cell? ⟨w1.heap.size + 1, i, none⟩ = some (.slice (some ⟨g, 0, none⟩) N capv))) (by kernel_rfl) (⟨hkc, hc2⟩) (fun hHeld => ?_)
            refine take_list (i := 0) (v := ?_) rfl (by kernel_rfl) (by kernel_rfl) (by kernel_rfl) (fun _ _ _ h => h) (Or.inl ⟨by rfl, fun w hSw => ?_⟩) hHeld ?_
            rotate_left
            · (obtain ⟨hSw1, hSw2⟩ := hSw; go_simp)
              try with_reducible rfl
            simp only [Act.put, List.setIfInBounds_toArray, List.set_cons_zero, List.set_cons_succ]
            refine take_list (i := 1) (v := ?_) rfl (by kernel_rfl) (by kernel_rfl) (by kernel_rfl) (fun _ _ _ h => h) (Or.inl ⟨by rfl, fun w hSw => ?_⟩) hHeld ?_
            rotate_left
            · (obtain ⟨hSw1, hSw2⟩ := hSw; go_simp)
              try with_reducible rfl
            simp only [Act.put, List.setIfInBounds_toArray, List.set_cons_zero, List.set_cons_succ]
            refine take_list (i := 2) (v := ?_) rfl (by kernel_rfl) (by kernel_rfl) (by kernel_rfl) (fun _ _ _ h => h) (Or.inl ⟨by rfl, fun w hSw => ?_⟩) hHeld ?_
            rotate_left
            · (obtain ⟨hSw1, hSw2⟩ := hSw; go_simp)
              try with_reducible rfl
            simp only [Act.put, List.setIfInBounds_toArray, List.set_cons_zero, List.set_cons_succ]
            refine take_list (i := 3) (v := ?_) rfl (by kernel_rfl) (by kernel_rfl) (by kernel_rfl) (fun _ _ _ h => h) (Or.inl ⟨by rfl, fun w hSw => ?_⟩) hHeld ?_
            rotate_left
            · (obtain ⟨hSw1, hSw2⟩ := hSw; go_simp)
              try with_reducible rfl
            simp only [Act.put, List.setIfInBounds_toArray, List.set_cons_zero, List.set_cons_succ]
            refine take_list (i := 4) (v := ?_) rfl (by kernel_rfl) (by kernel_rfl) (by kernel_rfl) (fun _ _ _ h => h) (Or.inl ⟨by rfl, fun w hSw => ?_⟩) hHeld ?_
            rotate_left
            · (obtain ⟨hSw1, hSw2⟩ := hSw; go_simp)
              try with_reducible rfl
            simp only [Act.put, List.setIfInBounds_toArray, List.set_cons_zero, List.set_cons_succ]
            refine take_list (i := 5) (v := ?_) rfl (by kernel_rfl) (by kernel_rfl) (by kernel_rfl) (fun _ _ _ h => h) (Or.inl ⟨by rfl, fun w hSw => ?_⟩) hHeld ?_
            rotate_left
            · (obtain ⟨hSw1, hSw2⟩ := hSw; go_simp)
              try with_reducible rfl
            simp only [Act.put, List.setIfInBounds_toArray, List.set_cons_zero, List.set_cons_succ]
            refine take_list (i := 6) (v := ?_) rfl (by kernel_rfl) (by kernel_rfl) (by kernel_rfl) (fun _ _ _ h => h) (Or.inl ⟨by rfl, fun w hSw => ?_⟩) hHeld ?_
            rotate_left
            · (obtain ⟨hSw1, hSw2⟩ := hSw; go_simp)
              try with_reducible rfl
            simp only [Act.put, List.setIfInBounds_toArray, List.set_cons_zero, List.set_cons_succ]
            refine take_list (i := 7) (v := ?_) rfl (by kernel_rfl) (by kernel_rfl) (by kernel_rfl) (fun _ _ _ h => h) (Or.inl ⟨by rfl, fun w hSw => ?_⟩) hHeld ?_
            rotate_left
            · (obtain ⟨hSw1, hSw2⟩ := hSw; go_simp)
              try with_reducible rfl
            simp only [Act.put, List.setIfInBounds_toArray, List.set_cons_zero, List.set_cons_succ]
            refine take_list (i := 8) (v := ?_) rfl (by kernel_rfl) (by kernel_rfl) (by kernel_rfl) (fun _ _ _ h => h) (Or.inl ⟨by rfl, fun w hSw => ?_⟩) hHeld ?_
            rotate_left
            · (obtain ⟨hSw1, hSw2⟩ := hSw; go_simp)
              try with_reducible rfl
            simp only [Act.put, List.setIfInBounds_toArray, List.set_cons_zero, List.set_cons_succ]
            refine take_list (i := 9) (v := ?_) rfl (by kernel_rfl) (by kernel_rfl) (by kernel_rfl) (fun _ _ _ h => h) (Or.inl ⟨by rfl, fun w hSw => ?_⟩) hHeld ?_
            rotate_left
            · (obtain ⟨hSw1, hSw2⟩ := hSw; go_simp)
              try with_reducible rfl
            simp only [Act.put, List.setIfInBounds_toArray, List.set_cons_zero, List.set_cons_succ]
            refine take_list (i := 10) (v := ?_) rfl (by kernel_rfl) (by kernel_rfl) (by kernel_rfl) (fun _ _ _ h => h) (Or.inl ⟨by rfl, fun w hSw => ?_⟩) hHeld ?_
            rotate_left
            · (obtain ⟨hSw1, hSw2⟩ := hSw; go_simp)
              try with_reducible rfl
            simp only [Act.put, List.setIfInBounds_toArray, List.set_cons_zero, List.set_cons_succ]
            refine wpAnyH_done (by kernel_rfl) ?_ _
            refine NoPanic.normal ?_
            obtain ⟨wd, hwd⟩ : ∃ wd, wr.drew = wd := ⟨_, rfl⟩
            rw [hwd]
            have hcd2 : wd.cell? ⟨w1.heap.size + 1, i, none⟩ = some (.slice (some ⟨g, 0, none⟩) N capv) := by rw [← hwd]; exact hc2
            have HCw := Lib.hid (show Chg (fun _ => False) wr wd from by rw [← hwd]; exact (Chg.refl _ _).drew)
            have hgd : wd.cell? ⟨g, mp, none⟩ = some (.string sb) := HGc.out _ HCw.out
            clear hwd hlw hlw2 hrem hne1
            go_wp2_with (first
              | (go_at_call 35; refine (read_at (HRd.out _ HCw.out) (i : Int) hiR).mono ?_; rw [hask, if_pos rfl, if_pos rfl, Int.toNat_natCast]; rintro e w5 ⟨v3, rfl, hv3, hc5⟩
                 rw [HCur.out] at hv3
                 have hcv3 : (convert 68 9 v3).run Try.prog w5 = .ok (.string sb) w5 := by rw [← HSb.out]; exact conv_own hv3
                 obtain ⟨ga, ca, g1, e1, d1, x1⟩ := HHI.out w5 (HCw.out.trans' hc5)
                 simp only [Value.slice.injEq] at e1
                 obtain ⟨rfl, -, -⟩ := e1
                 have HC5 := Lib.hid (HCw.out.trans' hc5)
                 clear hv3 hc5))
            exact ⟨⟨i + 1, by go_num, hlt, by rw [HPp.out]; go_num, HCr.out.trans' HC5.out⟩, meas_step hlt⟩
        · have hm0 : keepAt keep p N = 0 := by simp [keepAt, hz, hz0]
          rw [hm0, if_neg (Nat.lt_irrefl 0)] at hcs
          rw [hxe (Option.some.inj hcs)] at hc1
          have HCw := Lib.hid (Chg.refl (fun _ => False) wr)
          clear hm0 hcs hz hxe hck hkz hkn'
          go_wp2_with (first
            | (go_at_call 35; refine (read_at (HRd.out _ HCw.out) (i : Int) hiR).mono ?_; rw [hask, if_pos rfl, if_pos rfl, Int.toNat_natCast]; rintro e w5 ⟨v3, rfl, hv3, hc5⟩
               rw [HCur.out] at hv3
               have hcv3 : (convert 68 9 v3).run Try.prog w5 = .ok (.string sb) w5 := by rw [← HSb.out]; exact conv_own hv3
               obtain ⟨ga, ca, g1, e1, d1, x1⟩ := HHI.out w5 (HCw.out.trans' hc5)
               simp only [Value.slice.injEq] at e1
               obtain ⟨rfl, -, -⟩ := e1
               have HC5 := Lib.hid (HCw.out.trans' hc5)
               clear hv3 hc5))
          exact ⟨⟨i + 1, by go_num, hlt, by rw [HPp.out]; go_num, HCr.out.trans' HC5.out⟩, meas_step hlt⟩
  · have hki : ¬ (i : Int) < 8 := by omega
    have hws : waitsOf C = [] := by
      unfold waitsOf
      rw [List.filter_eq_nil_iff.2]
      · rfl
      · intro j hj
        have hj8 : j < X.B.length := by rw [HB.out.len]; rw [hC8] at hj; simpa using hj
        have := (crash_keeps X keep hj8).1
        rw [HCx.out] at this
        simp [this]
    have HD4 := Lib.hid ((HD3.out.fresh HC4.out).fresh HCr.out)
    go_wp2_with (first
      | (go_at_call 36; refine (waiting_at _ HD4.out).mono ?_; rw [hws]; rintro e w8 ⟨v8, rfl, hv8, hc8⟩; obtain ⟨oa8, cap8, hv8', -⟩ := hv8.slice; rw [show (([] : List (Nat × Nat)).map encW).length = 0 from rfl] at hv8'; subst hv8'; have HC8 := Lib.hid hc8; have HD8 := Lib.hid (HD4.out.fresh hc8); clear hv8 hc8)
      | (go_at_call 37; refine (up_any _ HD8.out).mono ?_; rw [hcd]; rintro e w9 ⟨rfl, rfl⟩))
    go_ret
    exact ⟨rfl, ((HW3.out.trans' HC4.out).trans' HCr.out).trans' HC8.out⟩


set_option maxRecDepth 100000 in
theorem lifted (os : Os) (started : os.Started) (H : Type) (enc : TypeId × Value → H) :
    ReturnsInHanded {} Try.checked os 9 .any (Rows.diskKeepsSpec.pre6 enc Try.prog Try.f9 [] false) (Rows.diskKeepsSpec.post enc Try.prog Try.f9 false true false false) := by
  refine law_handed (C := Try.checked) (tb := 4) own started (by kernel_rfl) Try.func9
    (ChangeSpec.witness6 (enc := enc) (C := Try.checked) false ⟨#[], #[.slice none 0 0, .slice none 0 0], []⟩ 8 (by kernel_rfl) (by kernel_rfl) (by kernel_rfl) (by kernel_rfl))
    laidOut (by rw [show Try.checked.prog = Try.prog from rfl, Try.params9]; intro t ht; simp at ht; rcases ht with rfl | rfl <;> exact ⟨by kernel_rfl, of_decide_eq_true (by kernel_rfl)⟩) rfl rfl Try.underlying4 ?_ ?_
  · intro ds hds
    rw [Try.params9] at hds
    match ds, hds with
    | [_, _], _ => rfl
  · intro W base args ds before hval0 hA0 _ _
    have hval : ∀ (j : Nat) t v, Try.f9.params[j]? = some t → args[j]? = some v → Value.okWide Try.prog W .any base t v := hval0
    have hA : DataW.TrodAll enc Try.prog W 0 (fun _ => true) true Try.f9.params.toList args.toList ds before := hA0
    rw [Try.params9] at hA hval
    obtain ⟨v0, vs0, d0, ds0, p0, q0, hargs, rfl, rfl, h0, r0⟩ := trodAll_cons hA
    obtain ⟨v1, vs1, d1, ds1, p1, q1, rfl, rfl, rfl, h1, r1⟩ := trodAll_cons r0
    obtain ⟨rfl, rfl, rfl⟩ := trodAll_nil r1
    obtain rfl : args = #[v0, v1] := by cases args; simp_all
    obtain ⟨oa0, l0, cap0, rfl, -, -, g0, ok0⟩ := open_acts (hval 0 54 v0 rfl rfl) h0
    obtain ⟨zs1, s1, z1, -⟩ := open_ints (hval 1 41 v1 rfl rfl) h1
    exact walk W oa0 cap0 l0 g0 ok0 v1 zs1 s1 z1

theorem over : Rows.diskKeepsRow.holds Try.pinned (OpenSpec.ofChange Rows.diskKeepsSpec) :=
  OpenClaim.holds_of_wide 9 Try.f9 rfl rfl rfl rfl rfl rfl rfl ⟨rfl, rfl, rfl, rfl, rfl⟩ rfl rfl rfl rfl rfl (by kernel_rfl) Try.func9 (by kernel_rfl)
    (of_decide_eq_true (by kernel_rfl)) (by unfold Func.isWrapper; first | (rw [if_pos (by decide +kernel)]; kernel_rfl) | (rw [if_neg (by decide +kernel)]; exact ⟨rfl, rfl⟩))
    (fun os started H enc _ => lifted os started H enc)

theorem proved : Rows.DiskKeepsSaid := over
#print axioms proved


end Go.Proofs.Ytomceindibnpnaa.diskKeeps

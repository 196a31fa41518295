/-
  DiskOf, whole: for every image and all acts the law returns true and changes nothing that was there. No condition.
-/
import Derived.Test.YtomceindibnpnaaDiskSame
import Derived.Test.YtomceindibnpnaaDiskDoes
import Derived.Test.YtomceindibnpnaaRows
namespace Go.Proofs.Ytomceindibnpnaa.diskOf
open Go.ChangeShapes Go.WideShapes Go.ChangeAt Go.RowKit Go.My disks diskTwins

theorem bytes_slice : Try.prog.bytesOf 68 = 24 := by kernel_rfl

set_option maxRecDepth 100000 in
theorem of_bad (w : World) (oa : Option Addr) (n cap : Nat) (h1 : n < 1 ∨ 4096 < n) :
    Calls Try.prog 43 #[.slice oa n cap] w fun e w' => e = .returned (.tuple #[.pointer none, .int .i64 2]) ∧ w = w' := by
  have h2 : (n : Int) < 1 ∨ 4096 < (n : Int) := by omega
  have H2 := Lib.hid h2
  clear h1 h2
  go_enter Try.func43, Try.ntmps43
  go_wp2_with (first
    | (go_at_call 38; refine (new_bad _ _ H2.out).mono ?_; rintro e w1 ⟨rfl, rfl⟩))
  go_ret2
  exact ⟨rfl, rfl⟩

section
variable {W w w' : World} {d r : Nat} {Fd Fr : Nat → Prop} {X X' : DV} {R R' : RV} {oa : Option Addr} {cap : Nat} {gs : List Value} {L : List Blk}

theorem of_64 (w : World) (hlen : gs.length = L.length) (ho : SlAt w (.slice oa L.length cap) gs) (heach : ∀ (i : Nat) g b, gs[i]? = some g → L[i]? = some b → SlAt w g (cellsB b)) (h1 : 1 ≤ L.length) (h2 : L.length ≤ 4096) (h64 : ∀ b ∈ L, b.length = 64) :
    Calls Try.prog 43 #[.slice oa L.length cap] w fun e w' => ∃ d, e = .returned (.tuple #[.pointer (some ⟨d, 0, none⟩), .int .i64 0]) ∧ DiskAt w' d (born w w') (DV.ofK L L.length) ∧ Chg (fun _ => False) w w' := by
  refine (of_any w oa cap gs L hlen ho heach h1 h2).mono ?_
  rintro e w' (⟨_, h⟩ | ⟨⟨b, hb, hn⟩, _⟩)
  · exact h
  · exact absurd (h64 b hb) hn

theorem of_n64 (w : World) (hlen : gs.length = L.length) (ho : SlAt w (.slice oa L.length cap) gs) (heach : ∀ (i : Nat) g b, gs[i]? = some g → L[i]? = some b → SlAt w g (cellsB b)) (h1 : 1 ≤ L.length) (h2 : L.length ≤ 4096) (h64 : ¬ ∀ b ∈ L, b.length = 64) :
    Calls Try.prog 43 #[.slice oa L.length cap] w fun e w' => e = .returned (.tuple #[.pointer none, .int .i64 2]) ∧ Chg (fun _ => False) w w' := by
  refine (of_any w oa cap gs L hlen ho heach h1 h2).mono ?_
  rintro e w' (⟨h, _⟩ | ⟨_, h⟩)
  · exact absurd h h64
  · exact h

theorem refof_64 (w : World) (hlen : gs.length = L.length) (ho : SlAt w (.slice oa L.length cap) gs) (heach : ∀ (i : Nat) g b, gs[i]? = some g → L[i]? = some b → SlAt w g (cellsB b)) (h1 : 1 ≤ L.length) (h2 : L.length ≤ 4096) (h64 : ∀ b ∈ L, b.length = 64) :
    Calls Try.prog 44 #[.slice oa L.length cap] w fun e w' => ∃ r, e = .returned (.tuple #[.pointer (some ⟨r, 0, none⟩), .int .i64 0]) ∧ RefAt w' r (born w w') (RV.ofK L L.length) ∧ Chg (fun _ => False) w w' := by
  refine (refof_any w oa cap gs L hlen ho heach h1 h2).mono ?_
  rintro e w' (⟨_, h⟩ | ⟨⟨b, hb, hn⟩, _⟩)
  · exact h
  · exact absurd (h64 b hb) hn

theorem refof_n64 (w : World) (hlen : gs.length = L.length) (ho : SlAt w (.slice oa L.length cap) gs) (heach : ∀ (i : Nat) g b, gs[i]? = some g → L[i]? = some b → SlAt w g (cellsB b)) (h1 : 1 ≤ L.length) (h2 : L.length ≤ 4096) (h64 : ¬ ∀ b ∈ L, b.length = 64) :
    Calls Try.prog 44 #[.slice oa L.length cap] w fun e w' => e = .returned (.tuple #[.pointer none, .int .i64 2]) ∧ Chg (fun _ => False) w w' := by
  refine (refof_any w oa cap gs L hlen ho heach h1 h2).mono ?_
  rintro e w' (⟨h, _⟩ | ⟨_, h⟩)
  · exact absurd h h64
  · exact h

theorem duo_of {W w w1 w2 : World} {d r : Nat} {X : DV} {R : RV} (h0 : Chg (fun _ => False) W w) (hx : DiskAt w1 d (born w w1) X) (h1 : Chg (fun _ => False) w w1) (hy : RefAt w2 r (born w1 w2) R) (h2 : Chg (fun _ => False) w1 w2) : Duo W w2 d r (born w w1) (born w1 w2) X R :=
  ⟨hx.fresh h2, hy, fun k hk hk' => Nat.not_lt.2 hk'.1 hk.2, fun k hk => Nat.le_trans h0.size hk.1, fun k hk => Nat.le_trans (Nat.le_trans h0.size h1.size) hk.1, (h0.trans' h1).trans' h2⟩

end

theorem act_cells {W w : World} {b off i : Nat} {acts : List DAct} {a : DAct} (hacts : RowsAt W 5 (some ⟨b, off, none⟩) (acts.map DAct.row)) (hc : Chg (fun _ => False) W w) (ha : acts[i]? = some a) :
    w.cell? ⟨b, off + i * 5, none⟩ = some (.int .i64 a.kind) ∧ w.cell? ⟨b, off + i * 5 + 1, none⟩ = some (.int .i64 a.place) ∧ w.cell? ⟨b, off + i * 5 + 2, none⟩ = some (.int .i64 a.n) ∧ w.cell? ⟨b, off + i * 5 + 3, none⟩ = some (.int .i64 a.long) ∧ w.cell? ⟨b, off + i * 5 + 4, none⟩ = some a.kv := by
  have hcell := fun j v hj => (hacts.kept hc (fun _ _ h => h)).cell b off rfl i a.row j v (by simp [ha]) hj
  exact ⟨hcell 0 _ rfl, hcell 1 _ rfl, hcell 2 _ rfl, hcell 3 _ rfl, hcell 4 _ rfl⟩

/-- What the one disk at the end is made of. -/
theorem one_args (w wm : World) (ho : wm.ownsRow w.heap.size 5 1 (.slice (some ⟨w.heap.size, 0, none⟩) 64 64) 64 (cellsB zeroBlk)) :
    SlAt (wm.alloc (.cells #[.slice (some ⟨w.heap.size, 0, none⟩) 64 64] 68)) (.slice (some ⟨wm.heap.size, 0, none⟩) ([zeroBlk] : List Blk).length 1) [.slice (some ⟨w.heap.size, 0, none⟩) 64 64] ∧
      ∀ (i : Nat) g b, [Value.slice (some ⟨w.heap.size, 0, none⟩) 64 64][i]? = some g → ([zeroBlk] : List Blk)[i]? = some b → SlAt (wm.alloc (.cells #[.slice (some ⟨w.heap.size, 0, none⟩) 64 64] 68)) g (cellsB b) := by
  refine ⟨SlAt.of_own (World.ownsRow_lit (e := 68) (size := 1) wm #[.slice (some ⟨w.heap.size, 0, none⟩) 64 64] 1 (Nat.le_refl _) (by unfold maxLen; omega) rfl), ?_⟩
  intro i g b hg hb
  cases i with
  | zero =>
    simp only [List.getElem?_cons_zero, Option.some.injEq] at hg hb
    subst hg; subst hb
    exact SlAt.of_own (row_kept ho ((Chg.refl (fun _ => False) wm).alloc _) (fun _ _ h => h))
  | succ i => simp at hg









set_option maxRecDepth 100000 in
set_option maxHeartbeats 4000000 in
theorem walk (W : World) (oa : Option Addr) (cap : Nat) (gs : List Value) (L : List Blk) (hlc : L.length ≤ cap) (hcm : cap ≤ maxLen) (hby : L.length * Try.prog.bytesOf 68 ≤ reachBytes) (hgl : gs.length = L.length) (hsl : SlAt W (.slice oa L.length cap) gs)
    (hea : ∀ (i : Nat) g b, gs[i]? = some g → L[i]? = some b → SlAt W g (cellsB b) ∧ b.length ≤ reachBytes)
    (oa1 : Option Addr) (cap1 : Nat) (acts : List DAct) (hacts : RowsAt W 5 oa1 (acts.map DAct.row)) (hok : ∀ a ∈ acts, a.ok W ∧ a.fit) :
    Calls Try.prog 12 #[.slice oa L.length cap, .slice oa1 acts.length cap1] W fun e w' => e = .returned (.bool true) ∧ Chg (fun _ => False) W w' := by
  have HActs := Lib.hid hacts
  have HOk := Lib.hid hok
  obtain ⟨i0, hI0⟩ := info_parts info_u8'
  have HI0 := Lib.hid hI0
  obtain ⟨i1, hI1⟩ := info_parts info_bytes
  have HI1 := Lib.hid hI1
  rw [bytes_slice] at hby
  clear hacts hok hI0 hI1
  by_cases h50 : 50 < L.length ∧ L.length ≤ 4096
  · obtain ⟨h51, h52⟩ := h50
    obtain ⟨n, hn⟩ : ∃ n, L.length = n := ⟨_, rfl⟩
    obtain ⟨L1, hL1⟩ : ∃ L1, L.take 50 = L1 := ⟨_, rfl⟩
    obtain ⟨gs1, hgs1⟩ : ∃ gs1, gs.take 50 = gs1 := ⟨_, rfl⟩
    have HLl : Hid (L1.length = 50) := Lib.hid (by rw [← hL1, List.length_take]; omega)
    have HGl : Hid (gs1.length = 50) := Lib.hid (by rw [← hgs1, List.length_take]; omega)
    have HSl : Hid (SlAt W (.slice oa 50 cap) gs1) := Lib.hid (by
      obtain ⟨oa', cap', e1, e2, e3⟩ := hsl
      simp only [Value.slice.injEq] at e1
      obtain ⟨rfl, -, rfl⟩ := e1
      refine ⟨oa, cap, by rw [HGl.out], fun _ => e2 (by intro e; rw [e] at hgl; simp at hgl; omega), fun b off ho i x hx => e3 b off ho i x ?_⟩
      rw [← hgs1, List.getElem?_take] at hx
      split at hx
      · exact hx
      · cases hx)
    have HEa : Hid (∀ (i : Nat) g b, gs1[i]? = some g → L1[i]? = some b → SlAt W g (cellsB b) ∧ b.length ≤ reachBytes) := Lib.hid (by
      intro i g b hg hb
      rw [← hgs1, List.getElem?_take] at hg
      rw [← hL1, List.getElem?_take] at hb
      split at hg
      · rename_i hi
        rw [if_pos hi] at hb
        exact hea i g b hg hb
      · cases hg)
    have HBy : Hid (50 * 24 ≤ reachBytes) := Lib.hid (by decide)
    rw [hn] at h51 h52 hlc ⊢
    have h51i : (50 : Int) < (n : Int) := by omega
    have h52i : (n : Int) ≤ 4096 := by omega
    have h53i : 50 ≤ cap := by omega
    have h54i : (50 : Int) ≤ (cap : Int) := by omega
    clear hn hL1 hgs1 h51 h52 hlc hby hgl hsl hea hcm
    go_enter Try.func12, Try.ntmps12
    go_wp2_with fail
    go_loopw [5, 28] (fun u j wr => ∃ k : Nat, j = .int .i64 k ∧ k ≤ 50 ∧ ImgAt wr W.heap.size u (L1.take k) ∧ Chg (fun _ => False) W wr) (fun _ j _ => 50 - (intOf j).toNat)
    · exact ⟨0, rfl, Nat.zero_le _, by simpa using ImgAt.nil W _, Chg.refl _ _⟩
    obtain ⟨k, rfl, hk, hI, hc⟩ := hrel
    have HIm := Lib.hid hI
    have HC := Lib.hid hc
    clear hI hc
    by_cases hlt : k < 50
    · have hki : (k : Int) < (50 : Int) := by omega
      have hkL : k < L1.length := by rw [HLl.out]; exact hlt
      have hkg : k < gs1.length := by rw [HGl.out]; exact hlt
      obtain ⟨b0, off, hoa, -, hc0⟩ := HSl.out.cell hkg
      subst hoa
      obtain ⟨g, hg⟩ : ∃ g, gs1[k] = g := ⟨_, rfl⟩
      obtain ⟨b, hb⟩ : ∃ b, L1[k] = b := ⟨_, rfl⟩
      rw [hg] at hc0
      obtain ⟨hsl, hbl⟩ := HEa.out k g b (by rw [List.getElem?_eq_getElem hkg, hg]) (by rw [List.getElem?_eq_getElem hkL, hb])
      have hbl' : b.length ≤ 140737488351232 := hbl
      have hby : 50 * 24 ≤ 140737488351232 := HBy.out
      have hce := HC.out.cell hc0 id
      have hca := (Chg.refl (fun _ => False) wr).alloc (.cells #[] 5)
      have hce2 := hca.cell hce id
      have hl0 := World.ownsRow_lit (e := 5) (size := 1) wr #[] 0 (Nat.le_refl _) (by unfold maxLen; omega) rfl
      obtain ⟨v', w2, hap, hrow, hc2⟩ := run_append_args (w := wr.alloc (.cells #[] 5)) wr.heap.size 68 68 5 i0 (.int .u8 0) 1 Try.underlying68 HI0.out.1 HI0.out.2.1 HI0.out.2.2.1 HI0.out.2.2.2 rfl _ hl0 _ _ (hsl.kept (HC.out.trans' hca)) (one_cellsB b) (by rw [cellsB_length]; unfold maxLen; omega) (by rw [cellsB_length]; omega) hca.size
      rw [cellsB_length] at hrow
      have hcw2 : Chg (fun _ => False) wr w2 := hca.new hc2 (fun i e => (hl0.lt i e.symm).1)
      obtain ⟨oav, cv, rfl⟩ := own_slice hrow
      have hv1 : (Value.slice oav b.length cv).oneCell' = true := rfl
      obtain ⟨gs2, hlen, hrow1, heach, hap2⟩ := HIm.out.ex
      have hl1 : (L1.take k).length = k := by rw [List.length_take]; omega
      have hc4 := hcw2.alloc (.cells #[.slice oav b.length cv] 68)
      have hrow2 := row_kept hrow1 hc4 (fun _ _ h => h)
      rw [hl1] at hrow2
      have HR2 := Lib.hid hrow2
      have HRow1 := Lib.hid hrow1
      have HRow := Lib.hid hrow
      have HE := Lib.hid heach
      have HA := Lib.hid hap2
      have HLen := Lib.hid hlen
      have HC2 := Lib.hid hcw2
      have HV1 := Lib.hid hv1
      have HB := Lib.hid hb
      clear hc0 hg hb hsl hbl hbl' hca hl0 hc2 hrow hcw2 hv1 hlen hrow1 heach hap2 hc4 hrow2
      go_wp2_with (first
        | (at_builtin; refine wpList_append_run rfl _ _ 68 rfl rfl rfl hap ?_)
        | (at_builtin; refine wpList_append_own_at _ rfl _ _ 62 rfl W.heap.size 68 i1 (.slice none 0 0) 1 24 Try.underlying62 HI1.out.1 HI1.out.2.1 HI1.out.2.2.1 HI1.out.2.2.2 rfl (by decide) _ k gs2 rfl HR2.out ⟨w2.heap.size, 0, none⟩ 1 1 [.slice oav b.length cv] rfl rfl (cells_new w2 [.slice oav b.length cv] _) (by intro x hx; rw [List.mem_singleton.1 hx]; exact HV1.out) (by unfold maxLen; omega) (by omega) (by simp only [World.size_alloc]; have := HC.out.size; have := HC2.out.size; omega) ?_; intro u' w3 ho3 hg3 hx1 hx2; have HO3 := Lib.hid ho3; have HG3 := Lib.hid hg3; clear ho3 hg3 hx1 hx2))
      have hcu : Chg (fun i => some i = u5.ownBlock) w2 w3 := ((Chg.refl _ _).alloc _).trans' (Chg.of_grown HG3.out)
      have hst := img_step HLen.out HRow1.out HE.out HA.out HC2.out HRow.out HC.out.size HV1.out (by rw [hl1]; exact HO3.out) hcu
      refine ⟨⟨k + 1, by go_num, hlt, ?_, (HC.out.trans' HC2.out).new hcu (fun i e => (HRow1.out.lt i e.symm).1)⟩, meas_step hlt⟩
      rw [List.take_add_one, List.getElem?_eq_getElem hkL, Option.toList_some, HB.out]
      exact hst
    · have hki : ¬ (k : Int) < (50 : Int) := by omega
      have hkM : k = 50 := by omega
      rw [hkM, List.take_of_length_le (by rw [HLl.out]; exact Nat.le_refl _)] at HIm
      clear hk hlt hkM
      obtain ⟨gs2, hgl2, hgr, hge, hga⟩ := HIm.out.ex
      rw [HLl.out] at hgl2 hgr
      obtain ⟨oau, cu, rfl⟩ := own_slice hgr
      have HGl2 := Lib.hid hgl2
      have HGr := Lib.hid hgr
      have HGe := Lib.hid hge
      have HGa := Lib.hid hga
      obtain ⟨w1, hw1⟩ : ∃ x, x = wr := ⟨_, rfl⟩
      rw [← hw1] at HGr HGe HC ⊢
      have HC01 := HC
      have hsl2 : SlAt w1 (.slice oau L1.length cu) gs2 := by rw [HLl.out]; exact SlAt.of_own HGr.out
      have hea2 : ∀ (i : Nat) g b, gs2[i]? = some g → L1[i]? = some b → SlAt w1 g (cellsB b) := fun i g b hg hb => SlAt.of_own (HGe.out i g b hg hb).1
      have hsl1 : ∀ w', Chg (fun _ => False) W w' → SlAt w' (.slice oa L1.length cap) gs1 := fun w' hc => by rw [HLl.out]; exact HSl.out.kept hc
      have hea1 : ∀ w', Chg (fun _ => False) W w' → ∀ (i : Nat) g b, gs1[i]? = some g → L1[i]? = some b → SlAt w' g (cellsB b) := fun w' hc i g b hg hb => (HEa.out i g b hg hb).1.kept hc
      have hl2 : gs2.length = L1.length := by rw [HLl.out]; exact HGl2.out
      have hl1 : gs1.length = L1.length := by rw [HLl.out]; exact HGl.out
      clear hgl2 hgr hge hga hw1 HIm
      by_cases hr : 1 ≤ L1.length ∧ L1.length ≤ 4096
      · obtain ⟨hr1, hr2⟩ := hr
        by_cases h64 : ∀ b ∈ L1, b.length = 64
        · have hofG := of_64 _ hl2 hsl2 hea2 hr1 hr2 h64
          have hrofG := fun w' hc => refof_64 w' hl1 (hsl1 w' hc) (hea1 w' hc) hr1 hr2 h64
          rw [HLl.out] at hofG
          have hrofG : ∀ w', Chg (fun _ => False) W w' → Calls Try.prog 44 #[.slice oa 50 cap] w' fun e w'' => ∃ r, e = .returned (.tuple #[.pointer (some ⟨r, 0, none⟩), .int .i64 0]) ∧ RefAt w'' r (born w' w'') (RV.ofK L1 L1.length) ∧ Chg (fun _ => False) w' w'' := fun w' hc => by have h := hrofG w' hc; rw [HLl.out] at h ⊢; exact h
          rw [← HLl.out] at hofG
          have hofG : Calls Try.prog 43 #[.slice oau 50 cu] w1 fun e w' => ∃ d, e = .returned (.tuple #[.pointer (some ⟨d, 0, none⟩), .int .i64 0]) ∧ DiskAt w' d (born w1 w') (DV.ofK L1 L1.length) ∧ Chg (fun _ => False) w1 w' := by rw [HLl.out] at hofG ⊢; exact hofG
          clear hl1 hl2 hsl1 hsl2 hea1 hea2 h64 hr1 hr2
          go_wp2_with (first
            | (go_at_call 43; refine hofG.mono ?_; rintro e w2 ⟨d, rfl, hx, hc12⟩; have HX := Lib.hid hx; have HC12 := Lib.hid hc12; clear hx hc12)
            | (go_at_call 44; refine (hrofG _ (HC01.out.trans' HC12.out)).mono ?_; rintro e w3 ⟨r, rfl, hy, hc23⟩; have HD3 := Lib.hid (duo_of HC01.out HX.out HC12.out hy hc23); have HC23 := Lib.hid hc23; have HC13 := Lib.hid (HC12.out.trans' hc23); clear hy hc23))
          clear hofG hrofG
          go_loopw [63] (fun j wr => ∃ i : Nat, j = .int .i64 i ∧ i ≤ 50 ∧ wr.ownsRow W.heap.size 68 1 (.slice oau 50 cu) 50 gs2 ∧ (∀ (t : Nat) g b, i ≤ t → gs2[t]? = some g → L1[t]? = some b → wr.ownsRow W.heap.size 5 1 g b.length (cellsB b)) ∧ Chg (fun x => W.heap.size ≤ x ∧ x < w1.heap.size) w3 wr) (fun j _ => 50 - (intOf j).toNat)
          · exact ⟨0, rfl, Nat.zero_le _, row_kept HGr.out HC13.out (fun _ _ h => h), fun t g b _ hg hb => row_kept (HGe.out t g b hg hb).1 HC13.out (fun _ _ h => h), Chg.refl _ _⟩
          obtain ⟨i, rfl, hi, hro, hrg, hc⟩ := hrel
          have HRo := Lib.hid hro
          have HRg := Lib.hid hrg
          have HC := Lib.hid hc
          have HCW := Lib.hid ((HC01.out.trans' HC13.out).new hc (fun k hk => hk.1))
          clear hro hrg hc
          by_cases hlt : i < 50
          · have hii : (i : Int) < (50 : Int) := by omega
            have hib : i < L1.length := by rw [HLl.out]; exact hlt
            have hig : i < gs2.length := by rw [HGl2.out]; exact hlt
            have hig1 : i < gs1.length := by rw [HGl.out]; exact hlt
            obtain ⟨b, hb⟩ : ∃ b, L1[i]? = some b := ⟨L1[i], List.getElem?_eq_getElem hib⟩
            obtain ⟨g, hg⟩ : ∃ g, gs2[i]? = some g := ⟨gs2[i], List.getElem?_eq_getElem hig⟩
            obtain ⟨gi, hgi⟩ : ∃ gi, gs1[i] = gi := ⟨_, rfl⟩
            have hrow := HRg.out i g b (Nat.le_refl _) hg hb
            have hrow1 := (HGe.out i g b hg hb).1
            obtain ⟨hsl, hbl⟩ := HEa.out i gi b (by rw [List.getElem?_eq_getElem hig1, hgi]) hb
            obtain ⟨nb, hnb⟩ : ∃ nb, b.length = nb := ⟨_, rfl⟩
            have hnbB : nb ≤ 140737488351232 := by rw [← hnb]; exact hbl
            have hby : 50 * 24 ≤ 140737488351232 := HBy.out
            clear hbl
            rw [hnb] at hrow hrow1
            obtain ⟨oag, cg, rfl⟩ := own_slice hrow
            obtain ⟨go, e1, hcg⟩ : ∃ go, oau = some ⟨go, 0, none⟩ ∧ wr.cell? ⟨go, i, none⟩ = some (.slice oag nb cg) := by
              rcases HRo.out.2 with ⟨e1, h0⟩ | ⟨go, cap', cur, e1, -⟩
              · omega
              · simp only [Value.slice.injEq] at e1
                obtain ⟨rfl, -, -⟩ := e1
                refine ⟨go, rfl, ?_⟩
                obtain ⟨hx, h1, -⟩ := own_cell HRo.out hlt
                rw [h1]
                rw [List.getElem?_eq_getElem hig] at hg
                exact hg
            subst e1
            obtain ⟨str, hstr⟩ : ∃ str : ByteArray, (⟨b.toArray⟩ : ByteArray) = str := ⟨_, rfl⟩
            have hcv : (convert 68 9 (.slice oag nb cg)).run Try.prog wr.drew = .ok (.string str) wr.drew := by
              have h1 := conv_own (row_kept hrow ((Chg.refl (fun _ => False) wr).drew) (fun _ _ h => h))
              rw [hstr] at h1
              exact h1
            obtain ⟨b0, off, hoa, -, hc0⟩ := HSl.out.cell hig1
            rw [hgi] at hc0
            have hci := HCW.out.cell hc0 id
            have hcv2 : (convert 68 9 gi).run Try.prog wr.drew = .ok (.string str) wr.drew := by
              have h1 := conv_slat (hsl.kept HCW.out.drew)
              rw [hstr] at h1
              exact h1
            have hgo : ∀ k, (Value.slice oag nb cg).ownBlock = some k → ¬ go = k := fun k hk e => by
              obtain ⟨c1, h1⟩ := row_obj hrow hk
              obtain ⟨c2, h2⟩ := row_obj HRo.out (g := go) rfl
              rw [← e, h2] at h1
              simp only [Option.some.injEq, Obj.cells.injEq] at h1
              exact types_ne' h1.2.1
            have hown : ∀ x, (Value.slice oag nb cg).ownBlock = some x → W.heap.size ≤ x ∧ x < w1.heap.size := fun x e => hrow1.lt x e
            have HGo := Lib.hid hgo
            have HOwn := Lib.hid hown
            have HRow := Lib.hid hrow
            have HCg := Lib.hid hcg
            have HCi := Lib.hid hci
            have HCv := Lib.hid hcv
            have HCv2 := Lib.hid hcv2
            have Hg := Lib.hid hg
            have HOA := Lib.hid hoa
            clear hgo hrow hrow1 hcg hci hcv hcv2 hg hb hstr hnb hown hsl hc0 hgi hoa
            have hoa := HOA.out
            rw [hoa]
            go_wp2_with fail
            refine wp_region_noPanic ?_
            refine wp_region_held_drew (S := (fun w' => w'.cell? ⟨go, i, none⟩ = some (.slice oag nb cg) ∧ (convert 68 9 (.slice oag nb cg)).run Try.prog w' = .ok (.string str) w' ∧ w'.cell? ⟨b0, off + i, none⟩ = some gi ∧ (convert 68 9 gi).run Try.prog w' = .ok (.string str) w')) (by kernel_rfl) (⟨HCg.out, HCv.out, HCi.out, HCv2.out⟩) (fun hHeld => ?_)
            refine take_list (i := 0) (v := ?_) rfl (by kernel_rfl) (by kernel_rfl) (by kernel_rfl) (fun _ _ _ h => h) (Or.inl ⟨by rfl, fun w hSw => ?_⟩) hHeld ?_
            rotate_left
            · (obtain ⟨hSw1, hSw2, hSw3, hSw4⟩ := hSw; go_simp)
              try with_reducible rfl
            simp only [Act.put, List.setIfInBounds_toArray, List.set_cons_zero, List.set_cons_succ]
            refine take_list (i := 1) (v := ?_) rfl (by kernel_rfl) (by kernel_rfl) (by kernel_rfl) (fun _ _ _ h => h) (Or.inl ⟨by rfl, fun w hSw => ?_⟩) hHeld ?_
            rotate_left
            · (obtain ⟨hSw1, hSw2, hSw3, hSw4⟩ := hSw; go_simp)
              try with_reducible rfl
            simp only [Act.put, List.setIfInBounds_toArray, List.set_cons_zero, List.set_cons_succ]
            refine take_list (i := 2) (v := ?_) rfl (by kernel_rfl) (by kernel_rfl) (by kernel_rfl) (fun _ _ _ h => h) (Or.inl ⟨by rfl, fun w hSw => ?_⟩) hHeld ?_
            rotate_left
            · (obtain ⟨hSw1, hSw2, hSw3, hSw4⟩ := hSw; go_simp)
              try with_reducible rfl
            simp only [Act.put, List.setIfInBounds_toArray, List.set_cons_zero, List.set_cons_succ]
            refine take_list (i := 3) (v := ?_) rfl (by kernel_rfl) (by kernel_rfl) (by kernel_rfl) (fun _ _ _ h => h) (Or.inl ⟨by rfl, fun w hSw => ?_⟩) hHeld ?_
            rotate_left
            · (obtain ⟨hSw1, hSw2, hSw3, hSw4⟩ := hSw; go_simp)
              try with_reducible rfl
            simp only [Act.put, List.setIfInBounds_toArray, List.set_cons_zero, List.set_cons_succ]
            refine take_list (i := 4) (v := ?_) rfl (by kernel_rfl) (by kernel_rfl) (by kernel_rfl) (fun _ _ _ h => h) (Or.inl ⟨by rfl, fun w hSw => ?_⟩) hHeld ?_
            rotate_left
            · (obtain ⟨hSw1, hSw2, hSw3, hSw4⟩ := hSw; go_simp)
              try with_reducible rfl
            simp only [Act.put, List.setIfInBounds_toArray, List.set_cons_zero, List.set_cons_succ]
            refine take_list (i := 5) (v := ?_) rfl (by kernel_rfl) (by kernel_rfl) (by kernel_rfl) (fun _ _ _ h => h) (Or.inl ⟨by rfl, fun w hSw => ?_⟩) hHeld ?_
            rotate_left
            · (obtain ⟨hSw1, hSw2, hSw3, hSw4⟩ := hSw; go_simp)
              try with_reducible rfl
            simp only [Act.put, List.setIfInBounds_toArray, List.set_cons_zero, List.set_cons_succ]
            refine take_list (i := 6) (v := ?_) rfl (by kernel_rfl) (by kernel_rfl) (by kernel_rfl) (fun _ _ _ h => h) (Or.inl ⟨by rfl, fun w hSw => ?_⟩) hHeld ?_
            rotate_left
            · (obtain ⟨hSw1, hSw2, hSw3, hSw4⟩ := hSw; go_simp)
              try with_reducible rfl
            simp only [Act.put, List.setIfInBounds_toArray, List.set_cons_zero, List.set_cons_succ]
            refine take_list (i := 7) (v := ?_) rfl (by kernel_rfl) (by kernel_rfl) (by kernel_rfl) (fun _ _ _ h => h) (Or.inl ⟨by rfl, fun w hSw => ?_⟩) hHeld ?_
            rotate_left
            · (obtain ⟨hSw1, hSw2, hSw3, hSw4⟩ := hSw; go_simp)
              try with_reducible rfl
            simp only [Act.put, List.setIfInBounds_toArray, List.set_cons_zero, List.set_cons_succ]
            refine take_list (i := 8) (v := ?_) rfl (by kernel_rfl) (by kernel_rfl) (by kernel_rfl) (fun _ _ _ h => h) (Or.inl ⟨by rfl, fun w hSw => ?_⟩) hHeld ?_
            rotate_left
            · (obtain ⟨hSw1, hSw2, hSw3, hSw4⟩ := hSw; go_simp)
              try with_reducible rfl
            simp only [Act.put, List.setIfInBounds_toArray, List.set_cons_zero, List.set_cons_succ]
            refine take_list (i := 9) (v := ?_) rfl (by kernel_rfl) (by kernel_rfl) (by kernel_rfl) (fun _ _ _ h => h) (Or.inl ⟨by rfl, fun w hSw => ?_⟩) hHeld ?_
            rotate_left
            · (obtain ⟨hSw1, hSw2, hSw3, hSw4⟩ := hSw; go_simp)
              try with_reducible rfl
            simp only [Act.put, List.setIfInBounds_toArray, List.set_cons_zero, List.set_cons_succ]
            refine take_list (i := 10) (v := ?_) rfl (by kernel_rfl) (by kernel_rfl) (by kernel_rfl) (fun _ _ _ h => h) (Or.inl ⟨by rfl, fun w hSw => ?_⟩) hHeld ?_
            rotate_left
            · (obtain ⟨hSw1, hSw2, hSw3, hSw4⟩ := hSw; go_simp)
              try with_reducible rfl
            simp only [Act.put, List.setIfInBounds_toArray, List.set_cons_zero, List.set_cons_succ]
            refine wpAnyH_done (by kernel_rfl) ?_ _
            refine NoPanic.normal ?_
            clear hHeld
            have hcg := HCg.out
            go_wp2_with fail
            go_loopw [82] (fun j wr' => ∃ k : Nat, j = .int .i64 k ∧ k ≤ nb ∧ (∃ b' : Blk, wr'.ownsRow W.heap.size 5 1 (.slice oag nb cg) nb (cellsB b')) ∧ Chg (fun x => (Value.slice oag nb cg).ownBlock = some x) wr wr') (fun j _ => nb - (intOf j).toNat)
            · exact ⟨0, rfl, Nat.zero_le _, ⟨b, row_kept HRow.out ((Chg.refl (fun _ => False) wr).drew) (fun _ _ h => h)⟩, (Chg.refl _ _).drew⟩
            clear hcg
            obtain ⟨k, rfl, hk, ⟨b', hb'⟩, hc'⟩ := hrel
            have HC' := Lib.hid hc'
            have hcg := hc'.cell HCg.out (fun e => HGo.out _ e rfl)
            have hlt' : i < 50 := hlt
            by_cases hltk : k < nb
            · have hkk : (k : Int) < (nb : Int) := by omega
              obtain ⟨gg, c, rfl, hcc, hzz, hbg, hbg2, hnext⟩ := inc_at hb' hltk
              have HNext := Lib.hid hnext
              clear hb' hc' hnext
              go_wp2_with fail
              refine ⟨⟨k + 1, by go_num, hltk, ⟨_, HNext.out _ (by first | exact inc_wrap _ | exact inc_mod _)⟩, HC'.out.setCell (p := ⟨gg, k, none⟩) (fun _ => rfl) _⟩, meas_step hltk⟩
            · have hkk : ¬ (k : Int) < (nb : Int) := by omega
              clear hb' hc'
              go_wp2_with fail
              refine ⟨⟨i + 1, by go_num, hlt', row_kept HRo.out HC'.out (fun x hx e => ?_), fun t g b ht hg hb => row_kept (HRg.out t g b (by omega) hg hb) HC'.out (fun x hx e => ?_), HC.out.trans' (HC'.out.mono (fun x _ e => HOwn.out x e))⟩, meas_step hlt'⟩
              · cases hx; exact HGo.out _ e rfl
              · rcases HGa.out i t _ _ (by omega) Hg.out hg with h | h
                · rw [h] at e; cases e
                · exact h (by rw [e, hx])
          · have hii : ¬ (i : Int) < (50 : Int) := by omega
            have hD := HD3.out.keep HC.out (fun k hk hF => by have := hk.2; have := hF.1; omega) (fun k hk hF => by have := hk.2; have := hF.1; have := HC12.out.size; omega) (fun k hk => hk.1)
            have HD4 := Lib.hid hD
            clear hD
            go_wp2_with fail
            go_loopw [13] (fun j wr => ∃ i : Nat, j = .int .i64 i ∧ i ≤ acts.length ∧ i ≤ 20 ∧ ∃ Fd Fr X R, Duo W wr d r Fd Fr X R ∧ Link X R i) (fun j _ => 20 - (intOf j).toNat)
            · exact ⟨0, rfl, Nat.zero_le _, by omega, _, _, _, _, HD4.out, Link.ofK L1⟩
            obtain ⟨i, rfl, hil, hi20, Fd, Fr, X, R, hD, hL⟩ := hrel
            have HD := Lib.hid hD
            have HL := Lib.hid hL
            clear hD hL hi hlt hii
            by_cases hlt : i < acts.length ∧ i < 20
            · obtain ⟨hl1, hl2⟩ := hlt
              have hd60 : decide ((i : Int) < 20) = true := by simp; omega
              have hia : (i : Int) < (acts.length : Int) := by omega
              obtain ⟨b, off, hoA⟩ := HActs.out.spot (by intro e; cases acts with | nil => simp at hl1 | cons => simp at e)
              obtain ⟨a, ha⟩ : ∃ a, acts[i]? = some a := ⟨acts[i], List.getElem?_eq_getElem hl1⟩
              obtain ⟨c0, c1, c2, c3, c4⟩ := act_cells (by have := HActs.out; rw [hoA] at this; exact this) HD.out.chg ha
              have HOa := Lib.hid (HOk.out a (List.mem_of_getElem? ha))
              rw [hoA]
              clear ha
              go_wp2_with (first
                | (go_at_call 45; refine (does_any _ HD.out HL.out (by omega) a HOa.out.1 HOa.out.2).mono ?_; rintro e w7 ⟨rfl, hdo⟩
                   obtain ⟨Fd', Fr', X', R', hD7, hL7⟩ := hdo
                   have HD7 := Lib.hid hD7
                   have HL7 := Lib.hid hL7
                   clear hD7 hL7)
                | (go_at_call 46; refine (same_any _ HD7.out HL7.out (by omega)).mono ?_; rintro e w9 ⟨rfl, hc9⟩; have HC9 := Lib.hid hc9; clear hc9))
              exact ⟨⟨i + 1, by go_num, hl1, by omega, _, _, _, _, HD7.out.fresh HC9.out, HL7.out⟩, meas_step hl2⟩
            · rcases Nat.lt_or_ge i acts.length with hl1 | hl1
              · have hd60 : decide ((i : Int) < 20) = false := by simp; omega
                have hl2 : (i : Int) < (acts.length : Int) := by omega
                clear hl1 hlt
                obtain ⟨wm, hm, ho, hcm⟩ := made_u8 wr 64 (by omega)
                have hm' : (Instr.makeSlice 68 (.int .i64 64) (.int .i64 64)).run Try.prog wr = .ok (.slice (some ⟨wr.heap.size, 0, none⟩) 64 64) wm := hm
                obtain ⟨ho1, ho2⟩ := one_args wr wm ho
                have HO1 := Lib.hid ho1
                have HO2 := Lib.hid ho2
                have HCm := Lib.hid hcm
                clear hm ho hcm ho1 ho2
                go_wp2_with (first
                  | (go_at_call 43; refine (of_64 (L := [zeroBlk]) _ rfl HO1.out HO2.out (by decide) (by decide) (by intro b hb; rw [List.mem_singleton.1 hb]; rfl)).mono ?_; rintro e w7 ⟨d7, rfl, hx7, hc7⟩; have HX7 := Lib.hid hx7; have HC7 := Lib.hid hc7; clear hx7 hc7)
                  | (go_at_call 47; refine (blocks_any _ (HX7.out.fresh HC9.out)).mono ?_; rw [show ((DV.ofK [zeroBlk] ([zeroBlk] : List Blk).length).B.length : Int) = 1 from rfl]; rintro e w8 ⟨rfl, rfl⟩)
                  | (go_at_call 46; refine (same_any _ ((HD.out.fresh HCm.out).fresh (((Chg.refl (fun _ => False) wm).alloc _).trans' HC7.out)) HL.out (by omega)).mono ?_; rintro e w9 ⟨rfl, hc9⟩; have HC9 := Lib.hid hc9; clear hc9))
                go_ret
                exact ⟨rfl, (((HD.out.chg.trans' HCm.out).trans' (((Chg.refl (fun _ => False) wm).alloc _).trans' HC7.out)).trans' HC9.out)⟩
              · have hl2 : ¬ (i : Int) < (acts.length : Int) := by omega
                clear hl1 hlt
                obtain ⟨wm, hm, ho, hcm⟩ := made_u8 wr 64 (by omega)
                have hm' : (Instr.makeSlice 68 (.int .i64 64) (.int .i64 64)).run Try.prog wr = .ok (.slice (some ⟨wr.heap.size, 0, none⟩) 64 64) wm := hm
                obtain ⟨ho1, ho2⟩ := one_args wr wm ho
                have HO1 := Lib.hid ho1
                have HO2 := Lib.hid ho2
                have HCm := Lib.hid hcm
                clear hm ho hcm ho1 ho2
                go_wp2_with (first
                  | (go_at_call 43; refine (of_64 (L := [zeroBlk]) _ rfl HO1.out HO2.out (by decide) (by decide) (by intro b hb; rw [List.mem_singleton.1 hb]; rfl)).mono ?_; rintro e w7 ⟨d7, rfl, hx7, hc7⟩; have HX7 := Lib.hid hx7; have HC7 := Lib.hid hc7; clear hx7 hc7)
                  | (go_at_call 47; refine (blocks_any _ (HX7.out.fresh HC9.out)).mono ?_; rw [show ((DV.ofK [zeroBlk] ([zeroBlk] : List Blk).length).B.length : Int) = 1 from rfl]; rintro e w8 ⟨rfl, rfl⟩)
                  | (go_at_call 46; refine (same_any _ ((HD.out.fresh HCm.out).fresh (((Chg.refl (fun _ => False) wm).alloc _).trans' HC7.out)) HL.out (by omega)).mono ?_; rintro e w9 ⟨rfl, hc9⟩; have HC9 := Lib.hid hc9; clear hc9))
                go_ret
                exact ⟨rfl, (((HD.out.chg.trans' HCm.out).trans' (((Chg.refl (fun _ => False) wm).alloc _).trans' HC7.out)).trans' HC9.out)⟩
        · have hofN := of_n64 _ hl2 hsl2 hea2 hr1 hr2 h64
          have hrofN := fun w' hc => refof_n64 w' hl1 (hsl1 w' hc) (hea1 w' hc) hr1 hr2 h64
          rw [HLl.out] at hofN
          have hrofN : ∀ w', Chg (fun _ => False) W w' → Calls Try.prog 44 #[.slice oa 50 cap] w' fun e w'' => e = .returned (.tuple #[.pointer none, .int .i64 2]) ∧ Chg (fun _ => False) w' w'' := fun w' hc => by have h := hrofN w' hc; rw [HLl.out] at h; exact h
          clear hl1 hl2 hsl1 hsl2 hea1 hea2 h64 hr1 hr2
          go_wp2_with (first
            | (go_at_call 43; refine hofN.mono ?_; rintro e w2 ⟨rfl, hc12⟩; have HC12 := Lib.hid hc12; clear hc12)
            | (go_at_call 44; refine (hrofN _ (HC01.out.trans' HC12.out)).mono ?_; rintro e w3 ⟨rfl, hc23⟩; have HC13 := Lib.hid (HC12.out.trans' hc23); clear hc23))
          clear hofN hrofN
          go_loopw [63] (fun j wr => ∃ i : Nat, j = .int .i64 i ∧ i ≤ 50 ∧ wr.ownsRow W.heap.size 68 1 (.slice oau 50 cu) 50 gs2 ∧ (∀ (t : Nat) g b, i ≤ t → gs2[t]? = some g → L1[t]? = some b → wr.ownsRow W.heap.size 5 1 g b.length (cellsB b)) ∧ Chg (fun x => W.heap.size ≤ x ∧ x < w1.heap.size) w3 wr) (fun j _ => 50 - (intOf j).toNat)
          · exact ⟨0, rfl, Nat.zero_le _, row_kept HGr.out HC13.out (fun _ _ h => h), fun t g b _ hg hb => row_kept (HGe.out t g b hg hb).1 HC13.out (fun _ _ h => h), Chg.refl _ _⟩
          obtain ⟨i, rfl, hi, hro, hrg, hc⟩ := hrel
          have HRo := Lib.hid hro
          have HRg := Lib.hid hrg
          have HC := Lib.hid hc
          have HCW := Lib.hid ((HC01.out.trans' HC13.out).new hc (fun k hk => hk.1))
          clear hro hrg hc
          by_cases hlt : i < 50
          · have hii : (i : Int) < (50 : Int) := by omega
            have hib : i < L1.length := by rw [HLl.out]; exact hlt
            have hig : i < gs2.length := by rw [HGl2.out]; exact hlt
            have hig1 : i < gs1.length := by rw [HGl.out]; exact hlt
            obtain ⟨b, hb⟩ : ∃ b, L1[i]? = some b := ⟨L1[i], List.getElem?_eq_getElem hib⟩
            obtain ⟨g, hg⟩ : ∃ g, gs2[i]? = some g := ⟨gs2[i], List.getElem?_eq_getElem hig⟩
            obtain ⟨gi, hgi⟩ : ∃ gi, gs1[i] = gi := ⟨_, rfl⟩
            have hrow := HRg.out i g b (Nat.le_refl _) hg hb
            have hrow1 := (HGe.out i g b hg hb).1
            obtain ⟨hsl, hbl⟩ := HEa.out i gi b (by rw [List.getElem?_eq_getElem hig1, hgi]) hb
            obtain ⟨nb, hnb⟩ : ∃ nb, b.length = nb := ⟨_, rfl⟩
            have hnbB : nb ≤ 140737488351232 := by rw [← hnb]; exact hbl
            have hby : 50 * 24 ≤ 140737488351232 := HBy.out
            clear hbl
            rw [hnb] at hrow hrow1
            obtain ⟨oag, cg, rfl⟩ := own_slice hrow
            obtain ⟨go, e1, hcg⟩ : ∃ go, oau = some ⟨go, 0, none⟩ ∧ wr.cell? ⟨go, i, none⟩ = some (.slice oag nb cg) := by
              rcases HRo.out.2 with ⟨e1, h0⟩ | ⟨go, cap', cur, e1, -⟩
              · omega
              · simp only [Value.slice.injEq] at e1
                obtain ⟨rfl, -, -⟩ := e1
                refine ⟨go, rfl, ?_⟩
                obtain ⟨hx, h1, -⟩ := own_cell HRo.out hlt
                rw [h1]
                rw [List.getElem?_eq_getElem hig] at hg
                exact hg
            subst e1
            obtain ⟨str, hstr⟩ : ∃ str : ByteArray, (⟨b.toArray⟩ : ByteArray) = str := ⟨_, rfl⟩
            have hcv : (convert 68 9 (.slice oag nb cg)).run Try.prog wr.drew = .ok (.string str) wr.drew := by
              have h1 := conv_own (row_kept hrow ((Chg.refl (fun _ => False) wr).drew) (fun _ _ h => h))
              rw [hstr] at h1
              exact h1
            obtain ⟨b0, off, hoa, -, hc0⟩ := HSl.out.cell hig1
            rw [hgi] at hc0
            have hci := HCW.out.cell hc0 id
            have hcv2 : (convert 68 9 gi).run Try.prog wr.drew = .ok (.string str) wr.drew := by
              have h1 := conv_slat (hsl.kept HCW.out.drew)
              rw [hstr] at h1
              exact h1
            have hgo : ∀ k, (Value.slice oag nb cg).ownBlock = some k → ¬ go = k := fun k hk e => by
              obtain ⟨c1, h1⟩ := row_obj hrow hk
              obtain ⟨c2, h2⟩ := row_obj HRo.out (g := go) rfl
              rw [← e, h2] at h1
              simp only [Option.some.injEq, Obj.cells.injEq] at h1
              exact types_ne' h1.2.1
            have hown : ∀ x, (Value.slice oag nb cg).ownBlock = some x → W.heap.size ≤ x ∧ x < w1.heap.size := fun x e => hrow1.lt x e
            have HGo := Lib.hid hgo
            have HOwn := Lib.hid hown
            have HRow := Lib.hid hrow
            have HCg := Lib.hid hcg
            have HCi := Lib.hid hci
            have HCv := Lib.hid hcv
            have HCv2 := Lib.hid hcv2
            have Hg := Lib.hid hg
            have HOA := Lib.hid hoa
            clear hgo hrow hrow1 hcg hci hcv hcv2 hg hb hstr hnb hown hsl hc0 hgi hoa
            have hoa := HOA.out
            rw [hoa]
            go_wp2_with fail
            refine wp_region_noPanic ?_
            refine wp_region_held_drew (S := (fun w' => w'.cell? ⟨go, i, none⟩ = some (.slice oag nb cg) ∧ (convert 68 9 (.slice oag nb cg)).run Try.prog w' = .ok (.string str) w' ∧ w'.cell? ⟨b0, off + i, none⟩ = some gi ∧ (convert 68 9 gi).run Try.prog w' = .ok (.string str) w')) (by kernel_rfl) (⟨HCg.out, HCv.out, HCi.out, HCv2.out⟩) (fun hHeld => ?_)
            refine take_list (i := 0) (v := ?_) rfl (by kernel_rfl) (by kernel_rfl) (by kernel_rfl) (fun _ _ _ h => h) (Or.inl ⟨by rfl, fun w hSw => ?_⟩) hHeld ?_
            rotate_left
            · (obtain ⟨hSw1, hSw2, hSw3, hSw4⟩ := hSw; go_simp)
              try with_reducible rfl
            simp only [Act.put, List.setIfInBounds_toArray, List.set_cons_zero, List.set_cons_succ]
            refine take_list (i := 1) (v := ?_) rfl (by kernel_rfl) (by kernel_rfl) (by kernel_rfl) (fun _ _ _ h => h) (Or.inl ⟨by rfl, fun w hSw => ?_⟩) hHeld ?_
            rotate_left
            · (obtain ⟨hSw1, hSw2, hSw3, hSw4⟩ := hSw; go_simp)
              try with_reducible rfl
            simp only [Act.put, List.setIfInBounds_toArray, List.set_cons_zero, List.set_cons_succ]
            refine take_list (i := 2) (v := ?_) rfl (by kernel_rfl) (by kernel_rfl) (by kernel_rfl) (fun _ _ _ h => h) (Or.inl ⟨by rfl, fun w hSw => ?_⟩) hHeld ?_
            rotate_left
            · (obtain ⟨hSw1, hSw2, hSw3, hSw4⟩ := hSw; go_simp)
              try with_reducible rfl
            simp only [Act.put, List.setIfInBounds_toArray, List.set_cons_zero, List.set_cons_succ]
            refine take_list (i := 3) (v := ?_) rfl (by kernel_rfl) (by kernel_rfl) (by kernel_rfl) (fun _ _ _ h => h) (Or.inl ⟨by rfl, fun w hSw => ?_⟩) hHeld ?_
            rotate_left
            · (obtain ⟨hSw1, hSw2, hSw3, hSw4⟩ := hSw; go_simp)
              try with_reducible rfl
            simp only [Act.put, List.setIfInBounds_toArray, List.set_cons_zero, List.set_cons_succ]
            refine take_list (i := 4) (v := ?_) rfl (by kernel_rfl) (by kernel_rfl) (by kernel_rfl) (fun _ _ _ h => h) (Or.inl ⟨by rfl, fun w hSw => ?_⟩) hHeld ?_
            rotate_left
            · (obtain ⟨hSw1, hSw2, hSw3, hSw4⟩ := hSw; go_simp)
              try with_reducible rfl
            simp only [Act.put, List.setIfInBounds_toArray, List.set_cons_zero, List.set_cons_succ]
            refine take_list (i := 5) (v := ?_) rfl (by kernel_rfl) (by kernel_rfl) (by kernel_rfl) (fun _ _ _ h => h) (Or.inl ⟨by rfl, fun w hSw => ?_⟩) hHeld ?_
            rotate_left
            · (obtain ⟨hSw1, hSw2, hSw3, hSw4⟩ := hSw; go_simp)
              try with_reducible rfl
            simp only [Act.put, List.setIfInBounds_toArray, List.set_cons_zero, List.set_cons_succ]
            refine take_list (i := 6) (v := ?_) rfl (by kernel_rfl) (by kernel_rfl) (by kernel_rfl) (fun _ _ _ h => h) (Or.inl ⟨by rfl, fun w hSw => ?_⟩) hHeld ?_
            rotate_left
            · (obtain ⟨hSw1, hSw2, hSw3, hSw4⟩ := hSw; go_simp)
              try with_reducible rfl
            simp only [Act.put, List.setIfInBounds_toArray, List.set_cons_zero, List.set_cons_succ]
            refine take_list (i := 7) (v := ?_) rfl (by kernel_rfl) (by kernel_rfl) (by kernel_rfl) (fun _ _ _ h => h) (Or.inl ⟨by rfl, fun w hSw => ?_⟩) hHeld ?_
            rotate_left
            · (obtain ⟨hSw1, hSw2, hSw3, hSw4⟩ := hSw; go_simp)
              try with_reducible rfl
            simp only [Act.put, List.setIfInBounds_toArray, List.set_cons_zero, List.set_cons_succ]
            refine take_list (i := 8) (v := ?_) rfl (by kernel_rfl) (by kernel_rfl) (by kernel_rfl) (fun _ _ _ h => h) (Or.inl ⟨by rfl, fun w hSw => ?_⟩) hHeld ?_
            rotate_left
            · (obtain ⟨hSw1, hSw2, hSw3, hSw4⟩ := hSw; go_simp)
              try with_reducible rfl
            simp only [Act.put, List.setIfInBounds_toArray, List.set_cons_zero, List.set_cons_succ]
            refine take_list (i := 9) (v := ?_) rfl (by kernel_rfl) (by kernel_rfl) (by kernel_rfl) (fun _ _ _ h => h) (Or.inl ⟨by rfl, fun w hSw => ?_⟩) hHeld ?_
            rotate_left
            · (obtain ⟨hSw1, hSw2, hSw3, hSw4⟩ := hSw; go_simp)
              try with_reducible rfl
            simp only [Act.put, List.setIfInBounds_toArray, List.set_cons_zero, List.set_cons_succ]
            refine take_list (i := 10) (v := ?_) rfl (by kernel_rfl) (by kernel_rfl) (by kernel_rfl) (fun _ _ _ h => h) (Or.inl ⟨by rfl, fun w hSw => ?_⟩) hHeld ?_
            rotate_left
            · (obtain ⟨hSw1, hSw2, hSw3, hSw4⟩ := hSw; go_simp)
              try with_reducible rfl
            simp only [Act.put, List.setIfInBounds_toArray, List.set_cons_zero, List.set_cons_succ]
            refine wpAnyH_done (by kernel_rfl) ?_ _
            refine NoPanic.normal ?_
            clear hHeld
            have hcg := HCg.out
            go_wp2_with fail
            go_loopw [82] (fun j wr' => ∃ k : Nat, j = .int .i64 k ∧ k ≤ nb ∧ (∃ b' : Blk, wr'.ownsRow W.heap.size 5 1 (.slice oag nb cg) nb (cellsB b')) ∧ Chg (fun x => (Value.slice oag nb cg).ownBlock = some x) wr wr') (fun j _ => nb - (intOf j).toNat)
            · exact ⟨0, rfl, Nat.zero_le _, ⟨b, row_kept HRow.out ((Chg.refl (fun _ => False) wr).drew) (fun _ _ h => h)⟩, (Chg.refl _ _).drew⟩
            clear hcg
            obtain ⟨k, rfl, hk, ⟨b', hb'⟩, hc'⟩ := hrel
            have HC' := Lib.hid hc'
            have hcg := hc'.cell HCg.out (fun e => HGo.out _ e rfl)
            have hlt' : i < 50 := hlt
            by_cases hltk : k < nb
            · have hkk : (k : Int) < (nb : Int) := by omega
              obtain ⟨gg, c, rfl, hcc, hzz, hbg, hbg2, hnext⟩ := inc_at hb' hltk
              have HNext := Lib.hid hnext
              clear hb' hc' hnext
              go_wp2_with fail
              refine ⟨⟨k + 1, by go_num, hltk, ⟨_, HNext.out _ (by first | exact inc_wrap _ | exact inc_mod _)⟩, HC'.out.setCell (p := ⟨gg, k, none⟩) (fun _ => rfl) _⟩, meas_step hltk⟩
            · have hkk : ¬ (k : Int) < (nb : Int) := by omega
              clear hb' hc'
              go_wp2_with fail
              refine ⟨⟨i + 1, by go_num, hlt', row_kept HRo.out HC'.out (fun x hx e => ?_), fun t g b ht hg hb => row_kept (HRg.out t g b (by omega) hg hb) HC'.out (fun x hx e => ?_), HC.out.trans' (HC'.out.mono (fun x _ e => HOwn.out x e))⟩, meas_step hlt'⟩
              · cases hx; exact HGo.out _ e rfl
              · rcases HGa.out i t _ _ (by omega) Hg.out hg with h | h
                · rw [h] at e; cases e
                · exact h (by rw [e, hx])
          · have hii : ¬ (i : Int) < (50 : Int) := by omega
            go_wp2_with fail
            go_loopw [13] (fun j wr => j = .int .i64 0 ∧ Chg (fun _ => False) W wr) (fun _ _ => 0)
            · exact ⟨rfl, HCW.out⟩
            obtain ⟨rfl, hcz⟩ := hrel
            have HCz := Lib.hid hcz
            clear hcz
            by_cases hl : 0 < acts.length
            · have hli : (0 : Int) < (acts.length : Int) := by omega
              clear hl
              obtain ⟨wm, hm, ho, hcm⟩ := made_u8 wr 64 (by omega)
              have hm' : (Instr.makeSlice 68 (.int .i64 64) (.int .i64 64)).run Try.prog wr = .ok (.slice (some ⟨wr.heap.size, 0, none⟩) 64 64) wm := hm
              obtain ⟨ho1, ho2⟩ := one_args wr wm ho
              have HO1 := Lib.hid ho1
              have HO2 := Lib.hid ho2
              have HCm := Lib.hid hcm
              clear hm ho hcm ho1 ho2
              go_wp2_with (first
                | (go_at_call 43; refine (of_64 (L := [zeroBlk]) _ rfl HO1.out HO2.out (by decide) (by decide) (by intro b hb; rw [List.mem_singleton.1 hb]; rfl)).mono ?_; rintro e w7 ⟨d7, rfl, hx7, hc7⟩; have HX7 := Lib.hid hx7; have HC7 := Lib.hid hc7; clear hx7 hc7)
                | (go_at_call 47; refine (blocks_any _ (HX7.out)).mono ?_; rw [show ((DV.ofK [zeroBlk] ([zeroBlk] : List Blk).length).B.length : Int) = 1 from rfl]; rintro e w8 ⟨rfl, rfl⟩)
                | (go_at_call 46; refine (same_any _ ((HD.out.fresh HCm.out).fresh (((Chg.refl (fun _ => False) wm).alloc _).trans' HC7.out)) HL.out (by omega)).mono ?_; rintro e w9 ⟨rfl, hc9⟩; have HC9 := Lib.hid hc9; clear hc9))
              go_ret
              exact ⟨rfl, (HCz.out.trans' HCm.out).trans' (((Chg.refl (fun _ => False) wm).alloc _).trans' HC7.out)⟩
            · have hli : ¬ (0 : Int) < (acts.length : Int) := by omega
              clear hl
              obtain ⟨wm, hm, ho, hcm⟩ := made_u8 wr 64 (by omega)
              have hm' : (Instr.makeSlice 68 (.int .i64 64) (.int .i64 64)).run Try.prog wr = .ok (.slice (some ⟨wr.heap.size, 0, none⟩) 64 64) wm := hm
              obtain ⟨ho1, ho2⟩ := one_args wr wm ho
              have HO1 := Lib.hid ho1
              have HO2 := Lib.hid ho2
              have HCm := Lib.hid hcm
              clear hm ho hcm ho1 ho2
              go_wp2_with (first
                | (go_at_call 43; refine (of_64 (L := [zeroBlk]) _ rfl HO1.out HO2.out (by decide) (by decide) (by intro b hb; rw [List.mem_singleton.1 hb]; rfl)).mono ?_; rintro e w7 ⟨d7, rfl, hx7, hc7⟩; have HX7 := Lib.hid hx7; have HC7 := Lib.hid hc7; clear hx7 hc7)
                | (go_at_call 47; refine (blocks_any _ (HX7.out)).mono ?_; rw [show ((DV.ofK [zeroBlk] ([zeroBlk] : List Blk).length).B.length : Int) = 1 from rfl]; rintro e w8 ⟨rfl, rfl⟩)
                | (go_at_call 46; refine (same_any _ ((HD.out.fresh HCm.out).fresh (((Chg.refl (fun _ => False) wm).alloc _).trans' HC7.out)) HL.out (by omega)).mono ?_; rintro e w9 ⟨rfl, hc9⟩; have HC9 := Lib.hid hc9; clear hc9))
              go_ret
              exact ⟨rfl, (HCz.out.trans' HCm.out).trans' (((Chg.refl (fun _ => False) wm).alloc _).trans' HC7.out)⟩
      · have hb : L1.length < 1 ∨ 4096 < L1.length := by omega
        rw [HLl.out] at hb
        have HBd := Lib.hid hb
        have hofN : Calls Try.prog 43 #[.slice oau 50 cu] w1 fun e w' => e = .returned (.tuple #[.pointer none, .int .i64 2]) ∧ Chg (fun _ => False) w1 w' := (of_bad w1 _ _ _ HBd.out).mono (by rintro e w' ⟨h, rfl⟩; exact ⟨h, Chg.refl _ _⟩)
        have hrofN : ∀ w', Chg (fun _ => False) W w' → Calls Try.prog 44 #[.slice oa 50 cap] w' fun e w'' => e = .returned (.tuple #[.pointer none, .int .i64 2]) ∧ Chg (fun _ => False) w' w'' := fun w' hc => (refof_bad w' _ _ _ HBd.out).mono (by rintro e w' ⟨h, rfl⟩; exact ⟨h, Chg.refl _ _⟩)
        clear hl1 hl2 hsl1 hsl2 hea1 hea2 hr hb
        go_wp2_with (first
          | (go_at_call 43; refine hofN.mono ?_; rintro e w2 ⟨rfl, hc12⟩; have HC12 := Lib.hid hc12; clear hc12)
          | (go_at_call 44; refine (hrofN _ (HC01.out.trans' HC12.out)).mono ?_; rintro e w3 ⟨rfl, hc23⟩; have HC13 := Lib.hid (HC12.out.trans' hc23); clear hc23))
        clear hofN hrofN
        go_loopw [63] (fun j wr => ∃ i : Nat, j = .int .i64 i ∧ i ≤ 50 ∧ wr.ownsRow W.heap.size 68 1 (.slice oau 50 cu) 50 gs2 ∧ (∀ (t : Nat) g b, i ≤ t → gs2[t]? = some g → L1[t]? = some b → wr.ownsRow W.heap.size 5 1 g b.length (cellsB b)) ∧ Chg (fun x => W.heap.size ≤ x ∧ x < w1.heap.size) w3 wr) (fun j _ => 50 - (intOf j).toNat)
        · exact ⟨0, rfl, Nat.zero_le _, row_kept HGr.out HC13.out (fun _ _ h => h), fun t g b _ hg hb => row_kept (HGe.out t g b hg hb).1 HC13.out (fun _ _ h => h), Chg.refl _ _⟩
        obtain ⟨i, rfl, hi, hro, hrg, hc⟩ := hrel
        have HRo := Lib.hid hro
        have HRg := Lib.hid hrg
        have HC := Lib.hid hc
        have HCW := Lib.hid ((HC01.out.trans' HC13.out).new hc (fun k hk => hk.1))
        clear hro hrg hc
        by_cases hlt : i < 50
        · have hii : (i : Int) < (50 : Int) := by omega
          have hib : i < L1.length := by rw [HLl.out]; exact hlt
          have hig : i < gs2.length := by rw [HGl2.out]; exact hlt
          have hig1 : i < gs1.length := by rw [HGl.out]; exact hlt
          obtain ⟨b, hb⟩ : ∃ b, L1[i]? = some b := ⟨L1[i], List.getElem?_eq_getElem hib⟩
          obtain ⟨g, hg⟩ : ∃ g, gs2[i]? = some g := ⟨gs2[i], List.getElem?_eq_getElem hig⟩
          obtain ⟨gi, hgi⟩ : ∃ gi, gs1[i] = gi := ⟨_, rfl⟩
          have hrow := HRg.out i g b (Nat.le_refl _) hg hb
          have hrow1 := (HGe.out i g b hg hb).1
          obtain ⟨hsl, hbl⟩ := HEa.out i gi b (by rw [List.getElem?_eq_getElem hig1, hgi]) hb
          obtain ⟨nb, hnb⟩ : ∃ nb, b.length = nb := ⟨_, rfl⟩
          have hnbB : nb ≤ 140737488351232 := by rw [← hnb]; exact hbl
          have hby : 50 * 24 ≤ 140737488351232 := HBy.out
          clear hbl
          rw [hnb] at hrow hrow1
          obtain ⟨oag, cg, rfl⟩ := own_slice hrow
          obtain ⟨go, e1, hcg⟩ : ∃ go, oau = some ⟨go, 0, none⟩ ∧ wr.cell? ⟨go, i, none⟩ = some (.slice oag nb cg) := by
            rcases HRo.out.2 with ⟨e1, h0⟩ | ⟨go, cap', cur, e1, -⟩
            · omega
            · simp only [Value.slice.injEq] at e1
              obtain ⟨rfl, -, -⟩ := e1
              refine ⟨go, rfl, ?_⟩
              obtain ⟨hx, h1, -⟩ := own_cell HRo.out hlt
              rw [h1]
              rw [List.getElem?_eq_getElem hig] at hg
              exact hg
          subst e1
          obtain ⟨str, hstr⟩ : ∃ str : ByteArray, (⟨b.toArray⟩ : ByteArray) = str := ⟨_, rfl⟩
          have hcv : (convert 68 9 (.slice oag nb cg)).run Try.prog wr.drew = .ok (.string str) wr.drew := by
            have h1 := conv_own (row_kept hrow ((Chg.refl (fun _ => False) wr).drew) (fun _ _ h => h))
            rw [hstr] at h1
            exact h1
          obtain ⟨b0, off, hoa, -, hc0⟩ := HSl.out.cell hig1
          rw [hgi] at hc0
          have hci := HCW.out.cell hc0 id
          have hcv2 : (convert 68 9 gi).run Try.prog wr.drew = .ok (.string str) wr.drew := by
            have h1 := conv_slat (hsl.kept HCW.out.drew)
            rw [hstr] at h1
            exact h1
          have hgo : ∀ k, (Value.slice oag nb cg).ownBlock = some k → ¬ go = k := fun k hk e => by
            obtain ⟨c1, h1⟩ := row_obj hrow hk
            obtain ⟨c2, h2⟩ := row_obj HRo.out (g := go) rfl
            rw [← e, h2] at h1
            simp only [Option.some.injEq, Obj.cells.injEq] at h1
            exact types_ne' h1.2.1
          have hown : ∀ x, (Value.slice oag nb cg).ownBlock = some x → W.heap.size ≤ x ∧ x < w1.heap.size := fun x e => hrow1.lt x e
          have HGo := Lib.hid hgo
          have HOwn := Lib.hid hown
          have HRow := Lib.hid hrow
          have HCg := Lib.hid hcg
          have HCi := Lib.hid hci
          have HCv := Lib.hid hcv
          have HCv2 := Lib.hid hcv2
          have Hg := Lib.hid hg
          have HOA := Lib.hid hoa
          clear hgo hrow hrow1 hcg hci hcv hcv2 hg hb hstr hnb hown hsl hc0 hgi hoa
          have hoa := HOA.out
          rw [hoa]
          go_wp2_with fail
          refine wp_region_noPanic ?_
          refine wp_region_held_drew (S := (fun w' => w'.cell? ⟨go, i, none⟩ = some (.slice oag nb cg) ∧ (convert 68 9 (.slice oag nb cg)).run Try.prog w' = .ok (.string str) w' ∧ w'.cell? ⟨b0, off + i, none⟩ = some gi ∧ (convert 68 9 gi).run Try.prog w' = .ok (.string str) w')) (by kernel_rfl) (⟨HCg.out, HCv.out, HCi.out, HCv2.out⟩) (fun hHeld => ?_)
          refine take_list (i := 0) (v := ?_) rfl (by kernel_rfl) (by kernel_rfl) (by kernel_rfl) (fun _ _ _ h => h) (Or.inl ⟨by rfl, fun w hSw => ?_⟩) hHeld ?_
          rotate_left
          · (obtain ⟨hSw1, hSw2, hSw3, hSw4⟩ := hSw; go_simp)
            try with_reducible rfl
          simp only [Act.put, List.setIfInBounds_toArray, List.set_cons_zero, List.set_cons_succ]
          refine take_list (i := 1) (v := ?_) rfl (by kernel_rfl) (by kernel_rfl) (by kernel_rfl) (fun _ _ _ h => h) (Or.inl ⟨by rfl, fun w hSw => ?_⟩) hHeld ?_
          rotate_left
          · (obtain ⟨hSw1, hSw2, hSw3, hSw4⟩ := hSw; go_simp)
            try with_reducible rfl
          simp only [Act.put, List.setIfInBounds_toArray, List.set_cons_zero, List.set_cons_succ]
          refine take_list (i := 2) (v := ?_) rfl (by kernel_rfl) (by kernel_rfl) (by kernel_rfl) (fun _ _ _ h => h) (Or.inl ⟨by rfl, fun w hSw => ?_⟩) hHeld ?_
          rotate_left
          · (obtain ⟨hSw1, hSw2, hSw3, hSw4⟩ := hSw; go_simp)
            try with_reducible rfl
          simp only [Act.put, List.setIfInBounds_toArray, List.set_cons_zero, List.set_cons_succ]
          refine take_list (i := 3) (v := ?_) rfl (by kernel_rfl) (by kernel_rfl) (by kernel_rfl) (fun _ _ _ h => h) (Or.inl ⟨by rfl, fun w hSw => ?_⟩) hHeld ?_
          rotate_left
          · (obtain ⟨hSw1, hSw2, hSw3, hSw4⟩ := hSw; go_simp)
            try with_reducible rfl
          simp only [Act.put, List.setIfInBounds_toArray, List.set_cons_zero, List.set_cons_succ]
          refine take_list (i := 4) (v := ?_) rfl (by kernel_rfl) (by kernel_rfl) (by kernel_rfl) (fun _ _ _ h => h) (Or.inl ⟨by rfl, fun w hSw => ?_⟩) hHeld ?_
          rotate_left
          · (obtain ⟨hSw1, hSw2, hSw3, hSw4⟩ := hSw; go_simp)
            try with_reducible rfl
          simp only [Act.put, List.setIfInBounds_toArray, List.set_cons_zero, List.set_cons_succ]
          refine take_list (i := 5) (v := ?_) rfl (by kernel_rfl) (by kernel_rfl) (by kernel_rfl) (fun _ _ _ h => h) (Or.inl ⟨by rfl, fun w hSw => ?_⟩) hHeld ?_
          rotate_left
          · (obtain ⟨hSw1, hSw2, hSw3, hSw4⟩ := hSw; go_simp)
            try with_reducible rfl
          simp only [Act.put, List.setIfInBounds_toArray, List.set_cons_zero, List.set_cons_succ]
          refine take_list (i := 6) (v := ?_) rfl (by kernel_rfl) (by kernel_rfl) (by kernel_rfl) (fun _ _ _ h => h) (Or.inl ⟨by rfl, fun w hSw => ?_⟩) hHeld ?_
          rotate_left
          · (obtain ⟨hSw1, hSw2, hSw3, hSw4⟩ := hSw; go_simp)
            try with_reducible rfl
          simp only [Act.put, List.setIfInBounds_toArray, List.set_cons_zero, List.set_cons_succ]
          refine take_list (i := 7) (v := ?_) rfl (by kernel_rfl) (by kernel_rfl) (by kernel_rfl) (fun _ _ _ h => h) (Or.inl ⟨by rfl, fun w hSw => ?_⟩) hHeld ?_
          rotate_left
          · (obtain ⟨hSw1, hSw2, hSw3, hSw4⟩ := hSw; go_simp)
            try with_reducible rfl
          simp only [Act.put, List.setIfInBounds_toArray, List.set_cons_zero, List.set_cons_succ]
          refine take_list (i := 8) (v := ?_) rfl (by kernel_rfl) (by kernel_rfl) (by kernel_rfl) (fun _ _ _ h => h) (Or.inl ⟨by rfl, fun w hSw => ?_⟩) hHeld ?_
          rotate_left
          · (obtain ⟨hSw1, hSw2, hSw3, hSw4⟩ := hSw; go_simp)
            try with_reducible rfl
          simp only [Act.put, List.setIfInBounds_toArray, List.set_cons_zero, List.set_cons_succ]
          refine take_list (i := 9) (v := ?_) rfl (by kernel_rfl) (by kernel_rfl) (by kernel_rfl) (fun _ _ _ h => h) (Or.inl ⟨by rfl, fun w hSw => ?_⟩) hHeld ?_
          rotate_left
          · (obtain ⟨hSw1, hSw2, hSw3, hSw4⟩ := hSw; go_simp)
            try with_reducible rfl
          simp only [Act.put, List.setIfInBounds_toArray, List.set_cons_zero, List.set_cons_succ]
          refine take_list (i := 10) (v := ?_) rfl (by kernel_rfl) (by kernel_rfl) (by kernel_rfl) (fun _ _ _ h => h) (Or.inl ⟨by rfl, fun w hSw => ?_⟩) hHeld ?_
          rotate_left
          · (obtain ⟨hSw1, hSw2, hSw3, hSw4⟩ := hSw; go_simp)
            try with_reducible rfl
          simp only [Act.put, List.setIfInBounds_toArray, List.set_cons_zero, List.set_cons_succ]
          refine wpAnyH_done (by kernel_rfl) ?_ _
          refine NoPanic.normal ?_
          clear hHeld
          have hcg := HCg.out
          go_wp2_with fail
          go_loopw [82] (fun j wr' => ∃ k : Nat, j = .int .i64 k ∧ k ≤ nb ∧ (∃ b' : Blk, wr'.ownsRow W.heap.size 5 1 (.slice oag nb cg) nb (cellsB b')) ∧ Chg (fun x => (Value.slice oag nb cg).ownBlock = some x) wr wr') (fun j _ => nb - (intOf j).toNat)
          · exact ⟨0, rfl, Nat.zero_le _, ⟨b, row_kept HRow.out ((Chg.refl (fun _ => False) wr).drew) (fun _ _ h => h)⟩, (Chg.refl _ _).drew⟩
          clear hcg
          obtain ⟨k, rfl, hk, ⟨b', hb'⟩, hc'⟩ := hrel
          have HC' := Lib.hid hc'
          have hcg := hc'.cell HCg.out (fun e => HGo.out _ e rfl)
          have hlt' : i < 50 := hlt
          by_cases hltk : k < nb
          · have hkk : (k : Int) < (nb : Int) := by omega
            obtain ⟨gg, c, rfl, hcc, hzz, hbg, hbg2, hnext⟩ := inc_at hb' hltk
            have HNext := Lib.hid hnext
            clear hb' hc' hnext
            go_wp2_with fail
            refine ⟨⟨k + 1, by go_num, hltk, ⟨_, HNext.out _ (by first | exact inc_wrap _ | exact inc_mod _)⟩, HC'.out.setCell (p := ⟨gg, k, none⟩) (fun _ => rfl) _⟩, meas_step hltk⟩
          · have hkk : ¬ (k : Int) < (nb : Int) := by omega
            clear hb' hc'
            go_wp2_with fail
            refine ⟨⟨i + 1, by go_num, hlt', row_kept HRo.out HC'.out (fun x hx e => ?_), fun t g b ht hg hb => row_kept (HRg.out t g b (by omega) hg hb) HC'.out (fun x hx e => ?_), HC.out.trans' (HC'.out.mono (fun x _ e => HOwn.out x e))⟩, meas_step hlt'⟩
            · cases hx; exact HGo.out _ e rfl
            · rcases HGa.out i t _ _ (by omega) Hg.out hg with h | h
              · rw [h] at e; cases e
              · exact h (by rw [e, hx])
        · have hii : ¬ (i : Int) < (50 : Int) := by omega
          go_wp2_with fail
          go_loopw [13] (fun j wr => j = .int .i64 0 ∧ Chg (fun _ => False) W wr) (fun _ _ => 0)
          · exact ⟨rfl, HCW.out⟩
          obtain ⟨rfl, hcz⟩ := hrel
          have HCz := Lib.hid hcz
          clear hcz
          by_cases hl : 0 < acts.length
          · have hli : (0 : Int) < (acts.length : Int) := by omega
            clear hl
            obtain ⟨wm, hm, ho, hcm⟩ := made_u8 wr 64 (by omega)
            have hm' : (Instr.makeSlice 68 (.int .i64 64) (.int .i64 64)).run Try.prog wr = .ok (.slice (some ⟨wr.heap.size, 0, none⟩) 64 64) wm := hm
            obtain ⟨ho1, ho2⟩ := one_args wr wm ho
            have HO1 := Lib.hid ho1
            have HO2 := Lib.hid ho2
            have HCm := Lib.hid hcm
            clear hm ho hcm ho1 ho2
            go_wp2_with (first
              | (go_at_call 43; refine (of_64 (L := [zeroBlk]) _ rfl HO1.out HO2.out (by decide) (by decide) (by intro b hb; rw [List.mem_singleton.1 hb]; rfl)).mono ?_; rintro e w7 ⟨d7, rfl, hx7, hc7⟩; have HX7 := Lib.hid hx7; have HC7 := Lib.hid hc7; clear hx7 hc7)
              | (go_at_call 47; refine (blocks_any _ (HX7.out)).mono ?_; rw [show ((DV.ofK [zeroBlk] ([zeroBlk] : List Blk).length).B.length : Int) = 1 from rfl]; rintro e w8 ⟨rfl, rfl⟩)
              | (go_at_call 46; refine (same_any _ ((HD.out.fresh HCm.out).fresh (((Chg.refl (fun _ => False) wm).alloc _).trans' HC7.out)) HL.out (by omega)).mono ?_; rintro e w9 ⟨rfl, hc9⟩; have HC9 := Lib.hid hc9; clear hc9))
            go_ret
            exact ⟨rfl, (HCz.out.trans' HCm.out).trans' (((Chg.refl (fun _ => False) wm).alloc _).trans' HC7.out)⟩
          · have hli : ¬ (0 : Int) < (acts.length : Int) := by omega
            clear hl
            obtain ⟨wm, hm, ho, hcm⟩ := made_u8 wr 64 (by omega)
            have hm' : (Instr.makeSlice 68 (.int .i64 64) (.int .i64 64)).run Try.prog wr = .ok (.slice (some ⟨wr.heap.size, 0, none⟩) 64 64) wm := hm
            obtain ⟨ho1, ho2⟩ := one_args wr wm ho
            have HO1 := Lib.hid ho1
            have HO2 := Lib.hid ho2
            have HCm := Lib.hid hcm
            clear hm ho hcm ho1 ho2
            go_wp2_with (first
              | (go_at_call 43; refine (of_64 (L := [zeroBlk]) _ rfl HO1.out HO2.out (by decide) (by decide) (by intro b hb; rw [List.mem_singleton.1 hb]; rfl)).mono ?_; rintro e w7 ⟨d7, rfl, hx7, hc7⟩; have HX7 := Lib.hid hx7; have HC7 := Lib.hid hc7; clear hx7 hc7)
              | (go_at_call 47; refine (blocks_any _ (HX7.out)).mono ?_; rw [show ((DV.ofK [zeroBlk] ([zeroBlk] : List Blk).length).B.length : Int) = 1 from rfl]; rintro e w8 ⟨rfl, rfl⟩)
              | (go_at_call 46; refine (same_any _ ((HD.out.fresh HCm.out).fresh (((Chg.refl (fun _ => False) wm).alloc _).trans' HC7.out)) HL.out (by omega)).mono ?_; rintro e w9 ⟨rfl, hc9⟩; have HC9 := Lib.hid hc9; clear hc9))
            go_ret
            exact ⟨rfl, (HCz.out.trans' HCm.out).trans' (((Chg.refl (fun _ => False) wm).alloc _).trans' HC7.out)⟩
  · obtain ⟨M, hM⟩ : ∃ M, L.length = M := ⟨_, rfl⟩
    generalize hL1 : L = L1 at *
    generalize hgs1 : gs = gs1 at *
    clear hL1 hgs1
    rw [hM] at h50 hlc hby hgl hsl ⊢
    have HLl := Lib.hid hM
    have HGl := Lib.hid hgl
    have HSl := Lib.hid hsl
    have HEa := Lib.hid hea
    have HBy := Lib.hid hby
    clear hM hlc hcm hby hgl hsl hea
    by_cases h51 : 50 < M
    · have h52 : ¬ M ≤ 4096 := fun h => h50 ⟨h51, h⟩
      have h51i : (50 : Int) < (M : Int) := by omega
      have h52i : ¬ (M : Int) ≤ 4096 := by omega
      clear h50 h51 h52
      go_enter Try.func12, Try.ntmps12
      go_wp2_with fail
      go_loopw [5, 28] (fun u j wr => ∃ k : Nat, j = .int .i64 k ∧ k ≤ M ∧ ImgAt wr W.heap.size u (L1.take k) ∧ Chg (fun _ => False) W wr) (fun _ j _ => M - (intOf j).toNat)
      · exact ⟨0, rfl, Nat.zero_le _, by simpa using ImgAt.nil W _, Chg.refl _ _⟩
      obtain ⟨k, rfl, hk, hI, hc⟩ := hrel
      have HIm := Lib.hid hI
      have HC := Lib.hid hc
      clear hI hc
      by_cases hlt : k < M
      · have hki : (k : Int) < (M : Int) := by omega
        have hkL : k < L1.length := by rw [HLl.out]; exact hlt
        have hkg : k < gs1.length := by rw [HGl.out]; exact hlt
        obtain ⟨b0, off, hoa, -, hc0⟩ := HSl.out.cell hkg
        subst hoa
        obtain ⟨g, hg⟩ : ∃ g, gs1[k] = g := ⟨_, rfl⟩
        obtain ⟨b, hb⟩ : ∃ b, L1[k] = b := ⟨_, rfl⟩
        rw [hg] at hc0
        obtain ⟨hsl, hbl⟩ := HEa.out k g b (by rw [List.getElem?_eq_getElem hkg, hg]) (by rw [List.getElem?_eq_getElem hkL, hb])
        have hbl' : b.length ≤ 140737488351232 := hbl
        have hby : M * 24 ≤ 140737488351232 := HBy.out
        have hce := HC.out.cell hc0 id
        have hca := (Chg.refl (fun _ => False) wr).alloc (.cells #[] 5)
        have hce2 := hca.cell hce id
        have hl0 := World.ownsRow_lit (e := 5) (size := 1) wr #[] 0 (Nat.le_refl _) (by unfold maxLen; omega) rfl
        obtain ⟨v', w2, hap, hrow, hc2⟩ := run_append_args (w := wr.alloc (.cells #[] 5)) wr.heap.size 68 68 5 i0 (.int .u8 0) 1 Try.underlying68 HI0.out.1 HI0.out.2.1 HI0.out.2.2.1 HI0.out.2.2.2 rfl _ hl0 _ _ (hsl.kept (HC.out.trans' hca)) (one_cellsB b) (by rw [cellsB_length]; unfold maxLen; omega) (by rw [cellsB_length]; omega) hca.size
        rw [cellsB_length] at hrow
        have hcw2 : Chg (fun _ => False) wr w2 := hca.new hc2 (fun i e => (hl0.lt i e.symm).1)
        obtain ⟨oav, cv, rfl⟩ := own_slice hrow
        have hv1 : (Value.slice oav b.length cv).oneCell' = true := rfl
        obtain ⟨gs2, hlen, hrow1, heach, hap2⟩ := HIm.out.ex
        have hl1 : (L1.take k).length = k := by rw [List.length_take]; omega
        have hc4 := hcw2.alloc (.cells #[.slice oav b.length cv] 68)
        have hrow2 := row_kept hrow1 hc4 (fun _ _ h => h)
        rw [hl1] at hrow2
        have HR2 := Lib.hid hrow2
        have HRow1 := Lib.hid hrow1
        have HRow := Lib.hid hrow
        have HE := Lib.hid heach
        have HA := Lib.hid hap2
        have HLen := Lib.hid hlen
        have HC2 := Lib.hid hcw2
        have HV1 := Lib.hid hv1
        have HB := Lib.hid hb
        clear hc0 hg hb hsl hbl hbl' hca hl0 hc2 hrow hcw2 hv1 hlen hrow1 heach hap2 hc4 hrow2
        go_wp2_with (first
          | (at_builtin; refine wpList_append_run rfl _ _ 68 rfl rfl rfl hap ?_)
          | (at_builtin; refine wpList_append_own_at _ rfl _ _ 62 rfl W.heap.size 68 i1 (.slice none 0 0) 1 24 Try.underlying62 HI1.out.1 HI1.out.2.1 HI1.out.2.2.1 HI1.out.2.2.2 rfl (by decide) _ k gs2 rfl HR2.out ⟨w2.heap.size, 0, none⟩ 1 1 [.slice oav b.length cv] rfl rfl (cells_new w2 [.slice oav b.length cv] _) (by intro x hx; rw [List.mem_singleton.1 hx]; exact HV1.out) (by unfold maxLen; omega) (by omega) (by simp only [World.size_alloc]; have := HC.out.size; have := HC2.out.size; omega) ?_; intro u' w3 ho3 hg3 hx1 hx2; have HO3 := Lib.hid ho3; have HG3 := Lib.hid hg3; clear ho3 hg3 hx1 hx2))
        have hcu : Chg (fun i => some i = u5.ownBlock) w2 w3 := ((Chg.refl _ _).alloc _).trans' (Chg.of_grown HG3.out)
        have hst := img_step HLen.out HRow1.out HE.out HA.out HC2.out HRow.out HC.out.size HV1.out (by rw [hl1]; exact HO3.out) hcu
        refine ⟨⟨k + 1, by go_num, hlt, ?_, (HC.out.trans' HC2.out).new hcu (fun i e => (HRow1.out.lt i e.symm).1)⟩, meas_step hlt⟩
        rw [List.take_add_one, List.getElem?_eq_getElem hkL, Option.toList_some, HB.out]
        exact hst
      · have hki : ¬ (k : Int) < (M : Int) := by omega
        have hkM : k = M := by omega
        rw [hkM, List.take_of_length_le (by rw [HLl.out]; exact Nat.le_refl _)] at HIm
        clear hk hlt hkM
        obtain ⟨gs2, hgl2, hgr, hge, hga⟩ := HIm.out.ex
        rw [HLl.out] at hgl2 hgr
        obtain ⟨oau, cu, rfl⟩ := own_slice hgr
        have HGl2 := Lib.hid hgl2
        have HGr := Lib.hid hgr
        have HGe := Lib.hid hge
        have HGa := Lib.hid hga
        obtain ⟨w1, hw1⟩ : ∃ x, x = wr := ⟨_, rfl⟩
        rw [← hw1] at HGr HGe HC ⊢
        have HC01 := HC
        have hsl2 : SlAt w1 (.slice oau L1.length cu) gs2 := by rw [HLl.out]; exact SlAt.of_own HGr.out
        have hea2 : ∀ (i : Nat) g b, gs2[i]? = some g → L1[i]? = some b → SlAt w1 g (cellsB b) := fun i g b hg hb => SlAt.of_own (HGe.out i g b hg hb).1
        have hsl1 : ∀ w', Chg (fun _ => False) W w' → SlAt w' (.slice oa L1.length cap) gs1 := fun w' hc => by rw [HLl.out]; exact HSl.out.kept hc
        have hea1 : ∀ w', Chg (fun _ => False) W w' → ∀ (i : Nat) g b, gs1[i]? = some g → L1[i]? = some b → SlAt w' g (cellsB b) := fun w' hc i g b hg hb => (HEa.out i g b hg hb).1.kept hc
        have hl2 : gs2.length = L1.length := by rw [HLl.out]; exact HGl2.out
        have hl1 : gs1.length = L1.length := by rw [HLl.out]; exact HGl.out
        clear hgl2 hgr hge hga hw1 HIm
        by_cases hr : 1 ≤ L1.length ∧ L1.length ≤ 4096
        · obtain ⟨hr1, hr2⟩ := hr
          by_cases h64 : ∀ b ∈ L1, b.length = 64
          · have hofG := of_64 _ hl2 hsl2 hea2 hr1 hr2 h64
            have hrofG := fun w' hc => refof_64 w' hl1 (hsl1 w' hc) (hea1 w' hc) hr1 hr2 h64
            rw [HLl.out] at hofG
            have hrofG : ∀ w', Chg (fun _ => False) W w' → Calls Try.prog 44 #[.slice oa M cap] w' fun e w'' => ∃ r, e = .returned (.tuple #[.pointer (some ⟨r, 0, none⟩), .int .i64 0]) ∧ RefAt w'' r (born w' w'') (RV.ofK L1 L1.length) ∧ Chg (fun _ => False) w' w'' := fun w' hc => by have h := hrofG w' hc; rw [HLl.out] at h ⊢; exact h
            rw [← HLl.out] at hofG
            have hofG : Calls Try.prog 43 #[.slice oau M cu] w1 fun e w' => ∃ d, e = .returned (.tuple #[.pointer (some ⟨d, 0, none⟩), .int .i64 0]) ∧ DiskAt w' d (born w1 w') (DV.ofK L1 L1.length) ∧ Chg (fun _ => False) w1 w' := by rw [HLl.out] at hofG ⊢; exact hofG
            clear hl1 hl2 hsl1 hsl2 hea1 hea2 h64 hr1 hr2
            go_wp2_with (first
              | (go_at_call 43; refine hofG.mono ?_; rintro e w2 ⟨d, rfl, hx, hc12⟩; have HX := Lib.hid hx; have HC12 := Lib.hid hc12; clear hx hc12)
              | (go_at_call 44; refine (hrofG _ (HC01.out.trans' HC12.out)).mono ?_; rintro e w3 ⟨r, rfl, hy, hc23⟩; have HD3 := Lib.hid (duo_of HC01.out HX.out HC12.out hy hc23); have HC23 := Lib.hid hc23; have HC13 := Lib.hid (HC12.out.trans' hc23); clear hy hc23))
            clear hofG hrofG
            go_loopw [63] (fun j wr => ∃ i : Nat, j = .int .i64 i ∧ i ≤ M ∧ wr.ownsRow W.heap.size 68 1 (.slice oau M cu) M gs2 ∧ (∀ (t : Nat) g b, i ≤ t → gs2[t]? = some g → L1[t]? = some b → wr.ownsRow W.heap.size 5 1 g b.length (cellsB b)) ∧ Chg (fun x => W.heap.size ≤ x ∧ x < w1.heap.size) w3 wr) (fun j _ => M - (intOf j).toNat)
            · exact ⟨0, rfl, Nat.zero_le _, row_kept HGr.out HC13.out (fun _ _ h => h), fun t g b _ hg hb => row_kept (HGe.out t g b hg hb).1 HC13.out (fun _ _ h => h), Chg.refl _ _⟩
            obtain ⟨i, rfl, hi, hro, hrg, hc⟩ := hrel
            have HRo := Lib.hid hro
            have HRg := Lib.hid hrg
            have HC := Lib.hid hc
            have HCW := Lib.hid ((HC01.out.trans' HC13.out).new hc (fun k hk => hk.1))
            clear hro hrg hc
            by_cases hlt : i < M
            · have hii : (i : Int) < (M : Int) := by omega
              have hib : i < L1.length := by rw [HLl.out]; exact hlt
              have hig : i < gs2.length := by rw [HGl2.out]; exact hlt
              have hig1 : i < gs1.length := by rw [HGl.out]; exact hlt
              obtain ⟨b, hb⟩ : ∃ b, L1[i]? = some b := ⟨L1[i], List.getElem?_eq_getElem hib⟩
              obtain ⟨g, hg⟩ : ∃ g, gs2[i]? = some g := ⟨gs2[i], List.getElem?_eq_getElem hig⟩
              obtain ⟨gi, hgi⟩ : ∃ gi, gs1[i] = gi := ⟨_, rfl⟩
              have hrow := HRg.out i g b (Nat.le_refl _) hg hb
              have hrow1 := (HGe.out i g b hg hb).1
              obtain ⟨hsl, hbl⟩ := HEa.out i gi b (by rw [List.getElem?_eq_getElem hig1, hgi]) hb
              obtain ⟨nb, hnb⟩ : ∃ nb, b.length = nb := ⟨_, rfl⟩
              have hnbB : nb ≤ 140737488351232 := by rw [← hnb]; exact hbl
              have hby : M * 24 ≤ 140737488351232 := HBy.out
              clear hbl
              rw [hnb] at hrow hrow1
              obtain ⟨oag, cg, rfl⟩ := own_slice hrow
              obtain ⟨go, e1, hcg⟩ : ∃ go, oau = some ⟨go, 0, none⟩ ∧ wr.cell? ⟨go, i, none⟩ = some (.slice oag nb cg) := by
                rcases HRo.out.2 with ⟨e1, h0⟩ | ⟨go, cap', cur, e1, -⟩
                · omega
                · simp only [Value.slice.injEq] at e1
                  obtain ⟨rfl, -, -⟩ := e1
                  refine ⟨go, rfl, ?_⟩
                  obtain ⟨hx, h1, -⟩ := own_cell HRo.out hlt
                  rw [h1]
                  rw [List.getElem?_eq_getElem hig] at hg
                  exact hg
              subst e1
              obtain ⟨str, hstr⟩ : ∃ str : ByteArray, (⟨b.toArray⟩ : ByteArray) = str := ⟨_, rfl⟩
              have hcv : (convert 68 9 (.slice oag nb cg)).run Try.prog wr.drew = .ok (.string str) wr.drew := by
                have h1 := conv_own (row_kept hrow ((Chg.refl (fun _ => False) wr).drew) (fun _ _ h => h))
                rw [hstr] at h1
                exact h1
              obtain ⟨b0, off, hoa, -, hc0⟩ := HSl.out.cell hig1
              rw [hgi] at hc0
              have hci := HCW.out.cell hc0 id
              have hcv2 : (convert 68 9 gi).run Try.prog wr.drew = .ok (.string str) wr.drew := by
                have h1 := conv_slat (hsl.kept HCW.out.drew)
                rw [hstr] at h1
                exact h1
              have hgo : ∀ k, (Value.slice oag nb cg).ownBlock = some k → ¬ go = k := fun k hk e => by
                obtain ⟨c1, h1⟩ := row_obj hrow hk
                obtain ⟨c2, h2⟩ := row_obj HRo.out (g := go) rfl
                rw [← e, h2] at h1
                simp only [Option.some.injEq, Obj.cells.injEq] at h1
                exact types_ne' h1.2.1
              have hown : ∀ x, (Value.slice oag nb cg).ownBlock = some x → W.heap.size ≤ x ∧ x < w1.heap.size := fun x e => hrow1.lt x e
              have HGo := Lib.hid hgo
              have HOwn := Lib.hid hown
              have HRow := Lib.hid hrow
              have HCg := Lib.hid hcg
              have HCi := Lib.hid hci
              have HCv := Lib.hid hcv
              have HCv2 := Lib.hid hcv2
              have Hg := Lib.hid hg
              have HOA := Lib.hid hoa
              clear hgo hrow hrow1 hcg hci hcv hcv2 hg hb hstr hnb hown hsl hc0 hgi hoa
              have hoa := HOA.out
              rw [hoa]
              go_wp2_with fail
              refine wp_region_noPanic ?_
              refine wp_region_held_drew (S := (fun w' => w'.cell? ⟨go, i, none⟩ = some (.slice oag nb cg) ∧ (convert 68 9 (.slice oag nb cg)).run Try.prog w' = .ok (.string str) w' ∧ w'.cell? ⟨b0, off + i, none⟩ = some gi ∧ (convert 68 9 gi).run Try.prog w' = .ok (.string str) w')) (by kernel_rfl) (⟨HCg.out, HCv.out, HCi.out, HCv2.out⟩) (fun hHeld => ?_)
              refine take_list (i := 0) (v := ?_) rfl (by kernel_rfl) (by kernel_rfl) (by kernel_rfl) (fun _ _ _ h => h) (Or.inl ⟨by rfl, fun w hSw => ?_⟩) hHeld ?_
              rotate_left
              · (obtain ⟨hSw1, hSw2, hSw3, hSw4⟩ := hSw; go_simp)
                try with_reducible rfl
              simp only [Act.put, List.setIfInBounds_toArray, List.set_cons_zero, List.set_cons_succ]
              refine take_list (i := 1) (v := ?_) rfl (by kernel_rfl) (by kernel_rfl) (by kernel_rfl) (fun _ _ _ h => h) (Or.inl ⟨by rfl, fun w hSw => ?_⟩) hHeld ?_
              rotate_left
              · (obtain ⟨hSw1, hSw2, hSw3, hSw4⟩ := hSw; go_simp)
                try with_reducible rfl
              simp only [Act.put, List.setIfInBounds_toArray, List.set_cons_zero, List.set_cons_succ]
              refine take_list (i := 2) (v := ?_) rfl (by kernel_rfl) (by kernel_rfl) (by kernel_rfl) (fun _ _ _ h => h) (Or.inl ⟨by rfl, fun w hSw => ?_⟩) hHeld ?_
              rotate_left
              · (obtain ⟨hSw1, hSw2, hSw3, hSw4⟩ := hSw; go_simp)
                try with_reducible rfl
              simp only [Act.put, List.setIfInBounds_toArray, List.set_cons_zero, List.set_cons_succ]
              refine take_list (i := 3) (v := ?_) rfl (by kernel_rfl) (by kernel_rfl) (by kernel_rfl) (fun _ _ _ h => h) (Or.inl ⟨by rfl, fun w hSw => ?_⟩) hHeld ?_
              rotate_left
              · (obtain ⟨hSw1, hSw2, hSw3, hSw4⟩ := hSw; go_simp)
                try with_reducible rfl
              simp only [Act.put, List.setIfInBounds_toArray, List.set_cons_zero, List.set_cons_succ]
              refine take_list (i := 4) (v := ?_) rfl (by kernel_rfl) (by kernel_rfl) (by kernel_rfl) (fun _ _ _ h => h) (Or.inl ⟨by rfl, fun w hSw => ?_⟩) hHeld ?_
              rotate_left
              · (obtain ⟨hSw1, hSw2, hSw3, hSw4⟩ := hSw; go_simp)
                try with_reducible rfl
              simp only [Act.put, List.setIfInBounds_toArray, List.set_cons_zero, List.set_cons_succ]
              refine take_list (i := 5) (v := ?_) rfl (by kernel_rfl) (by kernel_rfl) (by kernel_rfl) (fun _ _ _ h => h) (Or.inl ⟨by rfl, fun w hSw => ?_⟩) hHeld ?_
              rotate_left
              · (obtain ⟨hSw1, hSw2, hSw3, hSw4⟩ := hSw; go_simp)
                try with_reducible rfl
              simp only [Act.put, List.setIfInBounds_toArray, List.set_cons_zero, List.set_cons_succ]
              refine take_list (i := 6) (v := ?_) rfl (by kernel_rfl) (by kernel_rfl) (by kernel_rfl) (fun _ _ _ h => h) (Or.inl ⟨by rfl, fun w hSw => ?_⟩) hHeld ?_
              rotate_left
              · (obtain ⟨hSw1, hSw2, hSw3, hSw4⟩ := hSw; go_simp)
                try with_reducible rfl
              simp only [Act.put, List.setIfInBounds_toArray, List.set_cons_zero, List.set_cons_succ]
              refine take_list (i := 7) (v := ?_) rfl (by kernel_rfl) (by kernel_rfl) (by kernel_rfl) (fun _ _ _ h => h) (Or.inl ⟨by rfl, fun w hSw => ?_⟩) hHeld ?_
              rotate_left
              · (obtain ⟨hSw1, hSw2, hSw3, hSw4⟩ := hSw; go_simp)
                try with_reducible rfl
              simp only [Act.put, List.setIfInBounds_toArray, List.set_cons_zero, List.set_cons_succ]
              refine take_list (i := 8) (v := ?_) rfl (by kernel_rfl) (by kernel_rfl) (by kernel_rfl) (fun _ _ _ h => h) (Or.inl ⟨by rfl, fun w hSw => ?_⟩) hHeld ?_
              rotate_left
              · (obtain ⟨hSw1, hSw2, hSw3, hSw4⟩ := hSw; go_simp)
                try with_reducible rfl
              simp only [Act.put, List.setIfInBounds_toArray, List.set_cons_zero, List.set_cons_succ]
              refine take_list (i := 9) (v := ?_) rfl (by kernel_rfl) (by kernel_rfl) (by kernel_rfl) (fun _ _ _ h => h) (Or.inl ⟨by rfl, fun w hSw => ?_⟩) hHeld ?_
              rotate_left
              · (obtain ⟨hSw1, hSw2, hSw3, hSw4⟩ := hSw; go_simp)
                try with_reducible rfl
              simp only [Act.put, List.setIfInBounds_toArray, List.set_cons_zero, List.set_cons_succ]
              refine take_list (i := 10) (v := ?_) rfl (by kernel_rfl) (by kernel_rfl) (by kernel_rfl) (fun _ _ _ h => h) (Or.inl ⟨by rfl, fun w hSw => ?_⟩) hHeld ?_
              rotate_left
              · (obtain ⟨hSw1, hSw2, hSw3, hSw4⟩ := hSw; go_simp)
                try with_reducible rfl
              simp only [Act.put, List.setIfInBounds_toArray, List.set_cons_zero, List.set_cons_succ]
              refine wpAnyH_done (by kernel_rfl) ?_ _
              refine NoPanic.normal ?_
              clear hHeld
              have hcg := HCg.out
              go_wp2_with fail
              go_loopw [82] (fun j wr' => ∃ k : Nat, j = .int .i64 k ∧ k ≤ nb ∧ (∃ b' : Blk, wr'.ownsRow W.heap.size 5 1 (.slice oag nb cg) nb (cellsB b')) ∧ Chg (fun x => (Value.slice oag nb cg).ownBlock = some x) wr wr') (fun j _ => nb - (intOf j).toNat)
              · exact ⟨0, rfl, Nat.zero_le _, ⟨b, row_kept HRow.out ((Chg.refl (fun _ => False) wr).drew) (fun _ _ h => h)⟩, (Chg.refl _ _).drew⟩
              clear hcg
              obtain ⟨k, rfl, hk, ⟨b', hb'⟩, hc'⟩ := hrel
              have HC' := Lib.hid hc'
              have hcg := hc'.cell HCg.out (fun e => HGo.out _ e rfl)
              have hlt' : i < M := hlt
              by_cases hltk : k < nb
              · have hkk : (k : Int) < (nb : Int) := by omega
                obtain ⟨gg, c, rfl, hcc, hzz, hbg, hbg2, hnext⟩ := inc_at hb' hltk
                have HNext := Lib.hid hnext
                clear hb' hc' hnext
                go_wp2_with fail
                refine ⟨⟨k + 1, by go_num, hltk, ⟨_, HNext.out _ (by first | exact inc_wrap _ | exact inc_mod _)⟩, HC'.out.setCell (p := ⟨gg, k, none⟩) (fun _ => rfl) _⟩, meas_step hltk⟩
              · have hkk : ¬ (k : Int) < (nb : Int) := by omega
                clear hb' hc'
                go_wp2_with fail
                refine ⟨⟨i + 1, by go_num, hlt', row_kept HRo.out HC'.out (fun x hx e => ?_), fun t g b ht hg hb => row_kept (HRg.out t g b (by omega) hg hb) HC'.out (fun x hx e => ?_), HC.out.trans' (HC'.out.mono (fun x _ e => HOwn.out x e))⟩, meas_step hlt'⟩
                · cases hx; exact HGo.out _ e rfl
                · rcases HGa.out i t _ _ (by omega) Hg.out hg with h | h
                  · rw [h] at e; cases e
                  · exact h (by rw [e, hx])
            · have hii : ¬ (i : Int) < (M : Int) := by omega
              have hD := HD3.out.keep HC.out (fun k hk hF => by have := hk.2; have := hF.1; omega) (fun k hk hF => by have := hk.2; have := hF.1; have := HC12.out.size; omega) (fun k hk => hk.1)
              have HD4 := Lib.hid hD
              clear hD
              go_wp2_with fail
              go_loopw [13] (fun j wr => ∃ i : Nat, j = .int .i64 i ∧ i ≤ acts.length ∧ i ≤ 20 ∧ ∃ Fd Fr X R, Duo W wr d r Fd Fr X R ∧ Link X R i) (fun j _ => 20 - (intOf j).toNat)
              · exact ⟨0, rfl, Nat.zero_le _, by omega, _, _, _, _, HD4.out, Link.ofK L1⟩
              obtain ⟨i, rfl, hil, hi20, Fd, Fr, X, R, hD, hL⟩ := hrel
              have HD := Lib.hid hD
              have HL := Lib.hid hL
              clear hD hL hi hlt hii
              by_cases hlt : i < acts.length ∧ i < 20
              · obtain ⟨hl1, hl2⟩ := hlt
                have hd60 : decide ((i : Int) < 20) = true := by simp; omega
                have hia : (i : Int) < (acts.length : Int) := by omega
                obtain ⟨b, off, hoA⟩ := HActs.out.spot (by intro e; cases acts with | nil => simp at hl1 | cons => simp at e)
                obtain ⟨a, ha⟩ : ∃ a, acts[i]? = some a := ⟨acts[i], List.getElem?_eq_getElem hl1⟩
                obtain ⟨c0, c1, c2, c3, c4⟩ := act_cells (by have := HActs.out; rw [hoA] at this; exact this) HD.out.chg ha
                have HOa := Lib.hid (HOk.out a (List.mem_of_getElem? ha))
                rw [hoA]
                clear ha
                go_wp2_with (first
                  | (go_at_call 45; refine (does_any _ HD.out HL.out (by omega) a HOa.out.1 HOa.out.2).mono ?_; rintro e w7 ⟨rfl, hdo⟩
                     obtain ⟨Fd', Fr', X', R', hD7, hL7⟩ := hdo
                     have HD7 := Lib.hid hD7
                     have HL7 := Lib.hid hL7
                     clear hD7 hL7)
                  | (go_at_call 46; refine (same_any _ HD7.out HL7.out (by omega)).mono ?_; rintro e w9 ⟨rfl, hc9⟩; have HC9 := Lib.hid hc9; clear hc9))
                exact ⟨⟨i + 1, by go_num, hl1, by omega, _, _, _, _, HD7.out.fresh HC9.out, HL7.out⟩, meas_step hl2⟩
              · rcases Nat.lt_or_ge i acts.length with hl1 | hl1
                · have hd60 : decide ((i : Int) < 20) = false := by simp; omega
                  have hl2 : (i : Int) < (acts.length : Int) := by omega
                  clear hl1 hlt
                  obtain ⟨wm, hm, ho, hcm⟩ := made_u8 wr 64 (by omega)
                  have hm' : (Instr.makeSlice 68 (.int .i64 64) (.int .i64 64)).run Try.prog wr = .ok (.slice (some ⟨wr.heap.size, 0, none⟩) 64 64) wm := hm
                  obtain ⟨ho1, ho2⟩ := one_args wr wm ho
                  have HO1 := Lib.hid ho1
                  have HO2 := Lib.hid ho2
                  have HCm := Lib.hid hcm
                  clear hm ho hcm ho1 ho2
                  go_wp2_with (first
                    | (go_at_call 43; refine (of_64 (L := [zeroBlk]) _ rfl HO1.out HO2.out (by decide) (by decide) (by intro b hb; rw [List.mem_singleton.1 hb]; rfl)).mono ?_; rintro e w7 ⟨d7, rfl, hx7, hc7⟩; have HX7 := Lib.hid hx7; have HC7 := Lib.hid hc7; clear hx7 hc7)
                    | (go_at_call 47; refine (blocks_any _ (HX7.out.fresh HC9.out)).mono ?_; rw [show ((DV.ofK [zeroBlk] ([zeroBlk] : List Blk).length).B.length : Int) = 1 from rfl]; rintro e w8 ⟨rfl, rfl⟩)
                    | (go_at_call 46; refine (same_any _ ((HD.out.fresh HCm.out).fresh (((Chg.refl (fun _ => False) wm).alloc _).trans' HC7.out)) HL.out (by omega)).mono ?_; rintro e w9 ⟨rfl, hc9⟩; have HC9 := Lib.hid hc9; clear hc9))
                  go_ret
                  exact ⟨rfl, (((HD.out.chg.trans' HCm.out).trans' (((Chg.refl (fun _ => False) wm).alloc _).trans' HC7.out)).trans' HC9.out)⟩
                · have hl2 : ¬ (i : Int) < (acts.length : Int) := by omega
                  clear hl1 hlt
                  obtain ⟨wm, hm, ho, hcm⟩ := made_u8 wr 64 (by omega)
                  have hm' : (Instr.makeSlice 68 (.int .i64 64) (.int .i64 64)).run Try.prog wr = .ok (.slice (some ⟨wr.heap.size, 0, none⟩) 64 64) wm := hm
                  obtain ⟨ho1, ho2⟩ := one_args wr wm ho
                  have HO1 := Lib.hid ho1
                  have HO2 := Lib.hid ho2
                  have HCm := Lib.hid hcm
                  clear hm ho hcm ho1 ho2
                  go_wp2_with (first
                    | (go_at_call 43; refine (of_64 (L := [zeroBlk]) _ rfl HO1.out HO2.out (by decide) (by decide) (by intro b hb; rw [List.mem_singleton.1 hb]; rfl)).mono ?_; rintro e w7 ⟨d7, rfl, hx7, hc7⟩; have HX7 := Lib.hid hx7; have HC7 := Lib.hid hc7; clear hx7 hc7)
                    | (go_at_call 47; refine (blocks_any _ (HX7.out.fresh HC9.out)).mono ?_; rw [show ((DV.ofK [zeroBlk] ([zeroBlk] : List Blk).length).B.length : Int) = 1 from rfl]; rintro e w8 ⟨rfl, rfl⟩)
                    | (go_at_call 46; refine (same_any _ ((HD.out.fresh HCm.out).fresh (((Chg.refl (fun _ => False) wm).alloc _).trans' HC7.out)) HL.out (by omega)).mono ?_; rintro e w9 ⟨rfl, hc9⟩; have HC9 := Lib.hid hc9; clear hc9))
                  go_ret
                  exact ⟨rfl, (((HD.out.chg.trans' HCm.out).trans' (((Chg.refl (fun _ => False) wm).alloc _).trans' HC7.out)).trans' HC9.out)⟩
          · have hofN := of_n64 _ hl2 hsl2 hea2 hr1 hr2 h64
            have hrofN := fun w' hc => refof_n64 w' hl1 (hsl1 w' hc) (hea1 w' hc) hr1 hr2 h64
            rw [HLl.out] at hofN
            have hrofN : ∀ w', Chg (fun _ => False) W w' → Calls Try.prog 44 #[.slice oa M cap] w' fun e w'' => e = .returned (.tuple #[.pointer none, .int .i64 2]) ∧ Chg (fun _ => False) w' w'' := fun w' hc => by have h := hrofN w' hc; rw [HLl.out] at h; exact h
            clear hl1 hl2 hsl1 hsl2 hea1 hea2 h64 hr1 hr2
            go_wp2_with (first
              | (go_at_call 43; refine hofN.mono ?_; rintro e w2 ⟨rfl, hc12⟩; have HC12 := Lib.hid hc12; clear hc12)
              | (go_at_call 44; refine (hrofN _ (HC01.out.trans' HC12.out)).mono ?_; rintro e w3 ⟨rfl, hc23⟩; have HC13 := Lib.hid (HC12.out.trans' hc23); clear hc23))
            clear hofN hrofN
            go_loopw [63] (fun j wr => ∃ i : Nat, j = .int .i64 i ∧ i ≤ M ∧ wr.ownsRow W.heap.size 68 1 (.slice oau M cu) M gs2 ∧ (∀ (t : Nat) g b, i ≤ t → gs2[t]? = some g → L1[t]? = some b → wr.ownsRow W.heap.size 5 1 g b.length (cellsB b)) ∧ Chg (fun x => W.heap.size ≤ x ∧ x < w1.heap.size) w3 wr) (fun j _ => M - (intOf j).toNat)
            · exact ⟨0, rfl, Nat.zero_le _, row_kept HGr.out HC13.out (fun _ _ h => h), fun t g b _ hg hb => row_kept (HGe.out t g b hg hb).1 HC13.out (fun _ _ h => h), Chg.refl _ _⟩
            obtain ⟨i, rfl, hi, hro, hrg, hc⟩ := hrel
            have HRo := Lib.hid hro
            have HRg := Lib.hid hrg
            have HC := Lib.hid hc
            have HCW := Lib.hid ((HC01.out.trans' HC13.out).new hc (fun k hk => hk.1))
            clear hro hrg hc
            by_cases hlt : i < M
            · have hii : (i : Int) < (M : Int) := by omega
              have hib : i < L1.length := by rw [HLl.out]; exact hlt
              have hig : i < gs2.length := by rw [HGl2.out]; exact hlt
              have hig1 : i < gs1.length := by rw [HGl.out]; exact hlt
              obtain ⟨b, hb⟩ : ∃ b, L1[i]? = some b := ⟨L1[i], List.getElem?_eq_getElem hib⟩
              obtain ⟨g, hg⟩ : ∃ g, gs2[i]? = some g := ⟨gs2[i], List.getElem?_eq_getElem hig⟩
              obtain ⟨gi, hgi⟩ : ∃ gi, gs1[i] = gi := ⟨_, rfl⟩
              have hrow := HRg.out i g b (Nat.le_refl _) hg hb
              have hrow1 := (HGe.out i g b hg hb).1
              obtain ⟨hsl, hbl⟩ := HEa.out i gi b (by rw [List.getElem?_eq_getElem hig1, hgi]) hb
              obtain ⟨nb, hnb⟩ : ∃ nb, b.length = nb := ⟨_, rfl⟩
              have hnbB : nb ≤ 140737488351232 := by rw [← hnb]; exact hbl
              have hby : M * 24 ≤ 140737488351232 := HBy.out
              clear hbl
              rw [hnb] at hrow hrow1
              obtain ⟨oag, cg, rfl⟩ := own_slice hrow
              obtain ⟨go, e1, hcg⟩ : ∃ go, oau = some ⟨go, 0, none⟩ ∧ wr.cell? ⟨go, i, none⟩ = some (.slice oag nb cg) := by
                rcases HRo.out.2 with ⟨e1, h0⟩ | ⟨go, cap', cur, e1, -⟩
                · omega
                · simp only [Value.slice.injEq] at e1
                  obtain ⟨rfl, -, -⟩ := e1
                  refine ⟨go, rfl, ?_⟩
                  obtain ⟨hx, h1, -⟩ := own_cell HRo.out hlt
                  rw [h1]
                  rw [List.getElem?_eq_getElem hig] at hg
                  exact hg
              subst e1
              obtain ⟨str, hstr⟩ : ∃ str : ByteArray, (⟨b.toArray⟩ : ByteArray) = str := ⟨_, rfl⟩
              have hcv : (convert 68 9 (.slice oag nb cg)).run Try.prog wr.drew = .ok (.string str) wr.drew := by
                have h1 := conv_own (row_kept hrow ((Chg.refl (fun _ => False) wr).drew) (fun _ _ h => h))
                rw [hstr] at h1
                exact h1
              obtain ⟨b0, off, hoa, -, hc0⟩ := HSl.out.cell hig1
              rw [hgi] at hc0
              have hci := HCW.out.cell hc0 id
              have hcv2 : (convert 68 9 gi).run Try.prog wr.drew = .ok (.string str) wr.drew := by
                have h1 := conv_slat (hsl.kept HCW.out.drew)
                rw [hstr] at h1
                exact h1
              have hgo : ∀ k, (Value.slice oag nb cg).ownBlock = some k → ¬ go = k := fun k hk e => by
                obtain ⟨c1, h1⟩ := row_obj hrow hk
                obtain ⟨c2, h2⟩ := row_obj HRo.out (g := go) rfl
                rw [← e, h2] at h1
                simp only [Option.some.injEq, Obj.cells.injEq] at h1
                exact types_ne' h1.2.1
              have hown : ∀ x, (Value.slice oag nb cg).ownBlock = some x → W.heap.size ≤ x ∧ x < w1.heap.size := fun x e => hrow1.lt x e
              have HGo := Lib.hid hgo
              have HOwn := Lib.hid hown
              have HRow := Lib.hid hrow
              have HCg := Lib.hid hcg
              have HCi := Lib.hid hci
              have HCv := Lib.hid hcv
              have HCv2 := Lib.hid hcv2
              have Hg := Lib.hid hg
              have HOA := Lib.hid hoa
              clear hgo hrow hrow1 hcg hci hcv hcv2 hg hb hstr hnb hown hsl hc0 hgi hoa
              have hoa := HOA.out
              rw [hoa]
              go_wp2_with fail
              refine wp_region_noPanic ?_
              refine wp_region_held_drew (S := (fun w' => w'.cell? ⟨go, i, none⟩ = some (.slice oag nb cg) ∧ (convert 68 9 (.slice oag nb cg)).run Try.prog w' = .ok (.string str) w' ∧ w'.cell? ⟨b0, off + i, none⟩ = some gi ∧ (convert 68 9 gi).run Try.prog w' = .ok (.string str) w')) (by kernel_rfl) (⟨HCg.out, HCv.out, HCi.out, HCv2.out⟩) (fun hHeld => ?_)
              refine take_list (i := 0) (v := ?_) rfl (by kernel_rfl) (by kernel_rfl) (by kernel_rfl) (fun _ _ _ h => h) (Or.inl ⟨by rfl, fun w hSw => ?_⟩) hHeld ?_
              rotate_left
              · (obtain ⟨hSw1, hSw2, hSw3, hSw4⟩ := hSw; go_simp)
                try with_reducible rfl
              simp only [Act.put, List.setIfInBounds_toArray, List.set_cons_zero, List.set_cons_succ]
              refine take_list (i := 1) (v := ?_) rfl (by kernel_rfl) (by kernel_rfl) (by kernel_rfl) (fun _ _ _ h => h) (Or.inl ⟨by rfl, fun w hSw => ?_⟩) hHeld ?_
              rotate_left
              · (obtain ⟨hSw1, hSw2, hSw3, hSw4⟩ := hSw; go_simp)
                try with_reducible rfl
              simp only [Act.put, List.setIfInBounds_toArray, List.set_cons_zero, List.set_cons_succ]
              refine take_list (i := 2) (v := ?_) rfl (by kernel_rfl) (by kernel_rfl) (by kernel_rfl) (fun _ _ _ h => h) (Or.inl ⟨by rfl, fun w hSw => ?_⟩) hHeld ?_
              rotate_left
              · (obtain ⟨hSw1, hSw2, hSw3, hSw4⟩ := hSw; go_simp)
                try with_reducible rfl
              simp only [Act.put, List.setIfInBounds_toArray, List.set_cons_zero, List.set_cons_succ]
              refine take_list (i := 3) (v := ?_) rfl (by kernel_rfl) (by kernel_rfl) (by kernel_rfl) (fun _ _ _ h => h) (Or.inl ⟨by rfl, fun w hSw => ?_⟩) hHeld ?_
              rotate_left
              · (obtain ⟨hSw1, hSw2, hSw3, hSw4⟩ := hSw; go_simp)
                try with_reducible rfl
              simp only [Act.put, List.setIfInBounds_toArray, List.set_cons_zero, List.set_cons_succ]
              refine take_list (i := 4) (v := ?_) rfl (by kernel_rfl) (by kernel_rfl) (by kernel_rfl) (fun _ _ _ h => h) (Or.inl ⟨by rfl, fun w hSw => ?_⟩) hHeld ?_
              rotate_left
              · (obtain ⟨hSw1, hSw2, hSw3, hSw4⟩ := hSw; go_simp)
                try with_reducible rfl
              simp only [Act.put, List.setIfInBounds_toArray, List.set_cons_zero, List.set_cons_succ]
              refine take_list (i := 5) (v := ?_) rfl (by kernel_rfl) (by kernel_rfl) (by kernel_rfl) (fun _ _ _ h => h) (Or.inl ⟨by rfl, fun w hSw => ?_⟩) hHeld ?_
              rotate_left
              · (obtain ⟨hSw1, hSw2, hSw3, hSw4⟩ := hSw; go_simp)
                try with_reducible rfl
              simp only [Act.put, List.setIfInBounds_toArray, List.set_cons_zero, List.set_cons_succ]
              refine take_list (i := 6) (v := ?_) rfl (by kernel_rfl) (by kernel_rfl) (by kernel_rfl) (fun _ _ _ h => h) (Or.inl ⟨by rfl, fun w hSw => ?_⟩) hHeld ?_
              rotate_left
              · (obtain ⟨hSw1, hSw2, hSw3, hSw4⟩ := hSw; go_simp)
                try with_reducible rfl
              simp only [Act.put, List.setIfInBounds_toArray, List.set_cons_zero, List.set_cons_succ]
              refine take_list (i := 7) (v := ?_) rfl (by kernel_rfl) (by kernel_rfl) (by kernel_rfl) (fun _ _ _ h => h) (Or.inl ⟨by rfl, fun w hSw => ?_⟩) hHeld ?_
              rotate_left
              · (obtain ⟨hSw1, hSw2, hSw3, hSw4⟩ := hSw; go_simp)
                try with_reducible rfl
              simp only [Act.put, List.setIfInBounds_toArray, List.set_cons_zero, List.set_cons_succ]
              refine take_list (i := 8) (v := ?_) rfl (by kernel_rfl) (by kernel_rfl) (by kernel_rfl) (fun _ _ _ h => h) (Or.inl ⟨by rfl, fun w hSw => ?_⟩) hHeld ?_
              rotate_left
              · (obtain ⟨hSw1, hSw2, hSw3, hSw4⟩ := hSw; go_simp)
                try with_reducible rfl
              simp only [Act.put, List.setIfInBounds_toArray, List.set_cons_zero, List.set_cons_succ]
              refine take_list (i := 9) (v := ?_) rfl (by kernel_rfl) (by kernel_rfl) (by kernel_rfl) (fun _ _ _ h => h) (Or.inl ⟨by rfl, fun w hSw => ?_⟩) hHeld ?_
              rotate_left
              · (obtain ⟨hSw1, hSw2, hSw3, hSw4⟩ := hSw; go_simp)
                try with_reducible rfl
              simp only [Act.put, List.setIfInBounds_toArray, List.set_cons_zero, List.set_cons_succ]
              refine take_list (i := 10) (v := ?_) rfl (by kernel_rfl) (by kernel_rfl) (by kernel_rfl) (fun _ _ _ h => h) (Or.inl ⟨by rfl, fun w hSw => ?_⟩) hHeld ?_
              rotate_left
              · (obtain ⟨hSw1, hSw2, hSw3, hSw4⟩ := hSw; go_simp)
                try with_reducible rfl
              simp only [Act.put, List.setIfInBounds_toArray, List.set_cons_zero, List.set_cons_succ]
              refine wpAnyH_done (by kernel_rfl) ?_ _
              refine NoPanic.normal ?_
              clear hHeld
              have hcg := HCg.out
              go_wp2_with fail
              go_loopw [82] (fun j wr' => ∃ k : Nat, j = .int .i64 k ∧ k ≤ nb ∧ (∃ b' : Blk, wr'.ownsRow W.heap.size 5 1 (.slice oag nb cg) nb (cellsB b')) ∧ Chg (fun x => (Value.slice oag nb cg).ownBlock = some x) wr wr') (fun j _ => nb - (intOf j).toNat)
              · exact ⟨0, rfl, Nat.zero_le _, ⟨b, row_kept HRow.out ((Chg.refl (fun _ => False) wr).drew) (fun _ _ h => h)⟩, (Chg.refl _ _).drew⟩
              clear hcg
              obtain ⟨k, rfl, hk, ⟨b', hb'⟩, hc'⟩ := hrel
              have HC' := Lib.hid hc'
              have hcg := hc'.cell HCg.out (fun e => HGo.out _ e rfl)
              have hlt' : i < M := hlt
              by_cases hltk : k < nb
              · have hkk : (k : Int) < (nb : Int) := by omega
                obtain ⟨gg, c, rfl, hcc, hzz, hbg, hbg2, hnext⟩ := inc_at hb' hltk
                have HNext := Lib.hid hnext
                clear hb' hc' hnext
                go_wp2_with fail
                refine ⟨⟨k + 1, by go_num, hltk, ⟨_, HNext.out _ (by first | exact inc_wrap _ | exact inc_mod _)⟩, HC'.out.setCell (p := ⟨gg, k, none⟩) (fun _ => rfl) _⟩, meas_step hltk⟩
              · have hkk : ¬ (k : Int) < (nb : Int) := by omega
                clear hb' hc'
                go_wp2_with fail
                refine ⟨⟨i + 1, by go_num, hlt', row_kept HRo.out HC'.out (fun x hx e => ?_), fun t g b ht hg hb => row_kept (HRg.out t g b (by omega) hg hb) HC'.out (fun x hx e => ?_), HC.out.trans' (HC'.out.mono (fun x _ e => HOwn.out x e))⟩, meas_step hlt'⟩
                · cases hx; exact HGo.out _ e rfl
                · rcases HGa.out i t _ _ (by omega) Hg.out hg with h | h
                  · rw [h] at e; cases e
                  · exact h (by rw [e, hx])
            · have hii : ¬ (i : Int) < (M : Int) := by omega
              go_wp2_with fail
              go_loopw [13] (fun j wr => j = .int .i64 0 ∧ Chg (fun _ => False) W wr) (fun _ _ => 0)
              · exact ⟨rfl, HCW.out⟩
              obtain ⟨rfl, hcz⟩ := hrel
              have HCz := Lib.hid hcz
              clear hcz
              by_cases hl : 0 < acts.length
              · have hli : (0 : Int) < (acts.length : Int) := by omega
                clear hl
                obtain ⟨wm, hm, ho, hcm⟩ := made_u8 wr 64 (by omega)
                have hm' : (Instr.makeSlice 68 (.int .i64 64) (.int .i64 64)).run Try.prog wr = .ok (.slice (some ⟨wr.heap.size, 0, none⟩) 64 64) wm := hm
                obtain ⟨ho1, ho2⟩ := one_args wr wm ho
                have HO1 := Lib.hid ho1
                have HO2 := Lib.hid ho2
                have HCm := Lib.hid hcm
                clear hm ho hcm ho1 ho2
                go_wp2_with (first
                  | (go_at_call 43; refine (of_64 (L := [zeroBlk]) _ rfl HO1.out HO2.out (by decide) (by decide) (by intro b hb; rw [List.mem_singleton.1 hb]; rfl)).mono ?_; rintro e w7 ⟨d7, rfl, hx7, hc7⟩; have HX7 := Lib.hid hx7; have HC7 := Lib.hid hc7; clear hx7 hc7)
                  | (go_at_call 47; refine (blocks_any _ (HX7.out)).mono ?_; rw [show ((DV.ofK [zeroBlk] ([zeroBlk] : List Blk).length).B.length : Int) = 1 from rfl]; rintro e w8 ⟨rfl, rfl⟩)
                  | (go_at_call 46; refine (same_any _ ((HD.out.fresh HCm.out).fresh (((Chg.refl (fun _ => False) wm).alloc _).trans' HC7.out)) HL.out (by omega)).mono ?_; rintro e w9 ⟨rfl, hc9⟩; have HC9 := Lib.hid hc9; clear hc9))
                go_ret
                exact ⟨rfl, (HCz.out.trans' HCm.out).trans' (((Chg.refl (fun _ => False) wm).alloc _).trans' HC7.out)⟩
              · have hli : ¬ (0 : Int) < (acts.length : Int) := by omega
                clear hl
                obtain ⟨wm, hm, ho, hcm⟩ := made_u8 wr 64 (by omega)
                have hm' : (Instr.makeSlice 68 (.int .i64 64) (.int .i64 64)).run Try.prog wr = .ok (.slice (some ⟨wr.heap.size, 0, none⟩) 64 64) wm := hm
                obtain ⟨ho1, ho2⟩ := one_args wr wm ho
                have HO1 := Lib.hid ho1
                have HO2 := Lib.hid ho2
                have HCm := Lib.hid hcm
                clear hm ho hcm ho1 ho2
                go_wp2_with (first
                  | (go_at_call 43; refine (of_64 (L := [zeroBlk]) _ rfl HO1.out HO2.out (by decide) (by decide) (by intro b hb; rw [List.mem_singleton.1 hb]; rfl)).mono ?_; rintro e w7 ⟨d7, rfl, hx7, hc7⟩; have HX7 := Lib.hid hx7; have HC7 := Lib.hid hc7; clear hx7 hc7)
                  | (go_at_call 47; refine (blocks_any _ (HX7.out)).mono ?_; rw [show ((DV.ofK [zeroBlk] ([zeroBlk] : List Blk).length).B.length : Int) = 1 from rfl]; rintro e w8 ⟨rfl, rfl⟩)
                  | (go_at_call 46; refine (same_any _ ((HD.out.fresh HCm.out).fresh (((Chg.refl (fun _ => False) wm).alloc _).trans' HC7.out)) HL.out (by omega)).mono ?_; rintro e w9 ⟨rfl, hc9⟩; have HC9 := Lib.hid hc9; clear hc9))
                go_ret
                exact ⟨rfl, (HCz.out.trans' HCm.out).trans' (((Chg.refl (fun _ => False) wm).alloc _).trans' HC7.out)⟩
        · have hb : L1.length < 1 ∨ 4096 < L1.length := by omega
          rw [HLl.out] at hb
          have HBd := Lib.hid hb
          have hofN : Calls Try.prog 43 #[.slice oau M cu] w1 fun e w' => e = .returned (.tuple #[.pointer none, .int .i64 2]) ∧ Chg (fun _ => False) w1 w' := (of_bad w1 _ _ _ HBd.out).mono (by rintro e w' ⟨h, rfl⟩; exact ⟨h, Chg.refl _ _⟩)
          have hrofN : ∀ w', Chg (fun _ => False) W w' → Calls Try.prog 44 #[.slice oa M cap] w' fun e w'' => e = .returned (.tuple #[.pointer none, .int .i64 2]) ∧ Chg (fun _ => False) w' w'' := fun w' hc => (refof_bad w' _ _ _ HBd.out).mono (by rintro e w' ⟨h, rfl⟩; exact ⟨h, Chg.refl _ _⟩)
          clear hl1 hl2 hsl1 hsl2 hea1 hea2 hr hb
          go_wp2_with (first
            | (go_at_call 43; refine hofN.mono ?_; rintro e w2 ⟨rfl, hc12⟩; have HC12 := Lib.hid hc12; clear hc12)
            | (go_at_call 44; refine (hrofN _ (HC01.out.trans' HC12.out)).mono ?_; rintro e w3 ⟨rfl, hc23⟩; have HC13 := Lib.hid (HC12.out.trans' hc23); clear hc23))
          clear hofN hrofN
          go_loopw [63] (fun j wr => ∃ i : Nat, j = .int .i64 i ∧ i ≤ M ∧ wr.ownsRow W.heap.size 68 1 (.slice oau M cu) M gs2 ∧ (∀ (t : Nat) g b, i ≤ t → gs2[t]? = some g → L1[t]? = some b → wr.ownsRow W.heap.size 5 1 g b.length (cellsB b)) ∧ Chg (fun x => W.heap.size ≤ x ∧ x < w1.heap.size) w3 wr) (fun j _ => M - (intOf j).toNat)
          · exact ⟨0, rfl, Nat.zero_le _, row_kept HGr.out HC13.out (fun _ _ h => h), fun t g b _ hg hb => row_kept (HGe.out t g b hg hb).1 HC13.out (fun _ _ h => h), Chg.refl _ _⟩
          obtain ⟨i, rfl, hi, hro, hrg, hc⟩ := hrel
          have HRo := Lib.hid hro
          have HRg := Lib.hid hrg
          have HC := Lib.hid hc
          have HCW := Lib.hid ((HC01.out.trans' HC13.out).new hc (fun k hk => hk.1))
          clear hro hrg hc
          by_cases hlt : i < M
          · have hii : (i : Int) < (M : Int) := by omega
            have hib : i < L1.length := by rw [HLl.out]; exact hlt
            have hig : i < gs2.length := by rw [HGl2.out]; exact hlt
            have hig1 : i < gs1.length := by rw [HGl.out]; exact hlt
            obtain ⟨b, hb⟩ : ∃ b, L1[i]? = some b := ⟨L1[i], List.getElem?_eq_getElem hib⟩
            obtain ⟨g, hg⟩ : ∃ g, gs2[i]? = some g := ⟨gs2[i], List.getElem?_eq_getElem hig⟩
            obtain ⟨gi, hgi⟩ : ∃ gi, gs1[i] = gi := ⟨_, rfl⟩
            have hrow := HRg.out i g b (Nat.le_refl _) hg hb
            have hrow1 := (HGe.out i g b hg hb).1
            obtain ⟨hsl, hbl⟩ := HEa.out i gi b (by rw [List.getElem?_eq_getElem hig1, hgi]) hb
            obtain ⟨nb, hnb⟩ : ∃ nb, b.length = nb := ⟨_, rfl⟩
            have hnbB : nb ≤ 140737488351232 := by rw [← hnb]; exact hbl
            have hby : M * 24 ≤ 140737488351232 := HBy.out
            clear hbl
            rw [hnb] at hrow hrow1
            obtain ⟨oag, cg, rfl⟩ := own_slice hrow
            obtain ⟨go, e1, hcg⟩ : ∃ go, oau = some ⟨go, 0, none⟩ ∧ wr.cell? ⟨go, i, none⟩ = some (.slice oag nb cg) := by
              rcases HRo.out.2 with ⟨e1, h0⟩ | ⟨go, cap', cur, e1, -⟩
              · omega
              · simp only [Value.slice.injEq] at e1
                obtain ⟨rfl, -, -⟩ := e1
                refine ⟨go, rfl, ?_⟩
                obtain ⟨hx, h1, -⟩ := own_cell HRo.out hlt
                rw [h1]
                rw [List.getElem?_eq_getElem hig] at hg
                exact hg
            subst e1
            obtain ⟨str, hstr⟩ : ∃ str : ByteArray, (⟨b.toArray⟩ : ByteArray) = str := ⟨_, rfl⟩
            have hcv : (convert 68 9 (.slice oag nb cg)).run Try.prog wr.drew = .ok (.string str) wr.drew := by
              have h1 := conv_own (row_kept hrow ((Chg.refl (fun _ => False) wr).drew) (fun _ _ h => h))
              rw [hstr] at h1
              exact h1
            obtain ⟨b0, off, hoa, -, hc0⟩ := HSl.out.cell hig1
            rw [hgi] at hc0
            have hci := HCW.out.cell hc0 id
            have hcv2 : (convert 68 9 gi).run Try.prog wr.drew = .ok (.string str) wr.drew := by
              have h1 := conv_slat (hsl.kept HCW.out.drew)
              rw [hstr] at h1
              exact h1
            have hgo : ∀ k, (Value.slice oag nb cg).ownBlock = some k → ¬ go = k := fun k hk e => by
              obtain ⟨c1, h1⟩ := row_obj hrow hk
              obtain ⟨c2, h2⟩ := row_obj HRo.out (g := go) rfl
              rw [← e, h2] at h1
              simp only [Option.some.injEq, Obj.cells.injEq] at h1
              exact types_ne' h1.2.1
            have hown : ∀ x, (Value.slice oag nb cg).ownBlock = some x → W.heap.size ≤ x ∧ x < w1.heap.size := fun x e => hrow1.lt x e
            have HGo := Lib.hid hgo
            have HOwn := Lib.hid hown
            have HRow := Lib.hid hrow
            have HCg := Lib.hid hcg
            have HCi := Lib.hid hci
            have HCv := Lib.hid hcv
            have HCv2 := Lib.hid hcv2
            have Hg := Lib.hid hg
            have HOA := Lib.hid hoa
            clear hgo hrow hrow1 hcg hci hcv hcv2 hg hb hstr hnb hown hsl hc0 hgi hoa
            have hoa := HOA.out
            rw [hoa]
            go_wp2_with fail
            refine wp_region_noPanic ?_
            refine wp_region_held_drew (S := (fun w' => w'.cell? ⟨go, i, none⟩ = some (.slice oag nb cg) ∧ (convert 68 9 (.slice oag nb cg)).run Try.prog w' = .ok (.string str) w' ∧ w'.cell? ⟨b0, off + i, none⟩ = some gi ∧ (convert 68 9 gi).run Try.prog w' = .ok (.string str) w')) (by kernel_rfl) (⟨HCg.out, HCv.out, HCi.out, HCv2.out⟩) (fun hHeld => ?_)
            refine take_list (i := 0) (v := ?_) rfl (by kernel_rfl) (by kernel_rfl) (by kernel_rfl) (fun _ _ _ h => h) (Or.inl ⟨by rfl, fun w hSw => ?_⟩) hHeld ?_
            rotate_left
            · (obtain ⟨hSw1, hSw2, hSw3, hSw4⟩ := hSw; go_simp)
              try with_reducible rfl
            simp only [Act.put, List.setIfInBounds_toArray, List.set_cons_zero, List.set_cons_succ]
            refine take_list (i := 1) (v := ?_) rfl (by kernel_rfl) (by kernel_rfl) (by kernel_rfl) (fun _ _ _ h => h) (Or.inl ⟨by rfl, fun w hSw => ?_⟩) hHeld ?_
            rotate_left
            · (obtain ⟨hSw1, hSw2, hSw3, hSw4⟩ := hSw; go_simp)
              try with_reducible rfl
            simp only [Act.put, List.setIfInBounds_toArray, List.set_cons_zero, List.set_cons_succ]
            refine take_list (i := 2) (v := ?_) rfl (by kernel_rfl) (by kernel_rfl) (by kernel_rfl) (fun _ _ _ h => h) (Or.inl ⟨by rfl, fun w hSw => ?_⟩) hHeld ?_
            rotate_left
            · (obtain ⟨hSw1, hSw2, hSw3, hSw4⟩ := hSw; go_simp)
              try with_reducible rfl
            simp only [Act.put, List.setIfInBounds_toArray, List.set_cons_zero, List.set_cons_succ]
            refine take_list (i := 3) (v := ?_) rfl (by kernel_rfl) (by kernel_rfl) (by kernel_rfl) (fun _ _ _ h => h) (Or.inl ⟨by rfl, fun w hSw => ?_⟩) hHeld ?_
            rotate_left
            · (obtain ⟨hSw1, hSw2, hSw3, hSw4⟩ := hSw; go_simp)
              try with_reducible rfl
            simp only [Act.put, List.setIfInBounds_toArray, List.set_cons_zero, List.set_cons_succ]
            refine take_list (i := 4) (v := ?_) rfl (by kernel_rfl) (by kernel_rfl) (by kernel_rfl) (fun _ _ _ h => h) (Or.inl ⟨by rfl, fun w hSw => ?_⟩) hHeld ?_
            rotate_left
            · (obtain ⟨hSw1, hSw2, hSw3, hSw4⟩ := hSw; go_simp)
              try with_reducible rfl
            simp only [Act.put, List.setIfInBounds_toArray, List.set_cons_zero, List.set_cons_succ]
            refine take_list (i := 5) (v := ?_) rfl (by kernel_rfl) (by kernel_rfl) (by kernel_rfl) (fun _ _ _ h => h) (Or.inl ⟨by rfl, fun w hSw => ?_⟩) hHeld ?_
            rotate_left
            · (obtain ⟨hSw1, hSw2, hSw3, hSw4⟩ := hSw; go_simp)
              try with_reducible rfl
            simp only [Act.put, List.setIfInBounds_toArray, List.set_cons_zero, List.set_cons_succ]
            refine take_list (i := 6) (v := ?_) rfl (by kernel_rfl) (by kernel_rfl) (by kernel_rfl) (fun _ _ _ h => h) (Or.inl ⟨by rfl, fun w hSw => ?_⟩) hHeld ?_
            rotate_left
            · (obtain ⟨hSw1, hSw2, hSw3, hSw4⟩ := hSw; go_simp)
              try with_reducible rfl
            simp only [Act.put, List.setIfInBounds_toArray, List.set_cons_zero, List.set_cons_succ]
            refine take_list (i := 7) (v := ?_) rfl (by kernel_rfl) (by kernel_rfl) (by kernel_rfl) (fun _ _ _ h => h) (Or.inl ⟨by rfl, fun w hSw => ?_⟩) hHeld ?_
            rotate_left
            · (obtain ⟨hSw1, hSw2, hSw3, hSw4⟩ := hSw; go_simp)
              try with_reducible rfl
            simp only [Act.put, List.setIfInBounds_toArray, List.set_cons_zero, List.set_cons_succ]
            refine take_list (i := 8) (v := ?_) rfl (by kernel_rfl) (by kernel_rfl) (by kernel_rfl) (fun _ _ _ h => h) (Or.inl ⟨by rfl, fun w hSw => ?_⟩) hHeld ?_
            rotate_left
            · (obtain ⟨hSw1, hSw2, hSw3, hSw4⟩ := hSw; go_simp)
              try with_reducible rfl
            simp only [Act.put, List.setIfInBounds_toArray, List.set_cons_zero, List.set_cons_succ]
            refine take_list (i := 9) (v := ?_) rfl (by kernel_rfl) (by kernel_rfl) (by kernel_rfl) (fun _ _ _ h => h) (Or.inl ⟨by rfl, fun w hSw => ?_⟩) hHeld ?_
            rotate_left
            · (obtain ⟨hSw1, hSw2, hSw3, hSw4⟩ := hSw; go_simp)
              try with_reducible rfl
            simp only [Act.put, List.setIfInBounds_toArray, List.set_cons_zero, List.set_cons_succ]
            refine take_list (i := 10) (v := ?_) rfl (by kernel_rfl) (by kernel_rfl) (by kernel_rfl) (fun _ _ _ h => h) (Or.inl ⟨by rfl, fun w hSw => ?_⟩) hHeld ?_
            rotate_left
            · (obtain ⟨hSw1, hSw2, hSw3, hSw4⟩ := hSw; go_simp)
              try with_reducible rfl
            simp only [Act.put, List.setIfInBounds_toArray, List.set_cons_zero, List.set_cons_succ]
            refine wpAnyH_done (by kernel_rfl) ?_ _
            refine NoPanic.normal ?_
            clear hHeld
            have hcg := HCg.out
            go_wp2_with fail
            go_loopw [82] (fun j wr' => ∃ k : Nat, j = .int .i64 k ∧ k ≤ nb ∧ (∃ b' : Blk, wr'.ownsRow W.heap.size 5 1 (.slice oag nb cg) nb (cellsB b')) ∧ Chg (fun x => (Value.slice oag nb cg).ownBlock = some x) wr wr') (fun j _ => nb - (intOf j).toNat)
            · exact ⟨0, rfl, Nat.zero_le _, ⟨b, row_kept HRow.out ((Chg.refl (fun _ => False) wr).drew) (fun _ _ h => h)⟩, (Chg.refl _ _).drew⟩
            clear hcg
            obtain ⟨k, rfl, hk, ⟨b', hb'⟩, hc'⟩ := hrel
            have HC' := Lib.hid hc'
            have hcg := hc'.cell HCg.out (fun e => HGo.out _ e rfl)
            have hlt' : i < M := hlt
            by_cases hltk : k < nb
            · have hkk : (k : Int) < (nb : Int) := by omega
              obtain ⟨gg, c, rfl, hcc, hzz, hbg, hbg2, hnext⟩ := inc_at hb' hltk
              have HNext := Lib.hid hnext
              clear hb' hc' hnext
              go_wp2_with fail
              refine ⟨⟨k + 1, by go_num, hltk, ⟨_, HNext.out _ (by first | exact inc_wrap _ | exact inc_mod _)⟩, HC'.out.setCell (p := ⟨gg, k, none⟩) (fun _ => rfl) _⟩, meas_step hltk⟩
            · have hkk : ¬ (k : Int) < (nb : Int) := by omega
              clear hb' hc'
              go_wp2_with fail
              refine ⟨⟨i + 1, by go_num, hlt', row_kept HRo.out HC'.out (fun x hx e => ?_), fun t g b ht hg hb => row_kept (HRg.out t g b (by omega) hg hb) HC'.out (fun x hx e => ?_), HC.out.trans' (HC'.out.mono (fun x _ e => HOwn.out x e))⟩, meas_step hlt'⟩
              · cases hx; exact HGo.out _ e rfl
              · rcases HGa.out i t _ _ (by omega) Hg.out hg with h | h
                · rw [h] at e; cases e
                · exact h (by rw [e, hx])
          · have hii : ¬ (i : Int) < (M : Int) := by omega
            go_wp2_with fail
            go_loopw [13] (fun j wr => j = .int .i64 0 ∧ Chg (fun _ => False) W wr) (fun _ _ => 0)
            · exact ⟨rfl, HCW.out⟩
            obtain ⟨rfl, hcz⟩ := hrel
            have HCz := Lib.hid hcz
            clear hcz
            by_cases hl : 0 < acts.length
            · have hli : (0 : Int) < (acts.length : Int) := by omega
              clear hl
              obtain ⟨wm, hm, ho, hcm⟩ := made_u8 wr 64 (by omega)
              have hm' : (Instr.makeSlice 68 (.int .i64 64) (.int .i64 64)).run Try.prog wr = .ok (.slice (some ⟨wr.heap.size, 0, none⟩) 64 64) wm := hm
              obtain ⟨ho1, ho2⟩ := one_args wr wm ho
              have HO1 := Lib.hid ho1
              have HO2 := Lib.hid ho2
              have HCm := Lib.hid hcm
              clear hm ho hcm ho1 ho2
              go_wp2_with (first
                | (go_at_call 43; refine (of_64 (L := [zeroBlk]) _ rfl HO1.out HO2.out (by decide) (by decide) (by intro b hb; rw [List.mem_singleton.1 hb]; rfl)).mono ?_; rintro e w7 ⟨d7, rfl, hx7, hc7⟩; have HX7 := Lib.hid hx7; have HC7 := Lib.hid hc7; clear hx7 hc7)
                | (go_at_call 47; refine (blocks_any _ (HX7.out)).mono ?_; rw [show ((DV.ofK [zeroBlk] ([zeroBlk] : List Blk).length).B.length : Int) = 1 from rfl]; rintro e w8 ⟨rfl, rfl⟩)
                | (go_at_call 46; refine (same_any _ ((HD.out.fresh HCm.out).fresh (((Chg.refl (fun _ => False) wm).alloc _).trans' HC7.out)) HL.out (by omega)).mono ?_; rintro e w9 ⟨rfl, hc9⟩; have HC9 := Lib.hid hc9; clear hc9))
              go_ret
              exact ⟨rfl, (HCz.out.trans' HCm.out).trans' (((Chg.refl (fun _ => False) wm).alloc _).trans' HC7.out)⟩
            · have hli : ¬ (0 : Int) < (acts.length : Int) := by omega
              clear hl
              obtain ⟨wm, hm, ho, hcm⟩ := made_u8 wr 64 (by omega)
              have hm' : (Instr.makeSlice 68 (.int .i64 64) (.int .i64 64)).run Try.prog wr = .ok (.slice (some ⟨wr.heap.size, 0, none⟩) 64 64) wm := hm
              obtain ⟨ho1, ho2⟩ := one_args wr wm ho
              have HO1 := Lib.hid ho1
              have HO2 := Lib.hid ho2
              have HCm := Lib.hid hcm
              clear hm ho hcm ho1 ho2
              go_wp2_with (first
                | (go_at_call 43; refine (of_64 (L := [zeroBlk]) _ rfl HO1.out HO2.out (by decide) (by decide) (by intro b hb; rw [List.mem_singleton.1 hb]; rfl)).mono ?_; rintro e w7 ⟨d7, rfl, hx7, hc7⟩; have HX7 := Lib.hid hx7; have HC7 := Lib.hid hc7; clear hx7 hc7)
                | (go_at_call 47; refine (blocks_any _ (HX7.out)).mono ?_; rw [show ((DV.ofK [zeroBlk] ([zeroBlk] : List Blk).length).B.length : Int) = 1 from rfl]; rintro e w8 ⟨rfl, rfl⟩)
                | (go_at_call 46; refine (same_any _ ((HD.out.fresh HCm.out).fresh (((Chg.refl (fun _ => False) wm).alloc _).trans' HC7.out)) HL.out (by omega)).mono ?_; rintro e w9 ⟨rfl, hc9⟩; have HC9 := Lib.hid hc9; clear hc9))
              go_ret
              exact ⟨rfl, (HCz.out.trans' HCm.out).trans' (((Chg.refl (fun _ => False) wm).alloc _).trans' HC7.out)⟩
    · have h51i : ¬ (50 : Int) < (M : Int) := by omega
      clear h50 h51
      go_enter Try.func12, Try.ntmps12
      go_wp2_with fail
      go_loopw [5, 28] (fun u j wr => ∃ k : Nat, j = .int .i64 k ∧ k ≤ M ∧ ImgAt wr W.heap.size u (L1.take k) ∧ Chg (fun _ => False) W wr) (fun _ j _ => M - (intOf j).toNat)
      · exact ⟨0, rfl, Nat.zero_le _, by simpa using ImgAt.nil W _, Chg.refl _ _⟩
      obtain ⟨k, rfl, hk, hI, hc⟩ := hrel
      have HIm := Lib.hid hI
      have HC := Lib.hid hc
      clear hI hc
      by_cases hlt : k < M
      · have hki : (k : Int) < (M : Int) := by omega
        have hkL : k < L1.length := by rw [HLl.out]; exact hlt
        have hkg : k < gs1.length := by rw [HGl.out]; exact hlt
        obtain ⟨b0, off, hoa, -, hc0⟩ := HSl.out.cell hkg
        subst hoa
        obtain ⟨g, hg⟩ : ∃ g, gs1[k] = g := ⟨_, rfl⟩
        obtain ⟨b, hb⟩ : ∃ b, L1[k] = b := ⟨_, rfl⟩
        rw [hg] at hc0
        obtain ⟨hsl, hbl⟩ := HEa.out k g b (by rw [List.getElem?_eq_getElem hkg, hg]) (by rw [List.getElem?_eq_getElem hkL, hb])
        have hbl' : b.length ≤ 140737488351232 := hbl
        have hby : M * 24 ≤ 140737488351232 := HBy.out
        have hce := HC.out.cell hc0 id
        have hca := (Chg.refl (fun _ => False) wr).alloc (.cells #[] 5)
        have hce2 := hca.cell hce id
        have hl0 := World.ownsRow_lit (e := 5) (size := 1) wr #[] 0 (Nat.le_refl _) (by unfold maxLen; omega) rfl
        obtain ⟨v', w2, hap, hrow, hc2⟩ := run_append_args (w := wr.alloc (.cells #[] 5)) wr.heap.size 68 68 5 i0 (.int .u8 0) 1 Try.underlying68 HI0.out.1 HI0.out.2.1 HI0.out.2.2.1 HI0.out.2.2.2 rfl _ hl0 _ _ (hsl.kept (HC.out.trans' hca)) (one_cellsB b) (by rw [cellsB_length]; unfold maxLen; omega) (by rw [cellsB_length]; omega) hca.size
        rw [cellsB_length] at hrow
        have hcw2 : Chg (fun _ => False) wr w2 := hca.new hc2 (fun i e => (hl0.lt i e.symm).1)
        obtain ⟨oav, cv, rfl⟩ := own_slice hrow
        have hv1 : (Value.slice oav b.length cv).oneCell' = true := rfl
        obtain ⟨gs2, hlen, hrow1, heach, hap2⟩ := HIm.out.ex
        have hl1 : (L1.take k).length = k := by rw [List.length_take]; omega
        have hc4 := hcw2.alloc (.cells #[.slice oav b.length cv] 68)
        have hrow2 := row_kept hrow1 hc4 (fun _ _ h => h)
        rw [hl1] at hrow2
        have HR2 := Lib.hid hrow2
        have HRow1 := Lib.hid hrow1
        have HRow := Lib.hid hrow
        have HE := Lib.hid heach
        have HA := Lib.hid hap2
        have HLen := Lib.hid hlen
        have HC2 := Lib.hid hcw2
        have HV1 := Lib.hid hv1
        have HB := Lib.hid hb
        clear hc0 hg hb hsl hbl hbl' hca hl0 hc2 hrow hcw2 hv1 hlen hrow1 heach hap2 hc4 hrow2
        go_wp2_with (first
          | (at_builtin; refine wpList_append_run rfl _ _ 68 rfl rfl rfl hap ?_)
          | (at_builtin; refine wpList_append_own_at _ rfl _ _ 62 rfl W.heap.size 68 i1 (.slice none 0 0) 1 24 Try.underlying62 HI1.out.1 HI1.out.2.1 HI1.out.2.2.1 HI1.out.2.2.2 rfl (by decide) _ k gs2 rfl HR2.out ⟨w2.heap.size, 0, none⟩ 1 1 [.slice oav b.length cv] rfl rfl (cells_new w2 [.slice oav b.length cv] _) (by intro x hx; rw [List.mem_singleton.1 hx]; exact HV1.out) (by unfold maxLen; omega) (by omega) (by simp only [World.size_alloc]; have := HC.out.size; have := HC2.out.size; omega) ?_; intro u' w3 ho3 hg3 hx1 hx2; have HO3 := Lib.hid ho3; have HG3 := Lib.hid hg3; clear ho3 hg3 hx1 hx2))
        have hcu : Chg (fun i => some i = u5.ownBlock) w2 w3 := ((Chg.refl _ _).alloc _).trans' (Chg.of_grown HG3.out)
        have hst := img_step HLen.out HRow1.out HE.out HA.out HC2.out HRow.out HC.out.size HV1.out (by rw [hl1]; exact HO3.out) hcu
        refine ⟨⟨k + 1, by go_num, hlt, ?_, (HC.out.trans' HC2.out).new hcu (fun i e => (HRow1.out.lt i e.symm).1)⟩, meas_step hlt⟩
        rw [List.take_add_one, List.getElem?_eq_getElem hkL, Option.toList_some, HB.out]
        exact hst
      · have hki : ¬ (k : Int) < (M : Int) := by omega
        have hkM : k = M := by omega
        rw [hkM, List.take_of_length_le (by rw [HLl.out]; exact Nat.le_refl _)] at HIm
        clear hk hlt hkM
        obtain ⟨gs2, hgl2, hgr, hge, hga⟩ := HIm.out.ex
        rw [HLl.out] at hgl2 hgr
        obtain ⟨oau, cu, rfl⟩ := own_slice hgr
        have HGl2 := Lib.hid hgl2
        have HGr := Lib.hid hgr
        have HGe := Lib.hid hge
        have HGa := Lib.hid hga
        obtain ⟨w1, hw1⟩ : ∃ x, x = wr := ⟨_, rfl⟩
        rw [← hw1] at HGr HGe HC ⊢
        have HC01 := HC
        have hsl2 : SlAt w1 (.slice oau L1.length cu) gs2 := by rw [HLl.out]; exact SlAt.of_own HGr.out
        have hea2 : ∀ (i : Nat) g b, gs2[i]? = some g → L1[i]? = some b → SlAt w1 g (cellsB b) := fun i g b hg hb => SlAt.of_own (HGe.out i g b hg hb).1
        have hsl1 : ∀ w', Chg (fun _ => False) W w' → SlAt w' (.slice oa L1.length cap) gs1 := fun w' hc => by rw [HLl.out]; exact HSl.out.kept hc
        have hea1 : ∀ w', Chg (fun _ => False) W w' → ∀ (i : Nat) g b, gs1[i]? = some g → L1[i]? = some b → SlAt w' g (cellsB b) := fun w' hc i g b hg hb => (HEa.out i g b hg hb).1.kept hc
        have hl2 : gs2.length = L1.length := by rw [HLl.out]; exact HGl2.out
        have hl1 : gs1.length = L1.length := by rw [HLl.out]; exact HGl.out
        clear hgl2 hgr hge hga hw1 HIm
        by_cases hr : 1 ≤ L1.length ∧ L1.length ≤ 4096
        · obtain ⟨hr1, hr2⟩ := hr
          by_cases h64 : ∀ b ∈ L1, b.length = 64
          · have hofG := of_64 _ hl2 hsl2 hea2 hr1 hr2 h64
            have hrofG := fun w' hc => refof_64 w' hl1 (hsl1 w' hc) (hea1 w' hc) hr1 hr2 h64
            rw [HLl.out] at hofG
            have hrofG : ∀ w', Chg (fun _ => False) W w' → Calls Try.prog 44 #[.slice oa M cap] w' fun e w'' => ∃ r, e = .returned (.tuple #[.pointer (some ⟨r, 0, none⟩), .int .i64 0]) ∧ RefAt w'' r (born w' w'') (RV.ofK L1 L1.length) ∧ Chg (fun _ => False) w' w'' := fun w' hc => by have h := hrofG w' hc; rw [HLl.out] at h ⊢; exact h
            rw [← HLl.out] at hofG
            have hofG : Calls Try.prog 43 #[.slice oau M cu] w1 fun e w' => ∃ d, e = .returned (.tuple #[.pointer (some ⟨d, 0, none⟩), .int .i64 0]) ∧ DiskAt w' d (born w1 w') (DV.ofK L1 L1.length) ∧ Chg (fun _ => False) w1 w' := by rw [HLl.out] at hofG ⊢; exact hofG
            clear hl1 hl2 hsl1 hsl2 hea1 hea2 h64 hr1 hr2
            go_wp2_with (first
              | (go_at_call 43; refine hofG.mono ?_; rintro e w2 ⟨d, rfl, hx, hc12⟩; have HX := Lib.hid hx; have HC12 := Lib.hid hc12; clear hx hc12)
              | (go_at_call 44; refine (hrofG _ (HC01.out.trans' HC12.out)).mono ?_; rintro e w3 ⟨r, rfl, hy, hc23⟩; have HD3 := Lib.hid (duo_of HC01.out HX.out HC12.out hy hc23); have HC23 := Lib.hid hc23; have HC13 := Lib.hid (HC12.out.trans' hc23); clear hy hc23))
            clear hofG hrofG
            go_loopw [63] (fun j wr => ∃ i : Nat, j = .int .i64 i ∧ i ≤ M ∧ wr.ownsRow W.heap.size 68 1 (.slice oau M cu) M gs2 ∧ (∀ (t : Nat) g b, i ≤ t → gs2[t]? = some g → L1[t]? = some b → wr.ownsRow W.heap.size 5 1 g b.length (cellsB b)) ∧ Chg (fun x => W.heap.size ≤ x ∧ x < w1.heap.size) w3 wr) (fun j _ => M - (intOf j).toNat)
            · exact ⟨0, rfl, Nat.zero_le _, row_kept HGr.out HC13.out (fun _ _ h => h), fun t g b _ hg hb => row_kept (HGe.out t g b hg hb).1 HC13.out (fun _ _ h => h), Chg.refl _ _⟩
            obtain ⟨i, rfl, hi, hro, hrg, hc⟩ := hrel
            have HRo := Lib.hid hro
            have HRg := Lib.hid hrg
            have HC := Lib.hid hc
            have HCW := Lib.hid ((HC01.out.trans' HC13.out).new hc (fun k hk => hk.1))
            clear hro hrg hc
            by_cases hlt : i < M
            · have hii : (i : Int) < (M : Int) := by omega
              have hib : i < L1.length := by rw [HLl.out]; exact hlt
              have hig : i < gs2.length := by rw [HGl2.out]; exact hlt
              have hig1 : i < gs1.length := by rw [HGl.out]; exact hlt
              obtain ⟨b, hb⟩ : ∃ b, L1[i]? = some b := ⟨L1[i], List.getElem?_eq_getElem hib⟩
              obtain ⟨g, hg⟩ : ∃ g, gs2[i]? = some g := ⟨gs2[i], List.getElem?_eq_getElem hig⟩
              obtain ⟨gi, hgi⟩ : ∃ gi, gs1[i] = gi := ⟨_, rfl⟩
              have hrow := HRg.out i g b (Nat.le_refl _) hg hb
              have hrow1 := (HGe.out i g b hg hb).1
              obtain ⟨hsl, hbl⟩ := HEa.out i gi b (by rw [List.getElem?_eq_getElem hig1, hgi]) hb
              obtain ⟨nb, hnb⟩ : ∃ nb, b.length = nb := ⟨_, rfl⟩
              have hnbB : nb ≤ 140737488351232 := by rw [← hnb]; exact hbl
              have hby : M * 24 ≤ 140737488351232 := HBy.out
              clear hbl
              rw [hnb] at hrow hrow1
              obtain ⟨oag, cg, rfl⟩ := own_slice hrow
              obtain ⟨go, e1, hcg⟩ : ∃ go, oau = some ⟨go, 0, none⟩ ∧ wr.cell? ⟨go, i, none⟩ = some (.slice oag nb cg) := by
                rcases HRo.out.2 with ⟨e1, h0⟩ | ⟨go, cap', cur, e1, -⟩
                · omega
                · simp only [Value.slice.injEq] at e1
                  obtain ⟨rfl, -, -⟩ := e1
                  refine ⟨go, rfl, ?_⟩
                  obtain ⟨hx, h1, -⟩ := own_cell HRo.out hlt
                  rw [h1]
                  rw [List.getElem?_eq_getElem hig] at hg
                  exact hg
              subst e1
              obtain ⟨str, hstr⟩ : ∃ str : ByteArray, (⟨b.toArray⟩ : ByteArray) = str := ⟨_, rfl⟩
              have hcv : (convert 68 9 (.slice oag nb cg)).run Try.prog wr.drew = .ok (.string str) wr.drew := by
                have h1 := conv_own (row_kept hrow ((Chg.refl (fun _ => False) wr).drew) (fun _ _ h => h))
                rw [hstr] at h1
                exact h1
              obtain ⟨b0, off, hoa, -, hc0⟩ := HSl.out.cell hig1
              rw [hgi] at hc0
              have hci := HCW.out.cell hc0 id
              have hcv2 : (convert 68 9 gi).run Try.prog wr.drew = .ok (.string str) wr.drew := by
                have h1 := conv_slat (hsl.kept HCW.out.drew)
                rw [hstr] at h1
                exact h1
              have hgo : ∀ k, (Value.slice oag nb cg).ownBlock = some k → ¬ go = k := fun k hk e => by
                obtain ⟨c1, h1⟩ := row_obj hrow hk
                obtain ⟨c2, h2⟩ := row_obj HRo.out (g := go) rfl
                rw [← e, h2] at h1
                simp only [Option.some.injEq, Obj.cells.injEq] at h1
                exact types_ne' h1.2.1
              have hown : ∀ x, (Value.slice oag nb cg).ownBlock = some x → W.heap.size ≤ x ∧ x < w1.heap.size := fun x e => hrow1.lt x e
              have HGo := Lib.hid hgo
              have HOwn := Lib.hid hown
              have HRow := Lib.hid hrow
              have HCg := Lib.hid hcg
              have HCi := Lib.hid hci
              have HCv := Lib.hid hcv
              have HCv2 := Lib.hid hcv2
              have Hg := Lib.hid hg
              have HOA := Lib.hid hoa
              clear hgo hrow hrow1 hcg hci hcv hcv2 hg hb hstr hnb hown hsl hc0 hgi hoa
              have hoa := HOA.out
              rw [hoa]
              go_wp2_with fail
              refine wp_region_noPanic ?_
              refine wp_region_held_drew (S := (fun w' => w'.cell? ⟨go, i, none⟩ = some (.slice oag nb cg) ∧ (convert 68 9 (.slice oag nb cg)).run Try.prog w' = .ok (.string str) w' ∧ w'.cell? ⟨b0, off + i, none⟩ = some gi ∧ (convert 68 9 gi).run Try.prog w' = .ok (.string str) w')) (by kernel_rfl) (⟨HCg.out, HCv.out, HCi.out, HCv2.out⟩) (fun hHeld => ?_)
              refine take_list (i := 0) (v := ?_) rfl (by kernel_rfl) (by kernel_rfl) (by kernel_rfl) (fun _ _ _ h => h) (Or.inl ⟨by rfl, fun w hSw => ?_⟩) hHeld ?_
              rotate_left
              · (obtain ⟨hSw1, hSw2, hSw3, hSw4⟩ := hSw; go_simp)
                try with_reducible rfl
              simp only [Act.put, List.setIfInBounds_toArray, List.set_cons_zero, List.set_cons_succ]
              refine take_list (i := 1) (v := ?_) rfl (by kernel_rfl) (by kernel_rfl) (by kernel_rfl) (fun _ _ _ h => h) (Or.inl ⟨by rfl, fun w hSw => ?_⟩) hHeld ?_
              rotate_left
              · (obtain ⟨hSw1, hSw2, hSw3, hSw4⟩ := hSw; go_simp)
                try with_reducible rfl
              simp only [Act.put, List.setIfInBounds_toArray, List.set_cons_zero, List.set_cons_succ]
              refine take_list (i := 2) (v := ?_) rfl (by kernel_rfl) (by kernel_rfl) (by kernel_rfl) (fun _ _ _ h => h) (Or.inl ⟨by rfl, fun w hSw => ?_⟩) hHeld ?_
              rotate_left
              · (obtain ⟨hSw1, hSw2, hSw3, hSw4⟩ := hSw; go_simp)
                try with_reducible rfl
              simp only [Act.put, List.setIfInBounds_toArray, List.set_cons_zero, List.set_cons_succ]
              refine take_list (i := 3) (v := ?_) rfl (by kernel_rfl) (by kernel_rfl) (by kernel_rfl) (fun _ _ _ h => h) (Or.inl ⟨by rfl, fun w hSw => ?_⟩) hHeld ?_
              rotate_left
              · (obtain ⟨hSw1, hSw2, hSw3, hSw4⟩ := hSw; go_simp)
                try with_reducible rfl
              simp only [Act.put, List.setIfInBounds_toArray, List.set_cons_zero, List.set_cons_succ]
              refine take_list (i := 4) (v := ?_) rfl (by kernel_rfl) (by kernel_rfl) (by kernel_rfl) (fun _ _ _ h => h) (Or.inl ⟨by rfl, fun w hSw => ?_⟩) hHeld ?_
              rotate_left
              · (obtain ⟨hSw1, hSw2, hSw3, hSw4⟩ := hSw; go_simp)
                try with_reducible rfl
              simp only [Act.put, List.setIfInBounds_toArray, List.set_cons_zero, List.set_cons_succ]
              refine take_list (i := 5) (v := ?_) rfl (by kernel_rfl) (by kernel_rfl) (by kernel_rfl) (fun _ _ _ h => h) (Or.inl ⟨by rfl, fun w hSw => ?_⟩) hHeld ?_
              rotate_left
              · (obtain ⟨hSw1, hSw2, hSw3, hSw4⟩ := hSw; go_simp)
                try with_reducible rfl
              simp only [Act.put, List.setIfInBounds_toArray, List.set_cons_zero, List.set_cons_succ]
              refine take_list (i := 6) (v := ?_) rfl (by kernel_rfl) (by kernel_rfl) (by kernel_rfl) (fun _ _ _ h => h) (Or.inl ⟨by rfl, fun w hSw => ?_⟩) hHeld ?_
              rotate_left
              · (obtain ⟨hSw1, hSw2, hSw3, hSw4⟩ := hSw; go_simp)
                try with_reducible rfl
              simp only [Act.put, List.setIfInBounds_toArray, List.set_cons_zero, List.set_cons_succ]
              refine take_list (i := 7) (v := ?_) rfl (by kernel_rfl) (by kernel_rfl) (by kernel_rfl) (fun _ _ _ h => h) (Or.inl ⟨by rfl, fun w hSw => ?_⟩) hHeld ?_
              rotate_left
              · (obtain ⟨hSw1, hSw2, hSw3, hSw4⟩ := hSw; go_simp)
                try with_reducible rfl
              simp only [Act.put, List.setIfInBounds_toArray, List.set_cons_zero, List.set_cons_succ]
              refine take_list (i := 8) (v := ?_) rfl (by kernel_rfl) (by kernel_rfl) (by kernel_rfl) (fun _ _ _ h => h) (Or.inl ⟨by rfl, fun w hSw => ?_⟩) hHeld ?_
              rotate_left
              · (obtain ⟨hSw1, hSw2, hSw3, hSw4⟩ := hSw; go_simp)
                try with_reducible rfl
              simp only [Act.put, List.setIfInBounds_toArray, List.set_cons_zero, List.set_cons_succ]
              refine take_list (i := 9) (v := ?_) rfl (by kernel_rfl) (by kernel_rfl) (by kernel_rfl) (fun _ _ _ h => h) (Or.inl ⟨by rfl, fun w hSw => ?_⟩) hHeld ?_
              rotate_left
              · (obtain ⟨hSw1, hSw2, hSw3, hSw4⟩ := hSw; go_simp)
                try with_reducible rfl
              simp only [Act.put, List.setIfInBounds_toArray, List.set_cons_zero, List.set_cons_succ]
              refine take_list (i := 10) (v := ?_) rfl (by kernel_rfl) (by kernel_rfl) (by kernel_rfl) (fun _ _ _ h => h) (Or.inl ⟨by rfl, fun w hSw => ?_⟩) hHeld ?_
              rotate_left
              · (obtain ⟨hSw1, hSw2, hSw3, hSw4⟩ := hSw; go_simp)
                try with_reducible rfl
              simp only [Act.put, List.setIfInBounds_toArray, List.set_cons_zero, List.set_cons_succ]
              refine wpAnyH_done (by kernel_rfl) ?_ _
              refine NoPanic.normal ?_
              clear hHeld
              have hcg := HCg.out
              go_wp2_with fail
              go_loopw [82] (fun j wr' => ∃ k : Nat, j = .int .i64 k ∧ k ≤ nb ∧ (∃ b' : Blk, wr'.ownsRow W.heap.size 5 1 (.slice oag nb cg) nb (cellsB b')) ∧ Chg (fun x => (Value.slice oag nb cg).ownBlock = some x) wr wr') (fun j _ => nb - (intOf j).toNat)
              · exact ⟨0, rfl, Nat.zero_le _, ⟨b, row_kept HRow.out ((Chg.refl (fun _ => False) wr).drew) (fun _ _ h => h)⟩, (Chg.refl _ _).drew⟩
              clear hcg
              obtain ⟨k, rfl, hk, ⟨b', hb'⟩, hc'⟩ := hrel
              have HC' := Lib.hid hc'
              have hcg := hc'.cell HCg.out (fun e => HGo.out _ e rfl)
              have hlt' : i < M := hlt
              by_cases hltk : k < nb
              · have hkk : (k : Int) < (nb : Int) := by omega
                obtain ⟨gg, c, rfl, hcc, hzz, hbg, hbg2, hnext⟩ := inc_at hb' hltk
                have HNext := Lib.hid hnext
                clear hb' hc' hnext
                go_wp2_with fail
                refine ⟨⟨k + 1, by go_num, hltk, ⟨_, HNext.out _ (by first | exact inc_wrap _ | exact inc_mod _)⟩, HC'.out.setCell (p := ⟨gg, k, none⟩) (fun _ => rfl) _⟩, meas_step hltk⟩
              · have hkk : ¬ (k : Int) < (nb : Int) := by omega
                clear hb' hc'
                go_wp2_with fail
                refine ⟨⟨i + 1, by go_num, hlt', row_kept HRo.out HC'.out (fun x hx e => ?_), fun t g b ht hg hb => row_kept (HRg.out t g b (by omega) hg hb) HC'.out (fun x hx e => ?_), HC.out.trans' (HC'.out.mono (fun x _ e => HOwn.out x e))⟩, meas_step hlt'⟩
                · cases hx; exact HGo.out _ e rfl
                · rcases HGa.out i t _ _ (by omega) Hg.out hg with h | h
                  · rw [h] at e; cases e
                  · exact h (by rw [e, hx])
            · have hii : ¬ (i : Int) < (M : Int) := by omega
              have hD := HD3.out.keep HC.out (fun k hk hF => by have := hk.2; have := hF.1; omega) (fun k hk hF => by have := hk.2; have := hF.1; have := HC12.out.size; omega) (fun k hk => hk.1)
              have HD4 := Lib.hid hD
              clear hD
              go_wp2_with fail
              go_loopw [13] (fun j wr => ∃ i : Nat, j = .int .i64 i ∧ i ≤ acts.length ∧ i ≤ 20 ∧ ∃ Fd Fr X R, Duo W wr d r Fd Fr X R ∧ Link X R i) (fun j _ => 20 - (intOf j).toNat)
              · exact ⟨0, rfl, Nat.zero_le _, by omega, _, _, _, _, HD4.out, Link.ofK L1⟩
              obtain ⟨i, rfl, hil, hi20, Fd, Fr, X, R, hD, hL⟩ := hrel
              have HD := Lib.hid hD
              have HL := Lib.hid hL
              clear hD hL hi hlt hii
              by_cases hlt : i < acts.length ∧ i < 20
              · obtain ⟨hl1, hl2⟩ := hlt
                have hd60 : decide ((i : Int) < 20) = true := by simp; omega
                have hia : (i : Int) < (acts.length : Int) := by omega
                obtain ⟨b, off, hoA⟩ := HActs.out.spot (by intro e; cases acts with | nil => simp at hl1 | cons => simp at e)
                obtain ⟨a, ha⟩ : ∃ a, acts[i]? = some a := ⟨acts[i], List.getElem?_eq_getElem hl1⟩
                obtain ⟨c0, c1, c2, c3, c4⟩ := act_cells (by have := HActs.out; rw [hoA] at this; exact this) HD.out.chg ha
                have HOa := Lib.hid (HOk.out a (List.mem_of_getElem? ha))
                rw [hoA]
                clear ha
                go_wp2_with (first
                  | (go_at_call 45; refine (does_any _ HD.out HL.out (by omega) a HOa.out.1 HOa.out.2).mono ?_; rintro e w7 ⟨rfl, hdo⟩
                     obtain ⟨Fd', Fr', X', R', hD7, hL7⟩ := hdo
                     have HD7 := Lib.hid hD7
                     have HL7 := Lib.hid hL7
                     clear hD7 hL7)
                  | (go_at_call 46; refine (same_any _ HD7.out HL7.out (by omega)).mono ?_; rintro e w9 ⟨rfl, hc9⟩; have HC9 := Lib.hid hc9; clear hc9))
                exact ⟨⟨i + 1, by go_num, hl1, by omega, _, _, _, _, HD7.out.fresh HC9.out, HL7.out⟩, meas_step hl2⟩
              · rcases Nat.lt_or_ge i acts.length with hl1 | hl1
                · have hd60 : decide ((i : Int) < 20) = false := by simp; omega
                  have hl2 : (i : Int) < (acts.length : Int) := by omega
                  clear hl1 hlt
                  obtain ⟨wm, hm, ho, hcm⟩ := made_u8 wr 64 (by omega)
                  have hm' : (Instr.makeSlice 68 (.int .i64 64) (.int .i64 64)).run Try.prog wr = .ok (.slice (some ⟨wr.heap.size, 0, none⟩) 64 64) wm := hm
                  obtain ⟨ho1, ho2⟩ := one_args wr wm ho
                  have HO1 := Lib.hid ho1
                  have HO2 := Lib.hid ho2
                  have HCm := Lib.hid hcm
                  clear hm ho hcm ho1 ho2
                  go_wp2_with (first
                    | (go_at_call 43; refine (of_64 (L := [zeroBlk]) _ rfl HO1.out HO2.out (by decide) (by decide) (by intro b hb; rw [List.mem_singleton.1 hb]; rfl)).mono ?_; rintro e w7 ⟨d7, rfl, hx7, hc7⟩; have HX7 := Lib.hid hx7; have HC7 := Lib.hid hc7; clear hx7 hc7)
                    | (go_at_call 47; refine (blocks_any _ (HX7.out.fresh HC9.out)).mono ?_; rw [show ((DV.ofK [zeroBlk] ([zeroBlk] : List Blk).length).B.length : Int) = 1 from rfl]; rintro e w8 ⟨rfl, rfl⟩)
                    | (go_at_call 46; refine (same_any _ ((HD.out.fresh HCm.out).fresh (((Chg.refl (fun _ => False) wm).alloc _).trans' HC7.out)) HL.out (by omega)).mono ?_; rintro e w9 ⟨rfl, hc9⟩; have HC9 := Lib.hid hc9; clear hc9))
                  go_ret
                  exact ⟨rfl, (((HD.out.chg.trans' HCm.out).trans' (((Chg.refl (fun _ => False) wm).alloc _).trans' HC7.out)).trans' HC9.out)⟩
                · have hl2 : ¬ (i : Int) < (acts.length : Int) := by omega
                  clear hl1 hlt
                  obtain ⟨wm, hm, ho, hcm⟩ := made_u8 wr 64 (by omega)
                  have hm' : (Instr.makeSlice 68 (.int .i64 64) (.int .i64 64)).run Try.prog wr = .ok (.slice (some ⟨wr.heap.size, 0, none⟩) 64 64) wm := hm
                  obtain ⟨ho1, ho2⟩ := one_args wr wm ho
                  have HO1 := Lib.hid ho1
                  have HO2 := Lib.hid ho2
                  have HCm := Lib.hid hcm
                  clear hm ho hcm ho1 ho2
                  go_wp2_with (first
                    | (go_at_call 43; refine (of_64 (L := [zeroBlk]) _ rfl HO1.out HO2.out (by decide) (by decide) (by intro b hb; rw [List.mem_singleton.1 hb]; rfl)).mono ?_; rintro e w7 ⟨d7, rfl, hx7, hc7⟩; have HX7 := Lib.hid hx7; have HC7 := Lib.hid hc7; clear hx7 hc7)
                    | (go_at_call 47; refine (blocks_any _ (HX7.out.fresh HC9.out)).mono ?_; rw [show ((DV.ofK [zeroBlk] ([zeroBlk] : List Blk).length).B.length : Int) = 1 from rfl]; rintro e w8 ⟨rfl, rfl⟩)
                    | (go_at_call 46; refine (same_any _ ((HD.out.fresh HCm.out).fresh (((Chg.refl (fun _ => False) wm).alloc _).trans' HC7.out)) HL.out (by omega)).mono ?_; rintro e w9 ⟨rfl, hc9⟩; have HC9 := Lib.hid hc9; clear hc9))
                  go_ret
                  exact ⟨rfl, (((HD.out.chg.trans' HCm.out).trans' (((Chg.refl (fun _ => False) wm).alloc _).trans' HC7.out)).trans' HC9.out)⟩
          · have hofN := of_n64 _ hl2 hsl2 hea2 hr1 hr2 h64
            have hrofN := fun w' hc => refof_n64 w' hl1 (hsl1 w' hc) (hea1 w' hc) hr1 hr2 h64
            rw [HLl.out] at hofN
            have hrofN : ∀ w', Chg (fun _ => False) W w' → Calls Try.prog 44 #[.slice oa M cap] w' fun e w'' => e = .returned (.tuple #[.pointer none, .int .i64 2]) ∧ Chg (fun _ => False) w' w'' := fun w' hc => by have h := hrofN w' hc; rw [HLl.out] at h; exact h
            clear hl1 hl2 hsl1 hsl2 hea1 hea2 h64 hr1 hr2
            go_wp2_with (first
              | (go_at_call 43; refine hofN.mono ?_; rintro e w2 ⟨rfl, hc12⟩; have HC12 := Lib.hid hc12; clear hc12)
              | (go_at_call 44; refine (hrofN _ (HC01.out.trans' HC12.out)).mono ?_; rintro e w3 ⟨rfl, hc23⟩; have HC13 := Lib.hid (HC12.out.trans' hc23); clear hc23))
            clear hofN hrofN
            go_loopw [63] (fun j wr => ∃ i : Nat, j = .int .i64 i ∧ i ≤ M ∧ wr.ownsRow W.heap.size 68 1 (.slice oau M cu) M gs2 ∧ (∀ (t : Nat) g b, i ≤ t → gs2[t]? = some g → L1[t]? = some b → wr.ownsRow W.heap.size 5 1 g b.length (cellsB b)) ∧ Chg (fun x => W.heap.size ≤ x ∧ x < w1.heap.size) w3 wr) (fun j _ => M - (intOf j).toNat)
            · exact ⟨0, rfl, Nat.zero_le _, row_kept HGr.out HC13.out (fun _ _ h => h), fun t g b _ hg hb => row_kept (HGe.out t g b hg hb).1 HC13.out (fun _ _ h => h), Chg.refl _ _⟩
            obtain ⟨i, rfl, hi, hro, hrg, hc⟩ := hrel
            have HRo := Lib.hid hro
            have HRg := Lib.hid hrg
            have HC := Lib.hid hc
            have HCW := Lib.hid ((HC01.out.trans' HC13.out).new hc (fun k hk => hk.1))
            clear hro hrg hc
            by_cases hlt : i < M
            · have hii : (i : Int) < (M : Int) := by omega
              have hib : i < L1.length := by rw [HLl.out]; exact hlt
              have hig : i < gs2.length := by rw [HGl2.out]; exact hlt
              have hig1 : i < gs1.length := by rw [HGl.out]; exact hlt
              obtain ⟨b, hb⟩ : ∃ b, L1[i]? = some b := ⟨L1[i], List.getElem?_eq_getElem hib⟩
              obtain ⟨g, hg⟩ : ∃ g, gs2[i]? = some g := ⟨gs2[i], List.getElem?_eq_getElem hig⟩
              obtain ⟨gi, hgi⟩ : ∃ gi, gs1[i] = gi := ⟨_, rfl⟩
              have hrow := HRg.out i g b (Nat.le_refl _) hg hb
              have hrow1 := (HGe.out i g b hg hb).1
              obtain ⟨hsl, hbl⟩ := HEa.out i gi b (by rw [List.getElem?_eq_getElem hig1, hgi]) hb
              obtain ⟨nb, hnb⟩ : ∃ nb, b.length = nb := ⟨_, rfl⟩
              have hnbB : nb ≤ 140737488351232 := by rw [← hnb]; exact hbl
              have hby : M * 24 ≤ 140737488351232 := HBy.out
              clear hbl
              rw [hnb] at hrow hrow1
              obtain ⟨oag, cg, rfl⟩ := own_slice hrow
              obtain ⟨go, e1, hcg⟩ : ∃ go, oau = some ⟨go, 0, none⟩ ∧ wr.cell? ⟨go, i, none⟩ = some (.slice oag nb cg) := by
                rcases HRo.out.2 with ⟨e1, h0⟩ | ⟨go, cap', cur, e1, -⟩
                · omega
                · simp only [Value.slice.injEq] at e1
                  obtain ⟨rfl, -, -⟩ := e1
                  refine ⟨go, rfl, ?_⟩
                  obtain ⟨hx, h1, -⟩ := own_cell HRo.out hlt
                  rw [h1]
                  rw [List.getElem?_eq_getElem hig] at hg
                  exact hg
              subst e1
              obtain ⟨str, hstr⟩ : ∃ str : ByteArray, (⟨b.toArray⟩ : ByteArray) = str := ⟨_, rfl⟩
              have hcv : (convert 68 9 (.slice oag nb cg)).run Try.prog wr.drew = .ok (.string str) wr.drew := by
                have h1 := conv_own (row_kept hrow ((Chg.refl (fun _ => False) wr).drew) (fun _ _ h => h))
                rw [hstr] at h1
                exact h1
              obtain ⟨b0, off, hoa, -, hc0⟩ := HSl.out.cell hig1
              rw [hgi] at hc0
              have hci := HCW.out.cell hc0 id
              have hcv2 : (convert 68 9 gi).run Try.prog wr.drew = .ok (.string str) wr.drew := by
                have h1 := conv_slat (hsl.kept HCW.out.drew)
                rw [hstr] at h1
                exact h1
              have hgo : ∀ k, (Value.slice oag nb cg).ownBlock = some k → ¬ go = k := fun k hk e => by
                obtain ⟨c1, h1⟩ := row_obj hrow hk
                obtain ⟨c2, h2⟩ := row_obj HRo.out (g := go) rfl
                rw [← e, h2] at h1
                simp only [Option.some.injEq, Obj.cells.injEq] at h1
                exact types_ne' h1.2.1
              have hown : ∀ x, (Value.slice oag nb cg).ownBlock = some x → W.heap.size ≤ x ∧ x < w1.heap.size := fun x e => hrow1.lt x e
              have HGo := Lib.hid hgo
              have HOwn := Lib.hid hown
              have HRow := Lib.hid hrow
              have HCg := Lib.hid hcg
              have HCi := Lib.hid hci
              have HCv := Lib.hid hcv
              have HCv2 := Lib.hid hcv2
              have Hg := Lib.hid hg
              have HOA := Lib.hid hoa
              clear hgo hrow hrow1 hcg hci hcv hcv2 hg hb hstr hnb hown hsl hc0 hgi hoa
              have hoa := HOA.out
              rw [hoa]
              go_wp2_with fail
              refine wp_region_noPanic ?_
              refine wp_region_held_drew (S := (fun w' => w'.cell? ⟨go, i, none⟩ = some (.slice oag nb cg) ∧ (convert 68 9 (.slice oag nb cg)).run Try.prog w' = .ok (.string str) w' ∧ w'.cell? ⟨b0, off + i, none⟩ = some gi ∧ (convert 68 9 gi).run Try.prog w' = .ok (.string str) w')) (by kernel_rfl) (⟨HCg.out, HCv.out, HCi.out, HCv2.out⟩) (fun hHeld => ?_)
              refine take_list (i := 0) (v := ?_) rfl (by kernel_rfl) (by kernel_rfl) (by kernel_rfl) (fun _ _ _ h => h) (Or.inl ⟨by rfl, fun w hSw => ?_⟩) hHeld ?_
              rotate_left
              · (obtain ⟨hSw1, hSw2, hSw3, hSw4⟩ := hSw; go_simp)
                try with_reducible rfl
              simp only [Act.put, List.setIfInBounds_toArray, List.set_cons_zero, List.set_cons_succ]
              refine take_list (i := 1) (v := ?_) rfl (by kernel_rfl) (by kernel_rfl) (by kernel_rfl) (fun _ _ _ h => h) (Or.inl ⟨by rfl, fun w hSw => ?_⟩) hHeld ?_
              rotate_left
              · (obtain ⟨hSw1, hSw2, hSw3, hSw4⟩ := hSw; go_simp)
                try with_reducible rfl
              simp only [Act.put, List.setIfInBounds_toArray, List.set_cons_zero, List.set_cons_succ]
              refine take_list (i := 2) (v := ?_) rfl (by kernel_rfl) (by kernel_rfl) (by kernel_rfl) (fun _ _ _ h => h) (Or.inl ⟨by rfl, fun w hSw => ?_⟩) hHeld ?_
              rotate_left
              · (obtain ⟨hSw1, hSw2, hSw3, hSw4⟩ := hSw; go_simp)
                try with_reducible rfl
              simp only [Act.put, List.setIfInBounds_toArray, List.set_cons_zero, List.set_cons_succ]
              refine take_list (i := 3) (v := ?_) rfl (by kernel_rfl) (by kernel_rfl) (by kernel_rfl) (fun _ _ _ h => h) (Or.inl ⟨by rfl, fun w hSw => ?_⟩) hHeld ?_
              rotate_left
              · (obtain ⟨hSw1, hSw2, hSw3, hSw4⟩ := hSw; go_simp)
                try with_reducible rfl
              simp only [Act.put, List.setIfInBounds_toArray, List.set_cons_zero, List.set_cons_succ]
              refine take_list (i := 4) (v := ?_) rfl (by kernel_rfl) (by kernel_rfl) (by kernel_rfl) (fun _ _ _ h => h) (Or.inl ⟨by rfl, fun w hSw => ?_⟩) hHeld ?_
              rotate_left
              · (obtain ⟨hSw1, hSw2, hSw3, hSw4⟩ := hSw; go_simp)
                try with_reducible rfl
              simp only [Act.put, List.setIfInBounds_toArray, List.set_cons_zero, List.set_cons_succ]
              refine take_list (i := 5) (v := ?_) rfl (by kernel_rfl) (by kernel_rfl) (by kernel_rfl) (fun _ _ _ h => h) (Or.inl ⟨by rfl, fun w hSw => ?_⟩) hHeld ?_
              rotate_left
              · (obtain ⟨hSw1, hSw2, hSw3, hSw4⟩ := hSw; go_simp)
                try with_reducible rfl
              simp only [Act.put, List.setIfInBounds_toArray, List.set_cons_zero, List.set_cons_succ]
              refine take_list (i := 6) (v := ?_) rfl (by kernel_rfl) (by kernel_rfl) (by kernel_rfl) (fun _ _ _ h => h) (Or.inl ⟨by rfl, fun w hSw => ?_⟩) hHeld ?_
              rotate_left
              · (obtain ⟨hSw1, hSw2, hSw3, hSw4⟩ := hSw; go_simp)
                try with_reducible rfl
              simp only [Act.put, List.setIfInBounds_toArray, List.set_cons_zero, List.set_cons_succ]
              refine take_list (i := 7) (v := ?_) rfl (by kernel_rfl) (by kernel_rfl) (by kernel_rfl) (fun _ _ _ h => h) (Or.inl ⟨by rfl, fun w hSw => ?_⟩) hHeld ?_
              rotate_left
              · (obtain ⟨hSw1, hSw2, hSw3, hSw4⟩ := hSw; go_simp)
                try with_reducible rfl
              simp only [Act.put, List.setIfInBounds_toArray, List.set_cons_zero, List.set_cons_succ]
              refine take_list (i := 8) (v := ?_) rfl (by kernel_rfl) (by kernel_rfl) (by kernel_rfl) (fun _ _ _ h => h) (Or.inl ⟨by rfl, fun w hSw => ?_⟩) hHeld ?_
              rotate_left
              · (obtain ⟨hSw1, hSw2, hSw3, hSw4⟩ := hSw; go_simp)
                try with_reducible rfl
              simp only [Act.put, List.setIfInBounds_toArray, List.set_cons_zero, List.set_cons_succ]
              refine take_list (i := 9) (v := ?_) rfl (by kernel_rfl) (by kernel_rfl) (by kernel_rfl) (fun _ _ _ h => h) (Or.inl ⟨by rfl, fun w hSw => ?_⟩) hHeld ?_
              rotate_left
              · (obtain ⟨hSw1, hSw2, hSw3, hSw4⟩ := hSw; go_simp)
                try with_reducible rfl
              simp only [Act.put, List.setIfInBounds_toArray, List.set_cons_zero, List.set_cons_succ]
              refine take_list (i := 10) (v := ?_) rfl (by kernel_rfl) (by kernel_rfl) (by kernel_rfl) (fun _ _ _ h => h) (Or.inl ⟨by rfl, fun w hSw => ?_⟩) hHeld ?_
              rotate_left
              · (obtain ⟨hSw1, hSw2, hSw3, hSw4⟩ := hSw; go_simp)
                try with_reducible rfl
              simp only [Act.put, List.setIfInBounds_toArray, List.set_cons_zero, List.set_cons_succ]
              refine wpAnyH_done (by kernel_rfl) ?_ _
              refine NoPanic.normal ?_
              clear hHeld
              have hcg := HCg.out
              go_wp2_with fail
              go_loopw [82] (fun j wr' => ∃ k : Nat, j = .int .i64 k ∧ k ≤ nb ∧ (∃ b' : Blk, wr'.ownsRow W.heap.size 5 1 (.slice oag nb cg) nb (cellsB b')) ∧ Chg (fun x => (Value.slice oag nb cg).ownBlock = some x) wr wr') (fun j _ => nb - (intOf j).toNat)
              · exact ⟨0, rfl, Nat.zero_le _, ⟨b, row_kept HRow.out ((Chg.refl (fun _ => False) wr).drew) (fun _ _ h => h)⟩, (Chg.refl _ _).drew⟩
              clear hcg
              obtain ⟨k, rfl, hk, ⟨b', hb'⟩, hc'⟩ := hrel
              have HC' := Lib.hid hc'
              have hcg := hc'.cell HCg.out (fun e => HGo.out _ e rfl)
              have hlt' : i < M := hlt
              by_cases hltk : k < nb
              · have hkk : (k : Int) < (nb : Int) := by omega
                obtain ⟨gg, c, rfl, hcc, hzz, hbg, hbg2, hnext⟩ := inc_at hb' hltk
                have HNext := Lib.hid hnext
                clear hb' hc' hnext
                go_wp2_with fail
                refine ⟨⟨k + 1, by go_num, hltk, ⟨_, HNext.out _ (by first | exact inc_wrap _ | exact inc_mod _)⟩, HC'.out.setCell (p := ⟨gg, k, none⟩) (fun _ => rfl) _⟩, meas_step hltk⟩
              · have hkk : ¬ (k : Int) < (nb : Int) := by omega
                clear hb' hc'
                go_wp2_with fail
                refine ⟨⟨i + 1, by go_num, hlt', row_kept HRo.out HC'.out (fun x hx e => ?_), fun t g b ht hg hb => row_kept (HRg.out t g b (by omega) hg hb) HC'.out (fun x hx e => ?_), HC.out.trans' (HC'.out.mono (fun x _ e => HOwn.out x e))⟩, meas_step hlt'⟩
                · cases hx; exact HGo.out _ e rfl
                · rcases HGa.out i t _ _ (by omega) Hg.out hg with h | h
                  · rw [h] at e; cases e
                  · exact h (by rw [e, hx])
            · have hii : ¬ (i : Int) < (M : Int) := by omega
              go_wp2_with fail
              go_loopw [13] (fun j wr => j = .int .i64 0 ∧ Chg (fun _ => False) W wr) (fun _ _ => 0)
              · exact ⟨rfl, HCW.out⟩
              obtain ⟨rfl, hcz⟩ := hrel
              have HCz := Lib.hid hcz
              clear hcz
              by_cases hl : 0 < acts.length
              · have hli : (0 : Int) < (acts.length : Int) := by omega
                clear hl
                obtain ⟨wm, hm, ho, hcm⟩ := made_u8 wr 64 (by omega)
                have hm' : (Instr.makeSlice 68 (.int .i64 64) (.int .i64 64)).run Try.prog wr = .ok (.slice (some ⟨wr.heap.size, 0, none⟩) 64 64) wm := hm
                obtain ⟨ho1, ho2⟩ := one_args wr wm ho
                have HO1 := Lib.hid ho1
                have HO2 := Lib.hid ho2
                have HCm := Lib.hid hcm
                clear hm ho hcm ho1 ho2
                go_wp2_with (first
                  | (go_at_call 43; refine (of_64 (L := [zeroBlk]) _ rfl HO1.out HO2.out (by decide) (by decide) (by intro b hb; rw [List.mem_singleton.1 hb]; rfl)).mono ?_; rintro e w7 ⟨d7, rfl, hx7, hc7⟩; have HX7 := Lib.hid hx7; have HC7 := Lib.hid hc7; clear hx7 hc7)
                  | (go_at_call 47; refine (blocks_any _ (HX7.out)).mono ?_; rw [show ((DV.ofK [zeroBlk] ([zeroBlk] : List Blk).length).B.length : Int) = 1 from rfl]; rintro e w8 ⟨rfl, rfl⟩)
                  | (go_at_call 46; refine (same_any _ ((HD.out.fresh HCm.out).fresh (((Chg.refl (fun _ => False) wm).alloc _).trans' HC7.out)) HL.out (by omega)).mono ?_; rintro e w9 ⟨rfl, hc9⟩; have HC9 := Lib.hid hc9; clear hc9))
                go_ret
                exact ⟨rfl, (HCz.out.trans' HCm.out).trans' (((Chg.refl (fun _ => False) wm).alloc _).trans' HC7.out)⟩
              · have hli : ¬ (0 : Int) < (acts.length : Int) := by omega
                clear hl
                obtain ⟨wm, hm, ho, hcm⟩ := made_u8 wr 64 (by omega)
                have hm' : (Instr.makeSlice 68 (.int .i64 64) (.int .i64 64)).run Try.prog wr = .ok (.slice (some ⟨wr.heap.size, 0, none⟩) 64 64) wm := hm
                obtain ⟨ho1, ho2⟩ := one_args wr wm ho
                have HO1 := Lib.hid ho1
                have HO2 := Lib.hid ho2
                have HCm := Lib.hid hcm
                clear hm ho hcm ho1 ho2
                go_wp2_with (first
                  | (go_at_call 43; refine (of_64 (L := [zeroBlk]) _ rfl HO1.out HO2.out (by decide) (by decide) (by intro b hb; rw [List.mem_singleton.1 hb]; rfl)).mono ?_; rintro e w7 ⟨d7, rfl, hx7, hc7⟩; have HX7 := Lib.hid hx7; have HC7 := Lib.hid hc7; clear hx7 hc7)
                  | (go_at_call 47; refine (blocks_any _ (HX7.out)).mono ?_; rw [show ((DV.ofK [zeroBlk] ([zeroBlk] : List Blk).length).B.length : Int) = 1 from rfl]; rintro e w8 ⟨rfl, rfl⟩)
                  | (go_at_call 46; refine (same_any _ ((HD.out.fresh HCm.out).fresh (((Chg.refl (fun _ => False) wm).alloc _).trans' HC7.out)) HL.out (by omega)).mono ?_; rintro e w9 ⟨rfl, hc9⟩; have HC9 := Lib.hid hc9; clear hc9))
                go_ret
                exact ⟨rfl, (HCz.out.trans' HCm.out).trans' (((Chg.refl (fun _ => False) wm).alloc _).trans' HC7.out)⟩
        · have hb : L1.length < 1 ∨ 4096 < L1.length := by omega
          rw [HLl.out] at hb
          have HBd := Lib.hid hb
          have hofN : Calls Try.prog 43 #[.slice oau M cu] w1 fun e w' => e = .returned (.tuple #[.pointer none, .int .i64 2]) ∧ Chg (fun _ => False) w1 w' := (of_bad w1 _ _ _ HBd.out).mono (by rintro e w' ⟨h, rfl⟩; exact ⟨h, Chg.refl _ _⟩)
          have hrofN : ∀ w', Chg (fun _ => False) W w' → Calls Try.prog 44 #[.slice oa M cap] w' fun e w'' => e = .returned (.tuple #[.pointer none, .int .i64 2]) ∧ Chg (fun _ => False) w' w'' := fun w' hc => (refof_bad w' _ _ _ HBd.out).mono (by rintro e w' ⟨h, rfl⟩; exact ⟨h, Chg.refl _ _⟩)
          clear hl1 hl2 hsl1 hsl2 hea1 hea2 hr hb
          go_wp2_with (first
            | (go_at_call 43; refine hofN.mono ?_; rintro e w2 ⟨rfl, hc12⟩; have HC12 := Lib.hid hc12; clear hc12)
            | (go_at_call 44; refine (hrofN _ (HC01.out.trans' HC12.out)).mono ?_; rintro e w3 ⟨rfl, hc23⟩; have HC13 := Lib.hid (HC12.out.trans' hc23); clear hc23))
          clear hofN hrofN
          go_loopw [63] (fun j wr => ∃ i : Nat, j = .int .i64 i ∧ i ≤ M ∧ wr.ownsRow W.heap.size 68 1 (.slice oau M cu) M gs2 ∧ (∀ (t : Nat) g b, i ≤ t → gs2[t]? = some g → L1[t]? = some b → wr.ownsRow W.heap.size 5 1 g b.length (cellsB b)) ∧ Chg (fun x => W.heap.size ≤ x ∧ x < w1.heap.size) w3 wr) (fun j _ => M - (intOf j).toNat)
          · exact ⟨0, rfl, Nat.zero_le _, row_kept HGr.out HC13.out (fun _ _ h => h), fun t g b _ hg hb => row_kept (HGe.out t g b hg hb).1 HC13.out (fun _ _ h => h), Chg.refl _ _⟩
          obtain ⟨i, rfl, hi, hro, hrg, hc⟩ := hrel
          have HRo := Lib.hid hro
          have HRg := Lib.hid hrg
          have HC := Lib.hid hc
          have HCW := Lib.hid ((HC01.out.trans' HC13.out).new hc (fun k hk => hk.1))
          clear hro hrg hc
          by_cases hlt : i < M
          · have hii : (i : Int) < (M : Int) := by omega
            have hib : i < L1.length := by rw [HLl.out]; exact hlt
            have hig : i < gs2.length := by rw [HGl2.out]; exact hlt
            have hig1 : i < gs1.length := by rw [HGl.out]; exact hlt
            obtain ⟨b, hb⟩ : ∃ b, L1[i]? = some b := ⟨L1[i], List.getElem?_eq_getElem hib⟩
            obtain ⟨g, hg⟩ : ∃ g, gs2[i]? = some g := ⟨gs2[i], List.getElem?_eq_getElem hig⟩
            obtain ⟨gi, hgi⟩ : ∃ gi, gs1[i] = gi := ⟨_, rfl⟩
            have hrow := HRg.out i g b (Nat.le_refl _) hg hb
            have hrow1 := (HGe.out i g b hg hb).1
            obtain ⟨hsl, hbl⟩ := HEa.out i gi b (by rw [List.getElem?_eq_getElem hig1, hgi]) hb
            obtain ⟨nb, hnb⟩ : ∃ nb, b.length = nb := ⟨_, rfl⟩
            have hnbB : nb ≤ 140737488351232 := by rw [← hnb]; exact hbl
            have hby : M * 24 ≤ 140737488351232 := HBy.out
            clear hbl
            rw [hnb] at hrow hrow1
            obtain ⟨oag, cg, rfl⟩ := own_slice hrow
            obtain ⟨go, e1, hcg⟩ : ∃ go, oau = some ⟨go, 0, none⟩ ∧ wr.cell? ⟨go, i, none⟩ = some (.slice oag nb cg) := by
              rcases HRo.out.2 with ⟨e1, h0⟩ | ⟨go, cap', cur, e1, -⟩
              · omega
              · simp only [Value.slice.injEq] at e1
                obtain ⟨rfl, -, -⟩ := e1
                refine ⟨go, rfl, ?_⟩
                obtain ⟨hx, h1, -⟩ := own_cell HRo.out hlt
                rw [h1]
                rw [List.getElem?_eq_getElem hig] at hg
                exact hg
            subst e1
            obtain ⟨str, hstr⟩ : ∃ str : ByteArray, (⟨b.toArray⟩ : ByteArray) = str := ⟨_, rfl⟩
            have hcv : (convert 68 9 (.slice oag nb cg)).run Try.prog wr.drew = .ok (.string str) wr.drew := by
              have h1 := conv_own (row_kept hrow ((Chg.refl (fun _ => False) wr).drew) (fun _ _ h => h))
              rw [hstr] at h1
              exact h1
            obtain ⟨b0, off, hoa, -, hc0⟩ := HSl.out.cell hig1
            rw [hgi] at hc0
            have hci := HCW.out.cell hc0 id
            have hcv2 : (convert 68 9 gi).run Try.prog wr.drew = .ok (.string str) wr.drew := by
              have h1 := conv_slat (hsl.kept HCW.out.drew)
              rw [hstr] at h1
              exact h1
            have hgo : ∀ k, (Value.slice oag nb cg).ownBlock = some k → ¬ go = k := fun k hk e => by
              obtain ⟨c1, h1⟩ := row_obj hrow hk
              obtain ⟨c2, h2⟩ := row_obj HRo.out (g := go) rfl
              rw [← e, h2] at h1
              simp only [Option.some.injEq, Obj.cells.injEq] at h1
              exact types_ne' h1.2.1
            have hown : ∀ x, (Value.slice oag nb cg).ownBlock = some x → W.heap.size ≤ x ∧ x < w1.heap.size := fun x e => hrow1.lt x e
            have HGo := Lib.hid hgo
            have HOwn := Lib.hid hown
            have HRow := Lib.hid hrow
            have HCg := Lib.hid hcg
            have HCi := Lib.hid hci
            have HCv := Lib.hid hcv
            have HCv2 := Lib.hid hcv2
            have Hg := Lib.hid hg
            have HOA := Lib.hid hoa
            clear hgo hrow hrow1 hcg hci hcv hcv2 hg hb hstr hnb hown hsl hc0 hgi hoa
            have hoa := HOA.out
            rw [hoa]
            go_wp2_with fail
            refine wp_region_noPanic ?_
            refine wp_region_held_drew (S := (fun w' => w'.cell? ⟨go, i, none⟩ = some (.slice oag nb cg) ∧ (convert 68 9 (.slice oag nb cg)).run Try.prog w' = .ok (.string str) w' ∧ w'.cell? ⟨b0, off + i, none⟩ = some gi ∧ (convert 68 9 gi).run Try.prog w' = .ok (.string str) w')) (by kernel_rfl) (⟨HCg.out, HCv.out, HCi.out, HCv2.out⟩) (fun hHeld => ?_)
            refine take_list (i := 0) (v := ?_) rfl (by kernel_rfl) (by kernel_rfl) (by kernel_rfl) (fun _ _ _ h => h) (Or.inl ⟨by rfl, fun w hSw => ?_⟩) hHeld ?_
            rotate_left
            · (obtain ⟨hSw1, hSw2, hSw3, hSw4⟩ := hSw; go_simp)
              try with_reducible rfl
            simp only [Act.put, List.setIfInBounds_toArray, List.set_cons_zero, List.set_cons_succ]
            refine take_list (i := 1) (v := ?_) rfl (by kernel_rfl) (by kernel_rfl) (by kernel_rfl) (fun _ _ _ h => h) (Or.inl ⟨by rfl, fun w hSw => ?_⟩) hHeld ?_
            rotate_left
            · (obtain ⟨hSw1, hSw2, hSw3, hSw4⟩ := hSw; go_simp)
              try with_reducible rfl
            simp only [Act.put, List.setIfInBounds_toArray, List.set_cons_zero, List.set_cons_succ]
            refine take_list (i := 2) (v := ?_) rfl (by kernel_rfl) (by kernel_rfl) (by kernel_rfl) (fun _ _ _ h => h) (Or.inl ⟨by rfl, fun w hSw => ?_⟩) hHeld ?_
            rotate_left
            · (obtain ⟨hSw1, hSw2, hSw3, hSw4⟩ := hSw; go_simp)
              try with_reducible rfl
            simp only [Act.put, List.setIfInBounds_toArray, List.set_cons_zero, List.set_cons_succ]
            refine take_list (i := 3) (v := ?_) rfl (by kernel_rfl) (by kernel_rfl) (by kernel_rfl) (fun _ _ _ h => h) (Or.inl ⟨by rfl, fun w hSw => ?_⟩) hHeld ?_
            rotate_left
            · (obtain ⟨hSw1, hSw2, hSw3, hSw4⟩ := hSw; go_simp)
              try with_reducible rfl
            simp only [Act.put, List.setIfInBounds_toArray, List.set_cons_zero, List.set_cons_succ]
            refine take_list (i := 4) (v := ?_) rfl (by kernel_rfl) (by kernel_rfl) (by kernel_rfl) (fun _ _ _ h => h) (Or.inl ⟨by rfl, fun w hSw => ?_⟩) hHeld ?_
            rotate_left
            · (obtain ⟨hSw1, hSw2, hSw3, hSw4⟩ := hSw; go_simp)
              try with_reducible rfl
            simp only [Act.put, List.setIfInBounds_toArray, List.set_cons_zero, List.set_cons_succ]
            refine take_list (i := 5) (v := ?_) rfl (by kernel_rfl) (by kernel_rfl) (by kernel_rfl) (fun _ _ _ h => h) (Or.inl ⟨by rfl, fun w hSw => ?_⟩) hHeld ?_
            rotate_left
            · (obtain ⟨hSw1, hSw2, hSw3, hSw4⟩ := hSw; go_simp)
              try with_reducible rfl
            simp only [Act.put, List.setIfInBounds_toArray, List.set_cons_zero, List.set_cons_succ]
            refine take_list (i := 6) (v := ?_) rfl (by kernel_rfl) (by kernel_rfl) (by kernel_rfl) (fun _ _ _ h => h) (Or.inl ⟨by rfl, fun w hSw => ?_⟩) hHeld ?_
            rotate_left
            · (obtain ⟨hSw1, hSw2, hSw3, hSw4⟩ := hSw; go_simp)
              try with_reducible rfl
            simp only [Act.put, List.setIfInBounds_toArray, List.set_cons_zero, List.set_cons_succ]
            refine take_list (i := 7) (v := ?_) rfl (by kernel_rfl) (by kernel_rfl) (by kernel_rfl) (fun _ _ _ h => h) (Or.inl ⟨by rfl, fun w hSw => ?_⟩) hHeld ?_
            rotate_left
            · (obtain ⟨hSw1, hSw2, hSw3, hSw4⟩ := hSw; go_simp)
              try with_reducible rfl
            simp only [Act.put, List.setIfInBounds_toArray, List.set_cons_zero, List.set_cons_succ]
            refine take_list (i := 8) (v := ?_) rfl (by kernel_rfl) (by kernel_rfl) (by kernel_rfl) (fun _ _ _ h => h) (Or.inl ⟨by rfl, fun w hSw => ?_⟩) hHeld ?_
            rotate_left
            · (obtain ⟨hSw1, hSw2, hSw3, hSw4⟩ := hSw; go_simp)
              try with_reducible rfl
            simp only [Act.put, List.setIfInBounds_toArray, List.set_cons_zero, List.set_cons_succ]
            refine take_list (i := 9) (v := ?_) rfl (by kernel_rfl) (by kernel_rfl) (by kernel_rfl) (fun _ _ _ h => h) (Or.inl ⟨by rfl, fun w hSw => ?_⟩) hHeld ?_
            rotate_left
            · (obtain ⟨hSw1, hSw2, hSw3, hSw4⟩ := hSw; go_simp)
              try with_reducible rfl
            simp only [Act.put, List.setIfInBounds_toArray, List.set_cons_zero, List.set_cons_succ]
            refine take_list (i := 10) (v := ?_) rfl (by kernel_rfl) (by kernel_rfl) (by kernel_rfl) (fun _ _ _ h => h) (Or.inl ⟨by rfl, fun w hSw => ?_⟩) hHeld ?_
            rotate_left
            · (obtain ⟨hSw1, hSw2, hSw3, hSw4⟩ := hSw; go_simp)
              try with_reducible rfl
            simp only [Act.put, List.setIfInBounds_toArray, List.set_cons_zero, List.set_cons_succ]
            refine wpAnyH_done (by kernel_rfl) ?_ _
            refine NoPanic.normal ?_
            clear hHeld
            have hcg := HCg.out
            go_wp2_with fail
            go_loopw [82] (fun j wr' => ∃ k : Nat, j = .int .i64 k ∧ k ≤ nb ∧ (∃ b' : Blk, wr'.ownsRow W.heap.size 5 1 (.slice oag nb cg) nb (cellsB b')) ∧ Chg (fun x => (Value.slice oag nb cg).ownBlock = some x) wr wr') (fun j _ => nb - (intOf j).toNat)
            · exact ⟨0, rfl, Nat.zero_le _, ⟨b, row_kept HRow.out ((Chg.refl (fun _ => False) wr).drew) (fun _ _ h => h)⟩, (Chg.refl _ _).drew⟩
            clear hcg
            obtain ⟨k, rfl, hk, ⟨b', hb'⟩, hc'⟩ := hrel
            have HC' := Lib.hid hc'
            have hcg := hc'.cell HCg.out (fun e => HGo.out _ e rfl)
            have hlt' : i < M := hlt
            by_cases hltk : k < nb
            · have hkk : (k : Int) < (nb : Int) := by omega
              obtain ⟨gg, c, rfl, hcc, hzz, hbg, hbg2, hnext⟩ := inc_at hb' hltk
              have HNext := Lib.hid hnext
              clear hb' hc' hnext
              go_wp2_with fail
              refine ⟨⟨k + 1, by go_num, hltk, ⟨_, HNext.out _ (by first | exact inc_wrap _ | exact inc_mod _)⟩, HC'.out.setCell (p := ⟨gg, k, none⟩) (fun _ => rfl) _⟩, meas_step hltk⟩
            · have hkk : ¬ (k : Int) < (nb : Int) := by omega
              clear hb' hc'
              go_wp2_with fail
              refine ⟨⟨i + 1, by go_num, hlt', row_kept HRo.out HC'.out (fun x hx e => ?_), fun t g b ht hg hb => row_kept (HRg.out t g b (by omega) hg hb) HC'.out (fun x hx e => ?_), HC.out.trans' (HC'.out.mono (fun x _ e => HOwn.out x e))⟩, meas_step hlt'⟩
              · cases hx; exact HGo.out _ e rfl
              · rcases HGa.out i t _ _ (by omega) Hg.out hg with h | h
                · rw [h] at e; cases e
                · exact h (by rw [e, hx])
          · have hii : ¬ (i : Int) < (M : Int) := by omega
            go_wp2_with fail
            go_loopw [13] (fun j wr => j = .int .i64 0 ∧ Chg (fun _ => False) W wr) (fun _ _ => 0)
            · exact ⟨rfl, HCW.out⟩
            obtain ⟨rfl, hcz⟩ := hrel
            have HCz := Lib.hid hcz
            clear hcz
            by_cases hl : 0 < acts.length
            · have hli : (0 : Int) < (acts.length : Int) := by omega
              clear hl
              obtain ⟨wm, hm, ho, hcm⟩ := made_u8 wr 64 (by omega)
              have hm' : (Instr.makeSlice 68 (.int .i64 64) (.int .i64 64)).run Try.prog wr = .ok (.slice (some ⟨wr.heap.size, 0, none⟩) 64 64) wm := hm
              obtain ⟨ho1, ho2⟩ := one_args wr wm ho
              have HO1 := Lib.hid ho1
              have HO2 := Lib.hid ho2
              have HCm := Lib.hid hcm
              clear hm ho hcm ho1 ho2
              go_wp2_with (first
                | (go_at_call 43; refine (of_64 (L := [zeroBlk]) _ rfl HO1.out HO2.out (by decide) (by decide) (by intro b hb; rw [List.mem_singleton.1 hb]; rfl)).mono ?_; rintro e w7 ⟨d7, rfl, hx7, hc7⟩; have HX7 := Lib.hid hx7; have HC7 := Lib.hid hc7; clear hx7 hc7)
                | (go_at_call 47; refine (blocks_any _ (HX7.out)).mono ?_; rw [show ((DV.ofK [zeroBlk] ([zeroBlk] : List Blk).length).B.length : Int) = 1 from rfl]; rintro e w8 ⟨rfl, rfl⟩)
                | (go_at_call 46; refine (same_any _ ((HD.out.fresh HCm.out).fresh (((Chg.refl (fun _ => False) wm).alloc _).trans' HC7.out)) HL.out (by omega)).mono ?_; rintro e w9 ⟨rfl, hc9⟩; have HC9 := Lib.hid hc9; clear hc9))
              go_ret
              exact ⟨rfl, (HCz.out.trans' HCm.out).trans' (((Chg.refl (fun _ => False) wm).alloc _).trans' HC7.out)⟩
            · have hli : ¬ (0 : Int) < (acts.length : Int) := by omega
              clear hl
              obtain ⟨wm, hm, ho, hcm⟩ := made_u8 wr 64 (by omega)
              have hm' : (Instr.makeSlice 68 (.int .i64 64) (.int .i64 64)).run Try.prog wr = .ok (.slice (some ⟨wr.heap.size, 0, none⟩) 64 64) wm := hm
              obtain ⟨ho1, ho2⟩ := one_args wr wm ho
              have HO1 := Lib.hid ho1
              have HO2 := Lib.hid ho2
              have HCm := Lib.hid hcm
              clear hm ho hcm ho1 ho2
              go_wp2_with (first
                | (go_at_call 43; refine (of_64 (L := [zeroBlk]) _ rfl HO1.out HO2.out (by decide) (by decide) (by intro b hb; rw [List.mem_singleton.1 hb]; rfl)).mono ?_; rintro e w7 ⟨d7, rfl, hx7, hc7⟩; have HX7 := Lib.hid hx7; have HC7 := Lib.hid hc7; clear hx7 hc7)
                | (go_at_call 47; refine (blocks_any _ (HX7.out)).mono ?_; rw [show ((DV.ofK [zeroBlk] ([zeroBlk] : List Blk).length).B.length : Int) = 1 from rfl]; rintro e w8 ⟨rfl, rfl⟩)
                | (go_at_call 46; refine (same_any _ ((HD.out.fresh HCm.out).fresh (((Chg.refl (fun _ => False) wm).alloc _).trans' HC7.out)) HL.out (by omega)).mono ?_; rintro e w9 ⟨rfl, hc9⟩; have HC9 := Lib.hid hc9; clear hc9))
              go_ret
              exact ⟨rfl, (HCz.out.trans' HCm.out).trans' (((Chg.refl (fun _ => False) wm).alloc _).trans' HC7.out)⟩

set_option maxRecDepth 100000 in
theorem lifted (os : Os) (started : os.Started) (H : Type) (enc : TypeId × Value → H) :
    ReturnsInHanded {} Try.checked os 12 .any (Rows.diskOfSpec.pre6 enc Try.prog Try.f12 [] false) (Rows.diskOfSpec.post enc Try.prog Try.f12 false true false false) := by
  refine law_handed (C := Try.checked) (tb := 4) own started (by kernel_rfl) Try.func12
    (ChangeSpec.witness6 (enc := enc) (C := Try.checked) false ⟨#[], #[.slice none 0 0, .slice none 0 0], []⟩ 8 (by kernel_rfl) (by kernel_rfl) (by kernel_rfl) (by kernel_rfl))
    laidOut (by rw [show Try.checked.prog = Try.prog from rfl, Try.params12]; intro t ht; simp at ht; rcases ht with rfl | rfl <;> exact ⟨by kernel_rfl, of_decide_eq_true (by kernel_rfl)⟩) rfl rfl Try.underlying4 ?_ ?_
  · intro ds hds
    rw [Try.params12] at hds
    match ds, hds with
    | [_, _], _ => rfl
  · intro W base args ds before hval0 hA0 _ hsz0
    have hval : ∀ (j : Nat) t v, Try.f12.params[j]? = some t → args[j]? = some v → Value.okWide Try.prog W .any base t v := hval0
    have hA : DataW.TrodAll enc Try.prog W 0 (fun _ => true) true Try.f12.params.toList args.toList ds before := hA0
    rw [Try.params12] at hA hval
    have hsz : (DataW.weightsEach Try.prog Try.f12.params.toList ds).all (· ≤ reachBytes) = true := hsz0
    rw [Try.params12] at hsz
    obtain ⟨v0, vs0, d0, ds0, p0, q0, hargs, rfl, rfl, h0, r0⟩ := trodAll_cons hA
    obtain ⟨v1, vs1, d1, ds1, p1, q1, rfl, rfl, rfl, h1, r1⟩ := trodAll_cons r0
    obtain ⟨rfl, rfl, rfl⟩ := trodAll_nil r1
    obtain rfl : args = #[v0, v1] := by cases args; simp_all
    obtain ⟨oa0, cap0, gs0, L0, rfl, hlc0, hcm0, hby0, hgl0, hsl0, hea0⟩ := open_image (hval 0 62 v0 rfl rfl) h0 (fun n hn => by have := List.all_eq_true.1 hsz n (weightsEach_mem (i := 0) rfl rfl n hn); simpa using this)
    obtain ⟨oa1, l1, cap1, rfl, -, -, g1, ok1⟩ := open_acts_sized (hval 1 54 v1 rfl rfl) h1 (fun n hn => by have := List.all_eq_true.1 hsz n (weightsEach_mem (i := 1) rfl rfl n hn); simpa using this)
    exact walk W oa0 cap0 gs0 L0 hlc0 hcm0 hby0 hgl0 hsl0 hea0 oa1 cap1 l1 g1 ok1

theorem over : Rows.diskOfRow.holds Try.pinned (OpenSpec.ofChange Rows.diskOfSpec) :=
  OpenClaim.holds_of_wide 12 Try.f12 rfl rfl rfl rfl rfl rfl rfl ⟨rfl, rfl, rfl, rfl, rfl⟩ rfl rfl rfl rfl rfl (by kernel_rfl) Try.func12 (by kernel_rfl)
    (of_decide_eq_true (by kernel_rfl)) (by unfold Func.isWrapper; first | (rw [if_pos (by decide +kernel)]; kernel_rfl) | (rw [if_neg (by decide +kernel)]; exact ⟨rfl, rfl⟩))
    (fun os started H enc _ => lifted os started H enc)

theorem proved : Rows.DiskOfSaid := over
#print axioms proved


end Go.Proofs.Ytomceindibnpnaa.diskOf

/-
  WalAgain, whole: for every call the law returns true and changes nothing that was there. No condition.
-/
import Derived.Test.YtcfgcllphfooaaaPkAa
import Derived.Test.YtcfgcllphfooaaaPkAm
import Derived.Test.YtcfgcllphfooaaaPx0WalAgain
import Derived.Test.YtcfgcllphfooaaaRows

section
set_option linter.unusedSimpArgs false
set_option linter.unusedVariables false
namespace Go.Proofs.Ytcfgcllphfooaaa.walAgain
open Go.ChangeShapes Go.WideShapes Go.ChangeAt Go.RowKit Go.My Go.Deep wals disks bufs

theorem laidOut : laidOutB Try.prog = true := by kernel_rfl
theorem own : ownKnob Try.prog.godebug = none := by kernel_rfl

theorem cells_two : Try.prog.cellsOf 70 = 2 := by kernel_rfl
set_option maxRecDepth 100000 in
theorem open_two_ints {H : Type} {enc : TypeId × Value → H} {W : World} {v : Value} {d : DataW H} {ps : List MemPlace} {r : Reach} {b0 : Nat}
    (hv : Value.okWide Try.prog W r b0 70 v) (h : DataW.Trod enc Try.prog W 0 (fun _ => true) true 70 v d ps) :
    ∃ a b : Int, v = .agg #[.int .i64 a, .int .i64 b] ∧ inR a ∧ inR b := by
  obtain ⟨fuel, hf⟩ := h
  obtain ⟨xs, k, _, _, hlen, hxs, hx⟩ := DataW.trod_array Try.underlying70 hf
  rw [cells_two] at hlen
  have g0 := hx 0 (by omega)
  have g1 := hx 1 (by omega)
  rw [List.getElem?_eq_getElem (by omega), cells_int] at g0 g1
  obtain ⟨a, e0, _, wa⟩ := DataW.trod_int Try.underlying3 g0
  obtain ⟨b, e1, _, wb⟩ := DataW.trod_int Try.underlying3 g1
  refine ⟨a, b, ?_, wf_inR wa, wf_inR wb⟩
  have hv' := hv
  simp only [Value.okWide, Try.underlying70] at hv'
  obtain ⟨cs, rfl, h2, _⟩ := hv'
  rw [cells_two] at h2
  obtain ⟨l, hl⟩ : ∃ l, cs.toList = l := ⟨_, rfl⟩
  have hc : (Value.agg cs).cells.toList = l := by simpa [Value.cells] using hl
  rw [hc] at e0 e1
  have hll : l.length = 2 := by rw [← hl, Array.length_toList, h2]
  match l, hll with
  | [x, y], _ =>
    simp at e0 e1
    subst e0 e1
    congr 1
    exact Array.toList_inj.1 hl

set_option maxRecDepth 100000 in
/-- A slice of slices of numbers. -/
theorem open_keeps {H : Type} {enc : TypeId × Value → H} {W : World} {v : Value} {d : DataW H} {ps : List MemPlace} {r : Reach} {b0 : Nat}
    (hv : Value.okWide Try.prog W r b0 71 v) (h : DataW.Trod enc Try.prog W 0 (fun _ => true) true 71 v d ps) :
    ∃ gs : List Value, SlAt W v gs ∧ ∀ g ∈ gs, ∃ zs : List Int, SlAt W g (zs.map (Value.int .i64)) ∧ ∀ z ∈ zs, inR z := by
  obtain ⟨oa, l, cap, rfl, h1, h2, h3, h4⟩ := open_rows Try.underlying71 cells_ints (by omega) hv h
  have h5 : ∃ gs : List Value, l = gs.map (fun g => [g]) ∧ ∀ g ∈ gs, ∃ zs : List Int, SlAt W g (zs.map (Value.int .i64)) ∧ ∀ z ∈ zs, inR z := by
    clear h1 h2 h3 hv h
    induction l with
    | nil => exact ⟨[], rfl, by simp⟩
    | cons x l ih =>
      obtain ⟨gs, rfl, hg⟩ := ih (fun y hy => h4 y (by simp [hy]))
      obtain ⟨fuel, y, hy⟩ := h4 x (by simp)
      obtain ⟨oa', l', cap', e', -, -, h3', h4'⟩ := open_rows_trod Try.underlying63 cells_int (by omega) hy
      obtain ⟨zs, rfl, hz⟩ := trod_ints Try.underlying3 h4'
      have := h3'.flat cap'
      rw [flat_one] at this
      refine ⟨.slice oa' (zs.map (Value.int .i64)).length cap' :: gs, by rw [e']; simp, fun g hgm => ?_⟩
      rcases List.mem_cons.1 hgm with rfl | hgm
      · refine ⟨zs, ?_, fun z hm => wf_inR (hz z hm)⟩
        simpa using this
      · exact hg g hgm
  obtain ⟨gs, rfl, hg⟩ := h5
  refine ⟨gs, ?_, hg⟩
  have := h3.flat cap
  rw [flat_one] at this
  simpa using this

/-- What is found on a disk: these records, or (none at all) nothing that was ever laid. -/
def Sm (X : DV) (R : List Blk) : Prop := (Blank X ∧ R = []) ∨ ∃ s a, s ≤ 200 ∧ Stands X R s a

theorem Sm.crash {X : DV} {R : List Blk} (h : Sm X R) (keep : List Int) : Sm (X.crash keep) R :=
  h.imp (fun h => ⟨h.1.crash keep, h.2⟩) (fun ⟨s, a, h1, h2⟩ => ⟨s, a, h1, h2.crash keep⟩)
theorem Sm.set {X : DV} {R : List Blk} (h : Sm X R) (n : Int) : Sm (X.set n) R :=
  h.imp (fun h => ⟨⟨(h.1.idle.set n).1, by rw [(h.1.idle.set n).2]; exact h.1.x, by rw [(h.1.idle.set n).2]; exact h.1.y⟩, h.2⟩) (fun ⟨s, a, h1, h2⟩ => ⟨s, a, h1, h2.same (h2.idle.set n).1 (h2.idle.set n).2⟩)
theorem Sm.idle {X : DV} {R : List Blk} (h : Sm X R) : Idle X := h.elim (fun h => h.1.idle) (fun ⟨_, _, _, h⟩ => h.idle)

variable {w w' W : World} {l d : Nat} {P : Nat → Prop} {X : DV} {R : List Blk}

theorem open_ok (h : DAt P W w d X) (hs : Sm X R) (hf : X.fuse = -1) :
    Calls Try.prog 10 #[.pointer (some ⟨d, 0, none⟩)] w fun e w' => ∃ l X' s a, e = .returned (.tuple #[.pointer (some ⟨l, 0, none⟩), .int .i64 0]) ∧ WAt P W w' l d X' (lvW R s a []) ∧ Stands X' R s a := by
  rcases hs with ⟨hb, rfl⟩ | ⟨s, a, h1, h2⟩
  · refine (wat_open_new h hb hf).mono ?_
    rintro e w' ⟨l, X', rfl, h1, h2, -, -⟩
    exact ⟨l, X', 1, 0, rfl, h1, h2⟩
  · refine (wat_open h h2 (by omega) (by omega)).mono ?_
    rintro e w' ⟨l, rfl, h1⟩
    exact ⟨l, X, s, a, rfl, h1, h2⟩

theorem open_cut (h : DAt P W w d X) (hs : Sm X R) (hf : X.fuse ≤ 9223372036854775807) :
    Calls Try.prog 10 #[.pointer (some ⟨d, 0, none⟩)] w fun e w' => ∃ p c X', e = .returned (.tuple #[.pointer p, .int .i64 c]) ∧ DAt P W w' d X' ∧ (∀ j, (X'.L j).length ≤ 1) ∧ ∀ keep, Sm (X'.crash keep) R := by
  rcases hs with ⟨hb, rfl⟩ | ⟨s, a, h1, h2⟩
  · refine (dat_open_blank h hb hf).mono ?_
    rintro e w' (⟨l, X', rfl, h1, h2, -, -⟩ | ⟨X', rfl, h1, -, -, -, h2, h3⟩)
    · exact ⟨_, _, X', rfl, h1.disk, fun j => by rw [h2.idle.L]; simp, fun keep => Or.inr ⟨1, 0, by omega, h2.crash keep⟩⟩
    · exact ⟨_, _, X', rfl, h1, h2, fun keep => (h3 keep).elim (fun h => Or.inl ⟨h, rfl⟩) (fun h => Or.inr ⟨1, 0, by omega, h⟩)⟩
  · refine (wat_open h h2 (by omega) hf).mono ?_
    rintro e w' ⟨l, rfl, h3⟩
    exact ⟨_, _, X, rfl, h3.disk, fun j => by rw [h2.idle.L]; simp, fun keep => Or.inr ⟨s, a, h1, h2.crash keep⟩⟩


theorem act_ok_kept {a : WAct} (h : a.ok W) (hc : Chg (fun _ => False) W w) : a.ok w := ⟨h.rv.kept hc, h.kv.kept hc, h.rl, h.kl, h.n, h.kz⟩

set_option maxRecDepth 100000 in
set_option maxHeartbeats 4000000 in
theorem walk (W : World) (oaA : Option Addr) (capA : Nat) (acts : List WAct) (hr : RowsAt W 5 oaA (acts.map WAct.row)) (hok : ∀ a ∈ acts, a.ok W) (z y : Int) (_ : inR z) (_ : inR y) (kv : Value) (gs : List Value) (hkv : SlAt W kv gs) (hks : ∀ g ∈ gs, ∃ zs : List Int, SlAt W g (zs.map (Value.int .i64)) ∧ ∀ z ∈ zs, inR z) :
    Calls Try.prog 8 #[.slice oaA acts.length capA, .agg #[.int .i64 z, .int .i64 y], kv] W fun e w' => e = .returned (.bool true) ∧ Chg (fun _ => False) W w' := by
  obtain ⟨n, hn1, hw1, hw2⟩ := mod_60 z
  obtain ⟨f, hf1, hw3, hw4⟩ := mod_4 y
  obtain ⟨oak, capk, rfl, q2, q3⟩ := hkv
  have HKv := Lib.hid (show SlAt W (.slice oak gs.length capk) gs from ⟨oak, capk, rfl, q2, q3⟩)
  have HKs := Lib.hid hks
  have HWk := Lib.hid works_any
  have hc0 : Chg (fun _ => False) W (W.alloc (.cells #[.int .i64 z, .int .i64 y] 70)) := (Chg.refl _ _).alloc _
  have HRr := Lib.hid (And.intro hr (And.intro hok hn1))
  have HF := Lib.hid hf1
  clear hr hok hn1 q2 q3 hks hf1
  go_enter Try.func8, Try.ntmps8
  go_wp2_with fail
  go_region
  go_wp2_with (first
    | (go_at_call 26; fail))
  obtain ⟨w0, hw0⟩ : ∃ w0, (W.alloc (.cells #[.int .i64 z, .int .i64 y] 70)).drew = w0 := ⟨_, rfl⟩
  first | rw [hw0] | skip
  have hc0 : Chg (fun _ => False) W w0 := by rw [← hw0]; exact hc0.drew
  have HC0 := Lib.hid hc0
  have hrun := run_any w0 oaA capA acts (HRr.out.1.kept hc0 (fun _ _ h => h)) (fun a ha => act_ok_kept (HRr.out.2.1 a ha) hc0) n HRr.out.2.2
  clear hw0
  refine hrun.mono ?_
  rintro e w1 ⟨P, d, X, had, next, hv, nv, rfl, hd, hkh, hkn, hnew, hran, hlen, hc1⟩
  obtain ⟨oah, nh, caph, rfl⟩ : ∃ oa n cap, hv = .slice oa n cap := by
    obtain ⟨oa, cap, e, -⟩ := hkh.at' _ (Chg.refl _ _)
    exact ⟨oa, _, cap, e⟩
  obtain ⟨oan, nn, capn, rfl⟩ : ∃ oa n cap, nv = .slice oa n cap := by
    obtain ⟨oa, cap, e, -⟩ := hkn.at' _ (Chg.refl _ _)
    exact ⟨oa, _, cap, e⟩
  have hsm : ∃ R, Sm (X.crash []) R := (hran.2 []).elim (fun h => ⟨[], Or.inl ⟨h.1, rfl⟩⟩) (fun ⟨s, a, h1, h2⟩ => h2.elim (fun h => ⟨_, Or.inr ⟨s, a, by omega, h⟩⟩) (fun h => ⟨_, Or.inr ⟨s, a, by omega, h⟩⟩))
  obtain ⟨R, hsm⟩ := hsm
  have hc2 : Chg (fun _ => False) w1 (w1.alloc (.cells #[.pointer (some ⟨d, 0, none⟩), .slice oah nh caph, .slice oan nn capn] 65)) := (Chg.refl _ _).alloc _
  obtain ⟨w2, hw2e⟩ : ∃ w2, w1.alloc (.cells #[.pointer (some ⟨d, 0, none⟩), .slice oah nh caph, .slice oan nn capn] 65) = w2 := ⟨_, rfl⟩
  have b9 : Arr w2 w1.heap.size 65 [.pointer (some ⟨d, 0, none⟩), .slice oah nh caph, .slice oan nn capn] := by rw [← hw2e]; exact at1
  rw [hw2e] at hc2
  have hd2 := hd.rest hc2
  have HCr := Lib.hid (wat_crash (keep := []) hd2 (v := .slice none 0 0) ⟨none, 0, rfl, fun h => absurd rfl h, by simp⟩ (fun h => absurd rfl h) (by simp) (fun j => by have := hran.1 j; omega))
  have hcW2 : Chg (fun _ => False) W w2 := hc0.trans' (hc1.trans' hc2)
  have HC2 := Lib.hid hcW2
  have HB9 := Lib.hid b9
  have HNew := Lib.hid (show ∀ k, NowP P w1 w1 k → W.heap.size ≤ k ∧ k < w1.heap.size from fun k hk => ⟨hk.1.elim (fun h => Nat.le_trans hc0.size (hnew k h)) (fun h => by have := hc0.size; have := hc1.size; omega), hk.2⟩)
  have HSm := Lib.hid hsm
  have c0 : w2.cell? ⟨w1.heap.size, 0, none⟩ = some (.pointer (some ⟨d, 0, none⟩)) := b9.cell rfl
  have l9 : w1.heap.size < w2.heap.size := b9.lt
  have HL9 := Lib.hid l9
  clear hd hkh hkn hnew hran hlen hc0 hc1 hc2 b9 hd2 hcW2 hsm hrun HRr hw1 hw2 hw3 hw4
  dsimp only
  go_wp2_with (first
    | (go_at_call 27; fail))
  refine HCr.out.mono ?_
  rintro e w3 ⟨rfl, hd3⟩
  have b93 : Arr w3 w1.heap.size 65 [.pointer (some ⟨d, 0, none⟩), .slice oah nh caph, .slice oan nn capn] := hd3.chg.at HB9.out (fun h => by have := (HNew.out _ h).2; omega)
  have k0 : w3.cell? ⟨w1.heap.size, 0, none⟩ = some (.pointer (some ⟨d, 0, none⟩)) := b93.cell rfl
  have hcp : Calls Try.prog 28 #[.pointer (some ⟨d, 0, none⟩)] w3 fun e w' => ∃ c, e = .returned (.pointer (some ⟨c, 0, none⟩)) ∧ DAt (fun _ => False) w3 w' c (X.crash []) := by
    obtain ⟨⟨Fd, ⟨bv, q, m, h1⟩, h2⟩, h3⟩ := hd3
    refine (copy_any w3 h1 (fun j => by rw [HSm.out.idle.L]; simp)).mono ?_
    rintro e w' ⟨c, rfl, k1, k2⟩
    exact ⟨c, rfl, ⟨_, k1, fun k hk => Or.inr hk.1⟩, k2⟩
  have HCp := Lib.hid hcp
  have HD3 := Lib.hid hd3
  have HB93 := Lib.hid b93
  clear c0 hcp hd3 b93 HCr HB9
  dsimp only
  go_wp2_with (first
    | (go_at_call 28; fail))
  refine HCp.out.mono ?_
  rintro e w4 ⟨c, rfl, hdc⟩
  have HO4 := Lib.hid (open_ok hdc HSm.out rfl)
  clear hdc HCp
  dsimp only
  go_wp2_with (first
    | (go_at_call 10; fail))
  refine HO4.out.mono ?_
  rintro e w5 ⟨l, X5, s5, a5, rfl, hat5, hst5⟩
  have hfew : R.length ≤ 131008 := by have h := hst5.fits; have h2 := sizeB_ge R; rw [framesB_length] at h; have := areaN_le hst5.idle.le; omega
  have HRe := Lib.hid (wat_records hat5 (by show R.length ≤ _; exact hfew))
  have HA5 := Lib.hid hat5
  have HFew := Lib.hid hfew
  clear hat5 hst5 hfew HO4
  dsimp only
  go_wp2_with (first
    | (go_at_call 17; fail))
  refine HRe.out.mono ?_
  rintro e w6 ⟨v6, rfl, ho6, hc6⟩
  have hc36 : Chg (fun _ => False) w3 w6 := HA5.out.chg.trans' hc6
  have hd6 := HD3.out.rest hc36
  obtain ⟨PD, hPD⟩ : ∃ PD, NowP (NowP P w1 w1) w2 w3 = PD := ⟨_, rfl⟩
  rw [hPD] at hd6
  have s35 := HA5.out.chg.size
  have hPl : ∀ k, PD k → k < w3.heap.size := fun k hk => by rw [← hPD] at hk; exact hk.2
  have hPw : ∀ k, PD k → W.heap.size ≤ k := fun k hk => by rw [← hPD] at hk; exact hk.1.elim (fun h => (HNew.out k h).1) (fun h => by have := HC2.out.size; omega)
  have hP9 : ¬ PD w1.heap.size := fun hk => by rw [← hPD] at hk; exact hk.1.elim (fun h => by have := (HNew.out _ h).2; omega) (fun h => by have := HL9.out; omega)
  have hkw : Kp PD w6 v6 R := Kp.of_own ho6 (fun g hg hP => by have := hPl g hP; omega)
  have hus : ∀ w', Chg PD w6 w' → Calls Try.prog 15 #[.pointer (some ⟨l, 0, none⟩)] w' fun e w'' => e = .returned (.int .i64 ((framesB R).length : Int)) ∧ w' = w'' := by
    intro w' hc
    obtain ⟨⟨F, Fd, h1, h2⟩, -⟩ := HA5.out.fresh hc6
    have h1' := h1.kept hc (fun k hk hP => by
      have := hPl k hP
      rcases h2 k hk with h | h
      · exact h
      · omega)
    exact used_any w' h1'
  have b96 : Arr w6 w1.heap.size 65 [.pointer (some ⟨d, 0, none⟩), .slice oah nh caph, .slice oan nn capn] := hc36.at HB93.out id
  have hcW6 : Chg (fun _ => False) W w6 := (chg_more HC2.out HD3.out.chg (fun k hk => Or.inr (HNew.out k hk).1)).trans' hc36
  obtain ⟨oa6, cap6, rfl⟩ := own_slice ho6
  have HD6 := Lib.hid hd6
  have HPw := Lib.hid (And.intro hPw hP9)
  have HKw := Lib.hid hkw
  have HUs := Lib.hid hus
  have hb96 : w6.cell? ⟨w1.heap.size, 0, none⟩ = some (.pointer (some ⟨d, 0, none⟩)) := b96.cell rfl
  have HB6 := Lib.hid hb96
  have HW6 := Lib.hid hcW6
  have hlr : (lvW R s5 a5 []).recs.length = R.length := rfl
  obtain ⟨nR, hnR⟩ : ∃ nR, (lvW R s5 a5 []).recs.length = nR := ⟨_, rfl⟩
  rw [hnR] at HKw
  clear hc36 hd6 hPD s35 hPl hPw hP9 hkw hus b96 hb96 hcW6 ho6 hc6 hlr HRe HA5 HD3 HB93 HNew HL9 k0
  rw [hnR]
  clear hnR
  dsimp only
  go_wp2_with fail
  go_loopw [15] (fun i wr => ∃ (k : Nat) (X : DV), i = .int .i64 k ∧ k ≤ 5 ∧ k ≤ gs.length ∧ DAt PD w6 wr d X ∧ Sm X R ∧ X.fuse = -1) (fun i _ => 5 - (intOf i).toNat)
  · exact ⟨0, _, rfl, by omega, Nat.zero_le _, HD6.out, HSm.out, rfl⟩
  clear HD6 HSm
  obtain ⟨k, X, rfl, hk5, hkl, hd, hsm, hfu⟩ := hrel
  have HD := Lib.hid hd
  have HS := Lib.hid (And.intro hsm hfu)
  have c0 : wr.cell? ⟨w1.heap.size, 0, none⟩ = some (.pointer (some ⟨d, 0, none⟩)) := hd.chg.cell HB6.out HPw.out.2
  clear hd hsm hfu
  by_cases hlt : k < gs.length ∧ k < 5
  · obtain ⟨hl1, hl2⟩ := hlt
    have j1 : (k : Int) < (gs.length : Int) := by omega
    have j2 : (k : Int) < 5 := by omega
    have hf := dat_fuse HD.out (f : Int)
    have hfc : fuseC X (f : Int) = 0 := by
      unfold fuseC
      rw [HS.out.1.idle.up, if_neg (by decide), if_neg (by omega)]
    have hset : (X.set (f : Int)).fuse = (f : Int) := by
      unfold DV.set
      rw [if_neg (fun h => h.elim (fun h => by rw [HS.out.1.idle.up] at h; cases h) (fun h => by omega))]
    rw [hfc] at hf
    have HFu := Lib.hid hf
    have HSet := Lib.hid hset
    obtain ⟨g, hg⟩ : ∃ g, gs[k]? = some g := ⟨gs[k], List.getElem?_eq_getElem hl1⟩
    obtain ⟨zs, hz1, hz2⟩ := HKs.out g (List.mem_of_getElem? hg)
    obtain ⟨oag, capg, rfl, hz3, hz4⟩ := hz1
    rw [List.length_map] at *
    have HZ := Lib.hid (show SlAt W (.slice oag zs.length capg) (zs.map (Value.int .i64)) from ⟨oag, capg, by rw [List.length_map], hz3, hz4⟩)
    have HZ2 := Lib.hid hz2
    have HGk := Lib.hid hg
    clear hf hfc hset hz2 hz3 hz4 hg
    go_wp2_with (first
      | (go_at_call 29; fail))
    refine HFu.out.mono ?_
    rintro e w7 ⟨rfl, hd7⟩
    have k0 : w7.cell? ⟨w1.heap.size, 0, none⟩ = some (.pointer (some ⟨d, 0, none⟩)) := hd7.chg.cell HB6.out HPw.out.2
    have HO7 := Lib.hid (open_cut hd7 (HS.out.1.set f) (by rw [HSet.out]; have := HF.out; omega))
    clear hd7 HFu c0
    dsimp only
    go_wp2_with (first
      | (go_at_call 10; fail))
    refine HO7.out.mono ?_
    rintro e w8 ⟨p, cc, X8, rfl, hd8, hL8, hs8⟩
    have hd8 := hd8.fresh (Chg.refl (fun _ => False) w8).drew
    have m0 : w8.drew.cell? ⟨w1.heap.size, 0, none⟩ = some (.pointer (some ⟨d, 0, none⟩)) := hd8.chg.cell HB6.out HPw.out.2
    have hcW8 : Chg (fun _ => False) W w8.drew := chg_more HW6.out hd8.chg (fun k hk => Or.inr (HPw.out.1 k hk))
    obtain ⟨gk, offk, hoak, -, hcellk⟩ := SlAt.cell (HKv.out.kept hcW8) hl1
    have hcellk' : w8.drew.cell? ⟨gk, offk + k, none⟩ = some (.slice oag zs.length capg) := by
      rw [hcellk]
      have := (List.getElem?_eq_some_iff.1 HGk.out).2
      rw [this]
    subst hoak
    have HCr := Lib.hid (wat_crash hd8 (HZ.out.kept hcW8) (fun hne g hg => by
      have hgW := slat_old HZ.out (by intro e; exact hne (by cases zs with | nil => rfl | cons => simp at e)) hg
      exact ⟨fun h => by have := HPw.out.1 g h; omega, by have := HW6.out.size; omega⟩) HZ2.out (fun j => by have := hL8 j; omega))
    have HS8 := Lib.hid hs8
    clear hd8 hL8 hs8 hcW8 hcellk k0 HO7
    dsimp only
    go_wp2_with fail
    refine wp_region_noPanic ?_
    refine wp_region_held_drew (S := (fun w' => w'.cell? ⟨w1.heap.size, 0, none⟩ = some (.pointer (some ⟨d, 0, none⟩)) ∧ w'.cell? ⟨gk, offk + k, none⟩ = some (.slice oag zs.length capg))) (by kernel_rfl) (⟨m0, hcellk'⟩) (fun hHeld => ?_)
    refine take_list (i := 0) (v := ?_) rfl (by kernel_rfl) (by kernel_rfl) (by kernel_rfl) (fun _ _ _ h => h) (Or.inl ⟨by rfl, fun w hSw => ?_⟩) hHeld ?_
    rotate_left
    · (obtain ⟨hSw1, hSw2⟩ := hSw; go_simp)
      try with_reducible rfl
    simp only [Act.put, List.setIfInBounds_toArray, List.set_cons_zero, List.set_cons_succ]
    refine take_list (i := 1) (v := ?_) rfl (by kernel_rfl) (by kernel_rfl) (by kernel_rfl) (fun _ _ _ h => h) (Or.inl ⟨by rfl, fun w hSw => ?_⟩) hHeld ?_
    rotate_left
    · (obtain ⟨hSw1, hSw2⟩ := hSw; go_simp)
      try with_reducible rfl
    simp only [Act.put, List.setIfInBounds_toArray, List.set_cons_zero, List.set_cons_succ]
    refine take_list (i := 2) (v := ?_) rfl (by kernel_rfl) (by kernel_rfl) (by kernel_rfl) (fun _ _ _ h => h) (Or.inl ⟨by rfl, fun w hSw => ?_⟩) hHeld ?_
    rotate_left
    · (obtain ⟨hSw1, hSw2⟩ := hSw; go_simp)
      try with_reducible rfl
    simp only [Act.put, List.setIfInBounds_toArray, List.set_cons_zero, List.set_cons_succ]
    refine take_list (i := 3) (v := ?_) rfl (by kernel_rfl) (by kernel_rfl) (by kernel_rfl) (fun _ _ _ h => h) (Or.inl ⟨by rfl, fun w hSw => ?_⟩) hHeld ?_
    rotate_left
    · (obtain ⟨hSw1, hSw2⟩ := hSw; go_simp)
      try with_reducible rfl
    simp only [Act.put, List.setIfInBounds_toArray, List.set_cons_zero, List.set_cons_succ]
    refine take_list (i := 4) (v := ?_) rfl (by kernel_rfl) (by kernel_rfl) (by kernel_rfl) (fun _ _ _ h => h) (Or.inl ⟨by rfl, fun w hSw => ?_⟩) hHeld ?_
    rotate_left
    · (obtain ⟨hSw1, hSw2⟩ := hSw; go_simp)
      try with_reducible rfl
    simp only [Act.put, List.setIfInBounds_toArray, List.set_cons_zero, List.set_cons_succ]
    refine take_list (i := 5) (v := ?_) rfl (by kernel_rfl) (by kernel_rfl) (by kernel_rfl) (fun _ _ _ h => h) (Or.inl ⟨by rfl, fun w hSw => ?_⟩) hHeld ?_
    rotate_left
    · (obtain ⟨hSw1, hSw2⟩ := hSw; go_simp)
      try with_reducible rfl
    simp only [Act.put, List.setIfInBounds_toArray, List.set_cons_zero, List.set_cons_succ]
    clear m0 hcellk'
    refine wpAnyH_ready (rs := [6]) (by kernel_rfl) (by simp) (one_list (i := 6) rfl (by rfl) (fun K hK => ?_) AllReadyH.nil)
    go_simp
    refine HCr.out.mono ?_
    rintro e w9 ⟨rfl, hd9⟩
    have HD9 := Lib.hid hd9
    have hcW9 : Chg (fun _ => False) W w9 := chg_more HW6.out hd9.chg (fun k hk => Or.inr (HPw.out.1 k hk))
    have q1 : w9.cell? ⟨w1.heap.size, 0, none⟩ = some (.pointer (some ⟨d, 0, none⟩)) := hd9.chg.cell HB6.out HPw.out.2
    have q2 : w9.cell? ⟨gk, offk + k, none⟩ = some (.slice oag zs.length capg) := by
      obtain ⟨b, off, hoak, -, hcellk⟩ := SlAt.cell (HKv.out.kept hcW9) hl1
      cases hoak
      rw [hcellk]
      have := (List.getElem?_eq_some_iff.1 HGk.out).2
      rw [this]
    clear hd9 hcW9
    dsimp only
    refine hK _ _ (⟨q1, q2⟩) (fun hH2 => ?_)
    try simp only [Act.put, List.setIfInBounds_toArray, List.set_cons_zero, List.set_cons_succ]
    clear q1 q2
    refine take_list (i := 7) (v := ?_) rfl (by kernel_rfl) (by kernel_rfl) (by kernel_rfl) (fun _ _ _ h => h) (Or.inl ⟨by rfl, fun w hSw => ?_⟩) hH2 ?_
    rotate_left
    · (skip; go_simp)
      try with_reducible rfl
    simp only [Act.put, List.setIfInBounds_toArray, List.set_cons_zero, List.set_cons_succ]
    refine wpAnyH_done (by kernel_rfl) ?_ _
    refine NoPanic.normal ?_
    go_wp2_with fail
    first
      | exact ⟨⟨k + 1, _, by go_num, by omega, by omega, HD9.out, HS8.out _, rfl⟩, by simp [intOf]; omega⟩
      | exact ⟨⟨_, _, _, _, _, _, _, _, _, _, _, _, _, _, _, _, _, _, _, _, _, _, _, _, _, ⟨k + 1, _, by go_num, by omega, by omega, HD9.out, HS8.out _, rfl⟩, rfl⟩, by simp [intOf]; omega⟩
  · have HO := Lib.hid (open_ok HD.out HS.out.1 HS.out.2)
    rcases Nat.lt_or_ge k gs.length with hl1 | hl1
    · have j1 : (k : Int) < (gs.length : Int) := by omega
      have j2 : ¬ (k : Int) < 5 := by omega
      go_wp2_with (first
        | (go_at_call 10; fail))
      refine HO.out.mono ?_
      rintro e w7 ⟨m, X7, s7, a7, rfl, hat7, -⟩
      have HA7 := Lib.hid hat7
      have HRe := Lib.hid (wat_records hat7 (by show R.length ≤ _; exact HFew.out))
      clear hat7 HO
      dsimp only
      go_wp2_with (first
        | (go_at_call 17; fail))
      refine HRe.out.mono ?_
      rintro e w8 ⟨v8, rfl, ho8, hc8⟩
      have HA8 := Lib.hid (HA7.out.fresh hc8)
      have HSa := Lib.hid (wat_yes ho8 HKw.out HA8.out.chg (by show R.length ≤ _; have := HFew.out; omega) rfl)
      obtain ⟨oa8, cap8, rfl⟩ := own_slice ho8
      clear ho8 hc8 HRe
      dsimp only
      go_wp2_with (first
        | (go_at_call 21; fail))
      refine HSa.out.mono ?_
      rintro e w9 ⟨rfl, hc9⟩
      have HA9 := Lib.hid (HA8.out.fresh hc9)
      obtain ⟨U, hU⟩ : ∃ U : Nat, (framesB R).length = U := ⟨_, rfl⟩
      have hu1 := wat_used HA9.out
      rw [show (lvW R s7 a7 []).used = U from hU] at hu1
      have hu2 := HUs.out _ HA9.out.chg
      rw [hU] at hu2
      have HU1 := Lib.hid hu1
      have HU2 := Lib.hid hu2
      clear hc9 HSa hU hu1 hu2
      dsimp only
      go_wp2_with (first
        | (go_at_call 15; first
            | (refine HU1.out.mono ?_; rintro e w' ⟨rfl, rfl⟩; clear HU1)
            | (refine HU2.out.mono ?_; rintro e w' ⟨rfl, rfl⟩))
        | (go_at_call 19; fail))
      refine (HWk.out _).mono ?_
      rintro e w10 ⟨rfl, hc10⟩
      have HC10 := Lib.hid (HA9.out.fresh hc10)
      clear hc10
      dsimp only
      go_wp2_with fail
      go_ret
      exact ⟨rfl, chg_more HW6.out HC10.out.chg (fun k hk => Or.inr (HPw.out.1 k hk))⟩
    · have j1 : ¬ (k : Int) < (gs.length : Int) := by omega
      go_wp2_with (first
        | (go_at_call 10; fail))
      refine HO.out.mono ?_
      rintro e w7 ⟨m, X7, s7, a7, rfl, hat7, -⟩
      have HA7 := Lib.hid hat7
      have HRe := Lib.hid (wat_records hat7 (by show R.length ≤ _; exact HFew.out))
      clear hat7 HO
      dsimp only
      go_wp2_with (first
        | (go_at_call 17; fail))
      refine HRe.out.mono ?_
      rintro e w8 ⟨v8, rfl, ho8, hc8⟩
      have HA8 := Lib.hid (HA7.out.fresh hc8)
      have HSa := Lib.hid (wat_yes ho8 HKw.out HA8.out.chg (by show R.length ≤ _; have := HFew.out; omega) rfl)
      obtain ⟨oa8, cap8, rfl⟩ := own_slice ho8
      clear ho8 hc8 HRe
      dsimp only
      go_wp2_with (first
        | (go_at_call 21; fail))
      refine HSa.out.mono ?_
      rintro e w9 ⟨rfl, hc9⟩
      have HA9 := Lib.hid (HA8.out.fresh hc9)
      obtain ⟨U, hU⟩ : ∃ U : Nat, (framesB R).length = U := ⟨_, rfl⟩
      have hu1 := wat_used HA9.out
      rw [show (lvW R s7 a7 []).used = U from hU] at hu1
      have hu2 := HUs.out _ HA9.out.chg
      rw [hU] at hu2
      have HU1 := Lib.hid hu1
      have HU2 := Lib.hid hu2
      clear hc9 HSa hU hu1 hu2
      dsimp only
      go_wp2_with (first
        | (go_at_call 15; first
            | (refine HU1.out.mono ?_; rintro e w' ⟨rfl, rfl⟩; clear HU1)
            | (refine HU2.out.mono ?_; rintro e w' ⟨rfl, rfl⟩))
        | (go_at_call 19; fail))
      refine (HWk.out _).mono ?_
      rintro e w10 ⟨rfl, hc10⟩
      have HC10 := Lib.hid (HA9.out.fresh hc10)
      clear hc10
      dsimp only
      go_wp2_with fail
      go_ret
      exact ⟨rfl, chg_more HW6.out HC10.out.chg (fun k hk => Or.inr (HPw.out.1 k hk))⟩

set_option maxRecDepth 100000 in
theorem lifted (os : Os) (started : os.Started) (H : Type) (enc : TypeId × Value → H) :
    ReturnsInHanded {} Try.checked os 8 .any (Rows.walAgainSpec.pre6 enc Try.prog Try.f8 [] false) (Rows.walAgainSpec.post enc Try.prog Try.f8 false true false false) := by
  refine law_handed (C := Try.checked) (tb := 4) own started (by kernel_rfl) Try.func8
    (ChangeSpec.witness6 (enc := enc) (C := Try.checked) false ⟨#[], #[.slice none 0 0, .agg #[.int .i64 0, .int .i64 0], .slice none 0 0], []⟩ 8 (by kernel_rfl) (by kernel_rfl) (by kernel_rfl) (by kernel_rfl))
    laidOut (by rw [show Try.checked.prog = Try.prog from rfl, Try.params8]; intro t ht; simp at ht; rcases ht with rfl | rfl | rfl <;> exact ⟨by kernel_rfl, of_decide_eq_true (by kernel_rfl)⟩) rfl rfl Try.underlying4 ?_ ?_
  · intro ds hds
    rw [Try.params8] at hds
    match ds, hds with
    | [_, _, _], _ => rfl
  · intro W base args ds before hval0 hA0 _ hsz0
    have hval : ∀ (j : Nat) t v, Try.f8.params[j]? = some t → args[j]? = some v → Value.okWide Try.prog W .any base t v := hval0
    have hA : DataW.TrodAll enc Try.prog W 0 (fun _ => true) true Try.f8.params.toList args.toList ds before := hA0
    rw [Try.params8] at hA hval
    have hsz : (DataW.weightsEach Try.prog Try.f8.params.toList ds).all (· ≤ reachBytes) = true := hsz0
    rw [Try.params8] at hsz
    obtain ⟨v0, vs0, d0, ds0, p0, q0, hargs, rfl, rfl, h0, r0⟩ := trodAll_cons hA
    obtain ⟨v1, vs1, d1, ds1, p1, q1, rfl, rfl, rfl, h1, r1⟩ := trodAll_cons r0
    obtain ⟨v2, vs2, d2, ds2, p2, q2, rfl, rfl, rfl, h2, r2⟩ := trodAll_cons r1
    obtain ⟨rfl, rfl, rfl⟩ := trodAll_nil r2
    obtain rfl : args = #[v0, v1, v2] := by cases args; simp_all
    obtain ⟨oa0, l0, cap0, rfl, -, -, g0, ok0⟩ := open_acts10 (hval 0 62 v0 rfl rfl) h0 (fun n hn => by have := List.all_eq_true.1 hsz n (weightsEach_mem (i := 0) rfl rfl n hn); simpa using this)
    obtain ⟨a1, b1, rfl, za1, zb1⟩ := open_two_ints (hval 1 70 v1 rfl rfl) h1
    obtain ⟨gs2, s2, z2⟩ := open_keeps (hval 2 71 v2 rfl rfl) h2
    exact walk W oa0 cap0 l0 g0 ok0 a1 b1 za1 zb1 v2 gs2 s2 z2

theorem over : Rows.walAgainRow.holds Try.pinned (OpenSpec.ofChange Rows.walAgainSpec) :=
  OpenClaim.holds_of_wide 8 Try.f8 rfl rfl rfl rfl rfl rfl rfl ⟨rfl, rfl, rfl, rfl, rfl⟩ rfl rfl rfl rfl rfl (by kernel_rfl) Try.func8 (by kernel_rfl)
    (of_decide_eq_true (by kernel_rfl)) (by unfold Func.isWrapper; first | (rw [if_pos (by decide +kernel)]; kernel_rfl) | (rw [if_neg (by decide +kernel)]; exact ⟨rfl, rfl⟩))
    (fun os started H enc _ => lifted os started H enc)

theorem proved : Rows.WalAgainSaid := over
#print axioms proved


end Go.Proofs.Ytcfgcllphfooaaa.walAgain
end

/-
  DiskPlays, whole: for every number of blocks and all acts the law returns true and changes nothing that was there. No condition.
-/
import Derived.Test.YtomceindibnpnaaDiskSame
import Derived.Test.YtomceindibnpnaaDiskDoes
import Derived.Test.YtomceindibnpnaaRows
namespace Go.Proofs.Ytomceindibnpnaa.diskPlays
open Go.ChangeShapes Go.WideShapes Go.ChangeAt Go.RowKit Go.My disks diskTwins

theorem duo_new {W w w1 w2 : World} {d r : Nat} {X : DV} {R : RV} (h0 : Chg (fun _ => False) W w) (hx : DiskAt w1 d (born w w1) X) (h1 : Chg (fun _ => False) w w1) (hy : RefAt w2 r (born w1 w2) R) (h2 : Chg (fun _ => False) w1 w2) : Duo W w2 d r (born w w1) (born w1 w2) X R :=
  ⟨hx.fresh h2, hy, fun k hk hk' => Nat.not_lt.2 hk'.1 hk.2, fun k hk => Nat.le_trans h0.size hk.1, fun k hk => Nat.le_trans (Nat.le_trans h0.size h1.size) hk.1, (h0.trans' h1).trans' h2⟩

theorem duo_copy {W w w1 w2 w3 w4 : World} {d r c : Nat} {Fd Fr : Nat → Prop} {X : DV} {R : RV} (h : Duo W w d r Fd Fr X R) (hc : DiskAt w1 c (born w w1) X) (h1 : Chg (fun _ => False) w w1) (h2 : Chg (fun _ => False) w1 w2) (h3 : Chg Fd w2 w3) (h4 : Chg (grow Fd w2 w3) w3 w4) : Duo W w4 c r (born w w1) Fr X R := by
  have s1 := h1.size
  have s2 := h2.size
  refine ⟨((hc.fresh h2).kept h3 (fun k hk hF => ?_)).kept h4 (fun k hk hF => ?_), (((h.y.kept h1 (fun _ _ h => h)).kept h2 (fun _ _ h => h)).kept h3 (fun k hk hF => h.ap k hF hk)).kept h4 (fun k hk hF => ?_), fun k hk hk' => ?_, fun k hk => Nat.le_trans h.chg.size hk.1, h.oy, (((h.chg.trans' h1).trans' h2).new h3 h.ox).new h4 (fun k hk => ?_)⟩
  · have := h.ltx k hF; have := hk.1; omega
  · rcases hF with hF | hF
    · have := h.ltx k hF; have := hk.1; omega
    · have := hk.2; have := hF.1; omega
  · rcases hF with hF | hF
    · exact h.ap k hF hk
    · have := h.lty k hk; have := hF.1; omega
  · have := h.lty k hk'; have := hk.1; omega
  · rcases hk with hk | hk
    · exact h.ox k hk
    · have := hk.1; have := h.chg.size; omega

theorem act_cells {W w : World} {b off i : Nat} {acts : List DAct} {a : DAct} (hacts : RowsAt W 5 (some ⟨b, off, none⟩) (acts.map DAct.row)) (hc : Chg (fun _ => False) W w) (ha : acts[i]? = some a) :
    w.cell? ⟨b, off + i * 5, none⟩ = some (.int .i64 a.kind) ∧ w.cell? ⟨b, off + i * 5 + 1, none⟩ = some (.int .i64 a.place) ∧ w.cell? ⟨b, off + i * 5 + 2, none⟩ = some (.int .i64 a.n) ∧ w.cell? ⟨b, off + i * 5 + 3, none⟩ = some (.int .i64 a.long) ∧ w.cell? ⟨b, off + i * 5 + 4, none⟩ = some a.kv := by
  have hcell := fun j v hj => (hacts.kept hc (fun _ _ h => h)).cell b off rfl i a.row j v (by simp [ha]) hj
  exact ⟨hcell 0 _ rfl, hcell 1 _ rfl, hcell 2 _ rfl, hcell 3 _ rfl, hcell 4 _ rfl⟩



set_option maxRecDepth 100000 in
set_option maxHeartbeats 4000000 in
theorem bad (W : World) (n : Int) (hb : n < 1 ∨ 4096 < n) (oa : Option Addr) (cap len : Nat) :
    Calls Try.prog 14 #[.int .i64 n, .slice oa len cap] W fun e w' => e = .returned (.bool true) ∧ Chg (fun _ => False) W w' := by
  have HB := Lib.hid hb
  have h1 : ¬ (40 < n ∧ n ≤ 4096) := by omega
  clear hb
  go_enter Try.func14, Try.ntmps14
  by_cases h40 : 40 < n
  · have h4096 : ¬ n ≤ 4096 := fun h => h1 ⟨h40, h⟩
    clear h1
    go_wp2_with (first
      | (go_at_call 38; refine (new_bad _ _ HB.out).mono ?_; rintro e w1 ⟨rfl, rfl⟩)
      | (go_at_call 48; refine (refnew_bad _ _ HB.out).mono ?_; rintro e w1 ⟨rfl, rfl⟩))
    go_loopw [9] (fun j wr => j = .int .i64 0 ∧ W = wr) (fun _ _ => 0)
    · exact ⟨rfl, rfl⟩
    obtain ⟨rfl, rfl⟩ := hrel
    by_cases hl : 0 < len
    · have hli : (0 : Int) < (len : Int) := by omega
      clear hl
      go_wp2_with (first
        | (go_at_call 38; refine (new_any _ 1 (by omega) (by omega)).mono ?_; rintro e w7 ⟨d7, rfl, hx7, hc7⟩; have HX7 := Lib.hid hx7; have HC7 := Lib.hid hc7; clear hx7 hc7)
        | (go_at_call 47; refine (blocks_any _ HX7.out).mono ?_; rw [show ((DV.new 1).B.length : Int) = 1 from rfl]; rintro e w8 ⟨rfl, rfl⟩))
      go_ret
      exact ⟨rfl, HC7.out⟩
    · have hli : ¬ (0 : Int) < (len : Int) := by omega
      clear hl
      go_wp2_with (first
        | (go_at_call 38; refine (new_any _ 1 (by omega) (by omega)).mono ?_; rintro e w7 ⟨d7, rfl, hx7, hc7⟩; have HX7 := Lib.hid hx7; have HC7 := Lib.hid hc7; clear hx7 hc7)
        | (go_at_call 47; refine (blocks_any _ HX7.out).mono ?_; rw [show ((DV.new 1).B.length : Int) = 1 from rfl]; rintro e w8 ⟨rfl, rfl⟩))
      go_ret
      exact ⟨rfl, HC7.out⟩
  · clear h1
    go_wp2_with (first
      | (go_at_call 38; refine (new_bad _ _ HB.out).mono ?_; rintro e w1 ⟨rfl, rfl⟩)
      | (go_at_call 48; refine (refnew_bad _ _ HB.out).mono ?_; rintro e w1 ⟨rfl, rfl⟩))
    go_loopw [9] (fun j wr => j = .int .i64 0 ∧ W = wr) (fun _ _ => 0)
    · exact ⟨rfl, rfl⟩
    obtain ⟨rfl, rfl⟩ := hrel
    by_cases hl : 0 < len
    · have hli : (0 : Int) < (len : Int) := by omega
      clear hl
      go_wp2_with (first
        | (go_at_call 38; refine (new_any _ 1 (by omega) (by omega)).mono ?_; rintro e w7 ⟨d7, rfl, hx7, hc7⟩; have HX7 := Lib.hid hx7; have HC7 := Lib.hid hc7; clear hx7 hc7)
        | (go_at_call 47; refine (blocks_any _ HX7.out).mono ?_; rw [show ((DV.new 1).B.length : Int) = 1 from rfl]; rintro e w8 ⟨rfl, rfl⟩))
      go_ret
      exact ⟨rfl, HC7.out⟩
    · have hli : ¬ (0 : Int) < (len : Int) := by omega
      clear hl
      go_wp2_with (first
        | (go_at_call 38; refine (new_any _ 1 (by omega) (by omega)).mono ?_; rintro e w7 ⟨d7, rfl, hx7, hc7⟩; have HX7 := Lib.hid hx7; have HC7 := Lib.hid hc7; clear hx7 hc7)
        | (go_at_call 47; refine (blocks_any _ HX7.out).mono ?_; rw [show ((DV.new 1).B.length : Int) = 1 from rfl]; rintro e w8 ⟨rfl, rfl⟩))
      go_ret
      exact ⟨rfl, HC7.out⟩



set_option maxRecDepth 100000 in
set_option maxHeartbeats 4000000 in
theorem good (W : World) (n : Int) (h1 : 1 ≤ n) (h2 : n ≤ 4096) (oa : Option Addr) (cap : Nat) (acts : List DAct) (hacts : RowsAt W 5 oa (acts.map DAct.row)) (hok : ∀ a ∈ acts, a.ok W ∧ a.fit) :
    Calls Try.prog 14 #[.int .i64 n, .slice oa acts.length cap] W fun e w' => e = .returned (.bool true) ∧ Chg (fun _ => False) W w' := by
  have HActs := Lib.hid hacts
  have HOk := Lib.hid hok
  clear hacts hok
  by_cases h40 : 40 < n
  · go_enter Try.func14, Try.ntmps14
    go_wp2_with (first
      | (go_at_call 38; refine (new_any _ 40 (by omega) (by omega)).mono ?_; rintro e w1 ⟨d, rfl, hx1, hc1⟩; have HX1 := Lib.hid hx1; have HC1 := Lib.hid hc1; clear hx1 hc1)
      | (go_at_call 48; refine (refnew_any _ 40 (by omega) (by omega)).mono ?_; rintro e w2 ⟨r, rfl, hy2, hc2⟩; have HY2 := Lib.hid hy2; have HC2 := Lib.hid hc2; clear hy2 hc2))
    go_loopw [5, 9] (fun dv j wr => ∃ i : Nat, j = .int .i64 i ∧ i ≤ acts.length ∧ i ≤ 60 ∧ ∃ d Fd Fr X R, dv = .pointer (some ⟨d, 0, none⟩) ∧ Duo W wr d r Fd Fr X R ∧ Link X R i) (fun _ j _ => 60 - (intOf j).toNat)
    · exact ⟨0, rfl, Nat.zero_le _, by omega, _, _, _, _, _, rfl, duo_new (Chg.refl _ _) HX1.out HC1.out HY2.out HC2.out, Link.new⟩
    clear HX1 HC1 HY2 HC2
    obtain ⟨i, rfl, hil, hi60, d, Fd, Fr, X, R, rfl, hD, hL⟩ := hrel
    have HD := Lib.hid hD
    have HL := Lib.hid hL
    clear hD hL
    by_cases hlt : i < acts.length ∧ i < 60
    · obtain ⟨hl1, hl2⟩ := hlt
      have hd60 : decide ((i : Int) < 60) = true := by simp; omega
      have hia : (i : Int) < (acts.length : Int) := by omega
      obtain ⟨b, off, rfl⟩ := HActs.out.spot (by intro e; cases acts with | nil => simp at hl1 | cons => simp at e)
      obtain ⟨a, ha⟩ : ∃ a, acts[i]? = some a := ⟨acts[i], List.getElem?_eq_getElem hl1⟩
      obtain ⟨c0, c1, c2, c3, c4⟩ := act_cells HActs.out HD.out.chg ha
      have HOa := Lib.hid (HOk.out a (List.mem_of_getElem? ha))
      clear ha
      by_cases h5 : a.kind = 5
      · have hk5 : (a.kind == 5) = true := by simp [h5]
        clear h5
        have hls : ∀ j, (X.L j).length < 1000000 := fun j => by have := HL.out.Ls j; omega
        have HLs := Lib.hid hls
        clear hls
        go_wp2_with (first
          | (go_at_call 41; refine (copy_at HD.out.x HLs.out).mono ?_; rintro e w3 ⟨c, rfl, hcD, hc3⟩
             obtain ⟨w4, hm, ho, hc4⟩ := made_u8 w3 64 (by omega)
             have hm' : (Instr.makeSlice 68 (.int .i64 64) (.int .i64 64)).run Try.prog w3 = .ok (.slice (some ⟨w3.heap.size, 0, none⟩) 64 64) w4 := hm
             have HCD := Lib.hid hcD
             have HC3 := Lib.hid hc3
             have HO4 := Lib.hid ho
             have HC4 := Lib.hid hc4
             clear hcD hc3 ho hc4 hm)
          | (go_at_call 33; refine (write_at _ ((HD.out.fresh HC3.out).fresh HC4.out).x 0 (by constructor <;> omega) HL.out.fu (b := zeroBlk) HO4.out (fun g hg hF => by have := (HO4.out.lt g hg).1; have := HD.out.ltx g hF; have := HC3.out.size; omega) HLs.out).mono ?_; rintro e w5 ⟨rfl, hx5, hc5⟩
             have HX5 := Lib.hid hx5
             have HC5 := Lib.hid hc5
             clear hx5 hc5)
          | (go_at_call 30; refine (flush_at _ HX5.out (HL.out.write 0 zeroBlk).fu).mono ?_; rintro e w6 ⟨rfl, hx6, hc6⟩
             have HC6 := Lib.hid hc6
             have HDc := Lib.hid (duo_copy HD.out HCD.out HC3.out HC4.out HC5.out HC6.out)
             clear hx6 hc6)
          | (go_at_call 46; refine (same_any _ HDc.out HL.out (by omega)).mono ?_; rintro e w9 ⟨rfl, hc9⟩; have HC9 := Lib.hid hc9; clear hc9))
        exact ⟨⟨i + 1, by go_num, hl1, by omega, _, _, _, _, _, rfl, HDc.out.fresh HC9.out, HL.out.more (Nat.le_succ _)⟩, meas_step hl2⟩
      · have hk5 : (a.kind == 5) = false := by simp [h5]
        clear h5
        go_wp2_with (first
          | (go_at_call 45; refine (does_any _ HD.out HL.out (by omega) a HOa.out.1 HOa.out.2).mono ?_; rintro e w3 ⟨rfl, hdo⟩
             obtain ⟨Fd', Fr', X', R', hD3, hL3⟩ := hdo
             have HD3 := Lib.hid hD3
             have HL3 := Lib.hid hL3
             clear hD3 hL3)
          | (go_at_call 46; refine (same_any _ HD3.out HL3.out (by omega)).mono ?_; rintro e w9 ⟨rfl, hc9⟩; have HC9 := Lib.hid hc9; clear hc9))
        exact ⟨⟨i + 1, by go_num, hl1, by omega, _, _, _, _, _, rfl, HD3.out.fresh HC9.out, HL3.out⟩, meas_step hl2⟩
    · rcases Nat.lt_or_ge i acts.length with hl1 | hl1
      · have hd60 : decide ((i : Int) < 60) = false := by simp; omega
        have hl2 : (i : Int) < (acts.length : Int) := by omega
        clear hl1 hlt
        go_wp2_with (first
          | (go_at_call 38; refine (new_any _ 1 (by omega) (by omega)).mono ?_; rintro e w7 ⟨d7, rfl, hx7, hc7⟩; have HX7 := Lib.hid hx7; have HC7 := Lib.hid hc7; clear hx7 hc7)
          | (go_at_call 47; refine (blocks_any _ HX7.out).mono ?_; rw [show ((DV.new 1).B.length : Int) = 1 from rfl]; rintro e w8 ⟨rfl, rfl⟩))
        go_ret
        exact ⟨rfl, HD.out.chg.trans' HC7.out⟩
      · have hl2 : ¬ (i : Int) < (acts.length : Int) := by omega
        clear hl1 hlt
        go_wp2_with (first
          | (go_at_call 38; refine (new_any _ 1 (by omega) (by omega)).mono ?_; rintro e w7 ⟨d7, rfl, hx7, hc7⟩; have HX7 := Lib.hid hx7; have HC7 := Lib.hid hc7; clear hx7 hc7)
          | (go_at_call 47; refine (blocks_any _ HX7.out).mono ?_; rw [show ((DV.new 1).B.length : Int) = 1 from rfl]; rintro e w8 ⟨rfl, rfl⟩))
        go_ret
        exact ⟨rfl, HD.out.chg.trans' HC7.out⟩
  · obtain ⟨m, rfl⟩ : ∃ m : Nat, n = (m : Int) := ⟨n.toNat, by omega⟩
    have hm1 : 1 ≤ m := by omega
    have hm2 : m ≤ 4096 := by omega
    go_enter Try.func14, Try.ntmps14
    go_wp2_with (first
      | (go_at_call 38; refine (new_any _ m hm1 hm2).mono ?_; rintro e w1 ⟨d, rfl, hx1, hc1⟩; have HX1 := Lib.hid hx1; have HC1 := Lib.hid hc1; clear hx1 hc1)
      | (go_at_call 48; refine (refnew_any _ m hm1 hm2).mono ?_; rintro e w2 ⟨r, rfl, hy2, hc2⟩; have HY2 := Lib.hid hy2; have HC2 := Lib.hid hc2; clear hy2 hc2))
    go_loopw [5, 9] (fun dv j wr => ∃ i : Nat, j = .int .i64 i ∧ i ≤ acts.length ∧ i ≤ 60 ∧ ∃ d Fd Fr X R, dv = .pointer (some ⟨d, 0, none⟩) ∧ Duo W wr d r Fd Fr X R ∧ Link X R i) (fun _ j _ => 60 - (intOf j).toNat)
    · exact ⟨0, rfl, Nat.zero_le _, by omega, _, _, _, _, _, rfl, duo_new (Chg.refl _ _) HX1.out HC1.out HY2.out HC2.out, Link.new⟩
    clear HX1 HC1 HY2 HC2
    obtain ⟨i, rfl, hil, hi60, d, Fd, Fr, X, R, rfl, hD, hL⟩ := hrel
    have HD := Lib.hid hD
    have HL := Lib.hid hL
    clear hD hL
    by_cases hlt : i < acts.length ∧ i < 60
    · obtain ⟨hl1, hl2⟩ := hlt
      have hd60 : decide ((i : Int) < 60) = true := by simp; omega
      have hia : (i : Int) < (acts.length : Int) := by omega
      obtain ⟨b, off, rfl⟩ := HActs.out.spot (by intro e; cases acts with | nil => simp at hl1 | cons => simp at e)
      obtain ⟨a, ha⟩ : ∃ a, acts[i]? = some a := ⟨acts[i], List.getElem?_eq_getElem hl1⟩
      obtain ⟨c0, c1, c2, c3, c4⟩ := act_cells HActs.out HD.out.chg ha
      have HOa := Lib.hid (HOk.out a (List.mem_of_getElem? ha))
      clear ha
      by_cases h5 : a.kind = 5
      · have hk5 : (a.kind == 5) = true := by simp [h5]
        clear h5
        have hls : ∀ j, (X.L j).length < 1000000 := fun j => by have := HL.out.Ls j; omega
        have HLs := Lib.hid hls
        clear hls
        go_wp2_with (first
          | (go_at_call 41; refine (copy_at HD.out.x HLs.out).mono ?_; rintro e w3 ⟨c, rfl, hcD, hc3⟩
             obtain ⟨w4, hm, ho, hc4⟩ := made_u8 w3 64 (by omega)
             have hm' : (Instr.makeSlice 68 (.int .i64 64) (.int .i64 64)).run Try.prog w3 = .ok (.slice (some ⟨w3.heap.size, 0, none⟩) 64 64) w4 := hm
             have HCD := Lib.hid hcD
             have HC3 := Lib.hid hc3
             have HO4 := Lib.hid ho
             have HC4 := Lib.hid hc4
             clear hcD hc3 ho hc4 hm)
          | (go_at_call 33; refine (write_at _ ((HD.out.fresh HC3.out).fresh HC4.out).x 0 (by constructor <;> omega) HL.out.fu (b := zeroBlk) HO4.out (fun g hg hF => by have := (HO4.out.lt g hg).1; have := HD.out.ltx g hF; have := HC3.out.size; omega) HLs.out).mono ?_; rintro e w5 ⟨rfl, hx5, hc5⟩
             have HX5 := Lib.hid hx5
             have HC5 := Lib.hid hc5
             clear hx5 hc5)
          | (go_at_call 30; refine (flush_at _ HX5.out (HL.out.write 0 zeroBlk).fu).mono ?_; rintro e w6 ⟨rfl, hx6, hc6⟩
             have HC6 := Lib.hid hc6
             have HDc := Lib.hid (duo_copy HD.out HCD.out HC3.out HC4.out HC5.out HC6.out)
             clear hx6 hc6)
          | (go_at_call 46; refine (same_any _ HDc.out HL.out (by omega)).mono ?_; rintro e w9 ⟨rfl, hc9⟩; have HC9 := Lib.hid hc9; clear hc9))
        exact ⟨⟨i + 1, by go_num, hl1, by omega, _, _, _, _, _, rfl, HDc.out.fresh HC9.out, HL.out.more (Nat.le_succ _)⟩, meas_step hl2⟩
      · have hk5 : (a.kind == 5) = false := by simp [h5]
        clear h5
        go_wp2_with (first
          | (go_at_call 45; refine (does_any _ HD.out HL.out (by omega) a HOa.out.1 HOa.out.2).mono ?_; rintro e w3 ⟨rfl, hdo⟩
             obtain ⟨Fd', Fr', X', R', hD3, hL3⟩ := hdo
             have HD3 := Lib.hid hD3
             have HL3 := Lib.hid hL3
             clear hD3 hL3)
          | (go_at_call 46; refine (same_any _ HD3.out HL3.out (by omega)).mono ?_; rintro e w9 ⟨rfl, hc9⟩; have HC9 := Lib.hid hc9; clear hc9))
        exact ⟨⟨i + 1, by go_num, hl1, by omega, _, _, _, _, _, rfl, HD3.out.fresh HC9.out, HL3.out⟩, meas_step hl2⟩
    · rcases Nat.lt_or_ge i acts.length with hl1 | hl1
      · have hd60 : decide ((i : Int) < 60) = false := by simp; omega
        have hl2 : (i : Int) < (acts.length : Int) := by omega
        clear hl1 hlt
        go_wp2_with (first
          | (go_at_call 38; refine (new_any _ 1 (by omega) (by omega)).mono ?_; rintro e w7 ⟨d7, rfl, hx7, hc7⟩; have HX7 := Lib.hid hx7; have HC7 := Lib.hid hc7; clear hx7 hc7)
          | (go_at_call 47; refine (blocks_any _ HX7.out).mono ?_; rw [show ((DV.new 1).B.length : Int) = 1 from rfl]; rintro e w8 ⟨rfl, rfl⟩))
        go_ret
        exact ⟨rfl, HD.out.chg.trans' HC7.out⟩
      · have hl2 : ¬ (i : Int) < (acts.length : Int) := by omega
        clear hl1 hlt
        go_wp2_with (first
          | (go_at_call 38; refine (new_any _ 1 (by omega) (by omega)).mono ?_; rintro e w7 ⟨d7, rfl, hx7, hc7⟩; have HX7 := Lib.hid hx7; have HC7 := Lib.hid hc7; clear hx7 hc7)
          | (go_at_call 47; refine (blocks_any _ HX7.out).mono ?_; rw [show ((DV.new 1).B.length : Int) = 1 from rfl]; rintro e w8 ⟨rfl, rfl⟩))
        go_ret
        exact ⟨rfl, HD.out.chg.trans' HC7.out⟩

theorem walk (W : World) (n : Int) (hn : inR n) (oa : Option Addr) (cap : Nat) (acts : List DAct) (hacts : RowsAt W 5 oa (acts.map DAct.row)) (hok : ∀ a ∈ acts, a.ok W ∧ a.fit) :
    Calls Try.prog 14 #[.int .i64 n, .slice oa acts.length cap] W fun e w' => e = .returned (.bool true) ∧ Chg (fun _ => False) W w' := by
  by_cases h : 1 ≤ n ∧ n ≤ 4096
  · exact good W n h.1 h.2 oa cap acts hacts hok
  · exact bad W n (by omega) oa cap acts.length

set_option maxRecDepth 100000 in
theorem lifted (os : Os) (started : os.Started) (H : Type) (enc : TypeId × Value → H) :
    ReturnsInHanded {} Try.checked os 14 .any (Rows.diskPlaysSpec.pre6 enc Try.prog Try.f14 [] false) (Rows.diskPlaysSpec.post enc Try.prog Try.f14 false true false false) := by
  refine law_handed (C := Try.checked) (tb := 4) own started (by kernel_rfl) Try.func14
    (ChangeSpec.witness6 (enc := enc) (C := Try.checked) false ⟨#[], #[.int .i64 0, .slice none 0 0], []⟩ 8 (by kernel_rfl) (by kernel_rfl) (by kernel_rfl) (by kernel_rfl))
    laidOut (by rw [show Try.checked.prog = Try.prog from rfl, Try.params14]; intro t ht; simp at ht; rcases ht with rfl | rfl <;> exact ⟨by kernel_rfl, of_decide_eq_true (by kernel_rfl)⟩) rfl rfl Try.underlying4 ?_ ?_
  · intro ds hds
    rw [Try.params14] at hds
    match ds, hds with
    | [_, _], _ => rfl
  · intro W base args ds before hval0 hA0 _ hsz0
    have hval : ∀ (j : Nat) t v, Try.f14.params[j]? = some t → args[j]? = some v → Value.okWide Try.prog W .any base t v := hval0
    have hA : DataW.TrodAll enc Try.prog W 0 (fun _ => true) true Try.f14.params.toList args.toList ds before := hA0
    rw [Try.params14] at hA hval
    have hsz : (DataW.weightsEach Try.prog Try.f14.params.toList ds).all (· ≤ reachBytes) = true := hsz0
    rw [Try.params14] at hsz
    obtain ⟨v0, vs0, d0, ds0, p0, q0, hargs, rfl, rfl, h0, r0⟩ := trodAll_cons hA
    obtain ⟨v1, vs1, d1, ds1, p1, q1, rfl, rfl, rfl, h1, r1⟩ := trodAll_cons r0
    obtain ⟨rfl, rfl, rfl⟩ := trodAll_nil r1
    obtain rfl : args = #[v0, v1] := by cases args; simp_all
    obtain ⟨a0, rfl, rfl, rfl, w0⟩ := open_int Try.underlying3 (hval 0 3 v0 rfl rfl) h0
    obtain ⟨oa1, l1, cap1, rfl, -, -, g1, ok1⟩ := open_acts_sized (hval 1 54 v1 rfl rfl) h1 (fun n hn => by have := List.all_eq_true.1 hsz n (weightsEach_mem (i := 1) rfl rfl n hn); simpa using this)
    exact walk W a0 (wf_inR w0) oa1 cap1 l1 g1 ok1

theorem over : Rows.diskPlaysRow.holds Try.pinned (OpenSpec.ofChange Rows.diskPlaysSpec) :=
  OpenClaim.holds_of_wide 14 Try.f14 rfl rfl rfl rfl rfl rfl rfl ⟨rfl, rfl, rfl, rfl, rfl⟩ rfl rfl rfl rfl rfl (by kernel_rfl) Try.func14 (by kernel_rfl)
    (of_decide_eq_true (by kernel_rfl)) (by unfold Func.isWrapper; first | (rw [if_pos (by decide +kernel)]; kernel_rfl) | (rw [if_neg (by decide +kernel)]; exact ⟨rfl, rfl⟩))
    (fun os started H enc _ => lifted os started H enc)

theorem proved : Rows.DiskPlaysSaid := over
#print axioms proved


end Go.Proofs.Ytomceindibnpnaa.diskPlays

/-
  WalStands, whole: for every call the law returns true and changes nothing that was there. No condition.
-/
import Derived.Test.YtcfgcllphfooaaaPkAa
import Derived.Test.YtcfgcllphfooaaaPkAl
import Derived.Test.YtcfgcllphfooaaaRows

section
set_option linter.unusedSimpArgs false
set_option linter.unusedVariables false
namespace Go.Proofs.Ytcfgcllphfooaaa.walStands
open Go.ChangeShapes Go.WideShapes Go.ChangeAt Go.RowKit Go.My wals disks bufs

theorem laidOut : laidOutB Try.prog = true := by kernel_rfl
theorem own : ownKnob Try.prog.godebug = none := by kernel_rfl

/-- What stands behind k rounds. -/
structure Rd (P : Nat → Prop) (W w : World) (l d : Nat) (X : DV) (recs : List Blk) (s a : Nat) (hv : Value) (k : Nat) : Prop where
  at' : WAt P W w l d X (lvW recs s a [])
  st : Stands X recs s a
  few : s ≤ 1 + k
  free : X.fuse = -1
  len : X.B.length = 40
  had : Kp P W hv recs
  n20 : recs.length ≤ 20




set_option maxRecDepth 100000 in
set_option maxHeartbeats 4000000 in
theorem walk (W : World) (va : Value) (bsa : List Blk) (hsa : SlAt W va (bsa.map strV)) (_ : bsa.length ≤ maxLen) (_ : ∀ b ∈ bsa, b.length ≤ maxLen) (vb : Value) (bsb : List Blk) (hsb : SlAt W vb (bsb.map strV)) (_ : bsb.length ≤ maxLen) (_ : ∀ b ∈ bsb, b.length ≤ maxLen) (b : Blk) (_ : b.length ≤ maxLen) :
    Calls Try.prog 5 #[va, vb, strV b] W fun e w' => e = .returned (.bool true) ∧ Chg (fun _ => False) W w' := by
  have HB := Lib.hid (Blank.new 40 (by omega) (by omega))
  have HNew := Lib.hid (dat_new W 40 (by omega) (by omega))
  obtain ⟨oaa, capa, rfl, q2, q3⟩ := hsa
  rw [List.length_map] at *
  have HVa := Lib.hid (show SlAt W (.slice oaa bsa.length capa) (bsa.map strV) from ⟨oaa, capa, by rw [List.length_map], q2, q3⟩)
  obtain ⟨oab, capb, rfl, q4, q5⟩ := hsb
  rw [List.length_map] at *
  have HVb := Lib.hid (show SlAt W (.slice oab bsb.length capb) (bsb.map strV) from ⟨oab, capb, by rw [List.length_map], q4, q5⟩)
  have HWk := Lib.hid works_any
  obtain ⟨sb, hsb⟩ : ∃ s : ByteArray, strV b = .string s := ⟨_, rfl⟩
  rw [hsb]
  have HSb := Lib.hid hsb
  clear q2 q3 q4 q5 hsb
  go_enter Try.func5, Try.ntmps5
  go_wp2_with (first
    | (go_at_call 9; fail))
  refine HNew.out.mono ?_
  rintro e w1 ⟨d, rfl, hd⟩
  have HO := Lib.hid (wat_open_new hd HB.out rfl)
  clear hd HNew
  dsimp only
  go_wp2_with (first
    | (go_at_call 10; fail))
  refine HO.out.mono ?_
  rintro e w2 ⟨l, X, rfl, hl, hs, hf, hlen⟩
  rw [DV.new_len] at hlen
  have HL := Lib.hid hl
  have HS := Lib.hid (And.intro hs (And.intro hf hlen))
  have HSm := Lib.hid (small_any w2 _ bsa (HVa.out.kept hl.chg))
  clear hl hs hf hlen HO
  dsimp only
  go_wp2_with (first
    | (go_at_call 11; fail))
  refine HSm.out.mono ?_
  rintro e w3 ⟨v3, rfl, ho3, hc3⟩
  obtain ⟨ra, hra⟩ : ∃ rs, smallL bsa = rs := ⟨_, rfl⟩
  rw [hra] at ho3
  have HRa := Lib.hid (show ra.length ≤ 20 ∧ ∀ r ∈ ra, r.length ≤ 5000 from hra ▸ ⟨smallL_len bsa, fun r hr => smallL_mem hr⟩)
  obtain ⟨oa3, cap3, rfl⟩ := own_slice ho3
  have HO3 := Lib.hid ho3
  have HC3 := Lib.hid hc3
  have HSm2 := Lib.hid (small_any w3 _ bsb (HVb.out.kept (HL.out.chg.trans' hc3)))
  clear ho3 hc3 hra HSm
  dsimp only
  go_wp2_with (first
    | (go_at_call 11; fail))
  refine HSm2.out.mono ?_
  rintro e w4 ⟨v4, rfl, ho4, hc4⟩
  obtain ⟨rb, hrb⟩ : ∃ rs, smallL bsb = rs := ⟨_, rfl⟩
  rw [hrb] at ho4
  have HRb := Lib.hid (show rb.length ≤ 20 ∧ ∀ r ∈ rb, r.length ≤ 5000 from hrb ▸ ⟨smallL_len bsb, fun r hr => smallL_mem hr⟩)
  obtain ⟨oa4, cap4, rfl⟩ := own_slice ho4
  have HO4 := Lib.hid ho4
  have HC4 := Lib.hid hc4
  clear ho4 hc4 hrb HSm2
  dsimp only
  go_wp2_with fail
  obtain ⟨w0, hw0⟩ : ∃ w0, (w4.alloc (.cells #[] 9)).alloc (.cells #[.slice oa3 ra.length cap3, .slice oa4 rb.length cap4, .slice oa3 ra.length cap3] 22) = w0 := ⟨_, rfl⟩
  rw [hw0]
  have b0 : w0.heap[w4.heap.size]? = some (.cells #[] 9 (0, 0)) := by
    subst hw0; simp only [heap_alloc_get, World.size_alloc]; rw [if_neg (by omega), if_pos trivial]
  have b1 : w0.heap[w4.heap.size + 1]? = some (.cells #[.slice oa3 ra.length cap3, .slice oa4 rb.length cap4, .slice oa3 ra.length cap3] 22 (0, 0)) := by
    subst hw0; simp only [heap_alloc_get, World.size_alloc]; rw [if_pos trivial]
  have hc40 : Chg (fun _ => False) w4 w0 := by subst hw0; exact ((Chg.refl _ _).alloc _).alloc _
  have hc30 : Chg (fun _ => False) w3 w0 := HC4.out.trans' hc40
  have hc20 : Chg (fun _ => False) w2 w0 := HC3.out.trans' hc30
  have hat := HL.out.rest hc20
  obtain ⟨P, hP⟩ : ∃ P, NowP (fun _ => False) W w2 = P := ⟨_, rfl⟩
  have hns : ∀ k, P k → k < w2.heap.size := fun k hk => by rw [← hP] at hk; exact hk.2
  have s23 := HC3.out.size
  have s34 := HC4.out.size
  rw [hP] at hat
  have HP := Lib.hid hP
  have HNs := Lib.hid hns
  have HC0 := Lib.hid (HL.out.chg.trans' hc20)
  have HKa := Lib.hid (show Kp P w0 (.slice oa3 ra.length cap3) ra from Kp.of_own (own_kept HO3.out hc30) (fun g hg hPg => by have := hns g hPg; omega))
  have HKb := Lib.hid (show Kp P w0 (.slice oa4 rb.length cap4) rb from Kp.of_own (own_kept HO4.out hc40) (fun g hg hPg => by have := hns g hPg; omega))
  have hrd0 : Rd P w0 w0 l d X [] 1 0 (.slice (some ⟨w4.heap.size, 0, none⟩) 0 0) 0 := ⟨hat, HS.out.1, by omega, HS.out.2.1, HS.out.2.2, Kp.of_own (base := w4.heap.size) (n := 0) (own_of_block (n := 0) b0 (Nat.le_refl _) rfl (by unfold maxLen; omega)) (fun g hg hPg => by have := hns g hPg; omega), by simp⟩
  have HRd0 := Lib.hid hrd0
  have HB1 := Lib.hid b1
  have HN1 := Lib.hid (show ¬ P (w4.heap.size + 1) from fun hPg => by have := hns _ hPg; omega)
  clear hw0 b0 b1 hc40 hc30 hc20 hat hP hns s23 s34 hrd0
  go_loopw [11, 42] (fun hv i wr => ∃ (k : Nat) (X' : DV) (recs : List Blk) (s a : Nat), i = .int .i64 k ∧ k ≤ 3 ∧ Rd P w0 wr l d X' recs s a hv k) (fun _ i _ => 3 - (intOf i).toNat)
  · exact ⟨0, X, [], 1, 0, rfl, by omega, HRd0.out⟩
  obtain ⟨k, X', recs, s, a, rfl, hk, hrd⟩ := hrel
  have HRd := Lib.hid hrd
  by_cases hlt : k < 3
  · have hlti : (k : Int) < 3 := by omega
    obtain ⟨oak, nk, capk, rk, hcell, hkk, hk20, hk5⟩ : ∃ oak nk capk rk, wr.cell? ⟨w4.heap.size + 1, k, none⟩ = some (.slice oak nk capk) ∧ Kp P w0 (.slice oak nk capk) rk ∧ rk.length ≤ 20 ∧ ∀ r ∈ rk, r.length ≤ 5000 := by
      have g0 : wr.cell? ⟨w4.heap.size + 1, 0, none⟩ = some (.slice oa3 ra.length cap3) := hrd.at'.chg.cell (cell_of_block HB1.out rfl) HN1.out
      have g1 : wr.cell? ⟨w4.heap.size + 1, 1, none⟩ = some (.slice oa4 rb.length cap4) := hrd.at'.chg.cell (cell_of_block HB1.out rfl) HN1.out
      have g2 : wr.cell? ⟨w4.heap.size + 1, 2, none⟩ = some (.slice oa3 ra.length cap3) := hrd.at'.chg.cell (cell_of_block HB1.out rfl) HN1.out
      rcases (by omega : k = 0 ∨ k = 1 ∨ k = 2) with h | h | h
      · exact ⟨oa3, ra.length, cap3, ra, by rw [h]; exact g0, HKa.out, HRa.out⟩
      · exact ⟨oa4, rb.length, cap4, rb, by rw [h]; exact g1, HKb.out, HRb.out⟩
      · exact ⟨oa3, ra.length, cap3, ra, by rw [h]; exact g2, HKa.out, HRa.out⟩
    have HRs := Lib.hid (wat_reset_lv hrd.at' hrd.st (by have := hrd.few; omega) hrd.free _ hkk (by omega) (fun r hr => by have := hk5 r hr; omega))
    have HKk := Lib.hid hkk
    have HK2 := Lib.hid hk20
    have hlt : k + 1 ≤ 3 := hlt
    clear hrd hkk hk20 hk5
    go_wp2_with (first
      | (go_at_call 20; fail))
    refine HRs.out.mono ?_
    rintro e w5 ⟨X5, recs5, s5, a5, hat5, hst5, hs5a, hs5b, hf5, hl5, hcase⟩
    have HF5 := Lib.hid (And.intro hst5 (And.intro (show s5 ≤ 1 + (k + 1) by have := HRd.out.few; omega) (And.intro hf5 (hl5.trans HRd.out.len))))
    have HA5 := Lib.hid hat5
    clear hcell HRs hst5 hs5a hs5b hf5 hl5 hat5
    rcases hcase with ⟨rfl, rfl⟩ | ⟨rfl, rfl⟩ | ⟨rfl, rfl⟩
    · have HRe := Lib.hid (wat_records HA5.out (by show recs5.length ≤ _; have := HK2.out; omega))
      dsimp only
      go_wp2_with (first
        | (go_at_call 17; fail))
      refine HRe.out.mono ?_
      rintro e w6 ⟨v6, rfl, ho6, hc6⟩
      have hsa := wat_yes ho6 HKk.out (HA5.out.fresh hc6).chg (by show recs5.length ≤ _; have := HK2.out; omega) rfl
      have HSa := Lib.hid hsa
      have HA6 := Lib.hid (HA5.out.fresh hc6)
      clear hsa ho6 hc6 HRe
      dsimp only
      go_wp2_with (first
        | (go_at_call 21; fail))
      refine HSa.out.mono ?_
      rintro e w7 ⟨rfl, hc7⟩
      have HA7 := Lib.hid (HA6.out.fresh hc7)
      clear hc7 HSa
      dsimp only
      go_wp2_with fail
      exact ⟨⟨k + 1, X5, recs5, s5, a5, by go_num, hlt, HA7.out, HF5.out.1, HF5.out.2.1, HF5.out.2.2.1, HF5.out.2.2.2, HKk.out, HK2.out⟩, by simp [intOf]; omega⟩
    · have HRe := Lib.hid (wat_records HA5.out (by show recs5.length ≤ _; have := HRd.out.n20; omega))
      dsimp only
      go_wp2_with (first
        | (go_at_call 17; fail))
      refine HRe.out.mono ?_
      rintro e w6 ⟨v6, rfl, ho6, hc6⟩
      have hsa := wat_yes ho6 HRd.out.had (HA5.out.fresh hc6).chg (by show recs5.length ≤ _; have := HRd.out.n20; omega) rfl
      have HSa := Lib.hid hsa
      have HA6 := Lib.hid (HA5.out.fresh hc6)
      clear hsa ho6 hc6 HRe
      dsimp only
      go_wp2_with (first
        | (go_at_call 21; fail))
      refine HSa.out.mono ?_
      rintro e w7 ⟨rfl, hc7⟩
      have HA7 := Lib.hid (HA6.out.fresh hc7)
      clear hc7 HSa
      dsimp only
      go_wp2_with fail
      exact ⟨⟨k + 1, X5, recs5, s5, a5, by go_num, hlt, HA7.out, HF5.out.1, HF5.out.2.1, HF5.out.2.2.1, HF5.out.2.2.2, HRd.out.had, HRd.out.n20⟩, by simp [intOf]; omega⟩
    · have HRe := Lib.hid (wat_records HA5.out (by show recs5.length ≤ _; have := HRd.out.n20; omega))
      dsimp only
      go_wp2_with (first
        | (go_at_call 17; fail))
      refine HRe.out.mono ?_
      rintro e w6 ⟨v6, rfl, ho6, hc6⟩
      have hsa := wat_yes ho6 HRd.out.had (HA5.out.fresh hc6).chg (by show recs5.length ≤ _; have := HRd.out.n20; omega) rfl
      have HSa := Lib.hid hsa
      have HA6 := Lib.hid (HA5.out.fresh hc6)
      clear hsa ho6 hc6 HRe
      dsimp only
      go_wp2_with (first
        | (go_at_call 21; fail))
      refine HSa.out.mono ?_
      rintro e w7 ⟨rfl, hc7⟩
      have HA7 := Lib.hid (HA6.out.fresh hc7)
      clear hc7 HSa
      dsimp only
      go_wp2_with fail
      exact ⟨⟨k + 1, X5, recs5, s5, a5, by go_num, hlt, HA7.out, HF5.out.1, HF5.out.2.1, HF5.out.2.2.1, HF5.out.2.2.2, HRd.out.had, HRd.out.n20⟩, by simp [intOf]; omega⟩
  · obtain rfl : k = 3 := by omega
    obtain ⟨oah, caph, rfl, hh2, hh3⟩ := hrd.had.at' _ hrd.at'.chg
    rw [List.length_map] at *
    have hca : Chg (fun _ => False) wr (wr.alloc (.cells #[.string sb] 9)) := (Chg.refl _ _).alloc _
    have hsl : SlAt (wr.alloc (.cells #[.string sb] 9)) (.slice (some ⟨wr.heap.size, 0, none⟩) 1 1) ([b].map strV) := by
      have := SlAt.of_own (own_of_block (w := wr.alloc (.cells #[.string sb] 9)) (base := 0) (n := 1) at1 (Nat.zero_le _) rfl (by unfold maxLen; omega))
      rw [List.map_cons, HSb.out]
      exact this
    have HSm := Lib.hid (small_any _ _ [b] hsl)
    have HCa := Lib.hid hca
    clear hrd hca hsl hh2 hh3
    have hlti : ¬ ((3 : Nat) : Int) < 3 := by omega
    go_wp2_with (first
      | (go_at_call 11; fail))
    refine HSm.out.mono ?_
    rintro e w6 ⟨v6, rfl, ho6, hc6⟩
    rw [show smallL [b] = [smallS b] from rfl] at ho6
    obtain ⟨r, hr⟩ : ∃ r, smallS b = r := ⟨_, rfl⟩
    rw [hr] at ho6
    have hr5 : r.length ≤ 5000 := hr ▸ smallS_len b
    obtain ⟨oa6, cap6, rfl⟩ := own_slice ho6
    obtain ⟨g6, rfl, -, -, hcell⟩ := row_cell ho6 (k := 0) (r := r) rfl
    have hc60 := hcell (fun _ => False) w6 (Chg.refl _ _) id
    have HA6 := Lib.hid (HRd.out.at'.fresh (HCa.out.trans' hc6))
    have HR5 := Lib.hid hr5
    obtain ⟨sr, hsr⟩ : ∃ sr : ByteArray, strV r = .string sr := ⟨_, rfl⟩
    rw [hsr] at hc60
    have HSr := Lib.hid hsr
    have hok6 := lvW_ok HRd.out.st (wait := []) (by have := HRd.out.few; omega) (by simp) (by have := HRd.out.st.fits; show _ + 0 ≤ _; omega)
    have hA := wat_add HA6.out hok6 r (by omega)
    rw [add_lv, hsr] at hA
    clear hr ho6 hcell hc6 HSm hr5 hsr hok6
    by_cases hbig : 4096 < r.length
    · rw [if_pos hbig] at hA
      have HA := Lib.hid hA
      clear hA hbig
      dsimp only
      go_wp2_with (first
        | (go_at_call 13; fail))
      refine HA.out.mono ?_
      rintro e w7 ⟨rfl, hat7⟩
      have HA7 := Lib.hid hat7
      clear hat7 HA
      dsimp only
      go_wp2_with (first
        | (go_at_call 10; fail))
      have hat11 := HA7.out.now
      have hb11 := HA7.out.chg
      have hkp := HRd.out.had.now hb11
      have hst := HRd.out.st
      have hs5 : s ≤ 5 := by have := HRd.out.few; omega
      have hf := HRd.out.free
      have hn21 : recs.length ≤ 21 := by have := HRd.out.n20; omega
      have HOp := Lib.hid (wat_open2 hat11 hst (by omega) (by omega))
      have HKp := Lib.hid hkp
      have HB11 := Lib.hid hb11
      have HN21 := Lib.hid hn21
      clear hat11 hb11 hkp hst hs5 hf hn21
      refine HOp.out.mono ?_
      rintro e w12 ⟨m, rfl, hm12, hl12⟩
      have HM12 := Lib.hid hm12
      have HL12 := Lib.hid hl12
      have HRe := Lib.hid (wat_records hl12 (by show (recs).length ≤ _; have := HN21.out; omega))
      clear hm12 hl12 HOp
      dsimp only
      go_wp2_with (first
        | (go_at_call 17; fail))
      refine HRe.out.mono ?_
      rintro e w13 ⟨v13, rfl, ho13, hc13⟩
      have hsa := wat_yes ho13 HKp.out (HL12.out.fresh hc13).chg (by show (recs).length ≤ _; have := HN21.out; omega) rfl
      have HSa := Lib.hid hsa
      have HM13 := Lib.hid (HM12.out.fresh hc13)
      clear hsa ho13 hc13 HRe
      dsimp only
      go_wp2_with (first
        | (go_at_call 21; fail))
      refine HSa.out.mono ?_
      rintro e w14 ⟨rfl, hc14⟩
      have HM14 := Lib.hid (HM13.out.fresh hc14)
      have HRe2 := Lib.hid (wat_records HM14.out (by show (recs).length ≤ _; have := HN21.out; omega))
      clear hc14 HSa
      dsimp only
      go_wp2_with (first
        | (go_at_call 17; fail))
      refine HRe2.out.mono ?_
      rintro e w15 ⟨v15, rfl, ho15, hc15⟩
      have hsa := wat_yes ho15 HKp.out (HM14.out.fresh hc15).chg (by show (recs).length ≤ _; have := HN21.out; omega) rfl
      have HSa2 := Lib.hid hsa
      have HM15 := Lib.hid (HM14.out.fresh hc15)
      clear hsa ho15 hc15 HRe2
      dsimp only
      go_wp2_with (first
        | (go_at_call 21; fail))
      refine HSa2.out.mono ?_
      rintro e w16 ⟨rfl, hc16⟩
      have HM16 := Lib.hid (HM15.out.fresh hc16)
      clear hc16 HSa2
      dsimp only
      go_wp2_with (first
        | (go_at_call 19; fail))
      refine (HWk.out _).mono ?_
      rintro e w17 ⟨rfl, hc17⟩
      have HC17 := Lib.hid hc17
      clear hc17
      dsimp only
      go_wp2_with fail
      go_ret
      refine ⟨rfl, ?_⟩
      have hb := chg_now HB11.out (HM16.out.fresh HC17.out).chg
      rw [← HP.out] at hb
      exact chg_now HC0.out hb
    · rw [if_neg hbig] at hA
      by_cases hfull : roomF X'.B.length (lvW recs s a []) < (r.length : Int) + 8
      · rw [if_pos hfull] at hA
        have HA := Lib.hid hA
        clear hA hbig hfull
        dsimp only
        go_wp2_with (first
          | (go_at_call 13; fail))
        refine HA.out.mono ?_
        rintro e w7 ⟨rfl, hat7⟩
        have HA7 := Lib.hid hat7
        clear hat7 HA
        dsimp only
        go_wp2_with (first
          | (go_at_call 10; fail))
        have hat11 := HA7.out.now
        have hb11 := HA7.out.chg
        have hkp := HRd.out.had.now hb11
        have hst := HRd.out.st
        have hs5 : s ≤ 5 := by have := HRd.out.few; omega
        have hf := HRd.out.free
        have hn21 : recs.length ≤ 21 := by have := HRd.out.n20; omega
        have HOp := Lib.hid (wat_open2 hat11 hst (by omega) (by omega))
        have HKp := Lib.hid hkp
        have HB11 := Lib.hid hb11
        have HN21 := Lib.hid hn21
        clear hat11 hb11 hkp hst hs5 hf hn21
        refine HOp.out.mono ?_
        rintro e w12 ⟨m, rfl, hm12, hl12⟩
        have HM12 := Lib.hid hm12
        have HL12 := Lib.hid hl12
        have HRe := Lib.hid (wat_records hl12 (by show (recs).length ≤ _; have := HN21.out; omega))
        clear hm12 hl12 HOp
        dsimp only
        go_wp2_with (first
          | (go_at_call 17; fail))
        refine HRe.out.mono ?_
        rintro e w13 ⟨v13, rfl, ho13, hc13⟩
        have hsa := wat_yes ho13 HKp.out (HL12.out.fresh hc13).chg (by show (recs).length ≤ _; have := HN21.out; omega) rfl
        have HSa := Lib.hid hsa
        have HM13 := Lib.hid (HM12.out.fresh hc13)
        clear hsa ho13 hc13 HRe
        dsimp only
        go_wp2_with (first
          | (go_at_call 21; fail))
        refine HSa.out.mono ?_
        rintro e w14 ⟨rfl, hc14⟩
        have HM14 := Lib.hid (HM13.out.fresh hc14)
        have HRe2 := Lib.hid (wat_records HM14.out (by show (recs).length ≤ _; have := HN21.out; omega))
        clear hc14 HSa
        dsimp only
        go_wp2_with (first
          | (go_at_call 17; fail))
        refine HRe2.out.mono ?_
        rintro e w15 ⟨v15, rfl, ho15, hc15⟩
        have hsa := wat_yes ho15 HKp.out (HM14.out.fresh hc15).chg (by show (recs).length ≤ _; have := HN21.out; omega) rfl
        have HSa2 := Lib.hid hsa
        have HM15 := Lib.hid (HM14.out.fresh hc15)
        clear hsa ho15 hc15 HRe2
        dsimp only
        go_wp2_with (first
          | (go_at_call 21; fail))
        refine HSa2.out.mono ?_
        rintro e w16 ⟨rfl, hc16⟩
        have HM16 := Lib.hid (HM15.out.fresh hc16)
        clear hc16 HSa2
        dsimp only
        go_wp2_with (first
          | (go_at_call 19; fail))
        refine (HWk.out _).mono ?_
        rintro e w17 ⟨rfl, hc17⟩
        have HC17 := Lib.hid hc17
        clear hc17
        dsimp only
        go_wp2_with fail
        go_ret
        refine ⟨rfl, ?_⟩
        have hb := chg_now HB11.out (HM16.out.fresh HC17.out).chg
        rw [← HP.out] at hb
        exact chg_now HC0.out hb
      · rw [if_neg hfull] at hA
        have hfit : (framesB recs).length + sizeB [r] ≤ 64 * areaN X'.B.length := by
          have h1 : roomF X'.B.length (lvW recs s a []) = 64 * (areaN X'.B.length : Int) - (((framesB recs).length : Nat) : Int) - 0 := rfl
          rw [h1] at hfull
          have h2 : sizeB [r] = r.length + 8 := rfl
          omega
        have hsh : ∀ x ∈ [r], x.length ≤ 4096 := fun x hx => by rw [List.mem_singleton] at hx; subst hx; omega
        have HFi := Lib.hid (And.intro hfit hsh)
        have HA := Lib.hid hA
        clear hA hbig hfull hfit hsh
        dsimp only
        go_wp2_with (first
          | (go_at_call 13; fail))
        refine HA.out.mono ?_
        rintro e w7 ⟨rfl, hat7⟩
        have hok7 := lvW_ok HRd.out.st (wait := [] ++ [r]) (by have := HRd.out.few; omega) HFi.out.2 HFi.out.1
        have hrs := wat_reset hat7 hok7 (by have := HRd.out.free; omega) (fun j => by rw [HRd.out.st.idle.L]; simp) [] (.slice none 0 0) ⟨none, 0, rfl, fun h => absurd rfl h, by simp⟩ (fun g hg => by simp [Value.ownBlock] at hg) (by simp) (by simp)
        rw [show resetF X' (lvW recs s a ([] ++ [r])) [] = (11, X', lvW recs s a ([] ++ [r])) by
          rcases reset_lv HRd.out.st (recs2 := []) (wait := [] ++ [r]) _ rfl with h | h | h | h
          · exact h.2
          · exact absurd h.1 (by simp)
          · exact absurd h.1 (by simp)
          · exact absurd h.1 (by simp)] at hrs
        have HRs := Lib.hid hrs
        clear hat7 hok7 hrs HA
        dsimp only
        go_wp2_with (first
          | (go_at_call 20; fail))
        refine HRs.out.mono ?_
        rintro e w8 ⟨rfl, hat8⟩
        have hwt := wat_waiting hat8
        rw [show (((lvW recs s a ([] ++ [r])).wait.length : Nat) : Int) = 1 from rfl] at hwt
        have HWt := Lib.hid hwt
        have HSy := Lib.hid (wat_sync_whole hat8 HRd.out.st (by have := HRd.out.few; omega) HRd.out.free HFi.out.2 HFi.out.1)
        clear hat8 hwt HRs
        dsimp only
        go_wp2_with (first
          | (go_at_call 14; refine HWt.out.mono ?_; rintro e w' ⟨rfl, rfl⟩)
          | (go_at_call 16; fail))
        refine HSy.out.mono ?_
        rintro e w9 ⟨X9, s9, rfl, hat9, hst9, hs9a, hs9b, hf9, hl9⟩
        have hsl9 := HRd.out.had.at' _ hat9.chg
        obtain ⟨v10, w10, v11, w11, hr10, hr11, ho11, hc11⟩ := copy_push hsl9 sr r HSr.out (by have := HRd.out.n20; omega)
        simp only [List.nil_append] at hat9 hst9
        have hn21 : (recs ++ [r]).length ≤ 21 := by rw [List.length_append]; have := HRd.out.n20; show _ + 1 ≤ _; omega
        obtain ⟨R9, hR9⟩ : ∃ x, recs ++ [r] = x := ⟨_, rfl⟩
        rw [hR9] at hat9 hst9 ho11 hn21
        have HN9 := Lib.hid hn21
        clear hR9 hn21
        obtain ⟨oa10, n10, cap10, rfl⟩ : ∃ oa n cap, v10 = .slice oa n cap := hr11.2
        have HR10 := Lib.hid hr10
        have HR11 := Lib.hid hr11.1
        have HA9 := Lib.hid hat9
        have HF9 := Lib.hid (And.intro hst9 (And.intro (show s9 ≤ 5 by have := HRd.out.few; omega) hf9))
        have hk11 : Kp (NowP P w0 w9) w11 v11 R9 := Kp.of_own ho11 (fun g hg hN => by have := hN.2; omega)
        obtain ⟨oa11, cap11, rfl⟩ := own_slice ho11
        have HK := Lib.hid hk11
        have HC11 := Lib.hid hc11
        clear hr10 hr11 hat9 hst9 hs9a hs9b hf9 hl9 hk11 ho11 hc11 hsl9 HSy
        dsimp only
        go_wp2_with (first
          | (at_builtin; first
              | (refine Lib.wpList_append_run _ rfl _ _ _ _ rfl _ _ rfl rfl _ _ HR10.out ?_; clear HR10)
              | refine Lib.wpList_append_run _ rfl _ _ _ _ rfl _ _ rfl rfl _ _ HR11.out ?_)
          | (go_at_call 10; fail))
        have hat11 := HA9.out.rest HC11.out
        have hb11 : Chg P w0 w11 := HA9.out.chg.trans' (HC11.out.mono (fun _ _ h => h.elim))
        have hkp := HK.out
        have hst := HF9.out.1
        have hs5 := HF9.out.2.1
        have hf := HF9.out.2.2
        have hn21 := HN9.out
        have HOp := Lib.hid (wat_open2 hat11 hst (by omega) (by omega))
        have HKp := Lib.hid hkp
        have HB11 := Lib.hid hb11
        have HN21 := Lib.hid hn21
        clear hat11 hb11 hkp hst hs5 hf hn21
        refine HOp.out.mono ?_
        rintro e w12 ⟨m, rfl, hm12, hl12⟩
        have HM12 := Lib.hid hm12
        have HL12 := Lib.hid hl12
        have HRe := Lib.hid (wat_records hl12 (by show (R9).length ≤ _; have := HN21.out; omega))
        clear hm12 hl12 HOp
        dsimp only
        go_wp2_with (first
          | (go_at_call 17; fail))
        refine HRe.out.mono ?_
        rintro e w13 ⟨v13, rfl, ho13, hc13⟩
        have hsa := wat_yes ho13 HKp.out (HL12.out.fresh hc13).chg (by show (R9).length ≤ _; have := HN21.out; omega) rfl
        have HSa := Lib.hid hsa
        have HM13 := Lib.hid (HM12.out.fresh hc13)
        clear hsa ho13 hc13 HRe
        dsimp only
        go_wp2_with (first
          | (go_at_call 21; fail))
        refine HSa.out.mono ?_
        rintro e w14 ⟨rfl, hc14⟩
        have HM14 := Lib.hid (HM13.out.fresh hc14)
        have HRe2 := Lib.hid (wat_records HM14.out (by show (R9).length ≤ _; have := HN21.out; omega))
        clear hc14 HSa
        dsimp only
        go_wp2_with (first
          | (go_at_call 17; fail))
        refine HRe2.out.mono ?_
        rintro e w15 ⟨v15, rfl, ho15, hc15⟩
        have hsa := wat_yes ho15 HKp.out (HM14.out.fresh hc15).chg (by show (R9).length ≤ _; have := HN21.out; omega) rfl
        have HSa2 := Lib.hid hsa
        have HM15 := Lib.hid (HM14.out.fresh hc15)
        clear hsa ho15 hc15 HRe2
        dsimp only
        go_wp2_with (first
          | (go_at_call 21; fail))
        refine HSa2.out.mono ?_
        rintro e w16 ⟨rfl, hc16⟩
        have HM16 := Lib.hid (HM15.out.fresh hc16)
        clear hc16 HSa2
        dsimp only
        go_wp2_with (first
          | (go_at_call 19; fail))
        refine (HWk.out _).mono ?_
        rintro e w17 ⟨rfl, hc17⟩
        have HC17 := Lib.hid hc17
        clear hc17
        dsimp only
        go_wp2_with fail
        go_ret
        refine ⟨rfl, ?_⟩
        have hb := chg_now HB11.out (HM16.out.fresh HC17.out).chg
        rw [← HP.out] at hb
        exact chg_now HC0.out hb

set_option maxRecDepth 100000 in
theorem lifted (os : Os) (started : os.Started) (H : Type) (enc : TypeId × Value → H) :
    ReturnsInHanded {} Try.checked os 5 .any (Rows.walStandsSpec.pre6 enc Try.prog Try.f5 [] false) (Rows.walStandsSpec.post enc Try.prog Try.f5 false true false false) := by
  refine law_handed (C := Try.checked) (tb := 4) own started (by kernel_rfl) Try.func5
    (ChangeSpec.witness6 (enc := enc) (C := Try.checked) false ⟨#[], #[.slice none 0 0, .slice none 0 0, .string ⟨#[]⟩], []⟩ 8 (by kernel_rfl) (by kernel_rfl) (by kernel_rfl) (by kernel_rfl))
    laidOut (by rw [show Try.checked.prog = Try.prog from rfl, Try.params5]; intro t ht; simp at ht; (first | (rcases ht with rfl | rfl | rfl <;> exact ⟨by kernel_rfl, of_decide_eq_true (by kernel_rfl)⟩) | (rcases ht with rfl | rfl <;> exact ⟨by kernel_rfl, of_decide_eq_true (by kernel_rfl)⟩))) rfl rfl Try.underlying4 ?_ ?_
  · intro ds hds
    rw [Try.params5] at hds
    match ds, hds with
    | [_, _, _], _ => rfl
  · intro W base args ds before hval0 hA0 _ hsz0
    have hval : ∀ (j : Nat) t v, Try.f5.params[j]? = some t → args[j]? = some v → Value.okWide Try.prog W .any base t v := hval0
    have hA : DataW.TrodAll enc Try.prog W 0 (fun _ => true) true Try.f5.params.toList args.toList ds before := hA0
    rw [Try.params5] at hA hval
    obtain ⟨v0, vs0, d0, ds0, p0, q0, hargs, rfl, rfl, h0, r0⟩ := trodAll_cons hA
    obtain ⟨v1, vs1, d1, ds1, p1, q1, rfl, rfl, rfl, h1, r1⟩ := trodAll_cons r0
    obtain ⟨v2, vs2, d2, ds2, p2, q2, rfl, rfl, rfl, h2, r2⟩ := trodAll_cons r1
    obtain ⟨rfl, rfl, rfl⟩ := trodAll_nil r2
    obtain rfl : args = #[v0, v1, v2] := by cases args; simp_all
    obtain ⟨bs0, hs0, hl0, hm0⟩ := open_strs (hval 0 22 v0 rfl rfl) h0
    obtain ⟨bs1, hs1, hl1, hm1⟩ := open_strs (hval 1 22 v1 rfl rfl) h1
    obtain ⟨b2, rfl, hb2⟩ := open_str (hval 2 9 v2 rfl rfl) h2
    exact walk W v0 bs0 hs0 hl0 hm0 v1 bs1 hs1 hl1 hm1 b2 hb2

theorem over : Rows.walStandsRow.holds Try.pinned (OpenSpec.ofChange Rows.walStandsSpec) :=
  OpenClaim.holds_of_wide 5 Try.f5 rfl rfl rfl rfl rfl rfl rfl ⟨rfl, rfl, rfl, rfl, rfl⟩ rfl rfl rfl rfl rfl (by kernel_rfl) Try.func5 (by kernel_rfl)
    (of_decide_eq_true (by kernel_rfl)) (by unfold Func.isWrapper; first | (rw [if_pos (by decide +kernel)]; kernel_rfl) | (rw [if_neg (by decide +kernel)]; exact ⟨rfl, rfl⟩))
    (fun os started H enc _ => lifted os started H enc)

theorem proved : Rows.WalStandsSaid := over
#print axioms proved


end Go.Proofs.Ytcfgcllphfooaaa.walStands
end

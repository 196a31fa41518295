/-
  WalRoom, whole: for every call the law returns true and changes nothing that was there. No condition.
-/
import Derived.Test.YtcfgcllphfooaaaPkAa
import Derived.Test.YtcfgcllphfooaaaPkAl
import Derived.Test.YtcfgcllphfooaaaRows

section
set_option linter.unusedSimpArgs false
set_option linter.unusedVariables false
namespace Go.Proofs.Ytcfgcllphfooaaa.walRoom
open Go.ChangeShapes Go.WideShapes Go.ChangeAt Go.RowKit Go.My wals disks

theorem laidOut : laidOutB Try.prog = true := by kernel_rfl
theorem own : ownKnob Try.prog.godebug = none := by kernel_rfl

theorem sizeB_push (l : List Blk) (r : Blk) : sizeB (l ++ [r]) = sizeB l + (r.length + 8) := by simp [sizeB]

/-- What stands behind k rounds. -/
structure Rd (P : Nat → Prop) (W w : World) (l d : Nat) (X : DV) (k : Nat) (wait : List Blk) : Prop where
  at' : WAt P W w l d X (lvW [] 1 0 wait)
  short : ∀ r ∈ wait, r.length ≤ 4096
  fits : sizeB wait ≤ 64 * areaN X.B.length
  few : wait.length ≤ k


set_option maxRecDepth 100000 in
set_option maxHeartbeats 4000000 in
theorem walk (W : World) (v : Value) (bs : List Blk) (hbs : SlAt W v (bs.map strV)) (_ : bs.length ≤ maxLen) (_ : ∀ b ∈ bs, b.length ≤ maxLen) (z : Int) (_ : inR z) :
    Calls Try.prog 3 #[v, .int .i64 z] W fun e w' => e = .returned (.bool true) ∧ Chg (fun _ => False) W w' := by
  obtain ⟨n, hn1, hn2, hw1, hw2⟩ := mod_room z
  have HB := Lib.hid (Blank.new n hn1 (by omega))
  have HNew := Lib.hid (dat_new W n (by omega) (by omega))
  obtain ⟨oa, cap, rfl, q2, q3⟩ := hbs
  rw [List.length_map] at *
  have HV := Lib.hid (show SlAt W (.slice oa bs.length cap) (bs.map strV) from ⟨oa, cap, by rw [List.length_map], q2, q3⟩)
  have HWk := Lib.hid works_any
  have HN := Lib.hid (And.intro hn1 hn2)
  clear q2 q3
  clear hn1 hn2
  go_enter Try.func3, Try.ntmps3
  go_wp2_with (first
    | (go_at_call 9; fail))
  refine HNew.out.mono ?_
  rintro e w1 ⟨d, rfl, hd⟩
  have HO := Lib.hid (wat_open_new hd HB.out rfl)
  clear hd HNew hw1 hw2
  dsimp only
  go_wp2_with (first
    | (go_at_call 10; fail))
  refine HO.out.mono ?_
  rintro e w2 ⟨l, X, rfl, hl, hs, hf, hlen⟩
  rw [DV.new_len] at hlen
  have HL := Lib.hid hl
  have HS := Lib.hid (And.intro hs (And.intro hf hlen))
  have HSm := Lib.hid (small_any w2 _ bs (HV.out.kept (hl.chg.mono (fun _ _ h => h))))
  clear hl hs hf hlen HO
  dsimp only
  go_wp2_with (first
    | (go_at_call 11; fail))
  refine HSm.out.mono ?_
  rintro e w3 ⟨v3, rfl, ho3, hc3⟩
  have HL3 := Lib.hid (HL.out.rest hc3)
  obtain ⟨P, hP⟩ : ∃ P, NowP (fun _ => False) W w2 = P := ⟨_, rfl⟩
  have HP := Lib.hid hP
  rw [hP] at HL3
  have HC3 := Lib.hid (HL.out.chg.trans' hc3)
  have hns : ∀ k, P k → k < w2.heap.size := fun k hk => by rw [← hP] at hk; exact hk.2
  have HNs := Lib.hid hns
  clear hP hns
  obtain ⟨rs, hrs⟩ : ∃ rs, smallL bs = rs := ⟨_, rfl⟩
  rw [hrs] at ho3
  have HRl := Lib.hid (show rs.length ≤ 20 ∧ ∀ r ∈ rs, r.length ≤ 5000 from hrs ▸ ⟨smallL_len bs, fun r hr => smallL_mem hr⟩)
  obtain ⟨oa3, cap3, rfl⟩ := own_slice ho3
  have HO3 := Lib.hid ho3
  have i20 : (rs.length : Int) ≤ 20 := by have := HRl.out.1; omega
  clear ho3 hc3 hrs HSm
  dsimp only
  go_wp2_with fail
  go_loopw [9, 40] (fun n i wr => ∃ (k : Nat) (wait : List Blk), i = .int .i64 k ∧ n = .int .i64 wait.length ∧ k ≤ rs.length ∧ Rd P w3 wr l d X k wait) (fun _ i _ => rs.length - (intOf i).toNat)
  · exact ⟨0, [], rfl, rfl, Nat.zero_le _, HL3.out, by simp, Nat.zero_le _, Nat.le_refl _⟩
  obtain ⟨k, wait, rfl, rfl, hk, hrd⟩ := hrel
  have HRd := Lib.hid hrd
  have hok := lvW_ok HS.out.1 (wait := wait) (by omega) hrd.short (by have := hrd.fits; show 0 + sizeB wait ≤ _; omega)
  have hro := wat_room hrd.at' hok
  obtain ⟨ρ, hρ⟩ : ∃ ρ, roomF X.B.length (lvW [] 1 0 wait) = ρ := ⟨_, rfl⟩
  have hρ2 : ρ = 64 * (areaN X.B.length : Int) - 0 - (sizeB wait : Int) := by rw [← hρ]; rfl
  have hρ3 : ρ ≤ 1000000 := by have := areaN_le HS.out.1.idle.le; omega
  have hρ4 : 0 ≤ ρ := by have := hrd.fits; omega
  rw [hρ] at hro
  have HRo := Lib.hid hro
  have HOk := Lib.hid hok
  have HRh := Lib.hid (And.intro hρ hρ2)
  obtain ⟨nw, hnw⟩ : ∃ nw, wait.length = nw := ⟨_, rfl⟩
  have HNw := Lib.hid hnw
  have hnk : (nw : Int) ≤ 20 := by have := hrd.few; have := HRl.out.1; omega
  have hwl : (((lvW [] 1 0 wait).wait.length : Nat) : Int) = (nw : Int) := by show ((wait.length : Nat) : Int) = _; rw [hnw]
  rw [hnw]
  clear hok hro hρ hρ2 hnw
  by_cases hlt : k < rs.length
  · have hlti : (k : Int) < (rs.length : Int) := by omega
    obtain ⟨r, hr⟩ : ∃ r, rs[k]? = some r := ⟨rs[k], List.getElem?_eq_getElem hlt⟩
    obtain ⟨g3, rfl, hg1, hg2, hcell⟩ := row_cell HO3.out hr
    have hcl : ∀ w', Chg P w3 w' → w'.cell? ⟨g3, k, none⟩ = some (strV r) := fun w' hc => hcell P w' hc (fun hP => by have := HNs.out g3 hP; omega)
    have hrl := HRl.out.2 r (List.mem_of_getElem? hr)
    have hA := fun w' (hh : WAt P w3 w' l d X (lvW [] 1 0 wait)) => wat_add hh HOk.out r (by omega)
    rw [add_lv, HRh.out.1] at hA
    obtain ⟨sr, hsr⟩ : ∃ sr : ByteArray, strV r = .string sr := ⟨_, rfl⟩
    have hsz : sr.size = r.length := by
      have : Value.string (⟨r.toArray⟩ : ByteArray) = .string sr := hsr
      simp only [Value.string.injEq] at this
      rw [← this]; simp [ByteArray.size]
    rw [hsr] at hA
    simp only [hsr] at hcl
    have HCl := Lib.hid hcl
    have HSr := Lib.hid (And.intro hr hsz)
    obtain ⟨N, hN⟩ : ∃ N : Nat, r.length = N := ⟨_, rfl⟩
    rw [hN] at hsz hrl hA
    have HNn := Lib.hid hN
    have hNi : (N : Int) ≤ 5000 := by omega
    have HA := Lib.hid hA
    clear hcl hr hA hcell hg1 hg2 hrd hrl hN hsr
    have hlt : k + 1 ≤ rs.length := hlt
    by_cases hbig : 4096 < N
    · have f1 : (4096 : Int) < (N : Int) := by omega
      have HBg := Lib.hid hbig
      clear hbig
      have hA4 := HA.out
      rw [if_pos HBg.out] at hA4
      have HA4 := Lib.hid hA4
      clear hA4 HA
      go_wp2_with (first
        | (go_at_call 12; fail))
      refine HRo.out.mono ?_
      rintro e w4 ⟨rfl, hc4⟩
      have hat4 := HRd.out.at'.fresh hc4
      have c4 := HCl.out _ hat4.chg
      have HA5 := Lib.hid (HA4.out _ hat4)
      clear hc4 hat4 HRo HA4
      dsimp only
      go_wp2_with (first
        | (go_at_call 13; fail))
      refine HA5.out.mono ?_
      rintro e w5 ⟨rfl, hat5⟩
      have c5 := HCl.out _ hat5.chg
      have hrd5 : Rd P w3 w5 l d X (k + 1) wait := ⟨hat5, HRd.out.short, HRd.out.fits, Nat.le_succ_of_le HRd.out.few⟩
      have hok5 := lvW_ok HS.out.1 (wait := wait) (by omega) hrd5.short (by have := hrd5.fits; show 0 + sizeB _ ≤ _; omega)
      have hro5 := wat_room hat5 hok5
      have hρ5 : roomF X.B.length (lvW [] 1 0 wait) = ρ := HRh.out.1
      rw [hρ5] at hro5
      have HRo5 := Lib.hid hro5
      have HRd5 := Lib.hid hrd5
      clear c4 hat5 hrd5 hok5 hro5 hρ5 HA5
      dsimp only
      go_wp2_with (first
        | (go_at_call 12; fail))
      refine HRo5.out.mono ?_
      rintro e w6 ⟨rfl, hc6⟩
      have hat6 := HRd5.out.at'.fresh hc6
      have HAt6 := Lib.hid hat6
      have hwt := wat_waiting hat6
      rw [show (((lvW [] 1 0 wait).wait.length : Nat) : Int) = (nw : Int) from hwl] at hwt
      have HWt := Lib.hid hwt
      have hus := wat_used hat6
      rw [show (((lvW [] 1 0 wait).used : Nat) : Int) = 0 from rfl] at hus
      have HUs := Lib.hid hus
      clear hc6 hat6 hwt hus HRo5
      dsimp only
      go_wp2_with (first
        | (go_at_call 14; refine HWt.out.mono ?_; rintro e w' ⟨rfl, rfl⟩)
        | (go_at_call 15; refine HUs.out.mono ?_; rintro e w' ⟨rfl, rfl⟩))
      exact ⟨⟨k + 1, wait, by go_num, by rw [HNw.out], hlt, HAt6.out, HRd5.out.short, HRd5.out.fits, HRd5.out.few⟩, by simp [intOf]; omega⟩
    · have f1 : (N : Int) ≤ 4096 := by omega
      have HBg := Lib.hid hbig
      clear hbig
      by_cases hfull : ρ < (N : Int) + 8
      · have HFu := Lib.hid hfull
        have hA4 := HA.out
        rw [if_neg HBg.out, if_pos HFu.out] at hA4
        have HA4 := Lib.hid hA4
        clear hA4 HA
        go_wp2_with (first
          | (go_at_call 12; fail))
        refine HRo.out.mono ?_
        rintro e w4 ⟨rfl, hc4⟩
        have hat4 := HRd.out.at'.fresh hc4
        have c4 := HCl.out _ hat4.chg
        have HA5 := Lib.hid (HA4.out _ hat4)
        clear hc4 hat4 HRo HA4
        dsimp only
        go_wp2_with (first
          | (go_at_call 13; fail))
        refine HA5.out.mono ?_
        rintro e w5 ⟨rfl, hat5⟩
        have c5 := HCl.out _ hat5.chg
        have hrd5 : Rd P w3 w5 l d X (k + 1) wait := ⟨hat5, HRd.out.short, HRd.out.fits, Nat.le_succ_of_le HRd.out.few⟩
        have hok5 := lvW_ok HS.out.1 (wait := wait) (by omega) hrd5.short (by have := hrd5.fits; show 0 + sizeB _ ≤ _; omega)
        have hro5 := wat_room hat5 hok5
        have hρ5 : roomF X.B.length (lvW [] 1 0 wait) = ρ := HRh.out.1
        rw [hρ5] at hro5
        have HRo5 := Lib.hid hro5
        have HRd5 := Lib.hid hrd5
        clear c4 hat5 hrd5 hok5 hro5 hρ5 HA5
        dsimp only
        go_wp2_with (first
          | (go_at_call 12; fail))
        refine HRo5.out.mono ?_
        rintro e w6 ⟨rfl, hc6⟩
        have hat6 := HRd5.out.at'.fresh hc6
        have HAt6 := Lib.hid hat6
        have hwt := wat_waiting hat6
        rw [show (((lvW [] 1 0 wait).wait.length : Nat) : Int) = (nw : Int) from hwl] at hwt
        have HWt := Lib.hid hwt
        have hus := wat_used hat6
        rw [show (((lvW [] 1 0 wait).used : Nat) : Int) = 0 from rfl] at hus
        have HUs := Lib.hid hus
        clear hc6 hat6 hwt hus HRo5
        dsimp only
        go_wp2_with (first
          | (go_at_call 14; refine HWt.out.mono ?_; rintro e w' ⟨rfl, rfl⟩)
          | (go_at_call 15; refine HUs.out.mono ?_; rintro e w' ⟨rfl, rfl⟩))
        exact ⟨⟨k + 1, wait, by go_num, by rw [HNw.out], hlt, HAt6.out, HRd5.out.short, HRd5.out.fits, HRd5.out.few⟩, by simp [intOf]; omega⟩
      · have HFu := Lib.hid hfull
        have f2 : (N : Int) + 8 ≤ ρ := by omega
        have hA4 := HA.out
        rw [if_neg HBg.out, if_neg HFu.out] at hA4
        have HA4 := Lib.hid hA4
        clear hA4 HA
        go_wp2_with (first
          | (go_at_call 12; fail))
        refine HRo.out.mono ?_
        rintro e w4 ⟨rfl, hc4⟩
        have hat4 := HRd.out.at'.fresh hc4
        have c4 := HCl.out _ hat4.chg
        have HA5 := Lib.hid (HA4.out _ hat4)
        clear hc4 hat4 HRo HA4
        dsimp only
        go_wp2_with (first
          | (go_at_call 13; fail))
        refine HA5.out.mono ?_
        rintro e w5 ⟨rfl, hat5⟩
        have c5 := HCl.out _ hat5.chg
        have hrd5 : Rd P w3 w5 l d X (k + 1) (wait ++ [r]) := ⟨hat5, fun x hx => (List.mem_append.1 hx).elim (HRd.out.short x) (fun h => by rw [List.mem_singleton] at h; subst h; have := HNn.out; omega), by rw [sizeB_push, HNn.out]; have := HRh.out.2; omega, by rw [List.length_append]; have := HRd.out.few; show _ + 1 ≤ _; omega⟩
        have hok5 := lvW_ok HS.out.1 (wait := (wait ++ [r])) (by omega) hrd5.short (by have := hrd5.fits; show 0 + sizeB _ ≤ _; omega)
        have hro5 := wat_room hat5 hok5
        have hρ5 : roomF X.B.length (lvW [] 1 0 (wait ++ [r])) = (ρ - ((N : Int) + 8)) := by show 64 * (areaN X.B.length : Int) - 0 - ((sizeB (wait ++ [r]) : Nat) : Int) = _; rw [sizeB_push, HNn.out]; have := HRh.out.2; omega
        rw [hρ5] at hro5
        have HRo5 := Lib.hid hro5
        have HRd5 := Lib.hid hrd5
        clear c4 hat5 hrd5 hok5 hro5 hρ5 HA5
        dsimp only
        go_wp2_with (first
          | (go_at_call 12; fail))
        refine HRo5.out.mono ?_
        rintro e w6 ⟨rfl, hc6⟩
        have hat6 := HRd5.out.at'.fresh hc6
        have HAt6 := Lib.hid hat6
        have hwt := wat_waiting hat6
        rw [show (((lvW [] 1 0 (wait ++ [r])).wait.length : Nat) : Int) = ((nw : Int) + 1) from by show (((wait ++ [r]).length : Nat) : Int) = _; rw [List.length_append, HNw.out]; rfl] at hwt
        have HWt := Lib.hid hwt
        have hus := wat_used hat6
        rw [show (((lvW [] 1 0 (wait ++ [r])).used : Nat) : Int) = 0 from rfl] at hus
        have HUs := Lib.hid hus
        clear hc6 hat6 hwt hus HRo5
        dsimp only
        go_wp2_with (first
          | (go_at_call 14; refine HWt.out.mono ?_; rintro e w' ⟨rfl, rfl⟩)
          | (go_at_call 15; refine HUs.out.mono ?_; rintro e w' ⟨rfl, rfl⟩))
        exact ⟨⟨k + 1, (wait ++ [r]), by go_num, by rw [List.length_append, HNw.out]; rfl, hlt, HAt6.out, HRd5.out.short, HRd5.out.fits, HRd5.out.few⟩, by simp [intOf]; omega⟩
  · have hlti : ¬ (k : Int) < (rs.length : Int) := by omega
    have HSy := fun w' (hh : WAt P w3 w' l d X (lvW [] 1 0 wait)) => wat_sync_whole hh HS.out.1 (by omega) HS.out.2.1 HRd.out.short (by have := HRd.out.fits; show 0 + sizeB wait ≤ _; omega)
    have HSy := Lib.hid HSy
    clear hrd
    go_wp2_with (first
      | (go_at_call 12; fail))
    refine HRo.out.mono ?_
    rintro e w4 ⟨rfl, hc4⟩
    have HSy4 := Lib.hid (HSy.out _ (HRd.out.at'.fresh hc4))
    clear hc4 HRo HSy
    dsimp only
    go_wp2_with (first
      | (go_at_call 16; fail))
    refine HSy4.out.mono ?_
    rintro e w5 ⟨X5, s5, rfl, hat5, hs5, hs5a, hs5b, hf5, hlen5⟩
    rw [List.nil_append] at hat5 hs5
    have hfl : (framesB wait).length = sizeB wait := framesB_length wait
    have hok5 := lvW_ok hs5 (wait := []) (by omega) (by simp) (by have := HRd.out.fits; rw [hlen5, hfl]; show sizeB wait + 0 ≤ _; omega)
    have hro5 := wat_room hat5 hok5
    have hρ5 : roomF X5.B.length (lvW wait s5 0 []) = ρ := by
      rw [hlen5]
      show 64 * (areaN X.B.length : Int) - (((framesB wait).length : Nat) : Int) - 0 = ρ
      rw [hfl]
      have := HRh.out.2
      omega
    rw [hρ5] at hro5
    have HRo5 := Lib.hid hro5
    have HAt5 := Lib.hid hat5
    obtain ⟨m, hm⟩ : ∃ m, X.B.length = m := ⟨_, rfl⟩
    have hm6 : (6 : Int) ≤ (m : Int) := by have := HS.out.1.idle.ge; omega
    have hm7 : (m : Int) ≤ 4096 := by have := HS.out.1.idle.le; omega
    have HM := Lib.hid (And.intro hm (And.intro hlen5 hfl))
    clear hat5 hs5 hs5a hs5b hf5 hlen5 hok5 hro5 hρ5 HSy4 hfl hm
    dsimp only
    go_wp2_with (first
      | (go_at_call 12; fail))
    refine HRo5.out.mono ?_
    rintro e w6 ⟨rfl, hc6⟩
    have hat6 := HAt5.out.fresh hc6
    have HAt6 := Lib.hid hat6
    have hwt := wat_waiting hat6
    rw [show (((lvW wait s5 0 []).wait.length : Nat) : Int) = 0 from rfl] at hwt
    have HWt := Lib.hid hwt
    have HRe := Lib.hid (wat_records hat6 (by show wait.length ≤ _; have := HNw.out; omega))
    clear hc6 hat6 hwt HRo5 HAt5
    dsimp only
    go_wp2_with (first
      | (go_at_call 14; refine HWt.out.mono ?_; rintro e w' ⟨rfl, rfl⟩)
      | (go_at_call 17; fail))
    refine HRe.out.mono ?_
    rintro e w7 ⟨v7, rfl, ho7, hc7⟩
    have hol : (lvW wait s5 0 []).recs.length = nw := HNw.out
    rw [hol] at ho7
    obtain ⟨oa7, cap7, rfl⟩ := own_slice ho7
    have hat7 := HAt6.out.fresh hc7
    have HAt7 := Lib.hid hat7
    have hus := wat_used hat7
    obtain ⟨U, hU⟩ : ∃ U : Nat, sizeB wait = U := ⟨_, rfl⟩
    rw [show (lvW wait s5 0 []).used = U from HM.out.2.2.trans hU] at hus
    have HUs := Lib.hid hus
    have hbl := dat_blocks hat7.disk
    rw [HM.out.2.1, HM.out.1] at hbl
    have HBl := Lib.hid hbl
    have hU2 : (U : Int) = ((m : Int) - 2) / 2 * 64 - ρ := by
      have h1 := HRh.out.2
      rw [HM.out.1, hU] at h1
      have h2 : ((areaN m : Nat) : Int) = ((m : Int) - 2) / 2 := by unfold areaN; omega
      rw [h2] at h1
      omega
    have HU2 := Lib.hid hU2
    clear hc7 hat7 hus hU hbl hU2 ho7 hol HRe HAt6
    dsimp only
    go_wp2_with (first
      | (go_at_call 15; refine HUs.out.mono ?_; rintro e w' ⟨rfl, rfl⟩)
      | (go_at_call 18; refine HBl.out.mono ?_; rintro e w' ⟨rfl, rfl⟩)
      | (go_at_call 19; fail))
    refine (HWk.out _).mono ?_
    rintro e w9 ⟨rfl, hc9⟩
    have HC9 := Lib.hid hc9
    clear hc9
    dsimp only
    go_wp2_with fail
    go_ret
    refine ⟨rfl, ?_⟩
    have hb : Chg (NowP (fun _ => False) W w2) w3 w9 := by rw [HP.out]; exact HAt7.out.chg.trans' (HC9.out.mono (fun _ _ h => h.elim))
    exact chg_now HC3.out hb

set_option maxRecDepth 100000 in
theorem lifted (os : Os) (started : os.Started) (H : Type) (enc : TypeId × Value → H) :
    ReturnsInHanded {} Try.checked os 3 .any (Rows.walRoomSpec.pre6 enc Try.prog Try.f3 [] false) (Rows.walRoomSpec.post enc Try.prog Try.f3 false true false false) := by
  refine law_handed (C := Try.checked) (tb := 4) own started (by kernel_rfl) Try.func3
    (ChangeSpec.witness6 (enc := enc) (C := Try.checked) false ⟨#[], #[.slice none 0 0, .int .i64 0], []⟩ 8 (by kernel_rfl) (by kernel_rfl) (by kernel_rfl) (by kernel_rfl))
    laidOut (by rw [show Try.checked.prog = Try.prog from rfl, Try.params3]; intro t ht; simp at ht; rcases ht with rfl | rfl <;> exact ⟨by kernel_rfl, of_decide_eq_true (by kernel_rfl)⟩) rfl rfl Try.underlying4 ?_ ?_
  · intro ds hds
    rw [Try.params3] at hds
    match ds, hds with
    | [_, _], _ => rfl
  · intro W base args ds before hval0 hA0 _ hsz0
    have hval : ∀ (j : Nat) t v, Try.f3.params[j]? = some t → args[j]? = some v → Value.okWide Try.prog W .any base t v := hval0
    have hA : DataW.TrodAll enc Try.prog W 0 (fun _ => true) true Try.f3.params.toList args.toList ds before := hA0
    rw [Try.params3] at hA hval
    obtain ⟨v0, vs0, d0, ds0, p0, q0, hargs, rfl, rfl, h0, r0⟩ := trodAll_cons hA
    obtain ⟨v1, vs1, d1, ds1, p1, q1, rfl, rfl, rfl, h1, r1⟩ := trodAll_cons r0
    obtain ⟨rfl, rfl, rfl⟩ := trodAll_nil r1
    obtain rfl : args = #[v0, v1] := by cases args; simp_all
    obtain ⟨bs0, hs0, hl0, hm0⟩ := open_strs (hval 0 22 v0 rfl rfl) h0
    obtain ⟨a1, rfl, rfl, rfl, w1⟩ := open_int Try.underlying3 (hval 1 3 v1 rfl rfl) h1
    exact walk W v0 bs0 hs0 hl0 hm0 a1 (wf_inR w1)

theorem over : Rows.walRoomRow.holds Try.pinned (OpenSpec.ofChange Rows.walRoomSpec) :=
  OpenClaim.holds_of_wide 3 Try.f3 rfl rfl rfl rfl rfl rfl rfl ⟨rfl, rfl, rfl, rfl, rfl⟩ rfl rfl rfl rfl rfl (by kernel_rfl) Try.func3 (by kernel_rfl)
    (of_decide_eq_true (by kernel_rfl)) (by unfold Func.isWrapper; first | (rw [if_pos (by decide +kernel)]; kernel_rfl) | (rw [if_neg (by decide +kernel)]; exact ⟨rfl, rfl⟩))
    (fun os started H enc _ => lifted os started H enc)

theorem proved : Rows.WalRoomSaid := over
#print axioms proved


end Go.Proofs.Ytcfgcllphfooaaa.walRoom
end

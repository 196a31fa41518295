/-
  KvMap, whole: for every call the law returns true and changes nothing that was there. No condition.
-/
import Derived.Test.YtbkefhoapnaciaaGreatPkAa
import Derived.Test.YtbkefhoapnaciaaGreatPx0KvMapL
import Derived.Test.YtbkefhoapnaciaaGreatRows

section
set_option linter.unusedSimpArgs false
set_option linter.unusedVariables false
namespace Go.Proofs.YtbkefhoapnaciaaGreat.kvMap
open Go.ChangeShapes Go.WideShapes Go.ChangeAt Go.RowKit Go.Maps Go.My Go.ChangeMaps wals disks kvs

theorem laidOut : laidOutB Tryz.prog = true := by kernel_rfl
theorem own : ownKnob Tryz.prog.godebug = none := by kernel_rfl

/-- The loop's state. -/
structure St (W w : World) (b l q d : Nat) (X : DV) (recs : List Txt) (s a : Nat) (m : List KV) (P : Nat → Prop) (g2 : Nat) (m2 : List KV) (k : Nat) : Prop where
  ok : Okay P W w b l q d X recs s a m
  mir : Mir P w q g2 m2 m
  few : s ≤ 1 + k
  free : X.fuse = -1
theorem St.few' {W w : World} {b l q d : Nat} {X : DV} {recs : List Txt} {s a : Nat} {m : List KV} {P : Nat → Prop} {g2 : Nat} {m2 : List KV} {k : Nat} (h : St W w b l q d X recs s a m P g2 m2 k) : m.length ≤ 65504 := h.ok.rep.few h.ok.st
theorem St.fresh {W w w' : World} {b l q d : Nat} {X : DV} {recs : List Txt} {s a : Nat} {m : List KV} {P : Nat → Prop} {g2 : Nat} {m2 : List KV} {k : Nat} (h : St W w b l q d X recs s a m P g2 m2 k) (hc : Chg (fun _ => False) w w') : St W w' b l q d X recs s a m P g2 m2 k := ⟨h.ok.fresh hc, h.mir.fresh hc, h.few, h.free⟩









set_option linter.unusedVariables false in
set_option maxRecDepth 100000 in
set_option maxHeartbeats 8000000 in
theorem walk (W : World) (z : Int) (_ : inR z) (oaA : Option Addr) (capA : Nat) (acts : List KAct) (hr : RowsAt W 7 oaA (acts.map KAct.row)) (hok : ∀ a ∈ acts, a.ok W) :
    Calls Tryz.prog 8 #[.int .i64 z, .slice oaA acts.length capA] W fun e w' => e = .returned (.bool true) ∧ Chg (fun _ => False) W w' := by
  obtain ⟨n, hn1, hn2, hw1, hw2⟩ := mod_120 z
  have HWk := Lib.hid works_any
  have HNew := Lib.hid (ds_new W W (Chg.refl _ _) n (by omega) (by omega))
  have HB := Lib.hid (Blank.new n hn1 (by omega))
  have HOk := Lib.hid hok
  have HR := Lib.hid hr
  have hmm := @run_makeMap Tryz.prog
  clear hok hr hn1 hn2
  go_enter Tryz.func8, Tryz.ntmps8
  go_wp2_with (first
    | (go_at_call 17; fail))
  refine HNew.out.mono ?_
  rintro e w1 ⟨d, rfl, P, hd⟩
  have HO := Lib.hid (ks_open_new w1 hd HB.out rfl)
  clear hd HNew hw1 hw2
  dsimp only
  go_wp2_with (first
    | (go_at_call 18; fail))
  refine HO.out.mono ?_
  rintro e w2 ⟨b, rfl, l, q, m, X, recs, s, a, P2, hk2, rfl, rfl, hst, hf, hlen⟩
  obtain rfl := rep_nil hk2.rep
  have hc3 : Chg (fun _ => False) w2 (w2.alloc (.map #[] 0)) := (Chg.refl _ _).alloc _
  have hs3 : St W (w2.alloc (.map #[] 0)) b l q d X [] 1 a [] P2 w2.heap.size [] 0 :=
    ⟨⟨hk2.ks.fresh hc3, hst, hk2.rep⟩, ⟨MapIs.made sKey strV (block_alloc_new _ _), hk2.ks.made (Nat.le_refl _) (by rw [World.size_alloc]; omega), fun _ => rfl⟩, Nat.le_refl _, hf⟩
  have HS3 := Lib.hid hs3
  clear hk2 hst hf hlen hc3 hs3 HO HB
  dsimp only
  go_wp2_with fail
  go_loopw [7, 9, 10] (fun u7 u9 j wr => ∃ k : Nat, j = .int .i64 k ∧ k ≤ acts.length ∧ k ≤ 30 ∧ ∃ b l q X recs s a m P g2 m2, u7 = .pointer (some ⟨b, 0, none⟩) ∧ u9 = .map (some g2) ∧ St W wr b l q d X recs s a m P g2 m2 k) (fun _ _ j _ => 30 - (intOf j).toNat)
  · exact ⟨0, rfl, Nat.zero_le _, Nat.zero_le _, _, _, _, _, _, _, _, _, _, _, _, rfl, rfl, HS3.out⟩
  clear HS3
  obtain ⟨k, rfl, hk1, hk2, b, l, q, X, recs, s, a, m, P, g2, m2, rfl, rfl, hs0⟩ := hrel
  have HS0 := Lib.hid hs0
  clear hs0
  by_cases hlt : k < acts.length ∧ k < 30
  · obtain ⟨hlt1, hlt2⟩ := hlt
    have j1 : (k : Int) < (acts.length : Int) := by omega
    have j2 : (k : Int) < 30 := by omega
    obtain ⟨A, hA⟩ : ∃ A, acts[k]? = some A := ⟨acts[k], List.getElem?_eq_getElem hlt1⟩
    have hAok := HOk.out A (List.mem_of_getElem? hA)
    have hrow : (acts.map KAct.row)[k]? = some A.row := by rw [List.getElem?_map, hA]; rfl
    obtain ⟨g, off, rfl⟩ := HR.out.spot (by intro e; have := congrArg List.length e; rw [List.length_map] at this; simp at this; rw [this] at hlt1; simp at hlt1)
    obtain ⟨kd, hkd⟩ : ∃ kd, A.kind = kd := ⟨_, rfl⟩
    obtain ⟨bv, hbv⟩ : ∃ bv, A.bv = bv := ⟨_, rfl⟩
    have hcell : ∀ w', Chg (fun _ => False) W w' → w'.cell? ⟨g, off + k * 7, none⟩ = some (.int .i64 kd) := fun w' hc => by
      have := (HR.out.kept hc (fun _ _ h => h)).cell g off rfl k _ 0 _ hrow rfl
      rw [hkd] at this
      exact this
    have d2 : wr.cell? ⟨g, off + k * 7 + 2, none⟩ = some bv := by
      have := (HR.out.kept HS0.out.ok.ks.chg (fun _ _ h => h)).cell g off rfl k _ 2 _ hrow rfl
      rw [hbv] at this
      exact this
    have hsm := small_any wr A.bv A.batch (hAok.bv.kept HS0.out.ok.ks.chg (fun _ _ h => h)) hAok.sized
    rw [hbv] at hsm
    obtain ⟨S, hS⟩ : ∃ S, smallP A.batch = S := ⟨_, rfl⟩
    have hSl : S.length ≤ 70 := by rw [← hS]; exact smallP_len _
    have hSk : ∀ p ∈ S, p.key.length ≤ maxLen := fun p hp => by rw [← hS] at hp; have := (smallP_mem hp).1; unfold maxLen; omega
    rw [hS] at hsm
    have HSm := Lib.hid hsm
    have HKd := Lib.hid hcell
    have HSl := Lib.hid (And.intro hSl hSk)
    clear hA hAok hrow hkd hbv hcell hsm hS hSl hSk
    go_wp2_with (first
      | (go_at_call 16; fail))
    refine HSm.out.mono ?_
    rintro e w1 ⟨v1, rfl, hp1, hc1⟩
    obtain ⟨oa1, cap1, rfl, -⟩ := hp1.slice
    rw [List.length_map] at *
    have HS1 := Lib.hid (HS0.out.fresh hc1)
    have HP1 := Lib.hid hp1
    have HBs := Lib.hid (show ∀ g, (Value.slice oa1 S.length cap1).ownBlock = some g → Beside P q w1 g from fun g hg => HS0.out.ok.ks.made (hp1.lt hg).1 (hp1.lt hg).2)
    have f0 := HKd.out w1 HS1.out.ok.ks.chg
    have HDo := Lib.hid (ks_do w1 HS1.out.ok.ks HS1.out.ok.st (by have := HS1.out.few; omega) HS1.out.ok.rep (by have := HS1.out.free; omega) hp1 (by have := HSl.out.1; omega) HBs.out)
    have HCo := Lib.hid (ks_compact w1 HS1.out.ok.ks HS1.out.ok.st (by have := HS1.out.few; omega) HS1.out.ok.rep (by have := HS1.out.free; omega))
    clear hp1 hc1 HSm HS0 d2
    dsimp only
    by_cases h1 : kd = 1
    · subst h1
      go_wp2_with (first
        | (go_at_call 23; fail))
      refine HCo.out.mono ?_
      rintro e w4 ⟨z4, rfl, X4, V4, m4, P4, hn4, ho4⟩
      obtain ⟨recs4, s4, a4, rfl, hs41, hs42, hst4, hr4, hf4, -, hz⟩ := ho4.free HS1.out.free HS1.out.ok.st HS1.out.ok.rep
      clear ho4 f0
      rcases hz with ⟨hz, hm4⟩ | ⟨hz, -, hm4⟩
      · subst hz
        have HS5 := Lib.hid (show St W w4 b l q d X4 recs4 s4 a4 m4 P4 g2 m2 (k + 1) from ⟨⟨hn4.ks, hst4, hr4⟩, HS1.out.mir.next hn4 (fun j => by rw [hm4]), by have := HS1.out.few; omega, hf4⟩)
        clear hn4 hst4 hr4 hf4 hs41 hs42 hm4
        dsimp only
        have HHas := Lib.hid (has_yes _ HS5.out.ok.ks HS5.out.ok.rep HS5.out.few' HS5.out.mir)
        go_wp2_with (first
          | (go_at_call 25; fail))
        refine HHas.out.mono ?_
        rintro e w6 ⟨rfl, hc6⟩
        have HS6 := Lib.hid (HS5.out.fresh hc6)
        have e0 := HKd.out w6 HS6.out.ok.ks.chg
        clear hc6 HHas
        dsimp only
        go_wp2_with fail
        exact ⟨⟨k + 1, by go_num, by omega, by omega, _, _, _, _, _, _, _, _, _, _, _, rfl, rfl, HS6.out⟩, by simp [intOf]; omega⟩
      · have hz : z4 = 7 := hz
        subst hz
        have HS5 := Lib.hid (show St W w4 b l q d X4 recs4 s4 a4 m4 P4 g2 m2 (k + 1) from ⟨⟨hn4.ks, hst4, hr4⟩, HS1.out.mir.next hn4 (fun j => by rw [hm4]), by have := HS1.out.few; omega, hf4⟩)
        clear hn4 hst4 hr4 hf4 hs41 hs42 hm4
        dsimp only
        have HHas := Lib.hid (has_yes _ HS5.out.ok.ks HS5.out.ok.rep HS5.out.few' HS5.out.mir)
        go_wp2_with (first
          | (go_at_call 25; fail))
        refine HHas.out.mono ?_
        rintro e w6 ⟨rfl, hc6⟩
        have HS6 := Lib.hid (HS5.out.fresh hc6)
        have e0 := HKd.out w6 HS6.out.ok.ks.chg
        clear hc6 HHas
        dsimp only
        go_wp2_with fail
        exact ⟨⟨k + 1, by go_num, by omega, by omega, _, _, _, _, _, _, _, _, _, _, _, rfl, rfl, HS6.out⟩, by simp [intOf]; omega⟩
    · have h1b : (kd == 1) = false := by simpa using h1
      go_wp2_with (first
        | (go_at_call 19; fail))
      refine HDo.out.mono ?_
      rintro e w4 ⟨z4, rfl, X4, V4, m4, P4, hn4, ho4⟩
      obtain ⟨recs4, s4, a4, rfl, hs41, hs42, hst4, hr4, hf4, -, hz⟩ := ho4.free HS1.out.free HS1.out.ok.st HS1.out.ok.rep
      clear ho4 f0
      rcases hz with ⟨hz, hm4⟩ | ⟨-, hz | hz | hz, hm4⟩
      · subst hz
        have hmk := HS1.out.mir.keys HS1.out.ok.rep
        have HDs := Lib.hid (does_any w4 (hn4.keep HS1.out.mir.off HS1.out.mir.at') (fun p hp => by have := hmk p hp; unfold maxLen; omega) (hn4.puts HBs.out HP1.out) HSl.out.2 (by have := HSl.out.1; omega))
        have HN4 := Lib.hid hn4
        have HM4 := Lib.hid (And.intro hst4 (And.intro hr4 (And.intro hf4 (And.intro hs42 hm4))))
        clear hn4 hst4 hr4 hf4 hs41 hs42 hm4 hmk
        dsimp only
        go_wp2_with (first
          | (go_at_call 24; fail))
        refine HDs.out.mono ?_
        rintro e w5 ⟨g3, rfl, m3, hm3, hs3, hg3, hc5⟩
        have HS5 := Lib.hid (show St W w5 b l q d X4 recs4 s4 a4 m4 P4 g3 m3 (k + 1) from ⟨⟨HN4.out.ks.fresh hc5, HM4.out.1, HM4.out.2.1⟩, ⟨hm3, HN4.out.ks.made hg3 hm3.lt, fun j => by rw [HM4.out.2.2.2.2, hs3]; exact applyF_get HS1.out.mir.same S j⟩, by have := HS1.out.few; have := HM4.out.2.2.2.1; omega, HM4.out.2.2.1⟩)
        clear hm3 hs3 hg3 hc5 HDs HN4 HM4
        dsimp only
        by_cases h4 : kd = 4
        · subst h4
          clear h1 h1b
          have HHas := Lib.hid (has_yes _ HS5.out.ok.ks HS5.out.ok.rep HS5.out.few' HS5.out.mir)
          go_wp2_with (first
            | (go_at_call 25; fail))
          refine HHas.out.mono ?_
          rintro e w6 ⟨rfl, hc6⟩
          have HS6 := Lib.hid (HS5.out.fresh hc6)
          have e0 := HKd.out w6 HS6.out.ok.ks.chg
          clear hc6 HHas
          dsimp only
          have HO := Lib.hid (ks_open w6 HS6.out.ok.ks.disk HS6.out.ok.st (by have := HS6.out.few; omega) (by have := HS6.out.free; omega) HS6.out.ok.rep)
          go_wp2_with (first
            | (go_at_call 18; fail))
          refine HO.out.mono ?_
          rintro e w7 ⟨b7, rfl, l7, q7, m7, P7, hk7, hm7⟩
          have hs7 : St W w7 b7 l7 q7 d _ _ _ _ m7 P7 _ _ (k + 1) := ⟨⟨hk7.ks, HS6.out.ok.st, hk7.rep⟩, ⟨HS6.out.mir.at'.kept hk7.chg HS6.out.mir.off.1, hk7.off _ HS6.out.mir.off.2.2 HS6.out.mir.off.1, fun j => (hm7 j).trans (HS6.out.mir.same j)⟩, HS6.out.few, HS6.out.free⟩
          have HS7 := Lib.hid hs7
          have HHas7 := Lib.hid (has_yes _ hs7.ok.ks hs7.ok.rep hs7.few' hs7.mir)
          clear hk7 hm7 hs7 HO e0
          dsimp only
          go_wp2_with (first
            | (go_at_call 25; refine HHas7.out.mono ?_; rintro e w8 ⟨rfl, hc8⟩; have HS8 := Lib.hid (HS7.out.fresh hc8); clear hc8))
          exact ⟨⟨k + 1, by go_num, by omega, by omega, _, _, _, _, _, _, _, _, _, _, _, rfl, rfl, HS8.out⟩, by simp [intOf]; omega⟩
        · have h4b : (kd == 4) = false := by simpa using h4
          have HHas := Lib.hid (has_yes _ HS5.out.ok.ks HS5.out.ok.rep HS5.out.few' HS5.out.mir)
          go_wp2_with (first
            | (go_at_call 25; fail))
          refine HHas.out.mono ?_
          rintro e w6 ⟨rfl, hc6⟩
          have HS6 := Lib.hid (HS5.out.fresh hc6)
          have e0 := HKd.out w6 HS6.out.ok.ks.chg
          clear hc6 HHas
          dsimp only
          go_wp2_with fail
          exact ⟨⟨k + 1, by go_num, by omega, by omega, _, _, _, _, _, _, _, _, _, _, _, rfl, rfl, HS6.out⟩, by simp [intOf]; omega⟩
      · subst hz
        have HS5 := Lib.hid (show St W w4 b l q d X4 recs4 s4 a4 m4 P4 g2 m2 (k + 1) from ⟨⟨hn4.ks, hst4, hr4⟩, HS1.out.mir.next hn4 (fun j => by rw [hm4]), by have := HS1.out.few; omega, hf4⟩)
        clear hn4 hst4 hr4 hf4 hs41 hs42 hm4
        dsimp only
        by_cases h4 : kd = 4
        · subst h4
          clear h1 h1b
          have HHas := Lib.hid (has_yes _ HS5.out.ok.ks HS5.out.ok.rep HS5.out.few' HS5.out.mir)
          go_wp2_with (first
            | (go_at_call 25; fail))
          refine HHas.out.mono ?_
          rintro e w6 ⟨rfl, hc6⟩
          have HS6 := Lib.hid (HS5.out.fresh hc6)
          have e0 := HKd.out w6 HS6.out.ok.ks.chg
          clear hc6 HHas
          dsimp only
          have HO := Lib.hid (ks_open w6 HS6.out.ok.ks.disk HS6.out.ok.st (by have := HS6.out.few; omega) (by have := HS6.out.free; omega) HS6.out.ok.rep)
          go_wp2_with (first
            | (go_at_call 18; fail))
          refine HO.out.mono ?_
          rintro e w7 ⟨b7, rfl, l7, q7, m7, P7, hk7, hm7⟩
          have hs7 : St W w7 b7 l7 q7 d _ _ _ _ m7 P7 _ _ (k + 1) := ⟨⟨hk7.ks, HS6.out.ok.st, hk7.rep⟩, ⟨HS6.out.mir.at'.kept hk7.chg HS6.out.mir.off.1, hk7.off _ HS6.out.mir.off.2.2 HS6.out.mir.off.1, fun j => (hm7 j).trans (HS6.out.mir.same j)⟩, HS6.out.few, HS6.out.free⟩
          have HS7 := Lib.hid hs7
          have HHas7 := Lib.hid (has_yes _ hs7.ok.ks hs7.ok.rep hs7.few' hs7.mir)
          clear hk7 hm7 hs7 HO e0
          dsimp only
          go_wp2_with (first
            | (go_at_call 25; refine HHas7.out.mono ?_; rintro e w8 ⟨rfl, hc8⟩; have HS8 := Lib.hid (HS7.out.fresh hc8); clear hc8))
          exact ⟨⟨k + 1, by go_num, by omega, by omega, _, _, _, _, _, _, _, _, _, _, _, rfl, rfl, HS8.out⟩, by simp [intOf]; omega⟩
        · have h4b : (kd == 4) = false := by simpa using h4
          have HHas := Lib.hid (has_yes _ HS5.out.ok.ks HS5.out.ok.rep HS5.out.few' HS5.out.mir)
          go_wp2_with (first
            | (go_at_call 25; fail))
          refine HHas.out.mono ?_
          rintro e w6 ⟨rfl, hc6⟩
          have HS6 := Lib.hid (HS5.out.fresh hc6)
          have e0 := HKd.out w6 HS6.out.ok.ks.chg
          clear hc6 HHas
          dsimp only
          go_wp2_with fail
          exact ⟨⟨k + 1, by go_num, by omega, by omega, _, _, _, _, _, _, _, _, _, _, _, rfl, rfl, HS6.out⟩, by simp [intOf]; omega⟩
      · subst hz
        have HS5 := Lib.hid (show St W w4 b l q d X4 recs4 s4 a4 m4 P4 g2 m2 (k + 1) from ⟨⟨hn4.ks, hst4, hr4⟩, HS1.out.mir.next hn4 (fun j => by rw [hm4]), by have := HS1.out.few; omega, hf4⟩)
        clear hn4 hst4 hr4 hf4 hs41 hs42 hm4
        dsimp only
        by_cases h4 : kd = 4
        · subst h4
          clear h1 h1b
          have HHas := Lib.hid (has_yes _ HS5.out.ok.ks HS5.out.ok.rep HS5.out.few' HS5.out.mir)
          go_wp2_with (first
            | (go_at_call 25; fail))
          refine HHas.out.mono ?_
          rintro e w6 ⟨rfl, hc6⟩
          have HS6 := Lib.hid (HS5.out.fresh hc6)
          have e0 := HKd.out w6 HS6.out.ok.ks.chg
          clear hc6 HHas
          dsimp only
          have HO := Lib.hid (ks_open w6 HS6.out.ok.ks.disk HS6.out.ok.st (by have := HS6.out.few; omega) (by have := HS6.out.free; omega) HS6.out.ok.rep)
          go_wp2_with (first
            | (go_at_call 18; fail))
          refine HO.out.mono ?_
          rintro e w7 ⟨b7, rfl, l7, q7, m7, P7, hk7, hm7⟩
          have hs7 : St W w7 b7 l7 q7 d _ _ _ _ m7 P7 _ _ (k + 1) := ⟨⟨hk7.ks, HS6.out.ok.st, hk7.rep⟩, ⟨HS6.out.mir.at'.kept hk7.chg HS6.out.mir.off.1, hk7.off _ HS6.out.mir.off.2.2 HS6.out.mir.off.1, fun j => (hm7 j).trans (HS6.out.mir.same j)⟩, HS6.out.few, HS6.out.free⟩
          have HS7 := Lib.hid hs7
          have HHas7 := Lib.hid (has_yes _ hs7.ok.ks hs7.ok.rep hs7.few' hs7.mir)
          clear hk7 hm7 hs7 HO e0
          dsimp only
          go_wp2_with (first
            | (go_at_call 25; refine HHas7.out.mono ?_; rintro e w8 ⟨rfl, hc8⟩; have HS8 := Lib.hid (HS7.out.fresh hc8); clear hc8))
          exact ⟨⟨k + 1, by go_num, by omega, by omega, _, _, _, _, _, _, _, _, _, _, _, rfl, rfl, HS8.out⟩, by simp [intOf]; omega⟩
        · have h4b : (kd == 4) = false := by simpa using h4
          have HHas := Lib.hid (has_yes _ HS5.out.ok.ks HS5.out.ok.rep HS5.out.few' HS5.out.mir)
          go_wp2_with (first
            | (go_at_call 25; fail))
          refine HHas.out.mono ?_
          rintro e w6 ⟨rfl, hc6⟩
          have HS6 := Lib.hid (HS5.out.fresh hc6)
          have e0 := HKd.out w6 HS6.out.ok.ks.chg
          clear hc6 HHas
          dsimp only
          go_wp2_with fail
          exact ⟨⟨k + 1, by go_num, by omega, by omega, _, _, _, _, _, _, _, _, _, _, _, rfl, rfl, HS6.out⟩, by simp [intOf]; omega⟩
      · subst hz
        have HS5 := Lib.hid (show St W w4 b l q d X4 recs4 s4 a4 m4 P4 g2 m2 (k + 1) from ⟨⟨hn4.ks, hst4, hr4⟩, HS1.out.mir.next hn4 (fun j => by rw [hm4]), by have := HS1.out.few; omega, hf4⟩)
        clear hn4 hst4 hr4 hf4 hs41 hs42 hm4
        dsimp only
        by_cases h4 : kd = 4
        · subst h4
          clear h1 h1b
          have HHas := Lib.hid (has_yes _ HS5.out.ok.ks HS5.out.ok.rep HS5.out.few' HS5.out.mir)
          go_wp2_with (first
            | (go_at_call 25; fail))
          refine HHas.out.mono ?_
          rintro e w6 ⟨rfl, hc6⟩
          have HS6 := Lib.hid (HS5.out.fresh hc6)
          have e0 := HKd.out w6 HS6.out.ok.ks.chg
          clear hc6 HHas
          dsimp only
          have HO := Lib.hid (ks_open w6 HS6.out.ok.ks.disk HS6.out.ok.st (by have := HS6.out.few; omega) (by have := HS6.out.free; omega) HS6.out.ok.rep)
          go_wp2_with (first
            | (go_at_call 18; fail))
          refine HO.out.mono ?_
          rintro e w7 ⟨b7, rfl, l7, q7, m7, P7, hk7, hm7⟩
          have hs7 : St W w7 b7 l7 q7 d _ _ _ _ m7 P7 _ _ (k + 1) := ⟨⟨hk7.ks, HS6.out.ok.st, hk7.rep⟩, ⟨HS6.out.mir.at'.kept hk7.chg HS6.out.mir.off.1, hk7.off _ HS6.out.mir.off.2.2 HS6.out.mir.off.1, fun j => (hm7 j).trans (HS6.out.mir.same j)⟩, HS6.out.few, HS6.out.free⟩
          have HS7 := Lib.hid hs7
          have HHas7 := Lib.hid (has_yes _ hs7.ok.ks hs7.ok.rep hs7.few' hs7.mir)
          clear hk7 hm7 hs7 HO e0
          dsimp only
          go_wp2_with (first
            | (go_at_call 25; refine HHas7.out.mono ?_; rintro e w8 ⟨rfl, hc8⟩; have HS8 := Lib.hid (HS7.out.fresh hc8); clear hc8))
          exact ⟨⟨k + 1, by go_num, by omega, by omega, _, _, _, _, _, _, _, _, _, _, _, rfl, rfl, HS8.out⟩, by simp [intOf]; omega⟩
        · have h4b : (kd == 4) = false := by simpa using h4
          have HHas := Lib.hid (has_yes _ HS5.out.ok.ks HS5.out.ok.rep HS5.out.few' HS5.out.mir)
          go_wp2_with (first
            | (go_at_call 25; fail))
          refine HHas.out.mono ?_
          rintro e w6 ⟨rfl, hc6⟩
          have HS6 := Lib.hid (HS5.out.fresh hc6)
          have e0 := HKd.out w6 HS6.out.ok.ks.chg
          clear hc6 HHas
          dsimp only
          go_wp2_with fail
          exact ⟨⟨k + 1, by go_num, by omega, by omega, _, _, _, _, _, _, _, _, _, _, _, rfl, rfl, HS6.out⟩, by simp [intOf]; omega⟩
  · by_cases hkl : k < acts.length
    · have j1 : (k : Int) < (acts.length : Int) := by omega
      obtain rfl : k = 30 := by omega
      clear hlt
      have HO := Lib.hid (ks_open wr HS0.out.ok.ks.disk HS0.out.ok.st (by have := HS0.out.few; omega) (by have := HS0.out.free; omega) HS0.out.ok.rep)
      go_wp2_with (first
        | (go_at_call 18; fail))
      refine HO.out.mono ?_
      rintro e w7 ⟨b7, rfl, l7, q7, m7, P7, hk7, hm7⟩
      have hs7 : St W w7 b7 l7 q7 d _ _ _ _ m7 P7 _ _ _ := ⟨⟨hk7.ks, HS0.out.ok.st, hk7.rep⟩, ⟨HS0.out.mir.at'.kept hk7.chg HS0.out.mir.off.1, hk7.off _ HS0.out.mir.off.2.2 HS0.out.mir.off.1, fun j => (hm7 j).trans (HS0.out.mir.same j)⟩, HS0.out.few, HS0.out.free⟩
      have HS7 := Lib.hid hs7
      have HHas7 := Lib.hid (has_yes _ hs7.ok.ks hs7.ok.rep hs7.few' hs7.mir)
      clear hk7 hm7 hs7 HO
      dsimp only
      go_wp2_with (first
        | (go_at_call 25; refine HHas7.out.mono ?_; rintro e w8 ⟨rfl, hc8⟩; have HS8 := Lib.hid (HS7.out.fresh hc8); clear hc8)
        | (go_at_call 15; refine (HWk.out _).mono ?_; rintro e w9 ⟨rfl, hc9⟩; have HC9 := Lib.hid hc9; clear hc9))
      go_ret
      exact ⟨rfl, HS8.out.ok.ks.chg.trans' HC9.out⟩
    · have j1 : ¬ (k : Int) < (acts.length : Int) := by omega
      clear hlt
      have HO := Lib.hid (ks_open wr HS0.out.ok.ks.disk HS0.out.ok.st (by have := HS0.out.few; omega) (by have := HS0.out.free; omega) HS0.out.ok.rep)
      go_wp2_with (first
        | (go_at_call 18; fail))
      refine HO.out.mono ?_
      rintro e w7 ⟨b7, rfl, l7, q7, m7, P7, hk7, hm7⟩
      have hs7 : St W w7 b7 l7 q7 d _ _ _ _ m7 P7 _ _ _ := ⟨⟨hk7.ks, HS0.out.ok.st, hk7.rep⟩, ⟨HS0.out.mir.at'.kept hk7.chg HS0.out.mir.off.1, hk7.off _ HS0.out.mir.off.2.2 HS0.out.mir.off.1, fun j => (hm7 j).trans (HS0.out.mir.same j)⟩, HS0.out.few, HS0.out.free⟩
      have HS7 := Lib.hid hs7
      have HHas7 := Lib.hid (has_yes _ hs7.ok.ks hs7.ok.rep hs7.few' hs7.mir)
      clear hk7 hm7 hs7 HO
      dsimp only
      go_wp2_with (first
        | (go_at_call 25; refine HHas7.out.mono ?_; rintro e w8 ⟨rfl, hc8⟩; have HS8 := Lib.hid (HS7.out.fresh hc8); clear hc8)
        | (go_at_call 15; refine (HWk.out _).mono ?_; rintro e w9 ⟨rfl, hc9⟩; have HC9 := Lib.hid hc9; clear hc9))
      go_ret
      exact ⟨rfl, HS8.out.ok.ks.chg.trans' HC9.out⟩

set_option maxRecDepth 100000 in
theorem lifted (os : Os) (started : os.Started) (H : Type) (enc : TypeId × Value → H) :
    ReturnsInHanded {} Tryz.checked os 8 .any (Rows.kvMapSpec.pre6 enc Tryz.prog Tryz.f8 [] false) (Rows.kvMapSpec.post enc Tryz.prog Tryz.f8 false true false false) := by
  refine law_handed (C := Tryz.checked) (tb := 4) own started (by kernel_rfl) Tryz.func8
    (ChangeSpec.witness6 (enc := enc) (C := Tryz.checked) false ⟨#[], #[.int .i64 0, .slice none 0 0], []⟩ 8 (by kernel_rfl) (by kernel_rfl) (by kernel_rfl) (by kernel_rfl))
    laidOut (by rw [show Tryz.checked.prog = Tryz.prog from rfl, Tryz.params8]; intro t ht; simp at ht; rcases ht with rfl | rfl <;> exact ⟨by kernel_rfl, of_decide_eq_true (by kernel_rfl)⟩) rfl rfl Tryz.underlying4 ?_ ?_
  · intro ds hds
    rw [Tryz.params8] at hds
    match ds, hds with
    | [_, _], _ => rfl
  · intro W base args ds before hval0 hA0 _ hsz0
    have hval : ∀ (j : Nat) t v, Tryz.f8.params[j]? = some t → args[j]? = some v → Value.okWide Tryz.prog W .any base t v := hval0
    have hA : DataW.TrodAll enc Tryz.prog W 0 (fun _ => true) true Tryz.f8.params.toList args.toList ds before := hA0
    rw [Tryz.params8] at hA hval
    have hsz : (DataW.weightsEach Tryz.prog Tryz.f8.params.toList ds).all (· ≤ reachBytes) = true := hsz0
    rw [Tryz.params8] at hsz
    obtain ⟨v0, vs0, d0, ds0, p0, q0, hargs, rfl, rfl, h0, r0⟩ := trodAll_cons hA
    obtain ⟨v1, vs1, d1, ds1, p1, q1, rfl, rfl, rfl, h1, r1⟩ := trodAll_cons r0
    obtain ⟨rfl, rfl, rfl⟩ := trodAll_nil r1
    obtain rfl : args = #[v0, v1] := by cases args; simp_all
    obtain ⟨a0, rfl, rfl, rfl, w0⟩ := open_int Tryz.underlying3 (hval 0 3 v0 rfl rfl) h0
    obtain ⟨oa1, l1, cap1, rfl, -, -, g1, ok1⟩ := open_acts11 (hval 1 63 v1 rfl rfl) h1 (fun n hn => by have := List.all_eq_true.1 hsz n (weightsEach_mem (i := 1) rfl rfl n hn); simpa using this)
    exact walk W a0 (wf_inR w0) oa1 cap1 l1 g1 ok1

theorem over : Rows.kvMapRow.holds Tryz.pinned (OpenSpec.ofChange Rows.kvMapSpec) :=
  OpenClaim.holds_of_wide 8 Tryz.f8 rfl rfl rfl rfl rfl rfl rfl ⟨rfl, rfl, rfl, rfl, rfl⟩ rfl rfl rfl rfl rfl (by kernel_rfl) Tryz.func8 (by kernel_rfl)
    (of_decide_eq_true (by kernel_rfl)) (by unfold Func.isWrapper; first | (rw [if_pos (by decide +kernel)]; kernel_rfl) | (rw [if_neg (by decide +kernel)]; exact ⟨rfl, rfl⟩))
    (fun os started H enc _ => lifted os started H enc)

theorem proved : Rows.KvMapSaid := over
#print axioms proved



end Go.Proofs.YtbkefhoapnaciaaGreat.kvMap
end

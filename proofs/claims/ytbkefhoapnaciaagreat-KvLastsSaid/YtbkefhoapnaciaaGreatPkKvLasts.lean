/-
  KvLasts, whole: for every call the law returns true and changes nothing that was there. No condition.
-/
import Derived.Test.YtbkefhoapnaciaaGreatPkAa
import Derived.Test.YtbkefhoapnaciaaGreatPx0KvLasts
import Derived.Test.YtbkefhoapnaciaaGreatRows

section
set_option linter.unusedSimpArgs false
set_option linter.unusedVariables false
namespace Go.Proofs.YtbkefhoapnaciaaGreat.kvLasts
open Go.ChangeShapes Go.WideShapes Go.ChangeAt Go.RowKit Go.Maps Go.My Go.ChangeMaps wals disks kvs

theorem laidOut : laidOutB Tryz.prog = true := by kernel_rfl
theorem own : ownKnob Tryz.prog.godebug = none := by kernel_rfl

/-- The loop's state, as long as all is up. -/
structure St (W w : World) (b l q d : Nat) (X : DV) (recs : List Txt) (s a : Nat) (m : List KV) (P : Nat → Prop) (g2 : Nat) (m2 : List KV) (gx : Nat) (mx : List KV) (k : Nat) : Prop where
  ok : Okay P W w b l q d X recs s a m
  mir : Mir P w q g2 m2 m
  atx : MapAt w gx mx
  offx : Beside P q w gx
  few : s ≤ 1 + k
  fuse : X.fuse ≤ 79
section
variable {W w w' : World} {b l q d s a g2 gx k : Nat} {X : DV} {recs : List Txt} {m m2 mx : List KV} {P : Nat → Prop}
theorem St.few' (h : St W w b l q d X recs s a m P g2 m2 gx mx k) : m.length ≤ 65504 := h.ok.rep.few h.ok.st
theorem St.fresh (h : St W w b l q d X recs s a m P g2 m2 gx mx k) (hc : Chg (fun _ => False) w w') : St W w' b l q d X recs s a m P g2 m2 gx mx k := ⟨h.ok.fresh hc, h.mir.fresh hc, h.atx.kept hc id, h.offx.fresh hc, h.few, h.fuse⟩
theorem St.ex (h : St W w b l q d X recs s a m P g2 m2 gx mx k) (hk : k ≤ 30) : Ex W w d X g2 gx P m2 mx :=
  ⟨h.ok.ks.disk, fun j => by rw [h.ok.st.idle.L]; simp, h.mir.at', h.mir.off.1, h.atx, h.offx.1, fun keep => Or.inr ⟨recs, s, a, m, by have := h.few; omega, h.ok.st.crash keep, h.ok.rep, Or.inl h.mir.same⟩⟩
end

def zP : PV := ⟨[122], [], false⟩
theorem enc_z : (encF [zP]).2 = 0 := by decide




set_option linter.unusedVariables false in
set_option maxRecDepth 100000 in
set_option maxHeartbeats 8000000 in
theorem walk (W : World) (oaA : Option Addr) (capA : Nat) (acts : List KAct) (hr : RowsAt W 7 oaA (acts.map KAct.row)) (hok : ∀ a ∈ acts, a.ok W) (z : Int) (_ : inR z) (kv : Value) (keep : List Int) (hkv : SlAt W kv (keep.map (Value.int .i64))) (hkz : ∀ x ∈ keep, inR x) :
    Calls Tryz.prog 9 #[.slice oaA acts.length capA, .int .i64 z, kv] W fun e w' => e = .returned (.bool true) ∧ Chg (fun _ => False) W w' := by
  obtain ⟨n, hn, hw1, hw2⟩ := mod_80 z
  have HWk := Lib.hid works_any
  have HNew := Lib.hid (ds_new W W (Chg.refl _ _) 60 (by omega) (by omega))
  have HB := Lib.hid (Blank.new 60 (by omega) (by omega))
  obtain ⟨oak, capk, rfl, q2, q3⟩ := hkv
  rw [List.length_map] at *
  have HKv := Lib.hid (show SlAt W (.slice oak keep.length capk) (keep.map (Value.int .i64)) from ⟨oak, capk, by rw [List.length_map], q2, q3⟩)
  have HKz := Lib.hid hkz
  have HOk := Lib.hid hok
  have HR := Lib.hid hr
  have HNn := Lib.hid hn
  have hmm := @run_makeMap Tryz.prog
  clear hok hr hn q2 q3 hkz
  go_enter Tryz.func9, Tryz.ntmps9
  go_wp2_with (first
    | (go_at_call 17; fail))
  refine HNew.out.mono ?_
  rintro e w1 ⟨d, rfl, P, hd⟩
  have hfu := ds_fuse hd (n : Int)
  rw [show fuseC (DV.new 60) (n : Int) = 0 by simp [fuseC, DV.new]] at hfu
  have HFu := Lib.hid hfu
  clear hd hfu HNew hw1 hw2
  dsimp only
  go_wp2_with (first
    | (go_at_call 26; fail))
  refine HFu.out.mono ?_
  rintro e w2 ⟨rfl, P2, hd2⟩
  obtain ⟨X2, hX2⟩ : ∃ X2, (DV.new 60).set (n : Int) = X2 := ⟨_, rfl⟩
  rw [hX2] at hd2
  have hb2 : Blank X2 := by
    rw [← hX2]
    have := HB.out.idle.set (n : Int)
    exact ⟨this.1, by rw [this.2]; exact HB.out.x, by rw [this.2]; exact HB.out.y⟩
  have hf2 : X2.fuse ≤ 79 := by
    rw [← hX2]
    have : ((DV.new 60).set (n : Int)).fuse = (n : Int) := by
      unfold DV.set
      rw [if_neg (by simp [DV.new])]
    rw [this]
    have := HNn.out
    omega
  have hc3 : Chg (fun _ => False) w2 (w2.alloc (.map #[] 0)) := (Chg.refl _ _).alloc _
  have hd3 := hd2.fresh hc3
  have hg0 : ¬ P2 w2.heap.size := fun h => by have := hd2.lt _ h; omega
  have hm0 : MapAt (w2.alloc (.map #[] 0)) w2.heap.size [] := MapIs.made sKey strV (block_alloc_new _ _)
  have hop := ks_open_blank _ hd3 hb2 (by omega)
  have H0 := Lib.hid (And.intro hg0 hm0)
  have HF2 := Lib.hid hf2
  clear hd2 hX2 hb2 hf2 hc3 hd3 hg0 hm0 HFu HB HNn
  dsimp only
  rcases hop with hop | hop
  · have HO := Lib.hid hop
    clear hop
    go_wp2_with (first
      | (go_at_call 18; fail))
    refine HO.out.mono ?_
    rintro e w4 ⟨b, rfl, l, q, m, X, recs, s, a, P4, hk4, rfl, rfl, hst, hg, hlen⟩
    obtain rfl := rep_nil hk4.rep
    have hm4 := H0.out.2.kept hk4.chg H0.out.1
    have ho4 := hk4.off w2.heap.size (by rw [World.size_alloc]; omega) H0.out.1
    have HS4 := Lib.hid (show St W w4 b l q d X [] 1 a [] P4 w2.heap.size [] w2.heap.size [] 0 from ⟨⟨hk4.ks, hst, hk4.rep⟩, ⟨hm4, ho4, fun _ => rfl⟩, hm4, ho4, Nat.le_refl _, by have := hg.fuse; have := HF2.out; omega⟩)
    clear hk4 hst hg hlen hm4 ho4 HO H0
    dsimp only
    go_wp2_with fail
    go_loopw [8, 9, 10, 12] (fun u8 u9 u10 j wr => ∃ k : Nat, j = .int .i64 k ∧ k ≤ acts.length ∧ k ≤ 30 ∧ ∃ g9 g10, u9 = .map (some g9) ∧ u10 = .map (some g10) ∧ ((u8 = .int .i64 0 ∧ ∃ X recs s a m P m9 m10, St W wr b l q d X recs s a m P g9 m9 g10 m10 k) ∨ (u8 = .int .i64 15 ∧ ∃ X P m9 m10, Ex W wr d X g9 g10 P m9 m10))) (fun _ _ _ j _ => 30 - (intOf j).toNat)
    · exact ⟨0, rfl, Nat.zero_le _, Nat.zero_le _, _, _, rfl, rfl, Or.inl ⟨rfl, _, _, _, _, _, _, _, _, HS4.out⟩⟩
    clear HS4
    obtain ⟨k, rfl, hk1, hk2, g9, g10, rfl, rfl, hst⟩ := hrel
    rcases hst with ⟨rfl, X, recs, s, a, m, P, m9, m10, hs0⟩ | ⟨rfl, X, P, m9, m10, he0⟩
    · by_cases hlt : k < acts.length ∧ k < 30
      · have HS0 := Lib.hid hs0
        clear hs0
        obtain ⟨hlt1, hlt2⟩ := hlt
        have j1 : (k : Int) < (acts.length : Int) := by omega
        have j2 : (k : Int) < 30 := by omega
        obtain ⟨A, hA⟩ : ∃ A, acts[k]? = some A := ⟨acts[k], List.getElem?_eq_getElem hlt1⟩
        have hAok := HOk.out A (List.mem_of_getElem? hA)
        have hrow : (acts.map KAct.row)[k]? = some A.row := by rw [List.getElem?_map, hA]; rfl
        obtain ⟨g, off, rfl⟩ := HR.out.spot (by intro e; have := congrArg List.length e; rw [List.length_map] at this; simp at this; rw [this] at hlt1; simp at hlt1)
        obtain ⟨kd, hkd⟩ : ∃ kd, A.kind = kd := ⟨_, rfl⟩
        obtain ⟨bv, hbv⟩ : ∃ bv, A.bv = bv := ⟨_, rfl⟩
        have hcell : ∀ w', Chg (fun _ => False) W w' → w'.cell? ⟨g, off + k * 7, none⟩ = some (.int .i64 kd) := fun w' hc => by
          have := (HR.out.kept hc (fun _ _ h => h)).cell g off rfl k _ 0 _ hrow rfl
          rw [hkd] at this
          exact this
        have d2 : wr.cell? ⟨g, off + k * 7 + 2, none⟩ = some bv := by
          have := (HR.out.kept HS0.out.ok.ks.chg (fun _ _ h => h)).cell g off rfl k _ 2 _ hrow rfl
          rw [hbv] at this
          exact this
        have hsm := small_any wr A.bv A.batch (hAok.bv.kept HS0.out.ok.ks.chg (fun _ _ h => h)) hAok.sized
        rw [hbv] at hsm
        obtain ⟨S, hS⟩ : ∃ S, smallP A.batch = S := ⟨_, rfl⟩
        have hSl : S.length ≤ 70 := by rw [← hS]; exact smallP_len _
        have hSk : ∀ p ∈ S, p.key.length ≤ maxLen := fun p hp => by rw [← hS] at hp; have := (smallP_mem hp).1; unfold maxLen; omega
        rw [hS] at hsm
        have HSm := Lib.hid hsm
        have HKd := Lib.hid hcell
        have HSl := Lib.hid (And.intro hSl hSk)
        clear hA hAok hrow hkd hbv hcell hsm hS hSl hSk
        go_wp2_with (first
          | (go_at_call 16; fail))
        refine HSm.out.mono ?_
        rintro e w1 ⟨v1, rfl, hp1, hc1⟩
        obtain ⟨oa1, cap1, rfl, -⟩ := hp1.slice
        rw [List.length_map] at *
        have HS1 := Lib.hid (HS0.out.fresh hc1)
        have HP1 := Lib.hid hp1
        have HBs := Lib.hid (show ∀ g, (Value.slice oa1 S.length cap1).ownBlock = some g → Beside P q w1 g from fun g hg => HS0.out.ok.ks.made (hp1.lt hg).1 (hp1.lt hg).2)
        have f0 := HKd.out w1 HS1.out.ok.ks.chg
        clear hp1 hc1 HSm HS0 d2
        dsimp only
        by_cases h1 : kd = 1
        · subst h1
          have HS3 := Lib.hid (show St W w1 b l q d X recs s a m P g9 m9 g9 m9 k from ⟨HS1.out.ok, HS1.out.mir, HS1.out.mir.at', HS1.out.mir.off, HS1.out.few, HS1.out.fuse⟩)
          have HX := Lib.hid HS1.out.mir.same
          have HCo := Lib.hid (ks_compact w1 HS1.out.ok.ks HS1.out.ok.st (by have := HS1.out.few; omega) HS1.out.ok.rep (by have := HS1.out.fuse; omega))
          go_wp2_with (first
            | (go_at_call 23; fail))
          refine HCo.out.mono ?_
          clear f0 HS1
          rintro e w4 ⟨z4, rfl, X4, V4, m4, P4, hn4, ho4⟩
          have HN4 := Lib.hid hn4
          clear hn4 HCo
          cases ho4 with
          | done h1 h2 h3 h4 h5 h6 =>
            have HS4 := Lib.hid (show St W w4 b l q d _ _ _ _ _ P4 g9 m9 g9 m9 (k + 1) from ⟨⟨HN4.out.ks, h3, h4⟩, ⟨HN4.out.keep HS3.out.offx HS3.out.atx, HN4.out.off _ HS3.out.offx, HX.out⟩, HN4.out.keep HS3.out.offx HS3.out.atx, HN4.out.off _ HS3.out.offx, by have := HS3.out.few; omega, by have := h5.fuse; have := HS3.out.fuse; omega⟩)
            clear h1 h2 h3 h4 h5 h6
            dsimp only
            go_wp2_with fail
            exact ⟨⟨k + 1, by go_num, by omega, by omega, _, _, rfl, rfl, Or.inl ⟨rfl, _, _, _, _, _, _, _, _, HS4.out⟩⟩, by simp [intOf]; omega⟩
          | refused h1 h2 =>
            have hup := ks_up HN4.out.ks
            rw [show (!X.down) = true by rw [HS3.out.ok.st.idle.up]; rfl] at hup
            have HUp := Lib.hid hup
            have HS4 := Lib.hid (show St W w4 b l q d _ _ _ _ _ P4 g9 m9 g9 m9 (k + 1) from ⟨⟨HN4.out.ks, HS3.out.ok.st, HS3.out.ok.rep⟩, HS3.out.mir.next HN4.out (fun _ => rfl), HN4.out.keep HS3.out.mir.off HS3.out.mir.at', HN4.out.off _ HS3.out.mir.off, by have := HS3.out.few; omega, HS3.out.fuse⟩)
            clear hup h1
            dsimp only
            rcases h2 with rfl | rfl | rfl
            · go_wp2_with (first
                | (go_at_call 27; refine HUp.out.mono ?_; rintro e w' ⟨rfl, rfl⟩))
              exact ⟨⟨k + 1, by go_num, by omega, by omega, _, _, rfl, rfl, Or.inl ⟨rfl, _, _, _, _, _, _, _, _, HS4.out⟩⟩, by simp [intOf]; omega⟩
            · go_wp2_with (first
                | (go_at_call 27; refine HUp.out.mono ?_; rintro e w' ⟨rfl, rfl⟩))
              exact ⟨⟨k + 1, by go_num, by omega, by omega, _, _, rfl, rfl, Or.inl ⟨rfl, _, _, _, _, _, _, _, _, HS4.out⟩⟩, by simp [intOf]; omega⟩
            · go_wp2_with (first
                | (go_at_call 27; refine HUp.out.mono ?_; rintro e w' ⟨rfl, rfl⟩))
              exact ⟨⟨k + 1, by go_num, by omega, by omega, _, _, rfl, rfl, Or.inl ⟨rfl, _, _, _, _, _, _, _, _, HS4.out⟩⟩, by simp [intOf]; omega⟩
          | cut h1 h2 h3 h4 h5 h6 h7 h8 =>
            have hup := ks_up HN4.out.ks
            rw [show (!X4.down) = false by rw [h2]; rfl] at hup
            have HUp := Lib.hid hup
            have HMi := Lib.hid (HS3.out.mir.next HN4.out (fun _ => rfl))
            have HHas := Lib.hid (has_yes w4 HN4.out.ks HS3.out.ok.rep HS3.out.few' HMi.out)
            have HV := Lib.hid (And.intro h6 h7)
            have HCr := Lib.hid (And.intro h5 h8)
            clear hup h1 h2 h3 h4 h5 h6 h7 h8
            dsimp only
            go_wp2_with (first
              | (go_at_call 27; refine HUp.out.mono ?_; rintro e w' ⟨rfl, rfl⟩)
              | (go_at_call 25; refine HHas.out.mono ?_; rintro e w5 ⟨rfl, hc5⟩; have HC5 := Lib.hid hc5; clear hc5)
              | (go_at_call 19; fail))
            have hca : Chg (fun _ => False) w5 (w5.alloc (.cells #[.string ⟨#[122]⟩, .string ⟨#[]⟩, .bool false] 45)) := (Chg.refl _ _).alloc _
            have hps : Puts (w5.alloc (.cells #[.string ⟨#[122]⟩, .string ⟨#[]⟩, .bool false] 45)) w5.heap.size (.slice (some ⟨w5.heap.size, 0, none⟩) 1 1) [zP] := puts_block (ps := [zP]) (block_alloc_new _ _) rfl (by decide)
            have HC6 := Lib.hid (HC5.out.trans' hca)
            have HDz := Lib.hid (ks_lost _ (HN4.out.ks.fresh HC6.out) HV.out.2 HV.out.1 hps (by decide) enc_z)
            clear hca hps
            refine HDz.out.mono ?_
            rintro e w7 ⟨rfl, P7, hn7⟩
            have hmi6 := HMi.out.fresh HC6.out
            have hat6 := (HN4.out.keep HS3.out.offx HS3.out.atx).kept HC6.out id
            have hof6 := (HN4.out.off _ HS3.out.offx).fresh HC6.out
            have HE7 := Lib.hid (show Ex W w7 d X4 g9 g9 P7 m9 m9 from ⟨hn7.ks.disk, HCr.out.1, hn7.keep hmi6.off hmi6.at', (hn7.off _ hmi6.off).1, hn7.keep hof6 hat6, (hn7.off _ hof6).1, fun keep => by
              obtain ⟨recs', s', a', i1, i2, i3, i4⟩ := HCr.out.2 keep
              have := HS3.out.few
              refine Or.inr ⟨recs', s', a', ?_⟩
              rcases i4 with i4 | i4
              · exact ⟨_, by omega, i3, i4, Or.inl HS3.out.mir.same⟩
              · exact ⟨_, by omega, i3, i4, Or.inr HX.out⟩⟩)
            clear hn7 hmi6 hat6 hof6 HDz
            dsimp only
            go_wp2_with fail
            exact ⟨⟨k + 1, by go_num, by omega, by omega, _, _, rfl, rfl, Or.inr ⟨rfl, _, _, _, _, HE7.out⟩⟩, by simp [intOf]; omega⟩
        · have h1b : (kd == 1) = false := by simpa using h1
          have hmk := HS1.out.mir.keys HS1.out.ok.rep
          have HDs := Lib.hid (does_any w1 HS1.out.mir.at' (fun p hp => by have := hmk p hp; unfold maxLen; omega) HP1.out HSl.out.2 (by have := HSl.out.1; omega))
          clear hmk
          go_wp2_with (first
            | (go_at_call 24; fail))
          refine HDs.out.mono ?_
          rintro e w3 ⟨g3, rfl, m3, hm3, hs3, hg3, hc3⟩
          have HS3 := Lib.hid (show St W w3 b l q d X recs s a m P g9 m9 g3 m3 k from ⟨HS1.out.ok.fresh hc3, HS1.out.mir.fresh hc3, hm3, HS1.out.ok.ks.made hg3 hm3.lt, HS1.out.few, HS1.out.fuse⟩)
          have HX := Lib.hid (show ∀ j, mget (applyF m S) j = mget m3 j from fun j => by rw [hs3]; exact applyF_get HS1.out.mir.same S j)
          have HDo := Lib.hid (ks_do w3 HS3.out.ok.ks HS3.out.ok.st (by have := HS3.out.few; omega) HS3.out.ok.rep (by have := HS3.out.fuse; omega) (HP1.out.kept hc3 (fun _ _ h => h)) (by have := HSl.out.1; omega) (fun g hg => (HBs.out g hg).fresh hc3))
          clear hm3 hs3 hg3 hc3 HDs HS1
          dsimp only
          go_wp2_with (first
            | (go_at_call 19; fail))
          refine HDo.out.mono ?_
          clear f0
          rintro e w4 ⟨z4, rfl, X4, V4, m4, P4, hn4, ho4⟩
          have HN4 := Lib.hid hn4
          clear hn4 HDo
          cases ho4 with
          | done h1 h2 h3 h4 h5 h6 =>
            have HS4 := Lib.hid (show St W w4 b l q d _ _ _ _ _ P4 g3 m3 g3 m3 (k + 1) from ⟨⟨HN4.out.ks, h3, h4⟩, ⟨HN4.out.keep HS3.out.offx HS3.out.atx, HN4.out.off _ HS3.out.offx, HX.out⟩, HN4.out.keep HS3.out.offx HS3.out.atx, HN4.out.off _ HS3.out.offx, by have := HS3.out.few; omega, by have := h5.fuse; have := HS3.out.fuse; omega⟩)
            clear h1 h2 h3 h4 h5 h6
            dsimp only
            go_wp2_with fail
            exact ⟨⟨k + 1, by go_num, by omega, by omega, _, _, rfl, rfl, Or.inl ⟨rfl, _, _, _, _, _, _, _, _, HS4.out⟩⟩, by simp [intOf]; omega⟩
          | refused h1 h2 =>
            have hup := ks_up HN4.out.ks
            rw [show (!X.down) = true by rw [HS3.out.ok.st.idle.up]; rfl] at hup
            have HUp := Lib.hid hup
            have HS4 := Lib.hid (show St W w4 b l q d _ _ _ _ _ P4 g9 m9 g9 m9 (k + 1) from ⟨⟨HN4.out.ks, HS3.out.ok.st, HS3.out.ok.rep⟩, HS3.out.mir.next HN4.out (fun _ => rfl), HN4.out.keep HS3.out.mir.off HS3.out.mir.at', HN4.out.off _ HS3.out.mir.off, by have := HS3.out.few; omega, HS3.out.fuse⟩)
            clear hup h1
            dsimp only
            rcases h2 with rfl | rfl | rfl
            · go_wp2_with (first
                | (go_at_call 27; refine HUp.out.mono ?_; rintro e w' ⟨rfl, rfl⟩))
              exact ⟨⟨k + 1, by go_num, by omega, by omega, _, _, rfl, rfl, Or.inl ⟨rfl, _, _, _, _, _, _, _, _, HS4.out⟩⟩, by simp [intOf]; omega⟩
            · go_wp2_with (first
                | (go_at_call 27; refine HUp.out.mono ?_; rintro e w' ⟨rfl, rfl⟩))
              exact ⟨⟨k + 1, by go_num, by omega, by omega, _, _, rfl, rfl, Or.inl ⟨rfl, _, _, _, _, _, _, _, _, HS4.out⟩⟩, by simp [intOf]; omega⟩
            · go_wp2_with (first
                | (go_at_call 27; refine HUp.out.mono ?_; rintro e w' ⟨rfl, rfl⟩))
              exact ⟨⟨k + 1, by go_num, by omega, by omega, _, _, rfl, rfl, Or.inl ⟨rfl, _, _, _, _, _, _, _, _, HS4.out⟩⟩, by simp [intOf]; omega⟩
          | cut h1 h2 h3 h4 h5 h6 h7 h8 =>
            have hup := ks_up HN4.out.ks
            rw [show (!X4.down) = false by rw [h2]; rfl] at hup
            have HUp := Lib.hid hup
            have HMi := Lib.hid (HS3.out.mir.next HN4.out (fun _ => rfl))
            have HHas := Lib.hid (has_yes w4 HN4.out.ks HS3.out.ok.rep HS3.out.few' HMi.out)
            have HV := Lib.hid (And.intro h6 h7)
            have HCr := Lib.hid (And.intro h5 h8)
            clear hup h1 h2 h3 h4 h5 h6 h7 h8
            dsimp only
            go_wp2_with (first
              | (go_at_call 27; refine HUp.out.mono ?_; rintro e w' ⟨rfl, rfl⟩)
              | (go_at_call 25; refine HHas.out.mono ?_; rintro e w5 ⟨rfl, hc5⟩; have HC5 := Lib.hid hc5; clear hc5)
              | (go_at_call 19; fail))
            have hca : Chg (fun _ => False) w5 (w5.alloc (.cells #[.string ⟨#[122]⟩, .string ⟨#[]⟩, .bool false] 45)) := (Chg.refl _ _).alloc _
            have hps : Puts (w5.alloc (.cells #[.string ⟨#[122]⟩, .string ⟨#[]⟩, .bool false] 45)) w5.heap.size (.slice (some ⟨w5.heap.size, 0, none⟩) 1 1) [zP] := puts_block (ps := [zP]) (block_alloc_new _ _) rfl (by decide)
            have HC6 := Lib.hid (HC5.out.trans' hca)
            have HDz := Lib.hid (ks_lost _ (HN4.out.ks.fresh HC6.out) HV.out.2 HV.out.1 hps (by decide) enc_z)
            clear hca hps
            refine HDz.out.mono ?_
            rintro e w7 ⟨rfl, P7, hn7⟩
            have hmi6 := HMi.out.fresh HC6.out
            have hat6 := (HN4.out.keep HS3.out.offx HS3.out.atx).kept HC6.out id
            have hof6 := (HN4.out.off _ HS3.out.offx).fresh HC6.out
            have HE7 := Lib.hid (show Ex W w7 d X4 g9 g3 P7 m9 m3 from ⟨hn7.ks.disk, HCr.out.1, hn7.keep hmi6.off hmi6.at', (hn7.off _ hmi6.off).1, hn7.keep hof6 hat6, (hn7.off _ hof6).1, fun keep => by
              obtain ⟨recs', s', a', i1, i2, i3, i4⟩ := HCr.out.2 keep
              have := HS3.out.few
              refine Or.inr ⟨recs', s', a', ?_⟩
              rcases i4 with i4 | i4
              · exact ⟨_, by omega, i3, i4, Or.inl HS3.out.mir.same⟩
              · exact ⟨_, by omega, i3, i4, Or.inr HX.out⟩⟩)
            clear hn7 hmi6 hat6 hof6 HDz
            dsimp only
            go_wp2_with fail
            exact ⟨⟨k + 1, by go_num, by omega, by omega, _, _, rfl, rfl, Or.inr ⟨rfl, _, _, _, _, HE7.out⟩⟩, by simp [intOf]; omega⟩
      · have HE := Lib.hid (hs0.ex hk2)
        clear hs0
        by_cases hkl : k < acts.length
        · have j1 : (k : Int) < (acts.length : Int) := by omega
          obtain rfl : k = 30 := by omega
          clear hlt
          have HCr := Lib.hid (ds_crash HE.out.ds (HKv.out.kept HE.out.ds.chg) (fun hne g hg hp => by
            have h1 := HE.out.ds.new g hp
            have h2 := slat_old HKv.out (by intro e; exact hne (by cases keep with | nil => rfl | cons => simp at e)) hg
            omega) HKz.out (fun j => by have := HE.out.L j; omega))
          go_wp2_with (first
            | (go_at_call 28; fail))
          refine HCr.out.mono ?_
          rintro e w5 ⟨rfl, P5, hd5, hcx, hoff⟩
          have hop : Calls Tryz.prog 18 #[.pointer (some ⟨d, 0, none⟩)] w5 fun e w' => ∃ b, e = .returned (.tuple #[.pointer (some ⟨b, 0, none⟩), .int .i64 0]) ∧ ∃ l q m X' recs s a P', KOpen P5 W w5 w' b l q d X' recs s a m P' ∧ m.length ≤ 65504 ∧ ((∀ k, mget m k = mget m9 k) ∨ ∀ k, mget m k = mget m10 k) := by
            rcases HE.out.crash keep with ⟨hb, h0⟩ | ⟨recs, s, a, mm, hs, hst, hr, hor⟩
            · refine (ks_open_new w5 hd5 hb rfl).mono ?_
              rintro e w' ⟨b, rfl, l, q, m, X', recs, s, a, P', hk, rfl, rfl, hst, -, -⟩
              obtain rfl := rep_nil hk.rep
              exact ⟨b, rfl, l, q, [], X', [], 1, a, P', hk, by simp, Or.inl (fun k => by rw [h0])⟩
            · refine (ks_open w5 hd5 hst (by omega) (by show (-1 : Int) ≤ _; omega) hr).mono ?_
              rintro e w' ⟨b, rfl, l, q, m, P', hk, hm⟩
              exact ⟨b, rfl, l, q, m, _, recs, s, a, P', hk, hk.rep.few hst, hor.imp (fun h k => (hm k).trans (h k)) (fun h k => (hm k).trans (h k))⟩
          have HOp := Lib.hid hop
          have HA9 := Lib.hid (And.intro (HE.out.at9.kept hcx HE.out.off9) (hoff g9 HE.out.at9.lt HE.out.off9))
          have HA10 := Lib.hid (And.intro (HE.out.at10.kept hcx HE.out.off10) (hoff g10 HE.out.at10.lt HE.out.off10))
          clear hop hd5 hcx hoff HCr
          dsimp only
          go_wp2_with (first
            | (go_at_call 18; fail))
          refine HOp.out.mono ?_
          rintro e w6 ⟨b6, rfl, l6, q6, m6, X6, recs6, s6, a6, P6, hk6, hm6, hor6⟩
          have HK6 := Lib.hid hk6
          have HM6 := Lib.hid (And.intro hm6 hor6)
          have h9 := has_some w6 hk6.ks hk6.rep hm6 (HA9.out.1.kept hk6.chg HA9.out.2)
          have H9 := Lib.hid h9
          clear hk6 hm6 hor6 h9 HOp
          dsimp only
          go_wp2_with (first
            | (go_at_call 25; fail))
          refine H9.out.mono ?_
          rintro e w7 ⟨v7, rfl, ⟨β, rfl, hβ⟩, hc7⟩
          have HC7 := Lib.hid (HK6.out.ks.chg.trans' hc7)
          cases β with
          | true =>
            clear hβ hc7
            dsimp only
            go_wp2_with (first
              | (go_at_call 15; refine (HWk.out _).mono ?_; rintro e w9 ⟨rfl, hc9⟩; have HC9 := Lib.hid hc9; clear hc9))
            go_ret
            exact ⟨rfl, HC7.out.trans' HC9.out⟩
          | false =>
            have hsx : ∀ k, mget m6 k = mget m10 k := HM6.out.2.resolve_left (fun h => by have := hβ h; cases this)
            have hys := has_some w7 (HK6.out.ks.fresh hc7) HK6.out.rep HM6.out.1 ((HA10.out.1.kept HK6.out.chg HA10.out.2).kept hc7 id)
            have hys2 : Calls Tryz.prog 25 #[.pointer (some ⟨b6, 0, none⟩), .map (some g10)] w7 fun e w' => e = .returned (.bool true) ∧ Chg (fun _ => False) w7 w' := by
              refine hys.mono ?_
              rintro e w' ⟨_, rfl, ⟨β, rfl, hβ⟩, hc⟩
              rw [hβ hsx]
              exact ⟨rfl, hc⟩
            have HYs := Lib.hid hys2
            clear hβ hc7 hsx hys hys2
            dsimp only
            go_wp2_with (first
              | (go_at_call 25; fail))
            refine HYs.out.mono ?_
            rintro e w8 ⟨rfl, hc8⟩
            have HC8 := Lib.hid (HC7.out.trans' hc8)
            clear hc8 HYs
            dsimp only
            go_wp2_with (first
              | (go_at_call 15; refine (HWk.out _).mono ?_; rintro e w9 ⟨rfl, hc9⟩; have HC9 := Lib.hid hc9; clear hc9))
            go_ret
            exact ⟨rfl, HC8.out.trans' HC9.out⟩
        · have j1 : ¬ (k : Int) < (acts.length : Int) := by omega
          clear hlt
          have HCr := Lib.hid (ds_crash HE.out.ds (HKv.out.kept HE.out.ds.chg) (fun hne g hg hp => by
            have h1 := HE.out.ds.new g hp
            have h2 := slat_old HKv.out (by intro e; exact hne (by cases keep with | nil => rfl | cons => simp at e)) hg
            omega) HKz.out (fun j => by have := HE.out.L j; omega))
          go_wp2_with (first
            | (go_at_call 28; fail))
          refine HCr.out.mono ?_
          rintro e w5 ⟨rfl, P5, hd5, hcx, hoff⟩
          have hop : Calls Tryz.prog 18 #[.pointer (some ⟨d, 0, none⟩)] w5 fun e w' => ∃ b, e = .returned (.tuple #[.pointer (some ⟨b, 0, none⟩), .int .i64 0]) ∧ ∃ l q m X' recs s a P', KOpen P5 W w5 w' b l q d X' recs s a m P' ∧ m.length ≤ 65504 ∧ ((∀ k, mget m k = mget m9 k) ∨ ∀ k, mget m k = mget m10 k) := by
            rcases HE.out.crash keep with ⟨hb, h0⟩ | ⟨recs, s, a, mm, hs, hst, hr, hor⟩
            · refine (ks_open_new w5 hd5 hb rfl).mono ?_
              rintro e w' ⟨b, rfl, l, q, m, X', recs, s, a, P', hk, rfl, rfl, hst, -, -⟩
              obtain rfl := rep_nil hk.rep
              exact ⟨b, rfl, l, q, [], X', [], 1, a, P', hk, by simp, Or.inl (fun k => by rw [h0])⟩
            · refine (ks_open w5 hd5 hst (by omega) (by show (-1 : Int) ≤ _; omega) hr).mono ?_
              rintro e w' ⟨b, rfl, l, q, m, P', hk, hm⟩
              exact ⟨b, rfl, l, q, m, _, recs, s, a, P', hk, hk.rep.few hst, hor.imp (fun h k => (hm k).trans (h k)) (fun h k => (hm k).trans (h k))⟩
          have HOp := Lib.hid hop
          have HA9 := Lib.hid (And.intro (HE.out.at9.kept hcx HE.out.off9) (hoff g9 HE.out.at9.lt HE.out.off9))
          have HA10 := Lib.hid (And.intro (HE.out.at10.kept hcx HE.out.off10) (hoff g10 HE.out.at10.lt HE.out.off10))
          clear hop hd5 hcx hoff HCr
          dsimp only
          go_wp2_with (first
            | (go_at_call 18; fail))
          refine HOp.out.mono ?_
          rintro e w6 ⟨b6, rfl, l6, q6, m6, X6, recs6, s6, a6, P6, hk6, hm6, hor6⟩
          have HK6 := Lib.hid hk6
          have HM6 := Lib.hid (And.intro hm6 hor6)
          have h9 := has_some w6 hk6.ks hk6.rep hm6 (HA9.out.1.kept hk6.chg HA9.out.2)
          have H9 := Lib.hid h9
          clear hk6 hm6 hor6 h9 HOp
          dsimp only
          go_wp2_with (first
            | (go_at_call 25; fail))
          refine H9.out.mono ?_
          rintro e w7 ⟨v7, rfl, ⟨β, rfl, hβ⟩, hc7⟩
          have HC7 := Lib.hid (HK6.out.ks.chg.trans' hc7)
          cases β with
          | true =>
            clear hβ hc7
            dsimp only
            go_wp2_with (first
              | (go_at_call 15; refine (HWk.out _).mono ?_; rintro e w9 ⟨rfl, hc9⟩; have HC9 := Lib.hid hc9; clear hc9))
            go_ret
            exact ⟨rfl, HC7.out.trans' HC9.out⟩
          | false =>
            have hsx : ∀ k, mget m6 k = mget m10 k := HM6.out.2.resolve_left (fun h => by have := hβ h; cases this)
            have hys := has_some w7 (HK6.out.ks.fresh hc7) HK6.out.rep HM6.out.1 ((HA10.out.1.kept HK6.out.chg HA10.out.2).kept hc7 id)
            have hys2 : Calls Tryz.prog 25 #[.pointer (some ⟨b6, 0, none⟩), .map (some g10)] w7 fun e w' => e = .returned (.bool true) ∧ Chg (fun _ => False) w7 w' := by
              refine hys.mono ?_
              rintro e w' ⟨_, rfl, ⟨β, rfl, hβ⟩, hc⟩
              rw [hβ hsx]
              exact ⟨rfl, hc⟩
            have HYs := Lib.hid hys2
            clear hβ hc7 hsx hys hys2
            dsimp only
            go_wp2_with (first
              | (go_at_call 25; fail))
            refine HYs.out.mono ?_
            rintro e w8 ⟨rfl, hc8⟩
            have HC8 := Lib.hid (HC7.out.trans' hc8)
            clear hc8 HYs
            dsimp only
            go_wp2_with (first
              | (go_at_call 15; refine (HWk.out _).mono ?_; rintro e w9 ⟨rfl, hc9⟩; have HC9 := Lib.hid hc9; clear hc9))
            go_ret
            exact ⟨rfl, HC8.out.trans' HC9.out⟩
    · have HE := Lib.hid he0
      clear he0
      by_cases hkl : k < acts.length
      · have j1 : (k : Int) < (acts.length : Int) := by omega
        by_cases hk30 : k < 30
        · have j2 : (k : Int) < 30 := by omega
          have HCr := Lib.hid (ds_crash HE.out.ds (HKv.out.kept HE.out.ds.chg) (fun hne g hg hp => by
            have h1 := HE.out.ds.new g hp
            have h2 := slat_old HKv.out (by intro e; exact hne (by cases keep with | nil => rfl | cons => simp at e)) hg
            omega) HKz.out (fun j => by have := HE.out.L j; omega))
          go_wp2_with (first
            | (go_at_call 28; fail))
          refine HCr.out.mono ?_
          rintro e w5 ⟨rfl, P5, hd5, hcx, hoff⟩
          have hop : Calls Tryz.prog 18 #[.pointer (some ⟨d, 0, none⟩)] w5 fun e w' => ∃ b, e = .returned (.tuple #[.pointer (some ⟨b, 0, none⟩), .int .i64 0]) ∧ ∃ l q m X' recs s a P', KOpen P5 W w5 w' b l q d X' recs s a m P' ∧ m.length ≤ 65504 ∧ ((∀ k, mget m k = mget m9 k) ∨ ∀ k, mget m k = mget m10 k) := by
            rcases HE.out.crash keep with ⟨hb, h0⟩ | ⟨recs, s, a, mm, hs, hst, hr, hor⟩
            · refine (ks_open_new w5 hd5 hb rfl).mono ?_
              rintro e w' ⟨b, rfl, l, q, m, X', recs, s, a, P', hk, rfl, rfl, hst, -, -⟩
              obtain rfl := rep_nil hk.rep
              exact ⟨b, rfl, l, q, [], X', [], 1, a, P', hk, by simp, Or.inl (fun k => by rw [h0])⟩
            · refine (ks_open w5 hd5 hst (by omega) (by show (-1 : Int) ≤ _; omega) hr).mono ?_
              rintro e w' ⟨b, rfl, l, q, m, P', hk, hm⟩
              exact ⟨b, rfl, l, q, m, _, recs, s, a, P', hk, hk.rep.few hst, hor.imp (fun h k => (hm k).trans (h k)) (fun h k => (hm k).trans (h k))⟩
          have HOp := Lib.hid hop
          have HA9 := Lib.hid (And.intro (HE.out.at9.kept hcx HE.out.off9) (hoff g9 HE.out.at9.lt HE.out.off9))
          have HA10 := Lib.hid (And.intro (HE.out.at10.kept hcx HE.out.off10) (hoff g10 HE.out.at10.lt HE.out.off10))
          clear hop hd5 hcx hoff HCr
          dsimp only
          go_wp2_with (first
            | (go_at_call 18; fail))
          refine HOp.out.mono ?_
          rintro e w6 ⟨b6, rfl, l6, q6, m6, X6, recs6, s6, a6, P6, hk6, hm6, hor6⟩
          have HK6 := Lib.hid hk6
          have HM6 := Lib.hid (And.intro hm6 hor6)
          have h9 := has_some w6 hk6.ks hk6.rep hm6 (HA9.out.1.kept hk6.chg HA9.out.2)
          have H9 := Lib.hid h9
          clear hk6 hm6 hor6 h9 HOp
          dsimp only
          go_wp2_with (first
            | (go_at_call 25; fail))
          refine H9.out.mono ?_
          rintro e w7 ⟨v7, rfl, ⟨β, rfl, hβ⟩, hc7⟩
          have HC7 := Lib.hid (HK6.out.ks.chg.trans' hc7)
          cases β with
          | true =>
            clear hβ hc7
            dsimp only
            go_wp2_with (first
              | (go_at_call 15; refine (HWk.out _).mono ?_; rintro e w9 ⟨rfl, hc9⟩; have HC9 := Lib.hid hc9; clear hc9))
            go_ret
            exact ⟨rfl, HC7.out.trans' HC9.out⟩
          | false =>
            have hsx : ∀ k, mget m6 k = mget m10 k := HM6.out.2.resolve_left (fun h => by have := hβ h; cases this)
            have hys := has_some w7 (HK6.out.ks.fresh hc7) HK6.out.rep HM6.out.1 ((HA10.out.1.kept HK6.out.chg HA10.out.2).kept hc7 id)
            have hys2 : Calls Tryz.prog 25 #[.pointer (some ⟨b6, 0, none⟩), .map (some g10)] w7 fun e w' => e = .returned (.bool true) ∧ Chg (fun _ => False) w7 w' := by
              refine hys.mono ?_
              rintro e w' ⟨_, rfl, ⟨β, rfl, hβ⟩, hc⟩
              rw [hβ hsx]
              exact ⟨rfl, hc⟩
            have HYs := Lib.hid hys2
            clear hβ hc7 hsx hys hys2
            dsimp only
            go_wp2_with (first
              | (go_at_call 25; fail))
            refine HYs.out.mono ?_
            rintro e w8 ⟨rfl, hc8⟩
            have HC8 := Lib.hid (HC7.out.trans' hc8)
            clear hc8 HYs
            dsimp only
            go_wp2_with (first
              | (go_at_call 15; refine (HWk.out _).mono ?_; rintro e w9 ⟨rfl, hc9⟩; have HC9 := Lib.hid hc9; clear hc9))
            go_ret
            exact ⟨rfl, HC8.out.trans' HC9.out⟩
        · obtain rfl : k = 30 := by omega
          clear hk30
          have HCr := Lib.hid (ds_crash HE.out.ds (HKv.out.kept HE.out.ds.chg) (fun hne g hg hp => by
            have h1 := HE.out.ds.new g hp
            have h2 := slat_old HKv.out (by intro e; exact hne (by cases keep with | nil => rfl | cons => simp at e)) hg
            omega) HKz.out (fun j => by have := HE.out.L j; omega))
          go_wp2_with (first
            | (go_at_call 28; fail))
          refine HCr.out.mono ?_
          rintro e w5 ⟨rfl, P5, hd5, hcx, hoff⟩
          have hop : Calls Tryz.prog 18 #[.pointer (some ⟨d, 0, none⟩)] w5 fun e w' => ∃ b, e = .returned (.tuple #[.pointer (some ⟨b, 0, none⟩), .int .i64 0]) ∧ ∃ l q m X' recs s a P', KOpen P5 W w5 w' b l q d X' recs s a m P' ∧ m.length ≤ 65504 ∧ ((∀ k, mget m k = mget m9 k) ∨ ∀ k, mget m k = mget m10 k) := by
            rcases HE.out.crash keep with ⟨hb, h0⟩ | ⟨recs, s, a, mm, hs, hst, hr, hor⟩
            · refine (ks_open_new w5 hd5 hb rfl).mono ?_
              rintro e w' ⟨b, rfl, l, q, m, X', recs, s, a, P', hk, rfl, rfl, hst, -, -⟩
              obtain rfl := rep_nil hk.rep
              exact ⟨b, rfl, l, q, [], X', [], 1, a, P', hk, by simp, Or.inl (fun k => by rw [h0])⟩
            · refine (ks_open w5 hd5 hst (by omega) (by show (-1 : Int) ≤ _; omega) hr).mono ?_
              rintro e w' ⟨b, rfl, l, q, m, P', hk, hm⟩
              exact ⟨b, rfl, l, q, m, _, recs, s, a, P', hk, hk.rep.few hst, hor.imp (fun h k => (hm k).trans (h k)) (fun h k => (hm k).trans (h k))⟩
          have HOp := Lib.hid hop
          have HA9 := Lib.hid (And.intro (HE.out.at9.kept hcx HE.out.off9) (hoff g9 HE.out.at9.lt HE.out.off9))
          have HA10 := Lib.hid (And.intro (HE.out.at10.kept hcx HE.out.off10) (hoff g10 HE.out.at10.lt HE.out.off10))
          clear hop hd5 hcx hoff HCr
          dsimp only
          go_wp2_with (first
            | (go_at_call 18; fail))
          refine HOp.out.mono ?_
          rintro e w6 ⟨b6, rfl, l6, q6, m6, X6, recs6, s6, a6, P6, hk6, hm6, hor6⟩
          have HK6 := Lib.hid hk6
          have HM6 := Lib.hid (And.intro hm6 hor6)
          have h9 := has_some w6 hk6.ks hk6.rep hm6 (HA9.out.1.kept hk6.chg HA9.out.2)
          have H9 := Lib.hid h9
          clear hk6 hm6 hor6 h9 HOp
          dsimp only
          go_wp2_with (first
            | (go_at_call 25; fail))
          refine H9.out.mono ?_
          rintro e w7 ⟨v7, rfl, ⟨β, rfl, hβ⟩, hc7⟩
          have HC7 := Lib.hid (HK6.out.ks.chg.trans' hc7)
          cases β with
          | true =>
            clear hβ hc7
            dsimp only
            go_wp2_with (first
              | (go_at_call 15; refine (HWk.out _).mono ?_; rintro e w9 ⟨rfl, hc9⟩; have HC9 := Lib.hid hc9; clear hc9))
            go_ret
            exact ⟨rfl, HC7.out.trans' HC9.out⟩
          | false =>
            have hsx : ∀ k, mget m6 k = mget m10 k := HM6.out.2.resolve_left (fun h => by have := hβ h; cases this)
            have hys := has_some w7 (HK6.out.ks.fresh hc7) HK6.out.rep HM6.out.1 ((HA10.out.1.kept HK6.out.chg HA10.out.2).kept hc7 id)
            have hys2 : Calls Tryz.prog 25 #[.pointer (some ⟨b6, 0, none⟩), .map (some g10)] w7 fun e w' => e = .returned (.bool true) ∧ Chg (fun _ => False) w7 w' := by
              refine hys.mono ?_
              rintro e w' ⟨_, rfl, ⟨β, rfl, hβ⟩, hc⟩
              rw [hβ hsx]
              exact ⟨rfl, hc⟩
            have HYs := Lib.hid hys2
            clear hβ hc7 hsx hys hys2
            dsimp only
            go_wp2_with (first
              | (go_at_call 25; fail))
            refine HYs.out.mono ?_
            rintro e w8 ⟨rfl, hc8⟩
            have HC8 := Lib.hid (HC7.out.trans' hc8)
            clear hc8 HYs
            dsimp only
            go_wp2_with (first
              | (go_at_call 15; refine (HWk.out _).mono ?_; rintro e w9 ⟨rfl, hc9⟩; have HC9 := Lib.hid hc9; clear hc9))
            go_ret
            exact ⟨rfl, HC8.out.trans' HC9.out⟩
      · have j1 : ¬ (k : Int) < (acts.length : Int) := by omega
        have HCr := Lib.hid (ds_crash HE.out.ds (HKv.out.kept HE.out.ds.chg) (fun hne g hg hp => by
          have h1 := HE.out.ds.new g hp
          have h2 := slat_old HKv.out (by intro e; exact hne (by cases keep with | nil => rfl | cons => simp at e)) hg
          omega) HKz.out (fun j => by have := HE.out.L j; omega))
        go_wp2_with (first
          | (go_at_call 28; fail))
        refine HCr.out.mono ?_
        rintro e w5 ⟨rfl, P5, hd5, hcx, hoff⟩
        have hop : Calls Tryz.prog 18 #[.pointer (some ⟨d, 0, none⟩)] w5 fun e w' => ∃ b, e = .returned (.tuple #[.pointer (some ⟨b, 0, none⟩), .int .i64 0]) ∧ ∃ l q m X' recs s a P', KOpen P5 W w5 w' b l q d X' recs s a m P' ∧ m.length ≤ 65504 ∧ ((∀ k, mget m k = mget m9 k) ∨ ∀ k, mget m k = mget m10 k) := by
          rcases HE.out.crash keep with ⟨hb, h0⟩ | ⟨recs, s, a, mm, hs, hst, hr, hor⟩
          · refine (ks_open_new w5 hd5 hb rfl).mono ?_
            rintro e w' ⟨b, rfl, l, q, m, X', recs, s, a, P', hk, rfl, rfl, hst, -, -⟩
            obtain rfl := rep_nil hk.rep
            exact ⟨b, rfl, l, q, [], X', [], 1, a, P', hk, by simp, Or.inl (fun k => by rw [h0])⟩
          · refine (ks_open w5 hd5 hst (by omega) (by show (-1 : Int) ≤ _; omega) hr).mono ?_
            rintro e w' ⟨b, rfl, l, q, m, P', hk, hm⟩
            exact ⟨b, rfl, l, q, m, _, recs, s, a, P', hk, hk.rep.few hst, hor.imp (fun h k => (hm k).trans (h k)) (fun h k => (hm k).trans (h k))⟩
        have HOp := Lib.hid hop
        have HA9 := Lib.hid (And.intro (HE.out.at9.kept hcx HE.out.off9) (hoff g9 HE.out.at9.lt HE.out.off9))
        have HA10 := Lib.hid (And.intro (HE.out.at10.kept hcx HE.out.off10) (hoff g10 HE.out.at10.lt HE.out.off10))
        clear hop hd5 hcx hoff HCr
        dsimp only
        go_wp2_with (first
          | (go_at_call 18; fail))
        refine HOp.out.mono ?_
        rintro e w6 ⟨b6, rfl, l6, q6, m6, X6, recs6, s6, a6, P6, hk6, hm6, hor6⟩
        have HK6 := Lib.hid hk6
        have HM6 := Lib.hid (And.intro hm6 hor6)
        have h9 := has_some w6 hk6.ks hk6.rep hm6 (HA9.out.1.kept hk6.chg HA9.out.2)
        have H9 := Lib.hid h9
        clear hk6 hm6 hor6 h9 HOp
        dsimp only
        go_wp2_with (first
          | (go_at_call 25; fail))
        refine H9.out.mono ?_
        rintro e w7 ⟨v7, rfl, ⟨β, rfl, hβ⟩, hc7⟩
        have HC7 := Lib.hid (HK6.out.ks.chg.trans' hc7)
        cases β with
        | true =>
          clear hβ hc7
          dsimp only
          go_wp2_with (first
            | (go_at_call 15; refine (HWk.out _).mono ?_; rintro e w9 ⟨rfl, hc9⟩; have HC9 := Lib.hid hc9; clear hc9))
          go_ret
          exact ⟨rfl, HC7.out.trans' HC9.out⟩
        | false =>
          have hsx : ∀ k, mget m6 k = mget m10 k := HM6.out.2.resolve_left (fun h => by have := hβ h; cases this)
          have hys := has_some w7 (HK6.out.ks.fresh hc7) HK6.out.rep HM6.out.1 ((HA10.out.1.kept HK6.out.chg HA10.out.2).kept hc7 id)
          have hys2 : Calls Tryz.prog 25 #[.pointer (some ⟨b6, 0, none⟩), .map (some g10)] w7 fun e w' => e = .returned (.bool true) ∧ Chg (fun _ => False) w7 w' := by
            refine hys.mono ?_
            rintro e w' ⟨_, rfl, ⟨β, rfl, hβ⟩, hc⟩
            rw [hβ hsx]
            exact ⟨rfl, hc⟩
          have HYs := Lib.hid hys2
          clear hβ hc7 hsx hys hys2
          dsimp only
          go_wp2_with (first
            | (go_at_call 25; fail))
          refine HYs.out.mono ?_
          rintro e w8 ⟨rfl, hc8⟩
          have HC8 := Lib.hid (HC7.out.trans' hc8)
          clear hc8 HYs
          dsimp only
          go_wp2_with (first
            | (go_at_call 15; refine (HWk.out _).mono ?_; rintro e w9 ⟨rfl, hc9⟩; have HC9 := Lib.hid hc9; clear hc9))
          go_ret
          exact ⟨rfl, HC8.out.trans' HC9.out⟩
  · have HO := Lib.hid hop
    clear hop
    go_wp2_with (first
      | (go_at_call 18; fail))
    refine HO.out.mono ?_
    rintro e w4 ⟨rfl, X4, P4, hd4, hc4, ho4, hL4, hcr4⟩
    obtain ⟨g9, hg9⟩ : ∃ g9, w2.heap.size = g9 := ⟨_, rfl⟩
    have hm4 := H0.out.2.kept hc4 H0.out.1
    have hn4 := ho4 w2.heap.size (by rw [World.size_alloc]; omega) H0.out.1
    rw [hg9] at hm4 hn4 ⊢
    have HE4 := Lib.hid (show Ex W w4 d X4 g9 g9 P4 [] [] from ⟨hd4, hL4, hm4, hn4, hm4, hn4, fun keep => (hcr4 keep).imp (fun h => ⟨h, rfl⟩) (fun h => ⟨[], 1, 0, [], by omega, h, Rep.nil, Or.inl (fun _ => rfl)⟩)⟩)
    clear hd4 hc4 ho4 hL4 hcr4 hm4 hn4 hg9 HO H0
    dsimp only
    go_wp2_with fail
    go_loopw [8, 9, 10, 12] (fun u8 u9 u10 j wr => ∃ k : Nat, j = .int .i64 k ∧ k ≤ acts.length ∧ u8 = .int .i64 15 ∧ ∃ X P g9 g10 m9 m10, u9 = .map (some g9) ∧ u10 = .map (some g10) ∧ Ex W wr d X g9 g10 P m9 m10) (fun _ _ _ j _ => 30 - (intOf j).toNat)
    · exact ⟨0, rfl, Nat.zero_le _, rfl, _, _, _, _, _, _, rfl, rfl, HE4.out⟩
    clear HE4
    obtain ⟨k, rfl, hk1, rfl, X, P, g9, g10, m9, m10, rfl, rfl, he0⟩ := hrel
    have HE := Lib.hid he0
    clear he0
    by_cases hkl : k < acts.length
    · have j1 : (k : Int) < (acts.length : Int) := by omega
      by_cases hk30 : k < 30
      · have j2 : (k : Int) < 30 := by omega
        have HCr := Lib.hid (ds_crash HE.out.ds (HKv.out.kept HE.out.ds.chg) (fun hne g hg hp => by
          have h1 := HE.out.ds.new g hp
          have h2 := slat_old HKv.out (by intro e; exact hne (by cases keep with | nil => rfl | cons => simp at e)) hg
          omega) HKz.out (fun j => by have := HE.out.L j; omega))
        go_wp2_with (first
          | (go_at_call 28; fail))
        refine HCr.out.mono ?_
        rintro e w5 ⟨rfl, P5, hd5, hcx, hoff⟩
        have hop : Calls Tryz.prog 18 #[.pointer (some ⟨d, 0, none⟩)] w5 fun e w' => ∃ b, e = .returned (.tuple #[.pointer (some ⟨b, 0, none⟩), .int .i64 0]) ∧ ∃ l q m X' recs s a P', KOpen P5 W w5 w' b l q d X' recs s a m P' ∧ m.length ≤ 65504 ∧ ((∀ k, mget m k = mget m9 k) ∨ ∀ k, mget m k = mget m10 k) := by
          rcases HE.out.crash keep with ⟨hb, h0⟩ | ⟨recs, s, a, mm, hs, hst, hr, hor⟩
          · refine (ks_open_new w5 hd5 hb rfl).mono ?_
            rintro e w' ⟨b, rfl, l, q, m, X', recs, s, a, P', hk, rfl, rfl, hst, -, -⟩
            obtain rfl := rep_nil hk.rep
            exact ⟨b, rfl, l, q, [], X', [], 1, a, P', hk, by simp, Or.inl (fun k => by rw [h0])⟩
          · refine (ks_open w5 hd5 hst (by omega) (by show (-1 : Int) ≤ _; omega) hr).mono ?_
            rintro e w' ⟨b, rfl, l, q, m, P', hk, hm⟩
            exact ⟨b, rfl, l, q, m, _, recs, s, a, P', hk, hk.rep.few hst, hor.imp (fun h k => (hm k).trans (h k)) (fun h k => (hm k).trans (h k))⟩
        have HOp := Lib.hid hop
        have HA9 := Lib.hid (And.intro (HE.out.at9.kept hcx HE.out.off9) (hoff g9 HE.out.at9.lt HE.out.off9))
        have HA10 := Lib.hid (And.intro (HE.out.at10.kept hcx HE.out.off10) (hoff g10 HE.out.at10.lt HE.out.off10))
        clear hop hd5 hcx hoff HCr
        dsimp only
        go_wp2_with (first
          | (go_at_call 18; fail))
        refine HOp.out.mono ?_
        rintro e w6 ⟨b6, rfl, l6, q6, m6, X6, recs6, s6, a6, P6, hk6, hm6, hor6⟩
        have HK6 := Lib.hid hk6
        have HM6 := Lib.hid (And.intro hm6 hor6)
        have h9 := has_some w6 hk6.ks hk6.rep hm6 (HA9.out.1.kept hk6.chg HA9.out.2)
        have H9 := Lib.hid h9
        clear hk6 hm6 hor6 h9 HOp
        dsimp only
        go_wp2_with (first
          | (go_at_call 25; fail))
        refine H9.out.mono ?_
        rintro e w7 ⟨v7, rfl, ⟨β, rfl, hβ⟩, hc7⟩
        have HC7 := Lib.hid (HK6.out.ks.chg.trans' hc7)
        cases β with
        | true =>
          clear hβ hc7
          dsimp only
          go_wp2_with (first
            | (go_at_call 15; refine (HWk.out _).mono ?_; rintro e w9 ⟨rfl, hc9⟩; have HC9 := Lib.hid hc9; clear hc9))
          go_ret
          exact ⟨rfl, HC7.out.trans' HC9.out⟩
        | false =>
          have hsx : ∀ k, mget m6 k = mget m10 k := HM6.out.2.resolve_left (fun h => by have := hβ h; cases this)
          have hys := has_some w7 (HK6.out.ks.fresh hc7) HK6.out.rep HM6.out.1 ((HA10.out.1.kept HK6.out.chg HA10.out.2).kept hc7 id)
          have hys2 : Calls Tryz.prog 25 #[.pointer (some ⟨b6, 0, none⟩), .map (some g10)] w7 fun e w' => e = .returned (.bool true) ∧ Chg (fun _ => False) w7 w' := by
            refine hys.mono ?_
            rintro e w' ⟨_, rfl, ⟨β, rfl, hβ⟩, hc⟩
            rw [hβ hsx]
            exact ⟨rfl, hc⟩
          have HYs := Lib.hid hys2
          clear hβ hc7 hsx hys hys2
          dsimp only
          go_wp2_with (first
            | (go_at_call 25; fail))
          refine HYs.out.mono ?_
          rintro e w8 ⟨rfl, hc8⟩
          have HC8 := Lib.hid (HC7.out.trans' hc8)
          clear hc8 HYs
          dsimp only
          go_wp2_with (first
            | (go_at_call 15; refine (HWk.out _).mono ?_; rintro e w9 ⟨rfl, hc9⟩; have HC9 := Lib.hid hc9; clear hc9))
          go_ret
          exact ⟨rfl, HC8.out.trans' HC9.out⟩
      · have j2 : ¬ (k : Int) < 30 := by omega
        have HCr := Lib.hid (ds_crash HE.out.ds (HKv.out.kept HE.out.ds.chg) (fun hne g hg hp => by
          have h1 := HE.out.ds.new g hp
          have h2 := slat_old HKv.out (by intro e; exact hne (by cases keep with | nil => rfl | cons => simp at e)) hg
          omega) HKz.out (fun j => by have := HE.out.L j; omega))
        go_wp2_with (first
          | (go_at_call 28; fail))
        refine HCr.out.mono ?_
        rintro e w5 ⟨rfl, P5, hd5, hcx, hoff⟩
        have hop : Calls Tryz.prog 18 #[.pointer (some ⟨d, 0, none⟩)] w5 fun e w' => ∃ b, e = .returned (.tuple #[.pointer (some ⟨b, 0, none⟩), .int .i64 0]) ∧ ∃ l q m X' recs s a P', KOpen P5 W w5 w' b l q d X' recs s a m P' ∧ m.length ≤ 65504 ∧ ((∀ k, mget m k = mget m9 k) ∨ ∀ k, mget m k = mget m10 k) := by
          rcases HE.out.crash keep with ⟨hb, h0⟩ | ⟨recs, s, a, mm, hs, hst, hr, hor⟩
          · refine (ks_open_new w5 hd5 hb rfl).mono ?_
            rintro e w' ⟨b, rfl, l, q, m, X', recs, s, a, P', hk, rfl, rfl, hst, -, -⟩
            obtain rfl := rep_nil hk.rep
            exact ⟨b, rfl, l, q, [], X', [], 1, a, P', hk, by simp, Or.inl (fun k => by rw [h0])⟩
          · refine (ks_open w5 hd5 hst (by omega) (by show (-1 : Int) ≤ _; omega) hr).mono ?_
            rintro e w' ⟨b, rfl, l, q, m, P', hk, hm⟩
            exact ⟨b, rfl, l, q, m, _, recs, s, a, P', hk, hk.rep.few hst, hor.imp (fun h k => (hm k).trans (h k)) (fun h k => (hm k).trans (h k))⟩
        have HOp := Lib.hid hop
        have HA9 := Lib.hid (And.intro (HE.out.at9.kept hcx HE.out.off9) (hoff g9 HE.out.at9.lt HE.out.off9))
        have HA10 := Lib.hid (And.intro (HE.out.at10.kept hcx HE.out.off10) (hoff g10 HE.out.at10.lt HE.out.off10))
        clear hop hd5 hcx hoff HCr
        dsimp only
        go_wp2_with (first
          | (go_at_call 18; fail))
        refine HOp.out.mono ?_
        rintro e w6 ⟨b6, rfl, l6, q6, m6, X6, recs6, s6, a6, P6, hk6, hm6, hor6⟩
        have HK6 := Lib.hid hk6
        have HM6 := Lib.hid (And.intro hm6 hor6)
        have h9 := has_some w6 hk6.ks hk6.rep hm6 (HA9.out.1.kept hk6.chg HA9.out.2)
        have H9 := Lib.hid h9
        clear hk6 hm6 hor6 h9 HOp
        dsimp only
        go_wp2_with (first
          | (go_at_call 25; fail))
        refine H9.out.mono ?_
        rintro e w7 ⟨v7, rfl, ⟨β, rfl, hβ⟩, hc7⟩
        have HC7 := Lib.hid (HK6.out.ks.chg.trans' hc7)
        cases β with
        | true =>
          clear hβ hc7
          dsimp only
          go_wp2_with (first
            | (go_at_call 15; refine (HWk.out _).mono ?_; rintro e w9 ⟨rfl, hc9⟩; have HC9 := Lib.hid hc9; clear hc9))
          go_ret
          exact ⟨rfl, HC7.out.trans' HC9.out⟩
        | false =>
          have hsx : ∀ k, mget m6 k = mget m10 k := HM6.out.2.resolve_left (fun h => by have := hβ h; cases this)
          have hys := has_some w7 (HK6.out.ks.fresh hc7) HK6.out.rep HM6.out.1 ((HA10.out.1.kept HK6.out.chg HA10.out.2).kept hc7 id)
          have hys2 : Calls Tryz.prog 25 #[.pointer (some ⟨b6, 0, none⟩), .map (some g10)] w7 fun e w' => e = .returned (.bool true) ∧ Chg (fun _ => False) w7 w' := by
            refine hys.mono ?_
            rintro e w' ⟨_, rfl, ⟨β, rfl, hβ⟩, hc⟩
            rw [hβ hsx]
            exact ⟨rfl, hc⟩
          have HYs := Lib.hid hys2
          clear hβ hc7 hsx hys hys2
          dsimp only
          go_wp2_with (first
            | (go_at_call 25; fail))
          refine HYs.out.mono ?_
          rintro e w8 ⟨rfl, hc8⟩
          have HC8 := Lib.hid (HC7.out.trans' hc8)
          clear hc8 HYs
          dsimp only
          go_wp2_with (first
            | (go_at_call 15; refine (HWk.out _).mono ?_; rintro e w9 ⟨rfl, hc9⟩; have HC9 := Lib.hid hc9; clear hc9))
          go_ret
          exact ⟨rfl, HC8.out.trans' HC9.out⟩
    · have j1 : ¬ (k : Int) < (acts.length : Int) := by omega
      have HCr := Lib.hid (ds_crash HE.out.ds (HKv.out.kept HE.out.ds.chg) (fun hne g hg hp => by
        have h1 := HE.out.ds.new g hp
        have h2 := slat_old HKv.out (by intro e; exact hne (by cases keep with | nil => rfl | cons => simp at e)) hg
        omega) HKz.out (fun j => by have := HE.out.L j; omega))
      go_wp2_with (first
        | (go_at_call 28; fail))
      refine HCr.out.mono ?_
      rintro e w5 ⟨rfl, P5, hd5, hcx, hoff⟩
      have hop : Calls Tryz.prog 18 #[.pointer (some ⟨d, 0, none⟩)] w5 fun e w' => ∃ b, e = .returned (.tuple #[.pointer (some ⟨b, 0, none⟩), .int .i64 0]) ∧ ∃ l q m X' recs s a P', KOpen P5 W w5 w' b l q d X' recs s a m P' ∧ m.length ≤ 65504 ∧ ((∀ k, mget m k = mget m9 k) ∨ ∀ k, mget m k = mget m10 k) := by
        rcases HE.out.crash keep with ⟨hb, h0⟩ | ⟨recs, s, a, mm, hs, hst, hr, hor⟩
        · refine (ks_open_new w5 hd5 hb rfl).mono ?_
          rintro e w' ⟨b, rfl, l, q, m, X', recs, s, a, P', hk, rfl, rfl, hst, -, -⟩
          obtain rfl := rep_nil hk.rep
          exact ⟨b, rfl, l, q, [], X', [], 1, a, P', hk, by simp, Or.inl (fun k => by rw [h0])⟩
        · refine (ks_open w5 hd5 hst (by omega) (by show (-1 : Int) ≤ _; omega) hr).mono ?_
          rintro e w' ⟨b, rfl, l, q, m, P', hk, hm⟩
          exact ⟨b, rfl, l, q, m, _, recs, s, a, P', hk, hk.rep.few hst, hor.imp (fun h k => (hm k).trans (h k)) (fun h k => (hm k).trans (h k))⟩
      have HOp := Lib.hid hop
      have HA9 := Lib.hid (And.intro (HE.out.at9.kept hcx HE.out.off9) (hoff g9 HE.out.at9.lt HE.out.off9))
      have HA10 := Lib.hid (And.intro (HE.out.at10.kept hcx HE.out.off10) (hoff g10 HE.out.at10.lt HE.out.off10))
      clear hop hd5 hcx hoff HCr
      dsimp only
      go_wp2_with (first
        | (go_at_call 18; fail))
      refine HOp.out.mono ?_
      rintro e w6 ⟨b6, rfl, l6, q6, m6, X6, recs6, s6, a6, P6, hk6, hm6, hor6⟩
      have HK6 := Lib.hid hk6
      have HM6 := Lib.hid (And.intro hm6 hor6)
      have h9 := has_some w6 hk6.ks hk6.rep hm6 (HA9.out.1.kept hk6.chg HA9.out.2)
      have H9 := Lib.hid h9
      clear hk6 hm6 hor6 h9 HOp
      dsimp only
      go_wp2_with (first
        | (go_at_call 25; fail))
      refine H9.out.mono ?_
      rintro e w7 ⟨v7, rfl, ⟨β, rfl, hβ⟩, hc7⟩
      have HC7 := Lib.hid (HK6.out.ks.chg.trans' hc7)
      cases β with
      | true =>
        clear hβ hc7
        dsimp only
        go_wp2_with (first
          | (go_at_call 15; refine (HWk.out _).mono ?_; rintro e w9 ⟨rfl, hc9⟩; have HC9 := Lib.hid hc9; clear hc9))
        go_ret
        exact ⟨rfl, HC7.out.trans' HC9.out⟩
      | false =>
        have hsx : ∀ k, mget m6 k = mget m10 k := HM6.out.2.resolve_left (fun h => by have := hβ h; cases this)
        have hys := has_some w7 (HK6.out.ks.fresh hc7) HK6.out.rep HM6.out.1 ((HA10.out.1.kept HK6.out.chg HA10.out.2).kept hc7 id)
        have hys2 : Calls Tryz.prog 25 #[.pointer (some ⟨b6, 0, none⟩), .map (some g10)] w7 fun e w' => e = .returned (.bool true) ∧ Chg (fun _ => False) w7 w' := by
          refine hys.mono ?_
          rintro e w' ⟨_, rfl, ⟨β, rfl, hβ⟩, hc⟩
          rw [hβ hsx]
          exact ⟨rfl, hc⟩
        have HYs := Lib.hid hys2
        clear hβ hc7 hsx hys hys2
        dsimp only
        go_wp2_with (first
          | (go_at_call 25; fail))
        refine HYs.out.mono ?_
        rintro e w8 ⟨rfl, hc8⟩
        have HC8 := Lib.hid (HC7.out.trans' hc8)
        clear hc8 HYs
        dsimp only
        go_wp2_with (first
          | (go_at_call 15; refine (HWk.out _).mono ?_; rintro e w9 ⟨rfl, hc9⟩; have HC9 := Lib.hid hc9; clear hc9))
        go_ret
        exact ⟨rfl, HC8.out.trans' HC9.out⟩

set_option maxRecDepth 100000 in
theorem lifted (os : Os) (started : os.Started) (H : Type) (enc : TypeId × Value → H) :
    ReturnsInHanded {} Tryz.checked os 9 .any (Rows.kvLastsSpec.pre6 enc Tryz.prog Tryz.f9 [] false) (Rows.kvLastsSpec.post enc Tryz.prog Tryz.f9 false true false false) := by
  refine law_handed (C := Tryz.checked) (tb := 4) own started (by kernel_rfl) Tryz.func9
    (ChangeSpec.witness6 (enc := enc) (C := Tryz.checked) false ⟨#[], #[.slice none 0 0, .int .i64 0, .slice none 0 0], []⟩ 8 (by kernel_rfl) (by kernel_rfl) (by kernel_rfl) (by kernel_rfl))
    laidOut (by rw [show Tryz.checked.prog = Tryz.prog from rfl, Tryz.params9]; intro t ht; simp at ht; rcases ht with rfl | rfl | rfl <;> exact ⟨by kernel_rfl, of_decide_eq_true (by kernel_rfl)⟩) rfl rfl Tryz.underlying4 ?_ ?_
  · intro ds hds
    rw [Tryz.params9] at hds
    match ds, hds with
    | [_, _, _], _ => rfl
  · intro W base args ds before hval0 hA0 _ hsz0
    have hval : ∀ (j : Nat) t v, Tryz.f9.params[j]? = some t → args[j]? = some v → Value.okWide Tryz.prog W .any base t v := hval0
    have hA : DataW.TrodAll enc Tryz.prog W 0 (fun _ => true) true Tryz.f9.params.toList args.toList ds before := hA0
    rw [Tryz.params9] at hA hval
    have hsz : (DataW.weightsEach Tryz.prog Tryz.f9.params.toList ds).all (· ≤ reachBytes) = true := hsz0
    rw [Tryz.params9] at hsz
    obtain ⟨v0, vs0, d0, ds0, p0, q0, hargs, rfl, rfl, h0, r0⟩ := trodAll_cons hA
    obtain ⟨v1, vs1, d1, ds1, p1, q1, rfl, rfl, rfl, h1, r1⟩ := trodAll_cons r0
    obtain ⟨v2, vs2, d2, ds2, p2, q2, rfl, rfl, rfl, h2, r2⟩ := trodAll_cons r1
    obtain ⟨rfl, rfl, rfl⟩ := trodAll_nil r2
    obtain rfl : args = #[v0, v1, v2] := by cases args; simp_all
    obtain ⟨oa0, l0, cap0, rfl, -, -, g0, ok0⟩ := open_acts11 (hval 0 63 v0 rfl rfl) h0 (fun n hn => by have := List.all_eq_true.1 hsz n (weightsEach_mem (i := 0) rfl rfl n hn); simpa using this)
    obtain ⟨a1, rfl, rfl, rfl, w1⟩ := open_int Tryz.underlying3 (hval 1 3 v1 rfl rfl) h1
    obtain ⟨zs2, s2, z2, -⟩ := open_ints (hval 2 64 v2 rfl rfl) h2
    exact walk W oa0 cap0 l0 g0 ok0 a1 (wf_inR w1) v2 zs2 s2 z2

theorem over : Rows.kvLastsRow.holds Tryz.pinned (OpenSpec.ofChange Rows.kvLastsSpec) :=
  OpenClaim.holds_of_wide 9 Tryz.f9 rfl rfl rfl rfl rfl rfl rfl ⟨rfl, rfl, rfl, rfl, rfl⟩ rfl rfl rfl rfl rfl (by kernel_rfl) Tryz.func9 (by kernel_rfl)
    (of_decide_eq_true (by kernel_rfl)) (by unfold Func.isWrapper; first | (rw [if_pos (by decide +kernel)]; kernel_rfl) | (rw [if_neg (by decide +kernel)]; exact ⟨rfl, rfl⟩))
    (fun os started H enc _ => lifted os started H enc)

theorem proved : Rows.KvLastsSaid := over
#print axioms proved



end Go.Proofs.YtbkefhoapnaciaaGreat.kvLasts
end

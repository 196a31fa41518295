/-
  KvRoom, whole: for every call the law returns true and changes nothing that was there. No condition.
-/
import Derived.Test.YtbkefhoapnaciaaGreatPkAa
import Derived.Test.YtbkefhoapnaciaaGreatPx0KvRoom
import Derived.Test.YtbkefhoapnaciaaGreatRows

section
set_option linter.unusedSimpArgs false
set_option linter.unusedVariables false
namespace Go.Proofs.YtbkefhoapnaciaaGreat.kvRoom
open Go.ChangeShapes Go.WideShapes Go.ChangeAt Go.RowKit Go.Maps Go.My Go.ChangeMaps wals disks kvs

theorem laidOut : laidOutB Tryz.prog = true := by kernel_rfl
theorem own : ownKnob Tryz.prog.godebug = none := by kernel_rfl

/-- The loops' state. -/
structure St (W w : World) (b l q d : Nat) (X : DV) (recs : List Txt) (s a : Nat) (m : List KV) (P : Nat → Prop) (c : Nat) : Prop where
  ok : Okay P W w b l q d X recs s a m
  rm : Rm m c
  free : X.fuse = -1
  len : 1094 ≤ 64 * areaN X.B.length
theorem St.fresh {W w w' : World} {b l q d : Nat} {X : DV} {recs : List Txt} {s a : Nat} {m : List KV} {P : Nat → Prop} {c : Nat} (h : St W w b l q d X recs s a m P c) (hc : Chg (fun _ => False) w w') : St W w' b l q d X recs s a m P c := ⟨h.ok.fresh hc, h.rm, h.free, h.len⟩

/-- Do of what has room. -/
theorem do_room {W w : World} {b l q d : Nat} {X : DV} {recs : List Txt} {s a : Nat} {m : List KV} {P : Nat → Prop} (h : Okay P W w b l q d X recs s a m) (hx : Rx m) (hf : X.fuse = -1) (hl : 1094 ≤ 64 * areaN X.B.length) (hs : s ≤ 1000) {B : Nat} {v : Value} {ps : List PV} (hp : Puts w B v ps) (hv : ∀ g, v.ownBlock = some g → Beside P q w g) (hfit : Fits ps) (hr : ∀ m', Rx m' → Rx (applyF m' ps)) :
    Calls Tryz.prog 19 #[.pointer (some ⟨b, 0, none⟩), v] w fun e w' => e = .returned (.int .i64 0) ∧ ∃ X' recs' s' a' P', Okay P' W w' b l q d X' recs' s' a' (applyF m ps) ∧ X'.fuse = -1 ∧ X'.B.length = X.B.length ∧ s' ≤ s + 1 ∧ (∀ g, Beside P q w g → Beside P' q w' g) := by
  refine (ks_do w h.ks h.st (by omega) h.rep (by omega) hp (by have := hfit.few; omega) hv).mono ?_
  rintro e w' ⟨z, rfl, X', V', m', P', hn, ho⟩
  obtain ⟨recs', s', a', rfl, h1, h2, h3, h4, h5, h6, hz⟩ := ho.free hf h.st h.rep
  rcases hz with ⟨rfl, rfl⟩ | ⟨hw, -⟩
  · exact ⟨rfl, X', recs', s', a', P', ⟨hn.ks, h3, h4⟩, h5, h6, h2, hn.off⟩
  · exact absurd hw (no_why hl hfit (hr _ (hx.perm (sortF_perm m))))


set_option linter.unusedVariables false in
set_option maxRecDepth 100000 in
set_option maxHeartbeats 8000000 in
theorem walk (W : World) (v : Value) (bs : List Txt) (hs : SlAt W v (bs.map strV)) (_ : bs.length ≤ maxLen) (hbm : ∀ b ∈ bs, b.length ≤ maxLen) (z : Int) (_ : inR z) :
    Calls Tryz.prog 5 #[v, .int .i64 z] W fun e w' => e = .returned (.bool true) ∧ Chg (fun _ => False) W w' := by
  obtain ⟨R, hR, hw1, hw2⟩ := mod_12 z
  have HWk := Lib.hid works_any
  have HNew := Lib.hid (ds_new W W (Chg.refl _ _) 40 (by omega) (by omega))
  have HB := Lib.hid (Blank.new 40 (by omega) (by omega))
  obtain ⟨oa, cap, rfl, h2, h3⟩ := hs
  rw [List.length_map] at *
  have H := Lib.hid (show SlAt W (.slice oa bs.length cap) (bs.map strV) from ⟨oa, cap, by rw [List.length_map], h2, h3⟩)
  have HBm := Lib.hid hbm
  clear h2 h3 hbm
  go_enter Tryz.func5, Tryz.ntmps5
  go_wp2_with (first
    | (go_at_call 17; fail))
  refine HNew.out.mono ?_
  rintro e w1 ⟨d, rfl, P, hd⟩
  have HO := Lib.hid (ks_open_new w1 hd HB.out rfl)
  clear hd HNew
  dsimp only
  go_wp2_with (first
    | (go_at_call 18; fail))
  refine HO.out.mono ?_
  rintro e w2 ⟨b, rfl, l, q, m, X, recs, s, a, P2, hk2, rfl, rfl, hst, hf, hlen⟩
  obtain rfl := rep_nil hk2.rep
  have HS2 := Lib.hid (show St W w2 b l q d X [] 1 a [] P2 0 from ⟨⟨hk2.ks, hst, hk2.rep⟩, Rm.nil, hf, by rw [hlen, DV.new_len]; decide⟩)
  have HRl := Lib.hid hR
  obtain ⟨N, hN⟩ : ∃ N, min bs.length 6 = N := ⟨_, rfl⟩
  have HN := Lib.hid hN
  clear hk2 hst hf hlen HO HB hN
  dsimp only
  go_wp2_with fail
  clear hw1 hw2
  go_loopw [9] (fun j wr => ∃ r0 : Nat, j = .int .i64 r0 ∧ r0 ≤ R + 1 ∧ ∃ X recs s a m P c, St W wr b l q d X recs s a m P c ∧ s ≤ 1 + 12 * r0 ∧ c ≤ N ∧ (0 < r0 → c = N)) (fun j _ => R + 1 - (intOf j).toNat)
  · exact ⟨0, rfl, Nat.zero_le _, _, _, _, _, _, _, _, HS2.out, Nat.le_refl _, Nat.zero_le _, fun h => absurd h (by omega)⟩
  clear HS2
  obtain ⟨r0, rfl, hr0, X, recs, s, a, m, P, c, hs0, hs12, hcN, hc0⟩ := hrel
  have HS0 := Lib.hid hs0
  have HF0 := Lib.hid hs12
  have HC0 := Lib.hid (And.intro hcN hc0)
  clear hs0 hs12 hcN hc0
  by_cases hlt : r0 ≤ R
  · have hri : (r0 : Int) ≤ (R : Int) := by omega
    go_wp2_with fail
    have HR11 := Lib.hid (show r0 ≤ 11 by have := HRl.out; omega)
    go_loopw [10] (fun iv wr => ∃ i : Nat, iv = .int .i64 i ∧ i ≤ bs.length ∧ i ≤ 6 ∧ ∃ X recs s a m P, St W wr b l q d X recs s a m P (max c i) ∧ s ≤ 1 + 12 * r0 + 2 * i) (fun iv _ => 6 - (intOf iv).toNat)
    · exact ⟨0, rfl, Nat.zero_le _, Nat.zero_le _, _, _, _, _, _, _, (by rw [Nat.max_eq_left (Nat.zero_le c)]; exact HS0.out), by have := HF0.out; omega⟩
    clear HS0 HF0
    obtain ⟨i, rfl, hi1, hi2, X, recs, s, a, m, P, hs0, hs12⟩ := hrel
    have HS := Lib.hid hs0
    have HFew := Lib.hid (show s ≤ 1 + 12 * r0 + 2 * i ∧ s ≤ 900 by have := HR11.out; exact ⟨hs12, by omega⟩)
    clear hs0 hs12
    by_cases hil : i < bs.length ∧ i < 6
    · obtain ⟨hil1, hil2⟩ := hil
      have k1 : (i : Int) < (bs.length : Int) := by omega
      have k2 : (i : Int) < 6 := by omega
      have k3 : (i : Int) + 1 ≤ 6 := by omega
      obtain ⟨r, hr⟩ : ∃ r, bs[i]? = some r := ⟨bs[i], List.getElem?_eq_getElem hil1⟩
      obtain ⟨g, off, rfl, hcell⟩ : ∃ g off, oa = some ⟨g, off, none⟩ ∧ wr.cell? ⟨g, off + i, none⟩ = some (strV r) := by
        obtain ⟨oa', cap', e1, e2, e3⟩ := H.out.kept HS.out.ok.ks.chg
        simp only [Value.slice.injEq] at e1
        obtain ⟨g, off, e4⟩ := e2 (by intro e; have := congrArg List.length e; rw [List.length_map] at this; simp at this; rw [this] at hil1; simp at hil1)
        exact ⟨g, off, by rw [e1.1, e4], e3 g off e4 i _ (by rw [List.getElem?_map, hr]; rfl)⟩
      have HI6 := Lib.hid hil2
      have HIc := Lib.hid (show i ≤ max c i by omega)
      obtain ⟨sr, hsr⟩ : ∃ s : ByteArray, strV r = .string s := ⟨_, rfl⟩
      have hrl := HBm.out r (List.mem_of_getElem? hr)
      unfold maxLen at hrl
      have esr := str_size r sr hsr
      rw [hsr] at hcell
      obtain ⟨sx, hsx⟩ : ∃ sx, (⟨#[97, 98, 99, 100, 101, 102]⟩ : ByteArray).extract i (i + 1) = sx := ⟨_, rfl⟩
      have HSx := Lib.hid (show strV (letter i) = .string sx by
        rw [← hsx]
        have e : (⟨#[97, 98, 99, 100, 101, 102]⟩ : ByteArray).extract i (i + 1) = ⟨(([97, 98, 99, 100, 101, 102] : Txt).drop i |>.take 1).toArray⟩ := by
          rw [Lib.extract_eq]
          simp
        rw [e]
        rcases (by omega : i = 0 ∨ i = 1 ∨ i = 2 ∨ i = 3 ∨ i = 4 ∨ i = 5) with h | h | h | h | h | h <;> (rw [h]; rfl))
      clear hr hil1 hil2 hi1 hi2
      by_cases a1 : 150 < r.length
      · have i1 : (150 : Int) < (sr.size : Int) := by omega
        have HCv := Lib.hid (cut_str hsr a1)
        clear hsr
        have hca : Chg (fun _ => False) wr (wr.alloc (.cells #[.string sx, .string (sr.extract 0 150), .bool false, .string ⟨#[120]⟩, .string (sr.extract 0 150), .bool false] 45)) := (Chg.refl _ _).alloc _
        have hps : Puts (wr.alloc (.cells #[.string sx, .string (sr.extract 0 150), .bool false, .string ⟨#[120]⟩, .string (sr.extract 0 150), .bool false] 45)) wr.heap.size (.slice (some ⟨wr.heap.size, 0, none⟩) 2 2) (pair i (cutT 150 r)) := puts_block (ps := pair i (cutT 150 r)) (block_alloc_new _ _) (by
          show _ = [strV (letter i), strV (cutT 150 r), .bool false, strV keyX, strV (cutT 150 r), .bool false]
          rw [HSx.out, HCv.out]; rfl) (by show (2 : Nat) ≤ 1000; omega)
        have hdo := do_room (HS.out.ok.fresh hca) HS.out.rm.rx HS.out.free HS.out.len (by have := HFew.out; omega) hps (fun g hg => by cases hg; exact HS.out.ok.ks.made (Nat.le_refl wr.heap.size) (by rw [World.size_alloc]; exact Nat.lt_succ_self wr.heap.size)) (pair_fits (cutT_len 150 r)) (fun m' hm' => hm'.pair HI6.out (cutT_len 150 r))
        have HDo := Lib.hid hdo
        have HRm := Lib.hid (HS.out.rm.step HI6.out HIc.out (cutT_len 150 r))
        have HRx := Lib.hid (HS.out.rm.rx.pair HI6.out (cutT_len 150 r))
        clear hca hps hdo
        go_wp2_with (first
          | (go_at_call 19; fail))
        refine HDo.out.mono ?_
        rintro e w4 ⟨rfl, X4, recs4, s4, a4, P4, hok4, hf4, hl4, hs4, -⟩
        have hca : Chg (fun _ => False) w4 (w4.alloc (.cells #[.string ⟨#[120]⟩, .string ⟨#[]⟩, .bool true] 45)) := (Chg.refl _ _).alloc _
        have hps : Puts (w4.alloc (.cells #[.string ⟨#[120]⟩, .string ⟨#[]⟩, .bool true] 45)) w4.heap.size (.slice (some ⟨w4.heap.size, 0, none⟩) 1 1) goneX := puts_block (ps := goneX) (block_alloc_new _ _) rfl (by show (1 : Nat) ≤ 1000; omega)
        have hdo := do_room (hok4.fresh hca) HRx.out hf4 (by rw [hl4]; exact HS.out.len) (by have := HFew.out; omega) hps (fun g hg => by cases hg; exact hok4.ks.made (Nat.le_refl w4.heap.size) (by rw [World.size_alloc]; exact Nat.lt_succ_self w4.heap.size)) gone_fits (fun m' hm' => hm'.gone)
        have HDo2 := Lib.hid hdo
        have HL4 := Lib.hid (And.intro hl4 hs4)
        clear hca hps hdo hok4 hf4 hl4 hs4 HDo
        dsimp only
        go_wp2_with (first
          | (go_at_call 19; fail))
        refine HDo2.out.mono ?_
        rintro e w5 ⟨rfl, X5, recs5, s5, a5, P5, hok5, hf5, hl5, hs5, -⟩
        have HS5 := Lib.hid (show St W w5 b l q d X5 recs5 s5 a5 _ P5 (max (max c i) (i + 1)) from ⟨hok5, HRm.out, hf5, by rw [hl5, HL4.out.1]; exact HS.out.len⟩)
        have HF5 := Lib.hid (show s5 ≤ 1 + 12 * r0 + 2 * (i + 1) by have := HFew.out; have := HL4.out.2; omega)
        have hmx : max (max c i) (i + 1) = max c (i + 1) := by omega
        rw [hmx] at HS5
        clear hok5 hf5 hl5 hs5 HDo2 hmx
        dsimp only
        go_wp2_with fail
        exact ⟨⟨i + 1, by go_num, by omega, by omega, _, _, _, _, _, _, HS5.out, HF5.out⟩, by simp [intOf]; omega⟩
      · have i1 : (sr.size : Int) ≤ 150 := by omega
        have HCv := Lib.hid (cut_same hsr a1)
        clear hsr
        have hca : Chg (fun _ => False) wr (wr.alloc (.cells #[.string sx, .string sr, .bool false, .string ⟨#[120]⟩, .string sr, .bool false] 45)) := (Chg.refl _ _).alloc _
        have hps : Puts (wr.alloc (.cells #[.string sx, .string sr, .bool false, .string ⟨#[120]⟩, .string sr, .bool false] 45)) wr.heap.size (.slice (some ⟨wr.heap.size, 0, none⟩) 2 2) (pair i (cutT 150 r)) := puts_block (ps := pair i (cutT 150 r)) (block_alloc_new _ _) (by
          show _ = [strV (letter i), strV (cutT 150 r), .bool false, strV keyX, strV (cutT 150 r), .bool false]
          rw [HSx.out, HCv.out]; rfl) (by show (2 : Nat) ≤ 1000; omega)
        have hdo := do_room (HS.out.ok.fresh hca) HS.out.rm.rx HS.out.free HS.out.len (by have := HFew.out; omega) hps (fun g hg => by cases hg; exact HS.out.ok.ks.made (Nat.le_refl wr.heap.size) (by rw [World.size_alloc]; exact Nat.lt_succ_self wr.heap.size)) (pair_fits (cutT_len 150 r)) (fun m' hm' => hm'.pair HI6.out (cutT_len 150 r))
        have HDo := Lib.hid hdo
        have HRm := Lib.hid (HS.out.rm.step HI6.out HIc.out (cutT_len 150 r))
        have HRx := Lib.hid (HS.out.rm.rx.pair HI6.out (cutT_len 150 r))
        clear hca hps hdo
        go_wp2_with (first
          | (go_at_call 19; fail))
        refine HDo.out.mono ?_
        rintro e w4 ⟨rfl, X4, recs4, s4, a4, P4, hok4, hf4, hl4, hs4, -⟩
        have hca : Chg (fun _ => False) w4 (w4.alloc (.cells #[.string ⟨#[120]⟩, .string ⟨#[]⟩, .bool true] 45)) := (Chg.refl _ _).alloc _
        have hps : Puts (w4.alloc (.cells #[.string ⟨#[120]⟩, .string ⟨#[]⟩, .bool true] 45)) w4.heap.size (.slice (some ⟨w4.heap.size, 0, none⟩) 1 1) goneX := puts_block (ps := goneX) (block_alloc_new _ _) rfl (by show (1 : Nat) ≤ 1000; omega)
        have hdo := do_room (hok4.fresh hca) HRx.out hf4 (by rw [hl4]; exact HS.out.len) (by have := HFew.out; omega) hps (fun g hg => by cases hg; exact hok4.ks.made (Nat.le_refl w4.heap.size) (by rw [World.size_alloc]; exact Nat.lt_succ_self w4.heap.size)) gone_fits (fun m' hm' => hm'.gone)
        have HDo2 := Lib.hid hdo
        have HL4 := Lib.hid (And.intro hl4 hs4)
        clear hca hps hdo hok4 hf4 hl4 hs4 HDo
        dsimp only
        go_wp2_with (first
          | (go_at_call 19; fail))
        refine HDo2.out.mono ?_
        rintro e w5 ⟨rfl, X5, recs5, s5, a5, P5, hok5, hf5, hl5, hs5, -⟩
        have HS5 := Lib.hid (show St W w5 b l q d X5 recs5 s5 a5 _ P5 (max (max c i) (i + 1)) from ⟨hok5, HRm.out, hf5, by rw [hl5, HL4.out.1]; exact HS.out.len⟩)
        have HF5 := Lib.hid (show s5 ≤ 1 + 12 * r0 + 2 * (i + 1) by have := HFew.out; have := HL4.out.2; omega)
        have hmx : max (max c i) (i + 1) = max c (i + 1) := by omega
        rw [hmx] at HS5
        clear hok5 hf5 hl5 hs5 HDo2 hmx
        dsimp only
        go_wp2_with fail
        exact ⟨⟨i + 1, by go_num, by omega, by omega, _, _, _, _, _, _, HS5.out, HF5.out⟩, by simp [intOf]; omega⟩
    · have HS9 := Lib.hid (show max c i = N by have := HC0.out.1; have := HN.out; omega)
      have HI6 := Lib.hid hi2
      by_cases hil1 : i < bs.length
      · have k1 : (i : Int) < (bs.length : Int) := by omega
        obtain rfl : i = 6 := by omega
        clear hil
        go_wp2_with fail
        exact ⟨⟨r0 + 1, by go_num, by omega, _, _, _, _, _, _, _, HS.out, by have := HFew.out.1; omega, by rw [HS9.out]; exact Nat.le_refl _, fun _ => HS9.out⟩, by simp [intOf]; omega⟩
      · have k1 : ¬ (i : Int) < (bs.length : Int) := by omega
        clear hil
        go_wp2_with fail
        exact ⟨⟨r0 + 1, by go_num, by omega, _, _, _, _, _, _, _, HS.out, by have := HFew.out.1; omega, by rw [HS9.out]; exact Nat.le_refl _, fun _ => HS9.out⟩, by simp [intOf]; omega⟩
  · have hri : ¬ (r0 : Int) ≤ (R : Int) := by omega
    have hcn : c = N := HC0.out.2 (by omega)
    have hlen := kat_len HS0.out.ok.ks.at'
    rw [HS0.out.rm.len, hcn] at hlen
    have HLen := Lib.hid hlen
    have hNi : min (bs.length : Int) 6 = (N : Int) := by have := HN.out; omega
    clear hlen hcn
    go_wp2_with (first
      | (go_at_call 20; refine HLen.out.mono ?_; rintro e w' ⟨rfl, rfl⟩)
      | (go_at_call 15; refine (HWk.out _).mono ?_; rintro e w12 ⟨rfl, hc12⟩; have HC12 := Lib.hid hc12; clear hc12))
    go_ret
    exact ⟨rfl, HS0.out.ok.ks.chg.trans' HC12.out⟩

set_option maxRecDepth 100000 in
theorem lifted (os : Os) (started : os.Started) (H : Type) (enc : TypeId × Value → H) :
    ReturnsInHanded {} Tryz.checked os 5 .any (Rows.kvRoomSpec.pre6 enc Tryz.prog Tryz.f5 [] false) (Rows.kvRoomSpec.post enc Tryz.prog Tryz.f5 false true false false) := by
  refine law_handed (C := Tryz.checked) (tb := 4) own started (by kernel_rfl) Tryz.func5
    (ChangeSpec.witness6 (enc := enc) (C := Tryz.checked) false ⟨#[], #[.slice none 0 0, .int .i64 0], []⟩ 8 (by kernel_rfl) (by kernel_rfl) (by kernel_rfl) (by kernel_rfl))
    laidOut (by rw [show Tryz.checked.prog = Tryz.prog from rfl, Tryz.params5]; intro t ht; simp at ht; rcases ht with rfl | rfl <;> exact ⟨by kernel_rfl, of_decide_eq_true (by kernel_rfl)⟩) rfl rfl Tryz.underlying4 ?_ ?_
  · intro ds hds
    rw [Tryz.params5] at hds
    match ds, hds with
    | [_, _], _ => rfl
  · intro W base args ds before hval0 hA0 _ hsz0
    have hval : ∀ (j : Nat) t v, Tryz.f5.params[j]? = some t → args[j]? = some v → Value.okWide Tryz.prog W .any base t v := hval0
    have hA : DataW.TrodAll enc Tryz.prog W 0 (fun _ => true) true Tryz.f5.params.toList args.toList ds before := hA0
    rw [Tryz.params5] at hA hval
    obtain ⟨v0, vs0, d0, ds0, p0, q0, hargs, rfl, rfl, h0, r0⟩ := trodAll_cons hA
    obtain ⟨v1, vs1, d1, ds1, p1, q1, rfl, rfl, rfl, h1, r1⟩ := trodAll_cons r0
    obtain ⟨rfl, rfl, rfl⟩ := trodAll_nil r1
    obtain rfl : args = #[v0, v1] := by cases args; simp_all
    obtain ⟨bs0, hs0, hl0, hm0⟩ := open_strs (hval 0 36 v0 rfl rfl) h0
    obtain ⟨a1, rfl, rfl, rfl, w1⟩ := open_int Tryz.underlying3 (hval 1 3 v1 rfl rfl) h1
    exact walk W v0 bs0 hs0 hl0 hm0 a1 (wf_inR w1)

theorem over : Rows.kvRoomRow.holds Tryz.pinned (OpenSpec.ofChange Rows.kvRoomSpec) :=
  OpenClaim.holds_of_wide 5 Tryz.f5 rfl rfl rfl rfl rfl rfl rfl ⟨rfl, rfl, rfl, rfl, rfl⟩ rfl rfl rfl rfl rfl (by kernel_rfl) Tryz.func5 (by kernel_rfl)
    (of_decide_eq_true (by kernel_rfl)) (by unfold Func.isWrapper; first | (rw [if_pos (by decide +kernel)]; kernel_rfl) | (rw [if_neg (by decide +kernel)]; exact ⟨rfl, rfl⟩))
    (fun os started H enc _ => lifted os started H enc)

theorem proved : Rows.KvRoomSaid := over
#print axioms proved



end Go.Proofs.YtbkefhoapnaciaaGreat.kvRoom
end

/-
  KvBack, whole: for every call the law returns true and changes nothing that was there. No condition.
-/
import Derived.Test.YtbkefhoapnaciaaGreatPkAa
import Derived.Test.YtbkefhoapnaciaaGreatPkBf
import Derived.Test.YtbkefhoapnaciaaGreatPx0KvBack
import Derived.Test.YtbkefhoapnaciaaGreatRows

section
set_option linter.unusedSimpArgs false
set_option linter.unusedVariables false
namespace Go.Proofs.YtbkefhoapnaciaaGreat.kvBack
open Go.ChangeShapes Go.WideShapes Go.ChangeAt Go.RowKit Go.My wals disks kvs

theorem laidOut : laidOutB Tryz.prog = true := by kernel_rfl
theorem own : ownKnob Tryz.prog.godebug = none := by kernel_rfl

theorem encF_bad {l : List PV} (h : (encF l).2 ≠ 0) : (encF l).1 = [] := by
  unfold encF at *
  split
  · rfl
  · split
    · rfl
    · split
      · rfl
      · rename_i h1 h2 h3
        rw [if_neg h1, if_neg h2, if_neg h3] at h
        exact absurd rfl h
theorem strV_zero (t : Txt) (s : ByteArray) (h : strV t = .string s) : strV (t ++ [0]) = .string (s ++ ⟨#[0]⟩) := by
  rw [strV_string t s h]
  show Value.string _ = _
  rw [← str_append t [0]]


set_option linter.unusedVariables false in
set_option maxRecDepth 100000 in
set_option maxHeartbeats 4000000 in
theorem walk (W : World) (v : Value) (ps : List PV) (hv : PutsAt W v ps) (_ : ps.length ≤ maxLen) (hz : ∀ p ∈ ps, p.sized) (t : Txt) (ht : t.length ≤ maxLen) : Calls Tryz.prog 4 #[v, strV t] W fun e w' => e = .returned (.bool true) ∧ Chg (fun _ => False) W w' := by
  have HSm := Lib.hid (small_any W v ps hv hz)
  obtain ⟨oa, cap, rfl, -⟩ := hv
  obtain ⟨st, hst⟩ : ∃ s : ByteArray, strV t = .string s := ⟨_, rfl⟩
  rw [hst]
  have HWk := Lib.hid works_any
  obtain ⟨S, hS⟩ : ∃ S, smallP ps = S := ⟨_, rfl⟩
  have hSl : S.length ≤ 70 := by rw [← hS]; exact smallP_len ps
  rw [hS] at HSm
  clear hS hz
  go_enter Tryz.func4, Tryz.ntmps4
  go_wp2_with (first
    | (go_at_call 16; fail))
  refine HSm.out.mono ?_
  rintro e w1 ⟨v1, rfl, hp1, hc1⟩
  have HEn := Lib.hid (encode_any w1 hp1 (by omega))
  obtain ⟨oa1, cap1, rfl, -⟩ := hp1.slice
  rw [List.length_map] at *
  have HP1 := Lib.hid hp1
  have HC1 := Lib.hid hc1
  clear hp1 hc1 HSm
  dsimp only
  by_cases he : (encF S).2 = 0
  · obtain ⟨b, hb⟩ : ∃ b, encF S = (b, 0) := ⟨(encF S).1, by rw [← he]⟩
    rw [hb] at HEn
    have hbl := (encF_ok hb).2.2.2.2
    obtain ⟨sb, hsb⟩ : ∃ s : ByteArray, strV b = .string s := ⟨_, rfl⟩
    have hb0 := strV_zero b sb hsb
    rw [hsb] at HEn
    have hsz := str_size b sb hsb
    have hszi : (sb.size : Int) ≤ 4096 := by omega
    have HSz := Lib.hid hsz
    clear hsz
    go_wp2_with (first
      | (go_at_call 10; refine HEn.out.mono ?_; rintro e w2 ⟨rfl, hc2⟩; have HC2 := Lib.hid (HC1.out.trans' hc2); have HP2 := Lib.hid (HP1.out.kept hc2 (fun _ _ h => h)); clear hc2)
      | (go_at_call 12; fail))
    have HD := Lib.hid (decode_any w2 b (by omega))
    rw [hsb, dec_enc hb] at HD
    refine HD.out.mono ?_
    rintro e w3 ⟨v3, er3, rfl, ⟨hp3, rfl⟩, hc3⟩
    obtain ⟨oa3, cap3, rfl, -⟩ := hp3.slice
    rw [List.length_map] at *
    have HP3 := Lib.hid hp3
    have HP2b := Lib.hid (HP2.out.kept hc3 (fun _ _ h => h))
    have HC3 := Lib.hid (HC2.out.trans' hc3)
    clear hp3 hc3 HD
    have hfit : ¬ 9223372036854775807 < sb.size + 1 := by have := HSz.out; omega
    dsimp only
    go_wp2_with (first
      | (go_at_call 12; fail))
    have HD := Lib.hid (decode_any w3 (b ++ [0]) (by rw [List.length_append]; simp; omega))
    rw [hb0, dec_more hb (by simp)] at HD
    refine HD.out.mono ?_
    rintro e w4 ⟨v4, er4, rfl, ⟨rfl, rfl⟩, hc4⟩
    have HSa := Lib.hid (same_yes w4 (puts_putsAt (HP3.out.kept hc4 (fun _ _ h => h))) (puts_putsAt (HP2b.out.kept hc4 (fun _ _ h => h))) (by omega))
    have HC4 := Lib.hid (HC3.out.trans' hc4)
    clear hc4 HD hfit
    dsimp only
    go_wp2_with (first
      | (go_at_call 14; refine HSa.out.mono ?_; rintro e w5 ⟨rfl, hc5⟩; have HC5 := Lib.hid (HC4.out.trans' hc5); clear hc5)
      | (go_at_call 12; fail))
    have HDt := Lib.hid (decode_any w5 t (by unfold maxLen at ht; omega))
    rw [hst] at HDt
    cases hdt : decF t with
    | none =>
      rw [hdt] at HDt
      go_wp2_with (first
        | (go_at_call 12; fail))
      refine HDt.out.mono ?_
      rintro e w6 ⟨v6, er6, rfl, ⟨rfl, rfl⟩, hc6⟩
      have HC6 := Lib.hid (HC5.out.trans' hc6)
      clear hdt HDt hc6
      dsimp only
      go_wp2_with (first
        | (go_at_call 15; refine (HWk.out _).mono ?_; rintro e w9 ⟨rfl, hc9⟩; have HC9 := Lib.hid hc9; clear hc9))
      go_ret
      exact ⟨rfl, HC6.out.trans' HC9.out⟩
    | some L =>
      rw [hdt] at HDt
      have hen := enc_dec hdt
      have hfl := (encF_ok hen).2.2.1
      go_wp2_with (first
        | (go_at_call 12; fail))
      refine HDt.out.mono ?_
      rintro e w6 ⟨v6, er6, rfl, ⟨hp6, rfl⟩, hc6⟩
      have h7 := encode_any w6 hp6 (by omega)
      rw [hen, hst] at h7
      have HEn := Lib.hid h7
      obtain ⟨oa6, cap6, rfl, -⟩ := hp6.slice
      rw [List.length_map] at *
      have HC6 := Lib.hid (HC5.out.trans' hc6)
      clear hdt HDt hc6 hen hfl h7 hp6
      dsimp only
      go_wp2_with (first
        | (go_at_call 10; refine HEn.out.mono ?_; rintro e w7 ⟨rfl, hc7⟩; have HC7 := Lib.hid hc7; clear hc7)
        | (go_at_call 15; refine (HWk.out _).mono ?_; rintro e w9 ⟨rfl, hc9⟩; have HC9 := Lib.hid hc9; clear hc9))
      go_ret
      exact ⟨rfl, (HC6.out.trans' HC7.out).trans' HC9.out⟩
  · have hbad := encF_bad he
    have herr := encF_err S
    obtain ⟨E, hE⟩ : ∃ E, encF S = E := ⟨_, rfl⟩
    rw [hE] at he hbad herr HEn
    obtain ⟨b, n⟩ := E
    simp only at he hbad herr HEn
    subst hbad
    rw [show strV [] = .string ⟨#[]⟩ from rfl] at HEn
    rcases herr with rfl | rfl | rfl
    · exact absurd rfl he
    · go_wp2_with (first
        | (go_at_call 10; refine HEn.out.mono ?_; rintro e w5 ⟨rfl, hc5⟩; have HC5 := Lib.hid (HC1.out.trans' hc5); clear hc5)
        | (go_at_call 12; fail))
      have HDt := Lib.hid (decode_any w5 t (by unfold maxLen at ht; omega))
      rw [hst] at HDt
      cases hdt : decF t with
      | none =>
        rw [hdt] at HDt
        go_wp2_with (first
          | (go_at_call 12; fail))
        refine HDt.out.mono ?_
        rintro e w6 ⟨v6, er6, rfl, ⟨rfl, rfl⟩, hc6⟩
        have HC6 := Lib.hid (HC5.out.trans' hc6)
        clear hdt HDt hc6
        dsimp only
        go_wp2_with (first
          | (go_at_call 15; refine (HWk.out _).mono ?_; rintro e w9 ⟨rfl, hc9⟩; have HC9 := Lib.hid hc9; clear hc9))
        go_ret
        exact ⟨rfl, HC6.out.trans' HC9.out⟩
      | some L =>
        rw [hdt] at HDt
        have hen := enc_dec hdt
        have hfl := (encF_ok hen).2.2.1
        go_wp2_with (first
          | (go_at_call 12; fail))
        refine HDt.out.mono ?_
        rintro e w6 ⟨v6, er6, rfl, ⟨hp6, rfl⟩, hc6⟩
        have h7 := encode_any w6 hp6 (by omega)
        rw [hen, hst] at h7
        have HEn := Lib.hid h7
        obtain ⟨oa6, cap6, rfl, -⟩ := hp6.slice
        rw [List.length_map] at *
        have HC6 := Lib.hid (HC5.out.trans' hc6)
        clear hdt HDt hc6 hen hfl h7 hp6
        dsimp only
        go_wp2_with (first
          | (go_at_call 10; refine HEn.out.mono ?_; rintro e w7 ⟨rfl, hc7⟩; have HC7 := Lib.hid hc7; clear hc7)
          | (go_at_call 15; refine (HWk.out _).mono ?_; rintro e w9 ⟨rfl, hc9⟩; have HC9 := Lib.hid hc9; clear hc9))
        go_ret
        exact ⟨rfl, (HC6.out.trans' HC7.out).trans' HC9.out⟩
    · go_wp2_with (first
        | (go_at_call 10; refine HEn.out.mono ?_; rintro e w5 ⟨rfl, hc5⟩; have HC5 := Lib.hid (HC1.out.trans' hc5); clear hc5)
        | (go_at_call 12; fail))
      have HDt := Lib.hid (decode_any w5 t (by unfold maxLen at ht; omega))
      rw [hst] at HDt
      cases hdt : decF t with
      | none =>
        rw [hdt] at HDt
        go_wp2_with (first
          | (go_at_call 12; fail))
        refine HDt.out.mono ?_
        rintro e w6 ⟨v6, er6, rfl, ⟨rfl, rfl⟩, hc6⟩
        have HC6 := Lib.hid (HC5.out.trans' hc6)
        clear hdt HDt hc6
        dsimp only
        go_wp2_with (first
          | (go_at_call 15; refine (HWk.out _).mono ?_; rintro e w9 ⟨rfl, hc9⟩; have HC9 := Lib.hid hc9; clear hc9))
        go_ret
        exact ⟨rfl, HC6.out.trans' HC9.out⟩
      | some L =>
        rw [hdt] at HDt
        have hen := enc_dec hdt
        have hfl := (encF_ok hen).2.2.1
        go_wp2_with (first
          | (go_at_call 12; fail))
        refine HDt.out.mono ?_
        rintro e w6 ⟨v6, er6, rfl, ⟨hp6, rfl⟩, hc6⟩
        have h7 := encode_any w6 hp6 (by omega)
        rw [hen, hst] at h7
        have HEn := Lib.hid h7
        obtain ⟨oa6, cap6, rfl, -⟩ := hp6.slice
        rw [List.length_map] at *
        have HC6 := Lib.hid (HC5.out.trans' hc6)
        clear hdt HDt hc6 hen hfl h7 hp6
        dsimp only
        go_wp2_with (first
          | (go_at_call 10; refine HEn.out.mono ?_; rintro e w7 ⟨rfl, hc7⟩; have HC7 := Lib.hid hc7; clear hc7)
          | (go_at_call 15; refine (HWk.out _).mono ?_; rintro e w9 ⟨rfl, hc9⟩; have HC9 := Lib.hid hc9; clear hc9))
        go_ret
        exact ⟨rfl, (HC6.out.trans' HC7.out).trans' HC9.out⟩

set_option maxRecDepth 100000 in
theorem lifted (os : Os) (started : os.Started) (H : Type) (enc : TypeId × Value → H) :
    ReturnsInHanded {} Tryz.checked os 4 .any (Rows.kvBackSpec.pre6 enc Tryz.prog Tryz.f4 [] false) (Rows.kvBackSpec.post enc Tryz.prog Tryz.f4 false true false false) := by
  refine law_handed (C := Tryz.checked) (tb := 4) own started (by kernel_rfl) Tryz.func4
    (ChangeSpec.witness6 (enc := enc) (C := Tryz.checked) false ⟨#[], #[.slice none 0 0, .string ⟨#[]⟩], []⟩ 8 (by kernel_rfl) (by kernel_rfl) (by kernel_rfl) (by kernel_rfl))
    laidOut (by rw [show Tryz.checked.prog = Tryz.prog from rfl, Tryz.params4]; intro t ht; simp at ht; rcases ht with rfl | rfl <;> exact ⟨by kernel_rfl, of_decide_eq_true (by kernel_rfl)⟩) rfl rfl Tryz.underlying4 ?_ ?_
  · intro ds hds
    rw [Tryz.params4] at hds
    match ds, hds with
    | [_, _], _ => rfl
  · intro W base args ds before hval0 hA0 _ hsz0
    have hval : ∀ (j : Nat) t v, Tryz.f4.params[j]? = some t → args[j]? = some v → Value.okWide Tryz.prog W .any base t v := hval0
    have hA : DataW.TrodAll enc Tryz.prog W 0 (fun _ => true) true Tryz.f4.params.toList args.toList ds before := hA0
    rw [Tryz.params4] at hA hval
    obtain ⟨v0, vs0, d0, ds0, p0, q0, hargs, rfl, rfl, h0, r0⟩ := trodAll_cons hA
    obtain ⟨v1, vs1, d1, ds1, p1, q1, rfl, rfl, rfl, h1, r1⟩ := trodAll_cons r0
    obtain ⟨rfl, rfl, rfl⟩ := trodAll_nil r1
    obtain rfl : args = #[v0, v1] := by cases args; simp_all
    obtain ⟨ps0, g0, n0, z0⟩ := open_puts (hval 0 22 v0 rfl rfl) h0
    obtain ⟨b1, rfl, hb1⟩ := open_str (hval 1 9 v1 rfl rfl) h1
    exact walk W v0 ps0 g0 n0 z0 b1 hb1

theorem over : Rows.kvBackRow.holds Tryz.pinned (OpenSpec.ofChange Rows.kvBackSpec) :=
  OpenClaim.holds_of_wide 4 Tryz.f4 rfl rfl rfl rfl rfl rfl rfl ⟨rfl, rfl, rfl, rfl, rfl⟩ rfl rfl rfl rfl rfl (by kernel_rfl) Tryz.func4 (by kernel_rfl)
    (of_decide_eq_true (by kernel_rfl)) (by unfold Func.isWrapper; first | (rw [if_pos (by decide +kernel)]; kernel_rfl) | (rw [if_neg (by decide +kernel)]; exact ⟨rfl, rfl⟩))
    (fun os started H enc _ => lifted os started H enc)

theorem proved : Rows.KvBackSaid := over
#print axioms proved



end Go.Proofs.YtbkefhoapnaciaaGreat.kvBack
end

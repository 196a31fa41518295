/-
  KvCodesUpto, whole: for every call whose arguments are of bulk at most 1048576 the law returns true and changes nothing that was there. No other condition.
-/
import Derived.Test.YtbkefhoapnaciaaGreatPx1KvCodes
import Derived.Test.YtbkefhoapnaciaaGreatRows

section
set_option linter.unusedSimpArgs false
set_option linter.unusedVariables false
namespace Go.Proofs.YtbkefhoapnaciaaGreat.kvCodes
open Go.ChangeShapes Go.WideShapes Go.ChangeAt Go.RowKit Go.My wals disks kvs

theorem laidOut : laidOutB Tryz.prog = true := by kernel_rfl
theorem own : ownKnob Tryz.prog.godebug = none := by kernel_rfl

/-- Both read the same. -/
theorem same_outs {w : World} {B1 B2 : Nat} {x y : Value} {e1 e2 : Int} {o : Option (List PV)} (h1 : DecOut w B1 x e1 o) (h2 : DecOut w B2 y e2 o) : e1 = e2 ∧ ∃ l, PutsAt w x l ∧ PutsAt w y l ∧ (o = none → l = []) ∧ ∀ l', o = some l' → l = l' := by
  cases o with
  | none =>
    obtain ⟨rfl, rfl⟩ := h1
    obtain ⟨rfl, rfl⟩ := h2
    refine ⟨rfl, [], ?_, ?_, fun _ => rfl, fun _ h => by cases h⟩
    · exact ⟨none, 0, rfl, ⟨fun h => absurd rfl h, by simp, by simp⟩⟩
    · exact ⟨none, 0, rfl, ⟨fun h => absurd rfl h, by simp, by simp⟩⟩
  | some l =>
    obtain ⟨h1, rfl⟩ := h1
    obtain ⟨h2, rfl⟩ := h2
    exact ⟨rfl, l, puts_putsAt h1, puts_putsAt h2, (fun h => by cases h), fun l' h => by cases h; rfl⟩
theorem out_kept {w w' : World} {B : Nat} {x : Value} {e : Int} {o : Option (List PV)} (h : DecOut w B x e o) (hc : Chg (fun _ => False) w w') : DecOut w' B x e o := by
  cases o with
  | none => exact h
  | some l => exact ⟨h.1.kept hc (fun _ _ h => h), h.2⟩
theorem out_slice {w : World} {B : Nat} {x : Value} {e : Int} {o : Option (List PV)} (h : DecOut w B x e o) : ∃ oa n cap, x = .slice oa n cap := by
  cases o with
  | none => exact ⟨_, _, _, h.1⟩
  | some l =>
    obtain ⟨oa, cap, e, -⟩ := h.1.slice
    exact ⟨_, _, _, e⟩
theorem out_short {w : World} {B : Nat} {x : Value} {e : Int} {t : Txt} (_ : DecOut w B x e (decF t)) : ∀ l, decF t = some l → l.length ≤ 64 := fun l h => (encF_ok (enc_dec h)).2.2.1


set_option maxRecDepth 100000 in
set_option maxHeartbeats 4000000 in
theorem walk (W : World) (oa : Option Addr) (cap : Nat) (ps : List PV) (hcap : ps.length ≤ cap) (hcm : cap ≤ maxLen) (hr : RowsAt W 3 oa (ps.map PV.row)) (t : Txt) (ht : t.length ≤ 1048576) :
    Calls Tryz.prog 3 #[.slice oa ps.length cap, strV t] W fun e w' => e = .returned (.bool true) ∧ Chg (fun _ => False) W w' := by
  obtain ⟨st, hst⟩ : ∃ s : ByteArray, strV t = .string s := ⟨_, rfl⟩
  rw [hst]
  have HWk := Lib.hid works_any
  unfold maxLen at hcm
  have i1 : (ps.length : Int) ≤ (cap : Int) := by omega
  go_enter Tryz.func3, Tryz.ntmps3
  by_cases h100 : 100 < ps.length
  · have i2 : (100 : Int) < (ps.length : Int) := by omega
    have i3 : (100 : Int) ≤ (cap : Int) := by omega
    obtain ⟨L, hL⟩ : ∃ L, ps.take 100 = L := ⟨_, rfl⟩
    have hLl : L.length = 100 := by rw [← hL, List.length_take]; omega
    have hpl : PutsAt W (.slice oa 100 cap) L := ⟨oa, cap, by rw [hLl], by rw [← hL]; exact rows_take hr 100⟩
    have hLm : L.length ≤ 100 := by omega
    clear hL hLl hr hcap
    have hca : Chg (fun _ => False) W (W.alloc (.cells #[] 45)) := (Chg.refl _ _).alloc _
    have hp0 : Puts (W.alloc (.cells #[] 45)) W.heap.size (.slice (some ⟨W.heap.size, 0, none⟩) 0 0) [] := puts_block (ps := []) (block_alloc_new _ _) rfl (by decide)
    obtain ⟨v1, w1, hap, hp1, hc1⟩ := append_args hp0 (PutsAt.kept (l := L) hpl hca (fun _ _ h => h)) (by rw [World.size_alloc]; omega) (by simp only [List.length_nil]; omega) 22
    have hcw1 : Chg (fun _ => False) W w1 := hca.new hc1 (fun i e => (hp0.lt e.symm).1)
    rw [List.nil_append] at hp1
    have HEn := Lib.hid (encode_any w1 hp1 (by omega))
    have HER := Lib.hid (fun w' (hc : Chg (fun _ => False) W w') => encodeR_any w' (hpl.kept hc (fun _ _ h => h)) (by omega))
    obtain ⟨oa1, cap1, rfl, -⟩ := hp1.slice
    rw [List.length_map] at *
    have HAp := Lib.hid hap
    have HC1 := Lib.hid hcw1
    obtain ⟨sx, hsx⟩ : ∃ s : ByteArray, strV (encF L).1 = .string s := ⟨_, rfl⟩
    obtain ⟨ne, hne⟩ : ∃ n, (encF L).2 = n := ⟨_, rfl⟩
    rw [hsx, hne] at HEn HER
    have q1 : (sx.toList == sx.toList) = true := by simp
    clear hca hp0 hap hp1 hc1 hcw1 hpl hsx hne
    go_wp2_with (first
      | (at_builtin; refine Lib.wpList_append_run _ rfl _ _ _ _ rfl _ _ rfl rfl _ _ HAp.out ?_)
      | (go_at_call 10; refine HEn.out.mono ?_; rintro e w2 ⟨rfl, hc2⟩; have HC2 := Lib.hid (HC1.out.trans' hc2); clear hc2)
      | (go_at_call 11; refine (HER.out _ HC2.out).mono ?_; rintro e w3 ⟨rfl, hc3⟩; have HC3 := Lib.hid (HC2.out.trans' hc3); clear hc3)
      | (go_at_call 12; fail))
    have hd4 := decode_any w3 t (by omega)
    rw [hst] at hd4
    refine hd4.mono ?_
    rintro e w4 ⟨v4, e4, rfl, ho4, hc4⟩
    obtain ⟨oa4, n4, cap4, rfl⟩ := out_slice ho4
    have HO4 := Lib.hid ho4
    have HC4 := Lib.hid (HC3.out.trans' hc4)
    clear hd4 ho4 hc4
    dsimp only
    go_wp2_with (first
      | (go_at_call 13; fail))
    have hd5 := decodeR_any w4 t ht
    rw [hst] at hd5
    refine hd5.mono ?_
    rintro e w5 ⟨v5, e5, rfl, ho5, hc5⟩
    obtain ⟨oa5, n5, cap5, rfl⟩ := out_slice ho5
    obtain ⟨rfl, l, ha, hb, hn, hs⟩ := same_outs (out_kept HO4.out hc5) ho5
    have hll : l.length ≤ 1000000 := by
      cases hd : decF t with
      | none => rw [hn hd]; simp
      | some l' => rw [hs l' hd]; have := out_short ho5 l' hd; omega
    have HSa := Lib.hid (same_yes w5 ha hb (by omega))
    have HC5 := Lib.hid (HC4.out.trans' hc5)
    clear hd5 ho5 hc5 ha hb hn hs hll
    dsimp only
    go_wp2_with (first
      | (go_at_call 14; refine HSa.out.mono ?_; rintro e w6 ⟨rfl, hc6⟩; have HC6 := Lib.hid (HC5.out.trans' hc6); clear hc6)
      | (go_at_call 15; refine (HWk.out _).mono ?_; rintro e w9 ⟨rfl, hc9⟩; have HC9 := Lib.hid hc9; clear hc9))
    go_ret
    exact ⟨rfl, HC6.out.trans' HC9.out⟩
  · have i2 : ¬ (100 : Int) < (ps.length : Int) := by omega
    have hpl : PutsAt W (.slice oa ps.length cap) ps := ⟨oa, cap, rfl, hr⟩
    have hLm : ps.length ≤ 100 := by omega
    clear hr hcap h100
    generalize ps = L at *
    have hca : Chg (fun _ => False) W (W.alloc (.cells #[] 45)) := (Chg.refl _ _).alloc _
    have hp0 : Puts (W.alloc (.cells #[] 45)) W.heap.size (.slice (some ⟨W.heap.size, 0, none⟩) 0 0) [] := puts_block (ps := []) (block_alloc_new _ _) rfl (by decide)
    obtain ⟨v1, w1, hap, hp1, hc1⟩ := append_args hp0 (PutsAt.kept (l := L) hpl hca (fun _ _ h => h)) (by rw [World.size_alloc]; omega) (by simp only [List.length_nil]; omega) 22
    have hcw1 : Chg (fun _ => False) W w1 := hca.new hc1 (fun i e => (hp0.lt e.symm).1)
    rw [List.nil_append] at hp1
    have HEn := Lib.hid (encode_any w1 hp1 (by omega))
    have HER := Lib.hid (fun w' (hc : Chg (fun _ => False) W w') => encodeR_any w' (hpl.kept hc (fun _ _ h => h)) (by omega))
    obtain ⟨oa1, cap1, rfl, -⟩ := hp1.slice
    rw [List.length_map] at *
    have HAp := Lib.hid hap
    have HC1 := Lib.hid hcw1
    obtain ⟨sx, hsx⟩ : ∃ s : ByteArray, strV (encF L).1 = .string s := ⟨_, rfl⟩
    obtain ⟨ne, hne⟩ : ∃ n, (encF L).2 = n := ⟨_, rfl⟩
    rw [hsx, hne] at HEn HER
    have q1 : (sx.toList == sx.toList) = true := by simp
    clear hca hp0 hap hp1 hc1 hcw1 hpl hsx hne
    go_wp2_with (first
      | (at_builtin; refine Lib.wpList_append_run _ rfl _ _ _ _ rfl _ _ rfl rfl _ _ HAp.out ?_)
      | (go_at_call 10; refine HEn.out.mono ?_; rintro e w2 ⟨rfl, hc2⟩; have HC2 := Lib.hid (HC1.out.trans' hc2); clear hc2)
      | (go_at_call 11; refine (HER.out _ HC2.out).mono ?_; rintro e w3 ⟨rfl, hc3⟩; have HC3 := Lib.hid (HC2.out.trans' hc3); clear hc3)
      | (go_at_call 12; fail))
    have hd4 := decode_any w3 t (by omega)
    rw [hst] at hd4
    refine hd4.mono ?_
    rintro e w4 ⟨v4, e4, rfl, ho4, hc4⟩
    obtain ⟨oa4, n4, cap4, rfl⟩ := out_slice ho4
    have HO4 := Lib.hid ho4
    have HC4 := Lib.hid (HC3.out.trans' hc4)
    clear hd4 ho4 hc4
    dsimp only
    go_wp2_with (first
      | (go_at_call 13; fail))
    have hd5 := decodeR_any w4 t ht
    rw [hst] at hd5
    refine hd5.mono ?_
    rintro e w5 ⟨v5, e5, rfl, ho5, hc5⟩
    obtain ⟨oa5, n5, cap5, rfl⟩ := out_slice ho5
    obtain ⟨rfl, l, ha, hb, hn, hs⟩ := same_outs (out_kept HO4.out hc5) ho5
    have hll : l.length ≤ 1000000 := by
      cases hd : decF t with
      | none => rw [hn hd]; simp
      | some l' => rw [hs l' hd]; have := out_short ho5 l' hd; omega
    have HSa := Lib.hid (same_yes w5 ha hb (by omega))
    have HC5 := Lib.hid (HC4.out.trans' hc5)
    clear hd5 ho5 hc5 ha hb hn hs hll
    dsimp only
    go_wp2_with (first
      | (go_at_call 14; refine HSa.out.mono ?_; rintro e w6 ⟨rfl, hc6⟩; have HC6 := Lib.hid (HC5.out.trans' hc6); clear hc6)
      | (go_at_call 15; refine (HWk.out _).mono ?_; rintro e w9 ⟨rfl, hc9⟩; have HC9 := Lib.hid hc9; clear hc9))
    go_ret
    exact ⟨rfl, HC6.out.trans' HC9.out⟩

/-- What the bound gives: the text's length. -/
theorem short {H : Type} {d0 : DataW H} {b : List UInt8} (hk : Rows.uptoSmall H [d0, .lit (.string b)] = true) : b.length ≤ 1048576 := by
  have h : Rows.uptoBulkAll [d0, DataW.lit (H := H) (.string b)] ≤ 1048576 := of_decide_eq_true hk
  simp only [Rows.uptoBulkAll, Rows.uptoBulk] at h
  omega

set_option maxRecDepth 100000 in
theorem lifted (os : Os) (started : os.Started) (H : Type) (enc : TypeId × Value → H) (F : Stop.Interp) :
    ReturnsInHanded {} Tryz.checked os 3 .any ((Rows.OpenSpec.upto Rows.kvCodesSpec).pre6 enc Tryz.prog Tryz.f3 Rows.kvCodesUptoRow.domain false) (((Rows.OpenSpec.upto Rows.kvCodesSpec).at F).post enc Tryz.prog Tryz.f3 false true false false) := by
  refine returnsInHanded_of_cond (C := Tryz.checked) (s := Rows.OpenSpec.upto Rows.kvCodesSpec) (k := Rows.uptoSmall) rfl own started (by kernel_rfl) Tryz.func3
    (OpenSpec.witness (enc := enc) (C := Tryz.checked) (s := Rows.OpenSpec.upto Rows.kvCodesSpec) (k := Rows.uptoSmall) rfl false ⟨#[], #[.slice none 0 0, .string ⟨#[]⟩], []⟩ 8 (by kernel_rfl) (by kernel_rfl) (by kernel_rfl)
      (x := ([.nil, .lit (.string [])], [], [])) (by kernel_rfl) rfl (by kernel_rfl)) ?_
  intro W base args ds gs before hval0 hW _ hk _
  refine law_post (F := 3) (fn := Tryz.f3) (s := Rows.kvCodesSpec) (tb := 4) laidOut (by rw [Tryz.params3]; intro t ht; simp at ht; rcases ht with rfl | rfl <;> exact ⟨by kernel_rfl, of_decide_eq_true (by kernel_rfl)⟩) rfl rfl Tryz.underlying4 ?_ hW ?_
  · intro ds hds
    rw [Tryz.params3] at hds
    match ds, hds with
    | [_, _], _ => rfl
  · rintro rfl hA0
    have hval : ∀ (j : Nat) t v, Tryz.f3.params[j]? = some t → args[j]? = some v → Value.okWide Tryz.prog W .any base t v := hval0
    have hA : DataW.TrodAll enc Tryz.prog W 0 (fun _ => true) true Tryz.f3.params.toList args.toList ds before := hA0
    rw [Tryz.params3] at hA hval
    obtain ⟨v0, vs0, d0, ds0, p0, q0, hargs, rfl, rfl, h0, r0⟩ := trodAll_cons hA
    obtain ⟨v1, vs1, d1, ds1, p1, q1, rfl, rfl, rfl, h1, r1⟩ := trodAll_cons r0
    obtain ⟨rfl, rfl, rfl⟩ := trodAll_nil r1
    obtain rfl : args = #[v0, v1] := by cases args; simp_all
    obtain ⟨oa0, cap0, l0, rfl, hc0, hm0, g0⟩ := open_puts2 (hval 0 22 v0 rfl rfl) h0
    obtain ⟨s1, rfl, rfl, -, -⟩ := Go.ChangeMaps.open_string Tryz.underlying9 (hval 1 9 v1 rfl rfl) h1
    rw [List.append_nil] at hk
    have := walk W oa0 cap0 l0 hc0 hm0 g0 s1.data.toList (short hk)
    rw [← strV_of] at this
    exact this

theorem over : Rows.kvCodesUptoRow.holds Tryz.pinned (Rows.OpenSpec.upto Rows.kvCodesSpec) :=
  OpenClaim.holds_of_cond 3 Tryz.f3 rfl rfl rfl rfl rfl rfl rfl ⟨rfl, rfl, rfl, rfl, rfl⟩ rfl rfl rfl rfl rfl (by kernel_rfl) Tryz.func3 (by kernel_rfl)
    (of_decide_eq_true (by kernel_rfl)) (by unfold Func.isWrapper; first | (rw [if_pos (by decide +kernel)]; kernel_rfl) | (rw [if_neg (by decide +kernel)]; exact ⟨rfl, rfl⟩))
    (fun os started H enc _ F => lifted os started H enc F)

theorem proved : Rows.KvCodesUptoSaid := over
#print axioms proved

end Go.Proofs.YtbkefhoapnaciaaGreat.kvCodes
end

/-
  CapsFits, whole: for every quota, used and more the law returns true and changes nothing that was there. No condition.
-/
import Derived.Test.YtomceindibnpnaaCaps
import Derived.Test.YtomceindibnpnaaRows
import Derived.Test.YtomceindibnpnaaLaw
namespace Go.Proofs.Ytomceindibnpnaa.capsFits
open Go.ChangeShapes Go.WideShapes Go.ChangeAt Go.RowKit Go.My

theorem own : ownKnob Try.prog.godebug = none := by kernel_rfl

def Q3 (quota : Int) : List (Int × Int) := [(3, quota)]
theorem tc_neg (quota : Int) (h : quota < 0) : tenantCode [] 3 quota = 2 := by
  unfold tenantCode; rw [if_neg (by omega)]
theorem tc_pos (quota : Int) (h : 0 ≤ quota) : tenantCode [] 3 quota = 0 := by
  unfold tenantCode; rw [if_pos (by omega)]; rfl
theorem tm_pos (quota : Int) (h : 0 ≤ quota) : tenantMap [] 3 quota = Q3 quota := by
  unfold tenantMap; rw [if_pos (tc_pos quota h)]; rfl
theorem fc (quota a b : Int) : fitsCode (Q3 quota) 3 a b = if a < 0 ∨ b < 0 then 2 else if quota < a + b then 17 else 0 := rfl

set_option maxHeartbeats 800000 in
theorem walk (quota used more : Int) (b0 : -9223372036854775808 ≤ quota ∧ quota ≤ 9223372036854775807) (w : World) :
    Calls Try.prog 3 #[.int .i64 quota, .int .i64 used, .int .i64 more] w fun e w' => e = .returned (.bool true) ∧ Chg (fun _ => False) w w' := by
  obtain ⟨b1, b2⟩ := b0
  go_enter Try.func3, Try.ntmps3
  go_wp2_with fail
  refine (new_any _).mono ?_
  rintro e w1 ⟨rfl, h1, hc1, hs1⟩
  have H1 := Lib.hid h1
  clear h1 hs1
  go_wp2_with fail
  refine (tenant_any _ _ _ _ _ _ _ H1.out _ _ (by decide)).mono ?_
  rintro e w2 ⟨rfl, h2, hc2⟩
  have hc2' := Chg.new hc1 hc2 (fun i hi => by omega)
  clear hc2
  by_cases hq : quota < 0
  · rw [tc_neg quota hq]
    clear h2
    go_wp2_with (go_at_call 17; refine (works_any _).mono ?_; rintro e w3 ⟨rfl, hc3⟩)
    go_ret
    exact ⟨rfl, hc2'.new hc3 (fun i hi => hi.elim)⟩
  have hq' : 0 ≤ quota := by omega
  rw [tm_pos quota hq'] at h2
  rw [tc_pos quota hq']
  have qb : ∀ v, mget (Q3 quota) 3 = some v → 0 ≤ v ∧ v ≤ 9223372036854775807 := by
    intro v hv
    have : mget (Q3 quota) 3 = some quota := rfl
    rw [this] at hv; cases hv; omega
  have H2 := Lib.hid h2
  have Hqb := Lib.hid qb
  clear h2 qb hq
  by_cases hu : used < 0 ∨ more < 0
  · have hf : (fitsCode (Q3 quota) 3 used more) = 2 := by rw [fc, if_pos hu]
    go_wp2_with (first
      | (go_at_call 18; refine (fits_any _ _ _ _ _ _ _ H2.out _ _ _ (by decide) Hqb.out).mono ?_; rintro e w3 ⟨rfl, rfl⟩)
      | (go_at_call 17; refine (works_any _).mono ?_; rintro e w3 ⟨rfl, hc3⟩))
    all_goals go_ret
    all_goals exact ⟨rfl, hc2'.new hc3 (fun i hi => hi.elim)⟩
  have hu0 : 0 ≤ used := by omega
  have hm0 : 0 ≤ more := by omega
  by_cases hg : quota < used
  · have hf : (fitsCode (Q3 quota) 3 used more) = 17 := by rw [fc, if_neg hu, if_pos (by omega)]
    clear hu
    go_wp2_with (first
      | (go_at_call 18; refine (fits_any _ _ _ _ _ _ _ H2.out _ _ _ (by decide) Hqb.out).mono ?_; rintro e w3 ⟨rfl, rfl⟩)
      | (go_at_call 17; refine (works_any _).mono ?_; rintro e w3 ⟨rfl, hc3⟩))
    all_goals go_ret
    all_goals exact ⟨rfl, hc2'.new hc3 (fun i hi => hi.elim)⟩
  have hg' : used ≤ quota := by omega
  have f1 : fitsCode (Q3 quota) 3 used (quota - used) = 0 := by rw [fc, if_neg (by omega), if_neg (by omega)]
  have f2 : fitsCode (Q3 quota) 3 used (quota - used + 1) = 17 := by rw [fc, if_neg (by omega), if_pos (by omega)]
  by_cases hml : more ≤ quota - used
  · have f3 : fitsCode (Q3 quota) 3 used more = 0 := by rw [fc, if_neg (by omega), if_neg (by omega)]
    have f4 : fitsCode (Q3 quota) 3 more used = 0 := by rw [fc, if_neg (by omega), if_neg (by omega)]
    clear hu hg
    go_wp2_with (first
      | (go_at_call 18; refine (fits_any _ _ _ _ _ _ _ H2.out _ _ _ (by decide) Hqb.out).mono ?_; rintro e w3 ⟨rfl, rfl⟩)
      | (go_at_call 17; refine (works_any _).mono ?_; rintro e w3 ⟨rfl, hc3⟩))
    all_goals go_ret
    all_goals exact ⟨by first | (simp; done) | (simp; omega), hc2'.new hc3 (fun i hi => hi.elim)⟩
  · have f3 : fitsCode (Q3 quota) 3 used more = 17 := by rw [fc, if_neg (by omega), if_pos (by omega)]
    have f4 : fitsCode (Q3 quota) 3 more used = 17 := by rw [fc, if_neg (by omega), if_pos (by omega)]
    clear hu hg
    go_wp2_with (first
      | (go_at_call 18; refine (fits_any _ _ _ _ _ _ _ H2.out _ _ _ (by decide) Hqb.out).mono ?_; rintro e w3 ⟨rfl, rfl⟩)
      | (go_at_call 17; refine (works_any _).mono ?_; rintro e w3 ⟨rfl, hc3⟩))
    all_goals go_ret
    all_goals exact ⟨by first | (simp; done) | (simp; omega), hc2'.new hc3 (fun i hi => hi.elim)⟩

theorem bounds {a : Int} (h : (Lit.int .i64 a).wf = true) : -9223372036854775808 ≤ a ∧ a ≤ 9223372036854775807 := by
  have := bounds_i64 h; omega

set_option maxRecDepth 100000 in
theorem lifted (os : Os) (started : os.Started) (H : Type) (enc : TypeId × Value → H) :
    ReturnsInHanded {} Try.checked os 3 .any (Rows.capsFitsSpec.pre6 enc Try.prog Try.f3 [] false) (Rows.capsFitsSpec.post enc Try.prog Try.f3 false true false false) := by
  refine law_handed (C := Try.checked) (tb := 4) own started (by kernel_rfl) Try.func3
    (ChangeSpec.witness6 (enc := enc) (C := Try.checked) false ⟨#[], #[.int .i64 0, .int .i64 0, .int .i64 0], []⟩ 8 (by kernel_rfl) (by kernel_rfl) (by kernel_rfl) (by kernel_rfl))
    laidOut (by rw [show Try.checked.prog = Try.prog from rfl, Try.params3]; intro t ht; simp at ht; subst ht; exact ⟨by kernel_rfl, of_decide_eq_true (by kernel_rfl)⟩) rfl rfl Try.underlying4 ?_ ?_
  · intro ds hds
    rw [Try.params3] at hds
    match ds, hds with
    | [_, _, _], _ => rfl
  · intro W base args ds before hval0 hA0 _ _
    have hval : ∀ (j : Nat) t v, Try.f3.params[j]? = some t → args[j]? = some v → Value.okWide Try.prog W .any base t v := hval0
    have hA : DataW.TrodAll enc Try.prog W 0 (fun _ => true) true Try.f3.params.toList args.toList ds before := hA0
    rw [Try.params3] at hA hval
    obtain ⟨v0, vs0, d0, ds0, p0, q0, hargs, rfl, rfl, h0, r0⟩ := trodAll_cons hA
    obtain ⟨v1, vs1, d1, ds1, p1, q1, rfl, rfl, rfl, h1, r1⟩ := trodAll_cons r0
    obtain ⟨v2, vs2, d2, ds2, p2, q2, rfl, rfl, rfl, h2, r2⟩ := trodAll_cons r1
    obtain ⟨rfl, rfl, rfl⟩ := trodAll_nil r2
    obtain rfl : args = #[v0, v1, v2] := by cases args; simp_all
    obtain ⟨a0, rfl, rfl, rfl, w0⟩ := open_int Try.underlying3 (hval 0 3 v0 rfl rfl) h0
    obtain ⟨a1, rfl, rfl, rfl, w1⟩ := open_int Try.underlying3 (hval 1 3 v1 rfl rfl) h1
    obtain ⟨a2, rfl, rfl, rfl, w2⟩ := open_int Try.underlying3 (hval 2 3 v2 rfl rfl) h2
    exact walk a0 a1 a2 (bounds w0) W

theorem over : Rows.capsFitsRow.holds Try.pinned (OpenSpec.ofChange Rows.capsFitsSpec) :=
  OpenClaim.holds_of_wide 3 Try.f3 rfl rfl rfl rfl rfl rfl rfl ⟨rfl, rfl, rfl, rfl, rfl⟩ rfl rfl rfl rfl rfl (by kernel_rfl) Try.func3 (by kernel_rfl)
    (of_decide_eq_true (by kernel_rfl)) (by unfold Func.isWrapper; first | (rw [if_pos (by decide +kernel)]; kernel_rfl) | (rw [if_neg (by decide +kernel)]; exact ⟨rfl, rfl⟩))
    (fun os started H enc _ => lifted os started H enc)

theorem proved : Rows.CapsFitsSaid := over
#print axioms proved

end Go.Proofs.Ytomceindibnpnaa.capsFits

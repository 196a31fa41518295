/-
  CapsPlays, whole: for every list of calls the law returns true and changes nothing that was there. No condition.
-/
import Derived.Test.YtomceindibnpnaaCapsSame
import Derived.Test.YtomceindibnpnaaCapsCopy
import Derived.Test.YtomceindibnpnaaRows
namespace Go.Proofs.Ytomceindibnpnaa.capsPlays
open Go.ChangeShapes Go.WideShapes Go.ChangeAt Go.My Go.RowKit

structure PSt (W w : World) (T B q g R : Nat) (v : Value) (Q : List (Int × Int)) (G : List ((Int × Int) × Bool)) (L : List RT) : Prop where
  tab : TabAt w T B q g Q G
  ref : RefAt w R v L
  same : SameT Q G L
  lo : W.heap.size ≤ q ∧ W.heap.size ≤ g ∧ W.heap.size ≤ R
  old : Chg (fun _ => False) W w

variable {W w w' : World} {T B q g R : Nat} {v : Value} {Q : List (Int × Int)} {G : List ((Int × Int) × Bool)} {L : List RT}

theorem PSt.fresh (h : PSt W w T B q g R v Q G L) (hc : Chg (fun _ => False) w w') : PSt W w' T B q g R v Q G L :=
  ⟨h.tab.kept hc (fun h => h) (fun h => h) (fun h => h) (fun h => h), h.ref.fresh hc, h.same, h.lo, h.old.trans' hc⟩

theorem PSt.does (h : PSt W w T B q g R v Q G L) {v' : Value} {a : Act} (hb : a.quota ≤ 9223372036854775807) (h1 : TabAt w' T B q g (stepQ a Q) (stepG a Q G)) (h2 : RefAt w' R v' (stepL a L)) (h3 : Chg (doesBlocks q g R v) w w') : PSt W w' T B q g R v' (stepQ a Q) (stepG a Q G) (stepL a L) := by
  refine ⟨h1, h2, h.same.step a hb, h.lo, h.old.trans h3 (fun i hi hk => ?_)⟩
  have := h.lo
  rcases hk with (hk | hk) | hk | hk
  · omega
  · omega
  · omega
  · have := (h.ref.recs.lt hk).1; omega

/-- Behind a copy, and calls on the table that was copied. -/
theorem PSt.copied (h : PSt W w T B q g R v Q G L) {T' B' q' g' : Nat} {w1 w3 : World} (hc1 : Chg (fun _ => False) w w1) (ht : TabAt w1 T' B' q' g' Q G) (hlo : w.heap.size ≤ T' ∧ w.heap.size ≤ B' ∧ w.heap.size ≤ q' ∧ w.heap.size ≤ g') (hc3 : Chg (fun k => k = q ∨ k = g) w1 w3) : PSt W w3 T' B' q' g' R v Q G L := by
  have hq := h.tab.quotas.lt
  have hg := h.tab.grants.lt
  refine ⟨ht.kept hc3 (by omega) (by omega) (by omega) (by omega), (h.ref.fresh hc1).kept hc3 (fun k hk hs => ?_), h.same, ?_, (h.old.trans' hc1).trans hc3 (fun i hi hk => by have := h.lo; omega)⟩
  · obtain ⟨y, u, hb, _⟩ := h.ref.cells hk
    rcases hs with rfl | rfl
    · exact ne_map hb h.tab.quotas rfl
    · exact ne_map hb h.tab.grants rfl
  · have := h.lo; have := h.old.size; omega

abbrev actObj (a : Act) : Obj := .cells #[.int .i64 a.kind, .int .i64 a.id, .int .i64 a.root, .int .i64 a.quota, .int .i64 a.used, .int .i64 a.more] 34 (0, 0)

set_option maxRecDepth 100000 in
set_option maxHeartbeats 2000000 in
theorem walk (l : List Act) (oa : Option Addr) (cap : Nat) (W : World) (hR : RowsAt W 6 oa (l.map Act.row)) (hok : ∀ a ∈ l, a.ok) (hl : l.length ≤ cap) (_hcap : cap ≤ 9223372036854775807) :
    Calls Try.prog 6 #[.slice oa l.length cap] W fun e w' => e = .returned (.bool true) ∧ Chg (fun _ => False) W w' := by
  go_enter Try.func6, Try.ntmps6
  go_wp2_with fail
  refine (new_any _).mono ?_
  rintro e w1 ⟨rfl, h1, hc1, hs1⟩
  have H1 := Lib.hid h1
  have Hc1 := Lib.hid hc1
  have Hs1 := Lib.hid hs1
  clear h1 hs1 hc1
  go_wp2_with fail
  rw [Hs1.out]
  go_loopw [3, 5] (fun t i w => ∃ (k T B q g : Nat) (v : Value) (Q : List (Int × Int)) (G : List ((Int × Int) × Bool)) (L : List RT), t = .pointer (some ⟨T, 0, none⟩) ∧ i = .int .i64 k ∧ k ≤ l.length ∧ k ≤ 80 ∧ L.length ≤ k ∧ PSt W w T B q g (W.heap.size + 4) v Q G L) (fun _ i _ => l.length - (intOf i).toNat)
  case atStart =>
    have hc2 : Chg (fun _ => False) w1 (w1.alloc (.cells #[.slice none 0 0] 47)) := (Chg.refl _ _).alloc _
    have hb := block_alloc_new w1 (.cells #[.slice none 0 0] 47)
    rw [Hs1.out] at hb
    exact ⟨0, _, _, _, _, .slice none 0 0, [], [], [], rfl, rfl, by omega, by omega, by simp, H1.out.kept hc2 (fun h => h) (fun h => h) (fun h => h) (fun h => h), ⟨hb, OwnRecs.nil _ _ _ _, by simp⟩, SameT.start, by omega, Hc1.out.trans' hc2⟩
  case round =>
    obtain ⟨k, T, B, q, g, v, Q, G, L, rfl, rfl, hk, hk80, hLk, hP⟩ := hrel
    have HP0 := Lib.hid hP
    clear hP
    by_cases hlt : k < l.length ∧ k < 80
    · obtain ⟨hlt, h80⟩ := hlt
      have hd80 : decide ((k : Int) < 80) = true := by simp; omega
      obtain ⟨b, off, rfl⟩ := hR.spot (by intro e; cases l with | nil => simp at hlt | cons => simp at e)
      obtain ⟨a, ha⟩ : ∃ a, l[k]? = some a := ⟨l[k], List.getElem?_eq_getElem hlt⟩
      have hok' := hok a (List.mem_of_getElem? ha)
      have hcell := fun j v hj => (hR.kept HP0.out.old (fun _ _ h => h)).cell b off rfl k a.row j v (by simp [ha]) hj
      have c0 : wr.cell? ⟨b, off + k * 6, none⟩ = some (.int .i64 a.kind) := hcell 0 _ rfl
      have c1 : wr.cell? ⟨b, off + k * 6 + 1, none⟩ = some (.int .i64 a.id) := hcell 1 _ rfl
      have c2 : wr.cell? ⟨b, off + k * 6 + 2, none⟩ = some (.int .i64 a.root) := hcell 2 _ rfl
      have c3 : wr.cell? ⟨b, off + k * 6 + 3, none⟩ = some (.int .i64 a.quota) := hcell 3 _ rfl
      have c4 : wr.cell? ⟨b, off + k * 6 + 4, none⟩ = some (.int .i64 a.used) := hcell 4 _ rfl
      have c5 : wr.cell? ⟨b, off + k * 6 + 5, none⟩ = some (.int .i64 a.more) := hcell 5 _ rfl
      clear hcell ha hR
      have hLs := length_stepL a L
      obtain ⟨n, hn⟩ : ∃ n, (stepL a L).length = n := ⟨_, rfl⟩
      rw [hn] at hLs
      have Hn := Lib.hid hn
      clear hn
      by_cases hk3 : a.kind = 3
      · have hkb : (a.kind == 3) = true := by simp [hk3]
        clear hk3
        go_wp2_with fail
        obtain ⟨w0, hw0⟩ : ∃ w0, wr.alloc (actObj a) = w0 := ⟨_, rfl⟩
        rw [show wr.alloc (.cells #[.int .i64 a.kind, .int .i64 a.id, .int .i64 a.root, .int .i64 a.quota, .int .i64 a.used, .int .i64 a.more] 34) = w0 from hw0]
        have hb0 : w0.heap[wr.heap.size]? = some (actObj a) := by subst hw0; exact block_alloc_new _ _
        have hP1 : PSt W w0 T B q g (W.heap.size + 4) v Q G L := by subst hw0; exact HP0.out.fresh ((Chg.refl _ _).alloc _)
        have HP1 := Lib.hid hP1
        have HB0 := Lib.hid hb0
        clear hP1 hb0 hw0 c0 c1 c2 c3 c4 c5
        refine (copy_any _ _ _ _ _ _ _ HP1.out.tab).mono ?_
        rintro e w2 ⟨T', B', q', g', rfl, ht2, hc2, hlo⟩
        have hA2 := hc2.at HB0.out (fun h => h)
        have b1 := cell_of_block hA2 (i := 1) rfl
        have b2 := cell_of_block hA2 (i := 2) rfl
        have b3 := cell_of_block hA2 (i := 3) rfl
        have HT2 := Lib.hid ht2
        have Hc2 := Lib.hid hc2
        have HA2 := Lib.hid hA2
        have Hlo := Lib.hid hlo
        clear ht2 hc2 hA2 hlo
        go_wp2_with fail
        refine (tenant_any _ _ _ _ _ _ _ (HP1.out.fresh Hc2.out).tab _ _ (inR_wf hok'.id)).mono ?_
        rintro e w3 ⟨rfl, ht3, hc3⟩
        have hA3 := hc3.at HA2.out (fun h => ne_map HA2.out (HP1.out.fresh Hc2.out).tab.quotas h)
        have d1 := cell_of_block hA3 (i := 1) rfl
        have d2 := cell_of_block hA3 (i := 2) rfl
        have d3 := cell_of_block hA3 (i := 3) rfl
        have HT3 := Lib.hid ht3
        have Hc3 := Lib.hid hc3
        have HA3 := Lib.hid hA3
        clear ht3 hc3 hA3 b1 b2 b3
        go_wp2_with fail
        refine (grant_any _ _ _ _ _ _ _ HT3.out _ _ (inR_wf hok'.id) (inR_wf hok'.root)).mono ?_
        rintro e w4 ⟨rfl, ht4, hc4⟩
        have hA4 := hc4.at HA3.out (fun h => ne_map HA3.out HT3.out.grants h)
        have hP4 := HP1.out.copied Hc2.out HT2.out Hlo.out (((Chg.mono Hc3.out (fun _ _ h => Or.inl h)).trans hc4 (fun _ _ h => Or.inr h)) : Chg (fun k => k = q ∨ k = g) w2 w4)
        have HA := Lib.hid hA4
        have HP := Lib.hid hP4
        have f0 := cell_of_block hA4 (i := 0) rfl
        have f1 := cell_of_block hA4 (i := 1) rfl
        have f2 := cell_of_block hA4 (i := 2) rfl
        have f3 := cell_of_block hA4 (i := 3) rfl
        have f4 := cell_of_block hA4 (i := 4) rfl
        have f5 := cell_of_block hA4 (i := 5) rfl
        clear ht4 hc4 hA4 hP4 d1 d2 d3
        go_wp2_with fail
        refine (does_any _ HP.out.tab HP.out.ref HP.out.same (by omega) hok').mono ?_
        rintro e w6 ⟨rfl, v6, ht6, hr6, hc6, -⟩
        have hP6 := HP.out.does hok'.quota.2 ht6 hr6 hc6
        have hA6 := hc6.at HA.out (fun h => by
          rcases h with (h | h) | h
          · exact ne_map HA.out HP.out.tab.quotas h
          · exact ne_map HA.out HP.out.tab.grants h
          · exact HP.out.ref.not HA.out (by decide) (by decide) h)
        have HP6 := Lib.hid hP6
        have g0 := cell_of_block hA6 (i := 0) rfl
        have g1 := cell_of_block hA6 (i := 1) rfl
        have g2 := cell_of_block hA6 (i := 2) rfl
        have g3 := cell_of_block hA6 (i := 3) rfl
        have g4 := cell_of_block hA6 (i := 4) rfl
        have g5 := cell_of_block hA6 (i := 5) rfl
        clear ht6 hr6 hc6 hP6 hA6
        go_wp2_with fail
        refine (same_any _ HP6.out.tab HP6.out.ref HP6.out.same (by rw [Hn.out]; omega) hok').mono ?_
        rintro e w7 ⟨rfl, hc7⟩
        have HP7 := Lib.hid (HP6.out.fresh hc7)
        clear hc7
        go_wp2_with fail
        exact ⟨⟨k + 1, _, _, _, _, _, _, _, _, rfl, by go_num, by omega, by omega, by rw [Hn.out]; omega, HP7.out⟩, by simp [intOf]; omega⟩
      · have hkb : (a.kind == 3) = false := by simp [hk3]
        clear hk3
        go_wp2_with fail
        obtain ⟨w0, hw0⟩ : ∃ w0, wr.alloc (actObj a) = w0 := ⟨_, rfl⟩
        rw [show wr.alloc (.cells #[.int .i64 a.kind, .int .i64 a.id, .int .i64 a.root, .int .i64 a.quota, .int .i64 a.used, .int .i64 a.more] 34) = w0 from hw0]
        have hA4 : w0.heap[wr.heap.size]? = some (actObj a) := by subst hw0; exact block_alloc_new _ _
        have hP4 : PSt W w0 T B q g (W.heap.size + 4) v Q G L := by subst hw0; exact HP0.out.fresh ((Chg.refl _ _).alloc _)
        have HA := Lib.hid hA4
        have HP := Lib.hid hP4
        clear hA4 hP4 hw0 c0 c1 c2 c3 c4 c5
        refine (does_any _ HP.out.tab HP.out.ref HP.out.same (by omega) hok').mono ?_
        rintro e w6 ⟨rfl, v6, ht6, hr6, hc6, -⟩
        have hP6 := HP.out.does hok'.quota.2 ht6 hr6 hc6
        have hA6 := hc6.at HA.out (fun h => by
          rcases h with (h | h) | h
          · exact ne_map HA.out HP.out.tab.quotas h
          · exact ne_map HA.out HP.out.tab.grants h
          · exact HP.out.ref.not HA.out (by decide) (by decide) h)
        have HP6 := Lib.hid hP6
        have g0 := cell_of_block hA6 (i := 0) rfl
        have g1 := cell_of_block hA6 (i := 1) rfl
        have g2 := cell_of_block hA6 (i := 2) rfl
        have g3 := cell_of_block hA6 (i := 3) rfl
        have g4 := cell_of_block hA6 (i := 4) rfl
        have g5 := cell_of_block hA6 (i := 5) rfl
        clear ht6 hr6 hc6 hP6 hA6
        go_wp2_with fail
        refine (same_any _ HP6.out.tab HP6.out.ref HP6.out.same (by rw [Hn.out]; omega) hok').mono ?_
        rintro e w7 ⟨rfl, hc7⟩
        have HP7 := Lib.hid (HP6.out.fresh hc7)
        clear hc7
        go_wp2_with fail
        exact ⟨⟨k + 1, _, _, _, _, _, _, _, _, rfl, by go_num, by omega, by omega, by rw [Hn.out]; omega, HP7.out⟩, by simp [intOf]; omega⟩
    · have h2 : (l.length ≤ k) ∨ (k < l.length ∧ decide ((k : Int) < 80) = false) := by
        rcases Nat.lt_or_ge k l.length with h | h
        · exact Or.inr ⟨h, by (simp; omega)⟩
        · exact Or.inl h
      clear hlt
      rcases h2 with h2 | ⟨h2, h3⟩
      all_goals go_wp2_with (go_at_call 17; refine (works_any _).mono ?_; rintro e w5 ⟨rfl, hc5⟩)
      all_goals go_ret
      all_goals exact ⟨rfl, HP0.out.old.trans' hc5⟩

theorem own : ownKnob Try.prog.godebug = none := by kernel_rfl

set_option maxRecDepth 100000 in
theorem lifted (os : Os) (started : os.Started) (H : Type) (enc : TypeId × Value → H) :
    ReturnsInHanded {} Try.checked os 6 .any (Rows.capsPlaysSpec.pre6 enc Try.prog Try.f6 [] false) (Rows.capsPlaysSpec.post enc Try.prog Try.f6 false true false false) := by
  refine law_handed (C := Try.checked) (tb := 4) own started (by kernel_rfl) Try.func6
    (ChangeSpec.witness6 (enc := enc) (C := Try.checked) false ⟨#[], #[.slice none 0 0], []⟩ 8 (by kernel_rfl) (by kernel_rfl) (by kernel_rfl) (by kernel_rfl))
    laidOut (by rw [show Try.checked.prog = Try.prog from rfl, Try.params6]; intro t ht; simp at ht; subst ht; exact ⟨by kernel_rfl, of_decide_eq_true (by kernel_rfl)⟩) rfl rfl Try.underlying4 ?_ ?_
  · intro ds hds
    rw [Try.params6] at hds
    match ds, hds with
    | [_], _ => rfl
  · intro W base args ds before hval0 hA0 _ _
    have hval : ∀ (j : Nat) t v, Try.f6.params[j]? = some t → args[j]? = some v → Value.okWide Try.prog W .any base t v := hval0
    have hA : DataW.TrodAll enc Try.prog W 0 (fun _ => true) true Try.f6.params.toList args.toList ds before := hA0
    rw [Try.params6] at hA hval
    obtain ⟨v0, vs0, d0, ds0, p0, q0, hargs, rfl, rfl, h0, r0⟩ := trodAll_cons hA
    obtain ⟨rfl, rfl, rfl⟩ := trodAll_nil r0
    obtain rfl : args = #[v0] := by cases args; simp_all
    obtain ⟨oa, l, cap, rfl, h1, h2, h3, h4⟩ := open_acts (hval 0 29 v0 rfl rfl) h0
    exact walk l oa cap W h3 h4 h1 (by unfold maxLen at h2; omega)

theorem over : Rows.capsPlaysRow.holds Try.pinned (OpenSpec.ofChange Rows.capsPlaysSpec) :=
  OpenClaim.holds_of_wide 6 Try.f6 rfl rfl rfl rfl rfl rfl rfl ⟨rfl, rfl, rfl, rfl, rfl⟩ rfl rfl rfl rfl rfl (by kernel_rfl) Try.func6 (by kernel_rfl)
    (of_decide_eq_true (by kernel_rfl)) (by unfold Func.isWrapper; first | (rw [if_pos (by decide +kernel)]; kernel_rfl) | (rw [if_neg (by decide +kernel)]; exact ⟨rfl, rfl⟩))
    (fun os started H enc _ => lifted os started H enc)

theorem proved : Rows.CapsPlaysSaid := over
#print axioms proved

end Go.Proofs.Ytomceindibnpnaa.capsPlays

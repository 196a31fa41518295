/-
  coord, of any plans: twin, all.
-/
import Derived.Test.YtogjjkbgagedpaaCoGB
namespace Go.Proofs.Ytogjjkbgagedpaa.coordg
open Go.RowKit Go.Maps Go.My Go.ChangeMaps coords
set_option maxRecDepth 100000

variable {w w' : World} {c q x qa : Nat} {F F' Fc : Nat → Prop} {lim : Int} {m : List (Int × Nat)} {E : EV} {pv : Value}

theorem refs_one {l : List (List Value)} (h : ∀ x ∈ l, RefOk x) : ∀ x ∈ l.flatten, x.oneCell' = true := by
  intro x hx
  obtain ⟨r, hr, hxr⟩ := List.mem_flatten.1 hx
  obtain ⟨bs, n, rfl, -, -⟩ := (h r hr).is
  unfold refC digC at hxr
  rcases List.mem_append.1 hxr with h1 | h1
  · obtain ⟨z, -, rfl⟩ := List.mem_map.1 h1; rfl
  · rw [List.mem_singleton.1 h1]; rfl

theorem packs_one {l : List (List Value)} (h : ∀ r ∈ l, PkR w F r) : ∀ x ∈ l.flatten, x.oneCell' = true := by
  intro x hx
  obtain ⟨r, hr, hxr⟩ := List.mem_flatten.1 hx
  obtain ⟨ow, nm, vr, oa, rows, cap, rfl, -⟩ := (h r hr).is
  simp only [List.mem_cons, List.not_mem_nil, or_false] at hxr
  rcases hxr with rfl | rfl | rfl | rfl <;> rfl

theorem rows_of_own {base : Nat} {e : TypeId} {n m cap : Nat} {oa : Option Addr} {l : List (List Value)} (h : OwnRecs w base e n (.slice oa m cap) l) : RowsAt w n oa l := by
  refine ⟨fun hne => ?_, fun i r hr => h.each r (List.mem_of_getElem? hr), fun b off ho i r j v hi hj => ?_⟩
  · obtain ⟨g, e1, -⟩ := h.cell' (k := 0) (List.length_pos_iff.2 hne)
    exact ⟨g, 0, e1⟩
  · have hlt := (List.getElem?_eq_some_iff.1 hi).1
    obtain ⟨g, e1, -, -, hc, -⟩ := h.cell' (k := i) hlt
    rw [ho] at e1
    cases e1
    rw [List.getElem?_eq_getElem hlt] at hi
    cases hi
    rw [Nat.zero_add]
    exact hc j v hj

theorem in_of_own {base : Nat} {e : TypeId} {n m cap : Nat} {oa : Option Addr} {l : List (List Value)} (h : OwnRecs w base e n (.slice oa m cap) l) {F : Nat → Prop} (hF : ∀ b, base ≤ b → b < w.heap.size → F b) : InF F oa l.length := by
  intro hne b off ho
  obtain ⟨g, e1, h1, h2, -⟩ := h.cell' (k := 0) (by omega)
  rw [ho] at e1
  cases e1
  exact hF _ h1 h2

theorem mod_get {α : Type} {l : List α} {k i : Nat} {f : α → α} : (l.modify k f)[i]? = if i = k then (l[i]?).map f else l[i]? := by
  rw [List.getElem?_modify]
  by_cases h : k = i
  · subst h; simp
  · rw [if_neg (fun e => h e.symm)]; simp [h]

set_option maxHeartbeats 1000000 in
theorem twin_any (w : World) (p : Value) (h : PkOk w F p) : Calls Try.prog 56 #[p] w fun e w' => ∃ v, e = .returned v ∧ PkOk w' (born w w') v ∧ Chg (fun _ => False) w w' := by
  obtain ⟨oa, cap, rows, rfl, hr, hk, hin, hl, hc1, hc2⟩ := h.is
  have HR := Lib.hid hr
  have HK := Lib.hid hk
  clear h hr hk hin hc1 hc2
  go_enter Try.func56, Try.ntmps56
  go_wp2_with (go_at_call 74; refine (clone_packs _ oa cap rows HR.out (packs_one HK.out) hl).mono ?_; rintro e w1 ⟨v, rfl, ho, hc⟩
               obtain ⟨ov, cv, rfl, hlc, hcm⟩ := ho.slice
               have HO := Lib.hid ho
               have HC := Lib.hid hc
               have HLC := Lib.hid (And.intro hlc hcm)
               clear ho hc hlc hcm)
  obtain ⟨B, hB⟩ : ∃ B, w1.heap.size = B := ⟨_, rfl⟩
  have HBo := Lib.hid (show ∀ g off, ov = some ⟨g, off, none⟩ → rows ≠ [] → g < B from fun g off e hne => by
    obtain ⟨g', e1, -, h2, -⟩ := HO.out.cell' (k := 0) (List.length_pos_iff.2 hne)
    rw [e] at e1; cases e1; omega)
  have HBw := Lib.hid (show w.heap.size ≤ B from by rw [← hB]; exact HC.out.size)
  go_loopw [9] (fun j wr => ∃ (k : Nat) (R : List (List Value)), j = .int .i64 k ∧ k ≤ rows.length ∧ R.length = rows.length ∧ OwnRecs wr w.heap.size 94 4 (.slice ov rows.length cv) R ∧ (∀ i r, i < k → R[i]? = some r → PkR wr (fun b => B ≤ b ∧ b < wr.heap.size) r) ∧ (∀ i, k ≤ i → R[i]? = rows[i]?) ∧ Chg (fun _ => False) w wr ∧ B ≤ wr.heap.size) (fun j _ => rows.length - (intOf j).toNat)
  · exact ⟨0, rows, rfl, Nat.zero_le _, rfl, HO.out, by intro i r h; omega, fun _ _ => rfl, HC.out, by omega⟩
  clear hB
  obtain ⟨k, R, rfl, hk, hRl, ho2, hdone, hrest, hc2, hBr⟩ := hrel
  have HO2 := Lib.hid ho2
  have HD := Lib.hid hdone
  have HRe := Lib.hid hrest
  have HC2 := Lib.hid hc2
  have HRl := Lib.hid hRl
  have HBr := Lib.hid hBr
  clear ho2 hdone hrest hc2 hRl HO HC hBr
  by_cases hlt : k < rows.length
  · have hki : (k : Int) < (rows.length : Int) := by omega
    obtain ⟨r, hr⟩ : ∃ r, rows[k]? = some r := ⟨rows[k], List.getElem?_eq_getElem hlt⟩
    obtain ⟨ow, nm, vr, la, ly, lc, rfl, h1, h2, h3, h4, h5, h6⟩ := ((HK.out _ (List.mem_of_getElem? hr)).kept (S := fun _ => False) HC2.out (fun _ _ h => h)).is
    have hRk : R[k]? = some [.int .i64 ow, .string nm, .string vr, .slice la ly.length lc] := by rw [HRe.out k (Nat.le_refl _), hr]
    obtain ⟨g, e1, hgb, hgl, hcell, hfz⟩ := HO2.out.cell' (k := k) (by rw [HRl.out]; exact hlt)
    obtain rfl := e1
    have hRk' : R[k]'(by rw [HRl.out]; exact hlt) = [.int .i64 ow, .string nm, .string vr, .slice la ly.length lc] := by
      have := List.getElem?_eq_getElem (l := R) (i := k) (by rw [HRl.out]; exact hlt)
      rw [this] at hRk; exact Option.some.inj hRk
    rw [hRk'] at hcell
    have d3 : wr.cell? ⟨g, k * 4 + 3, none⟩ = some (.slice la ly.length lc) := hcell 3 _ rfl
    have HD3 := Lib.hid d3
    have HFz := Lib.hid (hfz (k * 4 + 3))
    have HCl := Lib.hid (clone_refs wr la lc ly h3 (refs_one h4) h6)
    have HRk := Lib.hid hRk
    have HSz := Lib.hid (And.intro h1 h2)
    have HRf := Lib.hid h4
    have HL6 := Lib.hid h6
    have HGb := Lib.hid hgb
    have HGB := Lib.hid (HBo.out g 0 rfl (by intro e; rw [e] at hlt; simp at hlt))
    clear hr h1 h2 h3 h4 h5 h6 hRk hRk' hcell hfz hgb hgl
    go_wp2_with (go_at_call 75; refine HCl.out.mono ?_; rintro e w3 ⟨v3, rfl, ho3, hc3⟩
                 obtain ⟨lv, lcv, rfl, -⟩ := ho3.slice
                 have k3 : w3.cell? ⟨g, k * 4 + 1 + 2, none⟩ = some (.slice la ly.length lc) := hc3.cell HD3.out id
                 have z3 : w3.frozen? ⟨g, k * 4 + 1 + 2, none⟩ = false := ((HO2.out.kept hc3 (fun _ _ h => h)).cell' (k := k) (by rw [HRl.out]; exact hlt)).elim (fun g' h => by obtain ⟨e1, -, -, -, h5⟩ := h; cases e1; exact h5 _)
                 have HO3 := Lib.hid ho3
                 have HC3 := Lib.hid hc3
                 clear ho3 hc3)
    obtain ⟨w4, hw4⟩ : ∃ w4, w3.setCell ⟨g, k * 4 + 3, none⟩ (.slice lv ly.length lcv) = w4 := ⟨_, rfl⟩
    have hcs : Chg (· = g) w3 w4 := by rw [← hw4]; exact Chg.setCell (S := (· = g)) (Chg.refl _ _) (fun _ => rfl) _
    have ho4 : OwnRecs w4 w.heap.size 94 4 (.slice (some ⟨g, 0, none⟩) rows.length cv) (R.modify k (fun r => r.set 3 (.slice lv ly.length lcv))) := by
      have h := HO2.out.kept HC3.out (fun _ _ h => h)
      rw [← HRl.out] at h ⊢
      rw [← hw4]
      exact h.set (j := 3) (by omega) _
    have hsz : wr.heap.size ≤ w3.heap.size := HC3.out.size
    have hsz4 : w3.heap.size ≤ w4.heap.size := hcs.size
    have hg4 : Chg (fun _ => False) w w4 := (HC2.out.trans' HC3.out).new hcs (fun i e => by have := HGb.out; omega)
    refine ⟨⟨k + 1, R.modify k (fun r => r.set 3 (.slice lv ly.length lcv)), by go_num, hlt, by rw [List.length_modify, HRl.out], ?_, fun i r hi hr => ?_, fun i hi => ?_, ?_, ?_⟩, meas_step hlt⟩
    · show OwnRecs (w3.setCell ⟨g, k * 4 + 3, none⟩ (.slice lv ly.length lcv)) _ _ _ _ _
      rw [hw4]; exact ho4
    · show PkR (w3.setCell ⟨g, k * 4 + 3, none⟩ (.slice lv ly.length lcv)) _ r
      rw [hw4]
      rw [mod_get] at hr
      by_cases hik : i = k
      · rw [if_pos hik, hik, HRk.out] at hr
        simp only [Option.map_some, List.set_cons_succ, List.set_cons_zero, Option.some.injEq] at hr
        subst hr
        have hin : InF (fun b => wr.heap.size ≤ b ∧ b < w3.heap.size) lv ly.length := in_of_own HO3.out (fun b h1 h2 => ⟨h1, h2⟩)
        refine ⟨ow, nm, vr, lv, ly, lcv, rfl, HSz.out.1, HSz.out.2, rows_keptF (rows_of_own HO3.out) hcs hin (fun b hb e => ?_), HRf.out, fun hn b off ho => ?_, HL6.out⟩
        · have := HGB.out; have := HBr.out; have := hb.1; omega
        · obtain ⟨h1, h2⟩ := hin hn b off ho
          have h3 := HBr.out
          show B ≤ b ∧ b < w4.heap.size
          omega
      · rw [if_neg hik] at hr
        refine ((HD.out i r (by omega) hr).kept (HC3.out.mono (fun _ _ h => h.elim) |>.trans' hcs : Chg (· = g) wr w4) (fun b hb e => by have := HGB.out; have := hb.1; omega)).wide (fun b hb => ?_)
        have h1 := hb.1
        have h2 := hb.2
        show B ≤ b ∧ b < w4.heap.size
        omega
    · rw [mod_get, if_neg (by omega), HRe.out i (by omega)]
    · show Chg _ w (w3.setCell ⟨g, k * 4 + 3, none⟩ (.slice lv ly.length lcv))
      rw [hw4]; exact hg4
    · show B ≤ (w3.setCell ⟨g, k * 4 + 3, none⟩ (.slice lv ly.length lcv)).heap.size
      rw [hw4]
      have := HBr.out; omega
  · have hki : ¬ (k : Int) < (rows.length : Int) := by omega
    have HKl := Lib.hid (show k = rows.length by omega)
    go_wp2_with fail
    go_ret
    have hkl := HKl.out
    have hBw := HBw.out
    refine ⟨.slice ov rows.length cv, rfl, ⟨ov, cv, R, by rw [HRl.out], rows_of_own HO2.out, fun r hr => ?_, in_of_own HO2.out (fun b h1 h2 => ⟨h1, h2⟩), by rw [HRl.out]; exact hl, by rw [HRl.out]; exact HLC.out.1, HLC.out.2⟩, HC2.out⟩
    obtain ⟨i, hi⟩ := List.getElem?_of_mem hr
    have hil := (List.getElem?_eq_some_iff.1 hi).1
    rw [HRl.out] at hil
    exact (HD.out i r (by omega) hi).wide (fun b hb => ⟨by have := hb.1; omega, hb.2⟩)

end Go.Proofs.Ytogjjkbgagedpaa.coordg

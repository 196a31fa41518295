/-
  caps: the comparison of both sides ('same').
-/
import Derived.Test.YtomceindibnpnaaCapsDoes
namespace Go.Proofs.Ytomceindibnpnaa.capsPlays
open Go.My Go.RowKit

variable {w w' : World} {T B q g R A : Nat} {v : Value} {Q : List (Int × Int)} {G : List ((Int × Int) × Bool)} {L : List RT} {a : Act}

theorem DSt.fresh (h : DSt w T B q g R A v Q G L a) (hc : Chg (fun _ => False) w w') : DSt w' T B q g R A v Q G L a :=
  ⟨h.tab.kept hc (fun h => h) (fun h => h) (fun h => h) (fun h => h), h.ref.fresh hc, hc.at h.act (fun h => h)⟩

theorem tenants_same (hs : SameT Q G L) : upTo (fun i => (getT L i).isSome) 8 = upTo (fun i => (mget Q i).isSome) 8 := upTo_congr 8 (fun i _ => (hs.some_iff _).symm)
theorem roots_same (hs : SameT Q G L) (id : Int) : upTo (fun r => refMay L id r) 6 = rootsTo G id 6 := by
  rw [rootsTo_upTo]; exact upTo_congr 6 (fun i _ => (hs.may _ _).symm)

theorem DSt.above (h0 : DSt w T B q g R A v Q G L a) {w1 w2 : World} (h : DSt w1 T B q g R A v Q G L a) {S : Nat → Prop} (hc : Chg S w1 w2) (hS : ∀ k, S k → w.heap.size ≤ k) : DSt w2 T B q g R A v Q G L a := by
  have n1 : ∀ {b o}, w.heap[b]? = some o → ¬ S b := fun hb hs => by have := hS _ hs; have := lt_of_block hb; omega
  refine ⟨h.tab.kept hc (n1 h0.tab.tab) (n1 h0.tab.book) (fun hs => by have := hS _ hs; have := h0.tab.quotas.lt; omega) (fun hs => by have := hS _ hs; have := h0.tab.grants.lt; omega), h.ref.kept hc (fun k hk hs => ?_), hc.at h.act (n1 h0.act)⟩
  obtain ⟨x, t, hb, _⟩ := h0.ref.cells hk
  exact n1 hb hs

set_option maxRecDepth 100000 in
set_option maxHeartbeats 2000000 in
theorem same_any (w : World) (h1 : TabAt w T B q g Q G) (h2 : RefAt w R v L) (hs : SameT Q G L) (hL : L.length ≤ 1000) (hok : a.ok) :
    Calls Try.prog 27 #[.pointer (some ⟨T, 0, none⟩), .pointer (some ⟨R, 0, none⟩), .agg #[.int .i64 a.kind, .int .i64 a.id, .int .i64 a.root, .int .i64 a.quota, .int .i64 a.used, .int .i64 a.more]] w fun e w' => e = .returned (.bool true) ∧ Chg (fun _ => False) w w' := by
  have H1 := Lib.hid h1
  have H2 := Lib.hid h2
  have Hs := Lib.hid hs
  clear h1 h2 hs
  go_enter Try.func27, Try.ntmps27
  go_wp2_with fail
  obtain ⟨w0, hw0⟩ : ∃ w0, w.alloc (.cells #[.int .i64 a.kind, .int .i64 a.id, .int .i64 a.root, .int .i64 a.quota, .int .i64 a.used, .int .i64 a.more] 34) = w0 := ⟨_, rfl⟩
  rw [hw0]
  have hc0 : Chg (fun _ => False) w w0 := by subst hw0; exact (Chg.refl _ _).alloc _
  have hd0 : DSt w0 T B q g R w.heap.size v Q G L a := ⟨H1.out.kept hc0 (fun h => h) (fun h => h) (fun h => h) (fun h => h), H2.out.fresh hc0, by subst hw0; exact block_alloc_new _ _⟩
  have a1 := cell_of_block hd0.act (i := 1) rfl
  have D0 := Lib.hid hd0
  have Hc0 := Lib.hid hc0
  clear hd0 hc0 hw0
  refine (quota_any _ _ _ _ _ _ _ D0.out.tab _ (inR_wf hok.id)).mono ?_
  rintro e w1 ⟨rfl, rfl⟩
  go_wp2_with fail
  refine (quota_ref _ _ _ _ D0.out.ref _ hL).mono ?_
  rw [show (getT L a.id).isSome = (mget Q a.id).isSome from (Hs.out.some_iff _).symm, ← Hs.out.hq]
  rintro e w1 ⟨rfl, rfl⟩
  generalize (mget Q a.id).getD 0 = qv
  generalize (mget Q a.id).isSome = bv
  go_wp2_with fail
  refine (tenants_any _ _ _ _ _ _ _ D0.out.tab).mono ?_
  rintro e w1 ⟨v1, rfl, ho1, hc1⟩
  have hl1 := upTo_le (fun i => (mget Q i).isSome) 8
  have D1 := Lib.hid (D0.out.fresh hc1)
  have Ho1 := Lib.hid ho1
  have Hc1 := Lib.hid hc1
  clear ho1 hc1 a1
  go_wp2_with fail
  have a1 := cell_of_block D1.out.act (i := 1) rfl
  have a2 := cell_of_block D1.out.act (i := 2) rfl
  have a4 := cell_of_block D1.out.act (i := 4) rfl
  have a5 := cell_of_block D1.out.act (i := 5) rfl
  have hch : Chg (fun _ => False) w1 w1.drew := (Chg.refl _ _).drew
  have hqq : (qv == qv) = true := by simp
  cases bv
  all_goals have hfb : ∀ t, getT L a.id = some t → 0 ≤ t.quota ∧ t.quota ≤ 9223372036854775807 := fun t ht => Hs.out.bound a.id t.quota (by rw [Hs.out.hq, ht]; rfl)
  all_goals have Hfb := Lib.hid hfb
  all_goals clear hfb
  all_goals go_region_held3 (fun w' => Chg (fun _ => False) w1 w' ∧ w'.cell? ⟨w.heap.size, 1, none⟩ = some (.int .i64 a.id) ∧ w'.cell? ⟨w.heap.size, 2, none⟩ = some (.int .i64 a.root) ∧ w'.cell? ⟨w.heap.size, 4, none⟩ = some (.int .i64 a.used) ∧ w'.cell? ⟨w.heap.size, 5, none⟩ = some (.int .i64 a.more)) (go_keep)
    (first
    | (go_at_call 21; refine (may_any _ _ _ _ _ _ _ (D1.out.fresh (by assumption)).tab _ _ (inR_wf hok.id) (inR_wf hok.root)).mono ?_; rintro e wx ⟨rfl, hcx⟩; have hC := Chg.trans' (S := fun _ => False) (a := w1) (by assumption) hcx; have e1 := cell_of_block (D1.out.fresh hC).act (i := 1) rfl; have e2 := cell_of_block (D1.out.fresh hC).act (i := 2) rfl; have e4 := cell_of_block (D1.out.fresh hC).act (i := 4) rfl; have e5 := cell_of_block (D1.out.fresh hC).act (i := 5) rfl; clear hcx)
    | (go_at_call 57; refine (may_ref _ _ _ _ (D1.out.fresh (by assumption)).ref _ _ hL).mono ?_; rw [← Hs.out.may]; rintro e wx ⟨rfl, hcx⟩; have hC := Chg.trans' (S := fun _ => False) (a := w1) (by assumption) hcx; have e1 := cell_of_block (D1.out.fresh hC).act (i := 1) rfl; have e2 := cell_of_block (D1.out.fresh hC).act (i := 2) rfl; have e4 := cell_of_block (D1.out.fresh hC).act (i := 4) rfl; have e5 := cell_of_block (D1.out.fresh hC).act (i := 5) rfl; clear hcx)
    | (go_at_call 18; refine (fits_any _ _ _ _ _ _ _ (D1.out.fresh (by assumption)).tab _ _ _ (inR_wf hok.id) (Hs.out.bound _)).mono ?_; rw [Hs.out.fits]; rintro e wx ⟨rfl, rfl⟩)
    | (go_at_call 58; refine (fits_ref _ _ _ _ (D1.out.fresh (by assumption)).ref _ _ _ hL (Hfb.out) hok.used.2 hok.more.2).mono ?_; rintro e wx ⟨rfl, rfl⟩)
    | (go_at_call 59; refine (tenants_ref _ _ _ _ (D1.out.fresh (by assumption)).ref hL).mono ?_; rw [tenants_same Hs.out]; rintro e wx ⟨v2, rfl, ho2, hcx⟩; have Ho2 := Lib.hid ho2; clear ho2; have hC := Chg.trans' (S := fun _ => False) (a := w1) (by assumption) hcx; have e1 := cell_of_block (D1.out.fresh hC).act (i := 1) rfl; have e2 := cell_of_block (D1.out.fresh hC).act (i := 2) rfl; have e4 := cell_of_block (D1.out.fresh hC).act (i := 4) rfl; have e5 := cell_of_block (D1.out.fresh hC).act (i := 5) rfl; clear hcx)
    | (go_at_call 23; refine (same_numbers _ _ _ _ _ ((SlAt.of_own Ho1.out).kept (by assumption)) (SlAt.of_own Ho2.out) (by omega)).mono ?_; rintro e wx ⟨rfl, hcx⟩; have hC := Chg.trans' (S := fun _ => False) (a := w1) (by assumption) hcx; have e1 := cell_of_block (D1.out.fresh hC).act (i := 1) rfl; have e2 := cell_of_block (D1.out.fresh hC).act (i := 2) rfl; have e4 := cell_of_block (D1.out.fresh hC).act (i := 4) rfl; have e5 := cell_of_block (D1.out.fresh hC).act (i := 5) rfl; clear hcx))
  all_goals have DX := Lib.hid (D1.out.fresh (by assumption))
  all_goals have HX := Lib.hid (Chg.trans' (Chg.trans' Hc0.out Hc1.out) (by assumption))
  all_goals rename_i wx _ _ _ _
  all_goals have HO := Lib.hid (own_kept Ho1.out (w' := wx) (by assumption))
  all_goals obtain ⟨xs, hxs⟩ : ∃ xs, upTo (fun i => (mget Q i).isSome) 8 = xs := ⟨_, rfl⟩
  all_goals rw [hxs] at HO hl1
  all_goals obtain ⟨oa1, cap1, rfl⟩ : ∃ oa1 cap1, v1 = .slice oa1 xs.length cap1 := own_slice HO.out
  all_goals clear a1 a2 a4 a5 hch hqq
  all_goals go_wp2_with fail
  all_goals go_loopw [81, 13] (fun j _ wr => ∃ (k : Nat) (zs : List Int), j = .int .i64 k ∧ k ≤ xs.length ∧ zs.length = xs.length ∧ wr.ownsRow w0.heap.size 3 1 (.slice oa1 xs.length cap1) xs.length (ints zs) ∧ DSt wr T B q g R w.heap.size v Q G L a ∧ Chg (fun _ => False) w wr) (fun j _ _ => xs.length - (intOf j).toNat)
  all_goals try exact ⟨0, xs, rfl, by omega, rfl, HO.out, DX.out, HX.out⟩
  all_goals obtain ⟨k, zs, rfl, hk, hz, ho, hd, hc⟩ := hrel
  all_goals have HO2 := Lib.hid ho
  all_goals have DZ := Lib.hid hd
  all_goals have HZ := Lib.hid hc
  all_goals have Hz := Lib.hid hz
  all_goals clear ho hd hc hz
  all_goals by_cases hlt : k < xs.length
  all_goals first
    | (have hlt' : k < xs.length := hlt
       clear hlt'
       obtain ⟨z, hzk⟩ : ∃ z, zs[k]? = some z := ⟨zs[k]'(by rw [Hz.out]; exact hlt), List.getElem?_eq_getElem _⟩
       obtain ⟨gg, o2, rfl, -, c1⟩ := (SlAt.of_own HO2.out).cell (k := k) (by rw [ints_length, Hz.out]; exact hlt)
       obtain rfl : o2 = 0 := by rcases HO2.out.2 with ⟨h, h'⟩ | ⟨g', c', cu', h, _⟩ <;> cases h; rfl
       have c2 : wr.cell? ⟨gg, k, none⟩ = some (.int .i64 z) := by
         have e1 : (ints zs)[k]'(by rw [ints_length, Hz.out]; exact hlt) = .int .i64 z := by
           have := (List.getElem?_eq_some_iff.1 hzk).2
           simp only [ints, List.getElem_map, this]
         rw [e1, Nat.zero_add] at c1; exact c1
       have f1 := HO2.out.frozenAt k
       have hgb := (HO2.out.lt gg rfl).1
       have hsto := HO2.out.stored k (.int .i64 (wrap64 (z + 1)))
       have hset : (ints zs).set k (.int .i64 (wrap64 (z + 1))) = ints (zs.set k (wrap64 (z + 1))) := by simp [ints, List.map_set]
       rw [hset] at hsto
       have Hsto := Lib.hid hsto
       clear c1 hsto hset hzk
       go_wp2_with fail
       have hcs : Chg (· = gg) wr (wr.setCell ⟨gg, k, none⟩ (.int .i64 (wrap64 (z + 1)))) := Chg.setCell (S := (· = gg)) (Chg.refl _ _) (fun _ => rfl) _
       exact ⟨⟨k + 1, zs.set k (wrap64 (z + 1)), by go_num, by omega, by rw [List.length_set]; exact Hz.out, Hsto.out.1, D0.out.above DZ.out hcs (fun k hk => by omega), HZ.out.trans hcs (fun i hi hk => by have := Hc0.out.size; omega)⟩, by simp [intOf]; omega⟩)
    | skip
  all_goals go_wp2_with fail
  all_goals go_loopw [14, 12] (fun j b wr => ∃ m : Nat, j = .int .i64 m ∧ m ≤ 10 ∧ b = .bool true ∧ DSt wr T B q g R w.heap.size v Q G L a ∧ Chg (fun _ => False) w wr) (fun j _ _ => 10 - (intOf j).toNat)
  all_goals try exact ⟨0, rfl, by omega, rfl, DZ.out, HZ.out⟩
  all_goals obtain ⟨m, rfl, hm, rfl, hd, hc⟩ := hrel
  all_goals have DY := Lib.hid hd
  all_goals have HY := Lib.hid hc
  all_goals clear hd hc
  all_goals by_cases hm2 : m < 10
  all_goals first
    | (have hm' : ¬ m < 10 := hm2
       go_wp2_with fail
       go_ret
       exact ⟨rfl, HY.out⟩)
    | skip
  all_goals go_wp2_with fail
  all_goals refine (roots_any _ _ _ _ _ _ _ DY.out.tab _ (WalkArith.wf_i64 (by omega))).mono ?_
  all_goals rintro e w5 ⟨va, rfl, hoa, hca⟩
  all_goals have Hoa := Lib.hid hoa
  all_goals have Hca := Lib.hid hca
  all_goals clear hoa hca
  all_goals go_wp2_with fail
  all_goals refine (roots_ref _ _ _ _ _ (DY.out.fresh Hca.out).ref hL).mono ?_
  all_goals rw [roots_same Hs.out]
  all_goals rintro e w6 ⟨vb, rfl, hob, hcb⟩
  all_goals have Hob := Lib.hid hob
  all_goals have Hcb := Lib.hid hcb
  all_goals clear hob hcb
  all_goals go_wp2_with fail
  all_goals refine (same_numbers _ _ _ _ _ ((SlAt.of_own Hoa.out).kept Hcb.out) (SlAt.of_own Hob.out) (by have := rootsTo_le G m 6; omega)).mono ?_
  all_goals rintro e w7 ⟨rfl, hcd⟩
  all_goals have Hcd := Lib.hid hcd
  all_goals clear hcd
  all_goals rw [decide_eq_true (rfl : rootsTo G (m : Int) 6 = rootsTo G (m : Int) 6)]
  all_goals go_wp2_with fail
  all_goals exact ⟨⟨m + 1, by go_num, by omega, rfl, ((DY.out.fresh Hca.out).fresh Hcb.out).fresh Hcd.out, ((HY.out.trans' Hca.out).trans' Hcb.out).trans' Hcd.out⟩, by simp [intOf]; omega⟩

end Go.Proofs.Ytomceindibnpnaa.capsPlays

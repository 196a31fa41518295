/-
  wal: load of a log that stands.
-/
import Derived.Test.YtbkefhoapnaciaaGreatPkAb
import Derived.Test.YtbkefhoapnaciaaGreatPkAi

section
set_option linter.unusedSimpArgs false
set_option linter.unusedVariables false
namespace Go.Proofs.YtbkefhoapnaciaaGreat.wals
open Go.RowKit Go.My disks bufs
set_option maxRecDepth 100000

variable {w w' : World} {l d : Nat} {F Fd : Nat → Prop} {X : DV} {V : LV} {rv tv wv : Value}

theorem bytesOf_len {X : DV} (h : ∀ i, i < X.B.length → (X.cur i).length = 64) (f : Nat) : ∀ k, f + k ≤ X.B.length → (bytesOf X f k).length = 64 * k
  | 0, _ => rfl
  | k + 1, hk => by
    rw [bytesOf, List.length_append, bytesOf_len h f k (by omega), h (f + k) (by omega)]
    omega

theorem own_cap {w : World} {base n : Nat} {oa : Option Addr} {m cap : Nat} {e : TypeId} {xs : List Value} (h : w.ownsRow base e 1 (.slice oa m cap) n xs) : m ≤ cap := by
  rcases h.2 with ⟨e, h0⟩ | ⟨g, c, cur, e, hbg, hg, hnc, hcm, hcs, ht⟩
  · cases e; exact Nat.le_refl _
  · cases e
    omega

/-- What stands behind k rounds of the first loop of load. -/
structure Ld1 (W w : World) (d : Nat) (v : Value) (X : DV) (f k : Nat) : Prop where
  own : w.ownsRow W.heap.size 5 1 v (64 * k) (cellsB (bytesOf X f k))
  nul : k = 0 → v = .slice none 0 0
  chg : Chg (fun _ => False) W w

/-- What stands behind j rounds of the second loop of load. -/
structure Ld2 (W w : World) (l d : Nat) (F : Nat → Prop) (V : LV) (tv wv vb : Value) (rs : List Blk) (vs : List Value) (av : Value) (n6 : Nat) (b6 : Blk) (j : Nat) : Prop where
  log : ∃ rv F2, LogIs w l d F2 { V with recs := rs.take j } rv tv wv ∧ (∀ k, F2 k → F k ∨ W.heap.size ≤ k)
  bod : Bodies w W.heap.size vb rs vs
  all : w.ownsRow W.heap.size 5 1 av n6 (cellsB b6)
  chg : Chg F W w








set_option maxHeartbeats 1000000 in
theorem load_any (w : World) (s a u : Nat) (h : LogAt w l d F Fd X ⟨s, a, u, [], [], [], 0, false⟩) (hd : X.down = false) (h6 : 6 ≤ X.B.length) (hle : X.B.length ≤ 4096) (ha : a ≤ 1) (hu : u ≤ 64 * areaN X.B.length) (hc64 : ∀ i, i < X.B.length → (X.cur i).length = 64) (rs : List Blk) (hsh : ∀ r ∈ rs, r.length ≤ 4096) (hrs : (bytesOf X (firstN X.B.length a) ((u + 63) / 64)).take u = framesB rs) :
    Calls Tryz.prog 67 #[.pointer (some ⟨l, 0, none⟩)] w fun e w' => e = .returned (.tuple #[.pointer (some ⟨l, 0, none⟩), .int .i64 0]) ∧ ∃ F', LogAt w' l d F' Fd X ⟨s, a, u, rs, (framesB rs).drop (u / 64 * 64), [], 0, false⟩ ∧ (∀ k, F' k → F k ∨ w.heap.size ≤ k) ∧ Chg F w w' := by
  have H := Lib.hid h
  obtain ⟨⟨rv, tv, wv, hl⟩, -, -⟩ := h
  have hal := areaN_le hle
  have hin := area_in h6 ha
  obtain ⟨f, hf⟩ : ∃ f, firstN X.B.length a = f := ⟨_, rfl⟩
  obtain ⟨m, hm⟩ : ∃ m, areaN X.B.length = m := ⟨_, rfl⟩
  rw [hf] at hrs hin
  rw [hm] at hu hin hal
  have HL := Lib.hid hl
  have HN := Lib.hid (And.intro h6 (And.intro hle (And.intro ha hd)))
  have HI := Lib.hid hin
  have HF := Lib.hid hf
  have H64 := Lib.hid hc64
  have HRs := Lib.hid hrs
  have HSh := Lib.hid hsh
  have c3 : w.cell? ⟨l, 3, none⟩ = some (.int .i64 u) := hl.head.cell rfl
  have i1 : (u : Int) ≤ 131008 := by omega
  clear hl h6 hle ha hd hin hf hm hc64 hrs hsh
  go_enter Tryz.func67, Tryz.ntmps67
  go_wp2_with fail
  go_loopw [4, 5] (fun v i wr => ∃ k : Nat, i = .int .i64 k ∧ k ≤ (u + 63) / 64 ∧ Ld1 w wr d v X f k) (fun _ i _ => (u + 63) / 64 - (intOf i).toNat)
  · exact ⟨0, rfl, Nat.zero_le _, ⟨⟨rfl, Or.inl ⟨rfl, rfl⟩⟩, fun _ => rfl, Chg.refl _ _⟩⟩
  obtain ⟨k, rfl, hk, hld⟩ := hrel
  have HLd := Lib.hid hld
  have hlr := HL.out.kept hld.chg (fun _ _ h => h)
  have HLr := Lib.hid hlr
  have c3r : wr.cell? ⟨l, 3, none⟩ = some (.int .i64 u) := hlr.head.cell rfl
  by_cases hlt : 64 * k < u
  · obtain ⟨oav, capv, rfl⟩ := own_slice hld.own
    have hlt' : ((64 * k : Nat) : Int) < (u : Int) := by omega
    have c0 : wr.cell? ⟨l, 0, none⟩ = some (.pointer (some ⟨d, 0, none⟩)) := hlr.head.cell rfl
    have c2 : wr.cell? ⟨l, 2, none⟩ = some (.int .i64 a) := hlr.head.cell rfl
    have HK := Lib.hid hlt
    clear hld hlr hlt
    obtain ⟨N6, hN6⟩ : ∃ N6, 64 * k = N6 := ⟨_, rfl⟩
    rw [hN6] at hlt' ⊢
    have HKe := Lib.hid hN6
    have hcd : Chg (fun _ => False) w wr.drew := HLd.out.chg.trans' (Chg.refl _ wr).drew
    have hfi := first_any _ (H.out.fresh hcd) (by have := HN.out; omega) HN.out.2.1 a HN.out.2.2.1
    rw [HF.out] at hfi
    obtain ⟨q, hq⟩ : ∃ q, f + k = q := ⟨_, rfl⟩
    have hqb : q < X.B.length := by have := HI.out; have := HK.out; omega
    have hask : askedC X (q : Int) = 0 := by unfold askedC; rw [HN.out.2.2.2, if_neg (by decide), if_pos ⟨by omega, by omega⟩]
    have hrd : Calls Tryz.prog 62 #[.pointer (some ⟨d, 0, none⟩), .int .i64 (q : Int)] wr.drew fun e w' => ∃ v, e = .returned (.tuple #[v, .int .i64 0]) ∧ w'.ownsRow wr.heap.size 5 1 v 64 (cellsB (X.cur q)) ∧ Chg (fun _ => False) wr.drew w' := by
      obtain ⟨bv, p, mm, hdk⟩ := (H.out.fresh hcd).disk
      have := disks.read_any _ hdk (q : Int) ⟨by omega, by have := HN.out; omega⟩
      rw [hask, if_pos rfl, if_pos rfl, Int.toNat_natCast] at this
      exact this
    have hq3 : IntKind.i64.wrap ((f : Int) + (k : Int)) = (q : Int) := by rw [← hq, IntWalk.i64_in _ (by have := HI.out; have := HN.out; omega)]; exact (Int.natCast_add f k).symm
    have HFi := Lib.hid hfi
    have HRd := Lib.hid hrd
    have HQ := Lib.hid (And.intro hq hqb)
    have d0 : wr.drew.cell? ⟨l, 0, none⟩ = some (.pointer (some ⟨d, 0, none⟩)) := c0
    have d2 : wr.drew.cell? ⟨l, 2, none⟩ = some (.int .i64 a) := c2
    clear hfi hrd hcd hask hqb hq hN6
    go_wp2_with fail
    refine wp_region_noPanic ?_
    refine wp_region_held_drew (S := (fun w' => w'.cell? ⟨l, 0, none⟩ = some (.pointer (some ⟨d, 0, none⟩)) ∧ w'.cell? ⟨l, 2, none⟩ = some (.int .i64 a))) (by kernel_rfl) (⟨d0, d2⟩) (fun hHeld => ?_)
    refine take_list (i := 0) (v := ?_) rfl (by kernel_rfl) (by kernel_rfl) (by kernel_rfl) (fun _ _ _ h => h) (Or.inl ⟨by rfl, fun w hSw => ?_⟩) hHeld ?_
    rotate_left
    · (obtain ⟨hSw1, hSw2⟩ := hSw; go_simp)
      try with_reducible rfl
    simp only [Act.put, List.setIfInBounds_toArray, List.set_cons_zero, List.set_cons_succ]
    refine take_list (i := 1) (v := ?_) rfl (by kernel_rfl) (by kernel_rfl) (by kernel_rfl) (fun _ _ _ h => h) (Or.inl ⟨by rfl, fun w hSw => ?_⟩) hHeld ?_
    rotate_left
    · (obtain ⟨hSw1, hSw2⟩ := hSw; go_simp)
      try with_reducible rfl
    simp only [Act.put, List.setIfInBounds_toArray, List.set_cons_zero, List.set_cons_succ]
    refine take_list (i := 2) (v := ?_) rfl (by kernel_rfl) (by kernel_rfl) (by kernel_rfl) (fun _ _ _ h => h) (Or.inl ⟨by rfl, fun w hSw => ?_⟩) hHeld ?_
    rotate_left
    · (obtain ⟨hSw1, hSw2⟩ := hSw; go_simp)
      try with_reducible rfl
    simp only [Act.put, List.setIfInBounds_toArray, List.set_cons_zero, List.set_cons_succ]
    refine take_list (i := 3) (v := ?_) rfl (by kernel_rfl) (by kernel_rfl) (by kernel_rfl) (fun _ _ _ h => h) (Or.inl ⟨by rfl, fun w hSw => ?_⟩) hHeld ?_
    rotate_left
    · (obtain ⟨hSw1, hSw2⟩ := hSw; go_simp)
      try with_reducible rfl
    simp only [Act.put, List.setIfInBounds_toArray, List.set_cons_zero, List.set_cons_succ]
    refine take_list (i := 4) (v := ?_) rfl (by kernel_rfl) (by kernel_rfl) (by kernel_rfl) (fun _ _ _ h => h) (Or.inl ⟨by rfl, fun w hSw => ?_⟩) hHeld ?_
    rotate_left
    · (obtain ⟨hSw1, hSw2⟩ := hSw; go_simp)
      try with_reducible rfl
    simp only [Act.put, List.setIfInBounds_toArray, List.set_cons_zero, List.set_cons_succ]
    refine take_list (i := 5) (v := ?_) rfl (by kernel_rfl) (by kernel_rfl) (by kernel_rfl) (fun _ _ _ h => h) (Or.inl ⟨by rfl, fun w hSw => ?_⟩) hHeld ?_
    rotate_left
    · (obtain ⟨hSw1, hSw2⟩ := hSw; go_simp)
      try with_reducible rfl
    simp only [Act.put, List.setIfInBounds_toArray, List.set_cons_zero, List.set_cons_succ]
    refine take_list (i := 6) (v := ?_) rfl (by kernel_rfl) (by kernel_rfl) (by kernel_rfl) (fun _ _ _ h => h) (Or.inl ⟨by rfl, fun w hSw => ?_⟩) hHeld ?_
    rotate_left
    · (obtain ⟨hSw1, hSw2⟩ := hSw; go_simp)
      try with_reducible rfl
    simp only [Act.put, List.setIfInBounds_toArray, List.set_cons_zero, List.set_cons_succ]
    refine take_list (i := 7) (v := ?_) rfl (by kernel_rfl) (by kernel_rfl) (by kernel_rfl) (fun _ _ _ h => h) (Or.inl ⟨by rfl, fun w hSw => ?_⟩) hHeld ?_
    rotate_left
    · (obtain ⟨hSw1, hSw2⟩ := hSw; go_simp)
      try with_reducible rfl
    simp only [Act.put, List.setIfInBounds_toArray, List.set_cons_zero, List.set_cons_succ]
    refine take_list (i := 8) (v := ?_) rfl (by kernel_rfl) (by kernel_rfl) (by kernel_rfl) (fun _ _ _ h => h) (Or.inl ⟨by rfl, fun w hSw => ?_⟩) hHeld ?_
    rotate_left
    · (obtain ⟨hSw1, hSw2⟩ := hSw; go_simp)
      try with_reducible rfl
    simp only [Act.put, List.setIfInBounds_toArray, List.set_cons_zero, List.set_cons_succ]
    refine take_list (i := 9) (v := ?_) rfl (by kernel_rfl) (by kernel_rfl) (by kernel_rfl) (fun _ _ _ h => h) (Or.inl ⟨by rfl, fun w hSw => ?_⟩) hHeld ?_
    rotate_left
    · (obtain ⟨hSw1, hSw2⟩ := hSw; go_simp)
      try with_reducible rfl
    simp only [Act.put, List.setIfInBounds_toArray, List.set_cons_zero, List.set_cons_succ]
    refine take_list (i := 11) (v := ?_) rfl (by kernel_rfl) (by kernel_rfl) (by kernel_rfl) (fun _ _ _ h => h) (Or.inl ⟨by rfl, fun w hSw => ?_⟩) hHeld ?_
    rotate_left
    · (skip; go_simp)
      try with_reducible rfl
    simp only [Act.put, List.setIfInBounds_toArray, List.set_cons_zero, List.set_cons_succ]
    refine wpAnyH_ready (rs := [10]) (by kernel_rfl) (by simp) (one_list (i := 10) rfl (by rfl) (fun K hK => ?_) AllReadyH.nil)
    go_simp
    refine HFi.out.mono ?_
    rintro e w' ⟨rfl, rfl⟩
    dsimp only
    refine hK _ _ (⟨d0, d2⟩) (fun hH2 => ?_)
    try simp only [Act.put, List.setIfInBounds_toArray, List.set_cons_zero, List.set_cons_succ]
    refine take_list (i := 12) (v := ?_) rfl (by kernel_rfl) (by kernel_rfl) (by kernel_rfl) (fun _ _ _ h => h) (Or.inl ⟨by rfl, fun w hSw => ?_⟩) hH2 ?_
    rotate_left
    · (skip; go_simp)
      try with_reducible rfl
    simp only [Act.put, List.setIfInBounds_toArray, List.set_cons_zero, List.set_cons_succ]
    refine wpAnyH_ready (rs := [13]) (by kernel_rfl) (by simp) (one_list (i := 13) rfl (by rfl) (fun K hK => ?_) AllReadyH.nil)
    go_simp
    refine HRd.out.mono ?_
    rintro e w2 ⟨v2, rfl, ho2, hc2⟩
    have HC2 := Lib.hid hc2
    have HO2 := Lib.hid ho2
    obtain ⟨oa2, cap2, rfl⟩ := own_slice ho2
    dsimp only
    refine hK _ _ (⟨hc2.cell d0 id, hc2.cell d2 id⟩) (fun hH3 => ?_)
    try simp only [Act.put, List.setIfInBounds_toArray, List.set_cons_zero, List.set_cons_succ]
    refine take_list (i := 14) (v := ?_) rfl (by kernel_rfl) (by kernel_rfl) (by kernel_rfl) (fun _ _ _ h => h) (Or.inl ⟨by rfl, fun w hSw => ?_⟩) hH3 ?_
    rotate_left
    · (skip; go_simp)
      try with_reducible rfl
    simp only [Act.put, List.setIfInBounds_toArray, List.set_cons_zero, List.set_cons_succ]
    refine take_list (i := 15) (v := ?_) rfl (by kernel_rfl) (by kernel_rfl) (by kernel_rfl) (fun _ _ _ h => h) (Or.inl ⟨by rfl, fun w hSw => ?_⟩) hH3 ?_
    rotate_left
    · (skip; go_simp)
      try with_reducible rfl
    simp only [Act.put, List.setIfInBounds_toArray, List.set_cons_zero, List.set_cons_succ]
    refine take_list (i := 16) (v := ?_) rfl (by kernel_rfl) (by kernel_rfl) (by kernel_rfl) (fun _ _ _ h => h) (Or.inl ⟨by rfl, fun w hSw => ?_⟩) hH3 ?_
    rotate_left
    · (skip; go_simp)
      try with_reducible rfl
    simp only [Act.put, List.setIfInBounds_toArray, List.set_cons_zero, List.set_cons_succ]
    refine take_list (i := 17) (v := ?_) rfl (by kernel_rfl) (by kernel_rfl) (by kernel_rfl) (fun _ _ _ h => h) (Or.inl ⟨by rfl, fun w hSw => ?_⟩) hH3 ?_
    rotate_left
    · (skip; go_simp)
      try with_reducible rfl
    simp only [Act.put, List.setIfInBounds_toArray, List.set_cons_zero, List.set_cons_succ]
    refine take_list (i := 18) (v := ?_) rfl (by kernel_rfl) (by kernel_rfl) (by kernel_rfl) (fun _ _ _ h => h) (Or.inl ⟨by rfl, fun w hSw => ?_⟩) hH3 ?_
    rotate_left
    · (skip; go_simp)
      try with_reducible rfl
    simp only [Act.put, List.setIfInBounds_toArray, List.set_cons_zero, List.set_cons_succ]
    refine wpAnyH_done (by kernel_rfl) ?_ _
    refine NoPanic.normal ?_
    clear hHeld hH2 hH3 hK d0 d2 c0 c2 ho2 hc2
    have hcw := (Chg.refl (fun _ => False) wr).drew.trans' HC2.out
    have hlen : (bytesOf X f k).length = 64 * k := bytesOf_len H64.out f k (by have := HI.out; have := HK.out; omega)
    have ho1 := own_kept HLd.out.own hcw
    obtain ⟨v3, w3, hr3, ho3, hg3⟩ := append_step ho1 (SlAt.of_own HO2.out) (HLd.out.chg.trans' hcw).size (by rw [hlen]; have := H64.out q HQ.out.2; have := HK.out; omega) 76
    rw [HKe.out] at hr3
    have hb3 : bytesOf X f k ++ X.cur q = bytesOf X f (k + 1) := by rw [← HQ.out.1]; rfl
    rw [hb3, bytesOf_len H64.out f (k + 1) (by have := HI.out; have := HK.out; omega)] at ho3
    obtain ⟨n3, hn3⟩ : ∃ n3, 64 * (k + 1) = n3 := ⟨_, rfl⟩
    have hc3 : Chg (fun _ => False) w w3 := (HLd.out.chg.trans' hcw).new hg3 (fun _ h => h)
    have HR3 := Lib.hid hr3
    have HO3 := Lib.hid ho3
    have HC3 := Lib.hid hc3
    rw [hn3] at ho3
    obtain ⟨oa3, cap3, rfl⟩ := own_slice ho3
    have HN3 := Lib.hid hn3
    clear hcw hlen ho1 hr3 ho3 hg3 hb3 hc3 hn3
    go_wp2_with (first
      | (at_builtin; refine Lib.wpList_append_run _ rfl _ _ _ _ rfl _ _ rfl rfl _ _ HR3.out ?_))
    refine ⟨⟨k + 1, by go_num, by have := HK.out; omega, ⟨HO3.out, fun h => absurd h (Nat.succ_ne_zero k), HC3.out⟩⟩, by have := HK.out; simp [intOf]; omega⟩
  · have hku : k = (u + 63) / 64 := by omega
    subst hku
    have hlu : (framesB rs).length = u := by
      rw [← HRs.out, List.length_take, bytesOf_len H64.out f _ (by have := HI.out; omega)]
      omega
    have HLu := Lib.hid hlu
    obtain ⟨k, hk'⟩ : ∃ k, (u + 63) / 64 = k := ⟨_, rfl⟩
    have HRs' := HRs.out
    rw [hk'] at HRs' HLd ⊢
    have HRk := Lib.hid HRs'
    have HKk := Lib.hid hk'
    clear hld hlr hlu hlt hk HRs HRs'
    by_cases hu0 : u = 0
    · subst hu0
      obtain rfl : k = 0 := by omega
      obtain rfl := HLd.out.nul rfl
      clear hk'
      have hslA : SlAt wr (.slice none 0 0) (cellsB (framesB rs)) := by rw [List.eq_nil_of_length_eq_zero HLu.out]; exact ⟨none, 0, rfl, fun h => absurd rfl h, by simp [cellsB]⟩
      have hall := all_any wr none 0 0 rs hslA HSh.out (by rw [HLu.out]; omega) (by rw [HLu.out]; exact Nat.le_refl _)
      rw [HLu.out] at hall
      have HAll := Lib.hid hall
      clear hall hslA
      go_wp2_with (first
        | (go_at_call 83; fail))
      refine HAll.out.mono ?_
      rintro e w2 ⟨vb, vs, rfl, hbo, hc2⟩
      have hlog2 := HLr.out.kept hc2 (fun _ _ h => h)
      have c3' : w2.cell? ⟨l, 3, none⟩ = some (.int .i64 (0 : Nat)) := hlog2.head.cell rfl
      have h2 : Ld2 w w2 l d F ⟨s, a, 0, [], [], [], 0, false⟩ tv wv vb rs vs (.slice none 0 0) (64 * 0) (bytesOf X f 0) 0 := ⟨⟨rv, F, hlog2, fun k hk => Or.inl hk⟩, ⟨own_lower hbo.list HLd.out.chg.size, fun i r hi => by
        obtain ⟨x, h1, h2⟩ := hbo.body i r hi
        exact ⟨x, h1, own_lower h2 HLd.out.chg.size⟩⟩, own_kept HLd.out.own hc2, (HLd.out.chg.trans' hc2).mono (fun _ _ h => h.elim)⟩
      obtain ⟨oab, capb, rfl⟩ := own_slice hbo.list
      have HL2 := Lib.hid h2
      clear hbo hc2 hlog2 h2 HAll
      dsimp only
      go_wp2_with fail
      rename World => wS
      go_loopw [68] (fun iv wr => ∃ j : Nat, iv = .int .i64 j ∧ j ≤ rs.length ∧ Ld2 w wr l d F ⟨s, a, 0, [], [], [], 0, false⟩ tv wv (.slice oab rs.length capb) rs vs (.slice none 0 0) (64 * 0) (bytesOf X f 0) j) (fun iv _ => rs.length - (intOf iv).toNat)
      · exact ⟨0, rfl, Nat.zero_le _, HL2.out⟩
      clear HL2
      obtain ⟨j, rfl, hj, hld⟩ := hrel
      have HLd2 := Lib.hid hld
      clear hld
      by_cases hjl : j < rs.length
      · have hjl' : (j : Int) < (rs.length : Int) := by omega
        obtain ⟨r, hr⟩ : ∃ r, rs[j]? = some r := ⟨rs[j], List.getElem?_eq_getElem hjl⟩
        obtain ⟨x, hx1, hx2⟩ := HLd2.out.bod.body j r hr
        obtain ⟨oax, capx, rfl⟩ := own_slice hx2
        obtain ⟨gb, ofb, rfl, hcell⟩ : ∃ gb ofb, oab = some ⟨gb, ofb, none⟩ ∧ wr.cell? ⟨gb, ofb + j, none⟩ = some (.slice oax r.length capx) := by
          obtain ⟨oa', cap', e1, e2, e3⟩ := SlAt.of_own HLd2.out.bod.list
          simp only [Value.slice.injEq] at e1
          obtain ⟨b, off, e4⟩ := e2 (by intro e; rw [e] at hx1; simp at hx1)
          exact ⟨b, off, by rw [e1.1, e4], e3 b off e4 j _ hx1⟩
        obtain ⟨rvj, F2, hlog, hF2⟩ := HLd2.out.log
        obtain ⟨nj, hnj⟩ : ∃ nj, (rs.take j).length = nj := ⟨_, rfl⟩
        have hnj' : nj = j := by rw [← hnj, List.length_take]; omega
        have hlr := hlog.recs
        rw [show ({ (⟨s, a, 0, [], [], [], 0, false⟩ : LV) with recs := rs.take j } : LV).recs.length = nj from hnj] at hlr
        obtain ⟨oar, capr, rfl⟩ := own_slice hlr
        obtain ⟨sr, hsr⟩ : ∃ sr : ByteArray, (⟨r.toArray⟩ : ByteArray) = sr := ⟨_, rfl⟩
        have hdr : Chg (fun _ => False) wr wr.drew := (Chg.refl _ _).drew
        have hca : Chg (fun _ => False) wr (wr.drew.alloc (.cells #[.string sr] 9)) := hdr.alloc _
        have hs2 : SlAt (wr.drew.alloc (.cells #[.string sr] 9)) (.slice (some ⟨wr.heap.size, 0, none⟩) 1 1) [.string sr] := SlAt.of_own (own_of_block (base := 0) (n := 1) (show (wr.drew.alloc (.cells #[.string sr] 9)).heap[wr.heap.size]? = _ from at1) (Nat.zero_le _) rfl (by unfold maxLen; omega))
        have hrsl : rs.length ≤ 131008 := by have := sizeB_ge rs; rw [← framesB_length, HLu.out] at this; omega
        obtain ⟨v3, w3, hr3, ho3, hg3, h43⟩ := append_strs (own_kept hlr hca) hs2 (fun y hy => by rw [List.mem_singleton] at hy; subst hy; rfl) (Nat.zero_le _) (by rw [List.length_map, hnj]; simp; omega) 36
        have e3 : (rs.take j).map strV ++ [.string sr] = (rs.take (j + 1)).map strV := by rw [List.take_add_one, hr, Option.toList_some, List.map_append]; simp [strV, hsr]
        rw [e3, List.length_map] at ho3
        obtain ⟨n3, hn3⟩ : ∃ n3, (rs.take (j + 1)).length = n3 := ⟨_, rfl⟩
        rw [hn3] at ho3
        obtain ⟨oa3, cap3, rfl⟩ := own_slice ho3
        obtain ⟨hl4, hc4⟩ := hlog.growRecs hca hn3 ho3 hg3 (Or.inl rfl) (h43.imp id (fun e => ⟨_, e, hca.size⟩))
        have a3 := (Chg.of_grown hg3).at (hca.at hlog.head id) (fun e => row_head hlr hlog.head (by decide) l e.symm rfl)
        have hc' : Chg (· = l) w3 (w3.setCell ⟨l, 4, none⟩ (.slice oa3 n3 cap3)) := Chg.setCell (S := (· = l)) (Chg.refl _ _) (fun _ => rfl) _
        have keep3 : ∀ {e : TypeId} {base n : Nat} {y : Value} {ys : List Value}, wr.ownsRow base e 1 y n ys → e ≠ 9 → w3.ownsRow base e 1 y n ys := fun hy he => row_kept (own_kept hy hca) (Chg.of_grown hg3) (fun g hg e1 => row_apart (own_kept hy hca) (own_kept hlr hca) he g hg e1.symm)
        have keep4 : ∀ {e : TypeId} {base n : Nat} {y : Value} {ys : List Value}, wr.ownsRow base e 1 y n ys → e ≠ 9 → e ≠ 119 → (w3.setCell ⟨l, 4, none⟩ (.slice oa3 n3 cap3)).ownsRow base e 1 y n ys := fun hy he he2 => row_kept (keep3 hy he) hc' (row_head (keep3 hy he) a3 he2)
        have cv0 : (convert 76 9 (.slice oax r.length capx)).run Tryz.prog wr.drew = .ok (.string sr) wr.drew := by rw [← hsr]; exact conv_own (own_kept hx2 hdr)
        have cva : (convert 76 9 (.slice oax r.length capx)).run Tryz.prog (wr.drew.alloc (.cells #[.string sr] 9)) = .ok (.string sr) (wr.drew.alloc (.cells #[.string sr] 9)) := by rw [← hsr]; rw [← hsr] at hca; exact conv_own (own_kept hx2 hca)
        have cv3 : (convert 76 9 (.slice oax r.length capx)).run Tryz.prog w3 = .ok (.string sr) w3 := by rw [← hsr]; exact conv_own (keep3 hx2 (by decide))
        have cv4 : (convert 76 9 (.slice oax r.length capx)).run Tryz.prog (w3.setCell ⟨l, 4, none⟩ (.slice oa3 n3 cap3)) = .ok (.string sr) (w3.setCell ⟨l, 4, none⟩ (.slice oa3 n3 cap3)) := by rw [← hsr]; exact conv_own (keep4 hx2 (by decide) (by decide))
        have k4 : wr.drew.cell? ⟨l, 4, none⟩ = some (.slice oar nj capr) := by have := hlog.head.cell (i := 4) rfl; exact this
        have k4a : (wr.drew.alloc (.cells #[.string sr] 9)).cell? ⟨l, 4, none⟩ = some (.slice oar nj capr) := hca.cell k4 id
        have k4b : (wr.alloc (.cells #[.string sr] 9)).cell? ⟨l, 4, none⟩ = some (.slice oar nj capr) := k4a
        have k4c : wr.cell? ⟨l, 4, none⟩ = some (.slice oar nj capr) := k4
        have j4 : w3.cell? ⟨l, 4, none⟩ = some (.slice oar nj capr) := Arr.cell a3 rfl
        have z4 : w3.frozen? ⟨l, 4, none⟩ = false := Arr.free a3
        have hnew : ∀ k, (Value.slice oa3 n3 cap3).ownBlock = some k → F2 k ∨ wr.heap.size ≤ k := fun k hk => by
          rcases h43 with e | e
          · exact Or.inl (hlog.fr k (e ▸ hk))
          · rw [e] at hk; cases hk; exact Or.inr hca.size
        have hsW := HLd2.out.chg.size
        have hL5 : Ld2 w (w3.setCell ⟨l, 4, none⟩ (.slice oa3 n3 cap3)) l d F ⟨s, a, 0, [], [], [], 0, false⟩ tv wv (.slice (some ⟨gb, ofb, none⟩) rs.length capb) rs vs (.slice none 0 0) (64 * 0) (bytesOf X f 0) (j + 1) := by
          refine ⟨⟨_, _, hl4, fun k hk => hk.elim (hF2 k) (fun h => (hnew k h).elim (hF2 k) (fun h => Or.inr (by omega)))⟩, ⟨keep4 HLd2.out.bod.list (by decide) (by decide), fun i r' hi => ?_⟩, keep4 HLd2.out.all (by decide) (by decide), HLd2.out.chg.trans hc4 (fun k hk h => (hF2 k h).resolve_right (by omega))⟩
          obtain ⟨y, h1, h2⟩ := HLd2.out.bod.body i r' hi
          exact ⟨y, h1, keep4 h2 (by decide) (by decide)⟩
        have HL5 := Lib.hid hL5
        have HR3 := Lib.hid hr3
        have HJ := Lib.hid hjl
        have HX0 := Lib.hid cv0
        have HXa := Lib.hid cva
        have HX3 := Lib.hid cv3
        have HX4 := Lib.hid cv4
        clear hL5 hr3 keep3 keep4 hc' hl4 hc4 ho3 hg3 h43 hs2 hca hdr hlog hlr hx1 hx2 a3 hnew e3 hn3 hsr hnj hnj' hr cva cv3 cv4 cv0 hF2
        go_wp2_with fail
        refine wp_region_noPanic ?_
        refine wp_region_held_drew (S := (fun w' => (convert 76 9 (.slice oax r.length capx)).run Tryz.prog w' = .ok (.string sr) w')) (by kernel_rfl) (HX0.out) (fun hHeld => ?_)
        refine take_list (i := 0) (v := ?_) rfl (by kernel_rfl) (by kernel_rfl) (by kernel_rfl) (fun _ _ _ h => h) (Or.inl ⟨by rfl, fun w hSw => ?_⟩) hHeld ?_
        rotate_left
        · (skip; go_simp)
          try with_reducible rfl
        simp only [Act.put, List.setIfInBounds_toArray, List.set_cons_zero, List.set_cons_succ]
        refine take_list (i := 1) (v := ?_) rfl (by kernel_rfl) (by kernel_rfl) (by kernel_rfl) (fun _ _ _ h => h) (Or.inl ⟨by rfl, fun w hSw => ?_⟩) hHeld ?_
        rotate_left
        · (skip; go_simp)
          try with_reducible rfl
        simp only [Act.put, List.setIfInBounds_toArray, List.set_cons_zero, List.set_cons_succ]
        refine take_list (i := 2) (v := ?_) rfl (by kernel_rfl) (by kernel_rfl) (by kernel_rfl) (fun _ _ _ h => h) (Or.inl ⟨by rfl, fun w hSw => ?_⟩) hHeld ?_
        rotate_left
        · (skip; go_simp)
          try with_reducible rfl
        simp only [Act.put, List.setIfInBounds_toArray, List.set_cons_zero, List.set_cons_succ]
        refine take_list (i := 3) (v := ?_) rfl (by kernel_rfl) (by kernel_rfl) (by kernel_rfl) (fun _ _ _ h => h) (Or.inl ⟨by rfl, fun w hSw => ?_⟩) hHeld ?_
        rotate_left
        · (skip; go_simp)
          try with_reducible rfl
        simp only [Act.put, List.setIfInBounds_toArray, List.set_cons_zero, List.set_cons_succ]
        refine take_list (i := 5) (v := ?_) rfl (by kernel_rfl) (by kernel_rfl) (by kernel_rfl) (fun _ _ _ h => h) (Or.inl ⟨by rfl, fun w hSw => ?_⟩) hHeld ?_
        rotate_left
        · (skip; go_simp)
          try with_reducible rfl
        simp only [Act.put, List.setIfInBounds_toArray, List.set_cons_zero, List.set_cons_succ]
        refine take_list (i := 6) (v := ?_) rfl (by kernel_rfl) (by kernel_rfl) (by kernel_rfl) (fun _ _ _ h => h) (Or.inl ⟨by rfl, fun w hSw => ?_⟩) hHeld ?_
        rotate_left
        · (skip; go_simp)
          try with_reducible rfl
        simp only [Act.put, List.setIfInBounds_toArray, List.set_cons_zero, List.set_cons_succ]
        refine wpAnyH_ready (rs := [4, 7]) (by kernel_rfl) (by simp) (one_list (i := 4) rfl (by rfl) (fun K hK => ?_) (one_list (i := 7) rfl (by rfl) (fun K hK => ?_) AllReadyH.nil))
        · go_simp
          refine hK _ _ (HX0.out) (fun hH2 => ?_)
          try simp only [Act.put, List.setIfInBounds_toArray, List.set_cons_zero, List.set_cons_succ]
          refine wpAnyH_ready (rs := [7]) (by kernel_rfl) (by simp) (one_list (i := 7) rfl (by rfl) (fun K hK => ?_) AllReadyH.nil)
          go_simp
          refine hK _ _ (HXa.out) (fun hH3 => ?_)
          try simp only [Act.put, List.setIfInBounds_toArray, List.set_cons_zero, List.set_cons_succ]
          refine wpAnyH_ready (rs := [8]) (by kernel_rfl) (by simp) (one_list (i := 8) rfl (by rfl) (fun K hK => ?_) AllReadyH.nil)
          refine oper_append _ _ _ rfl rfl rfl HR3.out ?_
          refine hK _ _ (HX3.out) (fun hH4 => ?_)
          try simp only [Act.put, List.setIfInBounds_toArray, List.set_cons_zero, List.set_cons_succ]
          refine take_list (i := 9) (v := ?_) rfl (by kernel_rfl) (by kernel_rfl) (by kernel_rfl) (fun _ _ _ h => h) (Or.inl ⟨by rfl, fun w hSw => ?_⟩) hH4 ?_
          rotate_left
          · (skip; go_simp)
            try with_reducible rfl
          simp only [Act.put, List.setIfInBounds_toArray, List.set_cons_zero, List.set_cons_succ]
          refine take_list (i := 10) (v := ?_) rfl (by kernel_rfl) (by kernel_rfl) (by kernel_rfl) (fun _ _ _ h => h) (Or.inl ⟨by rfl, fun w hSw => ?_⟩) hH4 ?_
          rotate_left
          · (skip; go_simp)
            try with_reducible rfl
          simp only [Act.put, List.setIfInBounds_toArray, List.set_cons_zero, List.set_cons_succ]
          refine wpAnyH_ready (rs := [11]) (by kernel_rfl) (by simp) (one_list (i := 11) rfl (by rfl) (fun K hK => ?_) AllReadyH.nil)
          go_simp
          refine hK _ _ (HX4.out) (fun hH5 => ?_)
          try simp only [Act.put, List.setIfInBounds_toArray, List.set_cons_zero, List.set_cons_succ]
          refine wpAnyH_done (by kernel_rfl) ?_ _
          refine NoPanic.normal ?_
          clear hHeld hH2 hH3 hH4 hH5 hK k4 k4a k4b k4c j4 z4
          go_wp2_with fail
          first
            | exact ⟨⟨j + 1, by go_num, HJ.out, HL5.out⟩, by have := HJ.out; simp [intOf]; omega⟩
            | exact ⟨⟨_, _, _, _, _, _, _, _, _, _, _, _, _, _, _, _, _, ⟨j + 1, by go_num, HJ.out, HL5.out⟩, rfl⟩, by have := HJ.out; simp [intOf]; omega⟩
        · go_simp
          refine hK _ _ (HXa.out) (fun hH2 => ?_)
          try simp only [Act.put, List.setIfInBounds_toArray, List.set_cons_zero, List.set_cons_succ]
          refine wpAnyH_ready (rs := [4]) (by kernel_rfl) (by simp) (one_list (i := 4) rfl (by rfl) (fun K hK => ?_) AllReadyH.nil)
          go_simp
          refine hK _ _ (HXa.out) (fun hH3 => ?_)
          try simp only [Act.put, List.setIfInBounds_toArray, List.set_cons_zero, List.set_cons_succ]
          refine wpAnyH_ready (rs := [8]) (by kernel_rfl) (by simp) (one_list (i := 8) rfl (by rfl) (fun K hK => ?_) AllReadyH.nil)
          refine oper_append _ _ _ rfl rfl rfl HR3.out ?_
          refine hK _ _ (HX3.out) (fun hH4 => ?_)
          try simp only [Act.put, List.setIfInBounds_toArray, List.set_cons_zero, List.set_cons_succ]
          refine take_list (i := 9) (v := ?_) rfl (by kernel_rfl) (by kernel_rfl) (by kernel_rfl) (fun _ _ _ h => h) (Or.inl ⟨by rfl, fun w hSw => ?_⟩) hH4 ?_
          rotate_left
          · (skip; go_simp)
            try with_reducible rfl
          simp only [Act.put, List.setIfInBounds_toArray, List.set_cons_zero, List.set_cons_succ]
          refine take_list (i := 10) (v := ?_) rfl (by kernel_rfl) (by kernel_rfl) (by kernel_rfl) (fun _ _ _ h => h) (Or.inl ⟨by rfl, fun w hSw => ?_⟩) hH4 ?_
          rotate_left
          · (skip; go_simp)
            try with_reducible rfl
          simp only [Act.put, List.setIfInBounds_toArray, List.set_cons_zero, List.set_cons_succ]
          refine wpAnyH_ready (rs := [11]) (by kernel_rfl) (by simp) (one_list (i := 11) rfl (by rfl) (fun K hK => ?_) AllReadyH.nil)
          go_simp
          refine hK _ _ (HX4.out) (fun hH5 => ?_)
          try simp only [Act.put, List.setIfInBounds_toArray, List.set_cons_zero, List.set_cons_succ]
          refine wpAnyH_done (by kernel_rfl) ?_ _
          refine NoPanic.normal ?_
          clear hHeld hH2 hH3 hH4 hH5 hK k4 k4a k4b k4c j4 z4
          go_wp2_with fail
          first
            | exact ⟨⟨j + 1, by go_num, HJ.out, HL5.out⟩, by have := HJ.out; simp [intOf]; omega⟩
            | exact ⟨⟨_, _, _, _, _, _, _, _, _, _, _, _, _, _, _, _, _, ⟨j + 1, by go_num, HJ.out, HL5.out⟩, rfl⟩, by have := HJ.out; simp [intOf]; omega⟩
      · obtain rfl : j = rs.length := by omega
        obtain ⟨rvj, F2, hlog, hF2⟩ := HLd2.out.log
        have hlogr : LogIs wr l d F2 ⟨s, a, 0, rs, [], [], 0, false⟩ rvj tv wv := by
          have := hlog
          rw [List.take_of_length_le (Nat.le_refl _)] at this
          exact this
        clear hlog
        have hslT : SlAt wr (.slice none 0 0) (cellsB ((framesB rs).drop (0 / 64 * 64))) := by
          rw [List.eq_nil_of_length_eq_zero HLu.out]
          exact ⟨none, 0, rfl, fun h => absurd rfl h, by simp [cellsB]⟩
        obtain ⟨v6, w6, hr6, ho6, hc6⟩ := fresh_copy wr hslT (by rw [List.length_drop, HLu.out]; omega)
        obtain ⟨T, hT⟩ : ∃ T, (framesB rs).drop (0 / 64 * 64) = T := ⟨_, rfl⟩
        rw [hT] at ho6
        have HT := Lib.hid hT
        obtain ⟨n6, hn6⟩ : ∃ n6, T.length = n6 := ⟨_, rfl⟩
        rw [hn6] at ho6
        obtain ⟨oa6, cap6, rfl⟩ := own_slice ho6
        have HR6 := Lib.hid hr6
        clear hr6 hslT
        have ho7 : w6.ownsRow 0 5 1 (Value.slice oa6 n6 cap6) T.length (cellsB T) := by
          rw [hn6]
          exact own_lower ho6 (Nat.zero_le _)
        have hl6 := hlogr.kept hc6 (fun _ _ h => h)
        have k5 : w6.cell? ⟨l, 5, none⟩ = some tv := hl6.head.cell rfl
        have z5 : w6.frozen? ⟨l, 5, none⟩ = false := hl6.head.free
        have c3a : (wr.alloc (.cells #[] 5)).cell? ⟨l, 3, none⟩ = some (.int .i64 (0 : Nat)) := by
          have h1 : Chg (fun _ => False) wr (wr.alloc (.cells #[] 5)) := (Chg.refl _ _).alloc _
          exact h1.cell (hlogr.head.cell (i := 3) rfl) id
        obtain ⟨hl7, hc7⟩ := hl6.setTail T _ ho7
        have hnew : ∀ k, (Value.slice oa6 n6 cap6).ownBlock = some k → wr.heap.size ≤ k := fun k hk => (ho6.lt k hk).1
        have hsW := HLd2.out.chg.size
        have hC7 := (HLd2.out.chg.trans' (hc6.mono (fun _ _ h => h.elim))).trans hc7 (fun k hk e => by
          have e : k = l := e
          rw [e]
          exact HL.out.fl)
        have hF7 : ∀ k, (F2 k ∨ (Value.slice oa6 n6 cap6).ownBlock = some k) → F k ∨ w.heap.size ≤ k := fun k hk => hk.elim (hF2 k) (fun h => Or.inr (by have := hnew k h; omega))
        have hLA : LogAt (w6.setCell ⟨l, 5, none⟩ (Value.slice oa6 n6 cap6)) l d (fun k => F2 k ∨ (Value.slice oa6 n6 cap6).ownBlock = some k) Fd X ⟨s, a, 0, rs, T, [], 0, false⟩ := ⟨⟨rvj, _, wv, hl7⟩, H.out.disk.kept hC7 (fun k hk hF => H.out.off k hF hk), fun k hk hF => (hF7 k hk).elim (fun h => H.out.off k h hF) (fun h => by have := H.out.disk.lt k hF; omega)⟩
        have HLA := Lib.hid hLA
        have HFC := Lib.hid (And.intro hF7 hC7)
        clear ho6 hc6 hT hn6 ho7 hl6 hl7 hc7 hnew hsW hC7 hF7 hLA hlogr hF2
        go_wp2_with (first | (at_builtin; refine Lib.wpList_append_run _ rfl _ _ _ _ rfl _ _ rfl rfl _ _ HR6.out ?_))
        go_ret2
        rw [HT.out]
        exact ⟨rfl, _, HLA.out, HFC.out.1, HFC.out.2⟩
    · have hbn : (bytesOf X f k).length = 64 * k := bytesOf_len H64.out f k (by have := HI.out; omega)
      obtain ⟨g, capv, rfl, hg1, hg2⟩ := own_nonnil HLd.out.own (by intro e; rw [e] at hbn; simp at hbn; omega)
      have hcv := own_cap HLd.out.own
      rw [hbn] at HLd hcv ⊢
      have i3 : (u : Int) ≤ (capv : Int) := by omega
      have hcn : ¬ capv = 0 := by omega
      obtain ⟨N6, hN6⟩ : ∃ N6, 64 * k = N6 := ⟨_, rfl⟩
      rw [hN6] at HLd hcv hbn ⊢
      have i4 : (u : Int) ≤ (N6 : Int) := by omega
      have hNd : decide (N6 < u) = false := by rw [decide_eq_false_iff_not]; omega
      have HN6 := Lib.hid hN6
      have hslA : SlAt wr (.slice (some ⟨g, 0, none⟩) u capv) (cellsB (framesB rs)) := by
        have h1 := slat_sub (SlAt.of_own HLd.out.own) g 0 0 u capv rfl (by rw [hbn]; omega)
        rw [List.drop_zero, HRk.out] at h1
        exact h1
      have HSA := Lib.hid hslA
      clear hslA hbn hg1 hg2 hN6 hk'
      have hslA : SlAt wr (.slice (some ⟨g, 0, none⟩) u capv) (cellsB (framesB rs)) := HSA.out
      have hall := all_any wr (some ⟨g, 0, none⟩) u capv rs hslA HSh.out (by rw [HLu.out]; omega) (by rw [HLu.out]; omega)
      rw [HLu.out] at hall
      have HAll := Lib.hid hall
      clear hall hslA
      go_wp2_with (first
        | (go_at_call 83; fail))
      refine HAll.out.mono ?_
      rintro e w2 ⟨vb, vs, rfl, hbo, hc2⟩
      have hlog2 := HLr.out.kept hc2 (fun _ _ h => h)
      have c3' : w2.cell? ⟨l, 3, none⟩ = some (.int .i64 (u : Nat)) := hlog2.head.cell rfl
      have h2 : Ld2 w w2 l d F ⟨s, a, u, [], [], [], 0, false⟩ tv wv vb rs vs (.slice (some ⟨g, 0, none⟩) N6 capv) (64 * k) (bytesOf X f k) 0 := ⟨⟨rv, F, hlog2, fun k hk => Or.inl hk⟩, ⟨own_lower hbo.list HLd.out.chg.size, fun i r hi => by
        obtain ⟨x, h1, h2⟩ := hbo.body i r hi
        exact ⟨x, h1, own_lower h2 HLd.out.chg.size⟩⟩, own_kept HLd.out.own hc2, (HLd.out.chg.trans' hc2).mono (fun _ _ h => h.elim)⟩
      obtain ⟨oab, capb, rfl⟩ := own_slice hbo.list
      have HL2 := Lib.hid h2
      clear hbo hc2 hlog2 h2 HAll
      dsimp only
      go_wp2_with fail
      rename World => wS
      go_loopw [68] (fun iv wr => ∃ j : Nat, iv = .int .i64 j ∧ j ≤ rs.length ∧ Ld2 w wr l d F ⟨s, a, u, [], [], [], 0, false⟩ tv wv (.slice oab rs.length capb) rs vs (.slice (some ⟨g, 0, none⟩) N6 capv) (64 * k) (bytesOf X f k) j) (fun iv _ => rs.length - (intOf iv).toNat)
      · exact ⟨0, rfl, Nat.zero_le _, HL2.out⟩
      clear HL2
      obtain ⟨j, rfl, hj, hld⟩ := hrel
      have HLd2 := Lib.hid hld
      clear hld
      by_cases hjl : j < rs.length
      · have hjl' : (j : Int) < (rs.length : Int) := by omega
        obtain ⟨r, hr⟩ : ∃ r, rs[j]? = some r := ⟨rs[j], List.getElem?_eq_getElem hjl⟩
        obtain ⟨x, hx1, hx2⟩ := HLd2.out.bod.body j r hr
        obtain ⟨oax, capx, rfl⟩ := own_slice hx2
        obtain ⟨gb, ofb, rfl, hcell⟩ : ∃ gb ofb, oab = some ⟨gb, ofb, none⟩ ∧ wr.cell? ⟨gb, ofb + j, none⟩ = some (.slice oax r.length capx) := by
          obtain ⟨oa', cap', e1, e2, e3⟩ := SlAt.of_own HLd2.out.bod.list
          simp only [Value.slice.injEq] at e1
          obtain ⟨b, off, e4⟩ := e2 (by intro e; rw [e] at hx1; simp at hx1)
          exact ⟨b, off, by rw [e1.1, e4], e3 b off e4 j _ hx1⟩
        obtain ⟨rvj, F2, hlog, hF2⟩ := HLd2.out.log
        obtain ⟨nj, hnj⟩ : ∃ nj, (rs.take j).length = nj := ⟨_, rfl⟩
        have hnj' : nj = j := by rw [← hnj, List.length_take]; omega
        have hlr := hlog.recs
        rw [show ({ (⟨s, a, u, [], [], [], 0, false⟩ : LV) with recs := rs.take j } : LV).recs.length = nj from hnj] at hlr
        obtain ⟨oar, capr, rfl⟩ := own_slice hlr
        obtain ⟨sr, hsr⟩ : ∃ sr : ByteArray, (⟨r.toArray⟩ : ByteArray) = sr := ⟨_, rfl⟩
        have hdr : Chg (fun _ => False) wr wr.drew := (Chg.refl _ _).drew
        have hca : Chg (fun _ => False) wr (wr.drew.alloc (.cells #[.string sr] 9)) := hdr.alloc _
        have hs2 : SlAt (wr.drew.alloc (.cells #[.string sr] 9)) (.slice (some ⟨wr.heap.size, 0, none⟩) 1 1) [.string sr] := SlAt.of_own (own_of_block (base := 0) (n := 1) (show (wr.drew.alloc (.cells #[.string sr] 9)).heap[wr.heap.size]? = _ from at1) (Nat.zero_le _) rfl (by unfold maxLen; omega))
        have hrsl : rs.length ≤ 131008 := by have := sizeB_ge rs; rw [← framesB_length, HLu.out] at this; omega
        obtain ⟨v3, w3, hr3, ho3, hg3, h43⟩ := append_strs (own_kept hlr hca) hs2 (fun y hy => by rw [List.mem_singleton] at hy; subst hy; rfl) (Nat.zero_le _) (by rw [List.length_map, hnj]; simp; omega) 36
        have e3 : (rs.take j).map strV ++ [.string sr] = (rs.take (j + 1)).map strV := by rw [List.take_add_one, hr, Option.toList_some, List.map_append]; simp [strV, hsr]
        rw [e3, List.length_map] at ho3
        obtain ⟨n3, hn3⟩ : ∃ n3, (rs.take (j + 1)).length = n3 := ⟨_, rfl⟩
        rw [hn3] at ho3
        obtain ⟨oa3, cap3, rfl⟩ := own_slice ho3
        obtain ⟨hl4, hc4⟩ := hlog.growRecs hca hn3 ho3 hg3 (Or.inl rfl) (h43.imp id (fun e => ⟨_, e, hca.size⟩))
        have a3 := (Chg.of_grown hg3).at (hca.at hlog.head id) (fun e => row_head hlr hlog.head (by decide) l e.symm rfl)
        have hc' : Chg (· = l) w3 (w3.setCell ⟨l, 4, none⟩ (.slice oa3 n3 cap3)) := Chg.setCell (S := (· = l)) (Chg.refl _ _) (fun _ => rfl) _
        have keep3 : ∀ {e : TypeId} {base n : Nat} {y : Value} {ys : List Value}, wr.ownsRow base e 1 y n ys → e ≠ 9 → w3.ownsRow base e 1 y n ys := fun hy he => row_kept (own_kept hy hca) (Chg.of_grown hg3) (fun g hg e1 => row_apart (own_kept hy hca) (own_kept hlr hca) he g hg e1.symm)
        have keep4 : ∀ {e : TypeId} {base n : Nat} {y : Value} {ys : List Value}, wr.ownsRow base e 1 y n ys → e ≠ 9 → e ≠ 119 → (w3.setCell ⟨l, 4, none⟩ (.slice oa3 n3 cap3)).ownsRow base e 1 y n ys := fun hy he he2 => row_kept (keep3 hy he) hc' (row_head (keep3 hy he) a3 he2)
        have cv0 : (convert 76 9 (.slice oax r.length capx)).run Tryz.prog wr.drew = .ok (.string sr) wr.drew := by rw [← hsr]; exact conv_own (own_kept hx2 hdr)
        have cva : (convert 76 9 (.slice oax r.length capx)).run Tryz.prog (wr.drew.alloc (.cells #[.string sr] 9)) = .ok (.string sr) (wr.drew.alloc (.cells #[.string sr] 9)) := by rw [← hsr]; rw [← hsr] at hca; exact conv_own (own_kept hx2 hca)
        have cv3 : (convert 76 9 (.slice oax r.length capx)).run Tryz.prog w3 = .ok (.string sr) w3 := by rw [← hsr]; exact conv_own (keep3 hx2 (by decide))
        have cv4 : (convert 76 9 (.slice oax r.length capx)).run Tryz.prog (w3.setCell ⟨l, 4, none⟩ (.slice oa3 n3 cap3)) = .ok (.string sr) (w3.setCell ⟨l, 4, none⟩ (.slice oa3 n3 cap3)) := by rw [← hsr]; exact conv_own (keep4 hx2 (by decide) (by decide))
        have k4 : wr.drew.cell? ⟨l, 4, none⟩ = some (.slice oar nj capr) := by have := hlog.head.cell (i := 4) rfl; exact this
        have k4a : (wr.drew.alloc (.cells #[.string sr] 9)).cell? ⟨l, 4, none⟩ = some (.slice oar nj capr) := hca.cell k4 id
        have k4b : (wr.alloc (.cells #[.string sr] 9)).cell? ⟨l, 4, none⟩ = some (.slice oar nj capr) := k4a
        have k4c : wr.cell? ⟨l, 4, none⟩ = some (.slice oar nj capr) := k4
        have j4 : w3.cell? ⟨l, 4, none⟩ = some (.slice oar nj capr) := Arr.cell a3 rfl
        have z4 : w3.frozen? ⟨l, 4, none⟩ = false := Arr.free a3
        have hnew : ∀ k, (Value.slice oa3 n3 cap3).ownBlock = some k → F2 k ∨ wr.heap.size ≤ k := fun k hk => by
          rcases h43 with e | e
          · exact Or.inl (hlog.fr k (e ▸ hk))
          · rw [e] at hk; cases hk; exact Or.inr hca.size
        have hsW := HLd2.out.chg.size
        have hL5 : Ld2 w (w3.setCell ⟨l, 4, none⟩ (.slice oa3 n3 cap3)) l d F ⟨s, a, u, [], [], [], 0, false⟩ tv wv (.slice (some ⟨gb, ofb, none⟩) rs.length capb) rs vs (.slice (some ⟨g, 0, none⟩) N6 capv) (64 * k) (bytesOf X f k) (j + 1) := by
          refine ⟨⟨_, _, hl4, fun k hk => hk.elim (hF2 k) (fun h => (hnew k h).elim (hF2 k) (fun h => Or.inr (by omega)))⟩, ⟨keep4 HLd2.out.bod.list (by decide) (by decide), fun i r' hi => ?_⟩, keep4 HLd2.out.all (by decide) (by decide), HLd2.out.chg.trans hc4 (fun k hk h => (hF2 k h).resolve_right (by omega))⟩
          obtain ⟨y, h1, h2⟩ := HLd2.out.bod.body i r' hi
          exact ⟨y, h1, keep4 h2 (by decide) (by decide)⟩
        have HL5 := Lib.hid hL5
        have HR3 := Lib.hid hr3
        have HJ := Lib.hid hjl
        have HX0 := Lib.hid cv0
        have HXa := Lib.hid cva
        have HX3 := Lib.hid cv3
        have HX4 := Lib.hid cv4
        clear hL5 hr3 keep3 keep4 hc' hl4 hc4 ho3 hg3 h43 hs2 hca hdr hlog hlr hx1 hx2 a3 hnew e3 hn3 hsr hnj hnj' hr cva cv3 cv4 cv0 hF2
        go_wp2_with fail
        refine wp_region_noPanic ?_
        refine wp_region_held_drew (S := (fun w' => (convert 76 9 (.slice oax r.length capx)).run Tryz.prog w' = .ok (.string sr) w')) (by kernel_rfl) (HX0.out) (fun hHeld => ?_)
        refine take_list (i := 0) (v := ?_) rfl (by kernel_rfl) (by kernel_rfl) (by kernel_rfl) (fun _ _ _ h => h) (Or.inl ⟨by rfl, fun w hSw => ?_⟩) hHeld ?_
        rotate_left
        · (skip; go_simp)
          try with_reducible rfl
        simp only [Act.put, List.setIfInBounds_toArray, List.set_cons_zero, List.set_cons_succ]
        refine take_list (i := 1) (v := ?_) rfl (by kernel_rfl) (by kernel_rfl) (by kernel_rfl) (fun _ _ _ h => h) (Or.inl ⟨by rfl, fun w hSw => ?_⟩) hHeld ?_
        rotate_left
        · (skip; go_simp)
          try with_reducible rfl
        simp only [Act.put, List.setIfInBounds_toArray, List.set_cons_zero, List.set_cons_succ]
        refine take_list (i := 2) (v := ?_) rfl (by kernel_rfl) (by kernel_rfl) (by kernel_rfl) (fun _ _ _ h => h) (Or.inl ⟨by rfl, fun w hSw => ?_⟩) hHeld ?_
        rotate_left
        · (skip; go_simp)
          try with_reducible rfl
        simp only [Act.put, List.setIfInBounds_toArray, List.set_cons_zero, List.set_cons_succ]
        refine take_list (i := 3) (v := ?_) rfl (by kernel_rfl) (by kernel_rfl) (by kernel_rfl) (fun _ _ _ h => h) (Or.inl ⟨by rfl, fun w hSw => ?_⟩) hHeld ?_
        rotate_left
        · (skip; go_simp)
          try with_reducible rfl
        simp only [Act.put, List.setIfInBounds_toArray, List.set_cons_zero, List.set_cons_succ]
        refine take_list (i := 5) (v := ?_) rfl (by kernel_rfl) (by kernel_rfl) (by kernel_rfl) (fun _ _ _ h => h) (Or.inl ⟨by rfl, fun w hSw => ?_⟩) hHeld ?_
        rotate_left
        · (skip; go_simp)
          try with_reducible rfl
        simp only [Act.put, List.setIfInBounds_toArray, List.set_cons_zero, List.set_cons_succ]
        refine take_list (i := 6) (v := ?_) rfl (by kernel_rfl) (by kernel_rfl) (by kernel_rfl) (fun _ _ _ h => h) (Or.inl ⟨by rfl, fun w hSw => ?_⟩) hHeld ?_
        rotate_left
        · (skip; go_simp)
          try with_reducible rfl
        simp only [Act.put, List.setIfInBounds_toArray, List.set_cons_zero, List.set_cons_succ]
        refine wpAnyH_ready (rs := [4, 7]) (by kernel_rfl) (by simp) (one_list (i := 4) rfl (by rfl) (fun K hK => ?_) (one_list (i := 7) rfl (by rfl) (fun K hK => ?_) AllReadyH.nil))
        · go_simp
          refine hK _ _ (HX0.out) (fun hH2 => ?_)
          try simp only [Act.put, List.setIfInBounds_toArray, List.set_cons_zero, List.set_cons_succ]
          refine wpAnyH_ready (rs := [7]) (by kernel_rfl) (by simp) (one_list (i := 7) rfl (by rfl) (fun K hK => ?_) AllReadyH.nil)
          go_simp
          refine hK _ _ (HXa.out) (fun hH3 => ?_)
          try simp only [Act.put, List.setIfInBounds_toArray, List.set_cons_zero, List.set_cons_succ]
          refine wpAnyH_ready (rs := [8]) (by kernel_rfl) (by simp) (one_list (i := 8) rfl (by rfl) (fun K hK => ?_) AllReadyH.nil)
          refine oper_append _ _ _ rfl rfl rfl HR3.out ?_
          refine hK _ _ (HX3.out) (fun hH4 => ?_)
          try simp only [Act.put, List.setIfInBounds_toArray, List.set_cons_zero, List.set_cons_succ]
          refine take_list (i := 9) (v := ?_) rfl (by kernel_rfl) (by kernel_rfl) (by kernel_rfl) (fun _ _ _ h => h) (Or.inl ⟨by rfl, fun w hSw => ?_⟩) hH4 ?_
          rotate_left
          · (skip; go_simp)
            try with_reducible rfl
          simp only [Act.put, List.setIfInBounds_toArray, List.set_cons_zero, List.set_cons_succ]
          refine take_list (i := 10) (v := ?_) rfl (by kernel_rfl) (by kernel_rfl) (by kernel_rfl) (fun _ _ _ h => h) (Or.inl ⟨by rfl, fun w hSw => ?_⟩) hH4 ?_
          rotate_left
          · (skip; go_simp)
            try with_reducible rfl
          simp only [Act.put, List.setIfInBounds_toArray, List.set_cons_zero, List.set_cons_succ]
          refine wpAnyH_ready (rs := [11]) (by kernel_rfl) (by simp) (one_list (i := 11) rfl (by rfl) (fun K hK => ?_) AllReadyH.nil)
          go_simp
          refine hK _ _ (HX4.out) (fun hH5 => ?_)
          try simp only [Act.put, List.setIfInBounds_toArray, List.set_cons_zero, List.set_cons_succ]
          refine wpAnyH_done (by kernel_rfl) ?_ _
          refine NoPanic.normal ?_
          clear hHeld hH2 hH3 hH4 hH5 hK k4 k4a k4b k4c j4 z4
          go_wp2_with fail
          first
            | exact ⟨⟨j + 1, by go_num, HJ.out, HL5.out⟩, by have := HJ.out; simp [intOf]; omega⟩
            | exact ⟨⟨_, _, _, _, _, _, _, _, _, _, _, _, _, _, _, _, _, ⟨j + 1, by go_num, HJ.out, HL5.out⟩, rfl⟩, by have := HJ.out; simp [intOf]; omega⟩
        · go_simp
          refine hK _ _ (HXa.out) (fun hH2 => ?_)
          try simp only [Act.put, List.setIfInBounds_toArray, List.set_cons_zero, List.set_cons_succ]
          refine wpAnyH_ready (rs := [4]) (by kernel_rfl) (by simp) (one_list (i := 4) rfl (by rfl) (fun K hK => ?_) AllReadyH.nil)
          go_simp
          refine hK _ _ (HXa.out) (fun hH3 => ?_)
          try simp only [Act.put, List.setIfInBounds_toArray, List.set_cons_zero, List.set_cons_succ]
          refine wpAnyH_ready (rs := [8]) (by kernel_rfl) (by simp) (one_list (i := 8) rfl (by rfl) (fun K hK => ?_) AllReadyH.nil)
          refine oper_append _ _ _ rfl rfl rfl HR3.out ?_
          refine hK _ _ (HX3.out) (fun hH4 => ?_)
          try simp only [Act.put, List.setIfInBounds_toArray, List.set_cons_zero, List.set_cons_succ]
          refine take_list (i := 9) (v := ?_) rfl (by kernel_rfl) (by kernel_rfl) (by kernel_rfl) (fun _ _ _ h => h) (Or.inl ⟨by rfl, fun w hSw => ?_⟩) hH4 ?_
          rotate_left
          · (skip; go_simp)
            try with_reducible rfl
          simp only [Act.put, List.setIfInBounds_toArray, List.set_cons_zero, List.set_cons_succ]
          refine take_list (i := 10) (v := ?_) rfl (by kernel_rfl) (by kernel_rfl) (by kernel_rfl) (fun _ _ _ h => h) (Or.inl ⟨by rfl, fun w hSw => ?_⟩) hH4 ?_
          rotate_left
          · (skip; go_simp)
            try with_reducible rfl
          simp only [Act.put, List.setIfInBounds_toArray, List.set_cons_zero, List.set_cons_succ]
          refine wpAnyH_ready (rs := [11]) (by kernel_rfl) (by simp) (one_list (i := 11) rfl (by rfl) (fun K hK => ?_) AllReadyH.nil)
          go_simp
          refine hK _ _ (HX4.out) (fun hH5 => ?_)
          try simp only [Act.put, List.setIfInBounds_toArray, List.set_cons_zero, List.set_cons_succ]
          refine wpAnyH_done (by kernel_rfl) ?_ _
          refine NoPanic.normal ?_
          clear hHeld hH2 hH3 hH4 hH5 hK k4 k4a k4b k4c j4 z4
          go_wp2_with fail
          first
            | exact ⟨⟨j + 1, by go_num, HJ.out, HL5.out⟩, by have := HJ.out; simp [intOf]; omega⟩
            | exact ⟨⟨_, _, _, _, _, _, _, _, _, _, _, _, _, _, _, _, _, ⟨j + 1, by go_num, HJ.out, HL5.out⟩, rfl⟩, by have := HJ.out; simp [intOf]; omega⟩
      · obtain rfl : j = rs.length := by omega
        obtain ⟨rvj, F2, hlog, hF2⟩ := HLd2.out.log
        have hlogr : LogIs wr l d F2 ⟨s, a, u, rs, [], [], 0, false⟩ rvj tv wv := by
          have := hlog
          rw [List.take_of_length_le (Nat.le_refl _)] at this
          exact this
        clear hlog
        have i5 : (N6 : Int) ≤ (capv : Int) := by omega
        obtain ⟨K, hK⟩ : ∃ K, u / 64 * 64 = K := ⟨_, rfl⟩
        have hKi : (u : Int) / 64 * 64 = (K : Int) := by omega
        have hKb : (K : Int) ≤ (u : Int) := by omega
        have HK := Lib.hid hK
        by_cases hck : capv = K
        · obtain ⟨T, hT⟩ : ∃ T, (framesB rs).drop (u / 64 * 64) = T := ⟨_, rfl⟩
          have hn6 : T.length = 0 := by rw [← hT, List.length_drop, HLu.out]; omega
          have HT := Lib.hid hT
          have hc6 : Chg (fun _ => False) wr (wr.alloc (.cells #[] 5)) := (Chg.refl _ _).alloc _
          have ho6 : (wr.alloc (.cells #[] 5)).ownsRow wr.heap.size 5 1 (.slice (some ⟨wr.heap.size, 0, none⟩) 0 0) 0 (cellsB T) := by
            rw [List.eq_nil_of_length_eq_zero hn6]
            exact own_of_block (n := 0) at1 (Nat.le_refl _) rfl (by unfold maxLen; omega)
          subst hck
          obtain rfl : capv = u := by omega
          have ho7 : (wr.alloc (.cells #[] 5)).ownsRow 0 5 1 (Value.slice (some ⟨wr.heap.size, 0, none⟩) 0 0) T.length (cellsB T) := by
            rw [hn6]
            exact own_lower ho6 (Nat.zero_le _)
          have hl6 := hlogr.kept hc6 (fun _ _ h => h)
          have k5 : (wr.alloc (.cells #[] 5)).cell? ⟨l, 5, none⟩ = some tv := hl6.head.cell rfl
          have z5 : (wr.alloc (.cells #[] 5)).frozen? ⟨l, 5, none⟩ = false := hl6.head.free
          have c3a : (wr.alloc (.cells #[] 5)).cell? ⟨l, 3, none⟩ = some (.int .i64 (capv : Nat)) := by
            have h1 : Chg (fun _ => False) wr (wr.alloc (.cells #[] 5)) := (Chg.refl _ _).alloc _
            exact h1.cell (hlogr.head.cell (i := 3) rfl) id
          obtain ⟨hl7, hc7⟩ := hl6.setTail T _ ho7
          have hnew : ∀ k, (Value.slice (some ⟨wr.heap.size, 0, none⟩) 0 0).ownBlock = some k → wr.heap.size ≤ k := fun k hk => (ho6.lt k hk).1
          have hsW := HLd2.out.chg.size
          have hC7 := (HLd2.out.chg.trans' (hc6.mono (fun _ _ h => h.elim))).trans hc7 (fun k hk e => by
            have e : k = l := e
            rw [e]
            exact HL.out.fl)
          have hF7 : ∀ k, (F2 k ∨ (Value.slice (some ⟨wr.heap.size, 0, none⟩) 0 0).ownBlock = some k) → F k ∨ w.heap.size ≤ k := fun k hk => hk.elim (hF2 k) (fun h => Or.inr (by have := hnew k h; omega))
          have hLA : LogAt ((wr.alloc (.cells #[] 5)).setCell ⟨l, 5, none⟩ (Value.slice (some ⟨wr.heap.size, 0, none⟩) 0 0)) l d (fun k => F2 k ∨ (Value.slice (some ⟨wr.heap.size, 0, none⟩) 0 0).ownBlock = some k) Fd X ⟨s, a, capv, rs, T, [], 0, false⟩ := ⟨⟨rvj, _, wv, hl7⟩, H.out.disk.kept hC7 (fun k hk hF => H.out.off k hF hk), fun k hk hF => (hF7 k hk).elim (fun h => H.out.off k h hF) (fun h => by have := H.out.disk.lt k hF; omega)⟩
          have HLA := Lib.hid hLA
          have HFC := Lib.hid (And.intro hF7 hC7)
          clear ho6 hc6 hT hn6 ho7 hl6 hl7 hc7 hnew hsW hC7 hF7 hLA hlogr hF2
          go_wp2_with fail
          go_ret2
          rw [HT.out]
          exact ⟨rfl, _, HLA.out, HFC.out.1, HFC.out.2⟩
        · have hslT : SlAt wr (.slice (some ⟨g, K, none⟩) (u - K) (capv - K)) (cellsB ((framesB rs).drop (u / 64 * 64))) := by
            have h1 := slat_sub (SlAt.of_own HLd2.out.all) g 0 K (u - K) (capv - K) rfl (by have := HN6.out; rw [bytesOf_len H64.out f k (by have := HI.out; have := HKk.out; omega)]; omega)
            rw [Nat.zero_add] at h1
            have h2 : ((bytesOf X f k).drop K).take (u - K) = (framesB rs).drop K := by rw [← HRk.out, List.drop_take]
            rw [h2, ← hK] at h1
            rw [hK] at h1
            rw [hK]
            exact h1
          have hck' : ¬ K = capv := fun e => hck e.symm
          clear hK
          obtain ⟨v6, w6, hr6, ho6, hc6⟩ := fresh_copy wr hslT (by rw [List.length_drop, HLu.out]; omega)
          obtain ⟨T, hT⟩ : ∃ T, (framesB rs).drop (u / 64 * 64) = T := ⟨_, rfl⟩
          rw [hT] at ho6
          have HT := Lib.hid hT
          obtain ⟨n6, hn6⟩ : ∃ n6, T.length = n6 := ⟨_, rfl⟩
          rw [hn6] at ho6
          obtain ⟨oa6, cap6, rfl⟩ := own_slice ho6
          have HR6 := Lib.hid hr6
          clear hr6 hslT
          have ho7 : w6.ownsRow 0 5 1 (Value.slice oa6 n6 cap6) T.length (cellsB T) := by
            rw [hn6]
            exact own_lower ho6 (Nat.zero_le _)
          have hl6 := hlogr.kept hc6 (fun _ _ h => h)
          have k5 : w6.cell? ⟨l, 5, none⟩ = some tv := hl6.head.cell rfl
          have z5 : w6.frozen? ⟨l, 5, none⟩ = false := hl6.head.free
          have c3a : (wr.alloc (.cells #[] 5)).cell? ⟨l, 3, none⟩ = some (.int .i64 (u : Nat)) := by
            have h1 : Chg (fun _ => False) wr (wr.alloc (.cells #[] 5)) := (Chg.refl _ _).alloc _
            exact h1.cell (hlogr.head.cell (i := 3) rfl) id
          obtain ⟨hl7, hc7⟩ := hl6.setTail T _ ho7
          have hnew : ∀ k, (Value.slice oa6 n6 cap6).ownBlock = some k → wr.heap.size ≤ k := fun k hk => (ho6.lt k hk).1
          have hsW := HLd2.out.chg.size
          have hC7 := (HLd2.out.chg.trans' (hc6.mono (fun _ _ h => h.elim))).trans hc7 (fun k hk e => by
            have e : k = l := e
            rw [e]
            exact HL.out.fl)
          have hF7 : ∀ k, (F2 k ∨ (Value.slice oa6 n6 cap6).ownBlock = some k) → F k ∨ w.heap.size ≤ k := fun k hk => hk.elim (hF2 k) (fun h => Or.inr (by have := hnew k h; omega))
          have hLA : LogAt (w6.setCell ⟨l, 5, none⟩ (Value.slice oa6 n6 cap6)) l d (fun k => F2 k ∨ (Value.slice oa6 n6 cap6).ownBlock = some k) Fd X ⟨s, a, u, rs, T, [], 0, false⟩ := ⟨⟨rvj, _, wv, hl7⟩, H.out.disk.kept hC7 (fun k hk hF => H.out.off k hF hk), fun k hk hF => (hF7 k hk).elim (fun h => H.out.off k h hF) (fun h => by have := H.out.disk.lt k hF; omega)⟩
          have HLA := Lib.hid hLA
          have HFC := Lib.hid (And.intro hF7 hC7)
          clear ho6 hc6 hT hn6 ho7 hl6 hl7 hc7 hnew hsW hC7 hF7 hLA hlogr hF2
          go_wp2_with (first | (at_builtin; refine Lib.wpList_append_run _ rfl _ _ _ _ rfl _ _ rfl rfl _ _ HR6.out ?_))
          go_ret2
          rw [HT.out]
          exact ⟨rfl, _, HLA.out, HFC.out.1, HFC.out.2⟩

end Go.Proofs.YtbkefhoapnaciaaGreat.wals
end

/-
  wal: begin, Open.
-/
section
set_option linter.unusedSimpArgs false
set_option linter.unusedVariables false
namespace Go.Proofs.YtbkefhoapnaciaaGreat.wals
open Go.RowKit Go.My disks bufs
set_option maxRecDepth 100000

variable {w w' : World} {l d : Nat} {F Fd : Nat → Prop} {X : DV} {V : LV} {rv tv wv : Value}

set_option maxHeartbeats 1000000 in
theorem begin_any (w : World) (h : LogAt w l d F Fd X ⟨0, 0, 0, [], [], [], 0, false⟩) (hf : X.fuse ≤ 9223372036854775807) (hL : ∀ j, (X.L j).length < 1000000) :
    Calls Tryz.prog 64 #[.pointer (some ⟨l, 0, none⟩)] w fun e w' => e = .returned (.tuple #[if (putH X 1 0 0).1 = 0 then .pointer (some ⟨l, 0, none⟩) else .pointer none, .int .i64 (putH X 1 0 0).1]) ∧
      ∃ F' Fd', LogAt w' l d F' Fd' (putH X 1 0 0).2 (putV ⟨0, 0, 0, [], [], [], 0, false⟩ (putH X 1 0 0).1 1 0 0) ∧ (∀ k, F' k → F k ∨ w.heap.size ≤ k) ∧ (∀ k, Fd' k → Fd k ∨ w.heap.size ≤ k) ∧ Chg (fun k => F k ∨ Fd k) w w' := by
  have hp := put_any w h 1 0 0 (by omega) (by omega) (by omega) hf hL
  obtain ⟨R, hR⟩ : ∃ R, putH X 1 0 0 = R := ⟨_, rfl⟩
  rw [hR] at hp ⊢
  obtain ⟨n, hn⟩ : ∃ n, R.1 = n := ⟨_, rfl⟩
  rw [hn] at hp ⊢
  have HP := Lib.hid hp
  clear hp h hf hL hR hn
  by_cases hz : n = 0
  · subst hz
    go_enter Tryz.func64, Tryz.ntmps64
    go_wp2_with (first
      | (go_at_call 79; fail))
    refine HP.out.mono ?_
    rintro e w1 ⟨rfl, F', Fd', h1, h2, h3, h4⟩
    dsimp only
    go_wp2_with fail
    go_ret2
    exact ⟨rfl, F', Fd', h1, h2, h3, h4⟩
  · have hzb : (n != 0) = true := by simp [hz]
    rw [if_neg hz]
    have HZ := Lib.hid hz
    clear hz
    go_enter Tryz.func64, Tryz.ntmps64
    go_wp2_with (first
      | (go_at_call 79; fail))
    refine HP.out.mono ?_
    rintro e w1 ⟨rfl, F', Fd', h1, h2, h3, h4⟩
    dsimp only
    go_wp2_with fail
    go_ret2
    exact ⟨rfl, F', Fd', h1, h2, h3, h4⟩

/-- What Open leaves. -/
def OpenPost (w : World) (d : Nat) (Fd : Nat → Prop) (R : Int × DV × Option LV) (e : Ending) (w' : World) : Prop :=
  ∃ Fd', (∀ k, Fd' k → Fd k ∨ w.heap.size ≤ k) ∧ Chg Fd w w' ∧ ((∃ V l F', R.2.2 = some V ∧ e = .returned (.tuple #[.pointer (some ⟨l, 0, none⟩), .int .i64 0]) ∧ LogAt w' l d F' Fd' R.2.1 V ∧ ∀ k, F' k → w.heap.size ≤ k) ∨
    (R.2.2 = none ∧ e = .returned (.tuple #[.pointer none, .int .i64 R.1]) ∧ DiskAt w' d Fd' R.2.1))

theorem read_at (w : World) (h : DiskAt w d Fd X) (hd : X.down = false) (i : Nat) (hi : i < X.B.length) (hle : X.B.length ≤ 4096) : Calls Tryz.prog 62 #[.pointer (some ⟨d, 0, none⟩), .int .i64 (i : Int)] w fun e w' => ∃ v, e = .returned (.tuple #[v, .int .i64 0]) ∧ w'.ownsRow w.heap.size 5 1 v 64 (cellsB (X.cur i)) ∧ Chg (fun _ => False) w w' := by
  obtain ⟨bv, p, mm, hdk⟩ := h
  have hask : askedC X (i : Int) = 0 := by unfold askedC; rw [hd, if_neg (by decide), if_pos ⟨by omega, by omega⟩]
  have := disks.read_any _ hdk (i : Int) ⟨by omega, by omega⟩
  rw [hask, if_pos rfl, if_pos rfl, Int.toNat_natCast] at this
  exact this

theorem wpList_yields {P : Program} {ops : Array Oper} {rest : List Oper} {op : Oper} {a : Go.Act} {w : World} {Q : Exit → Go.Act → World → Prop} {S : World → Prop} {v : Value} (hy : YieldsIf P ops S op v a) (hS : S w) (h : wpList P ops Q rest (a.put op.dst v) w) : wpList P ops Q (op :: rest) a w := by
  rcases hy with ⟨hw, hv⟩ | ⟨hw, rfl⟩
  · simp only [wpList, hw, if_true, Oper.wp, hv w hS, Oper.upon]
    exact .inl h
  · exact wpList_skip hw h

theorem forget_zeros {K : Go.Act → World → Prop} {a : Go.Act} (w3 : World) (t : TypeId) (h : ∀ wz, Arr wz w3.heap.size t (List.replicate 64 (.int .u8 0)) → Chg (fun _ => False) w3 wz → wz.heap.size = w3.heap.size + 1 → K a wz) : K a (w3.alloc (.cells (List.replicate 64 (.int .u8 0)).toArray t)).drew :=
  h _ (at1 (w := w3)) ((Chg.refl _ _).alloc _).drew (by show (w3.alloc _).heap.size = _; rw [World.size_alloc])
theorem forget_zeros' {K : Go.Act → World → Prop} {a : Go.Act} (w3 : World) (t : TypeId) (h : ∀ wz, Arr wz w3.heap.size t (List.replicate 64 (.int .u8 0)) → Chg (fun _ => False) w3 wz → wz.heap.size = w3.heap.size + 1 → K a wz) : K a (w3.alloc (.cells (List.replicate 64 (.int .u8 0)).toArray t)) :=
  h _ at1 ((Chg.refl _ _).alloc _) (by rw [World.size_alloc])
theorem _root_.Go.My.Chg.range {w w' : World} (h : Chg (fun _ => False) w w') {b o : Nat} {cs : List Value} (hr : w.rangeAt b o cs) : w'.rangeAt b o cs := fun j x hx => h.cell (hr j x hx) id

theorem log_there (hl : LogIs w l d F V rv tv wv) : w.there l 1 3 := by
  intro j hj
  have := hl.head.there (1 + j) (by simp [logC]; omega)
  simpa using this





set_option maxHeartbeats 1000000 in
theorem open_blank (w : World) (h : DiskAt w d Fd X) (hdn : X.down = false) (h6 : 6 ≤ X.B.length) (hle : X.B.length ≤ 4096) (hf : X.fuse ≤ 9223372036854775807) (hL : ∀ j, (X.L j).length < 500000) (hx : X.cur 0 = zeros 64) (hy : X.cur 1 = zeros 64) :
    Calls Tryz.prog 45 #[.pointer (some ⟨d, 0, none⟩)] w (OpenPost w d Fd (openF X)) := by
  have HXY0 := Lib.hid (And.intro hx hy)
  have hD1 : ∀ b1 b2 : Blk, X.cur 0 = b1 → X.cur 1 = b2 → decide (b1 = zeros 64) = true ∧ decide (b2 = zeros 64) = true := fun b1 b2 h1 h2 => ⟨decide_eq_true (h1 ▸ hx), decide_eq_true (h2 ▸ hy)⟩
  have HD := Lib.hid hD1
  clear hx hy hD1
  have HFL := Lib.hid (And.intro hf hL)
  have HN := Lib.hid (And.intro h6 (And.intro hle hdn))
  have H := Lib.hid h
  have HR0 := Lib.hid (read_at w h hdn 0 (by omega) hle)
  obtain ⟨n, hn⟩ : ∃ n, X.B.length = n := ⟨_, rfl⟩
  have HNn := Lib.hid hn
  have i1 : (6 : Int) ≤ n := by omega
  clear hf hL h6 hle hdn h hn
  go_enter Tryz.func45, Tryz.ntmps45
  go_wp2_with (first
    | (go_at_call 62; fail))
  refine HR0.out.mono ?_
  rintro e w1 ⟨v1, rfl, ho1, hc1⟩
  obtain ⟨oa1, cap1, rfl⟩ := own_slice ho1
  have HO1 := Lib.hid ho1
  have HC1 := Lib.hid hc1
  have hbk := blocks_any w1 (H.out.kept hc1 (fun _ _ h => h))
  rw [HNn.out] at hbk
  have HBk := Lib.hid hbk
  have HR1 := Lib.hid (read_at w1 (H.out.kept hc1 (fun _ _ h => h)) HN.out.2.2 1 (by have := HN.out; omega) HN.out.2.1)
  clear ho1 hc1 HR0 hbk
  dsimp only
  go_wp2_with (first
    | (go_at_call 63; refine HBk.out.mono ?_; rintro e w' ⟨rfl, rfl⟩)
    | (go_at_call 62; fail))
  refine HR1.out.mono ?_
  rintro e w2 ⟨v2, rfl, ho2, hc2⟩
  obtain ⟨oa2, cap2, rfl⟩ := own_slice ho2
  have HO2 := Lib.hid ho2
  have HC2 := Lib.hid hc2
  clear ho2 hc2 HR1 HBk
  dsimp only
  go_wp2_with fail
  obtain ⟨w3, hw3⟩ : ∃ w3, w2.alloc (.cells #[.pointer (some ⟨d, 0, none⟩), .int .i64 0, .int .i64 0, .int .i64 0, .slice none 0 0, .slice none 0 0, .slice none 0 0, .int .i64 0, .bool false] 119) = w3 := ⟨_, rfl⟩
  have hc3 : Chg (fun _ => False) w2 w3 := by rw [← hw3]; exact (Chg.refl _ _).alloc _
  have hlg : LogIs w3 w2.heap.size d (· = w2.heap.size) ⟨0, 0, 0, [], [], [], 0, false⟩ (.slice none 0 0) (.slice none 0 0) (.slice none 0 0) := by
    rw [← hw3]
    have hn : ∀ {g : Nat}, (Value.slice none 0 0).ownBlock = some g → False := fun h => by simp [Value.ownBlock] at h
    exact ⟨at1, ⟨rfl, Or.inl ⟨rfl, rfl⟩⟩, ⟨rfl, Or.inl ⟨rfl, rfl⟩⟩, ⟨rfl, Or.inl ⟨rfl, rfl⟩⟩, fun g h => (hn h).elim, rfl, fun g h => (hn h).elim, fun g h => (hn h).elim, fun g h => (hn h).elim, fun k hk => by rw [World.size_alloc]; have : k = w2.heap.size := hk; omega⟩
  rw [hw3]
  have HC3 := Lib.hid ((HC1.out.trans' HC2.out).trans' hc3)
  have HLg := Lib.hid hlg
  obtain ⟨b1, hb1⟩ : ∃ b1, X.cur 0 = b1 := ⟨_, rfl⟩
  obtain ⟨b2, hb2⟩ : ∃ b2, X.cur 1 = b2 := ⟨_, rfl⟩
  rw [hb1] at HO1
  rw [hb2] at HO2
  have hl1 : b1.length = 64 := by have := HO1.out.1; rw [cellsB_length] at this; omega
  have hl2 : b2.length = 64 := by have := HO2.out.1; rw [cellsB_length] at this; omega
  obtain ⟨g1, cc1, e1, hg1, hg1'⟩ := own_nonnil HO1.out (by intro e; rw [e] at hl1; simp at hl1)
  obtain ⟨g2, cc2, e2, hg2, hg2'⟩ := own_nonnil HO2.out (by intro e; rw [e] at hl2; simp at hl2)
  simp only [Value.slice.injEq] at e1 e2
  obtain ⟨rfl, -, rfl⟩ := e1
  obtain ⟨rfl, -, rfl⟩ := e2
  have hrg1 := own_range (own_kept HO1.out (HC2.out.trans' hc3))
  have hrg2 := own_range (own_kept HO2.out hc3)
  have HG1 := Lib.hid hrg1
  have HG2 := Lib.hid hrg2
  have hz1 : (cellsB b1).length = 64 := by rw [cellsB_length, hl1]
  have hz2 : (cellsB b2).length = 64 := by rw [cellsB_length, hl2]
  have HZ1 := Lib.hid (show (Tryz.prog.info? 120).map (·.size) = some (cellsB b1).length by rw [hz1]; exact size_wblock)
  have HZ2 := Lib.hid (show (Tryz.prog.info? 120).map (·.size) = some (cellsB b2).length by rw [hz2]; exact size_wblock)
  have HB := Lib.hid (And.intro hb1 (And.intro hb2 (And.intro hl1 hl2)))
  have HD1 := Lib.hid (HD.out b1 b2 hb1 hb2).1
  have HD2 := Lib.hid (HD.out b1 b2 hb1 hb2).2
  have HSz := Lib.hid (show g1 < w2.heap.size ∧ g2 < w2.heap.size from ⟨Nat.lt_of_lt_of_le hg1' HC2.out.size, hg2'⟩)
  clear hw3 hc3 hlg hb1 hb2 hl1 hl2 hg1 hg1' hg2 hg2' hrg1 hrg2 hz1 hz2
  have hsa1 : ∀ w', (Instr.arrayAt 120 (.slice (some ⟨g1, 0, none⟩) 64 cap1)).run Tryz.prog w' = .ok (.pointer (some ⟨g1, 0, none⟩)) w' := fun w' => run_arrayAt _ _ _ 64 _ _ _ Tryz.underlying120 (by omega)
  have hsa2 : ∀ w', (Instr.arrayAt 120 (.slice (some ⟨g2, 0, none⟩) 64 cap2)).run Tryz.prog w' = .ok (.pointer (some ⟨g2, 0, none⟩)) w' := fun w' => run_arrayAt _ _ _ 64 _ _ _ Tryz.underlying120 (by omega)
  refine wp_region_noPanic ?_
  refine wp_region_held_drew (S := (fun w' => w'.rangeAt g1 0 (cellsB b1) ∧ w'.rangeAt g2 0 (cellsB b2))) (by kernel_rfl) (⟨HG1.out, HG2.out⟩) (fun hHeld => ?_)
  refine take_list (i := 0) (v := ?_) rfl (by kernel_rfl) (by kernel_rfl) (by kernel_rfl) (fun _ _ _ h => h) (Or.inl ⟨by rfl, fun w hSw => ?_⟩) hHeld ?_
  rotate_left
  · (skip; go_simp)
    try with_reducible rfl
  simp only [Act.put, List.setIfInBounds_toArray, List.set_cons_zero, List.set_cons_succ]
  refine take_list (i := 1) (v := ?_) rfl (by kernel_rfl) (by kernel_rfl) (by kernel_rfl) (fun _ _ _ h => h) (Or.inl ⟨by rfl, fun w hSw => ?_⟩) hHeld ?_
  rotate_left
  · (skip; go_simp)
    try with_reducible rfl
  simp only [Act.put, List.setIfInBounds_toArray, List.set_cons_zero, List.set_cons_succ]
  refine take_list (i := 2) rfl (by kernel_rfl) (by kernel_rfl) (by kernel_rfl) (fun _ _ _ h => h) ((yieldsIf_load_mid (by rfl) _ _ rfl _ _ rfl (cellsB b1) _ (fun w h => h.1) Tryz.underlying120 rfl HZ1.out)) hHeld ?_
  simp only [Act.put, List.setIfInBounds_toArray, List.set_cons_zero, List.set_cons_succ]
  refine take_list (i := 3) (v := ?_) rfl (by kernel_rfl) (by kernel_rfl) (by kernel_rfl) (fun _ _ _ h => h) (Or.inl ⟨by rfl, fun w hSw => ?_⟩) hHeld ?_
  rotate_left
  · (skip; go_simp)
    try with_reducible rfl
  simp only [Act.put, List.setIfInBounds_toArray, List.set_cons_zero, List.set_cons_succ]
  refine take_list (i := 4) (v := ?_) rfl (by kernel_rfl) (by kernel_rfl) (by kernel_rfl) (fun _ _ _ h => h) (Or.inl ⟨by rfl, fun w hSw => ?_⟩) hHeld ?_
  rotate_left
  · (skip; go_simp)
    try with_reducible rfl
  simp only [Act.put, List.setIfInBounds_toArray, List.set_cons_zero, List.set_cons_succ]
  refine take_list (i := 5) rfl (by kernel_rfl) (by kernel_rfl) (by kernel_rfl) (fun _ _ _ h => h) ((yieldsIf_load_mid (by rfl) _ _ rfl _ _ rfl (cellsB b2) _ (fun w h => h.2) Tryz.underlying120 rfl HZ2.out)) hHeld ?_
  simp only [Act.put, List.setIfInBounds_toArray, List.set_cons_zero, List.set_cons_succ]
  refine wpAnyH_ready (rs := [6, 7]) (by kernel_rfl) (by simp) (one_list (i := 6) rfl (by rfl) (fun K hK => ?_) (one_list (i := 7) rfl (by rfl) (fun K hK => ?_) AllReadyH.nil))
  · go_simp
    refine forget_zeros w3 _ (fun wz hZ hcz hsz => ?_)
    have HZa := Lib.hid hZ
    have hcz3 := hcz
    refine hK _ _ (⟨hcz.range HG1.out, hcz.range HG2.out⟩) (fun hH2 => ?_)
    try simp only [Act.put, List.setIfInBounds_toArray, List.set_cons_zero, List.set_cons_succ]
    refine wpAnyH_ready (rs := [7]) (by kernel_rfl) (by simp) (one_list (i := 7) rfl (by rfl) (fun K hK => ?_) AllReadyH.nil)
    go_simp
    refine forget_zeros' wz _ (fun wy hY hcy hsy => ?_)
    have hcw : Chg (fun _ => False) w3 wy := hcz.trans' hcy
    rw [hsz] at hY
    refine hK _ _ (⟨hcw.range HG1.out, hcw.range HG2.out⟩) (fun hH3 => ?_)
    try simp only [Act.put, List.setIfInBounds_toArray, List.set_cons_zero, List.set_cons_succ]
    have hZx : Arr wy w3.heap.size 120 (List.replicate 64 (.int .u8 0)) := by first | exact hY | exact hcy.at hZ id
    have hZy : Arr wy (w3.heap.size + 1) 120 (List.replicate 64 (.int .u8 0)) := by first | exact hY | exact hcy.at hZ id
    have hxy : w3.heap.size ≠ (w3.heap.size + 1) := by omega
    have hbx : w3.heap.size ≤ w3.heap.size ∧ w3.heap.size ≤ (w3.heap.size + 1) := by omega
    have s1 := Arr.store hZx (vs := cellsB b1) (by rw [List.length_replicate, cellsB_length]; exact HB.out.2.2.1)
    have s2 := Arr.store (s1.chg.at hZy (by omega)) (vs := cellsB b2) (by rw [List.length_replicate, cellsB_length]; exact HB.out.2.2.2)
    have t1 := Arr.there hZx
    have t2 := Arr.there (s1.chg.at hZy (by omega) : Arr _ _ _ _)
    rw [List.length_replicate, ← HB.out.2.2.1, ← cellsB_length] at t1
    rw [List.length_replicate, ← HB.out.2.2.2, ← cellsB_length] at t2
    have hAx := s2.chg.at s1.arr (by omega)
    have hAy := s2.arr
    have hc45 : Chg (fun _ => False) w3 ((wy.setCells w3.heap.size 0 (cellsB b1)).setCells (w3.heap.size + 1) 0 (cellsB b2)) := (hcw.new s1.chg (fun i e => by have e : i = w3.heap.size := e; omega)).new s2.chg (fun i e => by have e : i = (w3.heap.size + 1) := e; omega)
    have hc44 : Chg (fun _ => False) w3 (wy.setCells w3.heap.size 0 (cellsB b1)) := hcw.new s1.chg (fun i e => by have e : i = w3.heap.size := e; omega)
    refine wpAnyH_ready (rs := [8]) (by kernel_rfl) (by simp) (one_list (i := 8) rfl (by rfl) (fun K hK => ?_) AllReadyH.nil)
    refine wp_store_mid 120 _ _ rfl (w3.heap.size) 0 (cellsB b1).toArray rfl rfl t1 HZ1.out (all_oneCell_toArray (one_cellsB b1)) ?_
    rw [List.toList_toArray]
    refine hK _ _ ⟨hc44.range HG1.out, hc44.range HG2.out⟩ (fun hH4 => ?_)
    try simp only [Act.put, List.setIfInBounds_toArray, List.set_cons_zero, List.set_cons_succ]
    refine wpAnyH_ready (rs := [9]) (by kernel_rfl) (by simp) (one_list (i := 9) rfl (by rfl) (fun K hK => ?_) AllReadyH.nil)
    refine wp_store_mid 120 _ _ rfl ((w3.heap.size + 1)) 0 (cellsB b2).toArray rfl rfl t2 HZ2.out (all_oneCell_toArray (one_cellsB b2)) ?_
    rw [List.toList_toArray]
    refine hK _ _ ⟨hc45.range HG1.out, hc45.range HG2.out⟩ (fun hH5 => ?_)
    try simp only [Act.put, List.setIfInBounds_toArray, List.set_cons_zero, List.set_cons_succ]
    refine wpAnyH_done (by kernel_rfl) ?_ _
    refine NoPanic.normal ?_
    obtain ⟨wE, hwE⟩ : ∃ wE, (wy.setCells w3.heap.size 0 (cellsB b1)).setCells (w3.heap.size + 1) 0 (cellsB b2) = wE := ⟨_, rfl⟩
    rw [hwE] at hAx hAy hc45 ⊢
    have HAx := Lib.hid hAx
    have HAy := Lib.hid hAy
    have HC5 := Lib.hid hc45
    have HXY := Lib.hid (And.intro hxy hbx)
    clear hHeld hH2 hH3 hH4 hH5 hK s1 s2 t1 t2 hAx hAy hc45 hc44 hwE hxy hbx hZx hZy hcw hZ hY hcz hcz3 hcy hsy hsz HZa hsa1 hsa2
    have HEg := Lib.hid (show Tryz.prog.eqGuardType Tryz.prog.depth 120 = false by kernel_rfl)
    go_wp2_with (first
      | (refine wpList_yields (S := fun w' => w' = wE) (yieldsIf_load_mid (by rfl) 120 _ rfl (w3.heap.size) 0 rfl (cellsB b1) _ (fun w h => h ▸ Arr.range HAx.out) Tryz.underlying120 rfl HZ1.out) rfl ?_)
      | (refine wpList_yields (S := fun w' => w' = wE) (yieldsIf_load_mid (by rfl) 120 _ rfl ((w3.heap.size + 1)) 0 rfl (cellsB b2) _ (fun w h => h ▸ Arr.range HAy.out) Tryz.underlying120 rfl HZ2.out) rfl ?_)
      | (refine wpList_yields (S := fun _ => True) (yieldsIf_eql_block (by rfl) _ _ _ rfl b1 (zeros 64) rfl rfl Tryz.underlying120 HB.out.2.2.1 rfl HEg.out) trivial ?_; rw [HD1.out])
      | (refine wpList_yields (S := fun _ => True) (yieldsIf_eql_block (by rfl) _ _ _ rfl b2 (zeros 64) rfl rfl Tryz.underlying120 HB.out.2.2.2 rfl HEg.out) trivial ?_; rw [HD2.out])
      | (go_at_call 64; fail))
    have hszw : w.heap.size ≤ w2.heap.size := (HC1.out.trans' HC2.out).size
    have hla : LogAt wE w2.heap.size d (· = w2.heap.size) Fd X ⟨0, 0, 0, [], [], [], 0, false⟩ := ⟨⟨_, _, _, HLg.out.kept HC5.out (fun _ _ h => h)⟩, H.out.kept (HC3.out.trans' HC5.out) (fun _ _ h => h), fun k hk hF => by
      have hk : k = w2.heap.size := hk
      have := H.out.lt k hF
      omega⟩
    have hbg := begin_any wE hla HFL.out.1 (fun j => by have := HFL.out.2 j; omega)
    obtain ⟨R, hR⟩ : ∃ R, putH X 1 0 0 = R := ⟨_, rfl⟩
    rw [hR] at hbg
    obtain ⟨n0, hn0⟩ : ∃ n0, R.1 = n0 := ⟨_, rfl⟩
    rw [hn0] at hbg
    obtain ⟨pv, hpv⟩ : ∃ pv, (if n0 = 0 then Value.pointer (some ⟨w2.heap.size, 0, none⟩) else Value.pointer none) = pv := ⟨_, rfl⟩
    rw [hpv] at hbg
    have hopen : openF X = if n0 ≠ 0 then (n0, R.2, none) else (0, R.2, some ⟨1, 0, 0, [], [], [], 0, false⟩) := by
      unfold openF
      rw [HN.out.2.2, if_neg (by decide), if_neg (by have := HN.out.1; omega), if_pos HXY0.out, hR, hn0]
    have HOp := Lib.hid hopen
    have HPv := Lib.hid hpv
    have HSw := Lib.hid hszw
    refine hbg.mono ?_
    rintro e w6 ⟨rfl, F', Fd', h1, h2, h3, h4⟩
    have HH := Lib.hid (And.intro h1 (And.intro h2 (And.intro h3 h4)))
    clear h1 h2 h3 h4 hbg hla hR hn0 hpv hopen hszw
    dsimp only
    go_wp2_with fail
    go_ret2
    rw [HOp.out]
    have hsE := (HC3.out.trans' HC5.out).size
    have hc : Chg Fd w w6 := ((HC3.out.trans' HC5.out).mono (fun _ _ h => h.elim)).trans HH.out.2.2.2 (fun k hk h => h.elim (fun e => by have e : k = w2.heap.size := e; have := HSw.out; omega) id)
    refine ⟨Fd', fun k hk => (HH.out.2.2.1 k hk).imp id (fun h => by omega), hc, ?_⟩
    by_cases hz : n0 = 0
    · rw [if_neg (fun h => h hz)]
      refine Or.inl ⟨_, w2.heap.size, F', rfl, ?_, ?_, fun k hk => (HH.out.2.1 k hk).elim (fun e => by have e : k = w2.heap.size := e; have := HSw.out; omega) (fun h => by omega)⟩
      · rw [← HPv.out, if_pos hz, hz]
        rfl
      · have h1 := HH.out.1
        unfold putV at h1
        rw [if_pos hz] at h1
        exact h1
    · rw [if_pos hz]
      exact Or.inr ⟨rfl, by rw [← HPv.out, if_neg hz]; rfl, HH.out.1.disk⟩
  · go_simp
    refine forget_zeros w3 _ (fun wz hZ hcz hsz => ?_)
    have HZa := Lib.hid hZ
    have hcz3 := hcz
    refine hK _ _ (⟨hcz.range HG1.out, hcz.range HG2.out⟩) (fun hH2 => ?_)
    try simp only [Act.put, List.setIfInBounds_toArray, List.set_cons_zero, List.set_cons_succ]
    refine wpAnyH_ready (rs := [6]) (by kernel_rfl) (by simp) (one_list (i := 6) rfl (by rfl) (fun K hK => ?_) AllReadyH.nil)
    go_simp
    refine forget_zeros' wz _ (fun wy hY hcy hsy => ?_)
    have hcw : Chg (fun _ => False) w3 wy := hcz.trans' hcy
    rw [hsz] at hY
    refine hK _ _ (⟨hcw.range HG1.out, hcw.range HG2.out⟩) (fun hH3 => ?_)
    try simp only [Act.put, List.setIfInBounds_toArray, List.set_cons_zero, List.set_cons_succ]
    have hZx : Arr wy (w3.heap.size + 1) 120 (List.replicate 64 (.int .u8 0)) := by first | exact hY | exact hcy.at hZ id
    have hZy : Arr wy w3.heap.size 120 (List.replicate 64 (.int .u8 0)) := by first | exact hY | exact hcy.at hZ id
    have hxy : (w3.heap.size + 1) ≠ w3.heap.size := by omega
    have hbx : w3.heap.size ≤ (w3.heap.size + 1) ∧ w3.heap.size ≤ w3.heap.size := by omega
    have s1 := Arr.store hZx (vs := cellsB b1) (by rw [List.length_replicate, cellsB_length]; exact HB.out.2.2.1)
    have s2 := Arr.store (s1.chg.at hZy (by omega)) (vs := cellsB b2) (by rw [List.length_replicate, cellsB_length]; exact HB.out.2.2.2)
    have t1 := Arr.there hZx
    have t2 := Arr.there (s1.chg.at hZy (by omega) : Arr _ _ _ _)
    rw [List.length_replicate, ← HB.out.2.2.1, ← cellsB_length] at t1
    rw [List.length_replicate, ← HB.out.2.2.2, ← cellsB_length] at t2
    have hAx := s2.chg.at s1.arr (by omega)
    have hAy := s2.arr
    have hc45 : Chg (fun _ => False) w3 ((wy.setCells (w3.heap.size + 1) 0 (cellsB b1)).setCells w3.heap.size 0 (cellsB b2)) := (hcw.new s1.chg (fun i e => by have e : i = (w3.heap.size + 1) := e; omega)).new s2.chg (fun i e => by have e : i = w3.heap.size := e; omega)
    have hc44 : Chg (fun _ => False) w3 (wy.setCells (w3.heap.size + 1) 0 (cellsB b1)) := hcw.new s1.chg (fun i e => by have e : i = (w3.heap.size + 1) := e; omega)
    refine wpAnyH_ready (rs := [8]) (by kernel_rfl) (by simp) (one_list (i := 8) rfl (by rfl) (fun K hK => ?_) AllReadyH.nil)
    refine wp_store_mid 120 _ _ rfl ((w3.heap.size + 1)) 0 (cellsB b1).toArray rfl rfl t1 HZ1.out (all_oneCell_toArray (one_cellsB b1)) ?_
    rw [List.toList_toArray]
    refine hK _ _ ⟨hc44.range HG1.out, hc44.range HG2.out⟩ (fun hH4 => ?_)
    try simp only [Act.put, List.setIfInBounds_toArray, List.set_cons_zero, List.set_cons_succ]
    refine wpAnyH_ready (rs := [9]) (by kernel_rfl) (by simp) (one_list (i := 9) rfl (by rfl) (fun K hK => ?_) AllReadyH.nil)
    refine wp_store_mid 120 _ _ rfl (w3.heap.size) 0 (cellsB b2).toArray rfl rfl t2 HZ2.out (all_oneCell_toArray (one_cellsB b2)) ?_
    rw [List.toList_toArray]
    refine hK _ _ ⟨hc45.range HG1.out, hc45.range HG2.out⟩ (fun hH5 => ?_)
    try simp only [Act.put, List.setIfInBounds_toArray, List.set_cons_zero, List.set_cons_succ]
    refine wpAnyH_done (by kernel_rfl) ?_ _
    refine NoPanic.normal ?_
    obtain ⟨wE, hwE⟩ : ∃ wE, (wy.setCells (w3.heap.size + 1) 0 (cellsB b1)).setCells w3.heap.size 0 (cellsB b2) = wE := ⟨_, rfl⟩
    rw [hwE] at hAx hAy hc45 ⊢
    have HAx := Lib.hid hAx
    have HAy := Lib.hid hAy
    have HC5 := Lib.hid hc45
    have HXY := Lib.hid (And.intro hxy hbx)
    clear hHeld hH2 hH3 hH4 hH5 hK s1 s2 t1 t2 hAx hAy hc45 hc44 hwE hxy hbx hZx hZy hcw hZ hY hcz hcz3 hcy hsy hsz HZa hsa1 hsa2
    have HEg := Lib.hid (show Tryz.prog.eqGuardType Tryz.prog.depth 120 = false by kernel_rfl)
    go_wp2_with (first
      | (refine wpList_yields (S := fun w' => w' = wE) (yieldsIf_load_mid (by rfl) 120 _ rfl ((w3.heap.size + 1)) 0 rfl (cellsB b1) _ (fun w h => h ▸ Arr.range HAx.out) Tryz.underlying120 rfl HZ1.out) rfl ?_)
      | (refine wpList_yields (S := fun w' => w' = wE) (yieldsIf_load_mid (by rfl) 120 _ rfl (w3.heap.size) 0 rfl (cellsB b2) _ (fun w h => h ▸ Arr.range HAy.out) Tryz.underlying120 rfl HZ2.out) rfl ?_)
      | (refine wpList_yields (S := fun _ => True) (yieldsIf_eql_block (by rfl) _ _ _ rfl b1 (zeros 64) rfl rfl Tryz.underlying120 HB.out.2.2.1 rfl HEg.out) trivial ?_; rw [HD1.out])
      | (refine wpList_yields (S := fun _ => True) (yieldsIf_eql_block (by rfl) _ _ _ rfl b2 (zeros 64) rfl rfl Tryz.underlying120 HB.out.2.2.2 rfl HEg.out) trivial ?_; rw [HD2.out])
      | (go_at_call 64; fail))
    have hszw : w.heap.size ≤ w2.heap.size := (HC1.out.trans' HC2.out).size
    have hla : LogAt wE w2.heap.size d (· = w2.heap.size) Fd X ⟨0, 0, 0, [], [], [], 0, false⟩ := ⟨⟨_, _, _, HLg.out.kept HC5.out (fun _ _ h => h)⟩, H.out.kept (HC3.out.trans' HC5.out) (fun _ _ h => h), fun k hk hF => by
      have hk : k = w2.heap.size := hk
      have := H.out.lt k hF
      omega⟩
    have hbg := begin_any wE hla HFL.out.1 (fun j => by have := HFL.out.2 j; omega)
    obtain ⟨R, hR⟩ : ∃ R, putH X 1 0 0 = R := ⟨_, rfl⟩
    rw [hR] at hbg
    obtain ⟨n0, hn0⟩ : ∃ n0, R.1 = n0 := ⟨_, rfl⟩
    rw [hn0] at hbg
    obtain ⟨pv, hpv⟩ : ∃ pv, (if n0 = 0 then Value.pointer (some ⟨w2.heap.size, 0, none⟩) else Value.pointer none) = pv := ⟨_, rfl⟩
    rw [hpv] at hbg
    have hopen : openF X = if n0 ≠ 0 then (n0, R.2, none) else (0, R.2, some ⟨1, 0, 0, [], [], [], 0, false⟩) := by
      unfold openF
      rw [HN.out.2.2, if_neg (by decide), if_neg (by have := HN.out.1; omega), if_pos HXY0.out, hR, hn0]
    have HOp := Lib.hid hopen
    have HPv := Lib.hid hpv
    have HSw := Lib.hid hszw
    refine hbg.mono ?_
    rintro e w6 ⟨rfl, F', Fd', h1, h2, h3, h4⟩
    have HH := Lib.hid (And.intro h1 (And.intro h2 (And.intro h3 h4)))
    clear h1 h2 h3 h4 hbg hla hR hn0 hpv hopen hszw
    dsimp only
    go_wp2_with fail
    go_ret2
    rw [HOp.out]
    have hsE := (HC3.out.trans' HC5.out).size
    have hc : Chg Fd w w6 := ((HC3.out.trans' HC5.out).mono (fun _ _ h => h.elim)).trans HH.out.2.2.2 (fun k hk h => h.elim (fun e => by have e : k = w2.heap.size := e; have := HSw.out; omega) id)
    refine ⟨Fd', fun k hk => (HH.out.2.2.1 k hk).imp id (fun h => by omega), hc, ?_⟩
    by_cases hz : n0 = 0
    · rw [if_neg (fun h => h hz)]
      refine Or.inl ⟨_, w2.heap.size, F', rfl, ?_, ?_, fun k hk => (HH.out.2.1 k hk).elim (fun e => by have e : k = w2.heap.size := e; have := HSw.out; omega) (fun h => by omega)⟩
      · rw [← HPv.out, if_pos hz, hz]
        rfl
      · have h1 := HH.out.1
        unfold putV at h1
        rw [if_pos hz] at h1
        exact h1
    · rw [if_pos hz]
      exact Or.inr ⟨rfl, by rw [← HPv.out, if_neg hz]; rfl, HH.out.1.disk⟩




end Go.Proofs.YtbkefhoapnaciaaGreat.wals
end

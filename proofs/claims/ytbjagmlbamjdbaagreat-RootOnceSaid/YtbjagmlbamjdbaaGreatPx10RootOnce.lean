/- . -/
import Derived.Test.YtbjagmlbamjdbaaGreatPx1RootOnce
import Derived.Test.YtbjagmlbamjdbaaGreatPx5RootOnce
import Derived.Test.YtbjagmlbamjdbaaGreatPx9RootOnce

set_option linter.unusedSimpArgs false
set_option linter.unusedVariables false
section
namespace Go.Proofs.YtbjagmlbamjdbaaGreat.wals
open Go.RowKit Go.My disks bufs
set_option maxRecDepth 100000

theorem frame_parts (r rest : Blk) (h : r.length ≤ 4096) : ofLe ((frameB r ++ rest).take 4) = r.length ∧ ((frameB r ++ rest).drop 4).take r.length = r ∧ ofLe (((frameB r ++ rest).drop (4 + r.length)).take 4) = crcF ((frameB r ++ rest).take (4 + r.length)) := by
  have e4 : (frameB r ++ rest).take 4 = le4 r.length := by
    unfold frameB
    simp only [List.append_assoc]
    rw [List.take_append_of_le_length (by simp [le4_length]), List.take_of_length_le (by simp [le4_length])]
  have eo : ofLe (le4 r.length) = r.length := ofLe_le4 _ (by omega)
  have e1 : (frameB r ++ rest).drop 4 = r ++ (le4 (crcF (le4 r.length ++ r)) ++ rest) := by
    unfold frameB
    simp only [List.append_assoc]
    rw [List.drop_append_of_le_length (by simp [le4_length]), List.drop_eq_nil_of_le (by simp [le4_length]), List.nil_append]
  have e2 : (frameB r ++ rest).take (4 + r.length) = le4 r.length ++ r := by
    unfold frameB
    rw [List.append_assoc, List.take_append_of_le_length (by simp [le4_length]), List.take_of_length_le (by simp [le4_length])]
  have e3 : ((frameB r ++ rest).drop (4 + r.length)).take 4 = le4 (crcF (le4 r.length ++ r)) := by
    unfold frameB
    rw [List.append_assoc, List.drop_append_of_le_length (by simp [le4_length]), List.drop_eq_nil_of_le (by simp [le4_length]), List.nil_append, List.take_append_of_le_length (by simp [le4_length]), List.take_of_length_le (by simp [le4_length])]
  refine ⟨by rw [e4, eo], by rw [e1, List.take_append_of_le_length (Nat.le_refl _), List.take_of_length_le (Nat.le_refl _)], by rw [e3, e2, ofLe_le4 _ (crcF_lt _)]⟩

theorem framesB_at {rs : List Blk} {k : Nat} {r : Blk} (h : rs[k]? = some r) : (framesB rs).drop (framesB (rs.take k)).length = frameB r ++ framesB (rs.drop (k + 1)) := by
  have h1 : framesB rs = framesB (rs.take k) ++ framesB (rs.drop k) := by rw [← framesB_append, List.take_append_drop]
  have h2 : rs.drop k = r :: rs.drop (k + 1) := by
    rw [List.drop_eq_getElem_cons (by exact (List.getElem?_eq_some_iff.1 h).1)]
    congr 1
    exact (List.getElem?_eq_some_iff.1 h).2
  rw [← framesB_cons, ← h2, h1, List.drop_left]

theorem framesB_take' {rs : List Blk} {k : Nat} {r : Blk} (h : rs[k]? = some r) : framesB (rs.take (k + 1)) = framesB (rs.take k) ++ frameB r := by
  rw [List.take_add_one, h, Option.toList_some, framesB_append]
  simp [framesB]

theorem info_bytes : (Tryz.prog.info? 101).map (fun i => (i.zero, i.size, i.bytes)) = some (some (.slice none 0 0), 1, 24) := by kernel_rfl

theorem append_slices {w : World} {base n : Nat} {v : Value} {xs ys : List Value} {oa : Option Addr} {m cap : Nat} (h : w.ownsRow base 101 1 v n xs) (hs : SlAt w (.slice oa m cap) ys) (h1 : ∀ y ∈ ys, y.oneCell' = true) (hb : base ≤ w.heap.size) (hl : xs.length + ys.length ≤ 1099511627776) (ty : TypeId) :
    ∃ v' w', (Builtin.append_ #[227, 227] ty #[v, .slice oa m cap]).run Tryz.prog w = .ok v' w' ∧ w'.ownsRow base 101 1 v' (xs ++ ys).length (xs ++ ys) ∧ w.grownBy w' v.ownBlock ∧ (v'.ownBlock = v.ownBlock ∨ v'.ownBlock = some w.heap.size) := by
  obtain ⟨i, hi, hz, hsz, hby⟩ := info_parts info_bytes
  exact append_cells Tryz.underlying227 hi hz hsz hby rfl h hs h1 hb (by omega) (by omega) ty

structure Bodies (w : World) (base : Nat) (v : Value) (rs : List Blk) (vs : List Value) : Prop where
  list : w.ownsRow base 101 1 v rs.length vs
  body : ∀ (i : Nat) (r : Blk), rs[i]? = some r → ∃ x, vs[i]? = some x ∧ w.ownsRow base 5 1 x r.length (cellsB r)

set_option maxHeartbeats 1000000 in
theorem all_any (w : World) (oa : Option Addr) (n cap : Nat) (rs : List Blk) (hs : SlAt w (.slice oa n cap) (cellsB (framesB rs))) (hsh : ∀ r ∈ rs, r.length ≤ 4096) (hb : (framesB rs).length ≤ 1000000) (hcap : (framesB rs).length ≤ cap) :
    Calls Tryz.prog 154 #[.slice oa n cap] w fun e w' => ∃ v vs, e = .returned (.tuple #[v, .int .i64 ((framesB rs).length : Int), .int .i64 0]) ∧ Bodies w' w.heap.size v rs vs ∧ Chg (fun _ => False) w w' := by
  obtain rfl := slat_len hs
  obtain ⟨B, hB⟩ : ∃ B, framesB rs = B := ⟨_, rfl⟩
  rw [hB] at hs hb hcap ⊢
  have HS := Lib.hid hs
  have HB := Lib.hid hB
  have HSh := Lib.hid hsh
  have HN := Lib.hid (And.intro hb hcap)
  have i1 : (B.length : Int) ≤ 1000000 := by omega
  have i2 : (B.length : Int) ≤ (cap : Int) := by omega
  clear hs hb hcap hsh hB
  go_enter Tryz.func154, Tryz.ntmps154
  go_wp2_with fail
  go_loopw [5, 6] (fun v p wr => ∃ (k P : Nat) (vs : List Value), p = .int .i64 (P : Int) ∧ P = (framesB (rs.take k)).length ∧ k ≤ rs.length ∧ Bodies wr w.heap.size v (rs.take k) vs ∧ Chg (fun _ => False) w wr) (fun _ p _ => B.length - (intOf p).toNat)
  · exact ⟨0, 0, [], rfl, rfl, Nat.zero_le _, ⟨⟨rfl, Or.inl ⟨rfl, rfl⟩⟩, fun i r h => by simp at h⟩, Chg.refl _ _⟩
  obtain ⟨k, P, vs, rfl, hP, hk, hbo, hc⟩ := hrel
  have HP := Lib.hid hP
  have HBo := Lib.hid hbo
  have HC := Lib.hid hc
  obtain ⟨oav, capv, rfl⟩ := own_slice hbo.list
  clear hP hbo hc
  by_cases hlt : k < rs.length
  · obtain ⟨r, hr⟩ : ∃ r, rs[k]? = some r := ⟨rs[k], List.getElem?_eq_getElem hlt⟩
    have hat := framesB_at hr
    rw [HB.out, ← HP.out] at hat
    have hfl := frameB_length r
    have hBl : P + r.length + 8 ≤ B.length := by
      have := congrArg List.length hat
      rw [List.length_drop, List.length_append, hfl] at this
      omega
    have hPl : (P : Int) + (r.length : Int) + 8 ≤ (B.length : Int) := by omega
    have hr4 := HSh.out r (List.mem_of_getElem? hr)
    obtain ⟨f1, f2, f3⟩ := frame_parts r (framesB (rs.drop (k + 1))) hr4
    rw [← hat] at f1 f2 f3
    have hs1 := HS.out.kept HC.out
    obtain ⟨g, off, rfl⟩ : ∃ g off, oa = some ⟨g, off, none⟩ := by
      obtain ⟨oa', cap', e1, e2, e3⟩ := hs1
      simp only [Value.slice.injEq] at e1
      rw [e1.1]
      exact e2 (by intro e; have := congrArg List.length e; rw [cellsB_length] at this; simp at this; rw [this] at hBl; simp at hBl)
    have hs2 := slat_sub hs1 g off P (B.length - P) (cap - P) rfl (by omega)
    rw [List.take_of_length_le (by rw [List.length_drop]; omega)] at hs2
    have hfr := frame_read wr _ _ _ (B.drop P) r hs2 (by rw [List.length_drop]; have := HN.out; omega) (by rw [List.length_drop]; have := HN.out; omega) (by rw [List.length_drop]; omega) hr4 f1 (by rw [List.length_drop]; omega) f2 f3
    have hcP : ¬ cap = P := by omega
    have HFr := Lib.hid hfr
    have HR := Lib.hid hr
    have HRl := Lib.hid hr4
    have HK := Lib.hid hlt
    clear hat hfl hBl f1 f2 f3 hs1 hs2 hfr hr hr4
    go_wp2_with (first
      | (go_at_call 179; fail))
    refine HFr.out.mono ?_
    rintro e w1 ⟨x, rfl, hx1, hc1⟩
    obtain ⟨oax, capx, rfl⟩ := own_slice hx1
    have HX1 := Lib.hid hx1
    have HC1 := Lib.hid hc1
    have hc2 : Chg (fun _ => False) w1 (w1.alloc (.cells #[.slice oax r.length capx] 101)) := (Chg.refl _ _).alloc _
    have hs2 : SlAt (w1.alloc (.cells #[.slice oax r.length capx] 101)) (.slice (some ⟨w1.heap.size, 0, none⟩) 1 1) [.slice oax r.length capx] := SlAt.of_own (own_of_block (base := 0) (n := 1) at1 (Nat.zero_le _) rfl (by unfold maxLen; omega))
    have hrl : rs.length ≤ 1000000 := by have := sizeB_ge rs; rw [← framesB_length, HB.out] at this; have := HN.out; omega
    have hvl : vs.length = k := by have := HBo.out.list.1; rw [List.length_take] at this; have := HK.out; omega
    have hl1 := own_kept HBo.out.list (hc1.trans' hc2)
    obtain ⟨v3, w3, hr3, ho3, hg3, -⟩ := append_slices hl1 hs2 (fun y hy => by rw [List.mem_singleton] at hy; subst hy; rfl) (by have := (HC.out.trans' hc1).size; rw [World.size_alloc]; omega) (by rw [hvl]; simp; omega) 227
    rw [show (vs ++ [Value.slice oax r.length capx]).length = k + 1 by rw [List.length_append, hvl]; rfl] at ho3
    have hc3 := Chg.of_grown hg3
    have HR3 := Lib.hid hr3
    have hb3 : Bodies w3 w.heap.size v3 (rs.take (k + 1)) (vs ++ [.slice oax r.length capx]) := by
      refine ⟨?_, fun i r' hi => ?_⟩
      · rw [show (rs.take (k + 1)).length = k + 1 by rw [List.length_take]; have := HK.out; omega]
        exact ho3
      · have hne : ∀ {x : Value} {m : Nat} {cs : List Value}, (w1.alloc (.cells #[.slice oax r.length capx] 101)).ownsRow w.heap.size 5 1 x m cs → w3.ownsRow w.heap.size 5 1 x m cs := fun hx => row_kept hx hc3 (fun g' hg' e => by
          obtain ⟨c1, h1⟩ := row_obj hx hg'
          obtain ⟨c2, h2⟩ := row_obj hl1 e.symm
          rw [h1] at h2
          simp only [Option.some.injEq, Obj.cells.injEq] at h2
          exact absurd h2.2.1 (by decide))
        have hi1 : i < k + 1 := by have := (List.getElem?_eq_some_iff.1 hi).1; rw [List.length_take] at this; omega
        rw [List.getElem?_take_of_lt hi1] at hi
        by_cases hik : i < k
        · obtain ⟨x', h1, h2⟩ := HBo.out.body i r' (by rw [List.getElem?_take_of_lt hik]; exact hi)
          exact ⟨x', by rw [List.getElem?_append_left (by omega)]; exact h1, hne (own_kept h2 (HC1.out.trans' hc2))⟩
        · obtain rfl : i = k := by omega
          rw [HR.out] at hi
          cases hi
          exact ⟨_, by rw [List.getElem?_append_right (by omega), hvl]; simp, hne (own_kept (own_lower HX1.out HC.out.size) hc2)⟩
    have hC3 : Chg (fun _ => False) w w3 := ((HC.out.trans' HC1.out).trans' hc2).new hc3 (fun i e => (hl1.lt i e.symm).1)
    have hP3 : P + (r.length + 8) = (framesB (rs.take (k + 1))).length := by rw [framesB_take' HR.out, List.length_append, frameB_length, HP.out]
    have HB3 := Lib.hid hb3
    have HC3 := Lib.hid hC3
    have HP3 := Lib.hid hP3
    obtain ⟨oa3, cap3, rfl⟩ := own_slice ho3
    clear hb3 hC3 hP3 hr3 ho3 hg3 hc3 hc2 hs2 hl1 hx1 hc1 hvl
    dsimp only
    go_wp2_with (first
      | (at_builtin; refine Lib.wpList_append_run _ rfl _ _ _ _ rfl _ _ rfl rfl _ _ HR3.out ?_))
    refine ⟨⟨k + 1, P + (r.length + 8), _, by go_num, HP3.out, HK.out, HB3.out, HC3.out⟩, by simp [intOf]; omega⟩
  · obtain rfl : k = rs.length := by omega
    have hbo : Bodies wr w.heap.size (.slice oav (rs.take rs.length).length capv) rs vs := by
      have := HBo.out
      rw [List.take_of_length_le (Nat.le_refl _)] at this ⊢
      exact this
    have hp := HP.out
    rw [List.take_of_length_le (Nat.le_refl _)] at hp
    rw [HB.out] at hp
    subst hp
    go_wp2_with fail
    refine bodyPost_ret (results_tmp3 rfl _ _ _) rfl ?_
    exact ⟨_, _, rfl, hbo, HC.out⟩

end Go.Proofs.YtbjagmlbamjdbaaGreat.wals
end

section
namespace Go.Proofs.YtbjagmlbamjdbaaGreat.wals
open Go.RowKit Go.My disks bufs
set_option maxRecDepth 100000

variable {w w' : World} {l d : Nat} {F Fd : Nat → Prop} {X : DV} {V : LV} {rv tv wv : Value}

theorem bytesOf_len {X : DV} (h : ∀ i, i < X.B.length → (X.cur i).length = 64) (f : Nat) : ∀ k, f + k ≤ X.B.length → (bytesOf X f k).length = 64 * k
  | 0, _ => rfl
  | k + 1, hk => by
    rw [bytesOf, List.length_append, bytesOf_len h f k (by omega), h (f + k) (by omega)]
    omega

theorem own_cap {w : World} {base n : Nat} {oa : Option Addr} {m cap : Nat} {e : TypeId} {xs : List Value} (h : w.ownsRow base e 1 (.slice oa m cap) n xs) : m ≤ cap := by
  rcases h.2 with ⟨e, h0⟩ | ⟨g, c, cur, e, hbg, hg, hnc, hcm, hcs, ht⟩
  · cases e; exact Nat.le_refl _
  · cases e
    omega

structure Ld1 (W w : World) (d : Nat) (v : Value) (X : DV) (f k : Nat) : Prop where
  own : w.ownsRow W.heap.size 5 1 v (64 * k) (cellsB (bytesOf X f k))
  nul : k = 0 → v = .slice none 0 0
  chg : Chg (fun _ => False) W w

structure Ld2 (W w : World) (l d : Nat) (F : Nat → Prop) (V : LV) (tv wv vb : Value) (rs : List Blk) (vs : List Value) (av : Value) (n6 : Nat) (b6 : Blk) (j : Nat) : Prop where
  log : ∃ rv F2, LogIs w l d F2 { V with recs := rs.take j } rv tv wv ∧ (∀ k, F2 k → F k ∨ W.heap.size ≤ k)
  bod : Bodies w W.heap.size vb rs vs
  all : w.ownsRow W.heap.size 5 1 av n6 (cellsB b6)
  chg : Chg F W w

set_option maxHeartbeats 1000000 in
theorem load_any (w : World) (s a u : Nat) (h : LogAt w l d F Fd X ⟨s, a, u, [], [], [], 0, false⟩) (hd : X.down = false) (h6 : 6 ≤ X.B.length) (hle : X.B.length ≤ 4096) (ha : a ≤ 1) (hu : u ≤ 64 * areaN X.B.length) (hc64 : ∀ i, i < X.B.length → (X.cur i).length = 64) (rs : List Blk) (hsh : ∀ r ∈ rs, r.length ≤ 4096) (hrs : (bytesOf X (firstN X.B.length a) ((u + 63) / 64)).take u = framesB rs) :
    Calls Tryz.prog 106 #[.pointer (some ⟨l, 0, none⟩)] w fun e w' => e = .returned (.tuple #[.pointer (some ⟨l, 0, none⟩), .int .i64 0]) ∧ ∃ F', LogAt w' l d F' Fd X ⟨s, a, u, rs, (framesB rs).drop (u / 64 * 64), [], 0, false⟩ ∧ (∀ k, F' k → F k ∨ w.heap.size ≤ k) ∧ Chg F w w' := by
  have H := Lib.hid h
  obtain ⟨⟨rv, tv, wv, hl⟩, -, -⟩ := h
  have hal := areaN_le hle
  have hin := area_in h6 ha
  obtain ⟨f, hf⟩ : ∃ f, firstN X.B.length a = f := ⟨_, rfl⟩
  obtain ⟨m, hm⟩ : ∃ m, areaN X.B.length = m := ⟨_, rfl⟩
  rw [hf] at hrs hin
  rw [hm] at hu hin hal
  have HL := Lib.hid hl
  have HN := Lib.hid (And.intro h6 (And.intro hle (And.intro ha hd)))
  have HI := Lib.hid hin
  have HF := Lib.hid hf
  have H64 := Lib.hid hc64
  have HRs := Lib.hid hrs
  have HSh := Lib.hid hsh
  have c3 : w.cell? ⟨l, 3, none⟩ = some (.int .i64 u) := hl.head.cell rfl
  have i1 : (u : Int) ≤ 131008 := by omega
  clear hl h6 hle ha hd hin hf hm hc64 hrs hsh
  go_enter Tryz.func106, Tryz.ntmps106
  go_wp2_with fail
  go_loopw [4, 5] (fun v i wr => ∃ k : Nat, i = .int .i64 k ∧ k ≤ (u + 63) / 64 ∧ Ld1 w wr d v X f k) (fun _ i _ => (u + 63) / 64 - (intOf i).toNat)
  · exact ⟨0, rfl, Nat.zero_le _, ⟨⟨rfl, Or.inl ⟨rfl, rfl⟩⟩, fun _ => rfl, Chg.refl _ _⟩⟩
  obtain ⟨k, rfl, hk, hld⟩ := hrel
  have HLd := Lib.hid hld
  have hlr := HL.out.kept hld.chg (fun _ _ h => h)
  have HLr := Lib.hid hlr
  have c3r : wr.cell? ⟨l, 3, none⟩ = some (.int .i64 u) := hlr.head.cell rfl
  by_cases hlt : 64 * k < u
  · obtain ⟨oav, capv, rfl⟩ := own_slice hld.own
    have hlt' : ((64 * k : Nat) : Int) < (u : Int) := by omega
    have c0 : wr.cell? ⟨l, 0, none⟩ = some (.pointer (some ⟨d, 0, none⟩)) := hlr.head.cell rfl
    have c2 : wr.cell? ⟨l, 2, none⟩ = some (.int .i64 a) := hlr.head.cell rfl
    have HK := Lib.hid hlt
    clear hld hlr hlt
    obtain ⟨N6, hN6⟩ : ∃ N6, 64 * k = N6 := ⟨_, rfl⟩
    rw [hN6] at hlt' ⊢
    have HKe := Lib.hid hN6
    have hcd : Chg (fun _ => False) w wr.drew := HLd.out.chg.trans' (Chg.refl _ wr).drew
    have hfi := first_any _ (H.out.fresh hcd) (by have := HN.out; omega) HN.out.2.1 a HN.out.2.2.1
    rw [HF.out] at hfi
    obtain ⟨q, hq⟩ : ∃ q, f + k = q := ⟨_, rfl⟩
    have hqb : q < X.B.length := by have := HI.out; have := HK.out; omega
    have hask : askedC X (q : Int) = 0 := by unfold askedC; rw [HN.out.2.2.2, if_neg (by decide), if_pos ⟨by omega, by omega⟩]
    have hrd : Calls Tryz.prog 101 #[.pointer (some ⟨d, 0, none⟩), .int .i64 (q : Int)] wr.drew fun e w' => ∃ v, e = .returned (.tuple #[v, .int .i64 0]) ∧ w'.ownsRow wr.heap.size 5 1 v 64 (cellsB (X.cur q)) ∧ Chg (fun _ => False) wr.drew w' := by
      obtain ⟨bv, p, mm, hdk⟩ := (H.out.fresh hcd).disk
      have := disks.read_any _ hdk (q : Int) ⟨by omega, by have := HN.out; omega⟩
      rw [hask, if_pos rfl, if_pos rfl, Int.toNat_natCast] at this
      exact this
    have hq3 : IntKind.i64.wrap ((f : Int) + (k : Int)) = (q : Int) := by rw [← hq, IntWalk.i64_in _ (by have := HI.out; have := HN.out; omega)]; exact (Int.natCast_add f k).symm
    have HFi := Lib.hid hfi
    have HRd := Lib.hid hrd
    have HQ := Lib.hid (And.intro hq hqb)
    have d0 : wr.drew.cell? ⟨l, 0, none⟩ = some (.pointer (some ⟨d, 0, none⟩)) := c0
    have d2 : wr.drew.cell? ⟨l, 2, none⟩ = some (.int .i64 a) := c2
    clear hfi hrd hcd hask hqb hq hN6
    go_wp2_with fail
    refine wp_region_noPanic ?_
    refine wp_region_held_drew (S := (fun w' => w'.cell? ⟨l, 0, none⟩ = some (.pointer (some ⟨d, 0, none⟩)) ∧ w'.cell? ⟨l, 2, none⟩ = some (.int .i64 a))) (by kernel_rfl) (⟨d0, d2⟩) (fun hHeld => ?_)
    refine tk 0 (v := ?_) hHeld rfl (fun w hSw => ?_) ?_
    rotate_left
    · (obtain ⟨hSw1, hSw2⟩ := hSw; go_simp)
      try with_reducible rfl
    simp only [Act.put, zA, zB, zC]
    refine tk 1 (v := ?_) hHeld rfl (fun w hSw => ?_) ?_
    rotate_left
    · (obtain ⟨hSw1, hSw2⟩ := hSw; go_simp)
      try with_reducible rfl
    simp only [Act.put, zA, zB, zC]
    refine tk 2 (v := ?_) hHeld rfl (fun w hSw => ?_) ?_
    rotate_left
    · (obtain ⟨hSw1, hSw2⟩ := hSw; go_simp)
      try with_reducible rfl
    simp only [Act.put, zA, zB, zC]
    refine tk 3 (v := ?_) hHeld rfl (fun w hSw => ?_) ?_
    rotate_left
    · (obtain ⟨hSw1, hSw2⟩ := hSw; go_simp)
      try with_reducible rfl
    simp only [Act.put, zA, zB, zC]
    refine tk 4 (v := ?_) hHeld rfl (fun w hSw => ?_) ?_
    rotate_left
    · (obtain ⟨hSw1, hSw2⟩ := hSw; go_simp)
      try with_reducible rfl
    simp only [Act.put, zA, zB, zC]
    refine tk 5 (v := ?_) hHeld rfl (fun w hSw => ?_) ?_
    rotate_left
    · (obtain ⟨hSw1, hSw2⟩ := hSw; go_simp)
      try with_reducible rfl
    simp only [Act.put, zA, zB, zC]
    refine tk 6 (v := ?_) hHeld rfl (fun w hSw => ?_) ?_
    rotate_left
    · (obtain ⟨hSw1, hSw2⟩ := hSw; go_simp)
      try with_reducible rfl
    simp only [Act.put, zA, zB, zC]
    refine tk 7 (v := ?_) hHeld rfl (fun w hSw => ?_) ?_
    rotate_left
    · (obtain ⟨hSw1, hSw2⟩ := hSw; go_simp)
      try with_reducible rfl
    simp only [Act.put, zA, zB, zC]
    refine tk 8 (v := ?_) hHeld rfl (fun w hSw => ?_) ?_
    rotate_left
    · (obtain ⟨hSw1, hSw2⟩ := hSw; go_simp)
      try with_reducible rfl
    simp only [Act.put, zA, zB, zC]
    refine tk 9 (v := ?_) hHeld rfl (fun w hSw => ?_) ?_
    rotate_left
    · (obtain ⟨hSw1, hSw2⟩ := hSw; go_simp)
      try with_reducible rfl
    simp only [Act.put, zA, zB, zC]
    refine tk 11 (v := ?_) hHeld rfl (fun w hSw => ?_) ?_
    rotate_left
    · go_simp
      try with_reducible rfl
    simp only [Act.put, zA, zB, zC]
    refine on1 10 rfl (fun K hK => ?_)
    go_simp
    refine HFi.out.mono ?_
    rintro e w' ⟨rfl, rfl⟩
    dsimp only
    refine hK _ _ (⟨d0, d2⟩) (fun hH2 => ?_)
    try simp only [Act.put, zA, zB, zC]
    refine tk 12 (v := ?_) hH2 rfl (fun w hSw => ?_) ?_
    rotate_left
    · go_simp
      try with_reducible rfl
    simp only [Act.put, zA, zB, zC]
    refine on1 13 rfl (fun K hK => ?_)
    go_simp
    refine HRd.out.mono ?_
    rintro e w2 ⟨v2, rfl, ho2, hc2⟩
    have HC2 := Lib.hid hc2
    have HO2 := Lib.hid ho2
    obtain ⟨oa2, cap2, rfl⟩ := own_slice ho2
    dsimp only
    refine hK _ _ (⟨hc2.cell d0 id, hc2.cell d2 id⟩) (fun hH3 => ?_)
    try simp only [Act.put, zA, zB, zC]
    refine tk 14 (v := ?_) hH3 rfl (fun w hSw => ?_) ?_
    rotate_left
    · go_simp
      try with_reducible rfl
    simp only [Act.put, zA, zB, zC]
    refine tk 15 (v := ?_) hH3 rfl (fun w hSw => ?_) ?_
    rotate_left
    · go_simp
      try with_reducible rfl
    simp only [Act.put, zA, zB, zC]
    refine tk 16 (v := ?_) hH3 rfl (fun w hSw => ?_) ?_
    rotate_left
    · go_simp
      try with_reducible rfl
    simp only [Act.put, zA, zB, zC]
    refine tk 17 (v := ?_) hH3 rfl (fun w hSw => ?_) ?_
    rotate_left
    · go_simp
      try with_reducible rfl
    simp only [Act.put, zA, zB, zC]
    refine tk 18 (v := ?_) hH3 rfl (fun w hSw => ?_) ?_
    rotate_left
    · go_simp
      try with_reducible rfl
    simp only [Act.put, zA, zB, zC]
    refine wpAnyH_done (by kernel_rfl) ?_ _
    refine NoPanic.normal ?_
    clear hHeld hH2 hH3 hK d0 d2 c0 c2 ho2 hc2
    have hcw := (Chg.refl (fun _ => False) wr).drew.trans' HC2.out
    have hlen : (bytesOf X f k).length = 64 * k := bytesOf_len H64.out f k (by have := HI.out; have := HK.out; omega)
    have ho1 := own_kept HLd.out.own hcw
    obtain ⟨v3, w3, hr3, ho3, hg3⟩ := append_step ho1 (SlAt.of_own HO2.out) (HLd.out.chg.trans' hcw).size (by rw [hlen]; have := H64.out q HQ.out.2; have := HK.out; omega) 101
    rw [HKe.out] at hr3
    have hb3 : bytesOf X f k ++ X.cur q = bytesOf X f (k + 1) := by rw [← HQ.out.1]; rfl
    rw [hb3, bytesOf_len H64.out f (k + 1) (by have := HI.out; have := HK.out; omega)] at ho3
    obtain ⟨n3, hn3⟩ : ∃ n3, 64 * (k + 1) = n3 := ⟨_, rfl⟩
    have hc3 : Chg (fun _ => False) w w3 := (HLd.out.chg.trans' hcw).new hg3 (fun _ h => h)
    have HR3 := Lib.hid hr3
    have HO3 := Lib.hid ho3
    have HC3 := Lib.hid hc3
    rw [hn3] at ho3
    obtain ⟨oa3, cap3, rfl⟩ := own_slice ho3
    have HN3 := Lib.hid hn3
    clear hcw hlen ho1 hr3 ho3 hg3 hb3 hc3 hn3
    go_wp2_with (first
      | (at_builtin; refine Lib.wpList_append_run _ rfl _ _ _ _ rfl _ _ rfl rfl _ _ HR3.out ?_))
    refine ⟨⟨k + 1, by go_num, by have := HK.out; omega, ⟨HO3.out, fun h => absurd h (Nat.succ_ne_zero k), HC3.out⟩⟩, by have := HK.out; simp [intOf]; omega⟩
  · have hku : k = (u + 63) / 64 := by omega
    subst hku
    have hlu : (framesB rs).length = u := by
      rw [← HRs.out, List.length_take, bytesOf_len H64.out f _ (by have := HI.out; omega)]
      omega
    have HLu := Lib.hid hlu
    obtain ⟨k, hk'⟩ : ∃ k, (u + 63) / 64 = k := ⟨_, rfl⟩
    have HRs' := HRs.out
    rw [hk'] at HRs' HLd ⊢
    have HRk := Lib.hid HRs'
    have HKk := Lib.hid hk'
    clear hld hlr hlu hlt hk HRs HRs'
    by_cases hu0 : u = 0
    · subst hu0
      obtain rfl : k = 0 := by omega
      obtain rfl := HLd.out.nul rfl
      clear hk'
      have hslA : SlAt wr (.slice none 0 0) (cellsB (framesB rs)) := by rw [List.eq_nil_of_length_eq_zero HLu.out]; exact ⟨none, 0, rfl, fun h => absurd rfl h, by simp [cellsB]⟩
      have hall := all_any wr none 0 0 rs hslA HSh.out (by rw [HLu.out]; omega) (by rw [HLu.out]; exact Nat.le_refl _)
      rw [HLu.out] at hall
      have HAll := Lib.hid hall
      clear hall hslA
      go_wp2_with (first
        | (go_at_call 154; fail))
      refine HAll.out.mono ?_
      rintro e w2 ⟨vb, vs, rfl, hbo, hc2⟩
      have hlog2 := HLr.out.kept hc2 (fun _ _ h => h)
      have c3' : w2.cell? ⟨l, 3, none⟩ = some (.int .i64 (0 : Nat)) := hlog2.head.cell rfl
      have h2 : Ld2 w w2 l d F ⟨s, a, 0, [], [], [], 0, false⟩ tv wv vb rs vs (.slice none 0 0) (64 * 0) (bytesOf X f 0) 0 := ⟨⟨rv, F, hlog2, fun k hk => Or.inl hk⟩, ⟨own_lower hbo.list HLd.out.chg.size, fun i r hi => by
        obtain ⟨x, h1, h2⟩ := hbo.body i r hi
        exact ⟨x, h1, own_lower h2 HLd.out.chg.size⟩⟩, own_kept HLd.out.own hc2, (HLd.out.chg.trans' hc2).mono (fun _ _ h => h.elim)⟩
      obtain ⟨oab, capb, rfl⟩ := own_slice hbo.list
      have HL2 := Lib.hid h2
      clear hbo hc2 hlog2 h2 HAll
      dsimp only
      go_wp2_with fail
      rename World => wS
      go_loopw [68] (fun iv wr => ∃ j : Nat, iv = .int .i64 j ∧ j ≤ rs.length ∧ Ld2 w wr l d F ⟨s, a, 0, [], [], [], 0, false⟩ tv wv (.slice oab rs.length capb) rs vs (.slice none 0 0) (64 * 0) (bytesOf X f 0) j) (fun iv _ => rs.length - (intOf iv).toNat)
      · exact ⟨0, rfl, Nat.zero_le _, HL2.out⟩
      clear HL2
      obtain ⟨j, rfl, hj, hld⟩ := hrel
      have HLd2 := Lib.hid hld
      clear hld
      by_cases hjl : j < rs.length
      · have hjl' : (j : Int) < (rs.length : Int) := by omega
        obtain ⟨r, hr⟩ : ∃ r, rs[j]? = some r := ⟨rs[j], List.getElem?_eq_getElem hjl⟩
        obtain ⟨x, hx1, hx2⟩ := HLd2.out.bod.body j r hr
        obtain ⟨oax, capx, rfl⟩ := own_slice hx2
        obtain ⟨gb, ofb, rfl, hcell⟩ : ∃ gb ofb, oab = some ⟨gb, ofb, none⟩ ∧ wr.cell? ⟨gb, ofb + j, none⟩ = some (.slice oax r.length capx) := by
          obtain ⟨oa', cap', e1, e2, e3⟩ := SlAt.of_own HLd2.out.bod.list
          simp only [Value.slice.injEq] at e1
          obtain ⟨b, off, e4⟩ := e2 (by intro e; rw [e] at hx1; simp at hx1)
          exact ⟨b, off, by rw [e1.1, e4], e3 b off e4 j _ hx1⟩
        obtain ⟨rvj, F2, hlog, hF2⟩ := HLd2.out.log
        obtain ⟨nj, hnj⟩ : ∃ nj, (rs.take j).length = nj := ⟨_, rfl⟩
        have hnj' : nj = j := by rw [← hnj, List.length_take]; omega
        have hlr := hlog.recs
        rw [show ({ (⟨s, a, 0, [], [], [], 0, false⟩ : LV) with recs := rs.take j } : LV).recs.length = nj from hnj] at hlr
        obtain ⟨oar, capr, rfl⟩ := own_slice hlr
        obtain ⟨sr, hsr⟩ : ∃ sr : ByteArray, (⟨r.toArray⟩ : ByteArray) = sr := ⟨_, rfl⟩
        have hdr : Chg (fun _ => False) wr wr.drew := (Chg.refl _ _).drew
        have hca : Chg (fun _ => False) wr (wr.drew.alloc (.cells #[.string sr] 9)) := hdr.alloc _
        have hs2 : SlAt (wr.drew.alloc (.cells #[.string sr] 9)) (.slice (some ⟨wr.heap.size, 0, none⟩) 1 1) [.string sr] := SlAt.of_own (own_of_block (base := 0) (n := 1) (show (wr.drew.alloc (.cells #[.string sr] 9)).heap[wr.heap.size]? = _ from at1) (Nat.zero_le _) rfl (by unfold maxLen; omega))
        have hrsl : rs.length ≤ 131008 := by have := sizeB_ge rs; rw [← framesB_length, HLu.out] at this; omega
        obtain ⟨v3, w3, hr3, ho3, hg3, h43⟩ := append_strs (own_kept hlr hca) hs2 (fun y hy => by rw [List.mem_singleton] at hy; subst hy; rfl) (Nat.zero_le _) (by rw [List.length_map, hnj]; simp; omega) 109
        have e3 : (rs.take j).map strV ++ [.string sr] = (rs.take (j + 1)).map strV := by rw [List.take_add_one, hr, Option.toList_some, List.map_append]; simp [strV, hsr]
        rw [e3, List.length_map] at ho3
        obtain ⟨n3, hn3⟩ : ∃ n3, (rs.take (j + 1)).length = n3 := ⟨_, rfl⟩
        rw [hn3] at ho3
        obtain ⟨oa3, cap3, rfl⟩ := own_slice ho3
        obtain ⟨hl4, hc4⟩ := hlog.growRecs hca hn3 ho3 hg3 (Or.inl rfl) (h43.imp id (fun e => ⟨_, e, hca.size⟩))
        have a3 := (Chg.of_grown hg3).at (hca.at hlog.head id) (fun e => row_head hlr hlog.head (by decide) l e.symm rfl)
        have hc' : Chg (· = l) w3 (w3.setCell ⟨l, 4, none⟩ (.slice oa3 n3 cap3)) := Chg.setCell (S := (· = l)) (Chg.refl _ _) (fun _ => rfl) _
        have keep3 : ∀ {e : TypeId} {base n : Nat} {y : Value} {ys : List Value}, wr.ownsRow base e 1 y n ys → e ≠ 9 → w3.ownsRow base e 1 y n ys := fun hy he => row_kept (own_kept hy hca) (Chg.of_grown hg3) (fun g hg e1 => row_apart (own_kept hy hca) (own_kept hlr hca) he g hg e1.symm)
        have keep4 : ∀ {e : TypeId} {base n : Nat} {y : Value} {ys : List Value}, wr.ownsRow base e 1 y n ys → e ≠ 9 → e ≠ 177 → (w3.setCell ⟨l, 4, none⟩ (.slice oa3 n3 cap3)).ownsRow base e 1 y n ys := fun hy he he2 => row_kept (keep3 hy he) hc' (row_head (keep3 hy he) a3 he2)
        have cv0 : (convert 101 9 (.slice oax r.length capx)).run Tryz.prog wr.drew = .ok (.string sr) wr.drew := by rw [← hsr]; exact conv_own (own_kept hx2 hdr)
        have cva : (convert 101 9 (.slice oax r.length capx)).run Tryz.prog (wr.drew.alloc (.cells #[.string sr] 9)) = .ok (.string sr) (wr.drew.alloc (.cells #[.string sr] 9)) := by rw [← hsr]; rw [← hsr] at hca; exact conv_own (own_kept hx2 hca)
        have cv3 : (convert 101 9 (.slice oax r.length capx)).run Tryz.prog w3 = .ok (.string sr) w3 := by rw [← hsr]; exact conv_own (keep3 hx2 (by decide))
        have cv4 : (convert 101 9 (.slice oax r.length capx)).run Tryz.prog (w3.setCell ⟨l, 4, none⟩ (.slice oa3 n3 cap3)) = .ok (.string sr) (w3.setCell ⟨l, 4, none⟩ (.slice oa3 n3 cap3)) := by rw [← hsr]; exact conv_own (keep4 hx2 (by decide) (by decide))
        have k4 : wr.drew.cell? ⟨l, 4, none⟩ = some (.slice oar nj capr) := by have := hlog.head.cell (i := 4) rfl; exact this
        have k4a : (wr.drew.alloc (.cells #[.string sr] 9)).cell? ⟨l, 4, none⟩ = some (.slice oar nj capr) := hca.cell k4 id
        have k4b : (wr.alloc (.cells #[.string sr] 9)).cell? ⟨l, 4, none⟩ = some (.slice oar nj capr) := k4a
        have k4c : wr.cell? ⟨l, 4, none⟩ = some (.slice oar nj capr) := k4
        have j4 : w3.cell? ⟨l, 4, none⟩ = some (.slice oar nj capr) := Arr.cell a3 rfl
        have z4 : w3.frozen? ⟨l, 4, none⟩ = false := Arr.free a3
        have hnew : ∀ k, (Value.slice oa3 n3 cap3).ownBlock = some k → F2 k ∨ wr.heap.size ≤ k := fun k hk => by
          rcases h43 with e | e
          · exact Or.inl (hlog.fr k (e ▸ hk))
          · rw [e] at hk; cases hk; exact Or.inr hca.size
        have hsW := HLd2.out.chg.size
        have hL5 : Ld2 w (w3.setCell ⟨l, 4, none⟩ (.slice oa3 n3 cap3)) l d F ⟨s, a, 0, [], [], [], 0, false⟩ tv wv (.slice (some ⟨gb, ofb, none⟩) rs.length capb) rs vs (.slice none 0 0) (64 * 0) (bytesOf X f 0) (j + 1) := by
          refine ⟨⟨_, _, hl4, fun k hk => hk.elim (hF2 k) (fun h => (hnew k h).elim (hF2 k) (fun h => Or.inr (by omega)))⟩, ⟨keep4 HLd2.out.bod.list (by decide) (by decide), fun i r' hi => ?_⟩, keep4 HLd2.out.all (by decide) (by decide), HLd2.out.chg.trans hc4 (fun k hk h => (hF2 k h).resolve_right (by omega))⟩
          obtain ⟨y, h1, h2⟩ := HLd2.out.bod.body i r' hi
          exact ⟨y, h1, keep4 h2 (by decide) (by decide)⟩
        have HL5 := Lib.hid hL5
        have HR3 := Lib.hid hr3
        have HJ := Lib.hid hjl
        have HX0 := Lib.hid cv0
        have HXa := Lib.hid cva
        have HX3 := Lib.hid cv3
        have HX4 := Lib.hid cv4
        clear hL5 hr3 keep3 keep4 hc' hl4 hc4 ho3 hg3 h43 hs2 hca hdr hlog hlr hx1 hx2 a3 hnew e3 hn3 hsr hnj hnj' hr cva cv3 cv4 cv0 hF2
        go_wp2_with fail
        refine wp_region_noPanic ?_
        refine wp_region_held_drew (S := (fun w' => (convert 101 9 (.slice oax r.length capx)).run Tryz.prog w' = .ok (.string sr) w')) (by kernel_rfl) (HX0.out) (fun hHeld => ?_)
        refine tk 0 (v := ?_) hHeld rfl (fun w hSw => ?_) ?_
        rotate_left
        · go_simp
          try with_reducible rfl
        simp only [Act.put, zA, zB, zC]
        refine tk 1 (v := ?_) hHeld rfl (fun w hSw => ?_) ?_
        rotate_left
        · go_simp
          try with_reducible rfl
        simp only [Act.put, zA, zB, zC]
        refine tk 2 (v := ?_) hHeld rfl (fun w hSw => ?_) ?_
        rotate_left
        · go_simp
          try with_reducible rfl
        simp only [Act.put, zA, zB, zC]
        refine tk 3 (v := ?_) hHeld rfl (fun w hSw => ?_) ?_
        rotate_left
        · go_simp
          try with_reducible rfl
        simp only [Act.put, zA, zB, zC]
        refine tk 5 (v := ?_) hHeld rfl (fun w hSw => ?_) ?_
        rotate_left
        · go_simp
          try with_reducible rfl
        simp only [Act.put, zA, zB, zC]
        refine tk 6 (v := ?_) hHeld rfl (fun w hSw => ?_) ?_
        rotate_left
        · go_simp
          try with_reducible rfl
        simp only [Act.put, zA, zB, zC]
        refine wpAnyH_ready (rs := [4, 7]) (by kernel_rfl) (by simp) (one_list (i := 4) rfl (by rfl) (fun K hK => ?_) (one_list (i := 7) rfl (by rfl) (fun K hK => ?_) AllReadyH.nil))
        · go_simp
          refine hK _ _ (HX0.out) (fun hH2 => ?_)
          try simp only [Act.put, zA, zB, zC]
          refine on1 7 rfl (fun K hK => ?_)
          go_simp
          refine hK _ _ (HXa.out) (fun hH3 => ?_)
          try simp only [Act.put, zA, zB, zC]
          refine on1 8 rfl (fun K hK => ?_)
          refine oper_append _ _ _ rfl rfl rfl HR3.out ?_
          refine hK _ _ (HX3.out) (fun hH4 => ?_)
          try simp only [Act.put, zA, zB, zC]
          refine tk 9 (v := ?_) hH4 rfl (fun w hSw => ?_) ?_
          rotate_left
          · go_simp
            try with_reducible rfl
          simp only [Act.put, zA, zB, zC]
          refine tk 10 (v := ?_) hH4 rfl (fun w hSw => ?_) ?_
          rotate_left
          · go_simp
            try with_reducible rfl
          simp only [Act.put, zA, zB, zC]
          refine on1 11 rfl (fun K hK => ?_)
          go_simp
          refine hK _ _ (HX4.out) (fun hH5 => ?_)
          try simp only [Act.put, zA, zB, zC]
          refine wpAnyH_done (by kernel_rfl) ?_ _
          refine NoPanic.normal ?_
          clear hHeld hH2 hH3 hH4 hH5 hK k4 k4a k4b k4c j4 z4
          go_wp2_with fail
          first
            | exact ⟨⟨j + 1, by go_num, HJ.out, HL5.out⟩, by have := HJ.out; simp [intOf]; omega⟩
            | exact ⟨⟨_, _, _, _, _, _, _, _, _, _, _, _, _, _, _, _, _, ⟨j + 1, by go_num, HJ.out, HL5.out⟩, rfl⟩, by have := HJ.out; simp [intOf]; omega⟩
        · go_simp
          refine hK _ _ (HXa.out) (fun hH2 => ?_)
          try simp only [Act.put, zA, zB, zC]
          refine on1 4 rfl (fun K hK => ?_)
          go_simp
          refine hK _ _ (HXa.out) (fun hH3 => ?_)
          try simp only [Act.put, zA, zB, zC]
          refine on1 8 rfl (fun K hK => ?_)
          refine oper_append _ _ _ rfl rfl rfl HR3.out ?_
          refine hK _ _ (HX3.out) (fun hH4 => ?_)
          try simp only [Act.put, zA, zB, zC]
          refine tk 9 (v := ?_) hH4 rfl (fun w hSw => ?_) ?_
          rotate_left
          · go_simp
            try with_reducible rfl
          simp only [Act.put, zA, zB, zC]
          refine tk 10 (v := ?_) hH4 rfl (fun w hSw => ?_) ?_
          rotate_left
          · go_simp
            try with_reducible rfl
          simp only [Act.put, zA, zB, zC]
          refine on1 11 rfl (fun K hK => ?_)
          go_simp
          refine hK _ _ (HX4.out) (fun hH5 => ?_)
          try simp only [Act.put, zA, zB, zC]
          refine wpAnyH_done (by kernel_rfl) ?_ _
          refine NoPanic.normal ?_
          clear hHeld hH2 hH3 hH4 hH5 hK k4 k4a k4b k4c j4 z4
          go_wp2_with fail
          first
            | exact ⟨⟨j + 1, by go_num, HJ.out, HL5.out⟩, by have := HJ.out; simp [intOf]; omega⟩
            | exact ⟨⟨_, _, _, _, _, _, _, _, _, _, _, _, _, _, _, _, _, ⟨j + 1, by go_num, HJ.out, HL5.out⟩, rfl⟩, by have := HJ.out; simp [intOf]; omega⟩
      · obtain rfl : j = rs.length := by omega
        obtain ⟨rvj, F2, hlog, hF2⟩ := HLd2.out.log
        have hlogr : LogIs wr l d F2 ⟨s, a, 0, rs, [], [], 0, false⟩ rvj tv wv := by
          have := hlog
          rw [List.take_of_length_le (Nat.le_refl _)] at this
          exact this
        clear hlog
        have hslT : SlAt wr (.slice none 0 0) (cellsB ((framesB rs).drop (0 / 64 * 64))) := by
          rw [List.eq_nil_of_length_eq_zero HLu.out]
          exact ⟨none, 0, rfl, fun h => absurd rfl h, by simp [cellsB]⟩
        obtain ⟨v6, w6, hr6, ho6, hc6⟩ := fresh_copy wr hslT (by rw [List.length_drop, HLu.out]; omega)
        obtain ⟨T, hT⟩ : ∃ T, (framesB rs).drop (0 / 64 * 64) = T := ⟨_, rfl⟩
        rw [hT] at ho6
        have HT := Lib.hid hT
        obtain ⟨n6, hn6⟩ : ∃ n6, T.length = n6 := ⟨_, rfl⟩
        rw [hn6] at ho6
        obtain ⟨oa6, cap6, rfl⟩ := own_slice ho6
        have HR6 := Lib.hid hr6
        clear hr6 hslT
        have ho7 : w6.ownsRow 0 5 1 (Value.slice oa6 n6 cap6) T.length (cellsB T) := by
          rw [hn6]
          exact own_lower ho6 (Nat.zero_le _)
        have hl6 := hlogr.kept hc6 (fun _ _ h => h)
        have k5 : w6.cell? ⟨l, 5, none⟩ = some tv := hl6.head.cell rfl
        have z5 : w6.frozen? ⟨l, 5, none⟩ = false := hl6.head.free
        have c3a : (wr.alloc (.cells #[] 5)).cell? ⟨l, 3, none⟩ = some (.int .i64 (0 : Nat)) := by
          have h1 : Chg (fun _ => False) wr (wr.alloc (.cells #[] 5)) := (Chg.refl _ _).alloc _
          exact h1.cell (hlogr.head.cell (i := 3) rfl) id
        obtain ⟨hl7, hc7⟩ := hl6.setTail T _ ho7
        have hnew : ∀ k, (Value.slice oa6 n6 cap6).ownBlock = some k → wr.heap.size ≤ k := fun k hk => (ho6.lt k hk).1
        have hsW := HLd2.out.chg.size
        have hC7 := (HLd2.out.chg.trans' (hc6.mono (fun _ _ h => h.elim))).trans hc7 (fun k hk e => by
          have e : k = l := e
          rw [e]
          exact HL.out.fl)
        have hF7 : ∀ k, (F2 k ∨ (Value.slice oa6 n6 cap6).ownBlock = some k) → F k ∨ w.heap.size ≤ k := fun k hk => hk.elim (hF2 k) (fun h => Or.inr (by have := hnew k h; omega))
        have hLA : LogAt (w6.setCell ⟨l, 5, none⟩ (Value.slice oa6 n6 cap6)) l d (fun k => F2 k ∨ (Value.slice oa6 n6 cap6).ownBlock = some k) Fd X ⟨s, a, 0, rs, T, [], 0, false⟩ := ⟨⟨rvj, _, wv, hl7⟩, H.out.disk.kept hC7 (fun k hk hF => H.out.off k hF hk), fun k hk hF => (hF7 k hk).elim (fun h => H.out.off k h hF) (fun h => by have := H.out.disk.lt k hF; omega)⟩
        have HLA := Lib.hid hLA
        have HFC := Lib.hid (And.intro hF7 hC7)
        clear ho6 hc6 hT hn6 ho7 hl6 hl7 hc7 hnew hsW hC7 hF7 hLA hlogr hF2
        go_wp2_with (first | (at_builtin; refine Lib.wpList_append_run _ rfl _ _ _ _ rfl _ _ rfl rfl _ _ HR6.out ?_))
        go_ret2
        rw [HT.out]
        exact ⟨rfl, _, HLA.out, HFC.out.1, HFC.out.2⟩
    · have hbn : (bytesOf X f k).length = 64 * k := bytesOf_len H64.out f k (by have := HI.out; omega)
      obtain ⟨g, capv, rfl, hg1, hg2⟩ := own_nonnil HLd.out.own (by intro e; rw [e] at hbn; simp at hbn; omega)
      have hcv := own_cap HLd.out.own
      rw [hbn] at HLd hcv ⊢
      have i3 : (u : Int) ≤ (capv : Int) := by omega
      have hcn : ¬ capv = 0 := by omega
      obtain ⟨N6, hN6⟩ : ∃ N6, 64 * k = N6 := ⟨_, rfl⟩
      rw [hN6] at HLd hcv hbn ⊢
      have i4 : (u : Int) ≤ (N6 : Int) := by omega
      have hNd : decide (N6 < u) = false := by rw [decide_eq_false_iff_not]; omega
      have HN6 := Lib.hid hN6
      have hslA : SlAt wr (.slice (some ⟨g, 0, none⟩) u capv) (cellsB (framesB rs)) := by
        have h1 := slat_sub (SlAt.of_own HLd.out.own) g 0 0 u capv rfl (by rw [hbn]; omega)
        rw [List.drop_zero, HRk.out] at h1
        exact h1
      have HSA := Lib.hid hslA
      clear hslA hbn hg1 hg2 hN6 hk'
      have hslA : SlAt wr (.slice (some ⟨g, 0, none⟩) u capv) (cellsB (framesB rs)) := HSA.out
      have hall := all_any wr (some ⟨g, 0, none⟩) u capv rs hslA HSh.out (by rw [HLu.out]; omega) (by rw [HLu.out]; omega)
      rw [HLu.out] at hall
      have HAll := Lib.hid hall
      clear hall hslA
      go_wp2_with (first
        | (go_at_call 154; fail))
      refine HAll.out.mono ?_
      rintro e w2 ⟨vb, vs, rfl, hbo, hc2⟩
      have hlog2 := HLr.out.kept hc2 (fun _ _ h => h)
      have c3' : w2.cell? ⟨l, 3, none⟩ = some (.int .i64 (u : Nat)) := hlog2.head.cell rfl
      have h2 : Ld2 w w2 l d F ⟨s, a, u, [], [], [], 0, false⟩ tv wv vb rs vs (.slice (some ⟨g, 0, none⟩) N6 capv) (64 * k) (bytesOf X f k) 0 := ⟨⟨rv, F, hlog2, fun k hk => Or.inl hk⟩, ⟨own_lower hbo.list HLd.out.chg.size, fun i r hi => by
        obtain ⟨x, h1, h2⟩ := hbo.body i r hi
        exact ⟨x, h1, own_lower h2 HLd.out.chg.size⟩⟩, own_kept HLd.out.own hc2, (HLd.out.chg.trans' hc2).mono (fun _ _ h => h.elim)⟩
      obtain ⟨oab, capb, rfl⟩ := own_slice hbo.list
      have HL2 := Lib.hid h2
      clear hbo hc2 hlog2 h2 HAll
      dsimp only
      go_wp2_with fail
      rename World => wS
      go_loopw [68] (fun iv wr => ∃ j : Nat, iv = .int .i64 j ∧ j ≤ rs.length ∧ Ld2 w wr l d F ⟨s, a, u, [], [], [], 0, false⟩ tv wv (.slice oab rs.length capb) rs vs (.slice (some ⟨g, 0, none⟩) N6 capv) (64 * k) (bytesOf X f k) j) (fun iv _ => rs.length - (intOf iv).toNat)
      · exact ⟨0, rfl, Nat.zero_le _, HL2.out⟩
      clear HL2
      obtain ⟨j, rfl, hj, hld⟩ := hrel
      have HLd2 := Lib.hid hld
      clear hld
      by_cases hjl : j < rs.length
      · have hjl' : (j : Int) < (rs.length : Int) := by omega
        obtain ⟨r, hr⟩ : ∃ r, rs[j]? = some r := ⟨rs[j], List.getElem?_eq_getElem hjl⟩
        obtain ⟨x, hx1, hx2⟩ := HLd2.out.bod.body j r hr
        obtain ⟨oax, capx, rfl⟩ := own_slice hx2
        obtain ⟨gb, ofb, rfl, hcell⟩ : ∃ gb ofb, oab = some ⟨gb, ofb, none⟩ ∧ wr.cell? ⟨gb, ofb + j, none⟩ = some (.slice oax r.length capx) := by
          obtain ⟨oa', cap', e1, e2, e3⟩ := SlAt.of_own HLd2.out.bod.list
          simp only [Value.slice.injEq] at e1
          obtain ⟨b, off, e4⟩ := e2 (by intro e; rw [e] at hx1; simp at hx1)
          exact ⟨b, off, by rw [e1.1, e4], e3 b off e4 j _ hx1⟩
        obtain ⟨rvj, F2, hlog, hF2⟩ := HLd2.out.log
        obtain ⟨nj, hnj⟩ : ∃ nj, (rs.take j).length = nj := ⟨_, rfl⟩
        have hnj' : nj = j := by rw [← hnj, List.length_take]; omega
        have hlr := hlog.recs
        rw [show ({ (⟨s, a, u, [], [], [], 0, false⟩ : LV) with recs := rs.take j } : LV).recs.length = nj from hnj] at hlr
        obtain ⟨oar, capr, rfl⟩ := own_slice hlr
        obtain ⟨sr, hsr⟩ : ∃ sr : ByteArray, (⟨r.toArray⟩ : ByteArray) = sr := ⟨_, rfl⟩
        have hdr : Chg (fun _ => False) wr wr.drew := (Chg.refl _ _).drew
        have hca : Chg (fun _ => False) wr (wr.drew.alloc (.cells #[.string sr] 9)) := hdr.alloc _
        have hs2 : SlAt (wr.drew.alloc (.cells #[.string sr] 9)) (.slice (some ⟨wr.heap.size, 0, none⟩) 1 1) [.string sr] := SlAt.of_own (own_of_block (base := 0) (n := 1) (show (wr.drew.alloc (.cells #[.string sr] 9)).heap[wr.heap.size]? = _ from at1) (Nat.zero_le _) rfl (by unfold maxLen; omega))
        have hrsl : rs.length ≤ 131008 := by have := sizeB_ge rs; rw [← framesB_length, HLu.out] at this; omega
        obtain ⟨v3, w3, hr3, ho3, hg3, h43⟩ := append_strs (own_kept hlr hca) hs2 (fun y hy => by rw [List.mem_singleton] at hy; subst hy; rfl) (Nat.zero_le _) (by rw [List.length_map, hnj]; simp; omega) 109
        have e3 : (rs.take j).map strV ++ [.string sr] = (rs.take (j + 1)).map strV := by rw [List.take_add_one, hr, Option.toList_some, List.map_append]; simp [strV, hsr]
        rw [e3, List.length_map] at ho3
        obtain ⟨n3, hn3⟩ : ∃ n3, (rs.take (j + 1)).length = n3 := ⟨_, rfl⟩
        rw [hn3] at ho3
        obtain ⟨oa3, cap3, rfl⟩ := own_slice ho3
        obtain ⟨hl4, hc4⟩ := hlog.growRecs hca hn3 ho3 hg3 (Or.inl rfl) (h43.imp id (fun e => ⟨_, e, hca.size⟩))
        have a3 := (Chg.of_grown hg3).at (hca.at hlog.head id) (fun e => row_head hlr hlog.head (by decide) l e.symm rfl)
        have hc' : Chg (· = l) w3 (w3.setCell ⟨l, 4, none⟩ (.slice oa3 n3 cap3)) := Chg.setCell (S := (· = l)) (Chg.refl _ _) (fun _ => rfl) _
        have keep3 : ∀ {e : TypeId} {base n : Nat} {y : Value} {ys : List Value}, wr.ownsRow base e 1 y n ys → e ≠ 9 → w3.ownsRow base e 1 y n ys := fun hy he => row_kept (own_kept hy hca) (Chg.of_grown hg3) (fun g hg e1 => row_apart (own_kept hy hca) (own_kept hlr hca) he g hg e1.symm)
        have keep4 : ∀ {e : TypeId} {base n : Nat} {y : Value} {ys : List Value}, wr.ownsRow base e 1 y n ys → e ≠ 9 → e ≠ 177 → (w3.setCell ⟨l, 4, none⟩ (.slice oa3 n3 cap3)).ownsRow base e 1 y n ys := fun hy he he2 => row_kept (keep3 hy he) hc' (row_head (keep3 hy he) a3 he2)
        have cv0 : (convert 101 9 (.slice oax r.length capx)).run Tryz.prog wr.drew = .ok (.string sr) wr.drew := by rw [← hsr]; exact conv_own (own_kept hx2 hdr)
        have cva : (convert 101 9 (.slice oax r.length capx)).run Tryz.prog (wr.drew.alloc (.cells #[.string sr] 9)) = .ok (.string sr) (wr.drew.alloc (.cells #[.string sr] 9)) := by rw [← hsr]; rw [← hsr] at hca; exact conv_own (own_kept hx2 hca)
        have cv3 : (convert 101 9 (.slice oax r.length capx)).run Tryz.prog w3 = .ok (.string sr) w3 := by rw [← hsr]; exact conv_own (keep3 hx2 (by decide))
        have cv4 : (convert 101 9 (.slice oax r.length capx)).run Tryz.prog (w3.setCell ⟨l, 4, none⟩ (.slice oa3 n3 cap3)) = .ok (.string sr) (w3.setCell ⟨l, 4, none⟩ (.slice oa3 n3 cap3)) := by rw [← hsr]; exact conv_own (keep4 hx2 (by decide) (by decide))
        have k4 : wr.drew.cell? ⟨l, 4, none⟩ = some (.slice oar nj capr) := by have := hlog.head.cell (i := 4) rfl; exact this
        have k4a : (wr.drew.alloc (.cells #[.string sr] 9)).cell? ⟨l, 4, none⟩ = some (.slice oar nj capr) := hca.cell k4 id
        have k4b : (wr.alloc (.cells #[.string sr] 9)).cell? ⟨l, 4, none⟩ = some (.slice oar nj capr) := k4a
        have k4c : wr.cell? ⟨l, 4, none⟩ = some (.slice oar nj capr) := k4
        have j4 : w3.cell? ⟨l, 4, none⟩ = some (.slice oar nj capr) := Arr.cell a3 rfl
        have z4 : w3.frozen? ⟨l, 4, none⟩ = false := Arr.free a3
        have hnew : ∀ k, (Value.slice oa3 n3 cap3).ownBlock = some k → F2 k ∨ wr.heap.size ≤ k := fun k hk => by
          rcases h43 with e | e
          · exact Or.inl (hlog.fr k (e ▸ hk))
          · rw [e] at hk; cases hk; exact Or.inr hca.size
        have hsW := HLd2.out.chg.size
        have hL5 : Ld2 w (w3.setCell ⟨l, 4, none⟩ (.slice oa3 n3 cap3)) l d F ⟨s, a, u, [], [], [], 0, false⟩ tv wv (.slice (some ⟨gb, ofb, none⟩) rs.length capb) rs vs (.slice (some ⟨g, 0, none⟩) N6 capv) (64 * k) (bytesOf X f k) (j + 1) := by
          refine ⟨⟨_, _, hl4, fun k hk => hk.elim (hF2 k) (fun h => (hnew k h).elim (hF2 k) (fun h => Or.inr (by omega)))⟩, ⟨keep4 HLd2.out.bod.list (by decide) (by decide), fun i r' hi => ?_⟩, keep4 HLd2.out.all (by decide) (by decide), HLd2.out.chg.trans hc4 (fun k hk h => (hF2 k h).resolve_right (by omega))⟩
          obtain ⟨y, h1, h2⟩ := HLd2.out.bod.body i r' hi
          exact ⟨y, h1, keep4 h2 (by decide) (by decide)⟩
        have HL5 := Lib.hid hL5
        have HR3 := Lib.hid hr3
        have HJ := Lib.hid hjl
        have HX0 := Lib.hid cv0
        have HXa := Lib.hid cva
        have HX3 := Lib.hid cv3
        have HX4 := Lib.hid cv4
        clear hL5 hr3 keep3 keep4 hc' hl4 hc4 ho3 hg3 h43 hs2 hca hdr hlog hlr hx1 hx2 a3 hnew e3 hn3 hsr hnj hnj' hr cva cv3 cv4 cv0 hF2
        go_wp2_with fail
        refine wp_region_noPanic ?_
        refine wp_region_held_drew (S := (fun w' => (convert 101 9 (.slice oax r.length capx)).run Tryz.prog w' = .ok (.string sr) w')) (by kernel_rfl) (HX0.out) (fun hHeld => ?_)
        refine tk 0 (v := ?_) hHeld rfl (fun w hSw => ?_) ?_
        rotate_left
        · go_simp
          try with_reducible rfl
        simp only [Act.put, zA, zB, zC]
        refine tk 1 (v := ?_) hHeld rfl (fun w hSw => ?_) ?_
        rotate_left
        · go_simp
          try with_reducible rfl
        simp only [Act.put, zA, zB, zC]
        refine tk 2 (v := ?_) hHeld rfl (fun w hSw => ?_) ?_
        rotate_left
        · go_simp
          try with_reducible rfl
        simp only [Act.put, zA, zB, zC]
        refine tk 3 (v := ?_) hHeld rfl (fun w hSw => ?_) ?_
        rotate_left
        · go_simp
          try with_reducible rfl
        simp only [Act.put, zA, zB, zC]
        refine tk 5 (v := ?_) hHeld rfl (fun w hSw => ?_) ?_
        rotate_left
        · go_simp
          try with_reducible rfl
        simp only [Act.put, zA, zB, zC]
        refine tk 6 (v := ?_) hHeld rfl (fun w hSw => ?_) ?_
        rotate_left
        · go_simp
          try with_reducible rfl
        simp only [Act.put, zA, zB, zC]
        refine wpAnyH_ready (rs := [4, 7]) (by kernel_rfl) (by simp) (one_list (i := 4) rfl (by rfl) (fun K hK => ?_) (one_list (i := 7) rfl (by rfl) (fun K hK => ?_) AllReadyH.nil))
        · go_simp
          refine hK _ _ (HX0.out) (fun hH2 => ?_)
          try simp only [Act.put, zA, zB, zC]
          refine on1 7 rfl (fun K hK => ?_)
          go_simp
          refine hK _ _ (HXa.out) (fun hH3 => ?_)
          try simp only [Act.put, zA, zB, zC]
          refine on1 8 rfl (fun K hK => ?_)
          refine oper_append _ _ _ rfl rfl rfl HR3.out ?_
          refine hK _ _ (HX3.out) (fun hH4 => ?_)
          try simp only [Act.put, zA, zB, zC]
          refine tk 9 (v := ?_) hH4 rfl (fun w hSw => ?_) ?_
          rotate_left
          · go_simp
            try with_reducible rfl
          simp only [Act.put, zA, zB, zC]
          refine tk 10 (v := ?_) hH4 rfl (fun w hSw => ?_) ?_
          rotate_left
          · go_simp
            try with_reducible rfl
          simp only [Act.put, zA, zB, zC]
          refine on1 11 rfl (fun K hK => ?_)
          go_simp
          refine hK _ _ (HX4.out) (fun hH5 => ?_)
          try simp only [Act.put, zA, zB, zC]
          refine wpAnyH_done (by kernel_rfl) ?_ _
          refine NoPanic.normal ?_
          clear hHeld hH2 hH3 hH4 hH5 hK k4 k4a k4b k4c j4 z4
          go_wp2_with fail
          first
            | exact ⟨⟨j + 1, by go_num, HJ.out, HL5.out⟩, by have := HJ.out; simp [intOf]; omega⟩
            | exact ⟨⟨_, _, _, _, _, _, _, _, _, _, _, _, _, _, _, _, _, ⟨j + 1, by go_num, HJ.out, HL5.out⟩, rfl⟩, by have := HJ.out; simp [intOf]; omega⟩
        · go_simp
          refine hK _ _ (HXa.out) (fun hH2 => ?_)
          try simp only [Act.put, zA, zB, zC]
          refine on1 4 rfl (fun K hK => ?_)
          go_simp
          refine hK _ _ (HXa.out) (fun hH3 => ?_)
          try simp only [Act.put, zA, zB, zC]
          refine on1 8 rfl (fun K hK => ?_)
          refine oper_append _ _ _ rfl rfl rfl HR3.out ?_
          refine hK _ _ (HX3.out) (fun hH4 => ?_)
          try simp only [Act.put, zA, zB, zC]
          refine tk 9 (v := ?_) hH4 rfl (fun w hSw => ?_) ?_
          rotate_left
          · go_simp
            try with_reducible rfl
          simp only [Act.put, zA, zB, zC]
          refine tk 10 (v := ?_) hH4 rfl (fun w hSw => ?_) ?_
          rotate_left
          · go_simp
            try with_reducible rfl
          simp only [Act.put, zA, zB, zC]
          refine on1 11 rfl (fun K hK => ?_)
          go_simp
          refine hK _ _ (HX4.out) (fun hH5 => ?_)
          try simp only [Act.put, zA, zB, zC]
          refine wpAnyH_done (by kernel_rfl) ?_ _
          refine NoPanic.normal ?_
          clear hHeld hH2 hH3 hH4 hH5 hK k4 k4a k4b k4c j4 z4
          go_wp2_with fail
          first
            | exact ⟨⟨j + 1, by go_num, HJ.out, HL5.out⟩, by have := HJ.out; simp [intOf]; omega⟩
            | exact ⟨⟨_, _, _, _, _, _, _, _, _, _, _, _, _, _, _, _, _, ⟨j + 1, by go_num, HJ.out, HL5.out⟩, rfl⟩, by have := HJ.out; simp [intOf]; omega⟩
      · obtain rfl : j = rs.length := by omega
        obtain ⟨rvj, F2, hlog, hF2⟩ := HLd2.out.log
        have hlogr : LogIs wr l d F2 ⟨s, a, u, rs, [], [], 0, false⟩ rvj tv wv := by
          have := hlog
          rw [List.take_of_length_le (Nat.le_refl _)] at this
          exact this
        clear hlog
        have i5 : (N6 : Int) ≤ (capv : Int) := by omega
        obtain ⟨K, hK⟩ : ∃ K, u / 64 * 64 = K := ⟨_, rfl⟩
        have hKi : (u : Int) / 64 * 64 = (K : Int) := by omega
        have hKb : (K : Int) ≤ (u : Int) := by omega
        have HK := Lib.hid hK
        by_cases hck : capv = K
        · obtain ⟨T, hT⟩ : ∃ T, (framesB rs).drop (u / 64 * 64) = T := ⟨_, rfl⟩
          have hn6 : T.length = 0 := by rw [← hT, List.length_drop, HLu.out]; omega
          have HT := Lib.hid hT
          have hc6 : Chg (fun _ => False) wr (wr.alloc (.cells #[] 5)) := (Chg.refl _ _).alloc _
          have ho6 : (wr.alloc (.cells #[] 5)).ownsRow wr.heap.size 5 1 (.slice (some ⟨wr.heap.size, 0, none⟩) 0 0) 0 (cellsB T) := by
            rw [List.eq_nil_of_length_eq_zero hn6]
            exact own_of_block (n := 0) at1 (Nat.le_refl _) rfl (by unfold maxLen; omega)
          subst hck
          obtain rfl : capv = u := by omega
          have ho7 : (wr.alloc (.cells #[] 5)).ownsRow 0 5 1 (Value.slice (some ⟨wr.heap.size, 0, none⟩) 0 0) T.length (cellsB T) := by
            rw [hn6]
            exact own_lower ho6 (Nat.zero_le _)
          have hl6 := hlogr.kept hc6 (fun _ _ h => h)
          have k5 : (wr.alloc (.cells #[] 5)).cell? ⟨l, 5, none⟩ = some tv := hl6.head.cell rfl
          have z5 : (wr.alloc (.cells #[] 5)).frozen? ⟨l, 5, none⟩ = false := hl6.head.free
          have c3a : (wr.alloc (.cells #[] 5)).cell? ⟨l, 3, none⟩ = some (.int .i64 (capv : Nat)) := by
            have h1 : Chg (fun _ => False) wr (wr.alloc (.cells #[] 5)) := (Chg.refl _ _).alloc _
            exact h1.cell (hlogr.head.cell (i := 3) rfl) id
          obtain ⟨hl7, hc7⟩ := hl6.setTail T _ ho7
          have hnew : ∀ k, (Value.slice (some ⟨wr.heap.size, 0, none⟩) 0 0).ownBlock = some k → wr.heap.size ≤ k := fun k hk => (ho6.lt k hk).1
          have hsW := HLd2.out.chg.size
          have hC7 := (HLd2.out.chg.trans' (hc6.mono (fun _ _ h => h.elim))).trans hc7 (fun k hk e => by
            have e : k = l := e
            rw [e]
            exact HL.out.fl)
          have hF7 : ∀ k, (F2 k ∨ (Value.slice (some ⟨wr.heap.size, 0, none⟩) 0 0).ownBlock = some k) → F k ∨ w.heap.size ≤ k := fun k hk => hk.elim (hF2 k) (fun h => Or.inr (by have := hnew k h; omega))
          have hLA : LogAt ((wr.alloc (.cells #[] 5)).setCell ⟨l, 5, none⟩ (Value.slice (some ⟨wr.heap.size, 0, none⟩) 0 0)) l d (fun k => F2 k ∨ (Value.slice (some ⟨wr.heap.size, 0, none⟩) 0 0).ownBlock = some k) Fd X ⟨s, a, capv, rs, T, [], 0, false⟩ := ⟨⟨rvj, _, wv, hl7⟩, H.out.disk.kept hC7 (fun k hk hF => H.out.off k hF hk), fun k hk hF => (hF7 k hk).elim (fun h => H.out.off k h hF) (fun h => by have := H.out.disk.lt k hF; omega)⟩
          have HLA := Lib.hid hLA
          have HFC := Lib.hid (And.intro hF7 hC7)
          clear ho6 hc6 hT hn6 ho7 hl6 hl7 hc7 hnew hsW hC7 hF7 hLA hlogr hF2
          go_wp2_with fail
          go_ret2
          rw [HT.out]
          exact ⟨rfl, _, HLA.out, HFC.out.1, HFC.out.2⟩
        · have hslT : SlAt wr (.slice (some ⟨g, K, none⟩) (u - K) (capv - K)) (cellsB ((framesB rs).drop (u / 64 * 64))) := by
            have h1 := slat_sub (SlAt.of_own HLd2.out.all) g 0 K (u - K) (capv - K) rfl (by have := HN6.out; rw [bytesOf_len H64.out f k (by have := HI.out; have := HKk.out; omega)]; omega)
            rw [Nat.zero_add] at h1
            have h2 : ((bytesOf X f k).drop K).take (u - K) = (framesB rs).drop K := by rw [← HRk.out, List.drop_take]
            rw [h2, ← hK] at h1
            rw [hK] at h1
            rw [hK]
            exact h1
          have hck' : ¬ K = capv := fun e => hck e.symm
          clear hK
          obtain ⟨v6, w6, hr6, ho6, hc6⟩ := fresh_copy wr hslT (by rw [List.length_drop, HLu.out]; omega)
          obtain ⟨T, hT⟩ : ∃ T, (framesB rs).drop (u / 64 * 64) = T := ⟨_, rfl⟩
          rw [hT] at ho6
          have HT := Lib.hid hT
          obtain ⟨n6, hn6⟩ : ∃ n6, T.length = n6 := ⟨_, rfl⟩
          rw [hn6] at ho6
          obtain ⟨oa6, cap6, rfl⟩ := own_slice ho6
          have HR6 := Lib.hid hr6
          clear hr6 hslT
          have ho7 : w6.ownsRow 0 5 1 (Value.slice oa6 n6 cap6) T.length (cellsB T) := by
            rw [hn6]
            exact own_lower ho6 (Nat.zero_le _)
          have hl6 := hlogr.kept hc6 (fun _ _ h => h)
          have k5 : w6.cell? ⟨l, 5, none⟩ = some tv := hl6.head.cell rfl
          have z5 : w6.frozen? ⟨l, 5, none⟩ = false := hl6.head.free
          have c3a : (wr.alloc (.cells #[] 5)).cell? ⟨l, 3, none⟩ = some (.int .i64 (u : Nat)) := by
            have h1 : Chg (fun _ => False) wr (wr.alloc (.cells #[] 5)) := (Chg.refl _ _).alloc _
            exact h1.cell (hlogr.head.cell (i := 3) rfl) id
          obtain ⟨hl7, hc7⟩ := hl6.setTail T _ ho7
          have hnew : ∀ k, (Value.slice oa6 n6 cap6).ownBlock = some k → wr.heap.size ≤ k := fun k hk => (ho6.lt k hk).1
          have hsW := HLd2.out.chg.size
          have hC7 := (HLd2.out.chg.trans' (hc6.mono (fun _ _ h => h.elim))).trans hc7 (fun k hk e => by
            have e : k = l := e
            rw [e]
            exact HL.out.fl)
          have hF7 : ∀ k, (F2 k ∨ (Value.slice oa6 n6 cap6).ownBlock = some k) → F k ∨ w.heap.size ≤ k := fun k hk => hk.elim (hF2 k) (fun h => Or.inr (by have := hnew k h; omega))
          have hLA : LogAt (w6.setCell ⟨l, 5, none⟩ (Value.slice oa6 n6 cap6)) l d (fun k => F2 k ∨ (Value.slice oa6 n6 cap6).ownBlock = some k) Fd X ⟨s, a, u, rs, T, [], 0, false⟩ := ⟨⟨rvj, _, wv, hl7⟩, H.out.disk.kept hC7 (fun k hk hF => H.out.off k hF hk), fun k hk hF => (hF7 k hk).elim (fun h => H.out.off k h hF) (fun h => by have := H.out.disk.lt k hF; omega)⟩
          have HLA := Lib.hid hLA
          have HFC := Lib.hid (And.intro hF7 hC7)
          clear ho6 hc6 hT hn6 ho7 hl6 hl7 hc7 hnew hsW hC7 hF7 hLA hlogr hF2
          go_wp2_with (first | (at_builtin; refine Lib.wpList_append_run _ rfl _ _ _ _ rfl _ _ rfl rfl _ _ HR6.out ?_))
          go_ret2
          rw [HT.out]
          exact ⟨rfl, _, HLA.out, HFC.out.1, HFC.out.2⟩

end Go.Proofs.YtbjagmlbamjdbaaGreat.wals
end

/- . -/
import Derived.Test.YtbjagmlbamjdbaaGreatPx7RootOnce

set_option linter.unusedSimpArgs false
set_option linter.unusedVariables false
section
namespace Go.Proofs.YtbjagmlbamjdbaaGreat.wals
open Go.RowKit Go.My disks bufs
set_option maxRecDepth 100000

variable {w w' : World} {l d : Nat} {F Fd : Nat → Prop} {X : DV} {V : LV} {rv tv wv : Value}

theorem first_fresh (w : World) (h : LogAt w l d F Fd X V) (h2 : 2 ≤ X.B.length) (hle : X.B.length ≤ 4096) (a : Nat) (ha : a ≤ 1) (m : FreshW w) :
    Calls Tryz.prog 153 #[.pointer (some ⟨l, 0, none⟩), .int .i64 a] m.val fun e w'' => e = .returned (.int .i64 (firstN X.B.length a : Int)) ∧ ∃ m' : FreshW w, w'' = m'.val :=
  fresh_call ((first_any _ (h.fresh m.chg) h2 hle a ha).mono (fun _ _ hh => ⟨hh.1, hh.2 ▸ Chg.refl _ _⟩))

def writeV (V : LV) (n : Int) (s a u : Nat) (t : Blk) : LV := if n = 0 then { V with seq := s, area := a, used := u, tail := t } else V

structure Wr1 (W w : World) (v : Value) (tl : Blk) (rs : List Blk) (s a u k : Nat) : Prop where
  own : w.ownsRow (W.heap.size + 1) 5 1 v (tl ++ framesB (rs.take k)).length (cellsB (tl ++ framesB (rs.take k)))
  hd : Arr w W.heap.size 175 [.int .i64 s, .int .i64 a, .int .i64 ((u + (framesB (rs.take k)).length : Nat) : Int)]
  chg : Chg (fun _ => False) W w

structure Wr2 (W W1 w : World) (l d : Nat) (F Fd : Nat → Prop) (X : DV) (V : LV) (v : Value) (b : Blk) (s a u pl j : Nat) (Xj : DV) (Fj : Nat → Prop) : Prop where
  log : LogAt w l d F Fj Xj V
  sub : ∀ k, Fj k → Fd k ∨ W1.heap.size ≤ k
  own : w.ownsRow (W.heap.size + 1) 5 1 v b.length (cellsB b)
  old : ∀ g, v.ownBlock = some g → g < W1.heap.size
  hd : Arr w W.heap.size 175 [.int .i64 s, .int .i64 a, .int .i64 u]
  chg : Chg Fd W w
  same : wrBlocks X pl (chunks b) = wrBlocks Xj (pl + j) ((chunks b).drop j)
  lens : ∀ i, (Xj.L i).length < 500000 + j
  fuse : Xj.fuse ≤ 9223372036854775807
  len : Xj.B.length = X.B.length
  size : W1.heap.size ≤ w.heap.size

theorem chunks_drop (b : Blk) {j : Nat} (h : j < (b.length + 63) / 64) : (chunks b).drop j = chunkAt b j :: (chunks b).drop (j + 1) := by
  rw [List.drop_eq_getElem_cons (by rw [chunks_length]; exact h)]
  congr 1
  have := chunks_get b h
  rwa [List.getElem?_eq_getElem (by rw [chunks_length]; exact h), Option.some.injEq] at this

theorem wrBlocks_cons (X : DV) (pl : Nat) (c : Blk) (cs : List Blk) (hc : c.length = 64) : wrBlocks X pl (c :: cs) = if writeC X (pl : Int) 64 ≠ 0 then (writeC X (pl : Int) 64, X.write (pl : Int) c) else wrBlocks (X.write (pl : Int) c) (pl + 1) cs := by
  rw [wrBlocks, hc]

theorem write_len (X : DV) (i : Int) (b : Blk) : (X.write i b).B.length = X.B.length := by
  unfold DV.write
  split
  · rfl
  · split
    · rw [burn_B]
    · show X.burn.B.length = _
      rw [burn_B]
theorem write_L (X : DV) (i : Int) (b : Blk) (t : Nat) : ((X.write i b).L t).length ≤ (X.L t).length + 1 := by
  unfold DV.write
  split
  · omega
  · split
    · rw [burn_L]; omega
    · show (if t = i.toNat then X.burn.L t ++ [b] else X.burn.L t).length ≤ _
      rw [burn_L]
      split <;> simp

theorem flush_L (X : DV) (t : Nat) : (X.flush.L t).length ≤ (X.L t).length := by
  unfold DV.flush
  split
  · exact Nat.le_refl _
  · split
    · rw [burn_L]; exact Nat.le_refl _
    · exact Nat.zero_le _

theorem LogIs.setTail (h : LogIs w l d F V rv tv wv) (t : Blk) (v : Value) (hv : w.ownsRow 0 5 1 v t.length (cellsB t)) : LogIs (w.setCell ⟨l, 5, none⟩ v) l d (fun k => F k ∨ v.ownBlock = some k) { V with tail := t } rv v wv ∧ Chg (· = l) w (w.setCell ⟨l, 5, none⟩ v) := by
  have hc : Chg (· = l) w (w.setCell ⟨l, 5, none⟩ v) := Chg.setCell (S := (· = l)) (Chg.refl _ _) (fun _ => rfl) _
  have hne : ∀ {base n : Nat} {e : TypeId} {v : Value} {xs : List Value}, w.ownsRow base e 1 v n xs → e ≠ 177 → ∀ g, v.ownBlock = some g → g ≠ l := by
    intro base n e v xs ho hne g hg e1
    obtain ⟨cur, hcur⟩ := row_obj ho hg
    rw [e1, h.head] at hcur
    simp only [Option.some.injEq, Obj.cells.injEq] at hcur
    exact hne hcur.2.1.symm
  refine ⟨⟨h.head.set 5 v, row_kept h.recs hc (hne h.recs (by decide)), row_kept hv hc (hne hv (by decide)), row_kept h.wait hc (hne h.wait (by decide)), h.rw, Or.inl h.fl, fun g hg => Or.inl (h.fr g hg), fun g hg => Or.inr hg, fun g hg => Or.inl (h.fw g hg), fun k hk => ?_⟩, hc⟩
  have := hc.size
  rcases hk with hk | hk
  · have := h.lt k hk; omega
  · have := (hv.lt k hk).2; omega

theorem fresh_copy (w : World) {oa : Option Addr} {n cap : Nat} {t : Blk} (h : SlAt w (.slice oa n cap) (cellsB t)) (ht : t.length ≤ 1000000) : ∃ v' w', (Builtin.append_ #[101, 101] 101 #[.slice (some ⟨w.heap.size, 0, none⟩) 0 0, .slice oa n cap]).run Tryz.prog (w.alloc (.cells #[] 5)) = .ok v' w' ∧
    w'.ownsRow w.heap.size 5 1 v' t.length (cellsB t) ∧ Chg (fun _ => False) w w' := by
  have hc1 : Chg (fun _ => False) w (w.alloc (.cells #[] 5)) := (Chg.refl _ _).alloc _
  have ho : (w.alloc (.cells #[] 5)).ownsRow w.heap.size 5 1 (.slice (some ⟨w.heap.size, 0, none⟩) 0 0) 0 (cellsB []) := own_of_block (n := 0) at1 (Nat.le_refl _) rfl (by unfold maxLen; omega)
  obtain ⟨v2, w2, hr2, ho2, hg2, -⟩ := append_bytes ho (h.kept hc1) (by rw [World.size_alloc]; omega) (by simp; omega) 101
  exact ⟨v2, w2, hr2, by simpa using ho2, hc1.append ho (Chg.refl _ _) hg2⟩

theorem addr_add (g o p : Nat) : (⟨g, o, none⟩ : Addr).add p = ⟨g, o + p, none⟩ := by unfold Addr.add; split <;> simp_all

theorem chunk_cells (b : Blk) (j m : Nat) (hm : min b.length (64 * j + 64) = m) (h : 64 * j < b.length) :
    cellsB ((b.drop (64 * j)).take (m - 64 * j)) ++ (List.replicate 64 (Value.int .u8 0)).drop (m - 64 * j) = cellsB (chunkAt b j) := by
  unfold chunkAt
  have h1 : cellsB ((b.drop (64 * j)).take 64 ++ zeros (64 - (b.drop (64 * j)).length)) = cellsB ((b.drop (64 * j)).take 64) ++ List.replicate (64 - (b.drop (64 * j)).length) (Value.int .u8 0) := by simp [cellsB, zeros]
  rw [h1, List.drop_replicate, List.length_drop]
  congr 1
  · congr 1
    apply List.ext_getElem?
    intro p
    by_cases hp : p < m - 64 * j
    · rw [List.getElem?_take_of_lt hp, List.getElem?_take_of_lt (by omega)]
    · rw [List.getElem?_eq_none (by rw [List.length_take]; omega), List.getElem?_eq_none (by rw [List.length_take, List.length_drop]; omega)]
  · congr 1; omega

theorem sizeB_take (rs : List Blk) (k : Nat) : sizeB (rs.take k) ≤ sizeB rs := by
  have h : sizeB rs = sizeB (rs.take k) + sizeB (rs.drop k) := by
    rw [← framesB_length, ← framesB_length, ← framesB_length, ← List.length_append, ← framesB_append, List.take_append_drop]
  omega

theorem framesB_take {rs : List Blk} {k : Nat} {r : Blk} (h : rs[k]? = some r) : framesB (rs.take (k + 1)) = framesB (rs.take k) ++ frameB r := by
  rw [List.take_add_one, h, Option.toList_some, framesB_append]
  simp [framesB]

set_option maxHeartbeats 2000000 in
theorem write_log (w : World) (h : LogAt w l d F Fd X V) (h6 : 6 ≤ X.B.length) (hle : X.B.length ≤ 4096) (rs : List Blk) (rsv : Value) (hrs : SlAt w rsv (rs.map strV)) (hshort : ∀ r ∈ rs, r.length ≤ 4096) (hsz : sizeB rs ≤ 262144)
    (tl : Blk) (tlv : Value) (htl : SlAt w tlv (cellsB tl)) (ht64 : tl.length ≤ 64) (s a u : Nat) (hs : s < 9223372036854775808) (ha : a ≤ 1) (hu : u ≤ 131072) (hf : X.fuse ≤ 9223372036854775807) (hL : ∀ j, (X.L j).length < 500000) :
    Calls Tryz.prog 128 #[.pointer (some ⟨l, 0, none⟩), rsv, tlv, .agg #[.int .i64 s, .int .i64 a, .int .i64 u]] w
      (LogPost w l d F Fd (layF X (firstN X.B.length a + u / 64) (tl ++ framesB rs) s a (u + (framesB rs).length)).1 (layF X (firstN X.B.length a + u / 64) (tl ++ framesB rs) s a (u + (framesB rs).length)).2 (writeV V (layF X (firstN X.B.length a + u / 64) (tl ++ framesB rs) s a (u + (framesB rs).length)).1 s a (u + (framesB rs).length) ((tl ++ framesB rs).drop ((tl ++ framesB rs).length / 64 * 64)))) := by
  obtain ⟨oar, capr, rfl, hr2, hr3⟩ := hrs
  obtain ⟨oat, capt, rfl, ht2, ht3⟩ := htl
  rw [List.length_map] at *
  rw [cellsB_length] at *
  have HRs := Lib.hid (show SlAt w (.slice oar rs.length capr) (rs.map strV) from ⟨oar, capr, by rw [List.length_map], hr2, hr3⟩)
  have HTl := Lib.hid (show SlAt w (.slice oat tl.length capt) (cellsB tl) from ⟨oat, capt, by rw [cellsB_length], ht2, ht3⟩)
  have H := Lib.hid h
  have HN := Lib.hid (And.intro h6 hle)
  have HSh := Lib.hid hshort
  have HSz := Lib.hid (And.intro hsz ht64)
  have HS := Lib.hid (And.intro hs (And.intro ha hu))
  have HF := Lib.hid hf
  have HL := Lib.hid hL
  obtain ⟨w0, hw0⟩ : ∃ w0, w.alloc (.cells #[.int .i64 s, .int .i64 a, .int .i64 u] 175) = w0 := ⟨_, rfl⟩
  have hc0 : Chg (fun _ => False) w w0 := by rw [← hw0]; exact (Chg.refl _ _).alloc _
  have hA0 : Arr w0 w.heap.size 175 [.int .i64 s, .int .i64 a, .int .i64 u] := by rw [← hw0]; exact at1
  have hfr := first_fresh w0 (h.fresh hc0) (by omega) hle a ha
  have q1 : ∀ n : FreshW w0, n.val.cell? ⟨w.heap.size, 1, none⟩ = some (.int .i64 a) := fun n => n.chg.cell (hA0.cell rfl) id
  have q2 : ∀ n : FreshW w0, n.val.cell? ⟨w.heap.size, 2, none⟩ = some (.int .i64 u) := fun n => n.chg.cell (hA0.cell rfl) id
  obtain ⟨pl0, hpl0⟩ : ∃ pl0, firstN X.B.length a = pl0 := ⟨_, rfl⟩
  rw [hpl0] at hfr ⊢
  have HPl := Lib.hid hpl0
  have HFr := Lib.hid hfr
  have HC0 := Lib.hid hc0
  have HA0 := Lib.hid hA0
  have HW0 := Lib.hid hw0
  obtain ⟨R, hR⟩ : ∃ R, layF X (pl0 + u / 64) (tl ++ framesB rs) s a (u + (framesB rs).length) = R := ⟨_, rfl⟩
  rw [hR]
  have HR := Lib.hid hR
  obtain ⟨V', hV'⟩ : ∃ V', writeV V R.1 s a (u + (framesB rs).length) ((tl ++ framesB rs).drop ((tl ++ framesB rs).length / 64 * 64)) = V' := ⟨_, rfl⟩
  rw [hV']
  have HV' := Lib.hid hV'
  have i1 : (pl0 : Int) ≤ 4096 := by rw [← hpl0]; have := area_in h6 ha; omega
  have i2 : (u : Int) ≤ 131072 := by omega
  clear h h6 hle hshort hsz ht64 hs ha hu hf hL hr2 hr3 ht2 ht3 hpl0 hR hfr hc0 hA0 hw0 hV'
  go_enter Tryz.func128, Tryz.ntmps128
  go_wp2_with fail
  rw [HW0.out]
  refine wp_region_fresh (by kernel_rfl) (by kernel_rfl) ?_
  repeat (go_big_quiet_step ((go_at_call 153; exact HFr.out _)))
  refine wpQuiet_nil ?_
  rintro _ ⟨n1, rfl⟩
  clear q1 q2 HFr
  obtain ⟨w1, hw1⟩ : ∃ w1, n1.val = w1 := ⟨_, rfl⟩
  have hc1 : Chg (fun _ => False) w0 w1 := by rw [← hw1]; exact n1.chg
  rw [hw1]
  have hA1 : Arr w1 w.heap.size 175 [.int .i64 s, .int .i64 a, .int .i64 u] := hc1.at HA0.out id
  have hlt1 : w.heap.size < w1.heap.size := lt_of_block hA1
  have ha1 : Chg (fun _ => False) w1 (w1.alloc (.cells #[] 5)) := (Chg.refl _ _).alloc _
  have ho1 : (w1.alloc (.cells #[] 5)).ownsRow (w.heap.size + 1) 5 1 (.slice (some ⟨w1.heap.size, 0, none⟩) 0 0) 0 (cellsB []) := own_of_block (n := 0) at1 (by omega) rfl (by unfold maxLen; omega)
  obtain ⟨v2, w2, hr2, ho2, hg2⟩ := append_step ho1 (HTl.out.kept ((HC0.out.trans' hc1).trans' ha1)) (by rw [World.size_alloc]; omega) (by have := HSz.out.2; simp; omega) 101
  have h1 : Wr1 w w2 v2 tl rs s a u 0 := by
    refine ⟨by simpa [framesB] using ho2, ?_, ((HC0.out.trans' hc1).trans' ha1).new hg2 (fun i hi => by omega)⟩
    have := hg2.at (ha1.at hA1 id) (by omega)
    simpa [framesB, Arr] using this
  have HR2 := Lib.hid hr2
  have HW1 := Lib.hid h1
  clear hw1 hc1 hA1 hlt1 ha1 ho1 hr2 ho2 hg2 h1 HA0 HC0 HW0
  go_wp2_with (first
    | (at_builtin; refine Lib.wpList_append_run _ rfl _ _ _ _ rfl _ _ rfl rfl _ _ HR2.out ?_))
  have hrl : rs.length ≤ 262144 := by have := sizeB_ge rs; have := HSz.out.1; omega
  go_loopw [10, 33] (fun v j wr => ∃ k : Nat, j = .int .i64 k ∧ k ≤ rs.length ∧ Wr1 w wr v tl rs s a u k) (fun _ j _ => rs.length - (intOf j).toNat)
  · exact ⟨0, rfl, Nat.zero_le _, HW1.out⟩
  clear HW1 HR2
  obtain ⟨k, rfl, hk, hW⟩ := hrel
  have HW := Lib.hid hW
  clear hW
  by_cases hlt : k < rs.length
  · have hlt' : (k : Int) < (rs.length : Int) := by omega
    obtain ⟨r, hr⟩ : ∃ r, rs[k]? = some r := ⟨rs[k], List.getElem?_eq_getElem hlt⟩
    obtain ⟨b, off, rfl, hcell⟩ : ∃ b off, oar = some ⟨b, off, none⟩ ∧ wr.cell? ⟨b, off + k, none⟩ = some (strV r) := by
      obtain ⟨oa', cap', e1, e2, e3⟩ := HRs.out.kept HW.out.chg
      simp only [Value.slice.injEq] at e1
      obtain ⟨b, off, e4⟩ := e2 (by intro e; have := congrArg List.length e; rw [List.length_map] at this; simp at this; rw [this] at hlt; simp at hlt)
      exact ⟨b, off, by rw [e1.1, e4], e3 b off e4 k _ (by rw [List.getElem?_map, hr]; rfl)⟩
    have hrs4 : r.length ≤ 4096 := HSh.out r (List.mem_of_getElem? hr)
    have hfk := framesB_take hr
    have hfl := frameB_length r
    have htk := sizeB_take rs k
    rw [← framesB_length] at htk
    obtain ⟨sr, hsr⟩ : ∃ sr : ByteArray, ⟨r.toArray⟩ = sr := ⟨_, rfl⟩
    unfold strV at hcell
    rw [hsr] at hcell
    obtain ⟨v3, w3, hcv, hs3, hc3, g3, cap3, hv3, -⟩ := string_bytes wr sr
    rw [← hsr] at hs3
    have hs3 : SlAt w3 v3 (cellsB r) := by simpa using hs3
    subst hv3
    have hWr3 := HW.out.own
    obtain ⟨B, hB⟩ : ∃ B, tl ++ framesB (rs.take k) = B := ⟨_, rfl⟩
    have hBl : B.length ≤ 262300 := by rw [← hB, List.length_append]; have := HSz.out; omega
    obtain ⟨U, hU⟩ : ∃ U, u + (framesB (rs.take k)).length = U := ⟨_, rfl⟩
    have hUl : (U : Int) ≤ 400000 := by have := HSz.out; omega
    have hAr := HW.out.hd
    rw [hU] at hAr
    rw [hB] at hWr3
    have c2 : wr.cell? ⟨w.heap.size, 2, none⟩ = some (.int .i64 U) := hAr.cell rfl
    have HA := Lib.hid hAr
    have HO := Lib.hid hWr3
    have HS3 := Lib.hid hs3
    have HC3 := Lib.hid hc3
    have HFk := Lib.hid hfk
    have HBe := Lib.hid hB
    have HUe := Lib.hid hU
    have HR4 := Lib.hid hrs4
    have HB := Lib.hid hBl
    have HCw := Lib.hid HW.out.chg
    have hfi : ((frameB r).length : Int) ≤ 4104 := by omega
    clear hfk hfl htk hsr hs3 hc3 hWr3 hB hBl hU hAr hrs4 hr HW
    go_wp2_with (first
      | (go_at_call 165; fail))
    refine (frame_any w3 _ _ _ r HS3.out HR4.out).mono ?_
    rintro e w4 ⟨f, rfl, hf4, hc4⟩
    obtain ⟨oaf, capf, rfl⟩ := own_slice hf4
    have hc34 := HC3.out.trans' hc4
    have hsz := HCw.out.size
    have hszA := lt_of_block HA.out
    obtain ⟨v5, w5, hr5, ho5, hg5⟩ := append_step (own_kept HO.out hc34) (SlAt.of_own hf4) (by have := hc34.size; omega) (by have := HB.out; omega) 101
    have hA5 : Arr w5 w.heap.size 175 [.int .i64 s, .int .i64 a, .int .i64 U] := hg5.at (hc34.at HA.out id) (by omega)
    have hC5 : Chg (fun _ => False) w w5 := (HCw.out.trans' hc34).new hg5 (fun i hi => by omega)
    have c5 : w5.cell? ⟨w.heap.size, 2, none⟩ = some (.int .i64 U) := hA5.cell rfl
    have z5 : w5.frozen? ⟨w.heap.size, 2, none⟩ = false := hA5.free
    have HR5 := Lib.hid hr5
    have HO5 := Lib.hid ho5
    have HA5 := Lib.hid hA5
    have HC5 := Lib.hid hC5
    clear hr5 ho5 hg5 hA5 hC5 hf4 hc4 hc34 c2 hszA hsz
    dsimp only
    go_wp2_with (first
      | (at_builtin; refine Lib.wpList_append_run _ rfl _ _ _ _ rfl _ _ rfl rfl _ _ HR5.out ?_))
    refine ⟨⟨k + 1, by go_num, by omega, ?_⟩, by simp [intOf]; omega⟩
    refine ⟨?_, ?_, HC5.out.setCell (fun h => absurd h (Nat.lt_irrefl _)) _⟩
    · rw [HFk.out, ← List.append_assoc, HBe.out]
      refine row_kept HO5.out (S := (· = w.heap.size)) (Chg.setCell (S := (· = w.heap.size)) (Chg.refl _ _) (fun _ => rfl) _) (fun g hg e => ?_)
      have := (HO5.out.lt g hg).1
      omega
    · have h6 := HA5.out.set 2 (.int .i64 ((U : Int) + ((frameB r).length : Int)))
      rw [HFk.out, List.length_append, ← Nat.add_assoc, HUe.out]
      simpa using h6
  · obtain rfl : k = rs.length := by omega
    have hO := HW.out.own
    have hA := HW.out.hd
    rw [List.take_of_length_le (Nat.le_refl _)] at hO hA
    obtain ⟨b, hb⟩ : ∃ b, tl ++ framesB rs = b := ⟨_, rfl⟩
    have hbl : (b.length : Int) ≤ 262300 := by rw [← hb, List.length_append, framesB_length]; have := HSz.out; omega
    obtain ⟨U, hU⟩ : ∃ U, u + (framesB rs).length = U := ⟨_, rfl⟩
    obtain ⟨pl, hpl⟩ : ∃ pl, pl0 + u / 64 = pl := ⟨_, rfl⟩
    have hR := HR.out
    have hV' := HV'.out
    rw [hU, hb] at hR hV'
    rw [hpl] at hR
    rw [hb] at hO
    rw [hU] at hA
    have hpi : (pl0 : Int) + (u : Int) / 64 = (pl : Int) := by rw [← hpl]; omega
    have hpb : (pl : Int) ≤ 10000 := by rw [← hpl]; omega
    have hUb : U ≤ 400000 := by rw [← hU, framesB_length]; have := HSz.out; have := HS.out.2.2; omega
    have h2 : Wr2 w wr wr l d F Fd X V u10 b s a U pl 0 X Fd := ⟨H.out.fresh HW.out.chg, fun k hk => Or.inl hk, hO, fun g hg => (hO.lt g hg).2, hA, HW.out.chg.mono (fun _ _ h => h.elim), by simp, fun i => by have := HL.out i; omega, HF.out, rfl, Nat.le_refl _⟩
    have HW2 := Lib.hid h2
    have HR' := Lib.hid hR
    have HV'' := Lib.hid hV'
    have HUb := Lib.hid hUb
    have HBl := Lib.hid hbl
    clear hO hA hb hbl hU hpl hR hV' h2 HR HV' HW hUb
    obtain ⟨oab, capb, rfl⟩ := own_slice HW2.out.own
    go_wp2_with fail
    rw [hpi]
    clear hpi
    have HW2hd := Lib.hid HW2.out.hd
    rename World => wL
    go_loopw [15] (fun iv w' => ∃ (i j : Nat) (Xj : DV) (Fj : Nat → Prop), iv = .int .i64 (i : Int) ∧ i = 64 * j ∧ j ≤ (b.length + 63) / 64 ∧ Wr2 w wL w' l d F Fd X V (.slice oab b.length capb) b s a U pl j Xj Fj) (fun iv _ => 64 * ((b.length + 63) / 64) - (intOf iv).toNat)
    · exact ⟨0, 0, X, Fd, rfl, rfl, Nat.zero_le _, HW2.out⟩
    clear HW2
    obtain ⟨i, j, Xj, Fj, rfl, hij, hjN, hW2⟩ := hrel
    have HJ := Lib.hid hW2
    clear hW2
    by_cases hlt : i < b.length
    · have hlt' : (i : Int) < (b.length : Int) := by omega
      obtain ⟨gb, capb', eb, hgb, hgb2⟩ := own_nonnil HJ.out.own (by intro e; rw [e] at hlt; simp at hlt)
      simp only [Value.slice.injEq, true_and] at eb
      obtain ⟨rfl, rfl⟩ := eb
      have hcapb : (b.length : Int) ≤ (capb : Int) := by
        rcases HJ.out.own.2 with ⟨e, _⟩ | ⟨_, _, _, e, _, _, h7, _⟩
        · cases e
        · cases e; omega
      go_wp2_with fail
      refine wp_forget wr 178 (List.replicate 64 (.int .u8 0)) (fun wz hZ hcz => ?_)
      have HZ := Lib.hid hZ
      have HCz := Lib.hid hcz
      clear hZ hcz
      obtain ⟨m, hm⟩ : ∃ m, min b.length (i + 64) = m := ⟨_, rfl⟩
      have hme : i < m ∧ m ≤ b.length ∧ m ≤ i + 64 := by omega
      have hw64 : IntKind.i64.wrap ((i : Int) + 64) = (i : Int) + 64 := IntWalk.i64_in _ (by have := HBl.out; omega)
      have hmin : min (b.length : Int) ((i : Int) + 64) = (m : Int) := by omega
      have hmx : max (m : Int) 0 = (m : Int) := by omega
      have hmc : (m : Int) ≤ (capb : Int) := by omega
      have him : (i : Int) ≤ (m : Int) := by omega
      have hci : ¬ capb = i := by omega
      have HIJ := Lib.hid hij
      have HM := Lib.hid (And.intro hm hme)
      clear hij hm hme
      refine wp_region_noPanic ?_
      refine wp_region_held_drew (S := (fun _ => True)) (by kernel_rfl) (trivial) (fun hHeld => ?_)
      refine tk 0 (v := ?_) hHeld rfl (fun w hSw => ?_) ?_
      rotate_left
      · go_simp
        try with_reducible rfl
      simp only [Act.put, zA, zB, zC]
      refine tk 1 (v := ?_) hHeld rfl (fun w hSw => ?_) ?_
      rotate_left
      · go_simp
        try with_reducible rfl
      simp only [Act.put, zA, zB, zC]
      refine tk 2 (v := ?_) hHeld rfl (fun w hSw => ?_) ?_
      rotate_left
      · go_simp
        try with_reducible rfl
      simp only [Act.put, zA, zB, zC]
      refine tk 3 (v := ?_) hHeld rfl (fun w hSw => ?_) ?_
      rotate_left
      · go_simp
        try with_reducible rfl
      simp only [Act.put, zA, zB, zC]
      refine tk 4 (v := ?_) hHeld rfl (fun w hSw => ?_) ?_
      rotate_left
      · go_simp
        try with_reducible rfl
      simp only [Act.put, zA, zB, zC]
      refine tk 5 (v := ?_) hHeld rfl (fun w hSw => ?_) ?_
      rotate_left
      · go_simp
        try with_reducible rfl
      simp only [Act.put, zA, zB, zC]
      refine tk 6 (v := ?_) hHeld rfl (fun w hSw => ?_) ?_
      rotate_left
      · go_simp
        try with_reducible rfl
      simp only [Act.put, zA, zB, zC]
      refine tk 7 (v := ?_) hHeld rfl (fun w hSw => ?_) ?_
      rotate_left
      · go_simp
        try with_reducible rfl
      simp only [Act.put, zA, zB, zC]
      refine tk 8 (v := ?_) hHeld rfl (fun w hSw => ?_) ?_
      rotate_left
      · go_simp
        try with_reducible rfl
      simp only [Act.put, zA, zB, zC]
      refine on1 9 rfl (fun K hK => ?_)
      have hcs : (cellsB ((b.drop i).take (m - i))).length = Nat.min (m - i) 64 := by
        have := HM.out
        rw [cellsB_length, List.length_take, List.length_drop]
        show _ = min (m - i) 64
        omega
      have hcl : (cellsB ((b.drop i).take (m - i))).length = m - i := by rw [hcs]; have := HM.out; show min (m - i) 64 = _; omega
      have hrun := run_copy_cells (P := Tryz.prog) wz.drew 101 101 3 5 wr.heap.size 0 64 64 ⟨gb, i, none⟩ (m - i) (capb - i) (cellsB ((b.drop i).take (m - i))) Tryz.underlying101 (by kernel_rfl) hcs
        (fun p x hx => by
          have hp : p < m - i := by have := (List.getElem?_eq_some_iff.1 hx).1; rwa [hcl] at this
          rw [addr_add]
          have h1 : (cellsB b)[i + p]? = some x := by
            simp only [cellsB, List.getElem?_map, List.getElem?_take_of_lt hp, List.getElem?_drop] at hx ⊢
            exact hx
          have h2 := HJ.out.own.cells (g := gb) rfl (i + p) x h1
          rw [addr_add, Nat.zero_add] at h2
          exact HCz.out.cell h2 id)
        (fun p hp => by rw [hcl] at hp; have := HM.out; exact (HZ.out.there p (by rw [List.length_replicate]; omega)).1)
        (fun p hp => HZ.out.free) (one_cellsB _)
      refine oper_copy _ _ _ _ rfl rfl rfl hrun ?_
      have hst : Arr (wz.drew.setCells wr.heap.size 0 (cellsB ((b.drop i).take (m - i)))) wr.heap.size 178 (cellsB (chunkAt b j)) := by
        have h1 := arr_setCells (cellsB ((b.drop i).take (m - i))) 0 wz.drew (List.replicate 64 (.int .u8 0)) HZ.out (by rw [hcl, List.length_replicate]; have := HM.out; omega)
        rw [hcl, List.take_zero, List.nil_append, Nat.zero_add] at h1
        have h2 := chunk_cells b j m (by rw [← HIJ.out]; exact HM.out.1) (by rw [← HIJ.out]; omega)
        rw [← HIJ.out] at h2
        rw [h2] at h1
        exact h1
      have hcc : Chg (fun _ => False) wr (wz.drew.setCells wr.heap.size 0 (cellsB ((b.drop i).take (m - i)))) := (HCz.out.trans' (Chg.refl _ wz).drew).new (chg_setCells _ _ _ _) (fun g hg => by omega)
      obtain ⟨wc, hwc⟩ : ∃ wc, wz.drew.setCells wr.heap.size 0 (cellsB ((b.drop i).take (m - i))) = wc := ⟨_, rfl⟩
      rw [hwc] at hst hcc ⊢
      have HSt := Lib.hid hst
      have HCc := Lib.hid hcc
      clear hwc hst hcc hrun hcs hcl HZ HCz HM hw64 hmin hmx hmc him hci
      refine hK _ _ (trivial) (fun hHeld2 => ?_)
      try simp only [Act.put, zA, zB, zC]
      refine wpAnyH_done (by kernel_rfl) ?_ _
      refine NoPanic.normal ?_
      clear hHeld hHeld2
      go_wp2_with fail
      obtain ⟨q, hq⟩ : ∃ q, pl + j = q := ⟨_, rfl⟩
      have hjb : j ≤ 4200 := by have := HBl.out; omega
      have hq1 : (i : Int) / 64 = (j : Int) := by have := HIJ.out; omega
      have hq2 : (i : Int).tdiv 64 = (j : Int) := by rw [Int.tdiv_eq_ediv_of_nonneg (by omega)]; exact hq1
      have hq3 : IntKind.i64.wrap ((pl : Int) + (j : Int)) = (q : Int) := by rw [← hq, IntWalk.i64_in _ (by omega)]; exact (Int.natCast_add pl j).symm
      have hq0 : IntKind.i64.wrap (j : Int) = (j : Int) := IntWalk.i64_in _ (by omega)
      have hqb : q ≤ 20000 := by clear hq3 hq0; omega
      have hcd : wc.cell? ⟨l, 0, none⟩ = some (.pointer (some ⟨d, 0, none⟩)) := by
        obtain ⟨⟨rv, tv, wv, hl⟩, -, -⟩ := HJ.out.log
        exact HCc.out.cell (hl.head.cell rfl) id
      have HLc := Lib.hid (HJ.out.log.fresh HCc.out)
      have HSl := Lib.hid (show SlAt wc (.slice (some ⟨wr.heap.size, 0, none⟩) 64 64) (cellsB (chunkAt b j)) from by
        have := blk_sub HSt.out 0 64 64 (by rw [chunkAt_length]; omega) (by omega)
        rwa [List.drop_zero, List.take_of_length_le (by rw [chunkAt_length]; omega)] at this)
      have HQ := Lib.hid (And.intro hq (And.intro hqb hjb))
      clear hq hqb hjb
      refine wp_region_noPanic ?_
      refine wp_region_held_drew (S := (fun w' => w'.cell? ⟨l, 0, none⟩ = some (.pointer (some ⟨d, 0, none⟩)))) (by kernel_rfl) (hcd) (fun hHeld => ?_)
      refine tk 0 (v := ?_) hHeld rfl (fun w hSw => ?_) ?_
      rotate_left
      · go_simp
        try with_reducible rfl
      simp only [Act.put, zA, zB, zC]
      refine tk 1 (v := ?_) hHeld rfl (fun w hSw => ?_) ?_
      rotate_left
      · go_simp
        try with_reducible rfl
      simp only [Act.put, zA, zB, zC]
      refine tk 2 (v := ?_) hHeld rfl (fun w hSw => ?_) ?_
      rotate_left
      · go_simp
        try with_reducible rfl
      simp only [Act.put, zA, zB, zC]
      refine tk 3 (v := ?_) hHeld rfl (fun w hSw => ?_) ?_
      rotate_left
      · go_simp
        try with_reducible rfl
      simp only [Act.put, zA, zB, zC]
      refine tk 4 (v := ?_) hHeld rfl (fun w hSw => ?_) ?_
      rotate_left
      · go_simp
        try with_reducible rfl
      simp only [Act.put, zA, zB, zC]
      refine tk 5 (v := ?_) hHeld rfl (fun w hSw => ?_) ?_
      rotate_left
      · go_simp
        try with_reducible rfl
      simp only [Act.put, zA, zB, zC]
      refine tk 6 (v := ?_) hHeld rfl (fun w hSw => ?_) ?_
      rotate_left
      · go_simp
        try with_reducible rfl
      simp only [Act.put, zA, zB, zC]
      refine tk 7 (v := ?_) hHeld rfl (fun w hSw => ?_) ?_
      rotate_left
      · go_simp
        try with_reducible rfl
      simp only [Act.put, zA, zB, zC]
      refine tk 8 (v := ?_) hHeld rfl (fun w hSw => ?_) ?_
      rotate_left
      · go_simp
        try with_reducible rfl
      simp only [Act.put, zA, zB, zC]
      refine on1 9 rfl (fun K hK => ?_)
      go_simp
      refine (write_sl _ (HLc.out.disk.fresh (Chg.refl _ _).drew) (q : Int) ⟨by omega, by have := HQ.out; omega⟩ HJ.out.fuse (HSl.out.kept (Chg.refl _ _).drew) (fun g hg hF => ?_) (fun t => by have := HJ.out.lens t; have := HQ.out; omega)).mono ?_
      · simp only [Value.ownBlock, Option.some.injEq] at hg
        have := HJ.out.log.lt g (Or.inr hF)
        omega
      rintro e w3 ⟨rfl, hd3, hc3⟩
      rw [chunkAt_length]
      clear hq0 hq1 hq2 hq3
      have hjlt : j < (b.length + 63) / 64 := by have := HIJ.out; omega
      have hFd : ∀ k, Fd k → k < w.heap.size := fun k hk => H.out.disk.lt k hk
      have hc23 : Chg Fj wc w3 := (Chg.refl _ wc).drew.trans' hc3
      have hszc := HCc.out.size
      have hszJ := HJ.out.size
      have hwL : w.heap.size < wL.heap.size := by
        have h1 := (HJ.out.own.lt gb rfl).1
        have h2 := HJ.out.old gb rfl
        omega
      have hL3 : LogAt w3 l d F (grow Fj wc w3) (Xj.write (q : Int) (chunkAt b j)) V := by
        obtain ⟨⟨rv, tv, wv, hl⟩, -, ho⟩ := HLc.out
        refine ⟨⟨rv, tv, wv, hl.kept hc23 (fun k hk hF => ho k hk hF)⟩, hd3, fun k hk hg => ?_⟩
        rcases hg with hg | hg
        · exact ho k hk hg
        · have := hl.lt k hk
          omega
      have hsub : ∀ k, grow Fj wc w3 k → Fd k ∨ wL.heap.size ≤ k := fun k hk => by
        rcases hk with hk | hk
        · exact HJ.out.sub k hk
        · exact Or.inr (by omega)
      have hchg : Chg Fd w w3 := (HJ.out.chg.trans' (HCc.out.mono (fun _ _ h => h.elim))).trans hc23 (fun g hg hF => by
        rcases HJ.out.sub g hF with h | h
        · exact h
        · omega)
      have hown : w3.ownsRow (w.heap.size + 1) 5 1 (.slice (some ⟨gb, 0, none⟩) b.length capb) b.length (cellsB b) := row_kept (own_kept HJ.out.own HCc.out) hc23 (fun g hg hF => by
        have h1 := (HJ.out.own.lt g hg).1
        have h2 := HJ.out.old g hg
        rcases HJ.out.sub g hF with h | h
        · have := hFd g h; omega
        · omega)
      have hhd : Arr w3 w.heap.size 175 [.int .i64 s, .int .i64 a, .int .i64 U] := hc23.at (HCc.out.at HJ.out.hd id) (fun hF => by
        rcases HJ.out.sub _ hF with h | h
        · have := hFd _ h; omega
        · omega)
      have hcd3 : w3.cell? ⟨l, 0, none⟩ = some (.pointer (some ⟨d, 0, none⟩)) := by
        obtain ⟨⟨rv, tv, wv, hl⟩, -, -⟩ := hL3
        exact hl.head.cell rfl
      have hsame := HJ.out.same
      rw [chunks_drop b hjlt, HQ.out.1, wrBlocks_cons _ _ _ _ (chunkAt_length b j)] at hsame
      have HL3 := Lib.hid hL3
      have HSub := Lib.hid hsub
      have HChg := Lib.hid hchg
      have HOwn := Lib.hid hown
      have HHd := Lib.hid hhd
      have HSame := Lib.hid hsame
      have HSzz := Lib.hid (show wL.heap.size ≤ w3.heap.size by have := hc23.size; omega)
      clear hFd hc23 hszc hszJ hwL hL3 hsub hchg hown hhd hsame hd3 hc3 HLc HSl HSt HCc hcd
      dsimp only
      refine hK _ _ (hcd3) (fun hHeld2 => ?_)
      try simp only [Act.put, zA, zB, zC]
      refine tk 10 (v := ?_) hHeld2 rfl (fun w hSw => ?_) ?_
      rotate_left
      · go_simp
        try with_reducible rfl
      simp only [Act.put, zA, zB, zC]
      refine wpAnyH_done (by kernel_rfl) ?_ _
      refine NoPanic.normal ?_
      clear hHeld hHeld2 hcd3
      by_cases hz : writeC Xj (q : Int) 64 = 0
      · have hzb : (writeC Xj (q : Int) 64 != 0) = false := by simp [hz]
        have HZ0 := Lib.hid hz
        have hib : (i : Int) ≤ 300000 := by have := HBl.out; omega
        clear hz
        go_wp2_with fail
        refine ⟨⟨i + 64, j + 1, Xj.write (q : Int) (chunkAt b j), grow Fj wc w3, by go_num, by have := HIJ.out; omega, hjlt, ?_⟩, by have := HIJ.out; simp [intOf]; omega⟩
        refine ⟨HL3.out, HSub.out, HOwn.out, HJ.out.old, HHd.out, HChg.out, ?_, fun t => ?_, Int.le_trans (goes_write Xj _ _).fuse HJ.out.fuse, (write_len _ _ _).trans HJ.out.len, HSzz.out⟩
        · rw [HSame.out, if_neg (fun h => h HZ0.out), ← HQ.out.1, Nat.add_assoc]
        · have h1 := HJ.out.lens t
          have h2 := write_L Xj (q : Int) (chunkAt b j) t
          omega
      · have hzb : (writeC Xj (q : Int) 64 != 0) = true := by simp [hz]
        have HZ0 := Lib.hid hz
        clear hz
        go_wp2_with fail
        go_ret
        have hw : wrBlocks X pl (chunks b) = (writeC Xj (q : Int) 64, Xj.write (q : Int) (chunkAt b j)) := by rw [HSame.out, if_pos HZ0.out]
        have hRe : R = (writeC Xj (q : Int) 64, Xj.write (q : Int) (chunkAt b j)) := by
          rw [← HR'.out]
          unfold layF
          rw [hw, if_pos HZ0.out]
        have hVe : V' = V := by
          rw [← HV''.out, hRe]
          unfold writeV
          rw [if_neg HZ0.out]
        rw [hRe, hVe]
        exact ⟨rfl, F, _, HL3.out, fun k hk => Or.inl hk, fun k hk => (HSub.out k hk).imp id (fun h => by have := (HJ.out.own.lt gb rfl).1; have := HJ.out.old gb rfl; omega), HChg.out.mono (fun k _ hk => Or.inr hk)⟩
    · obtain rfl : j = (b.length + 63) / 64 := by omega
      have hsame := HJ.out.same
      rw [List.drop_eq_nil_of_le (by rw [chunks_length]; exact Nat.le_refl _)] at hsame
      have HSame := Lib.hid (show wrBlocks X pl (chunks b) = (0, Xj) from hsame)
      have hcd : wr.cell? ⟨l, 0, none⟩ = some (.pointer (some ⟨d, 0, none⟩)) := by
        obtain ⟨⟨rv, tv, wv, hl⟩, -, -⟩ := HJ.out.log
        exact hl.head.cell rfl
      clear hsame hij hjN
      go_wp2_with (first
        | (go_at_call 167; fail))
      refine (flush_at _ HJ.out.log.disk HJ.out.fuse).mono ?_
      rintro e w3 ⟨rfl, hd3, hc3⟩
      have hFd : ∀ k, Fd k → k < w.heap.size := fun k hk => H.out.disk.lt k hk
      have hold : ∀ g, (Value.slice oab b.length capb).ownBlock = some g → w.heap.size + 1 ≤ g ∧ g < wL.heap.size := fun g hg => ⟨(HJ.out.own.lt g hg).1, HJ.out.old g hg⟩
      have hlow : w.heap.size < wL.heap.size := lt_of_block HW2hd.out
      have hFj : ∀ k, Fj k → k < w.heap.size ∨ wL.heap.size ≤ k := fun k hk => (HJ.out.sub k hk).imp (hFd k) id
      have hL3 : LogAt w3 l d F Fj Xj.flush V := by
        obtain ⟨⟨rv, tv, wv, hl⟩, -, ho⟩ := HJ.out.log
        exact ⟨⟨rv, tv, wv, hl.kept hc3 (fun k hk hF => ho k hk hF)⟩, hd3, ho⟩
      have hC3 : Chg Fd w w3 := HJ.out.chg.trans hc3 (fun g hg hF => (HJ.out.sub g hF).resolve_right (by omega))
      have hO3 : w3.ownsRow (w.heap.size + 1) 5 1 (.slice oab b.length capb) b.length (cellsB b) := row_kept HJ.out.own hc3 (fun g hg hF => by
        have := hold g hg
        rcases hFj g hF with h | h <;> omega)
      have hA3 : Arr w3 w.heap.size 175 [.int .i64 s, .int .i64 a, .int .i64 U] := hc3.at HJ.out.hd (fun hF => by rcases hFj _ hF with h | h <;> omega)
      have hLw : w.heap.size ≤ w3.heap.size := hC3.size
      have HL3 := Lib.hid hL3
      have HC3 := Lib.hid hC3
      have HO3 := Lib.hid hO3
      have HA3 := Lib.hid hA3
      have HOld := Lib.hid hold
      have HFj := Lib.hid hFj
      have HLow := Lib.hid hlow
      have HSub := Lib.hid HJ.out.sub
      have HLens : Hid (∀ t, (Xj.flush.L t).length < 1000000) := Lib.hid (fun t => by have h1 := HJ.out.lens t; have h2 := flush_L Xj t; have := HBl.out; omega)
      have HFu : Hid (Xj.flush.fuse ≤ 9223372036854775807) := Lib.hid (Int.le_trans (goes_flush Xj).fuse HJ.out.fuse)
      clear hL3 hC3 hO3 hA3 hold hFj hlow hFd hLw hd3 hc3 hcd
      dsimp only
      by_cases hz : flushC Xj = 0
      · have hzb : (flushC Xj != 0) = false := by simp [hz]
        have HZ0 := Lib.hid hz
        clear hz
        go_wp2_with (first
          | (refine wpList_load_mid rfl 175 _ rfl w.heap.size 0 rfl [.int .i64 s, .int .i64 a, .int .i64 U] _ HA3.out.range Tryz.underlying175 rfl size_head ?_)
          | (go_at_call 151; fail))
        refine (put_any _ HL3.out s a U HS.out.1 (by have := HS.out.2.1; omega) (by have := HUb.out; omega) HFu.out HLens.out).mono ?_
        rintro e w4 ⟨rfl, F4, Fd4, hL4, hF4, hFd4, hc4⟩
        have hRe : R = putH Xj.flush s a U := by
          rw [← HR'.out]
          unfold layF
          rw [HSame.out, if_neg (fun h => h rfl), if_neg (fun h => h HZ0.out)]
        have hC4 : Chg (fun k => F k ∨ Fd k) w w4 := (HC3.out.mono (fun _ _ h => Or.inr h)).trans hc4 (fun g hg hF => by
          rcases hF with hF | hF
          · exact Or.inl hF
          · exact Or.inr ((HSub.out g hF).resolve_right (by have := HLow.out; omega)))
        have hO4 : w4.ownsRow (w.heap.size + 1) 5 1 (.slice oab b.length capb) b.length (cellsB b) := row_kept HO3.out hc4 (fun g hg hF => by
          have h1 := HOld.out g hg
          rcases hF with hF | hF
          · have := H.out.lt g (Or.inl hF); omega
          · rcases HFj.out g hF with h | h <;> omega)
        have hF4' : ∀ k, F4 k → F k ∨ w.heap.size ≤ k := fun k hk => (hF4 k hk).imp id (fun h => by have := HC3.out.size; omega)
        have hFd4' : ∀ k, Fd4 k → Fd k ∨ w.heap.size ≤ k := fun k hk => by
          rcases hFd4 k hk with h | h
          · exact (HSub.out k h).imp id (fun h => by have := HLow.out; omega)
          · exact Or.inr (by have := HC3.out.size; omega)
        rw [← hRe] at hL4 ⊢
        have HRe := Lib.hid hRe
        have HL4 := Lib.hid hL4
        have HC4 := Lib.hid hC4
        have HO4 := Lib.hid hO4
        have HF4 := Lib.hid (And.intro hF4' hFd4')
        clear hRe hL4 hC4 hO4 hF4 hFd4 hF4' hFd4' hc4 HL3 HA3 HO3 HLens HFu
        obtain ⟨n4, hn4⟩ : ∃ n4, R.1 = n4 := ⟨_, rfl⟩
        rw [hn4] at HL4 ⊢
        have HN4 := Lib.hid hn4
        clear hn4
        dsimp only
        by_cases hz4 : n4 = 0
        · subst hz4
          obtain ⟨K, hK⟩ : ∃ K, b.length / 64 * 64 = K := ⟨_, rfl⟩
          have hKi : (b.length : Int) / 64 * 64 = (K : Int) := by omega
          have hKb : (K : Int) ≤ (b.length : Int) := by omega
          have HK := Lib.hid hK
          rcases HO4.out.2 with ⟨e, h0⟩ | ⟨g, cap, cur, e, hbg, hg, hnc, hcm, hcs, ht⟩
          · simp only [Value.slice.injEq] at e
            obtain ⟨rfl, -, rfl⟩ := e
            have hK0 : K = 0 := by omega
            subst hK0
            have hsl : SlAt w4 (.slice none 0 0) (cellsB (b.drop 0)) := by
              have : b = [] := List.eq_nil_of_length_eq_zero h0
              rw [this]
              exact ⟨none, 0, rfl, fun h => absurd rfl h, by simp [cellsB]⟩
            rw [h0] at hKb hKi ⊢
            obtain ⟨v6, w6, hr6, ho6, hc6⟩ := fresh_copy w4 hsl (by rw [List.length_drop]; have := HBl.out; omega)
            obtain ⟨n6, hn6⟩ : ∃ n6, (b.drop (0)).length = n6 := ⟨_, rfl⟩
            rw [hn6] at ho6
            obtain ⟨oa6, cap6, rfl⟩ := own_slice ho6
            have HR6 := Lib.hid hr6
            clear hr6
            have h4 := HL4.out
            unfold putV at h4
            rw [if_pos rfl] at h4
            obtain ⟨⟨rv, tv, wv, hl⟩, hdk, ho⟩ := h4
            have ho7 : w6.ownsRow 0 5 1 (Value.slice oa6 n6 cap6) (b.drop (0)).length (cellsB (b.drop (0))) := by
              rw [hn6]
              exact own_lower ho6 (Nat.zero_le _)
            clear hn6
            have hl6 := hl.kept hc6 (fun _ _ h => h)
            have k5 : w6.cell? ⟨l, 5, none⟩ = some tv := hl6.head.cell rfl
            have z5 : w6.frozen? ⟨l, 5, none⟩ = false := hl6.head.free
            obtain ⟨hl7, hc7⟩ := hl6.setTail (b.drop (0)) _ ho7
            have HL7 := Lib.hid hl7
            have HC7 := Lib.hid hc7
            have HD7 := Lib.hid ((hdk.fresh hc6).kept hc7 (fun k hk e => ho l hl.fl (e ▸ hk)))
            have HOff : Hid (∀ k, (F4 k ∨ (Value.slice oa6 n6 cap6).ownBlock = some k) → ¬ Fd4 k) := Lib.hid (fun k hk hF => by
              rcases hk with hk | hk
              · exact ho k hk hF
              · have := (ho6.lt k hk).1
                have := hdk.lt k hF
                omega)
            have HC6 := Lib.hid hc6
            have HV6 : Hid (∀ k, (F4 k ∨ (Value.slice oa6 n6 cap6).ownBlock = some k) → F k ∨ w.heap.size ≤ k) := Lib.hid (fun k hk => by
              rcases hk with hk | hk
              · exact HF4.out.1 k hk
              · have := (ho6.lt k hk).1
                have := HC4.out.size
                exact Or.inr (by omega))
            have HFl := Lib.hid hl.fl
            clear hsl hl6 hl7 hc7 hl hdk ho ho6 ho7 hc6
            go_wp2_with (first | (at_builtin; refine Lib.wpList_append_run _ rfl _ _ _ _ rfl _ _ rfl rfl _ _ HR6.out ?_))
            go_ret
            have hVe : V' = { V with seq := s, area := a, used := U, tail := b.drop (0) } := by
              rw [← HV''.out, HN4.out]
              unfold writeV
              rw [if_pos rfl]
              simp only [HK.out]
            rw [HN4.out, hVe]
            exact ⟨rfl, _, Fd4, ⟨⟨_, _, _, HL7.out⟩, HD7.out, HOff.out⟩, HV6.out, HF4.out.2, (HC4.out.trans' (HC6.out.mono (fun _ _ h => h.elim))).trans HC7.out (fun g hg hF => by
              have hF : g = l := hF
              subst hF
              rcases HF4.out.1 _ HFl.out with h | h
              · exact Or.inl h
              · omega)⟩
          · simp only [Value.slice.injEq, true_and] at e
            obtain ⟨rfl, rfl⟩ := e
            by_cases hck : capb = K
            · have hsl : SlAt w4 (.slice (some ⟨g, 0, none⟩) 0 0) (cellsB (b.drop K)) := by
                rw [List.drop_eq_nil_of_le (by omega)]
                exact ⟨_, 0, rfl, fun h => absurd rfl h, by simp [cellsB]⟩
              subst hck
              have hlk : b.length = capb := by omega
              have HLk := Lib.hid hlk
              clear hlk
              have hsl : SlAt w4 (.slice (some ⟨g, 0, none⟩) (b.length - capb) 0) (cellsB (b.drop capb)) := by
                have := HLk.out
                rw [show b.length - capb = 0 by omega]
                exact hsl
              have hbb : (b.length : Int) ≤ 262300 := HBl.out
              obtain ⟨w6, hw6⟩ : ∃ w6, w4.alloc (.cells #[] 5) = w6 := ⟨_, rfl⟩
              have hc6 : Chg (fun _ => False) w4 w6 := by rw [← hw6]; exact (Chg.refl _ _).alloc _
              have hn6 : (b.drop capb).length = 0 := by have := HLk.out; rw [List.length_drop]; omega
              have ho6 : w6.ownsRow w4.heap.size 5 1 (.slice (some ⟨w4.heap.size, 0, none⟩) 0 0) 0 (cellsB (b.drop capb)) := by
                rw [List.eq_nil_of_length_eq_zero hn6, ← hw6]
                exact own_of_block (n := 0) at1 (Nat.le_refl _) rfl (by unfold maxLen; omega)
              subst hw6
              have h4 := HL4.out
              unfold putV at h4
              rw [if_pos rfl] at h4
              obtain ⟨⟨rv, tv, wv, hl⟩, hdk, ho⟩ := h4
              have ho7 : (w4.alloc (.cells #[] 5)).ownsRow 0 5 1 (Value.slice (some ⟨w4.heap.size, 0, none⟩) 0 0) (b.drop (capb)).length (cellsB (b.drop (capb))) := by
                rw [hn6]
                exact own_lower ho6 (Nat.zero_le _)
              clear hn6
              have hl6 := hl.kept hc6 (fun _ _ h => h)
              have k5 : (w4.alloc (.cells #[] 5)).cell? ⟨l, 5, none⟩ = some tv := hl6.head.cell rfl
              have z5 : (w4.alloc (.cells #[] 5)).frozen? ⟨l, 5, none⟩ = false := hl6.head.free
              obtain ⟨hl7, hc7⟩ := hl6.setTail (b.drop (capb)) _ ho7
              have HL7 := Lib.hid hl7
              have HC7 := Lib.hid hc7
              have HD7 := Lib.hid ((hdk.fresh hc6).kept hc7 (fun k hk e => ho l hl.fl (e ▸ hk)))
              have HOff : Hid (∀ k, (F4 k ∨ (Value.slice (some ⟨w4.heap.size, 0, none⟩) 0 0).ownBlock = some k) → ¬ Fd4 k) := Lib.hid (fun k hk hF => by
                rcases hk with hk | hk
                · exact ho k hk hF
                · have := (ho6.lt k hk).1
                  have := hdk.lt k hF
                  omega)
              have HC6 := Lib.hid hc6
              have HV6 : Hid (∀ k, (F4 k ∨ (Value.slice (some ⟨w4.heap.size, 0, none⟩) 0 0).ownBlock = some k) → F k ∨ w.heap.size ≤ k) := Lib.hid (fun k hk => by
                rcases hk with hk | hk
                · exact HF4.out.1 k hk
                · have := (ho6.lt k hk).1
                  have := HC4.out.size
                  exact Or.inr (by omega))
              have HFl := Lib.hid hl.fl
              clear hsl hl6 hl7 hc7 hl hdk ho ho6 ho7 hc6
              go_wp2_with fail
              go_ret
              have hVe : V' = { V with seq := s, area := a, used := U, tail := b.drop (capb) } := by
                rw [← HV''.out, HN4.out]
                unfold writeV
                rw [if_pos rfl]
                simp only [HK.out]
              rw [HN4.out, hVe]
              exact ⟨rfl, _, Fd4, ⟨⟨_, _, _, HL7.out⟩, HD7.out, HOff.out⟩, HV6.out, HF4.out.2, (HC4.out.trans' (HC6.out.mono (fun _ _ h => h.elim))).trans HC7.out (fun g hg hF => by
                have hF : g = l := hF
                subst hF
                rcases HF4.out.1 _ HFl.out with h | h
                · exact Or.inl h
                · omega)⟩
            · have hsl : SlAt w4 (.slice (some ⟨g, K, none⟩) (b.length - K) (capb - K)) (cellsB (b.drop K)) := by
                have hl1 : (cellsB (b.drop K)).length = b.length - K := by rw [cellsB_length, List.length_drop]
                refine ⟨some ⟨g, K, none⟩, capb - K, by rw [hl1], fun _ => ⟨_, _, rfl⟩, fun g' off ho p x hx => ?_⟩
                cases ho
                have h1 : (cellsB b)[K + p]? = some x := by
                  simp only [cellsB, List.getElem?_map, List.getElem?_drop] at hx ⊢
                  exact hx
                have h2 := HO4.out.cells (g := g) rfl (K + p) x h1
                rwa [addr_add, Nat.zero_add] at h2
              have hcb : (b.length : Int) ≤ (capb : Int) := by omega
              have hck' : ¬ K = capb := fun e => hck e.symm
              have hbb : (b.length : Int) ≤ 262300 := HBl.out
              obtain ⟨v6, w6, hr6, ho6, hc6⟩ := fresh_copy w4 hsl (by rw [List.length_drop]; have := HBl.out; omega)
              obtain ⟨n6, hn6⟩ : ∃ n6, (b.drop (K)).length = n6 := ⟨_, rfl⟩
              rw [hn6] at ho6
              obtain ⟨oa6, cap6, rfl⟩ := own_slice ho6
              have HR6 := Lib.hid hr6
              clear hr6
              have h4 := HL4.out
              unfold putV at h4
              rw [if_pos rfl] at h4
              obtain ⟨⟨rv, tv, wv, hl⟩, hdk, ho⟩ := h4
              have ho7 : w6.ownsRow 0 5 1 (Value.slice oa6 n6 cap6) (b.drop (K)).length (cellsB (b.drop (K))) := by
                rw [hn6]
                exact own_lower ho6 (Nat.zero_le _)
              clear hn6
              have hl6 := hl.kept hc6 (fun _ _ h => h)
              have k5 : w6.cell? ⟨l, 5, none⟩ = some tv := hl6.head.cell rfl
              have z5 : w6.frozen? ⟨l, 5, none⟩ = false := hl6.head.free
              obtain ⟨hl7, hc7⟩ := hl6.setTail (b.drop (K)) _ ho7
              have HL7 := Lib.hid hl7
              have HC7 := Lib.hid hc7
              have HD7 := Lib.hid ((hdk.fresh hc6).kept hc7 (fun k hk e => ho l hl.fl (e ▸ hk)))
              have HOff : Hid (∀ k, (F4 k ∨ (Value.slice oa6 n6 cap6).ownBlock = some k) → ¬ Fd4 k) := Lib.hid (fun k hk hF => by
                rcases hk with hk | hk
                · exact ho k hk hF
                · have := (ho6.lt k hk).1
                  have := hdk.lt k hF
                  omega)
              have HC6 := Lib.hid hc6
              have HV6 : Hid (∀ k, (F4 k ∨ (Value.slice oa6 n6 cap6).ownBlock = some k) → F k ∨ w.heap.size ≤ k) := Lib.hid (fun k hk => by
                rcases hk with hk | hk
                · exact HF4.out.1 k hk
                · have := (ho6.lt k hk).1
                  have := HC4.out.size
                  exact Or.inr (by omega))
              have HFl := Lib.hid hl.fl
              clear hsl hl6 hl7 hc7 hl hdk ho ho6 ho7 hc6
              go_wp2_with (first | (at_builtin; refine Lib.wpList_append_run _ rfl _ _ _ _ rfl _ _ rfl rfl _ _ HR6.out ?_))
              go_ret
              have hVe : V' = { V with seq := s, area := a, used := U, tail := b.drop (K) } := by
                rw [← HV''.out, HN4.out]
                unfold writeV
                rw [if_pos rfl]
                simp only [HK.out]
              rw [HN4.out, hVe]
              exact ⟨rfl, _, Fd4, ⟨⟨_, _, _, HL7.out⟩, HD7.out, HOff.out⟩, HV6.out, HF4.out.2, (HC4.out.trans' (HC6.out.mono (fun _ _ h => h.elim))).trans HC7.out (fun g hg hF => by
                have hF : g = l := hF
                subst hF
                rcases HF4.out.1 _ HFl.out with h | h
                · exact Or.inl h
                · omega)⟩
        · have hzb4 : (n4 != 0) = true := by simp [hz4]
          have HZ4 := Lib.hid hz4
          clear hz4
          go_wp2_with fail
          go_ret
          have hVe : V' = V := by
            rw [← HV''.out, HN4.out]
            unfold writeV
            rw [if_neg HZ4.out]
          rw [HN4.out, hVe]
          have h5 := HL4.out
          unfold putV at h5
          rw [if_neg HZ4.out] at h5
          exact ⟨rfl, F4, Fd4, h5, HF4.out.1, HF4.out.2, HC4.out⟩
      · have hzb : (flushC Xj != 0) = true := by simp [hz]
        have HZ0 := Lib.hid hz
        clear hz
        go_wp2_with fail
        go_ret
        have hRe : R = (flushC Xj, Xj.flush) := by
          rw [← HR'.out]
          unfold layF
          rw [HSame.out, if_neg (fun h => h rfl), if_pos HZ0.out]
        have hVe : V' = V := by
          rw [← HV''.out, hRe]
          unfold writeV
          rw [if_neg HZ0.out]
        rw [hRe, hVe]
        exact ⟨rfl, F, Fj, HL3.out, fun k hk => Or.inl hk, fun k hk => (HSub.out k hk).imp id (fun h => by have := HLow.out; omega), HC3.out.mono (fun k _ hk => Or.inr hk)⟩

end Go.Proofs.YtbjagmlbamjdbaaGreat.wals
end

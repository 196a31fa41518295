/-
  kv: small: a batch that is cut.
-/
import Derived.Test.YtbkefhoapnaciaaGreatPkAl
import Derived.Test.YtbkefhoapnaciaaGreatPkBe
import Derived.Test.YtbkefhoapnaciaaGreatPkBf

section
set_option linter.unusedSimpArgs false
set_option linter.unusedVariables false
namespace Go.Proofs.YtbkefhoapnaciaaGreat.kvs
open Go.RowKit Go.Maps Go.My Go.ChangeMaps disks bufs wals
set_option maxRecDepth 100000

variable {w w' : World}

def cutT (n : Nat) (t : Txt) : Txt := if n < t.length then t.take n else t
def cutP (p : PV) : PV := ⟨cutT 70 p.key, cutT 1100 p.val, p.gone⟩
def smallP (l : List PV) : List PV := (l.take 70).map cutP
theorem smallP_len (l : List PV) : (smallP l).length ≤ 70 := by simp [smallP]; omega
theorem cutT_len (n : Nat) (t : Txt) : (cutT n t).length ≤ n := by
  unfold cutT
  split
  · rw [List.length_take]; omega
  · omega
theorem smallP_mem {l : List PV} {p : PV} (h : p ∈ smallP l) : p.key.length ≤ 70 ∧ p.val.length ≤ 1100 := by
  obtain ⟨x, -, rfl⟩ := List.mem_map.1 h
  exact ⟨cutT_len _ _, cutT_len _ _⟩
theorem smallP_push {l : List PV} {k : Nat} {p : PV} (h : l[k]? = some p) (hk : k < 70) : smallP (l.take (k + 1)) = smallP (l.take k) ++ [cutP p] := by
  unfold smallP
  rw [List.take_take, List.take_take, Nat.min_eq_right (by omega), Nat.min_eq_right (by omega), List.take_add_one, h, Option.toList_some, List.map_append]
  rfl
theorem cut_str {n : Nat} {t : Txt} {s : ByteArray} (h : strV t = .string s) (hn : n < t.length) : strV (cutT n t) = .string (s.extract 0 n) := by
  have e : Value.string (⟨t.toArray⟩ : ByteArray) = .string s := h
  simp only [Value.string.injEq] at e
  unfold cutT
  rw [if_pos hn, ← e, str_take]
  rfl
theorem cut_same {n : Nat} {t : Txt} {s : ByteArray} (h : strV t = .string s) (hn : ¬ n < t.length) : strV (cutT n t) = .string s := by
  unfold cutT
  rw [if_neg hn]
  exact h


set_option maxHeartbeats 2000000 in
theorem small_any (w : World) (v : Value) (l : List PV) (h : PutsAt w v l) (hz : ∀ p ∈ l, p.sized) :
    Calls Tryz.prog 16 #[v] w fun e w' => ∃ v', e = .returned v' ∧ Puts w' w.heap.size v' (smallP l) ∧ Chg (fun _ => False) w w' := by
  obtain ⟨oa, cap, rfl, h2⟩ := h
  have H := Lib.hid (show PutsAt w (.slice oa l.length cap) l from ⟨oa, cap, rfl, h2⟩)
  have HZ := Lib.hid hz
  clear h2 hz
  go_enter Tryz.func16, Tryz.ntmps16
  go_wp2_with fail
  go_loopw [3, 4] (fun u i wr => ∃ k : Nat, i = .int .i64 k ∧ k ≤ l.length ∧ k ≤ 70 ∧ Puts wr w.heap.size u (smallP (l.take k)) ∧ Chg (fun _ => False) w wr) (fun _ i _ => 70 - (intOf i).toNat)
  · exact ⟨0, rfl, Nat.zero_le _, Nat.zero_le _, OwnRecs.nil _ _ _ _, Chg.refl _ _⟩
  obtain ⟨k, rfl, hk1, hk2, ho, hc⟩ := hrel
  have HO := Lib.hid ho
  have HC := Lib.hid hc
  clear ho hc
  by_cases hlt : k < l.length ∧ k < 70
  · obtain ⟨hlt1, hlt2⟩ := hlt
    have j1 : (k : Int) < (l.length : Int) := by omega
    have j2 : (k : Int) < 70 := by omega
    obtain ⟨g, off, cap', p, e1, hr, d0, d1, d2⟩ := putsAt_cells (H.out.kept HC.out (fun _ _ h => h)) hlt1
    simp only [Value.slice.injEq, true_and] at e1
    obtain ⟨rfl, -⟩ := e1
    have HGk := Lib.hid hr
    have HL2 := Lib.hid hlt2
    obtain ⟨z1, z2⟩ := HZ.out p (List.mem_of_getElem? hr)
    unfold maxLen at z1 z2
    clear hr hlt2
    obtain ⟨sk, hsk⟩ : ∃ s : ByteArray, strV p.key = .string s := ⟨_, rfl⟩
    obtain ⟨sv, hsv⟩ : ∃ s : ByteArray, strV p.val = .string s := ⟨_, rfl⟩
    have esk := str_size p.key sk hsk
    have esv := str_size p.val sv hsv
    rw [hsk] at d0
    rw [hsv] at d1
    by_cases a1 : 70 < p.key.length
    · have i1 : (70 : Int) < (sk.size : Int) := by omega
      by_cases a2 : 1100 < p.val.length
      · have i2 : (1100 : Int) < (sv.size : Int) := by omega
        have hk1 : strV (cutP p).key = .string (sk.extract 0 70) := cut_str hsk a1
        have hv1 : strV (cutP p).val = .string (sv.extract 0 1100) := cut_str hsv a2
        have hca : Chg (fun _ => False) wr (wr.alloc (.cells #[.string (sk.extract 0 70), .string (sv.extract 0 1100), .bool p.gone] 45)) := (Chg.refl _ _).alloc _
        have hcb := hca.alloc (.cells #[.string (sk.extract 0 70), .string (sv.extract 0 1100), .bool p.gone] 45)
        have hzz : w.heap.size ≤ wr.heap.size := HC.out.size
        obtain ⟨v8, w8, hr8, hp8, hg8⟩ := append_putO (p := cutP p) (nb := wr.heap.size + 1) (HO.out.kept hcb (fun _ _ h => h)) (fun j u hu => by
          have hb : ((wr.alloc (.cells #[.string (sk.extract 0 70), .string (sv.extract 0 1100), .bool p.gone] 45)).alloc (.cells #[.string (sk.extract 0 70), .string (sv.extract 0 1100), .bool p.gone] 45)).heap[wr.heap.size + 1]? = some (.cells #[.string (sk.extract 0 70), .string (sv.extract 0 1100), .bool p.gone] 45 (0, 0)) := by
            have := block_alloc_new (wr.alloc (.cells #[.string (sk.extract 0 70), .string (sv.extract 0 1100), .bool p.gone] 45)) (.cells #[.string (sk.extract 0 70), .string (sv.extract 0 1100), .bool p.gone] 45)
            rw [World.size_alloc] at this
            exact this
          refine cell_of_block hb ?_
          have e : (cutP p).row = [.string (sk.extract 0 70), .string (sv.extract 0 1100), .bool p.gone] := by unfold PV.row; rw [hk1, hv1]; rfl
          rw [e] at hu
          simpa using hu) (Nat.le_trans hzz hcb.size) (by have := smallP_len (l.take k); omega) 22
        have HR8 := Lib.hid hr8
        have HP8 := Lib.hid hp8
        have HC8 := Lib.hid (show Chg (fun _ => False) w w8 from (HC.out.trans' hcb).new hg8 (fun i e => (HO.out.lt e.symm).1))
        clear hca hcb hzz hr8 hp8 hg8 hsk hsv hk1 hv1
        go_wp2_with (first
          | (at_builtin; refine Lib.wpList_append_run _ rfl _ _ _ _ rfl _ _ rfl rfl _ _ HR8.out ?_))
        refine ⟨⟨k + 1, by go_num, by omega, by omega, by rw [smallP_push HGk.out HL2.out]; exact HP8.out, HC8.out⟩, by simp [intOf]; omega⟩
      · have i2 : (sv.size : Int) ≤ 1100 := by omega
        have hk1 : strV (cutP p).key = .string (sk.extract 0 70) := cut_str hsk a1
        have hv1 : strV (cutP p).val = .string sv := cut_same hsv a2
        have hca : Chg (fun _ => False) wr (wr.alloc (.cells #[.string (sk.extract 0 70), .string sv, .bool p.gone] 45)) := (Chg.refl _ _).alloc _
        have hcb := hca.alloc (.cells #[.string (sk.extract 0 70), .string sv, .bool p.gone] 45)
        have hzz : w.heap.size ≤ wr.heap.size := HC.out.size
        obtain ⟨v8, w8, hr8, hp8, hg8⟩ := append_putO (p := cutP p) (nb := wr.heap.size + 1) (HO.out.kept hcb (fun _ _ h => h)) (fun j u hu => by
          have hb : ((wr.alloc (.cells #[.string (sk.extract 0 70), .string sv, .bool p.gone] 45)).alloc (.cells #[.string (sk.extract 0 70), .string sv, .bool p.gone] 45)).heap[wr.heap.size + 1]? = some (.cells #[.string (sk.extract 0 70), .string sv, .bool p.gone] 45 (0, 0)) := by
            have := block_alloc_new (wr.alloc (.cells #[.string (sk.extract 0 70), .string sv, .bool p.gone] 45)) (.cells #[.string (sk.extract 0 70), .string sv, .bool p.gone] 45)
            rw [World.size_alloc] at this
            exact this
          refine cell_of_block hb ?_
          have e : (cutP p).row = [.string (sk.extract 0 70), .string sv, .bool p.gone] := by unfold PV.row; rw [hk1, hv1]; rfl
          rw [e] at hu
          simpa using hu) (Nat.le_trans hzz hcb.size) (by have := smallP_len (l.take k); omega) 22
        have HR8 := Lib.hid hr8
        have HP8 := Lib.hid hp8
        have HC8 := Lib.hid (show Chg (fun _ => False) w w8 from (HC.out.trans' hcb).new hg8 (fun i e => (HO.out.lt e.symm).1))
        clear hca hcb hzz hr8 hp8 hg8 hsk hsv hk1 hv1
        go_wp2_with (first
          | (at_builtin; refine Lib.wpList_append_run _ rfl _ _ _ _ rfl _ _ rfl rfl _ _ HR8.out ?_))
        refine ⟨⟨k + 1, by go_num, by omega, by omega, by rw [smallP_push HGk.out HL2.out]; exact HP8.out, HC8.out⟩, by simp [intOf]; omega⟩
    · have i1 : (sk.size : Int) ≤ 70 := by omega
      by_cases a2 : 1100 < p.val.length
      · have i2 : (1100 : Int) < (sv.size : Int) := by omega
        have hk1 : strV (cutP p).key = .string sk := cut_same hsk a1
        have hv1 : strV (cutP p).val = .string (sv.extract 0 1100) := cut_str hsv a2
        have hca : Chg (fun _ => False) wr (wr.alloc (.cells #[.string sk, .string (sv.extract 0 1100), .bool p.gone] 45)) := (Chg.refl _ _).alloc _
        have hcb := hca.alloc (.cells #[.string sk, .string (sv.extract 0 1100), .bool p.gone] 45)
        have hzz : w.heap.size ≤ wr.heap.size := HC.out.size
        obtain ⟨v8, w8, hr8, hp8, hg8⟩ := append_putO (p := cutP p) (nb := wr.heap.size + 1) (HO.out.kept hcb (fun _ _ h => h)) (fun j u hu => by
          have hb : ((wr.alloc (.cells #[.string sk, .string (sv.extract 0 1100), .bool p.gone] 45)).alloc (.cells #[.string sk, .string (sv.extract 0 1100), .bool p.gone] 45)).heap[wr.heap.size + 1]? = some (.cells #[.string sk, .string (sv.extract 0 1100), .bool p.gone] 45 (0, 0)) := by
            have := block_alloc_new (wr.alloc (.cells #[.string sk, .string (sv.extract 0 1100), .bool p.gone] 45)) (.cells #[.string sk, .string (sv.extract 0 1100), .bool p.gone] 45)
            rw [World.size_alloc] at this
            exact this
          refine cell_of_block hb ?_
          have e : (cutP p).row = [.string sk, .string (sv.extract 0 1100), .bool p.gone] := by unfold PV.row; rw [hk1, hv1]; rfl
          rw [e] at hu
          simpa using hu) (Nat.le_trans hzz hcb.size) (by have := smallP_len (l.take k); omega) 22
        have HR8 := Lib.hid hr8
        have HP8 := Lib.hid hp8
        have HC8 := Lib.hid (show Chg (fun _ => False) w w8 from (HC.out.trans' hcb).new hg8 (fun i e => (HO.out.lt e.symm).1))
        clear hca hcb hzz hr8 hp8 hg8 hsk hsv hk1 hv1
        go_wp2_with (first
          | (at_builtin; refine Lib.wpList_append_run _ rfl _ _ _ _ rfl _ _ rfl rfl _ _ HR8.out ?_))
        refine ⟨⟨k + 1, by go_num, by omega, by omega, by rw [smallP_push HGk.out HL2.out]; exact HP8.out, HC8.out⟩, by simp [intOf]; omega⟩
      · have i2 : (sv.size : Int) ≤ 1100 := by omega
        have hk1 : strV (cutP p).key = .string sk := cut_same hsk a1
        have hv1 : strV (cutP p).val = .string sv := cut_same hsv a2
        have hca : Chg (fun _ => False) wr (wr.alloc (.cells #[.string sk, .string sv, .bool p.gone] 45)) := (Chg.refl _ _).alloc _
        have hcb := hca.alloc (.cells #[.string sk, .string sv, .bool p.gone] 45)
        have hzz : w.heap.size ≤ wr.heap.size := HC.out.size
        obtain ⟨v8, w8, hr8, hp8, hg8⟩ := append_putO (p := cutP p) (nb := wr.heap.size + 1) (HO.out.kept hcb (fun _ _ h => h)) (fun j u hu => by
          have hb : ((wr.alloc (.cells #[.string sk, .string sv, .bool p.gone] 45)).alloc (.cells #[.string sk, .string sv, .bool p.gone] 45)).heap[wr.heap.size + 1]? = some (.cells #[.string sk, .string sv, .bool p.gone] 45 (0, 0)) := by
            have := block_alloc_new (wr.alloc (.cells #[.string sk, .string sv, .bool p.gone] 45)) (.cells #[.string sk, .string sv, .bool p.gone] 45)
            rw [World.size_alloc] at this
            exact this
          refine cell_of_block hb ?_
          have e : (cutP p).row = [.string sk, .string sv, .bool p.gone] := by unfold PV.row; rw [hk1, hv1]; rfl
          rw [e] at hu
          simpa using hu) (Nat.le_trans hzz hcb.size) (by have := smallP_len (l.take k); omega) 22
        have HR8 := Lib.hid hr8
        have HP8 := Lib.hid hp8
        have HC8 := Lib.hid (show Chg (fun _ => False) w w8 from (HC.out.trans' hcb).new hg8 (fun i e => (HO.out.lt e.symm).1))
        clear hca hcb hzz hr8 hp8 hg8 hsk hsv hk1 hv1
        go_wp2_with (first
          | (at_builtin; refine Lib.wpList_append_run _ rfl _ _ _ _ rfl _ _ rfl rfl _ _ HR8.out ?_))
        refine ⟨⟨k + 1, by go_num, by omega, by omega, by rw [smallP_push HGk.out HL2.out]; exact HP8.out, HC8.out⟩, by simp [intOf]; omega⟩
  · have hk : smallP (l.take k) = smallP l := by
      unfold smallP
      congr 1
      by_cases h1 : k < l.length
      · obtain rfl : k = 70 := by omega
        rw [List.take_take]; rfl
      · rw [List.take_of_length_le (i := k) (l := l) (by omega), List.take_of_length_le (i := 70) (l := l) (by omega)]
    have HK := Lib.hid hk
    have HOo := Lib.hid (show Puts wr w.heap.size _ (smallP l) by rw [← hk]; exact HO.out)
    by_cases hkl : k < l.length
    · have j1 : (k : Int) < (l.length : Int) := by omega
      obtain rfl : k = 70 := by omega
      clear hlt hk
      go_wp2_with fail
      go_ret
      exact ⟨_, rfl, HOo.out, HC.out⟩
    · have j1 : ¬ (k : Int) < (l.length : Int) := by omega
      clear hlt hk
      go_wp2_with fail
      go_ret
      exact ⟨_, rfl, HOo.out, HC.out⟩

end Go.Proofs.YtbkefhoapnaciaaGreat.kvs
end

/-
  kv: has: has a database just a map's keys, each with its value?
-/
section
set_option linter.unusedSimpArgs false
set_option linter.unusedVariables false
namespace Go.Proofs.YtbkefhoapnaciaaGreat.kvs
open Go.RowKit Go.Maps Go.My Go.ChangeMaps disks bufs wals
set_option maxRecDepth 100000

variable {w w' : World} {b q l : Nat} {m m2 : List KV}

theorem scan_whole (m : List KV) : scanF m [] [] = sortF m := by
  unfold scanF
  rw [List.filter_eq_self]
  intro p _
  have : ltB p.1 [] = false := by
    cases p.1 <;> rfl
  unfold inScan
  rw [this]
  rfl


/-- What has tells: yes, where both tell the same. -/
def HasOut (m m2 : List KV) (v : Value) : Prop := ∃ β, v = .bool β ∧ ((∀ k, mget m k = mget m2 k) → β = true)



set_option maxHeartbeats 4000000 in
theorem has_any (w : World) (h : DbIs w b l q m) (hm : Mays m) (hn : m.length ≤ 1000000) {g2 : Nat} (h2 : MapAt w g2 m2) :
    Calls Tryz.prog 25 #[.pointer (some ⟨b, 0, none⟩), .map (some g2)] w fun e w' => ∃ v, e = .returned v ∧ HasOut m m2 v ∧ Chg (fun _ => False) w w' := by
  have hsc := scan_any w h hn [] []
  rw [scan_whole] at hsc
  have HSc := Lib.hid (show Calls Tryz.prog 21 #[.pointer (some ⟨b, 0, none⟩), .string ⟨#[]⟩, .string ⟨#[]⟩] w fun e w' => ∃ v, e = .returned v ∧ Puts w' w.heap.size v ((sortF m).map ofKV) ∧ Chg (fun _ => False) w w' from hsc)
  have hnd := h.map.nodup
  have hnd2 := h2.nodup
  obtain ⟨N, hN⟩ : ∃ N, (sortF m).length = N := ⟨_, rfl⟩
  have hmN : m.length = N := by rw [← hN, sortF_len]
  have hlen : ∀ w', Chg (fun _ => False) w w' → (Builtin.len_ #[54] 3 #[.map (some g2)]).run Tryz.prog w' = .ok (.int .i64 m2.length) w' := fun w' hc => (h2.kept hc id).len Tryz.underlying54 _
  have HLen := Lib.hid hlen
  have HMl := Lib.hid (show ∀ w', Chg (fun _ => False) w w' → Calls Tryz.prog 20 #[.pointer (some ⟨b, 0, none⟩)] w' fun e w'' => e = .returned (.int .i64 (N : Int)) ∧ w' = w'' from fun w' hc => by have := len_any w' (h.fresh hc); rw [hmN] at this; exact this)
  have HDb := Lib.hid h
  have HM := Lib.hid h2
  have HMy := Lib.hid hm
  have HNd := Lib.hid (And.intro hnd hnd2)
  have hN6 : N ≤ 1000000 := by omega
  have HmN := Lib.hid (And.intro hN hmN)
  clear hsc h h2 hlen hm hnd hnd2 hn hN hmN
  go_enter Tryz.func25, Tryz.ntmps25
  by_cases hl : m2.length = N
  · have HL := Lib.hid hl
    go_wp2_with (first
      | (go_at_call 21; refine HSc.out.mono ?_; rintro e w1 ⟨lv, rfl, hp1, hc1⟩
         obtain ⟨oa, cap, rfl, -⟩ := hp1.slice
         rw [List.length_map, List.length_map, HmN.out.1]
         have hlen1 := HLen.out w1 hc1
         rw [HL.out] at hlen1
         have HP1 := Lib.hid hp1
         have HC1 := Lib.hid hc1
         clear hp1 hc1)
      | (go_at_call 20; refine (HMl.out _ HC1.out).mono ?_; rintro e w' ⟨rfl, rfl⟩))
    go_loopw [27] (fun j wr => ∃ k : Nat, j = .int .i64 k ∧ k ≤ N ∧ Chg (fun _ => False) w1 wr) (fun j _ => N - (intOf j).toNat)
    · exact ⟨0, rfl, Nat.zero_le _, Chg.refl _ _⟩
    obtain ⟨k, rfl, hk, hc⟩ := hrel
    have HCr := Lib.hid hc
    clear hc
    by_cases hlt : k < N
    · have hki : (k : Int) < (N : Int) := by omega
      have hNi : (N : Int) ≤ 1000000 := by omega
      obtain ⟨g', cap', p, e1, hr, d0, d1, d2⟩ := put_cells (HP1.out.kept HCr.out (fun _ _ h => h)) (k := k) (by rw [List.length_map, HmN.out.1]; exact hlt)
      simp only [Value.slice.injEq] at e1
      obtain ⟨rfl, -, -⟩ := e1
      rw [List.getElem?_map] at hr
      obtain ⟨⟨pk, pv⟩, hp⟩ : ∃ x, (sortF m)[k]? = some x := ⟨_, List.getElem?_eq_getElem (by rw [HmN.out.1]; exact hlt)⟩
      rw [hp] at hr
      cases hr
      have hmem : (pk, pv) ∈ m := (sortF_perm m).mem_iff.1 (List.mem_of_getElem? hp)
      have hgm : mget m pk = some pv := mem_mget HNd.out.1 hmem
      have HKl := Lib.hid (show pk.length ≤ maxLen from by have := (may_key (HMy.out _ hmem)).2.1; have h2 : (ofKV (pk, pv)).key.length = pk.length := rfl; unfold maxLen; omega)
      have hget := get_any wr (HDb.out.fresh (HC1.out.trans' HCr.out)) pk HKl.out
      rw [hgm] at hget
      have HM2 := Lib.hid (HM.out.kept (HC1.out.trans' HCr.out) id)
      have HGm := Lib.hid hgm
      have HPk := Lib.hid hp
      have hlt0 : ∀ k1, k = k1 + 1 → ∃ qk qv, (sortF m)[k1]? = some (qk, qv) ∧ ltB qk pk = true ∧ wr.cell? ⟨g', k1 * 3, none⟩ = some (strV qk) := by
        intro k1 hk1
        obtain ⟨g'', cap'', p', e2, hr', f0, -, -⟩ := put_cells (HP1.out.kept HCr.out (fun _ _ h => h)) (k := k1) (by rw [List.length_map, HmN.out.1]; omega)
        simp only [Value.slice.injEq, Option.some.injEq, Addr.mk.injEq] at e2
        obtain ⟨⟨rfl, -⟩, -⟩ := e2
        rw [List.getElem?_map] at hr'
        obtain ⟨⟨qk, qv⟩, hq⟩ : ∃ x, (sortF m)[k1]? = some x := ⟨_, List.getElem?_eq_getElem (by rw [HmN.out.1]; omega)⟩
        rw [hq] at hr'
        cases hr'
        refine ⟨qk, qv, hq, ?_, f0⟩
        have hasc := sortF_asc HNd.out.1
        unfold Asc at hasc
        rw [List.pairwise_iff_getElem] at hasc
        obtain ⟨h1, h2⟩ := List.getElem?_eq_some_iff.1 hq
        obtain ⟨h3, h4⟩ := List.getElem?_eq_some_iff.1 HPk.out
        have := hasc k1 k h1 h3 (by omega)
        rw [h2, h4] at this
        exact this
      have HLt0 := Lib.hid hlt0
      unfold ofKV at d0 d1 d2
      simp only at d0 d1 d2
      have hsame : (∀ k, mget m k = mget m2 k) → mget m2 pk = some pv := fun h => by rw [← h, hgm]
      have HSame := Lib.hid hsame
      clear hmem hgm hp hlt0 hsame
      obtain ⟨sk, hsk⟩ : ∃ s : ByteArray, strV pk = .string s := ⟨_, rfl⟩
      obtain ⟨sv, hsv⟩ : ∃ s : ByteArray, strV pv = .string s := ⟨_, rfl⟩
      have HSk := Lib.hid hsk
      have HSv := Lib.hid hsv
      simp only [Option.getD_some, Option.isSome_some] at hget
      rw [hsk] at d0 hget
      rw [hsv] at d1 hget
      have HGet := Lib.hid hget
      clear hget
      have q0 : ∀ n : FreshW wr, n.val.cell? ⟨g', k * 3, none⟩ = some (.string sk) := fun n => n.chg.cell d0 id
      have q1 : ∀ n : FreshW wr, n.val.cell? ⟨g', k * 3 + 1, none⟩ = some (.string sv) := fun n => n.chg.cell d1 id
      have q2 : ∀ n : FreshW wr, n.val.cell? ⟨g', k * 3 + 2, none⟩ = some (.bool false) := fun n => n.chg.cell d2 id
      have hres : (Instr.lookup 54 (.map (some g2)) (.string sk) true).run Tryz.prog wr = .ok (lookRes true (strV []) strV (mget m2 pk)) wr := by
        have := HM2.out.look Tryz.underlying54 (zero_str _) true pk HKl.out
        rw [show sKey.enc pk = .string sk from HSk.out] at this
        exact this
      cases hm2 : mget m2 pk with
      | none =>
        have HNo := Lib.hid hm2
        rw [hm2] at hres
        replace hres : (Instr.lookup 54 (.map (some g2)) (.string sk) true).run Tryz.prog wr = .ok (.tuple #[.string ⟨#[]⟩, .bool false]) wr := hres
        clear hm2 hsk hsv
        go_wp2_with (first
          | (go_at_call 22; refine HGet.out.mono ?_; rintro e w' ⟨rfl, rfl⟩))
        refine wp_region_fresh (by kernel_rfl) (by kernel_rfl) ?_
        repeat (go_big_quiet_step (fail))
        refine wpQuiet_nil ?_
        rintro _ ⟨n10, rfl⟩
        go_wp2_with fail
        go_ret
        exact ⟨_, rfl, ⟨_, rfl, fun h => (by have := HSame.out h; rw [HNo.out] at this; cases this)⟩, (HC1.out.trans' HCr.out).trans' n10.chg⟩
      | some x =>
        rw [hm2] at hres
        obtain ⟨sx, hsx⟩ : ∃ s : ByteArray, strV x = .string s := ⟨_, rfl⟩
        replace hres : (Instr.lookup 54 (.map (some g2)) (.string sk) true).run Tryz.prog wr = .ok (.tuple #[strV x, .bool true]) wr := hres
        by_cases hx : x = pv
        · subst hx
          rw [hsv] at hres
          clear hm2 hsk hsv hsx
          by_cases hk0 : k = 0
          · subst hk0
            go_wp2_with (first
              | (go_at_call 22; refine HGet.out.mono ?_; rintro e w' ⟨rfl, rfl⟩))
            refine wp_region_fresh (by kernel_rfl) (by kernel_rfl) ?_
            repeat (go_big_quiet_step (fail))
            refine wpQuiet_nil ?_
            rintro _ ⟨n10, rfl⟩
            go_wp2_with fail
            exact ⟨⟨0 + 1, by go_num, by omega, HCr.out.trans' n10.chg⟩, by simp [intOf]; omega⟩
          · obtain ⟨k1, hk1⟩ : ∃ k1, k = k1 + 1 := ⟨k - 1, by omega⟩
            obtain ⟨qk, qv, -, hlq, f0⟩ := HLt0.out k1 hk1
            obtain ⟨sq, hsq⟩ : ∃ s : ByteArray, strV qk = .string s := ⟨_, rfl⟩
            rw [hsq] at f0
            have r0 : ∀ n : FreshW wr, n.val.cell? ⟨g', k1 * 3, none⟩ = some (.string sq) := fun n => n.chg.cell f0 id
            have esq : sq.toList = qk := by rw [strV_string qk sq hsq, Lib.toList_data]
            have esk : sk.toList = pk := by rw [strV_string pk sk HSk.out, Lib.toList_data]
            have hb : Op.bytesLess sk.toList sq.toList = false := by rw [esq, esk]; exact ltB_asymm hlq
            have hb2 : (sk.toList == sq.toList) = false := by
              rw [esq, esk]
              simp only [beq_eq_false_iff_ne, ne_eq]
              intro e
              rw [e, ltB_irrefl] at hlq
              cases hlq
            have j0 : 0 < k := by omega
            have j1 : (k : Int) - 1 = (k1 : Int) := by omega
            have j2 : (k1 : Int) < (N : Int) := by omega
            clear hsq hlq f0 hk1 esq esk
            go_wp2_with (first
              | (go_at_call 22; refine HGet.out.mono ?_; rintro e w' ⟨rfl, rfl⟩))
            refine wp_region_fresh (by kernel_rfl) (by kernel_rfl) ?_
            repeat (go_big_quiet_step (fail))
            refine wpQuiet_nil ?_
            rintro _ ⟨n10, rfl⟩
            go_wp2_with fail
            exact ⟨⟨k + 1, by go_num, by omega, HCr.out.trans' n10.chg⟩, by simp [intOf]; omega⟩
        · have hne : (sx.toList == sv.toList) = false := by
            rw [show sx.toList = x from by rw [strV_string x sx hsx, Lib.toList_data], show sv.toList = pv from by rw [strV_string pv sv HSv.out, Lib.toList_data]]
            simpa using hx
          have HX := Lib.hid (show ¬ mget m2 pk = some pv by rw [hm2]; simpa using hx)
          rw [hsx] at hres
          clear hm2 hsk hsv hsx hx
          go_wp2_with (first
            | (go_at_call 22; refine HGet.out.mono ?_; rintro e w' ⟨rfl, rfl⟩))
          refine wp_region_fresh (by kernel_rfl) (by kernel_rfl) ?_
          repeat (go_big_quiet_step (fail))
          refine wpQuiet_nil ?_
          rintro _ ⟨n10, rfl⟩
          go_wp2_with fail
          go_ret
          exact ⟨_, rfl, ⟨_, rfl, fun h => absurd (HSame.out h) HX.out⟩, (HC1.out.trans' HCr.out).trans' n10.chg⟩
    · have hki : ¬ (k : Int) < (N : Int) := by omega
      go_wp2_with fail
      go_ret
      exact ⟨_, rfl, ⟨_, rfl, fun _ => rfl⟩, HC1.out.trans' HCr.out⟩
  · have hne : ((N : Int) == (m2.length : Int)) = false := by simp; omega
    have HNe := Lib.hid hl
    go_wp2_with (first
      | (go_at_call 21; refine HSc.out.mono ?_; rintro e w1 ⟨lv, rfl, hp1, hc1⟩
         obtain ⟨oa, cap, rfl, -⟩ := hp1.slice
         rw [List.length_map, List.length_map, HmN.out.1]
         have hlen1 := HLen.out w1 hc1
         have HC1 := Lib.hid hc1
         clear hp1 hc1)
      | (go_at_call 20; refine (HMl.out _ HC1.out).mono ?_; rintro e w' ⟨rfl, rfl⟩))
    go_ret
    exact ⟨_, rfl, ⟨_, rfl, fun h => absurd ((same_len HNd.out.1 HNd.out.2 h).symm.trans HmN.out.2) HNe.out⟩, HC1.out⟩

end Go.Proofs.YtbkefhoapnaciaaGreat.kvs
end

/-
  kv: does: a batch done to a map, in a new map.
-/
section
set_option linter.unusedSimpArgs false
set_option linter.unusedVariables false
namespace Go.Proofs.YtbkefhoapnaciaaGreat.kvs
open Go.RowKit Go.Maps Go.My Go.ChangeMaps disks bufs wals
set_option maxRecDepth 100000

variable {w w' : World}

theorem mput_new {m : List KV} {k v : Txt} (h : k ∉ m.map (·.1)) : mput m k v = m ++ [(k, v)] := by
  unfold mput
  rw [if_neg]
  cases hg : mget m k with
  | none => simp
  | some x => exact absurd (List.mem_map.2 ⟨(k, x), mget_mem hg, rfl⟩) h

theorem oper_put {P : Program} {o : Oper} {a : Go.Act} {w w' : World} {K : Go.Act → World → Prop} {Q : Exit → Go.Act → World → Prop} (x y u : Operand) (t : TypeId)
    (ho : o.op = .mapUpdate t x y u) {xv yv uv : Value} (hx : a.eval x = xv) (hy : a.eval y = yv) (hu : a.eval u = uv)
    (hr : (Instr.mapUpdate t xv yv uv).run P w = .ok () w') (h : K (a.put o.dst (.tuple #[])) w') : Oper.wp P o a w K Q := by
  unfold Oper.wp
  simp only [execOp, ho, hx, hy, hu]
  simp [hr, Result.andThen]
  exact h

set_option maxHeartbeats 2000000 in
theorem does_any (w : World) {g B : Nat} {v : Value} {m : List KV} {l : List PV} (h : MapAt w g m) (hm : ∀ p ∈ m, p.1.length ≤ maxLen) (hp : Puts w B v l) (hk : ∀ p ∈ l, p.key.length ≤ maxLen) (hln : l.length ≤ 1000000) :
    Calls Tryz.prog 24 #[.map (some g), v] w fun e w' => ∃ g2, e = .returned (.map (some g2)) ∧ ∃ m2, MapAt w' g2 m2 ∧ (∀ k, mget m2 k = mget (applyF m l) k) ∧ w.heap.size ≤ g2 ∧ Chg (fun _ => False) w w' := by
  obtain ⟨oa, cap, rfl, -⟩ := hp.slice
  rw [List.length_map] at *
  have hca : Chg (fun _ => False) w (w.alloc (.map #[] 0)) := (Chg.refl _ _).alloc _
  have H := Lib.hid (h.kept hca id)
  have HP := Lib.hid hp
  have HK := Lib.hid hk
  have HKm := Lib.hid hm
  have HCa := Lib.hid hca
  have HNm := Lib.hid (show MapAt (w.alloc (.map #[] 0)) w.heap.size [] from MapIs.made sKey strV (block_alloc_new _ _))
  have HLg := Lib.hid h.lt
  clear h hp hk hm hca
  have hmm := @run_makeMap Tryz.prog
  go_enter Tryz.func24, Tryz.ntmps24
  go_wp2_with (first
    | (at_range; refine wpList_rangeM H.out rfl _ 54 9 rfl Tryz.underlying54 rfl ?_; intro w2 cnt hr2 hc2 hs2))
  go_frame
  obtain ⟨R, hR⟩ : ∃ R, (w.alloc (.map #[] 0)).heap.size = R := ⟨_, rfl⟩
  obtain ⟨G, hG⟩ : ∃ G, w.heap.size = G := ⟨_, rfl⟩
  have hGR : R = G + 1 := by rw [← hR, ← hG, World.size_alloc]
  have hnm2 := HNm.out.kept hc2 id
  have HLg2 := Lib.hid (show g < G by rw [← hG]; exact HLg.out)
  have HGw := Lib.hid hG
  have HBg := Lib.hid (show ∀ j, (Value.slice oa l.length cap).ownBlock = some j → j < G by rw [← hG]; intro j hj; exact (HP.out.lt hj).2)
  have hc02 : Chg (fun k => G ≤ k) w w2 := (HCa.out.trans' hc2).mono (fun _ _ e => e.elim)
  rw [hR] at hr2
  rw [hG] at hnm2
  rw [hR, hG]
  have HC02 := Lib.hid hc02
  have HR2 := Lib.hid hr2
  have HN2 := Lib.hid hnm2
  have HGR := Lib.hid hGR
  clear hr2 hc2 hs2 hnm2 hR hG hc02 HNm HLg HCa hGR
  go_loopw [] (fun wr => ∃ (ds : List KV) (cnt : Nat), RngIs sKey strV wr g R m (ds.map (·.1)) cnt ∧ MapAt wr G ds.reverse ∧ Chg (fun k => G ≤ k) w wr ∧ (ds.map (·.1)).Nodup ∧ (∀ p ∈ ds, p ∈ m)) (fun wr => wr.rangeLeft g R)
  · exact ⟨[], cnt, HR2.out, HN2.out, HC02.out, List.nodup_nil, by simp⟩
  clear HR2 HN2 HC02
  obtain ⟨ds, cnt, hr, hg, hc, hnd, hin⟩ := hrel
  have HR := Lib.hid hr
  have HG := Lib.hid hg
  have HC := Lib.hid hc
  have HN := Lib.hid hnd
  have HIn := Lib.hid hin
  clear hr hg hc hnd hin
  rcases HR.out.next 0 with ⟨hall, hrun⟩ | ⟨k, u, w', cnt', hm, hnn, hrun, hr', hlt, hcr, hsz, hen⟩
  · have hmn : NoDup m := HR.out.map.nodup
    have hpm : ds.reverse.Perm m := by
      have hmn' : m.Nodup := List.Pairwise.of_map _ (fun a b h e => h (by rw [e])) hmn
      have hds : ds.Nodup := List.Pairwise.of_map _ (fun a b h e => h (by rw [e])) HN.out
      refine (List.reverse_perm ds).trans ?_
      rw [List.perm_ext_iff_of_nodup hds hmn']
      intro p
      refine ⟨HIn.out p, fun hp => ?_⟩
      obtain ⟨q, hq, he⟩ := List.mem_map.1 (hall p hp)
      have h1 := mem_mget hmn (HIn.out q hq)
      have h2 := mem_mget hmn hp
      rw [he, h2] at h1
      have : q = p := Prod.ext he (by simpa using h1.symm)
      rw [← this]; exact hq
    have hget : ∀ k, mget ds.reverse k = mget m k := fun k => get_perm ((hpm.map Prod.fst).nodup_iff.2 hmn) hpm k
    have hpr := HP.out.kept HC.out (fun j hj e => by have := HBg.out j hj; omega)
    have HPr := Lib.hid hpr
    have HGet := Lib.hid hget
    obtain ⟨M, hM⟩ : ∃ M, ds.reverse = M := ⟨_, rfl⟩
    rw [hM] at HG HGet
    clear hpm hall hmn hget hpr hM
    go_wp2_with fail
    go_loopw [22] (fun j wr2 => ∃ k : Nat, j = .int .i64 k ∧ k ≤ l.length ∧ MapAt wr2 G (applyF M (l.take k)) ∧ Chg (fun k => k = G) wr wr2) (fun j _ => l.length - (intOf j).toNat)
    · exact ⟨0, rfl, Nat.zero_le _, HG.out, Chg.refl _ _⟩
    obtain ⟨k, rfl, hk, hm, hc⟩ := hrel
    have HC2 := Lib.hid hc
    have HMk := Lib.hid hm
    clear hc hm
    by_cases hlt : k < l.length
    · have hki : (k : Int) < (l.length : Int) := by omega
      obtain ⟨g', cap', p, e1, hr, d0, d1, d2⟩ := put_cells (HPr.out.kept HC2.out (fun j hj e => by have := HBg.out j hj; omega)) hlt
      simp only [Value.slice.injEq] at e1
      obtain ⟨rfl, -, -⟩ := e1
      have HGp := Lib.hid (show g' < G from HBg.out _ rfl)
      have Hr := Lib.hid hr
      have HKp := Lib.hid (HK.out p (List.mem_of_getElem? hr))
      clear hr
      unfold strV at d0 d1
      cases hg : p.gone
      · rw [hg] at d2
        have Hg := Lib.hid hg
        have hd : Chg (fun _ => False) wr wr.drew := (Chg.refl _ _).drew
        obtain ⟨ob, hup, hmq⟩ := (HMk.out.kept hd id).put Tryz.underlying54 p.key HKp.out p.val
        have hup : (Instr.mapUpdate 54 (.map (some G)) (.string ⟨p.key.toArray⟩) (.string ⟨p.val.toArray⟩)).run Tryz.prog wr.drew = .ok () (setBlock wr.drew G ob) := hup
        have hcq : Chg (· = G) wr.drew (setBlock wr.drew G ob) := Chg.setBlock (S := (· = G)) (Chg.refl _ _) (fun _ => rfl) _
        obtain ⟨w1, hw1⟩ : ∃ w1, setBlock wr.drew G ob = w1 := ⟨_, rfl⟩
        rw [hw1] at hup hmq hcq
        have hne : ¬ g' = G := fun e => by have := HGp.out; omega
        have f0 : w1.cell? ⟨g', k * 3, none⟩ = some (.string ⟨p.key.toArray⟩) := hcq.cell (show wr.drew.cell? ⟨g', k * 3, none⟩ = _ from d0) hne
        have f1 : w1.cell? ⟨g', k * 3 + 1, none⟩ = some (.string ⟨p.val.toArray⟩) := hcq.cell (show wr.drew.cell? ⟨g', k * 3 + 1, none⟩ = _ from d1) hne
        have HM1 := Lib.hid hmq
        have HC1 := Lib.hid ((hd.mono (fun _ _ e => e.elim) : Chg (· = G) wr wr.drew).trans' hcq)
        have HF0 := Lib.hid (And.intro f0 f1)
        clear hd hmq hcq hw1 hne hg f0 f1
        go_wp2_with fail
        refine wp_region_noPanic ?_
        refine wp_region_held_drew (S := (fun w' => w'.cell? ⟨g', k * 3, none⟩ = some (.string ⟨p.key.toArray⟩) ∧ w'.cell? ⟨g', k * 3 + 1, none⟩ = some (.string ⟨p.val.toArray⟩))) (by kernel_rfl) (⟨d0, d1⟩) (fun hHeld => ?_)
        refine take_list (i := 0) (v := ?_) rfl (by kernel_rfl) (by kernel_rfl) (by kernel_rfl) (fun _ _ _ h => h) (Or.inl ⟨by rfl, fun w hSw => ?_⟩) hHeld ?_
        rotate_left
        · (obtain ⟨hSw1, hSw2⟩ := hSw; go_simp)
          try with_reducible rfl
        simp only [Act.put, List.setIfInBounds_toArray, List.set_cons_zero, List.set_cons_succ]
        refine take_list (i := 1) (v := ?_) rfl (by kernel_rfl) (by kernel_rfl) (by kernel_rfl) (fun _ _ _ h => h) (Or.inl ⟨by rfl, fun w hSw => ?_⟩) hHeld ?_
        rotate_left
        · (obtain ⟨hSw1, hSw2⟩ := hSw; go_simp)
          try with_reducible rfl
        simp only [Act.put, List.setIfInBounds_toArray, List.set_cons_zero, List.set_cons_succ]
        refine take_list (i := 2) (v := ?_) rfl (by kernel_rfl) (by kernel_rfl) (by kernel_rfl) (fun _ _ _ h => h) (Or.inl ⟨by rfl, fun w hSw => ?_⟩) hHeld ?_
        rotate_left
        · (obtain ⟨hSw1, hSw2⟩ := hSw; go_simp)
          try with_reducible rfl
        simp only [Act.put, List.setIfInBounds_toArray, List.set_cons_zero, List.set_cons_succ]
        refine take_list (i := 3) (v := ?_) rfl (by kernel_rfl) (by kernel_rfl) (by kernel_rfl) (fun _ _ _ h => h) (Or.inl ⟨by rfl, fun w hSw => ?_⟩) hHeld ?_
        rotate_left
        · (obtain ⟨hSw1, hSw2⟩ := hSw; go_simp)
          try with_reducible rfl
        simp only [Act.put, List.setIfInBounds_toArray, List.set_cons_zero, List.set_cons_succ]
        refine take_list (i := 4) (v := ?_) rfl (by kernel_rfl) (by kernel_rfl) (by kernel_rfl) (fun _ _ _ h => h) (Or.inl ⟨by rfl, fun w hSw => ?_⟩) hHeld ?_
        rotate_left
        · (obtain ⟨hSw1, hSw2⟩ := hSw; go_simp)
          try with_reducible rfl
        simp only [Act.put, List.setIfInBounds_toArray, List.set_cons_zero, List.set_cons_succ]
        refine take_list (i := 5) (v := ?_) rfl (by kernel_rfl) (by kernel_rfl) (by kernel_rfl) (fun _ _ _ h => h) (Or.inl ⟨by rfl, fun w hSw => ?_⟩) hHeld ?_
        rotate_left
        · (obtain ⟨hSw1, hSw2⟩ := hSw; go_simp)
          try with_reducible rfl
        simp only [Act.put, List.setIfInBounds_toArray, List.set_cons_zero, List.set_cons_succ]
        refine take_list (i := 6) (v := ?_) rfl (by kernel_rfl) (by kernel_rfl) (by kernel_rfl) (fun _ _ _ h => h) (Or.inl ⟨by rfl, fun w hSw => ?_⟩) hHeld ?_
        rotate_left
        · (obtain ⟨hSw1, hSw2⟩ := hSw; go_simp)
          try with_reducible rfl
        simp only [Act.put, List.setIfInBounds_toArray, List.set_cons_zero, List.set_cons_succ]
        refine take_list (i := 7) (v := ?_) rfl (by kernel_rfl) (by kernel_rfl) (by kernel_rfl) (fun _ _ _ h => h) (Or.inl ⟨by rfl, fun w hSw => ?_⟩) hHeld ?_
        rotate_left
        · (obtain ⟨hSw1, hSw2⟩ := hSw; go_simp)
          try with_reducible rfl
        simp only [Act.put, List.setIfInBounds_toArray, List.set_cons_zero, List.set_cons_succ]
        refine take_list (i := 8) (v := ?_) rfl (by kernel_rfl) (by kernel_rfl) (by kernel_rfl) (fun _ _ _ h => h) (Or.inl ⟨by rfl, fun w hSw => ?_⟩) hHeld ?_
        rotate_left
        · (obtain ⟨hSw1, hSw2⟩ := hSw; go_simp)
          try with_reducible rfl
        simp only [Act.put, List.setIfInBounds_toArray, List.set_cons_zero, List.set_cons_succ]
        refine take_list (i := 9) (v := ?_) rfl (by kernel_rfl) (by kernel_rfl) (by kernel_rfl) (fun _ _ _ h => h) (Or.inl ⟨by rfl, fun w hSw => ?_⟩) hHeld ?_
        rotate_left
        · (obtain ⟨hSw1, hSw2⟩ := hSw; go_simp)
          try with_reducible rfl
        simp only [Act.put, List.setIfInBounds_toArray, List.set_cons_zero, List.set_cons_succ]
        refine take_list (i := 10) (v := ?_) rfl (by kernel_rfl) (by kernel_rfl) (by kernel_rfl) (fun _ _ _ h => h) (Or.inl ⟨by rfl, fun w hSw => ?_⟩) hHeld ?_
        rotate_left
        · (obtain ⟨hSw1, hSw2⟩ := hSw; go_simp)
          try with_reducible rfl
        simp only [Act.put, List.setIfInBounds_toArray, List.set_cons_zero, List.set_cons_succ]
        refine wpAnyH_ready (rs := [11]) (by kernel_rfl) (by simp) (one_list (i := 11) rfl (by rfl) (fun K hK => ?_) AllReadyH.nil)
        refine oper_put _ _ _ _ rfl rfl rfl rfl hup ?_
        refine hK _ _ (⟨HF0.out.1, HF0.out.2⟩) (fun hH2 => ?_)
        try simp only [Act.put, List.setIfInBounds_toArray, List.set_cons_zero, List.set_cons_succ]
        refine wpAnyH_done (by kernel_rfl) ?_ _
        refine NoPanic.normal ?_
        clear hHeld hH2 hup
        go_wp2_with fail
        refine ⟨⟨k + 1, by go_num, hlt, ?_, HC2.out.trans HC1.out (fun _ _ h => h)⟩, puts_meas hlt⟩
        rw [applyF_take Hr.out]
        unfold doneF
        rw [Hg.out, if_neg (by simp)]
        exact HM1.out
      · have Hg := Lib.hid hg
        rw [hg] at d2
        obtain ⟨ob, hdel, hm1⟩ := HMk.out.del Tryz.underlying54 p.key HKp.out 0
        have hc1 : Chg (· = G) wr (setBlock wr G ob) := Chg.setBlock (S := (· = G)) (Chg.refl _ _) (fun _ => rfl) _
        obtain ⟨w1, hw1⟩ : ∃ w1, setBlock wr G ob = w1 := ⟨_, rfl⟩
        rw [hw1] at hdel hm1 hc1
        have HM1 := Lib.hid hm1
        have HC1 := Lib.hid hc1
        have hdel2 : (Builtin.delete_ #[54, 9] 0 #[.map (some G), .string ⟨p.key.toArray⟩]).run Tryz.prog wr = .ok (.tuple #[]) w1 := hdel
        clear hm1 hc1 hdel hw1 hg
        go_wp2_with fail
        refine ⟨⟨k + 1, by go_num, hlt, ?_, HC2.out.trans HC1.out (fun _ _ h => h)⟩, puts_meas hlt⟩
        rw [applyF_take Hr.out]
        unfold doneF
        rw [Hg.out, if_pos rfl]
        exact HM1.out
    · have hki : ¬ (k : Int) < (l.length : Int) := by omega
      obtain rfl : k = l.length := by omega
      go_wp2_with fail
      go_ret
      have hmk := HMk.out
      rw [List.take_length] at hmk
      refine ⟨_, rfl, _, hmk, fun k => applyF_get HGet.out l k, by rw [HGw.out]; exact Nat.le_refl _, ?_⟩
      refine (HC.out.trans HC2.out (fun i _ e => Nat.le_of_eq e.symm)).mono (fun i hi e => ?_)
      rw [HGw.out] at hi
      omega
  · have hen' : (Instr.entry (.pointer (some ⟨R, 0, none⟩))).run Tryz.prog w' = .ok (.tuple #[.string ⟨k.toArray⟩, .string ⟨u.toArray⟩]) w' := hen
    have hrun' : (Instr.next (.pointer (some ⟨R, 0, none⟩)) false 0).run Tryz.prog wr = .ok (.tuple #[.bool true, .string ⟨k.toArray⟩, .string ⟨u.toArray⟩]) w' := hrun
    have HGr := Lib.hid (show ¬ G = R by have := HGR.out; omega)
    have hmg := HG.out.kept hcr (fun e => HGr.out e)
    have HMg := Lib.hid hmg
    have HRn := Lib.hid hr'
    have HCr := Lib.hid hcr
    have HM := Lib.hid hm
    have HNn := Lib.hid hnn
    have HLt := Lib.hid hlt
    clear hen hrun hr' hlt hcr hsz hm hnn hmg
    go_wp2_with (first
      | (at_mapUpdate; refine wpList_put HMg.out rfl _ _ _ _ rfl _ Tryz.underlying54 rfl k rfl (HKm.out _ HM.out) u rfl ?_; intro w8 hm8 hc8; have HM8 := Lib.hid hm8; have HC8 := Lib.hid hc8; clear hm8 hc8))
    have hrn := HRn.out.kept HC8.out (fun e => by have := HLg2.out; omega) (fun e => HGr.out e.symm)
    refine ⟨⟨_, _, _, _, _, _, _, _, _, _, ⟨(k, u) :: ds, cnt', hrn, ?_, (HC.out.trans HCr.out (fun i _ e => by have e : i = R := e; have := HGR.out; omega)).trans HC8.out (fun i _ e => Nat.le_of_eq e.symm), List.nodup_cons.2 ⟨HNn.out, HN.out⟩, fun p hp => ?_⟩, rfl⟩, ?_⟩
    · have := HM8.out
      rw [mput_new (fun h => HNn.out (by rw [List.map_reverse] at h; exact List.mem_reverse.1 h))] at this
      rw [List.reverse_cons]
      exact this
    · rcases List.mem_cons.1 hp with rfl | hp
      · exact HM.out
      · exact HIn.out p hp
    · rw [hrn.left_eq, HR.out.left_eq]
      exact HLt.out

end Go.Proofs.YtbkefhoapnaciaaGreat.kvs
end

/-
  kv: the state of the laws that play: a database beside a map of the law's own.
-/
section
set_option linter.unusedSimpArgs false
set_option linter.unusedVariables false
namespace Go.Proofs.YtbkefhoapnaciaaGreat.kvs
open Go.RowKit Go.Maps Go.My Go.ChangeMaps disks bufs wals
set_option maxRecDepth 100000

variable {W w w' : World} {P P' : Nat → Prop} {b l q d s a g2 : Nat} {X X' : DV} {V V' : LV} {m m' mm m2 : List KV} {recs : List Txt}

theorem mod_120 (z : Int) : ∃ K : Nat, 6 ≤ K ∧ K ≤ 125 ∧ wrap64 (z.tmod 120 + 120) = z.tmod 120 + 120 ∧ wrap64 (6 + (z.tmod 120 + 120).tmod 120) = (K : Int) := by
  obtain ⟨R, h1, h2, h3⟩ := mod_twice z 120 (by omega) (by omega)
  have h2 : wrap64 (z.tmod 120 + 120) = z.tmod 120 + 120 := h2
  have h3 : (z.tmod 120 + 120).tmod 120 = (R : Int) := h3
  exact ⟨R + 6, by omega, by omega, h2, by rw [h3, IntWalk.wrap64_in _ (by omega)]; omega⟩
theorem mod_80 (z : Int) : ∃ K : Nat, K ≤ 79 ∧ wrap64 (z.tmod 80 + 80) = z.tmod 80 + 80 ∧ (z.tmod 80 + 80).tmod 80 = (K : Int) := by
  obtain ⟨R, h1, h2, h3⟩ := mod_twice z 80 (by omega) (by omega)
  exact ⟨R, by omega, h2, h3⟩
theorem mod_12 (z : Int) : ∃ K : Nat, K ≤ 11 ∧ wrap64 (z.tmod 12 + 12) = z.tmod 12 + 12 ∧ (z.tmod 12 + 12).tmod 12 = (K : Int) := by
  obtain ⟨R, h1, h2, h3⟩ := mod_twice z 12 (by omega) (by omega)
  exact ⟨R, by omega, h2, h3⟩

/-- A database of whole records. -/
structure Okay (P : Nat → Prop) (W w : World) (b l q d : Nat) (X : DV) (recs : List Txt) (s a : Nat) (m : List KV) : Prop where
  ks : KS P W w b l q d X (lvW recs s a []) m
  st : Stands X recs s a
  rep : Rep recs m
theorem Okay.fresh (h : Okay P W w b l q d X recs s a m) (hc : Chg (fun _ => False) w w') : Okay P W w' b l q d X recs s a m := ⟨h.ks.fresh hc, h.st, h.rep⟩
/-- A map of the law's own, that tells the same as the database's. -/
structure Mir (P : Nat → Prop) (w : World) (q g2 : Nat) (m2 m : List KV) : Prop where
  at' : MapAt w g2 m2
  off : Beside P q w g2
  same : ∀ k, mget m k = mget m2 k
theorem Mir.fresh (h : Mir P w q g2 m2 m) (hc : Chg (fun _ => False) w w') : Mir P w' q g2 m2 m := ⟨h.at'.kept hc id, h.off.fresh hc, h.same⟩
theorem Mir.next (h : Mir P w q g2 m2 m) (k : KNext P W w w' b l q d X V m' P') (hs : ∀ k, mget m' k = mget m k) : Mir P' w' q g2 m2 m' := ⟨k.keep h.off h.at', k.off _ h.off, fun k => (hs k).trans (h.same k)⟩
theorem Mir.keys (h : Mir P w q g2 m2 m) (hr : Rep recs m) : ∀ p ∈ m2, p.1.length ≤ 64 := by
  intro p hp
  have hm := hr.may.perm (perm_of_get hr.nd h.at'.nodup h.same)
  exact (may_key (hm p hp)).2.1
/-- has tells that they are the same. -/
theorem has_yes (w : World) (h : KS P W w b l q d X V m) (hr : Rep recs m) (hs : m.length ≤ 65504) (hm : Mir P w q g2 m2 m) :
    Calls Tryz.prog 25 #[.pointer (some ⟨b, 0, none⟩), .map (some g2)] w fun e w' => e = .returned (.bool true) ∧ Chg (fun _ => False) w w' := by
  refine (has_any w h.at'.db hr.may (by omega) hm.at').mono ?_
  rintro e w' ⟨_, rfl, ⟨β, rfl, hβ⟩, hc⟩
  rw [hβ hm.same]
  exact ⟨rfl, hc⟩

end Go.Proofs.YtbkefhoapnaciaaGreat.kvs
end

/-
  kv: a database whose power is lost: a fuse, Open of a blank disk that is cut off, Up.
-/
section
set_option linter.unusedSimpArgs false
set_option linter.unusedVariables false
namespace Go.Proofs.YtbkefhoapnaciaaGreat.kvs
open Go.RowKit Go.Maps Go.My Go.ChangeMaps disks bufs wals
set_option maxRecDepth 100000

variable {W w w' : World} {P P' : Nat → Prop} {b l q d s a g2 : Nat} {X X' : DV} {V V' : LV} {m m' mm m2 : List KV} {recs : List Txt}

theorem open_refusedR (w : World) {d : Nat} {R : World → Prop} {z : Int} (hz : z ≠ 0) (h : Calls Tryz.prog 45 #[.pointer (some ⟨d, 0, none⟩)] w fun e w' => e = .returned (.tuple #[.pointer none, .int .i64 z]) ∧ R w') :
    Calls Tryz.prog 18 #[.pointer (some ⟨d, 0, none⟩)] w fun e w' => e = .returned (.tuple #[.pointer none, .int .i64 z]) ∧ R w' := by
  have H := Lib.hid h
  clear h
  have hzi : ¬ z = 0 := hz
  go_enter Tryz.func18, Tryz.ntmps18
  go_wp2_with (first
    | (go_at_call 45; refine H.out.mono ?_; rintro e w1 ⟨rfl, hc⟩; have HC := Lib.hid hc; clear hc))
  go_ret2
  exact ⟨rfl, HC.out⟩

/-- Open of a blank disk: an empty database, or cut off. -/
theorem ks_open_blank (w : World) (hd : DS P W w d X) (hb : Blank X) (hf : X.fuse ≤ 9223372036854775807) :
    (Calls Tryz.prog 18 #[.pointer (some ⟨d, 0, none⟩)] w fun e w' => ∃ b, e = .returned (.tuple #[.pointer (some ⟨b, 0, none⟩), .int .i64 0]) ∧ ∃ l q m X' recs s a P', KOpen P W w w' b l q d X' recs s a m P' ∧ (recs = [] ∧ s = 1 ∧ Stands X' recs s a ∧ Goes X X' ∧ X'.B.length = X.B.length)) ∨
    (Calls Tryz.prog 18 #[.pointer (some ⟨d, 0, none⟩)] w fun e w' => e = .returned (.tuple #[.pointer none, .int .i64 15]) ∧ ∃ X' P', DS P' W w' d X' ∧ Chg P w w' ∧ (∀ g, g < w.heap.size → ¬ P g → ¬ P' g) ∧ (∀ j, (X'.L j).length ≤ 1) ∧ ∀ keep, Blank (X'.crash keep) ∨ Stands (X'.crash keep) [] 1 0) := by
  obtain ⟨⟨Fd, h1, h2⟩, h3⟩ := hd.at'
  have ho := open_of_blank w h1 hb hf
  obtain ⟨g, hl, hr⟩ := blank_open hb _ rfl
  rcases hr with ⟨e1, e2, e3⟩ | ⟨e1, e2, e3, e4, e5, e6⟩
  · refine Or.inl ((open_kv w hd.lt (Q := fun X' recs s a => recs = [] ∧ s = 1 ∧ Stands X' recs s a ∧ Goes X X' ∧ X'.B.length = X.B.length) (ho.mono ?_) ?_).mono ?_)
    · rintro e w' ⟨Fd', k1, k2, k3⟩
      rcases k3 with ⟨V, l, F', j1, j2, j3, j4⟩ | ⟨j1, -⟩
      · rw [e2] at j1
        cases j1
        exact ⟨l, _, [], 1, 0, j2, WAt.opened h3 h2 j3 j4 k1 k2, rfl, rfl, e3, g, hl⟩
      · rw [e2] at j1; cases j1
    · rintro X' recs s a ⟨rfl, rfl, h, -, -⟩
      exact ⟨h, [], Rep.nil⟩
    · rintro e w' ⟨b, rfl, h⟩
      exact ⟨b, rfl, h.ks hd⟩
  · refine Or.inr (open_refusedR w (R := fun w' => ∃ X' P', DS P' W w' d X' ∧ Chg P w w' ∧ (∀ g, g < w.heap.size → ¬ P g → ¬ P' g) ∧ (∀ j, (X'.L j).length ≤ 1) ∧ ∀ keep, Blank (X'.crash keep) ∨ Stands (X'.crash keep) [] 1 0) (by decide) (ho.mono ?_))
    rintro e w' ⟨Fd', k1, k2, k3⟩
    rcases k3 with ⟨V, l, F', j1, -⟩ | ⟨-, j2, j3⟩
    · rw [e2] at j1; cases j1
    · rw [e1] at j2
      have hda : DAt P w w' d (openF X).2.1 := ⟨⟨Fd', j3, fun k hk => (k1 k hk).elim (h2 k) (fun h' => Or.inr (Nat.le_trans h3.size h'))⟩, chg_more h3 k2 h2⟩
      exact ⟨j2, _, NowP P w w', ⟨hda.rest (Chg.refl _ _), fun k hk => hk.1.elim (hd.new k) (fun e => Nat.le_trans hd.chg.size e), fun k hk => hk.2, hd.chg.new hda.chg hd.new⟩, hda.chg, fun g hg hp hn => hn.1.elim hp (fun e => by omega), e5, e6⟩

theorem ds_fuse (hd : DS P W w d X) (n : Int) : Calls Tryz.prog 26 #[.pointer (some ⟨d, 0, none⟩), .int .i64 n] w fun e w' => e = .returned (.int .i64 (fuseC X n)) ∧ ∃ P', DS P' W w' d (X.set n) := by
  refine (dat_fuse hd.at' n).mono ?_
  rintro e w' ⟨rfl, h⟩
  exact ⟨rfl, NowP P w w', h.rest (Chg.refl _ _), fun k hk => hk.1.elim (hd.new k) (fun e => Nat.le_trans hd.chg.size e), fun k hk => hk.2, hd.chg.new h.chg hd.new⟩
theorem ks_up (h : KS P W w b l q d X V m) : Calls Tryz.prog 27 #[.pointer (some ⟨d, 0, none⟩)] w fun e w' => e = .returned (.bool (!X.down)) ∧ w = w' := dat_up h.disk.at'

/-- What stands at the end of a play: a disk, and behind any loss of power one of two maps. -/
structure Ex (W w : World) (d : Nat) (X : DV) (g9 g10 : Nat) (P : Nat → Prop) (m9 m10 : List KV) : Prop where
  ds : DS P W w d X
  L : ∀ j, (X.L j).length ≤ 1
  at9 : MapAt w g9 m9
  off9 : ¬ P g9
  at10 : MapAt w g10 m10
  off10 : ¬ P g10
  crash : ∀ keep, (Blank (X.crash keep) ∧ m9 = []) ∨ ∃ recs s a mm, s ≤ 1000 ∧ Stands (X.crash keep) recs s a ∧ Rep recs mm ∧ ((∀ k, mget mm k = mget m9 k) ∨ ∀ k, mget mm k = mget m10 k)
theorem Ex.fresh {g9 g10 : Nat} {m9 m10 : List KV} (h : Ex W w d X g9 g10 P m9 m10) (hc : Chg (fun _ => False) w w') : Ex W w' d X g9 g10 P m9 m10 := ⟨h.ds.fresh hc, h.L, h.at9.kept hc id, h.off9, h.at10.kept hc id, h.off10, h.crash⟩

/-- has, of a map that is the same or is not. -/
theorem has_some (w : World) (h : KS P W w b l q d X V m) (hr : Rep recs m) (hs : m.length ≤ 65504) (hm : MapAt w g2 m2) :
    Calls Tryz.prog 25 #[.pointer (some ⟨b, 0, none⟩), .map (some g2)] w fun e w' => ∃ v, e = .returned v ∧ HasOut m m2 v ∧ Chg (fun _ => False) w w' :=
  has_any w h.at'.db hr.may (by omega) hm

end Go.Proofs.YtbkefhoapnaciaaGreat.kvs
end

/-
  kv: small: a batch that is cut.
-/
import Derived.Test.YtbkefhoapnaciaaGreatPkBe
import Derived.Test.YtbkefhoapnaciaaGreatPkBf

section
set_option linter.unusedSimpArgs false
set_option linter.unusedVariables false
namespace Go.Proofs.YtbkefhoapnaciaaGreat.kvs
open Go.RowKit Go.Maps Go.My Go.ChangeMaps disks bufs wals
set_option maxRecDepth 100000

variable {w w' : World}

def cutT (n : Nat) (t : Txt) : Txt := if n < t.length then t.take n else t
def cutP (p : PV) : PV := ⟨cutT 70 p.key, cutT 1100 p.val, p.gone⟩
def smallP (l : List PV) : List PV := (l.take 70).map cutP
theorem smallP_len (l : List PV) : (smallP l).length ≤ 70 := by simp [smallP]; omega
theorem cutT_len (n : Nat) (t : Txt) : (cutT n t).length ≤ n := by
  unfold cutT
  split
  · rw [List.length_take]; omega
  · omega
theorem smallP_mem {l : List PV} {p : PV} (h : p ∈ smallP l) : p.key.length ≤ 70 ∧ p.val.length ≤ 1100 := by
  obtain ⟨x, -, rfl⟩ := List.mem_map.1 h
  exact ⟨cutT_len _ _, cutT_len _ _⟩
theorem smallP_push {l : List PV} {k : Nat} {p : PV} (h : l[k]? = some p) (hk : k < 70) : smallP (l.take (k + 1)) = smallP (l.take k) ++ [cutP p] := by
  unfold smallP
  rw [List.take_take, List.take_take, Nat.min_eq_right (by omega), Nat.min_eq_right (by omega), List.take_add_one, h, Option.toList_some, List.map_append]
  rfl
theorem cut_str {n : Nat} {t : Txt} {s : ByteArray} (h : strV t = .string s) (hn : n < t.length) : strV (cutT n t) = .string (s.extract 0 n) := by
  have e : Value.string (⟨t.toArray⟩ : ByteArray) = .string s := h
  simp only [Value.string.injEq] at e
  unfold cutT
  rw [if_pos hn, ← e, str_take]
  rfl
theorem cut_same {n : Nat} {t : Txt} {s : ByteArray} (h : strV t = .string s) (hn : ¬ n < t.length) : strV (cutT n t) = .string s := by
  unfold cutT
  rw [if_neg hn]
  exact h


set_option maxHeartbeats 2000000 in
theorem small_any (w : World) (v : Value) (l : List PV) (h : PutsAt w v l) (hz : ∀ p ∈ l, p.sized) :
    Calls Tryz.prog 16 #[v] w fun e w' => ∃ v', e = .returned v' ∧ Puts w' w.heap.size v' (smallP l) ∧ Chg (fun _ => False) w w' := by
  obtain ⟨oa, cap, rfl, h2⟩ := h
  have H := Lib.hid (show PutsAt w (.slice oa l.length cap) l from ⟨oa, cap, rfl, h2⟩)
  have HZ := Lib.hid hz
  clear h2 hz
  go_enter Tryz.func16, Tryz.ntmps16
  go_wp2_with fail
  go_loopw [3, 4] (fun u i wr => ∃ k : Nat, i = .int .i64 k ∧ k ≤ l.length ∧ k ≤ 70 ∧ Puts wr w.heap.size u (smallP (l.take k)) ∧ Chg (fun _ => False) w wr) (fun _ i _ => 70 - (intOf i).toNat)
  · exact ⟨0, rfl, Nat.zero_le _, Nat.zero_le _, OwnRecs.nil _ _ _ _, Chg.refl _ _⟩
  obtain ⟨k, rfl, hk1, hk2, ho, hc⟩ := hrel
  have HO := Lib.hid ho
  have HC := Lib.hid hc
  clear ho hc
  by_cases hlt : k < l.length ∧ k < 70
  · obtain ⟨hlt1, hlt2⟩ := hlt
    have j1 : (k : Int) < (l.length : Int) := by omega
    have j2 : (k : Int) < 70 := by omega
    obtain ⟨g, off, cap', p, e1, hr, d0, d1, d2⟩ := putsAt_cells (H.out.kept HC.out (fun _ _ h => h)) hlt1
    simp only [Value.slice.injEq, true_and] at e1
    obtain ⟨rfl, -⟩ := e1
    have HGk := Lib.hid hr
    have HL2 := Lib.hid hlt2
    obtain ⟨z1, z2⟩ := HZ.out p (List.mem_of_getElem? hr)
    unfold maxLen at z1 z2
    clear hr hlt2
    obtain ⟨sk, hsk⟩ : ∃ s : ByteArray, strV p.key = .string s := ⟨_, rfl⟩
    obtain ⟨sv, hsv⟩ : ∃ s : ByteArray, strV p.val = .string s := ⟨_, rfl⟩
    have esk := str_size p.key sk hsk
    have esv := str_size p.val sv hsv
    rw [hsk] at d0
    rw [hsv] at d1
    by_cases a1 : 70 < p.key.length
    · have i1 : (70 : Int) < (sk.size : Int) := by omega
      by_cases a2 : 1100 < p.val.length
      · have i2 : (1100 : Int) < (sv.size : Int) := by omega
        have hk1 : strV (cutP p).key = .string (sk.extract 0 70) := cut_str hsk a1
        have hv1 : strV (cutP p).val = .string (sv.extract 0 1100) := cut_str hsv a2
        have hca : Chg (fun _ => False) wr (wr.alloc (.cells #[.string (sk.extract 0 70), .string (sv.extract 0 1100), .bool p.gone] 45)) := (Chg.refl _ _).alloc _
        have hcb := hca.alloc (.cells #[.string (sk.extract 0 70), .string (sv.extract 0 1100), .bool p.gone] 45)
        have hzz : w.heap.size ≤ wr.heap.size := HC.out.size
        obtain ⟨v8, w8, hr8, hp8, hg8⟩ := append_putO (p := cutP p) (nb := wr.heap.size + 1) (HO.out.kept hcb (fun _ _ h => h)) (fun j u hu => by
          have hb : ((wr.alloc (.cells #[.string (sk.extract 0 70), .string (sv.extract 0 1100), .bool p.gone] 45)).alloc (.cells #[.string (sk.extract 0 70), .string (sv.extract 0 1100), .bool p.gone] 45)).heap[wr.heap.size + 1]? = some (.cells #[.string (sk.extract 0 70), .string (sv.extract 0 1100), .bool p.gone] 45 (0, 0)) := by
            have := block_alloc_new (wr.alloc (.cells #[.string (sk.extract 0 70), .string (sv.extract 0 1100), .bool p.gone] 45)) (.cells #[.string (sk.extract 0 70), .string (sv.extract 0 1100), .bool p.gone] 45)
            rw [World.size_alloc] at this
            exact this
          refine cell_of_block hb ?_
          have e : (cutP p).row = [.string (sk.extract 0 70), .string (sv.extract 0 1100), .bool p.gone] := by unfold PV.row; rw [hk1, hv1]; rfl
          rw [e] at hu
          simpa using hu) (Nat.le_trans hzz hcb.size) (by have := smallP_len (l.take k); omega) 22
        have HR8 := Lib.hid hr8
        have HP8 := Lib.hid hp8
        have HC8 := Lib.hid (show Chg (fun _ => False) w w8 from (HC.out.trans' hcb).new hg8 (fun i e => (HO.out.lt e.symm).1))
        clear hca hcb hzz hr8 hp8 hg8 hsk hsv hk1 hv1
        go_wp2_with (first
          | (at_builtin; refine Lib.wpList_append_run _ rfl _ _ _ _ rfl _ _ rfl rfl _ _ HR8.out ?_))
        refine ⟨⟨k + 1, by go_num, by omega, by omega, by rw [smallP_push HGk.out HL2.out]; exact HP8.out, HC8.out⟩, by simp [intOf]; omega⟩
      · have i2 : (sv.size : Int) ≤ 1100 := by omega
        have hk1 : strV (cutP p).key = .string (sk.extract 0 70) := cut_str hsk a1
        have hv1 : strV (cutP p).val = .string sv := cut_same hsv a2
        have hca : Chg (fun _ => False) wr (wr.alloc (.cells #[.string (sk.extract 0 70), .string sv, .bool p.gone] 45)) := (Chg.refl _ _).alloc _
        have hcb := hca.alloc (.cells #[.string (sk.extract 0 70), .string sv, .bool p.gone] 45)
        have hzz : w.heap.size ≤ wr.heap.size := HC.out.size
        obtain ⟨v8, w8, hr8, hp8, hg8⟩ := append_putO (p := cutP p) (nb := wr.heap.size + 1) (HO.out.kept hcb (fun _ _ h => h)) (fun j u hu => by
          have hb : ((wr.alloc (.cells #[.string (sk.extract 0 70), .string sv, .bool p.gone] 45)).alloc (.cells #[.string (sk.extract 0 70), .string sv, .bool p.gone] 45)).heap[wr.heap.size + 1]? = some (.cells #[.string (sk.extract 0 70), .string sv, .bool p.gone] 45 (0, 0)) := by
            have := block_alloc_new (wr.alloc (.cells #[.string (sk.extract 0 70), .string sv, .bool p.gone] 45)) (.cells #[.string (sk.extract 0 70), .string sv, .bool p.gone] 45)
            rw [World.size_alloc] at this
            exact this
          refine cell_of_block hb ?_
          have e : (cutP p).row = [.string (sk.extract 0 70), .string sv, .bool p.gone] := by unfold PV.row; rw [hk1, hv1]; rfl
          rw [e] at hu
          simpa using hu) (Nat.le_trans hzz hcb.size) (by have := smallP_len (l.take k); omega) 22
        have HR8 := Lib.hid hr8
        have HP8 := Lib.hid hp8
        have HC8 := Lib.hid (show Chg (fun _ => False) w w8 from (HC.out.trans' hcb).new hg8 (fun i e => (HO.out.lt e.symm).1))
        clear hca hcb hzz hr8 hp8 hg8 hsk hsv hk1 hv1
        go_wp2_with (first
          | (at_builtin; refine Lib.wpList_append_run _ rfl _ _ _ _ rfl _ _ rfl rfl _ _ HR8.out ?_))
        refine ⟨⟨k + 1, by go_num, by omega, by omega, by rw [smallP_push HGk.out HL2.out]; exact HP8.out, HC8.out⟩, by simp [intOf]; omega⟩
    · have i1 : (sk.size : Int) ≤ 70 := by omega
      by_cases a2 : 1100 < p.val.length
      · have i2 : (1100 : Int) < (sv.size : Int) := by omega
        have hk1 : strV (cutP p).key = .string sk := cut_same hsk a1
        have hv1 : strV (cutP p).val = .string (sv.extract 0 1100) := cut_str hsv a2
        have hca : Chg (fun _ => False) wr (wr.alloc (.cells #[.string sk, .string (sv.extract 0 1100), .bool p.gone] 45)) := (Chg.refl _ _).alloc _
        have hcb := hca.alloc (.cells #[.string sk, .string (sv.extract 0 1100), .bool p.gone] 45)
        have hzz : w.heap.size ≤ wr.heap.size := HC.out.size
        obtain ⟨v8, w8, hr8, hp8, hg8⟩ := append_putO (p := cutP p) (nb := wr.heap.size + 1) (HO.out.kept hcb (fun _ _ h => h)) (fun j u hu => by
          have hb : ((wr.alloc (.cells #[.string sk, .string (sv.extract 0 1100), .bool p.gone] 45)).alloc (.cells #[.string sk, .string (sv.extract 0 1100), .bool p.gone] 45)).heap[wr.heap.size + 1]? = some (.cells #[.string sk, .string (sv.extract 0 1100), .bool p.gone] 45 (0, 0)) := by
            have := block_alloc_new (wr.alloc (.cells #[.string sk, .string (sv.extract 0 1100), .bool p.gone] 45)) (.cells #[.string sk, .string (sv.extract 0 1100), .bool p.gone] 45)
            rw [World.size_alloc] at this
            exact this
          refine cell_of_block hb ?_
          have e : (cutP p).row = [.string sk, .string (sv.extract 0 1100), .bool p.gone] := by unfold PV.row; rw [hk1, hv1]; rfl
          rw [e] at hu
          simpa using hu) (Nat.le_trans hzz hcb.size) (by have := smallP_len (l.take k); omega) 22
        have HR8 := Lib.hid hr8
        have HP8 := Lib.hid hp8
        have HC8 := Lib.hid (show Chg (fun _ => False) w w8 from (HC.out.trans' hcb).new hg8 (fun i e => (HO.out.lt e.symm).1))
        clear hca hcb hzz hr8 hp8 hg8 hsk hsv hk1 hv1
        go_wp2_with (first
          | (at_builtin; refine Lib.wpList_append_run _ rfl _ _ _ _ rfl _ _ rfl rfl _ _ HR8.out ?_))
        refine ⟨⟨k + 1, by go_num, by omega, by omega, by rw [smallP_push HGk.out HL2.out]; exact HP8.out, HC8.out⟩, by simp [intOf]; omega⟩
      · have i2 : (sv.size : Int) ≤ 1100 := by omega
        have hk1 : strV (cutP p).key = .string sk := cut_same hsk a1
        have hv1 : strV (cutP p).val = .string sv := cut_same hsv a2
        have hca : Chg (fun _ => False) wr (wr.alloc (.cells #[.string sk, .string sv, .bool p.gone] 45)) := (Chg.refl _ _).alloc _
        have hcb := hca.alloc (.cells #[.string sk, .string sv, .bool p.gone] 45)
        have hzz : w.heap.size ≤ wr.heap.size := HC.out.size
        obtain ⟨v8, w8, hr8, hp8, hg8⟩ := append_putO (p := cutP p) (nb := wr.heap.size + 1) (HO.out.kept hcb (fun _ _ h => h)) (fun j u hu => by
          have hb : ((wr.alloc (.cells #[.string sk, .string sv, .bool p.gone] 45)).alloc (.cells #[.string sk, .string sv, .bool p.gone] 45)).heap[wr.heap.size + 1]? = some (.cells #[.string sk, .string sv, .bool p.gone] 45 (0, 0)) := by
            have := block_alloc_new (wr.alloc (.cells #[.string sk, .string sv, .bool p.gone] 45)) (.cells #[.string sk, .string sv, .bool p.gone] 45)
            rw [World.size_alloc] at this
            exact this
          refine cell_of_block hb ?_
          have e : (cutP p).row = [.string sk, .string sv, .bool p.gone] := by unfold PV.row; rw [hk1, hv1]; rfl
          rw [e] at hu
          simpa using hu) (Nat.le_trans hzz hcb.size) (by have := smallP_len (l.take k); omega) 22
        have HR8 := Lib.hid hr8
        have HP8 := Lib.hid hp8
        have HC8 := Lib.hid (show Chg (fun _ => False) w w8 from (HC.out.trans' hcb).new hg8 (fun i e => (HO.out.lt e.symm).1))
        clear hca hcb hzz hr8 hp8 hg8 hsk hsv hk1 hv1
        go_wp2_with (first
          | (at_builtin; refine Lib.wpList_append_run _ rfl _ _ _ _ rfl _ _ rfl rfl _ _ HR8.out ?_))
        refine ⟨⟨k + 1, by go_num, by omega, by omega, by rw [smallP_push HGk.out HL2.out]; exact HP8.out, HC8.out⟩, by simp [intOf]; omega⟩
  · have hk : smallP (l.take k) = smallP l := by
      unfold smallP
      congr 1
      by_cases h1 : k < l.length
      · obtain rfl : k = 70 := by omega
        rw [List.take_take]; rfl
      · rw [List.take_of_length_le (i := k) (l := l) (by omega), List.take_of_length_le (i := 70) (l := l) (by omega)]
    have HK := Lib.hid hk
    have HOo := Lib.hid (show Puts wr w.heap.size _ (smallP l) by rw [← hk]; exact HO.out)
    by_cases hkl : k < l.length
    · have j1 : (k : Int) < (l.length : Int) := by omega
      obtain rfl : k = 70 := by omega
      clear hlt hk
      go_wp2_with fail
      go_ret
      exact ⟨_, rfl, HOo.out, HC.out⟩
    · have j1 : ¬ (k : Int) < (l.length : Int) := by omega
      clear hlt hk
      go_wp2_with fail
      go_ret
      exact ⟨_, rfl, HOo.out, HC.out⟩

end Go.Proofs.YtbkefhoapnaciaaGreat.kvs
end

/-
  kv: Same: two batches, compared.
-/
section
set_option linter.unusedSimpArgs false
set_option linter.unusedVariables false
namespace Go.Proofs.YtbkefhoapnaciaaGreat.kvs
open Go.RowKit Go.Maps Go.My Go.ChangeMaps disks bufs wals
set_option maxRecDepth 100000

variable {w w' : World}

theorem puts_putsAt {B : Nat} {v : Value} {l : List PV} (h : Puts w B v l) : PutsAt w v l := by
  obtain ⟨oa, cap, rfl, -⟩ := h.slice
  rw [List.length_map] at *
  refine ⟨oa, cap, rfl, ⟨fun hne => ?_, fun i r hi => h.each r (List.mem_of_getElem? hi), fun b off ho i r j u hi hj => ?_⟩⟩
  · have hk : 0 < (l.map PV.row).length := List.length_pos_iff.2 hne
    obtain ⟨g, cap', e, -⟩ := h.cell hk
    simp only [Value.slice.injEq] at e
    exact ⟨g, 0, e.1⟩
  · have hk : i < (l.map PV.row).length := (List.getElem?_eq_some_iff.1 hi).1
    obtain ⟨g, cap', e, -, -, -, hc, -⟩ := h.cell hk
    simp only [Value.slice.injEq] at e
    rw [ho] at e
    obtain ⟨e1, -⟩ := e
    cases e1
    rw [(List.getElem?_eq_some_iff.1 hi).2] at hc
    rw [Nat.zero_add]
    exact hc j u hj

set_option maxHeartbeats 2000000 in
theorem same_yes (w : World) {x y : Value} {l : List PV} (h1 : PutsAt w x l) (h2 : PutsAt w y l) (hl : l.length ≤ 1000000000000) :
    Calls Tryz.prog 14 #[x, y] w fun e w' => e = .returned (.bool true) ∧ Chg (fun _ => False) w w' := by
  obtain ⟨oa, cap, rfl, r1⟩ := h1
  obtain ⟨ob, cap2, rfl, r2⟩ := h2
  have H1 := Lib.hid (show PutsAt w (.slice oa l.length cap) l from ⟨oa, cap, rfl, r1⟩)
  have H2 := Lib.hid (show PutsAt w (.slice ob l.length cap2) l from ⟨ob, cap2, rfl, r2⟩)
  clear r1 r2
  go_enter Tryz.func14, Tryz.ntmps14
  go_wp2_with fail
  go_loopw [5] (fun j wr => ∃ k : Nat, j = .int .i64 k ∧ k ≤ l.length ∧ Chg (fun _ => False) w wr) (fun j _ => l.length - (intOf j).toNat)
  · exact ⟨0, rfl, Nat.zero_le _, Chg.refl _ _⟩
  obtain ⟨k, rfl, hk, hc⟩ := hrel
  have HC := Lib.hid hc
  clear hc
  by_cases hlt : k < l.length
  · have hki : (k : Int) < (l.length : Int) := by omega
    obtain ⟨g, off, cap', p, e1, hr, d0, d1, d2⟩ := putsAt_cells (H1.out.kept HC.out (fun _ _ h => h)) hlt
    simp only [Value.slice.injEq, true_and] at e1
    obtain ⟨rfl, -⟩ := e1
    obtain ⟨g', off', cap'', p', e2, hr', f0, f1, f2⟩ := putsAt_cells (H2.out.kept HC.out (fun _ _ h => h)) hlt
    simp only [Value.slice.injEq, true_and] at e2
    obtain ⟨rfl, -⟩ := e2
    rw [hr] at hr'
    cases hr'
    clear hr
    obtain ⟨sk, hsk⟩ : ∃ s : ByteArray, strV p.key = .string s := ⟨_, rfl⟩
    obtain ⟨sv, hsv⟩ : ∃ s : ByteArray, strV p.val = .string s := ⟨_, rfl⟩
    rw [hsk] at d0 f0
    rw [hsv] at d1 f1
    clear hsk hsv
    have q0 : ∀ n : FreshW wr, n.val.cell? ⟨g, off + k * 3, none⟩ = some (.string sk) := fun n => n.chg.cell d0 id
    have q1 : ∀ n : FreshW wr, n.val.cell? ⟨g, off + k * 3 + 1, none⟩ = some (.string sv) := fun n => n.chg.cell d1 id
    have q2 : ∀ n : FreshW wr, n.val.cell? ⟨g, off + k * 3 + 2, none⟩ = some (.bool p.gone) := fun n => n.chg.cell d2 id
    have r0 : ∀ n : FreshW wr, n.val.cell? ⟨g', off' + k * 3, none⟩ = some (.string sk) := fun n => n.chg.cell f0 id
    have r1 : ∀ n : FreshW wr, n.val.cell? ⟨g', off' + k * 3 + 1, none⟩ = some (.string sv) := fun n => n.chg.cell f1 id
    have r2 : ∀ n : FreshW wr, n.val.cell? ⟨g', off' + k * 3 + 2, none⟩ = some (.bool p.gone) := fun n => n.chg.cell f2 id
    clear d0 d1 d2 f0 f1 f2
    go_wp2_with fail
    refine wp_region_fresh (by kernel_rfl) (by kernel_rfl) ?_
    repeat (go_big_quiet_step (fail))
    refine wpQuiet_nil ?_
    rintro _ ⟨n10, rfl⟩
    go_wp2_with fail
    exact ⟨⟨k + 1, by go_num, hlt, HC.out.trans' n10.chg⟩, by simp [intOf]; omega⟩
  · have hki : ¬ (k : Int) < (l.length : Int) := by omega
    go_wp2_with fail
    go_ret
    exact ⟨rfl, HC.out⟩

end Go.Proofs.YtbkefhoapnaciaaGreat.kvs
end

/-
  kv: small: a batch that is cut.
-/
import Derived.Test.YtbkefhoapnaciaaGreatPkBe
import Derived.Test.YtbkefhoapnaciaaGreatPkBf

section
set_option linter.unusedSimpArgs false
set_option linter.unusedVariables false
namespace Go.Proofs.YtbkefhoapnaciaaGreat.kvs
open Go.RowKit Go.Maps Go.My Go.ChangeMaps disks bufs wals
set_option maxRecDepth 100000

variable {w w' : World}

def cutT (n : Nat) (t : Txt) : Txt := if n < t.length then t.take n else t
def cutP (p : PV) : PV := ⟨cutT 70 p.key, cutT 1100 p.val, p.gone⟩
def smallP (l : List PV) : List PV := (l.take 70).map cutP
theorem smallP_len (l : List PV) : (smallP l).length ≤ 70 := by simp [smallP]; omega
theorem cutT_len (n : Nat) (t : Txt) : (cutT n t).length ≤ n := by
  unfold cutT
  split
  · rw [List.length_take]; omega
  · omega
theorem smallP_mem {l : List PV} {p : PV} (h : p ∈ smallP l) : p.key.length ≤ 70 ∧ p.val.length ≤ 1100 := by
  obtain ⟨x, -, rfl⟩ := List.mem_map.1 h
  exact ⟨cutT_len _ _, cutT_len _ _⟩
theorem smallP_push {l : List PV} {k : Nat} {p : PV} (h : l[k]? = some p) (hk : k < 70) : smallP (l.take (k + 1)) = smallP (l.take k) ++ [cutP p] := by
  unfold smallP
  rw [List.take_take, List.take_take, Nat.min_eq_right (by omega), Nat.min_eq_right (by omega), List.take_add_one, h, Option.toList_some, List.map_append]
  rfl
theorem cut_str {n : Nat} {t : Txt} {s : ByteArray} (h : strV t = .string s) (hn : n < t.length) : strV (cutT n t) = .string (s.extract 0 n) := by
  have e : Value.string (⟨t.toArray⟩ : ByteArray) = .string s := h
  simp only [Value.string.injEq] at e
  unfold cutT
  rw [if_pos hn, ← e, str_take]
  rfl
theorem cut_same {n : Nat} {t : Txt} {s : ByteArray} (h : strV t = .string s) (hn : ¬ n < t.length) : strV (cutT n t) = .string s := by
  unfold cutT
  rw [if_neg hn]
  exact h


set_option maxHeartbeats 2000000 in
theorem small_any (w : World) (v : Value) (l : List PV) (h : PutsAt w v l) (hz : ∀ p ∈ l, p.sized) :
    Calls Tryz.prog 16 #[v] w fun e w' => ∃ v', e = .returned v' ∧ Puts w' w.heap.size v' (smallP l) ∧ Chg (fun _ => False) w w' := by
  obtain ⟨oa, cap, rfl, h2⟩ := h
  have H := Lib.hid (show PutsAt w (.slice oa l.length cap) l from ⟨oa, cap, rfl, h2⟩)
  have HZ := Lib.hid hz
  clear h2 hz
  go_enter Tryz.func16, Tryz.ntmps16
  go_wp2_with fail
  go_loopw [3, 4] (fun u i wr => ∃ k : Nat, i = .int .i64 k ∧ k ≤ l.length ∧ k ≤ 70 ∧ Puts wr w.heap.size u (smallP (l.take k)) ∧ Chg (fun _ => False) w wr) (fun _ i _ => 70 - (intOf i).toNat)
  · exact ⟨0, rfl, Nat.zero_le _, Nat.zero_le _, OwnRecs.nil _ _ _ _, Chg.refl _ _⟩
  obtain ⟨k, rfl, hk1, hk2, ho, hc⟩ := hrel
  have HO := Lib.hid ho
  have HC := Lib.hid hc
  clear ho hc
  by_cases hlt : k < l.length ∧ k < 70
  · obtain ⟨hlt1, hlt2⟩ := hlt
    have j1 : (k : Int) < (l.length : Int) := by omega
    have j2 : (k : Int) < 70 := by omega
    obtain ⟨g, off, cap', p, e1, hr, d0, d1, d2⟩ := putsAt_cells (H.out.kept HC.out (fun _ _ h => h)) hlt1
    simp only [Value.slice.injEq, true_and] at e1
    obtain ⟨rfl, -⟩ := e1
    have HGk := Lib.hid hr
    have HL2 := Lib.hid hlt2
    obtain ⟨z1, z2⟩ := HZ.out p (List.mem_of_getElem? hr)
    unfold maxLen at z1 z2
    clear hr hlt2
    obtain ⟨sk, hsk⟩ : ∃ s : ByteArray, strV p.key = .string s := ⟨_, rfl⟩
    obtain ⟨sv, hsv⟩ : ∃ s : ByteArray, strV p.val = .string s := ⟨_, rfl⟩
    have esk := str_size p.key sk hsk
    have esv := str_size p.val sv hsv
    rw [hsk] at d0
    rw [hsv] at d1
    by_cases a1 : 70 < p.key.length
    · have i1 : (70 : Int) < (sk.size : Int) := by omega
      by_cases a2 : 1100 < p.val.length
      · have i2 : (1100 : Int) < (sv.size : Int) := by omega
        have hk1 : strV (cutP p).key = .string (sk.extract 0 70) := cut_str hsk a1
        have hv1 : strV (cutP p).val = .string (sv.extract 0 1100) := cut_str hsv a2
        have hca : Chg (fun _ => False) wr (wr.alloc (.cells #[.string (sk.extract 0 70), .string (sv.extract 0 1100), .bool p.gone] 45)) := (Chg.refl _ _).alloc _
        have hcb := hca.alloc (.cells #[.string (sk.extract 0 70), .string (sv.extract 0 1100), .bool p.gone] 45)
        have hzz : w.heap.size ≤ wr.heap.size := HC.out.size
        obtain ⟨v8, w8, hr8, hp8, hg8⟩ := append_putO (p := cutP p) (nb := wr.heap.size + 1) (HO.out.kept hcb (fun _ _ h => h)) (fun j u hu => by
          have hb : ((wr.alloc (.cells #[.string (sk.extract 0 70), .string (sv.extract 0 1100), .bool p.gone] 45)).alloc (.cells #[.string (sk.extract 0 70), .string (sv.extract 0 1100), .bool p.gone] 45)).heap[wr.heap.size + 1]? = some (.cells #[.string (sk.extract 0 70), .string (sv.extract 0 1100), .bool p.gone] 45 (0, 0)) := by
            have := block_alloc_new (wr.alloc (.cells #[.string (sk.extract 0 70), .string (sv.extract 0 1100), .bool p.gone] 45)) (.cells #[.string (sk.extract 0 70), .string (sv.extract 0 1100), .bool p.gone] 45)
            rw [World.size_alloc] at this
            exact this
          refine cell_of_block hb ?_
          have e : (cutP p).row = [.string (sk.extract 0 70), .string (sv.extract 0 1100), .bool p.gone] := by unfold PV.row; rw [hk1, hv1]; rfl
          rw [e] at hu
          simpa using hu) (Nat.le_trans hzz hcb.size) (by have := smallP_len (l.take k); omega) 22
        have HR8 := Lib.hid hr8
        have HP8 := Lib.hid hp8
        have HC8 := Lib.hid (show Chg (fun _ => False) w w8 from (HC.out.trans' hcb).new hg8 (fun i e => (HO.out.lt e.symm).1))
        clear hca hcb hzz hr8 hp8 hg8 hsk hsv hk1 hv1
        go_wp2_with (first
          | (at_builtin; refine Lib.wpList_append_run _ rfl _ _ _ _ rfl _ _ rfl rfl _ _ HR8.out ?_))
        refine ⟨⟨k + 1, by go_num, by omega, by omega, by rw [smallP_push HGk.out HL2.out]; exact HP8.out, HC8.out⟩, by simp [intOf]; omega⟩
      · have i2 : (sv.size : Int) ≤ 1100 := by omega
        have hk1 : strV (cutP p).key = .string (sk.extract 0 70) := cut_str hsk a1
        have hv1 : strV (cutP p).val = .string sv := cut_same hsv a2
        have hca : Chg (fun _ => False) wr (wr.alloc (.cells #[.string (sk.extract 0 70), .string sv, .bool p.gone] 45)) := (Chg.refl _ _).alloc _
        have hcb := hca.alloc (.cells #[.string (sk.extract 0 70), .string sv, .bool p.gone] 45)
        have hzz : w.heap.size ≤ wr.heap.size := HC.out.size
        obtain ⟨v8, w8, hr8, hp8, hg8⟩ := append_putO (p := cutP p) (nb := wr.heap.size + 1) (HO.out.kept hcb (fun _ _ h => h)) (fun j u hu => by
          have hb : ((wr.alloc (.cells #[.string (sk.extract 0 70), .string sv, .bool p.gone] 45)).alloc (.cells #[.string (sk.extract 0 70), .string sv, .bool p.gone] 45)).heap[wr.heap.size + 1]? = some (.cells #[.string (sk.extract 0 70), .string sv, .bool p.gone] 45 (0, 0)) := by
            have := block_alloc_new (wr.alloc (.cells #[.string (sk.extract 0 70), .string sv, .bool p.gone] 45)) (.cells #[.string (sk.extract 0 70), .string sv, .bool p.gone] 45)
            rw [World.size_alloc] at this
            exact this
          refine cell_of_block hb ?_
          have e : (cutP p).row = [.string (sk.extract 0 70), .string sv, .bool p.gone] := by unfold PV.row; rw [hk1, hv1]; rfl
          rw [e] at hu
          simpa using hu) (Nat.le_trans hzz hcb.size) (by have := smallP_len (l.take k); omega) 22
        have HR8 := Lib.hid hr8
        have HP8 := Lib.hid hp8
        have HC8 := Lib.hid (show Chg (fun _ => False) w w8 from (HC.out.trans' hcb).new hg8 (fun i e => (HO.out.lt e.symm).1))
        clear hca hcb hzz hr8 hp8 hg8 hsk hsv hk1 hv1
        go_wp2_with (first
          | (at_builtin; refine Lib.wpList_append_run _ rfl _ _ _ _ rfl _ _ rfl rfl _ _ HR8.out ?_))
        refine ⟨⟨k + 1, by go_num, by omega, by omega, by rw [smallP_push HGk.out HL2.out]; exact HP8.out, HC8.out⟩, by simp [intOf]; omega⟩
    · have i1 : (sk.size : Int) ≤ 70 := by omega
      by_cases a2 : 1100 < p.val.length
      · have i2 : (1100 : Int) < (sv.size : Int) := by omega
        have hk1 : strV (cutP p).key = .string sk := cut_same hsk a1
        have hv1 : strV (cutP p).val = .string (sv.extract 0 1100) := cut_str hsv a2
        have hca : Chg (fun _ => False) wr (wr.alloc (.cells #[.string sk, .string (sv.extract 0 1100), .bool p.gone] 45)) := (Chg.refl _ _).alloc _
        have hcb := hca.alloc (.cells #[.string sk, .string (sv.extract 0 1100), .bool p.gone] 45)
        have hzz : w.heap.size ≤ wr.heap.size := HC.out.size
        obtain ⟨v8, w8, hr8, hp8, hg8⟩ := append_putO (p := cutP p) (nb := wr.heap.size + 1) (HO.out.kept hcb (fun _ _ h => h)) (fun j u hu => by
          have hb : ((wr.alloc (.cells #[.string sk, .string (sv.extract 0 1100), .bool p.gone] 45)).alloc (.cells #[.string sk, .string (sv.extract 0 1100), .bool p.gone] 45)).heap[wr.heap.size + 1]? = some (.cells #[.string sk, .string (sv.extract 0 1100), .bool p.gone] 45 (0, 0)) := by
            have := block_alloc_new (wr.alloc (.cells #[.string sk, .string (sv.extract 0 1100), .bool p.gone] 45)) (.cells #[.string sk, .string (sv.extract 0 1100), .bool p.gone] 45)
            rw [World.size_alloc] at this
            exact this
          refine cell_of_block hb ?_
          have e : (cutP p).row = [.string sk, .string (sv.extract 0 1100), .bool p.gone] := by unfold PV.row; rw [hk1, hv1]; rfl
          rw [e] at hu
          simpa using hu) (Nat.le_trans hzz hcb.size) (by have := smallP_len (l.take k); omega) 22
        have HR8 := Lib.hid hr8
        have HP8 := Lib.hid hp8
        have HC8 := Lib.hid (show Chg (fun _ => False) w w8 from (HC.out.trans' hcb).new hg8 (fun i e => (HO.out.lt e.symm).1))
        clear hca hcb hzz hr8 hp8 hg8 hsk hsv hk1 hv1
        go_wp2_with (first
          | (at_builtin; refine Lib.wpList_append_run _ rfl _ _ _ _ rfl _ _ rfl rfl _ _ HR8.out ?_))
        refine ⟨⟨k + 1, by go_num, by omega, by omega, by rw [smallP_push HGk.out HL2.out]; exact HP8.out, HC8.out⟩, by simp [intOf]; omega⟩
      · have i2 : (sv.size : Int) ≤ 1100 := by omega
        have hk1 : strV (cutP p).key = .string sk := cut_same hsk a1
        have hv1 : strV (cutP p).val = .string sv := cut_same hsv a2
        have hca : Chg (fun _ => False) wr (wr.alloc (.cells #[.string sk, .string sv, .bool p.gone] 45)) := (Chg.refl _ _).alloc _
        have hcb := hca.alloc (.cells #[.string sk, .string sv, .bool p.gone] 45)
        have hzz : w.heap.size ≤ wr.heap.size := HC.out.size
        obtain ⟨v8, w8, hr8, hp8, hg8⟩ := append_putO (p := cutP p) (nb := wr.heap.size + 1) (HO.out.kept hcb (fun _ _ h => h)) (fun j u hu => by
          have hb : ((wr.alloc (.cells #[.string sk, .string sv, .bool p.gone] 45)).alloc (.cells #[.string sk, .string sv, .bool p.gone] 45)).heap[wr.heap.size + 1]? = some (.cells #[.string sk, .string sv, .bool p.gone] 45 (0, 0)) := by
            have := block_alloc_new (wr.alloc (.cells #[.string sk, .string sv, .bool p.gone] 45)) (.cells #[.string sk, .string sv, .bool p.gone] 45)
            rw [World.size_alloc] at this
            exact this
          refine cell_of_block hb ?_
          have e : (cutP p).row = [.string sk, .string sv, .bool p.gone] := by unfold PV.row; rw [hk1, hv1]; rfl
          rw [e] at hu
          simpa using hu) (Nat.le_trans hzz hcb.size) (by have := smallP_len (l.take k); omega) 22
        have HR8 := Lib.hid hr8
        have HP8 := Lib.hid hp8
        have HC8 := Lib.hid (show Chg (fun _ => False) w w8 from (HC.out.trans' hcb).new hg8 (fun i e => (HO.out.lt e.symm).1))
        clear hca hcb hzz hr8 hp8 hg8 hsk hsv hk1 hv1
        go_wp2_with (first
          | (at_builtin; refine Lib.wpList_append_run _ rfl _ _ _ _ rfl _ _ rfl rfl _ _ HR8.out ?_))
        refine ⟨⟨k + 1, by go_num, by omega, by omega, by rw [smallP_push HGk.out HL2.out]; exact HP8.out, HC8.out⟩, by simp [intOf]; omega⟩
  · have hk : smallP (l.take k) = smallP l := by
      unfold smallP
      congr 1
      by_cases h1 : k < l.length
      · obtain rfl : k = 70 := by omega
        rw [List.take_take]; rfl
      · rw [List.take_of_length_le (i := k) (l := l) (by omega), List.take_of_length_le (i := 70) (l := l) (by omega)]
    have HK := Lib.hid hk
    have HOo := Lib.hid (show Puts wr w.heap.size _ (smallP l) by rw [← hk]; exact HO.out)
    by_cases hkl : k < l.length
    · have j1 : (k : Int) < (l.length : Int) := by omega
      obtain rfl : k = 70 := by omega
      clear hlt hk
      go_wp2_with fail
      go_ret
      exact ⟨_, rfl, HOo.out, HC.out⟩
    · have j1 : ¬ (k : Int) < (l.length : Int) := by omega
      clear hlt hk
      go_wp2_with fail
      go_ret
      exact ⟨_, rfl, HOo.out, HC.out⟩

end Go.Proofs.YtbkefhoapnaciaaGreat.kvs
end

/-
  kv: Same: two batches, compared.
-/
section
set_option linter.unusedSimpArgs false
set_option linter.unusedVariables false
namespace Go.Proofs.YtbkefhoapnaciaaGreat.kvs
open Go.RowKit Go.Maps Go.My Go.ChangeMaps disks bufs wals
set_option maxRecDepth 100000

variable {w w' : World}

theorem puts_putsAt {B : Nat} {v : Value} {l : List PV} (h : Puts w B v l) : PutsAt w v l := by
  obtain ⟨oa, cap, rfl, -⟩ := h.slice
  rw [List.length_map] at *
  refine ⟨oa, cap, rfl, ⟨fun hne => ?_, fun i r hi => h.each r (List.mem_of_getElem? hi), fun b off ho i r j u hi hj => ?_⟩⟩
  · have hk : 0 < (l.map PV.row).length := List.length_pos_iff.2 hne
    obtain ⟨g, cap', e, -⟩ := h.cell hk
    simp only [Value.slice.injEq] at e
    exact ⟨g, 0, e.1⟩
  · have hk : i < (l.map PV.row).length := (List.getElem?_eq_some_iff.1 hi).1
    obtain ⟨g, cap', e, -, -, -, hc, -⟩ := h.cell hk
    simp only [Value.slice.injEq] at e
    rw [ho] at e
    obtain ⟨e1, -⟩ := e
    cases e1
    rw [(List.getElem?_eq_some_iff.1 hi).2] at hc
    rw [Nat.zero_add]
    exact hc j u hj

set_option maxHeartbeats 2000000 in
theorem same_yes (w : World) {x y : Value} {l : List PV} (h1 : PutsAt w x l) (h2 : PutsAt w y l) (hl : l.length ≤ 1000000000000) :
    Calls Tryz.prog 14 #[x, y] w fun e w' => e = .returned (.bool true) ∧ Chg (fun _ => False) w w' := by
  obtain ⟨oa, cap, rfl, r1⟩ := h1
  obtain ⟨ob, cap2, rfl, r2⟩ := h2
  have H1 := Lib.hid (show PutsAt w (.slice oa l.length cap) l from ⟨oa, cap, rfl, r1⟩)
  have H2 := Lib.hid (show PutsAt w (.slice ob l.length cap2) l from ⟨ob, cap2, rfl, r2⟩)
  clear r1 r2
  go_enter Tryz.func14, Tryz.ntmps14
  go_wp2_with fail
  go_loopw [5] (fun j wr => ∃ k : Nat, j = .int .i64 k ∧ k ≤ l.length ∧ Chg (fun _ => False) w wr) (fun j _ => l.length - (intOf j).toNat)
  · exact ⟨0, rfl, Nat.zero_le _, Chg.refl _ _⟩
  obtain ⟨k, rfl, hk, hc⟩ := hrel
  have HC := Lib.hid hc
  clear hc
  by_cases hlt : k < l.length
  · have hki : (k : Int) < (l.length : Int) := by omega
    obtain ⟨g, off, cap', p, e1, hr, d0, d1, d2⟩ := putsAt_cells (H1.out.kept HC.out (fun _ _ h => h)) hlt
    simp only [Value.slice.injEq, true_and] at e1
    obtain ⟨rfl, -⟩ := e1
    obtain ⟨g', off', cap'', p', e2, hr', f0, f1, f2⟩ := putsAt_cells (H2.out.kept HC.out (fun _ _ h => h)) hlt
    simp only [Value.slice.injEq, true_and] at e2
    obtain ⟨rfl, -⟩ := e2
    rw [hr] at hr'
    cases hr'
    clear hr
    obtain ⟨sk, hsk⟩ : ∃ s : ByteArray, strV p.key = .string s := ⟨_, rfl⟩
    obtain ⟨sv, hsv⟩ : ∃ s : ByteArray, strV p.val = .string s := ⟨_, rfl⟩
    rw [hsk] at d0 f0
    rw [hsv] at d1 f1
    clear hsk hsv
    have q0 : ∀ n : FreshW wr, n.val.cell? ⟨g, off + k * 3, none⟩ = some (.string sk) := fun n => n.chg.cell d0 id
    have q1 : ∀ n : FreshW wr, n.val.cell? ⟨g, off + k * 3 + 1, none⟩ = some (.string sv) := fun n => n.chg.cell d1 id
    have q2 : ∀ n : FreshW wr, n.val.cell? ⟨g, off + k * 3 + 2, none⟩ = some (.bool p.gone) := fun n => n.chg.cell d2 id
    have r0 : ∀ n : FreshW wr, n.val.cell? ⟨g', off' + k * 3, none⟩ = some (.string sk) := fun n => n.chg.cell f0 id
    have r1 : ∀ n : FreshW wr, n.val.cell? ⟨g', off' + k * 3 + 1, none⟩ = some (.string sv) := fun n => n.chg.cell f1 id
    have r2 : ∀ n : FreshW wr, n.val.cell? ⟨g', off' + k * 3 + 2, none⟩ = some (.bool p.gone) := fun n => n.chg.cell f2 id
    clear d0 d1 d2 f0 f1 f2
    go_wp2_with fail
    refine wp_region_fresh (by kernel_rfl) (by kernel_rfl) ?_
    repeat (go_big_quiet_step (fail))
    refine wpQuiet_nil ?_
    rintro _ ⟨n10, rfl⟩
    go_wp2_with fail
    exact ⟨⟨k + 1, by go_num, hlt, HC.out.trans' n10.chg⟩, by simp [intOf]; omega⟩
  · have hki : ¬ (k : Int) < (l.length : Int) := by omega
    go_wp2_with fail
    go_ret
    exact ⟨rfl, HC.out⟩

end Go.Proofs.YtbkefhoapnaciaaGreat.kvs
end

/-
  kv: the plain law of Scan: three keys' parts are the whole; an append of batches; two texts as an argument.
-/
section
set_option linter.unusedSimpArgs false
set_option linter.unusedVariables false
namespace Go.Proofs.YtbkefhoapnaciaaGreat.kvs
open Go.ChangeShapes Go.WideShapes Go.RowKit Go.Maps Go.My Go.ChangeMaps Go.Deep disks bufs wals
set_option maxRecDepth 100000

variable {w w' : World}

theorem scan_split_list {fr mid to : Txt} (h1 : ltB mid fr = false) (h2 : to = [] ∨ ltB mid to = true) (h3 : mid ≠ []) : ∀ (L : List KV), Asc L → L.filter (inScan fr to) = L.filter (inScan fr mid) ++ L.filter (inScan mid to)
  | [], _ => rfl
  | p :: L, ha => by
    unfold Asc at ha
    rw [List.pairwise_cons] at ha
    have ih := scan_split_list h1 h2 h3 L ha.2
    cases hp : ltB p.1 mid
    · -- p and all behind it are at mid or beyond
      have hfr : ltB p.1 fr = false := by
        cases hx : ltB p.1 fr with
        | false => rfl
        | true =>
          rcases ltB_tri fr mid with h | h | h
          · rw [ltB_trans hx h] at hp; cases hp
          · rw [h, hp] at hx; cases hx
          · rw [h] at h1; cases h1
      have e1 : inScan fr mid p = false := by unfold inScan; rw [hp]; simp [h3]
      have e2 : inScan fr to p = inScan mid to p := by unfold inScan; rw [hp, hfr]
      have e3 : L.filter (inScan fr mid) = [] := by
        rw [List.filter_eq_nil_iff]
        intro q hq
        have hq1 := ha.1 q hq
        have hq2 : ltB q.1 mid = false := by
          cases hx : ltB q.1 mid with
          | false => rfl
          | true => rw [ltB_trans hq1 hx] at hp; cases hp
        unfold inScan
        rw [hq2]
        simp [h3]
      rw [List.filter_cons, List.filter_cons, List.filter_cons, e1, e2, ih, e3]
      simp only [Bool.false_eq_true, if_false, List.nil_append]
    · have e1 : inScan mid to p = false := by unfold inScan; rw [hp]; rfl
      have e2 : inScan fr to p = inScan fr mid p := by
        unfold inScan
        rw [hp]
        rcases h2 with h2 | h2
        · simp [h2]
        · rw [ltB_trans hp h2]; simp
      rw [List.filter_cons, List.filter_cons, List.filter_cons, e1, e2, ih]
      simp only [Bool.false_eq_true, if_false]
      split <;> simp
theorem scan_split {m : List KV} (hn : NoDup m) {fr mid to : Txt} (h1 : ltB mid fr = false) (h2 : to = [] ∨ ltB mid to = true) (h3 : mid ≠ []) : scanF m fr to = scanF m fr mid ++ scanF m mid to :=
  scan_split_list h1 h2 h3 _ (sortF_asc hn)

/-- An append of a batch to a batch. -/
theorem append_puts {B B2 : Nat} {v v2 : Value} {l l2 : List PV} (h : Puts w B v l) (h2 : Puts w B2 v2 l2) (hB : B ≤ w.heap.size) (hl : l.length + l2.length ≤ 1000000) (ty : TypeId) :
    ∃ v' w', (Builtin.append_ #[22, 22] ty #[v, v2]).run Tryz.prog w = .ok v' w' ∧ Puts w' B v' (l ++ l2) ∧ Chg (fun k => some k = v.ownBlock) w w' := by
  obtain ⟨i, hi, hz, hsz, hby⟩ := info_parts info_put
  obtain ⟨k1, k2⟩ := h2.row
  rcases k2 with ⟨rfl, k0⟩ | ⟨g, cap, cur, rfl, hbg, hg, hc, hm, hcs, ht⟩
  · have hl2 : l2 = [] := by
      have : (l2.map PV.row).length = 0 := k0
      simpa using this
    subst hl2
    rcases h.row.2 with ⟨rfl, r0⟩ | ⟨g, cap, cur, rfl, -, -, hnc, -⟩
    · refine ⟨.slice none 0 0, w, ?_, by rw [List.append_nil]; exact h, Chg.refl _ _⟩
      simp [Builtin.append_, run_underlying Tryz.underlying22, sizeOf, typeInfo, hi, Builtin.lenOf, Builtin.firstCells]
    · refine ⟨_, w, ?_, by rw [List.append_nil]; exact h, Chg.refl _ _⟩
      have hnc' : l.length ≤ cap := by simpa using hnc
      simp [Builtin.append_, run_underlying Tryz.underlying22, sizeOf, typeInfo, hi, Builtin.lenOf, Builtin.firstCells, hnc', storeCells]
  · have hf : (l2.map PV.row).flatten.length = (l2.map PV.row).length * 3 := k1
    obtain ⟨v', w', h1, h3, h4, -⟩ := run_append_own (P := Tryz.prog) w B 22 ty 45 i _ 3 40 Tryz.underlying22 hi hz hsz hby rfl (by decide) v _ _ h.row ⟨g, 0, none⟩ (l2.map PV.row).length cap (l2.map PV.row).flatten hf (fun j u hu => by
      have : (⟨g, 0, none⟩ : Addr).add j = ⟨g, j, none⟩ := by unfold Addr.add; split <;> simp_all
      rw [this]
      refine cell_of_block hg ?_
      rw [← ht] at hu
      rw [List.getElem?_take] at hu
      split at hu
      · rw [Array.getElem?_toList] at hu; exact hu
      · cases hu) (fun u hu => by
      obtain ⟨r, hr, hur⟩ := List.mem_flatten.1 hu
      obtain ⟨p, -, rfl⟩ := List.mem_map.1 hr
      exact row_oneCell p u hur) (by rw [List.length_map, List.length_map]; unfold maxLen; omega) (by rw [List.length_map, List.length_map]; omega) hB
    refine ⟨v', w', h1, ?_, Chg.of_grown h4⟩
    show OwnRecs w' B _ 3 v' ((l ++ l2).map PV.row)
    rw [List.map_append]
    refine ⟨?_, fun r hr => by rcases List.mem_append.1 hr with hr | hr; exact h.each r hr; exact h2.each r hr⟩
    rw [List.length_append, List.flatten_append]
    exact h3

theorem cells_two_str : Tryz.prog.cellsOf 48 = 2 := by kernel_rfl

theorem open_two_strs {H : Type} {enc : TypeId × Value → H} {W : World} {v : Value} {d : DataW H} {ps : List MemPlace} {r : Reach} {b0 : Nat}
    (hv : Value.okWide Tryz.prog W r b0 48 v) (h : DataW.Trod enc Tryz.prog W 0 (fun _ => true) true 48 v d ps) :
    ∃ a b : Txt, v = .agg #[strV a, strV b] ∧ a.length ≤ maxLen ∧ b.length ≤ maxLen := by
  obtain ⟨fuel, hf⟩ := h
  obtain ⟨xs, k, _, _, hlen, hxs, hx⟩ := DataW.trod_array Tryz.underlying48 hf
  rw [cells_two_str] at hlen
  have g0 := hx 0 (by omega)
  have g1 := hx 1 (by omega)
  rw [List.getElem?_eq_getElem (by omega), cells_str] at g0 g1
  obtain ⟨a, e0, _, wa⟩ := DataW.trod_string Tryz.underlying9 g0
  obtain ⟨b, e1, _, wb⟩ := DataW.trod_string Tryz.underlying9 g1
  refine ⟨a.data.toList, b.data.toList, ?_, wa, wb⟩
  have hv' := hv
  simp only [Value.okWide, Tryz.underlying48] at hv'
  obtain ⟨cs, rfl, h2, _⟩ := hv'
  rw [cells_two_str] at h2
  obtain ⟨l, hl⟩ : ∃ l, cs.toList = l := ⟨_, rfl⟩
  have hc : (Value.agg cs).cells.toList = l := by simpa [Value.cells] using hl
  rw [hc] at e0 e1
  have hll : l.length = 2 := by rw [← hl, Array.length_toList, h2]
  match l, hll with
  | [x, y], _ =>
    simp at e0 e1
    subst e0 e1
    rw [show cs = #[Value.string a, Value.string b] from Array.toList_inj.1 hl]
    rw [strV_of, strV_of]

end Go.Proofs.YtbkefhoapnaciaaGreat.kvs
end

/-
  kv: has: has a database just a map's keys, each with its value?
-/
section
set_option linter.unusedSimpArgs false
set_option linter.unusedVariables false
namespace Go.Proofs.YtbkefhoapnaciaaGreat.kvs
open Go.RowKit Go.Maps Go.My Go.ChangeMaps disks bufs wals
set_option maxRecDepth 100000

variable {w w' : World} {b q l : Nat} {m m2 : List KV}

theorem scan_whole (m : List KV) : scanF m [] [] = sortF m := by
  unfold scanF
  rw [List.filter_eq_self]
  intro p _
  have : ltB p.1 [] = false := by
    cases p.1 <;> rfl
  unfold inScan
  rw [this]
  rfl


/-- What has tells: yes, where both tell the same. -/
def HasOut (m m2 : List KV) (v : Value) : Prop := ∃ β, v = .bool β ∧ ((∀ k, mget m k = mget m2 k) → β = true)



set_option maxHeartbeats 4000000 in
theorem has_any (w : World) (h : DbIs w b l q m) (hm : Mays m) (hn : m.length ≤ 1000000) {g2 : Nat} (h2 : MapAt w g2 m2) :
    Calls Tryz.prog 25 #[.pointer (some ⟨b, 0, none⟩), .map (some g2)] w fun e w' => ∃ v, e = .returned v ∧ HasOut m m2 v ∧ Chg (fun _ => False) w w' := by
  have hsc := scan_any w h hn [] []
  rw [scan_whole] at hsc
  have HSc := Lib.hid (show Calls Tryz.prog 21 #[.pointer (some ⟨b, 0, none⟩), .string ⟨#[]⟩, .string ⟨#[]⟩] w fun e w' => ∃ v, e = .returned v ∧ Puts w' w.heap.size v ((sortF m).map ofKV) ∧ Chg (fun _ => False) w w' from hsc)
  have hnd := h.map.nodup
  have hnd2 := h2.nodup
  obtain ⟨N, hN⟩ : ∃ N, (sortF m).length = N := ⟨_, rfl⟩
  have hmN : m.length = N := by rw [← hN, sortF_len]
  have hlen : ∀ w', Chg (fun _ => False) w w' → (Builtin.len_ #[54] 3 #[.map (some g2)]).run Tryz.prog w' = .ok (.int .i64 m2.length) w' := fun w' hc => (h2.kept hc id).len Tryz.underlying54 _
  have HLen := Lib.hid hlen
  have HMl := Lib.hid (show ∀ w', Chg (fun _ => False) w w' → Calls Tryz.prog 20 #[.pointer (some ⟨b, 0, none⟩)] w' fun e w'' => e = .returned (.int .i64 (N : Int)) ∧ w' = w'' from fun w' hc => by have := len_any w' (h.fresh hc); rw [hmN] at this; exact this)
  have HDb := Lib.hid h
  have HM := Lib.hid h2
  have HMy := Lib.hid hm
  have HNd := Lib.hid (And.intro hnd hnd2)
  have hN6 : N ≤ 1000000 := by omega
  have HmN := Lib.hid (And.intro hN hmN)
  clear hsc h h2 hlen hm hnd hnd2 hn hN hmN
  go_enter Tryz.func25, Tryz.ntmps25
  by_cases hl : m2.length = N
  · have HL := Lib.hid hl
    go_wp2_with (first
      | (go_at_call 21; refine HSc.out.mono ?_; rintro e w1 ⟨lv, rfl, hp1, hc1⟩
         obtain ⟨oa, cap, rfl, -⟩ := hp1.slice
         rw [List.length_map, List.length_map, HmN.out.1]
         have hlen1 := HLen.out w1 hc1
         rw [HL.out] at hlen1
         have HP1 := Lib.hid hp1
         have HC1 := Lib.hid hc1
         clear hp1 hc1)
      | (go_at_call 20; refine (HMl.out _ HC1.out).mono ?_; rintro e w' ⟨rfl, rfl⟩))
    go_loopw [27] (fun j wr => ∃ k : Nat, j = .int .i64 k ∧ k ≤ N ∧ Chg (fun _ => False) w1 wr) (fun j _ => N - (intOf j).toNat)
    · exact ⟨0, rfl, Nat.zero_le _, Chg.refl _ _⟩
    obtain ⟨k, rfl, hk, hc⟩ := hrel
    have HCr := Lib.hid hc
    clear hc
    by_cases hlt : k < N
    · have hki : (k : Int) < (N : Int) := by omega
      have hNi : (N : Int) ≤ 1000000 := by omega
      obtain ⟨g', cap', p, e1, hr, d0, d1, d2⟩ := put_cells (HP1.out.kept HCr.out (fun _ _ h => h)) (k := k) (by rw [List.length_map, HmN.out.1]; exact hlt)
      simp only [Value.slice.injEq] at e1
      obtain ⟨rfl, -, -⟩ := e1
      rw [List.getElem?_map] at hr
      obtain ⟨⟨pk, pv⟩, hp⟩ : ∃ x, (sortF m)[k]? = some x := ⟨_, List.getElem?_eq_getElem (by rw [HmN.out.1]; exact hlt)⟩
      rw [hp] at hr
      cases hr
      have hmem : (pk, pv) ∈ m := (sortF_perm m).mem_iff.1 (List.mem_of_getElem? hp)
      have hgm : mget m pk = some pv := mem_mget HNd.out.1 hmem
      have HKl := Lib.hid (show pk.length ≤ maxLen from by have := (may_key (HMy.out _ hmem)).2.1; have h2 : (ofKV (pk, pv)).key.length = pk.length := rfl; unfold maxLen; omega)
      have hget := get_any wr (HDb.out.fresh (HC1.out.trans' HCr.out)) pk HKl.out
      rw [hgm] at hget
      have HM2 := Lib.hid (HM.out.kept (HC1.out.trans' HCr.out) id)
      have HGm := Lib.hid hgm
      have HPk := Lib.hid hp
      have hlt0 : ∀ k1, k = k1 + 1 → ∃ qk qv, (sortF m)[k1]? = some (qk, qv) ∧ ltB qk pk = true ∧ wr.cell? ⟨g', k1 * 3, none⟩ = some (strV qk) := by
        intro k1 hk1
        obtain ⟨g'', cap'', p', e2, hr', f0, -, -⟩ := put_cells (HP1.out.kept HCr.out (fun _ _ h => h)) (k := k1) (by rw [List.length_map, HmN.out.1]; omega)
        simp only [Value.slice.injEq, Option.some.injEq, Addr.mk.injEq] at e2
        obtain ⟨⟨rfl, -⟩, -⟩ := e2
        rw [List.getElem?_map] at hr'
        obtain ⟨⟨qk, qv⟩, hq⟩ : ∃ x, (sortF m)[k1]? = some x := ⟨_, List.getElem?_eq_getElem (by rw [HmN.out.1]; omega)⟩
        rw [hq] at hr'
        cases hr'
        refine ⟨qk, qv, hq, ?_, f0⟩
        have hasc := sortF_asc HNd.out.1
        unfold Asc at hasc
        rw [List.pairwise_iff_getElem] at hasc
        obtain ⟨h1, h2⟩ := List.getElem?_eq_some_iff.1 hq
        obtain ⟨h3, h4⟩ := List.getElem?_eq_some_iff.1 HPk.out
        have := hasc k1 k h1 h3 (by omega)
        rw [h2, h4] at this
        exact this
      have HLt0 := Lib.hid hlt0
      unfold ofKV at d0 d1 d2
      simp only at d0 d1 d2
      have hsame : (∀ k, mget m k = mget m2 k) → mget m2 pk = some pv := fun h => by rw [← h, hgm]
      have HSame := Lib.hid hsame
      clear hmem hgm hp hlt0 hsame
      obtain ⟨sk, hsk⟩ : ∃ s : ByteArray, strV pk = .string s := ⟨_, rfl⟩
      obtain ⟨sv, hsv⟩ : ∃ s : ByteArray, strV pv = .string s := ⟨_, rfl⟩
      have HSk := Lib.hid hsk
      have HSv := Lib.hid hsv
      simp only [Option.getD_some, Option.isSome_some] at hget
      rw [hsk] at d0 hget
      rw [hsv] at d1 hget
      have HGet := Lib.hid hget
      clear hget
      have q0 : ∀ n : FreshW wr, n.val.cell? ⟨g', k * 3, none⟩ = some (.string sk) := fun n => n.chg.cell d0 id
      have q1 : ∀ n : FreshW wr, n.val.cell? ⟨g', k * 3 + 1, none⟩ = some (.string sv) := fun n => n.chg.cell d1 id
      have q2 : ∀ n : FreshW wr, n.val.cell? ⟨g', k * 3 + 2, none⟩ = some (.bool false) := fun n => n.chg.cell d2 id
      have hres : (Instr.lookup 54 (.map (some g2)) (.string sk) true).run Tryz.prog wr = .ok (lookRes true (strV []) strV (mget m2 pk)) wr := by
        have := HM2.out.look Tryz.underlying54 (zero_str _) true pk HKl.out
        rw [show sKey.enc pk = .string sk from HSk.out] at this
        exact this
      cases hm2 : mget m2 pk with
      | none =>
        have HNo := Lib.hid hm2
        rw [hm2] at hres
        replace hres : (Instr.lookup 54 (.map (some g2)) (.string sk) true).run Tryz.prog wr = .ok (.tuple #[.string ⟨#[]⟩, .bool false]) wr := hres
        clear hm2 hsk hsv
        go_wp2_with (first
          | (go_at_call 22; refine HGet.out.mono ?_; rintro e w' ⟨rfl, rfl⟩))
        refine wp_region_fresh (by kernel_rfl) (by kernel_rfl) ?_
        repeat (go_big_quiet_step (fail))
        refine wpQuiet_nil ?_
        rintro _ ⟨n10, rfl⟩
        go_wp2_with fail
        go_ret
        exact ⟨_, rfl, ⟨_, rfl, fun h => (by have := HSame.out h; rw [HNo.out] at this; cases this)⟩, (HC1.out.trans' HCr.out).trans' n10.chg⟩
      | some x =>
        rw [hm2] at hres
        obtain ⟨sx, hsx⟩ : ∃ s : ByteArray, strV x = .string s := ⟨_, rfl⟩
        replace hres : (Instr.lookup 54 (.map (some g2)) (.string sk) true).run Tryz.prog wr = .ok (.tuple #[strV x, .bool true]) wr := hres
        by_cases hx : x = pv
        · subst hx
          rw [hsv] at hres
          clear hm2 hsk hsv hsx
          by_cases hk0 : k = 0
          · subst hk0
            go_wp2_with (first
              | (go_at_call 22; refine HGet.out.mono ?_; rintro e w' ⟨rfl, rfl⟩))
            refine wp_region_fresh (by kernel_rfl) (by kernel_rfl) ?_
            repeat (go_big_quiet_step (fail))
            refine wpQuiet_nil ?_
            rintro _ ⟨n10, rfl⟩
            go_wp2_with fail
            exact ⟨⟨0 + 1, by go_num, by omega, HCr.out.trans' n10.chg⟩, by simp [intOf]; omega⟩
          · obtain ⟨k1, hk1⟩ : ∃ k1, k = k1 + 1 := ⟨k - 1, by omega⟩
            obtain ⟨qk, qv, -, hlq, f0⟩ := HLt0.out k1 hk1
            obtain ⟨sq, hsq⟩ : ∃ s : ByteArray, strV qk = .string s := ⟨_, rfl⟩
            rw [hsq] at f0
            have r0 : ∀ n : FreshW wr, n.val.cell? ⟨g', k1 * 3, none⟩ = some (.string sq) := fun n => n.chg.cell f0 id
            have esq : sq.toList = qk := by rw [strV_string qk sq hsq, Lib.toList_data]
            have esk : sk.toList = pk := by rw [strV_string pk sk HSk.out, Lib.toList_data]
            have hb : Op.bytesLess sk.toList sq.toList = false := by rw [esq, esk]; exact ltB_asymm hlq
            have hb2 : (sk.toList == sq.toList) = false := by
              rw [esq, esk]
              simp only [beq_eq_false_iff_ne, ne_eq]
              intro e
              rw [e, ltB_irrefl] at hlq
              cases hlq
            have j0 : 0 < k := by omega
            have j1 : (k : Int) - 1 = (k1 : Int) := by omega
            have j2 : (k1 : Int) < (N : Int) := by omega
            clear hsq hlq f0 hk1 esq esk
            go_wp2_with (first
              | (go_at_call 22; refine HGet.out.mono ?_; rintro e w' ⟨rfl, rfl⟩))
            refine wp_region_fresh (by kernel_rfl) (by kernel_rfl) ?_
            repeat (go_big_quiet_step (fail))
            refine wpQuiet_nil ?_
            rintro _ ⟨n10, rfl⟩
            go_wp2_with fail
            exact ⟨⟨k + 1, by go_num, by omega, HCr.out.trans' n10.chg⟩, by simp [intOf]; omega⟩
        · have hne : (sx.toList == sv.toList) = false := by
            rw [show sx.toList = x from by rw [strV_string x sx hsx, Lib.toList_data], show sv.toList = pv from by rw [strV_string pv sv HSv.out, Lib.toList_data]]
            simpa using hx
          have HX := Lib.hid (show ¬ mget m2 pk = some pv by rw [hm2]; simpa using hx)
          rw [hsx] at hres
          clear hm2 hsk hsv hsx hx
          go_wp2_with (first
            | (go_at_call 22; refine HGet.out.mono ?_; rintro e w' ⟨rfl, rfl⟩))
          refine wp_region_fresh (by kernel_rfl) (by kernel_rfl) ?_
          repeat (go_big_quiet_step (fail))
          refine wpQuiet_nil ?_
          rintro _ ⟨n10, rfl⟩
          go_wp2_with fail
          go_ret
          exact ⟨_, rfl, ⟨_, rfl, fun h => absurd (HSame.out h) HX.out⟩, (HC1.out.trans' HCr.out).trans' n10.chg⟩
    · have hki : ¬ (k : Int) < (N : Int) := by omega
      go_wp2_with fail
      go_ret
      exact ⟨_, rfl, ⟨_, rfl, fun _ => rfl⟩, HC1.out.trans' HCr.out⟩
  · have hne : ((N : Int) == (m2.length : Int)) = false := by simp; omega
    have HNe := Lib.hid hl
    go_wp2_with (first
      | (go_at_call 21; refine HSc.out.mono ?_; rintro e w1 ⟨lv, rfl, hp1, hc1⟩
         obtain ⟨oa, cap, rfl, -⟩ := hp1.slice
         rw [List.length_map, List.length_map, HmN.out.1]
         have hlen1 := HLen.out w1 hc1
         have HC1 := Lib.hid hc1
         clear hp1 hc1)
      | (go_at_call 20; refine (HMl.out _ HC1.out).mono ?_; rintro e w' ⟨rfl, rfl⟩))
    go_ret
    exact ⟨_, rfl, ⟨_, rfl, fun h => absurd ((same_len HNd.out.1 HNd.out.2 h).symm.trans HmN.out.2) HNe.out⟩, HC1.out⟩

end Go.Proofs.YtbkefhoapnaciaaGreat.kvs
end

/-
  caps: Tenants on both sides, the reference's Roots, maps.Clone and Copy.
-/
import Derived.Test.YtomceindibnpnaaCapsRef
import Derived.Deep.RegionWith
namespace Go.Proofs.Ytomceindibnpnaa
open Go.RowKit Go.Maps Go.My

/-- The numbers from 1 to n that a test lets by. -/
def upTo (f : Int → Bool) : Nat → List Int
  | 0 => []
  | n + 1 => upTo f n ++ (if f ((n : Int) + 1) = true then [(n : Int) + 1] else [])
theorem upTo_le (f : Int → Bool) (n : Nat) : (upTo f n).length ≤ n := by
  induction n with
  | zero => simp [upTo]
  | succ n ih => unfold upTo; split <;> simp <;> omega
theorem upTo_congr {f g : Int → Bool} (n : Nat) (h : ∀ i : Nat, i < n → f ((i : Int) + 1) = g ((i : Int) + 1)) : upTo f n = upTo g n := by
  induction n with
  | zero => rfl
  | succ n ih => unfold upTo; rw [ih (fun i hi => h i (by omega)), h n (by omega)]
theorem rootsTo_upTo (G : List ((Int × Int) × Bool)) (id : Int) (n : Nat) : rootsTo G id n = upTo (fun r => mayB G id r) n := by
  induction n with
  | zero => rfl
  | succ n ih => unfold rootsTo upTo; rw [ih]

set_option maxHeartbeats 400000 in
theorem tenants_any (w : World) (T B q g : Nat) (Q G) (h : TabAt w T B q g Q G) :
    Calls Try.prog 28 #[.pointer (some ⟨T, 0, none⟩)] w fun e w' => ∃ v, e = .returned v ∧ w'.ownsRow w.heap.size 3 1 v (upTo (fun i => (mget Q i).isSome) 8).length (ints (upTo (fun i => (mget Q i).isSome) 8)) ∧ Chg (fun _ => False) w w' := by
  obtain ⟨i0, hI0⟩ := info_parts info_int
  have HI0 := Lib.hid hI0
  clear hI0
  obtain ⟨f, hf⟩ : ∃ f : Int → Bool, f = (fun i => (mget Q i).isSome) := ⟨_, rfl⟩
  rw [← hf]
  have Hf := Lib.hid hf
  have H := Lib.hid h
  clear h hf
  go_enter Try.func28, Try.ntmps28
  go_wp2_with fail
  go_loopw [3, 4] (fun v r wr => ∃ k : Nat, r = .int .i64 ((k : Int) + 1) ∧ k ≤ 8 ∧ wr.ownsRow w.heap.size 3 1 v (upTo f k).length (ints (upTo f k)) ∧ Chg (fun _ => False) w wr) (fun _ r _ => 8 + 2 - (intOf r).toNat)
  case atStart => exact ⟨0, rfl, by omega, World.ownsRow_nil _ _ _ _, Chg.refl _ _⟩
  case round =>
    obtain ⟨k, rfl, hk, hown, hc⟩ := hrel
    have hle := upTo_le f k
    have Hc := Lib.hid hc
    have Hown := Lib.hid hown
    clear hc hown
    by_cases hlt : k < 8
    · obtain ⟨bm, hm⟩ : ∃ bm, f ((k : Int) + 1) = bm := ⟨_, rfl⟩
      have hs : upTo f (k + 1) = upTo f k ++ (if bm = true then [(k : Int) + 1] else []) := by rw [← hm]; rfl
      rw [Hf.out] at hm
      have Hm := Lib.hid hm
      have Hrs := Lib.hid hs
      clear hm hs
      go_wp2_with fail
      refine (quota_any _ _ _ _ _ _ _ (H.out.kept Hc.out (fun h => h) (fun h => h) (fun h => h) (fun h => h)) _ (WalkArith.wf_i64 (by omega))).mono ?_
      rw [show (mget Q ((k : Int) + 1)).isSome = bm from Hm.out]
      rintro e w2 ⟨rfl, hw2⟩
      have hc2 : Chg (fun _ => False) wr w2 := hw2 ▸ Chg.refl _ _
      clear hw2
      have Hc2 := Lib.hid hc2
      have Hown2 := Lib.hid (own_kept Hown.out hc2)
      clear hc2
      cases bm
      · go_wp2_with fail
        exact ⟨⟨k + 1, by go_num, by omega, by rw [Hrs.out]; simpa using Hown2.out, Hc.out.trans' Hc2.out⟩, by simp [intOf]; omega⟩
      · go_wp2_with (at_builtin; refine wpList_append_own _ rfl _ _ 41 rfl w.heap.size 3 i0 (.int .i64 0) 1 8 Try.underlying41 HI0.out.1 HI0.out.2.1 HI0.out.2.2.1 HI0.out.2.2.2 rfl (by decide) _ _ _ rfl (Hown2.out.alloc _) ⟨w2.heap.size, 0, none⟩ 1 1 [.int .i64 ((k : Int) + 1)] rfl rfl ?c1 ?c2 ?c3 ?c4 ?c5 ?_)
        case c1 => exact cell_one_new _ _ _
        case c2 => simp [Value.oneCell']
        case c3 => unfold maxLen; omega
        case c4 => omega
        case c5 => have := Hc.out.size; have := Hc2.out.size; simp; omega
        intro v' w3 hown3 hg3 _
        have Hown3 := Lib.hid hown3
        have Hg3 := Lib.hid hg3
        clear hown3 hg3
        go_wp2_with fail
        exact ⟨⟨k + 1, by go_num, by omega, by rw [Hrs.out]; simpa [ints] using Hown3.out, (Hc.out.trans' Hc2.out).append (own_kept Hown.out Hc2.out) ((Chg.refl _ _).alloc _) Hg3.out⟩, by simp [intOf]; omega⟩
    · obtain rfl : k = 8 := by omega
      go_wp2_with fail
      go_ret
      exact ⟨_, rfl, Hown.out, Hc.out⟩

theorem RefAt.fresh {w w' : World} {R : Nat} {v : Value} {L : List RT} (h : RefAt w R v L) (hc : Chg (fun _ => False) w w') : RefAt w' R v L :=
  ⟨hc.at h.tab (fun h => h), h.recs.kept hc (fun _ _ h => h), h.len⟩

set_option maxHeartbeats 400000 in
theorem tenants_ref (w : World) (R : Nat) (v0 : Value) (L : List RT) (h : RefAt w R v0 L) (hL : L.length ≤ 1000) :
    Calls Try.prog 59 #[.pointer (some ⟨R, 0, none⟩)] w fun e w' => ∃ v, e = .returned v ∧ w'.ownsRow w.heap.size 3 1 v (upTo (fun i => (getT L i).isSome) 8).length (ints (upTo (fun i => (getT L i).isSome) 8)) ∧ Chg (fun _ => False) w w' := by
  obtain ⟨i0, hI0⟩ := info_parts info_int
  have HI0 := Lib.hid hI0
  clear hI0
  obtain ⟨f, hf⟩ : ∃ f : Int → Bool, f = (fun i => (getT L i).isSome) := ⟨_, rfl⟩
  rw [← hf]
  have Hf := Lib.hid hf
  have H := Lib.hid h
  clear h hf
  go_enter Try.func59, Try.ntmps59
  go_wp2_with fail
  go_loopw [3, 4] (fun v r wr => ∃ k : Nat, r = .int .i64 ((k : Int) + 1) ∧ k ≤ 8 ∧ wr.ownsRow w.heap.size 3 1 v (upTo f k).length (ints (upTo f k)) ∧ Chg (fun _ => False) w wr) (fun _ r _ => 8 + 2 - (intOf r).toNat)
  case atStart => exact ⟨0, rfl, by omega, World.ownsRow_nil _ _ _ _, Chg.refl _ _⟩
  case round =>
    obtain ⟨k, rfl, hk, hown, hc⟩ := hrel
    have hle := upTo_le f k
    have Hc := Lib.hid hc
    have Hown := Lib.hid hown
    clear hc hown
    by_cases hlt : k < 8
    · obtain ⟨bm, hm⟩ : ∃ bm, f ((k : Int) + 1) = bm := ⟨_, rfl⟩
      have hs : upTo f (k + 1) = upTo f k ++ (if bm = true then [(k : Int) + 1] else []) := by rw [← hm]; rfl
      rw [Hf.out] at hm
      have Hm := Lib.hid hm
      have Hrs := Lib.hid hs
      clear hm hs
      go_wp2_with fail
      refine (find_any _ _ _ _ (H.out.fresh Hc.out) _ hL).mono ?_
      have hfi : (findI L ((k : Int) + 1) < 0 ∧ bm = false) ∨ (0 ≤ findI L ((k : Int) + 1) ∧ bm = true) := by
        have hm := Hm.out
        rcases findI_cases L ((k : Int) + 1) with ⟨h1, h2⟩ | ⟨j, t, h1, _, _, h2⟩
        · exact Or.inl ⟨by omega, by rw [← hm, h2]; rfl⟩
        · exact Or.inr ⟨by omega, by rw [← hm, h2]; rfl⟩
      rintro e w2 ⟨rfl, hw2⟩
      have hc2 : Chg (fun _ => False) wr w2 := hw2 ▸ Chg.refl _ _
      clear hw2
      generalize findI L ((k : Int) + 1) = fi at *
      have Hc2 := Lib.hid hc2
      have Hown2 := Lib.hid (own_kept Hown.out hc2)
      clear hc2
      rcases hfi with ⟨hfi, rfl⟩ | ⟨hfi, rfl⟩
      · go_wp2_with fail
        exact ⟨⟨k + 1, by go_num, by omega, by rw [Hrs.out]; simpa using Hown2.out, Hc.out.trans' Hc2.out⟩, by simp [intOf]; omega⟩
      · go_wp2_with (at_builtin; refine wpList_append_own _ rfl _ _ 41 rfl w.heap.size 3 i0 (.int .i64 0) 1 8 Try.underlying41 HI0.out.1 HI0.out.2.1 HI0.out.2.2.1 HI0.out.2.2.2 rfl (by decide) _ _ _ rfl (Hown2.out.alloc _) ⟨w2.heap.size, 0, none⟩ 1 1 [.int .i64 ((k : Int) + 1)] rfl rfl ?c1 ?c2 ?c3 ?c4 ?c5 ?_)
        case c1 => exact cell_one_new _ _ _
        case c2 => simp [Value.oneCell']
        case c3 => unfold maxLen; omega
        case c4 => omega
        case c5 => have := Hc.out.size; have := Hc2.out.size; simp; omega
        intro v' w3 hown3 hg3 _
        have Hown3 := Lib.hid hown3
        have Hg3 := Lib.hid hg3
        clear hown3 hg3
        go_wp2_with fail
        exact ⟨⟨k + 1, by go_num, by omega, by rw [Hrs.out]; simpa [ints] using Hown3.out, (Hc.out.trans' Hc2.out).append (own_kept Hown.out Hc2.out) ((Chg.refl _ _).alloc _) Hg3.out⟩, by simp [intOf]; omega⟩
    · obtain rfl : k = 8 := by omega
      go_wp2_with fail
      go_ret
      exact ⟨_, rfl, Hown.out, Hc.out⟩

set_option maxHeartbeats 400000 in
theorem roots_ref (w : World) (R : Nat) (v0 : Value) (L : List RT) (id : Int) (h : RefAt w R v0 L) (hL : L.length ≤ 1000) :
    Calls Try.prog 60 #[.pointer (some ⟨R, 0, none⟩), .int .i64 id] w fun e w' => ∃ v, e = .returned v ∧ w'.ownsRow w.heap.size 3 1 v (upTo (fun r => refMay L id r) 6).length (ints (upTo (fun r => refMay L id r) 6)) ∧ Chg (fun _ => False) w w' := by
  obtain ⟨i0, hI0⟩ := info_parts info_int
  have HI0 := Lib.hid hI0
  clear hI0
  obtain ⟨f, hf⟩ : ∃ f : Int → Bool, f = (fun r => refMay L id r) := ⟨_, rfl⟩
  rw [← hf]
  have Hf := Lib.hid hf
  have H := Lib.hid h
  clear h hf
  go_enter Try.func60, Try.ntmps60
  go_wp2_with fail
  go_loopw [5, 6] (fun v r wr => ∃ k : Nat, r = .int .i64 ((k : Int) + 1) ∧ k ≤ 6 ∧ wr.ownsRow w.heap.size 3 1 v (upTo f k).length (ints (upTo f k)) ∧ Chg (fun _ => False) w wr) (fun _ r _ => 6 + 2 - (intOf r).toNat)
  case atStart => exact ⟨0, rfl, by omega, World.ownsRow_nil _ _ _ _, Chg.refl _ _⟩
  case round =>
    obtain ⟨k, rfl, hk, hown, hc⟩ := hrel
    have hle := upTo_le f k
    have Hc := Lib.hid hc
    have Hown := Lib.hid hown
    clear hc hown
    by_cases hlt : k < 6
    · obtain ⟨bm, hm⟩ : ∃ bm, f ((k : Int) + 1) = bm := ⟨_, rfl⟩
      have hs : upTo f (k + 1) = upTo f k ++ (if bm = true then [(k : Int) + 1] else []) := by rw [← hm]; rfl
      rw [Hf.out] at hm
      have Hm := Lib.hid hm
      have Hrs := Lib.hid hs
      clear hm hs
      go_wp2_with fail
      refine (may_ref _ _ _ _ (H.out.fresh Hc.out) _ _ hL).mono ?_
      rw [show refMay L id ((k : Int) + 1) = bm from Hm.out]
      rintro e w2 ⟨rfl, hc2⟩
      have Hc2 := Lib.hid hc2
      have Hown2 := Lib.hid (own_kept Hown.out hc2)
      clear hc2
      cases bm
      · go_wp2_with fail
        exact ⟨⟨k + 1, by go_num, by omega, by rw [Hrs.out]; simpa using Hown2.out, Hc.out.trans' Hc2.out⟩, by simp [intOf]; omega⟩
      · go_wp2_with (at_builtin; refine wpList_append_own _ rfl _ _ 41 rfl w.heap.size 3 i0 (.int .i64 0) 1 8 Try.underlying41 HI0.out.1 HI0.out.2.1 HI0.out.2.2.1 HI0.out.2.2.2 rfl (by decide) _ _ _ rfl (Hown2.out.alloc _) ⟨w2.heap.size, 0, none⟩ 1 1 [.int .i64 ((k : Int) + 1)] rfl rfl ?c1 ?c2 ?c3 ?c4 ?c5 ?_)
        case c1 => exact cell_one_new _ _ _
        case c2 => simp [Value.oneCell']
        case c3 => unfold maxLen; omega
        case c4 => omega
        case c5 => have := Hc.out.size; have := Hc2.out.size; simp; omega
        intro v' w3 hown3 hg3 _
        have Hown3 := Lib.hid hown3
        have Hg3 := Lib.hid hg3
        clear hown3 hg3
        go_wp2_with fail
        exact ⟨⟨k + 1, by go_num, by omega, by rw [Hrs.out]; simpa [ints] using Hown3.out, (Hc.out.trans' Hc2.out).append (own_kept Hown.out Hc2.out) ((Chg.refl _ _).alloc _) Hg3.out⟩, by simp [intOf]; omega⟩
    · obtain rfl : k = 6 := by omega
      go_wp2_with fail
      go_ret
      exact ⟨_, rfl, Hown.out, Hc.out⟩

end Go.Proofs.Ytomceindibnpnaa

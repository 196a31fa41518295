/-
  caps: Roots, and the law's comparison of two lists of numbers.
-/
import Derived.Test.YtomceindibnpnaaCaps
namespace Go.Proofs.Ytomceindibnpnaa
open Go.RowKit Go.Maps Go.My

theorem info_int : (Try.prog.info? 3).map (fun i => (i.zero, i.size, i.bytes)) = some (some (.int .i64 0), 1, 8) := by kernel_rfl

def ints (l : List Int) : List Value := l.map (Value.int .i64)
theorem ints_length (l : List Int) : (ints l).length = l.length := by simp [ints]

def rootsTo (G : List ((Int × Int) × Bool)) (id : Int) : Nat → List Int
  | 0 => []
  | n + 1 => rootsTo G id n ++ (if mayB G id ((n : Int) + 1) = true then [(n : Int) + 1] else [])
theorem rootsTo_le (G : List ((Int × Int) × Bool)) (id : Int) (n : Nat) : (rootsTo G id n).length ≤ n := by
  induction n with
  | zero => simp [rootsTo]
  | succ n ih => unfold rootsTo; split <;> simp <;> omega

set_option maxHeartbeats 400000 in
theorem roots_any (w : World) (T B q g : Nat) (Q G) (h : TabAt w T B q g Q G) (id : Int) (hid : (Lit.int .i64 id).wf = true) :
    Calls Try.prog 24 #[.pointer (some ⟨T, 0, none⟩), .int .i64 id] w fun e w' => ∃ v, e = .returned v ∧ w'.ownsRow w.heap.size 3 1 v (rootsTo G id 6).length (ints (rootsTo G id 6)) ∧ Chg (fun _ => False) w w' := by
  obtain ⟨i0, hI0⟩ := info_parts info_int
  have HI0 := Lib.hid hI0
  clear hI0
  have H := Lib.hid h
  clear h
  go_enter Try.func24, Try.ntmps24
  go_wp2_with fail
  go_loopw [5, 6] (fun v r wr => ∃ k : Nat, r = .int .i64 ((k : Int) + 1) ∧ k ≤ 6 ∧ wr.ownsRow w.heap.size 3 1 v (rootsTo G id k).length (ints (rootsTo G id k)) ∧ Chg (fun _ => False) w wr) (fun _ r _ => 8 - (intOf r).toNat)
  case atStart => exact ⟨0, rfl, by omega, World.ownsRow_nil _ _ _ _, Chg.refl _ _⟩
  case round =>
    obtain ⟨k, rfl, hk, hown, hc⟩ := hrel
    have hle := rootsTo_le G id k
    have Hc := Lib.hid hc
    have Hown := Lib.hid hown
    clear hc hown
    by_cases hlt : k < 6
    · obtain ⟨bm, hm⟩ : ∃ bm, mayB G id ((k : Int) + 1) = bm := ⟨_, rfl⟩
      have hs : rootsTo G id (k + 1) = rootsTo G id k ++ (if bm = true then [(k : Int) + 1] else []) := by rw [← hm]; rfl
      have Hm := Lib.hid hm
      have Hrs := Lib.hid hs
      clear hm hs
      go_wp2_with fail
      refine (may_any _ _ _ _ _ _ _ (H.out.kept Hc.out (fun h => h) (fun h => h) (fun h => h) (fun h => h)) _ _ hid (WalkArith.wf_i64 (by omega))).mono ?_
      rintro e w2 ⟨rfl, hc2⟩
      rw [Hm.out]
      have Hc2 := Lib.hid hc2
      have Hown2 := Lib.hid (own_kept Hown.out hc2)
      clear hc2
      cases bm
      · go_wp2_with fail
        exact ⟨⟨k + 1, by go_num, by omega, by rw [Hrs.out]; simpa using Hown2.out, Hc.out.trans' Hc2.out⟩, by simp [intOf]; omega⟩
      · go_wp2_with (at_builtin; refine wpList_append_own _ rfl _ _ 41 rfl w.heap.size 3 i0 (.int .i64 0) 1 8 Try.underlying41 HI0.out.1 HI0.out.2.1 HI0.out.2.2.1 HI0.out.2.2.2 rfl (by decide) _ _ _ rfl (Hown2.out.alloc _) ⟨w2.heap.size, 0, none⟩ 1 1 [.int .i64 ((k : Int) + 1)] rfl rfl ?c1 ?c2 ?c3 ?c4 ?c5 ?_)
        case c1 => exact cell_one_new _ _ _
        case c2 => simp [Value.oneCell']
        case c3 => unfold maxLen; omega
        case c4 => omega
        case c5 => have := Hc.out.size; have := Hc2.out.size; simp; omega
        intro v' w3 hown3 hg3 _
        have Hown3 := Lib.hid hown3
        have Hg3 := Lib.hid hg3
        clear hown3 hg3
        go_wp2_with fail
        exact ⟨⟨k + 1, by go_num, by omega, by rw [Hrs.out]; simpa [ints] using Hown3.out, (Hc.out.trans' Hc2.out).append (own_kept Hown.out Hc2.out) ((Chg.refl _ _).alloc _) Hg3.out⟩, by simp [intOf]; omega⟩
    · obtain rfl : k = 6 := by omega
      go_wp2_with fail
      go_ret
      exact ⟨_, rfl, Hown.out, Hc.out⟩


set_option maxHeartbeats 400000 in
theorem same_numbers (w : World) (va vb : Value) (la lb : List Int) (ha : SlAt w va (ints la)) (hb : SlAt w vb (ints lb)) (hl : la.length ≤ 4611686018427387904) :
    Calls Try.prog 23 #[va, vb] w fun e w' => e = .returned (.bool (decide (la = lb))) ∧ Chg (fun _ => False) w w' := by
  obtain ⟨oa, ca, rfl⟩ : ∃ oa ca, va = .slice oa la.length ca := by obtain ⟨oa, ca, h, _⟩ := ha; exact ⟨oa, ca, by rw [h, ints_length]⟩
  obtain ⟨ob, cb, rfl⟩ : ∃ ob cb, vb = .slice ob lb.length cb := by obtain ⟨ob, cb, h, _⟩ := hb; exact ⟨ob, cb, by rw [h, ints_length]⟩
  have HA := Lib.hid ha
  have HB := Lib.hid hb
  clear ha hb
  by_cases hlen : la.length = lb.length
  · have hb1 : ((la.length : Int) != lb.length) = false := by simp [hlen]
    go_enter Try.func23, Try.ntmps23
    have Hlen := Lib.hid hlen
    clear hlen
    go_wp2_with fail
    go_loopw [5] (fun i wr => ∃ k : Nat, i = .int .i64 k ∧ k ≤ la.length ∧ la.take k = lb.take k ∧ Chg (fun _ => False) w wr) (fun i _ => la.length - (intOf i).toNat)
    case atStart => exact ⟨0, rfl, by omega, by simp, Chg.refl _ _⟩
    case round =>
      obtain ⟨k, rfl, hk, ht, hc⟩ := hrel
      have Ht := Lib.hid ht
      have Hc := Lib.hid hc
      clear ht hc
      by_cases hlt : k < la.length
      · have hlt2 : k < lb.length := by have := Hlen.out; omega
        obtain ⟨b1, o1, rfl, -, c1⟩ := (HA.out.kept Hc.out).cell (k := k) (by rw [ints_length]; exact hlt)
        obtain ⟨b2, o2, rfl, -, c2⟩ := (HB.out.kept Hc.out).cell (k := k) (by rw [ints_length]; exact hlt2)
        simp only [ints, List.getElem_map] at c1 c2
        obtain ⟨za, hza⟩ : ∃ z, la[k] = z := ⟨_, rfl⟩
        obtain ⟨zb, hzb⟩ : ∃ z, lb[k] = z := ⟨_, rfl⟩
        rw [hza] at c1
        rw [hzb] at c2
        have hs : la.take (k + 1) = lb.take (k + 1) ↔ za = zb := by
          rw [List.take_succ_eq_append_getElem hlt, List.take_succ_eq_append_getElem hlt2, Ht.out, hza, hzb]; simp
        have hne : za ≠ zb → la ≠ lb := fun h e => h (by subst e; rw [← hza, ← hzb])
        have Hs := Lib.hid hs
        have Hne := Lib.hid hne
        clear hs hne hza hzb
        by_cases hz : za = zb
        · subst hz
          go_wp2_with fail
          go_quiet (fail)
          go_wp2_with fail
          exact ⟨⟨k + 1, by go_num, by omega, Hs.out.2 trivial, Hc.out.drewN _⟩, by simp [intOf]; omega⟩
        · have hz' : (za != zb) = true := by simpa using hz
          clear hz
          go_wp2_with fail
          go_quiet (fail)
          go_wp2_with fail
          go_ret
          exact ⟨by simp [Hne.out (by simpa using hz')], Hc.out.drewN _⟩
      · have hll : la = lb := by
          have h1 := Ht.out
          rw [List.take_of_length_le (by omega), List.take_of_length_le (by have := Hlen.out; omega)] at h1
          exact h1
        have Hll := Lib.hid hll
        clear hll
        go_wp2_with fail
        go_ret
        exact ⟨by simp [Hll.out], Hc.out⟩
  · have hb1 : ((la.length : Int) != lb.length) = true := by simp; omega
    go_enter Try.func23, Try.ntmps23
    have Hlen := Lib.hid hlen
    clear hlen
    go_wp2_with fail
    go_ret
    exact ⟨by simp [show la ≠ lb from fun e => Hlen.out (by rw [e])], Chg.refl _ _⟩

end Go.Proofs.Ytomceindibnpnaa

/- . -/
import Derived.Test.YtbjagmlbamjdbaaGreatPx16RootOnce
import Derived.Test.YtbjagmlbamjdbaaGreatPx19RootOnce
import Derived.Lib.AppendZeros

set_option linter.unusedSimpArgs false
set_option linter.unusedVariables false
section
namespace Go.Proofs.YtbjagmlbamjdbaaGreat.roots
open Go.RowKit Go.Maps Go.My Go.ChangeMaps disks bufs wals kvs
set_option maxRecDepth 100000

variable {w w' : World}

theorem grow_is (w : World) (n : Nat) (h0 : 0 < n) (hn : n ≤ 1000) :
    Calls Tryz.prog 147 #[.slice none 0 0, .int .i64 (n : Int)] w fun e w' => ∃ v, e = .returned v ∧ Puts w' w.heap.size v [] ∧ Chg (fun _ => False) w w' := by
  obtain ⟨i, hi, hz, hsz, hby⟩ := info_parts info_put
  have hr := Lib.run_append_nil_zeros (P := Tryz.prog) w 66 3 66 103 i _ .i64 .i64 Tryz.underlying66 Tryz.underlying3 hi hz n h0 (by rw [hsz]; omega) (by omega) (by rw [hby]; omega)
  have hc1 := grownCap_ge w n 0 103
  have hc2 := grownCap_le_maxLen w n 0 103 (by unfold maxLen; omega)
  obtain ⟨C, hC⟩ : ∃ C, grownCap w n 0 103 = C := ⟨_, rfl⟩
  rw [hC] at hr hc1 hc2
  obtain ⟨cur, hcur⟩ : ∃ cur, Builtin.zeroCells (Value.agg #[.string ⟨#[]⟩, .string ⟨#[]⟩, .bool false]).cells n ++ Builtin.zeroCells (Value.agg #[.string ⟨#[]⟩, .string ⟨#[]⟩, .bool false]).cells (C - n) = cur := ⟨_, rfl⟩
  have hcs : cur.size = C * 3 := by
    rw [← hcur, Array.size_append, size_zeroCells, size_zeroCells]
    simp only [Value.cells, List.size_toArray, List.length_cons, List.length_nil]
    omega
  rw [hcur] at hr
  have hown : Puts (w.drew.alloc (.cells cur 103)) w.heap.size (.slice (some ⟨w.heap.size, 0, none⟩) 0 C) [] :=
    ⟨⟨by simp, .inr ⟨w.heap.size, C, cur, rfl, Nat.le_refl _, heap_alloc_new w.drew _, Nat.zero_le _, hc2, hcs, by simp⟩⟩, by simp⟩
  have hch : Chg (fun _ => False) w (w.drew.alloc (.cells cur 103)) := ((Chg.refl _ _).drew).alloc _
  have HR := Lib.hid hr
  have HO := Lib.hid hown
  have HC := Lib.hid hch
  have n1 : (0 : Int) < (n : Int) := by omega
  have n2 : (n : Int) ≤ 1000 := by omega
  have n3 : (n : Int) ≤ (C : Int) := by omega
  have n4 : (0 : Int) ≤ (C : Int) := by omega
  clear hr hown hch hcs hcur hC hi hz hsz hby hc1
  go_enter Tryz.func147, Tryz.ntmps147
  go_wp2_with (first
    | (at_builtin; refine Lib.wpList_append_run _ rfl _ _ _ _ rfl _ _ rfl rfl _ _ HR.out ?_))
  go_ret
  exact ⟨_, rfl, HO.out, HC.out⟩

theorem push_puts {B B2 : Nat} {v u : Value} {l ps : List PV} (h : Puts w B v l) (hs : Puts w B2 u ps) (hB : B ≤ w.heap.size) (hl : l.length + ps.length ≤ 1000000) :
    ∃ (o3 : Option Addr) (M p3 : Nat) (w3 : World), (Builtin.append_ #[66, 66] 66 #[v, u]).run Tryz.prog w = .ok (.slice o3 M p3) w3 ∧ Puts w3 B (.slice o3 M p3) (l ++ ps) ∧ Chg (fun k => some k = v.ownBlock) w w3 := by
  obtain ⟨i, hi, hz, hsz, hby⟩ := info_parts info_put
  rcases hs.row.2 with ⟨rfl, h0⟩ | ⟨g, cap, cur, rfl, -, -, -⟩
  · have hps : ps = [] := by rw [List.length_map] at h0; exact List.eq_nil_of_length_eq_zero h0
    subst hps
    rw [List.append_nil]
    have hr := run_append_owned_none (P := Tryz.prog) (w := w) B 66 66 103 i 3 Tryz.underlying66 hi v _ _ h.row
    obtain ⟨o, c, hv, -⟩ := h.slice
    subst hv
    exact ⟨_, _, _, w, hr, h, Chg.refl _ _⟩
  · have hone : ∀ x ∈ (ps.map PV.row).flatten, x.oneCell' = true := by
      intro x hx
      obtain ⟨r, hr, hxr⟩ := List.mem_flatten.1 hx
      obtain ⟨q, -, rfl⟩ := List.mem_map.1 hr
      exact row_oneCell q x hxr
    obtain ⟨v', w', h1, h2, h3, -⟩ := run_append_own (P := Tryz.prog) w B 66 66 103 i _ 3 40 Tryz.underlying66 hi hz hsz hby rfl (by decide) v _ _ h.row ⟨g, 0, none⟩ (ps.map PV.row).length cap (ps.map PV.row).flatten (flat_length 3 _ hs.each) (hs.row.cells (g := g) rfl) hone (by rw [List.length_map, List.length_map]; unfold maxLen; omega) (by rw [List.length_map, List.length_map]; omega) hB
    have h4 : Puts w' B v' (l ++ ps) := by
      show OwnRecs w' B _ 3 v' ((l ++ ps).map PV.row)
      rw [List.map_append]
      exact OwnRecs.append h2 h.each hs.each
    obtain ⟨o, c, rfl, -⟩ := h4.slice
    exact ⟨o, _, c, w', h1, h4, Chg.of_grown h3⟩

def sumL (L : List (Value × List PV)) : Nat := (L.map (fun x => x.2.length)).sum
theorem sumL_take {L : List (Value × List PV)} {k : Nat} {x : Value × List PV} (h : L[k]? = some x) : sumL (L.take (k + 1)) = sumL (L.take k) + x.2.length := by
  unfold sumL
  rw [List.take_add_one, h, Option.toList_some, List.map_append, List.sum_append]
  simp
theorem sumL_le (L : List (Value × List PV)) (k : Nat) : sumL (L.take k) ≤ sumL L := by
  have h : sumL L = sumL (L.take k) + sumL (L.drop k) := by
    unfold sumL
    rw [← List.sum_append, ← List.map_append, List.take_append_drop]
  omega

set_option maxHeartbeats 1000000 in
theorem concat_is (w : World) (L : List (Value × List PV)) {lb : Nat} (hb : w.heap[lb]? = some (.cells (L.map (fun x => x.1)).toArray 66 (0, 0))) (hp : ∀ x ∈ L, ∃ B, Puts w B x.1 x.2) (h0 : 0 < sumL L) (h1 : sumL L ≤ 1000) (hl : L.length ≤ 10) :
    Calls Tryz.prog 93 #[.slice (some ⟨lb, 0, none⟩) L.length L.length] w fun e w' => ∃ v, e = .returned v ∧ Puts w' w.heap.size v (L.map (fun x => x.2)).flatten ∧ Chg (fun _ => False) w w' := by
  have HB := Lib.hid hb
  have HP := Lib.hid hp
  obtain ⟨S, hS⟩ : ∃ S, sumL L = S := ⟨_, rfl⟩
  rw [hS] at h0 h1
  have HS := Lib.hid hS
  have HG := Lib.hid (fun W => grow_is W S h0 h1)
  clear hb hp hS
  go_enter Tryz.func93, Tryz.ntmps93
  go_wp2_with fail
  go_loopw [3, 11] (fun u j wr => ∃ k : Nat, u = .int .i64 (sumL (L.take k) : Int) ∧ j = .int .i64 k ∧ k ≤ L.length ∧ w = wr) (fun _ j _ => L.length - (intOf j).toNat)
  · exact ⟨0, rfl, rfl, Nat.zero_le _, rfl⟩
  obtain ⟨k, rfl, rfl, hk, rfl⟩ := hrel
  by_cases hlt : k < L.length
  · have hki : (k : Int) < (L.length : Int) := by omega
    obtain ⟨x, hx⟩ : ∃ x, L[k]? = some x := ⟨L[k], List.getElem?_eq_getElem hlt⟩
    obtain ⟨B, hpx⟩ := HP.out x (List.mem_of_getElem? hx)
    have htk := sumL_take hx
    have hle := sumL_le L k
    have hle2 := sumL_le L (k + 1)
    rw [HS.out] at hle hle2
    have c0 : w.cell? ⟨lb, k, none⟩ = some x.1 := cell_of_block HB.out (by simp [hx])
    obtain ⟨o, c, hv, -⟩ := hpx.slice
    rw [List.length_map] at hv
    rw [hv] at c0
    obtain ⟨A, hA⟩ : ∃ A, sumL (L.take k) = A := ⟨_, rfl⟩
    obtain ⟨N, hN⟩ : ∃ N, x.2.length = N := ⟨_, rfl⟩
    rw [hA] at htk hle ⊢
    rw [hN] at htk c0
    rw [htk] at hle2
    have a0 : (0 : Int) ≤ (A : Int) := by omega
    have a1 : (A : Int) ≤ 1000 := by omega
    have a2 : (0 : Int) ≤ (N : Int) := by omega
    have a3 : (N : Int) ≤ 1000 := by omega
    have a4 : ¬ (A : Int) + (N : Int) < 0 := by omega
    have HTk := Lib.hid htk
    clear hx hpx htk hle hle2 hv hA hN
    go_wp2_with fail
    exact ⟨⟨k + 1, by rw [HTk.out]; go_num, by go_num, hlt, trivial⟩, meas_step hlt⟩
  · have hki : ¬ (k : Int) < (L.length : Int) := by omega
    obtain rfl : k = L.length := by omega
    rw [List.take_length, HS.out]
    obtain ⟨bs, hbs⟩ : ∃ bs, w.heap.size = bs := ⟨_, rfl⟩
    have HBs := Lib.hid hbs
    clear hbs
    go_wp2_with (first
      | (go_at_call 147; refine (HG.out w).mono ?_; rintro e w1 ⟨v1, rfl, ho1, hc1⟩
         obtain ⟨o1, p1, hv1, -⟩ := ho1.slice
         subst hv1
         have HO1 := Lib.hid ho1
         have HC1 := Lib.hid hc1
         clear ho1 hc1))
    go_loopw [6, 27] (fun u j wr => ∃ (k : Nat) (ou : Option Addr) (nu cu : Nat), u = .slice ou nu cu ∧ j = .int .i64 k ∧ k ≤ L.length ∧ Puts wr w.heap.size (.slice ou nu cu) ((L.take k).map (fun x => x.2)).flatten ∧ Chg (fun _ => False) w wr) (fun _ j _ => L.length - (intOf j).toNat)
    · exact ⟨0, _, _, _, rfl, rfl, Nat.zero_le _, HO1.out, HC1.out⟩
    clear HO1 HC1
    obtain ⟨k, ou, nu, cu, rfl, rfl, hk, ho, hc⟩ := hrel
    by_cases hlt : k < L.length
    · have hki : (k : Int) < (L.length : Int) := by omega
      obtain ⟨x, hx⟩ : ∃ x, L[k]? = some x := ⟨L[k], List.getElem?_eq_getElem hlt⟩
      obtain ⟨B, hpx⟩ := HP.out x (List.mem_of_getElem? hx)
      have c0 : wr.cell? ⟨lb, k, none⟩ = some x.1 := cell_of_block (hc.at HB.out id) (by simp [hx])
      have hfl : ((L.take (k + 1)).map (fun x => x.2)).flatten = ((L.take k).map (fun x => x.2)).flatten ++ x.2 := by
        rw [List.take_add_one, hx, Option.toList_some, List.map_append, List.flatten_append]; simp
      have hle := sumL_le L k
      have hle2 := sumL_le L (k + 1)
      rw [sumL_take hx, HS.out] at hle2
      have hfs : (((L.take k).map (fun x => x.2)).flatten).length = sumL (L.take k) := by
        rw [List.length_flatten, List.map_map]; rfl
      obtain ⟨o, c, hv, -⟩ := hpx.slice
      have hpw := hpx.kept hc (fun _ _ h => h)
      rw [hv] at c0 hpw
      obtain ⟨o3, M3, p3, w3, hr3, ho3, hg3⟩ := push_puts ho hpw (by exact hc.size) (by rw [hfs]; omega)
      obtain ⟨N, hN⟩ : ∃ N, (x.2.map PV.row).length = N := ⟨_, rfl⟩
      rw [hN] at c0 hr3
      rw [← hfl] at ho3
      have HR3 := Lib.hid hr3
      have HO3 := Lib.hid ho3
      have HC3 := Lib.hid (hc.new hg3 (fun i e => (ho.lt e.symm).1))
      clear hx hpx hfl hle hle2 hfs hv hpw hr3 ho3 hg3 ho hc hN
      go_wp2_with (first
        | (at_builtin; refine Lib.wpList_append_run _ rfl _ _ _ _ rfl _ _ rfl rfl _ _ HR3.out ?_))
      exact ⟨⟨k + 1, _, _, _, rfl, by go_num, hlt, HO3.out, HC3.out⟩, meas_step hlt⟩
    · have hki : ¬ (k : Int) < (L.length : Int) := by omega
      obtain rfl : k = L.length := by omega
      rw [List.take_length] at ho
      have HO := Lib.hid ho
      have HC := Lib.hid hc
      clear ho hc
      go_wp2_with fail
      go_ret
      exact ⟨_, rfl, HO.out, HC.out⟩

theorem join_is (w : World) (L : List (Value × List PV)) {lb : Nat} (hb : w.heap[lb]? = some (.cells (L.map (fun x => x.1)).toArray 66 (0, 0))) (hp : ∀ x ∈ L, ∃ B, Puts w B x.1 x.2) (h0 : 0 < sumL L) (h1 : sumL L ≤ 1000) (hl : L.length ≤ 10) :
    Calls Tryz.prog 52 #[.slice (some ⟨lb, 0, none⟩) L.length L.length] w fun e w' => ∃ v, e = .returned v ∧ Puts w' w.heap.size v (L.map (fun x => x.2)).flatten ∧ Chg (fun _ => False) w w' := by
  have HC := Lib.hid (concat_is w L hb hp h0 h1 hl)
  clear hb hp
  go_enter Tryz.func52, Tryz.ntmps52
  go_wp2_with (go_at_call 93; refine HC.out.mono ?_; rintro e w1 ⟨v, rfl, ho, hc⟩
               obtain ⟨o1, p1, hv1, -⟩ := ho.slice
               obtain ⟨M, hM⟩ : ∃ M, ((L.map (fun x => x.2)).flatten.map PV.row).length = M := ⟨_, rfl⟩
               rw [hM] at hv1
               subst hv1
               clear hM
               have HO := Lib.hid ho
               have HC1 := Lib.hid hc
               clear ho hc)
  go_ret
  exact ⟨_, rfl, HO.out, HC1.out⟩

end Go.Proofs.YtbjagmlbamjdbaaGreat.roots
end

section
namespace Go.Proofs.YtbjagmlbamjdbaaGreat.roots
open Go.RowKit Go.Maps Go.My Go.ChangeMaps disks bufs wals kvs
set_option maxRecDepth 100000

variable {w w' : World} {B r kb : Nat} {F : Nat → Prop} {S : RS} {sv wv dv : Value}

structure RtIs (w : World) (B r kb : Nat) (F : Nat → Prop) (S : RS) (sv wv dv : Value) : Prop where
  head : w.heap[r]? = some (.cells #[.pointer (some ⟨kb, 0, none⟩), sv, .int .i64 (S.staged : Int), wv, dv] 37 (0, 0))
  stack : PksAt w F sv S.stack
  wants : PksAt w F wv S.wants
  done : w.ownsRow B 3 1 dv S.done.length (S.done.map (fun n : Nat => Value.int .i64 (n : Int)))
  few : S.stack.length ≤ 20 ∧ S.wants.length ≤ 20 ∧ S.done.length ≤ 1000
  lays : (∀ p ∈ S.stack, p.man.layers.length ≤ 20) ∧ (∀ p ∈ S.wants, p.man.layers.length ≤ 20)
theorem RtIs.fresh (h : RtIs w B r kb F S sv wv dv) (hc : Chg (fun _ => False) w w') : RtIs w' B r kb F S sv wv dv :=
  ⟨hc.at h.head id, h.stack.fresh hc, h.wants.fresh hc, own_kept h.done hc, h.few, h.lays⟩

theorem none_is (w : World) (h : RtIs w B r kb F S sv wv dv) : Calls Tryz.prog 47 #[.pointer (some ⟨r, 0, none⟩)] w fun e w' => e = .returned (.bool false) ∧ w = w' := by
  have c0 : w.cell? ⟨r, 0, none⟩ = some (.pointer (some ⟨kb, 0, none⟩)) := cell_of_block h.head rfl
  clear h
  go_enter Tryz.func47, Tryz.ntmps47
  go_wp2_with fail
  go_ret
  exact ⟨rfl, rfl⟩

def askF (t : Int) : Nat := if t < 1 ∨ 1099511627776 < t then 2 else 0
theorem asked_is (w : World) (h : RtIs w B r kb F S sv wv dv) (t : Int) : Calls Tryz.prog 49 #[.pointer (some ⟨r, 0, none⟩), .int .i64 t] w fun e w' => e = .returned (.int .i64 (askF t : Int)) ∧ w = w' := by
  have HN := Lib.hid (none_is w h)
  clear h
  unfold askF
  by_cases t1 : t < 1
  · rw [if_pos (Or.inl t1)]
    go_enter Tryz.func49, Tryz.ntmps49
    go_wp2_with (first
      | (go_at_call 47; refine HN.out.mono ?_; rintro e w' ⟨rfl, rfl⟩))
    go_ret
    exact ⟨rfl, rfl⟩
  · by_cases t2 : 1099511627776 < t
    · rw [if_pos (Or.inr t2)]
      go_enter Tryz.func49, Tryz.ntmps49
      go_wp2_with (first
        | (go_at_call 47; refine HN.out.mono ?_; rintro e w' ⟨rfl, rfl⟩))
      go_ret
      exact ⟨rfl, rfl⟩
    · rw [if_neg (by omega)]
      go_enter Tryz.func49, Tryz.ntmps49
      go_wp2_with (first
        | (go_at_call 47; refine HN.out.mono ?_; rintro e w' ⟨rfl, rfl⟩))
      go_ret
      exact ⟨rfl, rfl⟩

theorem stack_of (w : World) (h : RtIs w B r kb F S sv wv dv) : Calls Tryz.prog 22 #[.pointer (some ⟨r, 0, none⟩)] w fun e w' => ∃ v, e = .returned v ∧ PksAt w' (fun b => w.heap.size ≤ b ∧ b < w'.heap.size) v S.stack ∧ Chg (fun _ => False) w w' := by
  have HN := Lib.hid (none_is w h)
  obtain ⟨oa, cap, lv, rfl, -⟩ := id h.stack.is
  have c1 : w.cell? ⟨r, 1, none⟩ = some (.slice oa S.stack.length cap) := cell_of_block h.head rfl
  have HT := Lib.hid (twin_is w h.stack h.few.1 h.lays.1)
  obtain ⟨L, hL⟩ : ∃ L, S.stack = L := ⟨_, rfl⟩
  rw [hL] at c1 HT ⊢
  clear h hL
  go_enter Tryz.func22, Tryz.ntmps22
  go_wp2_with (first
    | (go_at_call 47; refine HN.out.mono ?_; rintro e w' ⟨rfl, rfl⟩)
    | (go_at_call 48; refine HT.out.mono ?_; rintro e w1 ⟨v1, rfl, hp1, hc1⟩
       obtain ⟨o1, p1, l1, hv1, -⟩ := id hp1.is
       subst hv1
       have HP := Lib.hid hp1
       have HC := Lib.hid hc1
       clear hp1 hc1))
  go_ret
  exact ⟨_, rfl, HP.out, HC.out⟩

theorem staged_of (w : World) (h : RtIs w B r kb F S sv wv dv) : Calls Tryz.prog 18 #[.pointer (some ⟨r, 0, none⟩)] w fun e w' => ∃ v, e = .returned (.tuple #[.int .i64 (S.staged : Int), v]) ∧ PksAt w' (fun b => w.heap.size ≤ b ∧ b < w'.heap.size) v S.wants ∧ Chg (fun _ => False) w w' := by
  have HN := Lib.hid (none_is w h)
  obtain ⟨oa, cap, lv, rfl, -⟩ := id h.wants.is
  have c2 : w.cell? ⟨r, 2, none⟩ = some (.int .i64 (S.staged : Int)) := cell_of_block h.head rfl
  have c3 : w.cell? ⟨r, 3, none⟩ = some (.slice oa S.wants.length cap) := cell_of_block h.head rfl
  have hd : Chg (fun _ => False) w w.drew := (Chg.refl _ _).drew
  have HT := Lib.hid (twin_is w.drew (h.wants.fresh hd) h.few.2.1 h.lays.2)
  have HD := Lib.hid hd
  obtain ⟨L, hL⟩ : ∃ L, S.wants = L := ⟨_, rfl⟩
  rw [hL] at c3 HT ⊢
  clear h hL hd
  go_enter Tryz.func18, Tryz.ntmps18
  go_wp2_with (first
    | (go_at_call 47; refine HN.out.mono ?_; rintro e w' ⟨rfl, rfl⟩))
  refine wp_region_noPanic ?_
  refine wp_region_held_drew (S := (fun w' => w'.cell? ⟨r, 2, none⟩ = some (.int .i64 (S.staged : Int)) ∧ w'.cell? ⟨r, 3, none⟩ = some (.slice oa L.length cap))) (by kernel_rfl) (⟨c2, c3⟩) (fun hHeld => ?_)
  refine tk 0 (v := ?_) hHeld rfl (fun w hSw => ?_) ?_
  rotate_left
  · (obtain ⟨hSw1, hSw2⟩ := hSw; go_simp)
    try with_reducible rfl
  simp only [Act.put, zA, zB, zC]
  refine tk 1 (v := ?_) hHeld rfl (fun w hSw => ?_) ?_
  rotate_left
  · (obtain ⟨hSw1, hSw2⟩ := hSw; go_simp)
    try with_reducible rfl
  simp only [Act.put, zA, zB, zC]
  refine tk 2 (v := ?_) hHeld rfl (fun w hSw => ?_) ?_
  rotate_left
  · (obtain ⟨hSw1, hSw2⟩ := hSw; go_simp)
    try with_reducible rfl
  simp only [Act.put, zA, zB, zC]
  refine tk 3 (v := ?_) hHeld rfl (fun w hSw => ?_) ?_
  rotate_left
  · (obtain ⟨hSw1, hSw2⟩ := hSw; go_simp)
    try with_reducible rfl
  simp only [Act.put, zA, zB, zC]
  refine tk 4 (v := ?_) hHeld rfl (fun w hSw => ?_) ?_
  rotate_left
  · (obtain ⟨hSw1, hSw2⟩ := hSw; go_simp)
    try with_reducible rfl
  simp only [Act.put, zA, zB, zC]
  refine tk 5 (v := ?_) hHeld rfl (fun w hSw => ?_) ?_
  rotate_left
  · (obtain ⟨hSw1, hSw2⟩ := hSw; go_simp)
    try with_reducible rfl
  simp only [Act.put, zA, zB, zC]
  refine tk 6 (v := ?_) hHeld rfl (fun w hSw => ?_) ?_
  rotate_left
  · (obtain ⟨hSw1, hSw2⟩ := hSw; go_simp)
    try with_reducible rfl
  simp only [Act.put, zA, zB, zC]
  refine tk 7 (v := ?_) hHeld rfl (fun w hSw => ?_) ?_
  rotate_left
  · (obtain ⟨hSw1, hSw2⟩ := hSw; go_simp)
    try with_reducible rfl
  simp only [Act.put, zA, zB, zC]
  refine on1 8 rfl (fun K hK => ?_)
  go_simp
  refine HT.out.mono ?_
  rintro e w1 ⟨v1, rfl, hp1, hc1⟩
  obtain ⟨o1, p1, l1, hv1, -⟩ := id hp1.is
  subst hv1
  have HP := Lib.hid hp1
  have HC := Lib.hid (HD.out.trans' hc1)
  clear hp1 hc1
  refine hK _ _ (⟨HC.out.cell c2 id, HC.out.cell c3 id⟩) (fun hA => ?_)
  try simp only [Act.put, zA, zB, zC]
  refine tk 9 (v := ?_) hA rfl (fun w hSw => ?_) ?_
  rotate_left
  · go_simp
    try with_reducible rfl
  simp only [Act.put, zA, zB, zC]
  refine tk 10 (v := ?_) hA rfl (fun w hSw => ?_) ?_
  rotate_left
  · go_simp
    try with_reducible rfl
  simp only [Act.put, zA, zB, zC]
  refine wpAnyH_done (by kernel_rfl) ?_ _
  refine NoPanic.normal ?_
  go_wp2_with fail
  go_ret2
  exact ⟨_, rfl, HP.out, HC.out⟩

theorem rows_nums {v : Value} {l : List Nat} (h : w.ownsRow B 3 1 v l.length (l.map (fun n : Nat => Value.int .i64 (n : Int)))) : ∃ oa cap, v = .slice oa l.length cap ∧ RowsAt w 1 oa (l.map (fun n : Nat => [Value.int .i64 (n : Int)])) := by
  obtain ⟨oa, cap, h1, h2, h3⟩ := SlAt.of_own h
  rw [List.length_map] at h1
  refine ⟨oa, cap, h1, fun hne => h2 (fun e => hne (by rw [List.map_eq_nil_iff] at e ⊢; exact e)), fun i r hr => ?_, fun b off ho i r j v hi hj => ?_⟩
  · rw [List.getElem?_map] at hr
    cases hl : l[i]? with
    | none => rw [hl] at hr; simp at hr
    | some n => rw [hl] at hr; simp only [Option.map_some, Option.some.injEq] at hr; rw [← hr]; rfl
  · rw [List.getElem?_map] at hi
    cases hl : l[i]? with
    | none => rw [hl] at hi; simp at hi
    | some n =>
      rw [hl] at hi
      simp only [Option.map_some, Option.some.injEq] at hi
      rw [← hi] at hj
      cases j with
      | zero =>
        simp only [List.getElem?_cons_zero, Option.some.injEq] at hj
        have := h3 b off ho i _ (by rw [List.getElem?_map, hl]; rfl)
        rw [Nat.mul_one, Nat.add_zero, ← hj]
        exact this
      | succ j => simp at hj

theorem flat_one : ∀ (l : List Nat), (l.map (fun n : Nat => [Value.int .i64 (n : Int)])).flatten = l.map (fun n : Nat => Value.int .i64 (n : Int))
  | [] => rfl
  | a :: l => by rw [List.map_cons, List.flatten_cons, flat_one l]; rfl

theorem done_of (w : World) (h : RtIs w B r kb F S sv wv dv) : Calls Tryz.prog 23 #[.pointer (some ⟨r, 0, none⟩)] w fun e w' => ∃ v, e = .returned v ∧ w'.ownsRow w.heap.size 3 1 v S.done.length (S.done.map (fun n : Nat => Value.int .i64 (n : Int))) ∧ Chg (fun _ => False) w w' := by
  have HN := Lib.hid (none_is w h)
  obtain ⟨oa, cap, rfl, hr⟩ := rows_nums h.done
  have c4 : w.cell? ⟨r, 4, none⟩ = some (.slice oa S.done.length cap) := cell_of_block h.head rfl
  have hcl := clone_ints w oa cap _ hr (by intro x hx; obtain ⟨y, hy, hxy⟩ := List.mem_flatten.1 hx; obtain ⟨n, -, rfl⟩ := List.mem_map.1 hy; rw [List.mem_singleton.1 hxy]; rfl) (by rw [List.length_map]; exact h.few.2.2)
  rw [List.length_map] at hcl
  have HT := Lib.hid hcl
  obtain ⟨L, hL⟩ : ∃ L, S.done = L := ⟨_, rfl⟩
  rw [hL] at c4 HT ⊢
  clear h hL hr hcl
  go_enter Tryz.func23, Tryz.ntmps23
  go_wp2_with (first
    | (go_at_call 47; refine HN.out.mono ?_; rintro e w' ⟨rfl, rfl⟩)
    | (go_at_call 55; refine HT.out.mono ?_; rintro e w1 ⟨v1, rfl, hp1, hc1⟩
       have hrow := hp1.row
       rw [List.length_map, flat_one] at hrow
       obtain ⟨o1, p1, hv1⟩ := own_slice hrow
       subst hv1
       have HP := Lib.hid hrow
       have HC := Lib.hid hc1
       clear hp1 hrow hc1))
  go_ret
  have h := HP.out
  exact ⟨_, rfl, h, HC.out⟩

end Go.Proofs.YtbjagmlbamjdbaaGreat.roots
end

section
namespace Go.Proofs.YtbjagmlbamjdbaaGreat.roots
open Go.RowKit Go.Maps Go.My Go.ChangeMaps disks bufs wals kvs
set_option maxRecDepth 100000

variable {w w' : World} {B r kb : Nat} {F : Nat → Prop} {S : RS} {sv wv dv : Value}

def abortE (S : RS) (t : Int) : Option Nat := if askF t ≠ 0 then some (askF t) else if ∃ n ∈ S.done, (n : Int) = t then some 11 else if (S.staged : Int) ≠ t then some 0 else none
def commitE (S : RS) (t : Int) : Option Nat := if askF t ≠ 0 then some (askF t) else if ∃ n ∈ S.done, (n : Int) = t then some 0 else if (S.staged : Int) ≠ t then some 11 else none

theorem abort_early (w : World) (h : RtIs w B r kb F S sv wv dv) (t : Int) (z : Nat) (hz : abortE S t = some z) :
    Calls Tryz.prog 21 #[.pointer (some ⟨r, 0, none⟩), .int .i64 t] w fun e w' => e = .returned (.int .i64 (z : Int)) ∧ w = w' := by
  have hmf : ∀ (fn : Fn) (first cap : Array Value) (w : World), (Instr.makeFunc fn first cap).run Tryz.prog w = .ok (.func fn first cap) w := fun _ _ _ _ => rfl
  have HA := Lib.hid (asked_is w h t)
  obtain ⟨od, cd, rfl, -⟩ := rows_nums h.done
  have HH := Lib.hid (has_is w (SlAt.of_own h.done : NumsAt w _ S.done) (by have := h.few.2.2; omega) t)
  have c2 : w.cell? ⟨r, 2, none⟩ = some (.int .i64 (S.staged : Int)) := cell_of_block h.head rfl
  have c4 : w.cell? ⟨r, 4, none⟩ = some (.slice od S.done.length cd) := cell_of_block h.head rfl
  clear h
  unfold abortE at hz
  obtain ⟨A, hA⟩ : ∃ A, askF t = A := ⟨_, rfl⟩
  rw [hA] at hz HA
  clear hA
  by_cases a0 : A = 0
  · subst a0
    rw [if_neg (by simp)] at hz
    by_cases hd : ∃ n ∈ S.done, (n : Int) = t
    · rw [if_pos hd] at hz
      cases hz
      rw [decide_eq_true hd] at HH
      clear hd
      go_enter Tryz.func21, Tryz.ntmps21
      go_wp2_with (first
        | (go_at_call 49; refine HA.out.mono ?_; rintro e w' ⟨rfl, rfl⟩)
        | (go_at_call 50; refine HH.out.mono ?_; rintro e w' ⟨rfl, rfl⟩))
      go_ret
      exact ⟨rfl, rfl⟩
    · rw [if_neg hd] at hz
      rw [decide_eq_false hd] at HH
      clear hd
      by_cases hs : (S.staged : Int) = t
      · rw [if_neg (by simpa using hs)] at hz
        cases hz
      · rw [if_pos hs] at hz
        cases hz
        have hsb : ((S.staged : Int) == t) = false := by simpa using hs
        have hsn : ((S.staged : Int) != t) = true := by simpa using hs
        go_enter Tryz.func21, Tryz.ntmps21
        go_wp2_with (first
          | (go_at_call 49; refine HA.out.mono ?_; rintro e w' ⟨rfl, rfl⟩)
          | (go_at_call 50; refine HH.out.mono ?_; rintro e w' ⟨rfl, rfl⟩))
        go_ret
        exact ⟨rfl, rfl⟩
  · rw [if_pos a0] at hz
    have a1 : ((A : Int) != 0) = true := by simpa using a0
    have a2 : ¬ (A : Int) = 0 := by omega
    cases hz
    go_enter Tryz.func21, Tryz.ntmps21
    go_wp2_with (first
      | (go_at_call 49; refine HA.out.mono ?_; rintro e w' ⟨rfl, rfl⟩)
      | (go_at_call 50; refine HH.out.mono ?_; rintro e w' ⟨rfl, rfl⟩))
    go_ret
    exact ⟨rfl, rfl⟩

theorem commit_early (w : World) (h : RtIs w B r kb F S sv wv dv) (t : Int) (z : Nat) (hz : commitE S t = some z) :
    Calls Tryz.prog 20 #[.pointer (some ⟨r, 0, none⟩), .int .i64 t] w fun e w' => e = .returned (.int .i64 (z : Int)) ∧ w = w' := by
  have hmf : ∀ (fn : Fn) (first cap : Array Value) (w : World), (Instr.makeFunc fn first cap).run Tryz.prog w = .ok (.func fn first cap) w := fun _ _ _ _ => rfl
  have HA := Lib.hid (asked_is w h t)
  obtain ⟨od, cd, rfl, -⟩ := rows_nums h.done
  have HH := Lib.hid (has_is w (SlAt.of_own h.done : NumsAt w _ S.done) (by have := h.few.2.2; omega) t)
  have c2 : w.cell? ⟨r, 2, none⟩ = some (.int .i64 (S.staged : Int)) := cell_of_block h.head rfl
  have c4 : w.cell? ⟨r, 4, none⟩ = some (.slice od S.done.length cd) := cell_of_block h.head rfl
  clear h
  unfold commitE at hz
  obtain ⟨A, hA⟩ : ∃ A, askF t = A := ⟨_, rfl⟩
  rw [hA] at hz HA
  clear hA
  by_cases a0 : A = 0
  · subst a0
    rw [if_neg (by simp)] at hz
    by_cases hd : ∃ n ∈ S.done, (n : Int) = t
    · rw [if_pos hd] at hz
      cases hz
      rw [decide_eq_true hd] at HH
      clear hd
      go_enter Tryz.func20, Tryz.ntmps20
      go_wp2_with (first
        | (go_at_call 49; refine HA.out.mono ?_; rintro e w' ⟨rfl, rfl⟩)
        | (go_at_call 50; refine HH.out.mono ?_; rintro e w' ⟨rfl, rfl⟩))
      go_ret
      exact ⟨rfl, rfl⟩
    · rw [if_neg hd] at hz
      rw [decide_eq_false hd] at HH
      clear hd
      by_cases hs : (S.staged : Int) = t
      · rw [if_neg (by simpa using hs)] at hz
        cases hz
      · rw [if_pos hs] at hz
        cases hz
        have hsb : ((S.staged : Int) == t) = false := by simpa using hs
        have hsn : ((S.staged : Int) != t) = true := by simpa using hs
        go_enter Tryz.func20, Tryz.ntmps20
        go_wp2_with (first
          | (go_at_call 49; refine HA.out.mono ?_; rintro e w' ⟨rfl, rfl⟩)
          | (go_at_call 50; refine HH.out.mono ?_; rintro e w' ⟨rfl, rfl⟩))
        go_ret
        exact ⟨rfl, rfl⟩
  · rw [if_pos a0] at hz
    have a1 : ((A : Int) != 0) = true := by simpa using a0
    have a2 : ¬ (A : Int) = 0 := by omega
    cases hz
    go_enter Tryz.func20, Tryz.ntmps20
    go_wp2_with (first
      | (go_at_call 49; refine HA.out.mono ?_; rintro e w' ⟨rfl, rfl⟩)
      | (go_at_call 50; refine HH.out.mono ?_; rintro e w' ⟨rfl, rfl⟩))
    go_ret
    exact ⟨rfl, rfl⟩

end Go.Proofs.YtbjagmlbamjdbaaGreat.roots
end

section
namespace Go.Proofs.YtbjagmlbamjdbaaGreat.roots
open Go.RowKit Go.Maps Go.My Go.ChangeMaps disks bufs wals kvs
set_option maxRecDepth 100000

variable {w w' : World} {B r kb : Nat} {F : Nat → Prop} {S : RS} {sv wv dv : Value}

def stageE (S : RS) (t : Int) (l : List Pk) : Option Nat := if askF t ≠ 0 then some (askF t) else if rchkF l ≠ 0 then some (rchkF l) else if ∃ n ∈ S.done, (n : Int) = t then some 11 else if (S.staged : Int) = t then some 0 else if S.staged ≠ 0 then some 10 else none

set_option maxHeartbeats 1000000 in
theorem stage_early (w : World) (h : RtIs w B r kb F S sv wv dv) (t : Int) {G : Nat → Prop} {v : Value} {l : List Pk} (hl : PksAt w G v l) (z : Nat) (hz : stageE S t l = some z) :
    Calls Tryz.prog 19 #[.pointer (some ⟨r, 0, none⟩), .int .i64 t, v] w fun e w' => e = .returned (.int .i64 (z : Int)) ∧ Chg (fun _ => False) w w' := by
  have hmf : ∀ (fn : Fn) (first cap : Array Value) (w : World), (Instr.makeFunc fn first cap).run Tryz.prog w = .ok (.func fn first cap) w := fun _ _ _ _ => rfl
  have HA := Lib.hid (asked_is w h t)
  have HK := Lib.hid (check_is w hl)
  obtain ⟨ol, cl, ll, rfl, -⟩ := id hl.is
  obtain ⟨od, cd, rfl, -⟩ := rows_nums h.done
  have HRt := Lib.hid h
  clear h hl
  unfold stageE at hz
  obtain ⟨A, hA⟩ : ∃ A, askF t = A := ⟨_, rfl⟩
  obtain ⟨R, hR⟩ : ∃ R, rchkF l = R := ⟨_, rfl⟩
  obtain ⟨N, hN⟩ : ∃ N, l.length = N := ⟨_, rfl⟩
  rw [hA, hR] at hz
  rw [hA] at HA
  rw [hR, hN] at HK
  rw [hN]
  clear hA hR hN
  by_cases a0 : A = 0
  · subst a0
    rw [if_neg (by simp)] at hz
    by_cases r0 : R = 0
    · subst r0
      rw [if_neg (by simp)] at hz
      by_cases hd : ∃ n ∈ S.done, (n : Int) = t
      · rw [if_pos hd] at hz
        cases hz
        have HDec := Lib.hid (decide_eq_true hd)
        clear hd
        go_enter Tryz.func19, Tryz.ntmps19
        go_wp2_with (first
          | (go_at_call 49; refine HA.out.mono ?_; rintro e w' ⟨rfl, rfl⟩)
          | (go_at_call 10; refine HK.out.mono ?_; rintro e w1 ⟨rfl, hc1⟩
             have HR1 := Lib.hid (HRt.out.fresh hc1)
             have HC1 := Lib.hid hc1
             have c2 : w1.cell? ⟨r, 2, none⟩ = some (.int .i64 (S.staged : Int)) := cell_of_block HR1.out.head rfl
             have c4 : w1.cell? ⟨r, 4, none⟩ = some (.slice od S.done.length cd) := cell_of_block HR1.out.head rfl
             clear hc1)
          | (go_at_call 50; refine (has_is _ (SlAt.of_own HR1.out.done : NumsAt _ _ S.done) (by have := HR1.out.few.2.2; omega) t).mono ?_; rw [HDec.out]; rintro e w' ⟨rfl, rfl⟩))
        go_ret
        exact ⟨rfl, HC1.out⟩
      · rw [if_neg hd] at hz
        have HDec := Lib.hid (decide_eq_false hd)
        clear hd
        by_cases hs : (S.staged : Int) = t
        · rw [if_pos hs] at hz
          cases hz
          have hsb : ((S.staged : Int) == t) = true := by simpa using hs
          go_enter Tryz.func19, Tryz.ntmps19
          go_wp2_with (first
            | (go_at_call 49; refine HA.out.mono ?_; rintro e w' ⟨rfl, rfl⟩)
            | (go_at_call 10; refine HK.out.mono ?_; rintro e w1 ⟨rfl, hc1⟩
               have HR1 := Lib.hid (HRt.out.fresh hc1)
               have HC1 := Lib.hid hc1
               have c2 : w1.cell? ⟨r, 2, none⟩ = some (.int .i64 (S.staged : Int)) := cell_of_block HR1.out.head rfl
               have c4 : w1.cell? ⟨r, 4, none⟩ = some (.slice od S.done.length cd) := cell_of_block HR1.out.head rfl
               clear hc1)
            | (go_at_call 50; refine (has_is _ (SlAt.of_own HR1.out.done : NumsAt _ _ S.done) (by have := HR1.out.few.2.2; omega) t).mono ?_; rw [HDec.out]; rintro e w' ⟨rfl, rfl⟩))
          go_ret
          exact ⟨rfl, HC1.out⟩
        · rw [if_neg hs] at hz
          have hsb : ((S.staged : Int) == t) = false := by simpa using hs
          by_cases h0 : S.staged = 0
          · rw [if_neg (by simpa using h0)] at hz
            cases hz
          · rw [if_pos h0] at hz
            cases hz
            have h0b : ((S.staged : Int) != 0) = true := by simpa using h0
            go_enter Tryz.func19, Tryz.ntmps19
            go_wp2_with (first
              | (go_at_call 49; refine HA.out.mono ?_; rintro e w' ⟨rfl, rfl⟩)
              | (go_at_call 10; refine HK.out.mono ?_; rintro e w1 ⟨rfl, hc1⟩
                 have HR1 := Lib.hid (HRt.out.fresh hc1)
                 have HC1 := Lib.hid hc1
                 have c2 : w1.cell? ⟨r, 2, none⟩ = some (.int .i64 (S.staged : Int)) := cell_of_block HR1.out.head rfl
                 have c4 : w1.cell? ⟨r, 4, none⟩ = some (.slice od S.done.length cd) := cell_of_block HR1.out.head rfl
                 clear hc1)
              | (go_at_call 50; refine (has_is _ (SlAt.of_own HR1.out.done : NumsAt _ _ S.done) (by have := HR1.out.few.2.2; omega) t).mono ?_; rw [HDec.out]; rintro e w' ⟨rfl, rfl⟩))
            go_ret
            exact ⟨rfl, HC1.out⟩
    · rw [if_pos r0] at hz
      have a1 : ((R : Int) != 0) = true := by simpa using r0
      have a2 : ¬ (R : Int) = 0 := by omega
      cases hz
      have HDec := Lib.hid (show (true : Bool) = true from rfl)
      go_enter Tryz.func19, Tryz.ntmps19
      go_wp2_with (first
        | (go_at_call 49; refine HA.out.mono ?_; rintro e w' ⟨rfl, rfl⟩)
        | (go_at_call 10; refine HK.out.mono ?_; rintro e w1 ⟨rfl, hc1⟩
           have HR1 := Lib.hid (HRt.out.fresh hc1)
           have HC1 := Lib.hid hc1
           have c2 : w1.cell? ⟨r, 2, none⟩ = some (.int .i64 (S.staged : Int)) := cell_of_block HR1.out.head rfl
           have c4 : w1.cell? ⟨r, 4, none⟩ = some (.slice od S.done.length cd) := cell_of_block HR1.out.head rfl
           clear hc1)
        | (go_at_call 50; refine (has_is _ (SlAt.of_own HR1.out.done : NumsAt _ _ S.done) (by have := HR1.out.few.2.2; omega) t).mono ?_; rw [HDec.out]; rintro e w' ⟨rfl, rfl⟩))
      go_ret
      exact ⟨rfl, HC1.out⟩
  · rw [if_pos a0] at hz
    have a1 : ((A : Int) != 0) = true := by simpa using a0
    have a2 : ¬ (A : Int) = 0 := by omega
    cases hz
    have HDec := Lib.hid (show (true : Bool) = true from rfl)
    go_enter Tryz.func19, Tryz.ntmps19
    go_wp2_with (first
      | (go_at_call 49; refine HA.out.mono ?_; rintro e w' ⟨rfl, rfl⟩)
      | (go_at_call 10; refine HK.out.mono ?_; rintro e w1 ⟨rfl, hc1⟩
         have HR1 := Lib.hid (HRt.out.fresh hc1)
         have HC1 := Lib.hid hc1
         have c2 : w1.cell? ⟨r, 2, none⟩ = some (.int .i64 (S.staged : Int)) := cell_of_block HR1.out.head rfl
         have c4 : w1.cell? ⟨r, 4, none⟩ = some (.slice od S.done.length cd) := cell_of_block HR1.out.head rfl
         clear hc1)
      | (go_at_call 50; refine (has_is _ (SlAt.of_own HR1.out.done : NumsAt _ _ S.done) (by have := HR1.out.few.2.2; omega) t).mono ?_; rw [HDec.out]; rintro e w' ⟨rfl, rfl⟩))
    go_ret
    exact ⟨rfl, Chg.refl _ _⟩

end Go.Proofs.YtbjagmlbamjdbaaGreat.roots
end

section
namespace Go.Proofs.YtbjagmlbamjdbaaGreat.kvs
open Go.RowKit Go.Maps Go.My Go.ChangeMaps disks bufs wals
set_option maxRecDepth 100000

variable {w w' : World} {P : Nat → Prop} {b l q d s a : Nat} {X X' : DV} {V V' : LV} {m m' mm : List KV} {recs : List Txt}

theorem allB_two : ∀ (l : List PV), (∀ p ∈ l, p.may = true) → 2 * l.length ≤ (allB l).length
  | [], _ => Nat.zero_le _
  | p :: l, h => by
    have h1 := (bytes_length p (h p (by simp))).1
    have h2 := allB_two l (fun q hq => h q (by simp [hq]))
    have e : allB (p :: l) = p.bytes ++ allB l := by simp [allB]
    rw [e, List.length_append, List.length_cons]
    omega

theorem Rep.len2 (h : Rep recs m) : 2 * m.length ≤ sizeB recs := by
  obtain ⟨bs, h1, h2, h3⟩ := h.bs
  have hp := perm_of_get (applyF_nodup nodup_nil bs.flatten) h.nd h3
  have h4 := applyF_len bs.flatten []
  rw [hp.length_eq] at h4
  have h5 : ∀ bs : List (List PV), (∀ b ∈ bs, Fits b) → 2 * bs.flatten.length ≤ sizeB (bs.map (fun b => (encF b).1)) := by
    intro bs
    induction bs with
    | nil => intro _; exact Nat.zero_le _
    | cons b bs ih =>
      intro h2
      have hb := h2 b (by simp)
      have e2 := allB_two b hb.may
      have e3 := ih (fun c hc => h2 c (by simp [hc]))
      have e4 : sizeB ((b :: bs).map (fun b => (encF b).1)) = ((encF b).1.length + 8) + sizeB (bs.map (fun b => (encF b).1)) := by simp [sizeB]
      have e5 : (encF b).1.length = 1 + (allB b).length := by rw [hb.enc.1]; exact hb.enc.2
      rw [e4, e5, List.flatten_cons, List.length_append]
      omega
  have h6 := h5 bs h2
  rw [h1]
  simp only [List.length_nil] at h4
  omega
theorem Stands.small {X : DV} (h : Stands X recs s a) : sizeB recs ≤ 131008 := by
  have h1 := h.fits
  rw [framesB_length] at h1
  have := areaN_le h.idle.le
  omega
theorem Rep.few (h : Rep recs m) (hs : Stands X recs s a) : m.length ≤ 65504 := by have := h.len2; have := Stands.small hs; omega

inductive Out (X : DV) (recs : List Txt) (s a : Nat) (m mm : List KV) (why : Int → Prop) : Int → DV → LV → List KV → Prop
  | done {X' : DV} {recs' : List Txt} {s' a' : Nat} (h1 : s ≤ s') (h2 : s' ≤ s + 1) (h3 : Stands X' recs' s' a') (h4 : Rep recs' mm) (h5 : Goes X X') (h6 : X'.B.length = X.B.length) : Out X recs s a m mm why 0 X' (lvW recs' s' a' []) mm
  | refused {z : Int} (h1 : why z) (h2 : z = 2 ∨ z = 3 ∨ z = 7) : Out X recs s a m mm why z X (lvW recs s a []) m
  | cut {X' : DV} {V' : LV} (h1 : X.fuse ≠ -1) (h2 : X'.down = true) (h3 : Goes X X') (h4 : X'.B.length = X.B.length) (h5 : ∀ j, (X'.L j).length ≤ 1) (h6 : V'.lost = true) (h7 : V'.Ok X'.B.length)
      (h8 : ∀ keep, ∃ recs' s' a', s ≤ s' ∧ s' ≤ s + 1 ∧ Stands (X'.crash keep) recs' s' a' ∧ (Rep recs' m ∨ Rep recs' mm)) : Out X recs s a m mm why 15 X' V' m

theorem Out.free {why : Int → Prop} {z : Int} (h : Out X recs s a m mm why z X' V' m') (hf : X.fuse = -1) (hs : Stands X recs s a) (hr : Rep recs m) :
    ∃ recs' s' a', V' = lvW recs' s' a' [] ∧ s ≤ s' ∧ s' ≤ s + 1 ∧ Stands X' recs' s' a' ∧ Rep recs' m' ∧ X'.fuse = -1 ∧ X'.B.length = X.B.length ∧ ((z = 0 ∧ m' = mm) ∨ (why z ∧ (z = 2 ∨ z = 3 ∨ z = 7) ∧ m' = m)) := by
  cases h with
  | done h1 h2 h3 h4 h5 h6 => exact ⟨_, _, _, rfl, h1, h2, h3, h4, h5.free hf, h6, Or.inl ⟨rfl, rfl⟩⟩
  | refused h1 h2 => exact ⟨_, _, _, rfl, Nat.le_refl _, Nat.le_succ _, hs, hr, hf, rfl, Or.inr ⟨h1, h2, rfl⟩⟩
  | cut h1 => exact absurd hf h1

theorem lost_ok {n : Nat} {V : LV} (h : V.Ok n) : ({ V with lost := true } : LV).Ok n := ⟨h.ge, h.le, h.seq, h.area, h.fit, h.used, h.more, h.tail, h.short⟩

theorem reset_out {m1 : List KV} {k : Nat} (hs : Stands X recs s a) (h60 : s ≤ 1152921504606846976) {recs2 : List Txt} (hr2 : Rep recs2 mm) (hsh : ∀ r ∈ recs2, r.length ≤ 4096) {why : Int → Prop} (hw : 64 * areaN X.B.length < sizeB recs2 → why 7) (hr : Rep recs m) (hk : (resetF X (lvW recs s a []) recs2).1 = 0 → m1 = mm) (hk' : (resetF X (lvW recs s a []) recs2).1 ≠ 0 → m1 = m) (_ : k = 0) :
    Out X recs s a m mm why (resetF X (lvW recs s a []) recs2).1 (resetF X (lvW recs s a []) recs2).2.1 (resetF X (lvW recs s a []) recs2).2.2 m1 := by
  have hfit := hs.fits
  rcases reset_lv hs (recs2 := recs2) (wait := []) _ rfl with ⟨h1, -⟩ | ⟨-, ⟨r, h1, h2⟩, -⟩ | ⟨-, -, h0, h1⟩ | ⟨-, -, -, g, hl, h1⟩
  · exact absurd rfl h1
  · have := hsh r h1; omega
  · rw [h1] at hk' ⊢
    rw [hk' (show (7 : Int) ≠ 0 by decide)]
    exact Out.refused (hw h0) (by omega)
  · rcases h1 with ⟨e1, e2, e3⟩ | ⟨e1, e2, e3, e4, e5, e6⟩
    · rw [hk e1, e1, e3]
      exact Out.done (by omega) (Nat.le_refl _) e2 hr2 g hl
    · rw [hk' (by rw [e1]; decide), e1]
      refine Out.cut e2 e3 g hl e4 (by rw [e5]) (by rw [e5, hl]; exact lost_ok (lvW_ok hs h60 (by simp) (by show _ + 0 ≤ _; omega))) (fun keep => ?_)
      rcases e6 keep with h | h
      · exact ⟨_, _, _, Nat.le_refl _, Nat.le_succ _, h, Or.inl hr⟩
      · exact ⟨_, _, _, Nat.le_succ _, Nat.le_refl _, h, Or.inr hr2⟩

def DoWhy (X : DV) (m : List KV) (ps : List PV) (z : Int) : Prop := (z = (encF ps).2 ∧ (encF ps).2 ≠ 0) ∨ (z = 7 ∧ (encF ps).2 = 0 ∧ 64 * areaN X.B.length < sizeB (snapF (applyF (sortF m) ps)))

theorem encF_err (ps : List PV) : (encF ps).2 = 0 ∨ (encF ps).2 = 2 ∨ (encF ps).2 = 3 := by
  unfold encF
  split
  · exact Or.inr (Or.inl rfl)
  · split
    · exact Or.inr (Or.inr rfl)
    · split
      · exact Or.inr (Or.inr rfl)
      · exact Or.inl rfl

theorem do_lv (w : World) (h : KAt P w b l q d X (lvW recs s a []) m) (hs : Stands X recs s a) (h60 : s ≤ 1152921504606846976) (hr : Rep recs m) (hf : X.fuse ≤ 9223372036854775807) {B : Nat} {v : Value} {ps : List PV} (hp : Puts w B v ps) (hl : ps.length ≤ 1000000) (hv : Far P w q v) :
    Calls Tryz.prog 33 #[.pointer (some ⟨b, 0, none⟩), v] w fun e w' => ∃ z X' V' m', e = .returned (.int .i64 z) ∧ KPost P w w' b l q d X' V' m' ∧ Out X recs s a m (applyF m ps) (DoWhy X m ps) z X' V' m' := by
  have hfit := hs.fits
  have hok := lvW_ok hs h60 (wait := []) (by simp) (by show _ + 0 ≤ _; omega)
  have hL : ∀ j, (X.L j).length < 500000 := fun j => by rw [hs.idle.L]; simp
  have hm := hr.few hs
  have hnd : NoDup m := h.db.map.nodup
  by_cases he : (encF ps).2 = 0
  · obtain ⟨t, ht⟩ : ∃ t, encF ps = (t, 0) := ⟨(encF ps).1, by rw [← he]⟩
    have hft := Fits.of ht
    have htl := (encF_ok ht).2.2.2.2
    have hadd := add_lv (n := X.B.length) (recs := recs) (wait := []) (s := s) (a := a) t
    rw [if_neg (by omega)] at hadd
    by_cases hroom : roomF X.B.length (lvW recs s a []) < (t.length : Int) + 8
    · rw [if_pos hroom] at hadd
      refine (do_full w h hok hf hL hr.may (by omega) hp hl hv ht hadd).mono ?_
      rintro e w' ⟨rfl, hk⟩
      have hns : NoDup (sortF m) := (sortF_asc hnd).nodup
      have hna : NoDup (applyF (sortF m) ps) := applyF_nodup hns ps
      have hma : Mays (applyF (sortF m) ps) := mays_apply (hr.may.perm (sortF_perm m).symm) ps hft.may
      refine ⟨_, _, _, _, rfl, hk, reset_out hs h60 ((Rep.snap hna hma).same (applyF_nodup hnd ps) (applyF_get (sortF_get hnd) ps)) (snap_short hna hma) (fun h => Or.inr ⟨rfl, he, h⟩) hr (fun h => if_pos h) (fun h => if_neg h) rfl⟩
    · rw [if_neg hroom] at hadd
      have hfit2 : (framesB recs).length + sizeB ([] ++ [t]) ≤ 64 * areaN X.B.length := by
        have e1 : sizeB ([] ++ [t]) = t.length + 8 := by simp [sizeB]
        rw [e1]
        have e2 : roomF X.B.length (lvW recs s a []) = 64 * (areaN X.B.length : Int) - ((framesB recs).length : Nat) - (0 : Nat) := rfl
        rw [e2] at hroom
        omega
      refine (do_add w h hok hf hL hp hl hv ht hadd (lvW_ok hs h60 (by simpa using htl) hfit2)).mono ?_
      rintro e w' ⟨rfl, hk⟩
      have hpush := hr.push hft
      rw [ht] at hpush
      obtain ⟨g, hbl, hsy⟩ := sync_lv hs (by simpa using htl) hfit2 _ rfl
      refine ⟨_, _, _, _, rfl, hk, ?_⟩
      rcases hsy with ⟨e1, s', h1, h2, h3, h4⟩ | ⟨e1, h2, h3, h4, h5, h6⟩
      · rw [if_pos e1, e1, h4]
        exact Out.done h1 h2 h3 hpush g hbl
      · rw [if_neg (by rw [e1]; decide), e1]
        refine Out.cut h2 h3 g hbl h4 (by rw [h5]) (by rw [h5, hbl]; exact lost_ok (lvW_ok hs h60 (by simpa using htl) hfit2)) (fun keep => ?_)
        rcases h6 keep with h | h
        · exact ⟨_, _, _, Nat.le_refl _, Nat.le_succ _, h, Or.inl hr⟩
        · exact ⟨_, _, _, Nat.le_succ _, Nat.le_refl _, h, Or.inr hpush⟩
  · refine (do_refuse w h hp hl he).mono ?_
    rintro e w' ⟨rfl, hk⟩
    have := encF_err ps
    exact ⟨_, _, _, _, rfl, hk, Out.refused (Or.inl ⟨rfl, he⟩) (by omega)⟩

end Go.Proofs.YtbjagmlbamjdbaaGreat.kvs
end

section
namespace Go.Proofs.YtbjagmlbamjdbaaGreat.kvs
open Go.RowKit Go.Maps Go.My Go.ChangeMaps disks bufs wals
set_option maxRecDepth 100000

variable {w w' : World} {P : Nat → Prop} {b l q d s a : Nat} {X X' : DV} {V V' : LV} {m m' mm : List KV} {recs : List Txt}

theorem Rep.unique (h : Rep recs m) (h' : Rep recs m') : ∀ k, mget m k = mget m' k := by
  obtain ⟨bs, h1, h2, h3⟩ := h.bs
  obtain ⟨cs, k1, k2, k3⟩ := h'.bs
  have e : bs = cs := by
    rw [h1] at k1
    clear h h' h1 h3 k3
    induction bs generalizing cs with
    | nil => cases cs with
      | nil => rfl
      | cons c cs => simp at k1
    | cons b bs ih => cases cs with
      | nil => simp at k1
      | cons c cs =>
        rw [List.map_cons, List.map_cons, List.cons.injEq] at k1
        have e1 := dec_enc (h2 b (by simp)).enc.1
        have e2 := dec_enc (k2 c (by simp)).enc.1
        have e3 : varB b.length ++ allB b = varB c.length ++ allB c := by
          have h1 := (h2 b (by simp)).enc.1
          have h2 := (k2 c (by simp)).enc.1
          rw [h1, h2] at k1
          exact k1.1
        rw [e3, e2] at e1
        rw [Option.some.injEq] at e1
        rw [e1, ih (fun x hx => h2 x (by simp [hx])) cs k1.2 (fun x hx => k2 x (by simp [hx]))]
  subst e
  exact fun k => (h3 k).symm.trans (k3 k)

theorem Rep.reads (h : Rep recs m) : ∃ bs : List (List PV), recs.length = bs.length ∧ (∀ (i : Nat) r, recs[i]? = some r → ∃ b, bs[i]? = some b ∧ decF r = some b ∧ Fits b ∧ r.length ≤ 4096) ∧ NoDup (applyF [] bs.flatten) ∧ ∀ k, mget (applyF [] bs.flatten) k = mget m k := by
  obtain ⟨bs, h1, h2, h3⟩ := h.bs
  refine ⟨bs, by rw [h1, List.length_map], fun i r hr => ?_, applyF_nodup nodup_nil _, h3⟩
  rw [h1, List.getElem?_map] at hr
  cases hb : bs[i]? with
  | none => rw [hb] at hr; cases hr
  | some b =>
    rw [hb] at hr
    cases hr
    have hf := h2 b (List.mem_of_getElem? hb)
    refine ⟨b, rfl, ?_, hf, ?_⟩
    · show decF (encF b).1 = some b
      rw [hf.enc.1]
      exact dec_enc hf.enc.1
    · show (encF b).1.length ≤ 4096
      rw [hf.enc.1]
      have := hf.short
      have := hf.enc.2
      simp only
      omega

structure Opened (P : Nat → Prop) (w w' : World) (b d : Nat) (Q : DV → List Txt → Nat → Nat → Prop) : Prop where
  at' : ∃ l q m X recs s a P', KAt P' w' b l q d X (lvW recs s a []) m ∧ Rep recs m ∧ Q X recs s a ∧ (∀ k, P' k → P k ∨ w.heap.size ≤ k) ∧ w.heap.size ≤ q
  new : w.heap.size ≤ b
  chg : Chg P w w'

theorem flat_take {bs : List (List PV)} {k : Nat} {b : List PV} (h : bs[k]? = some b) : applyF (applyF [] (bs.take k).flatten) b = applyF [] (bs.take (k + 1)).flatten := by
  rw [List.take_add_one, h, Option.toList_some, List.flatten_append, applyF_append]
  simp

set_option maxHeartbeats 2000000 in
theorem open_kv (w : World) (hP : ∀ k, P k → k < w.heap.size) {Q : DV → List Txt → Nat → Nat → Prop}
    (ho : Calls Tryz.prog 58 #[.pointer (some ⟨d, 0, none⟩)] w fun e w' => ∃ l X' recs s a, e = .returned (.tuple #[.pointer (some ⟨l, 0, none⟩), .int .i64 0]) ∧ WAt P w w' l d X' (lvW recs s a []) ∧ Q X' recs s a)
    (hq : ∀ X' recs s a, Q X' recs s a → Stands X' recs s a ∧ ∃ m, Rep recs m) :
    Calls Tryz.prog 31 #[.pointer (some ⟨d, 0, none⟩)] w fun e w' => ∃ b, e = .returned (.tuple #[.pointer (some ⟨b, 0, none⟩), .int .i64 0]) ∧ Opened P w w' b d Q := by
  have HO := Lib.hid ho
  have HQ := Lib.hid hq
  have HPl := Lib.hid hP
  clear ho hq hP
  have hmm := @run_makeMap Tryz.prog
  go_enter Tryz.func31, Tryz.ntmps31
  go_wp2_with (first
    | (go_at_call 58; fail))
  refine HO.out.mono ?_
  rintro e w1 ⟨l, X', recs, s, a, rfl, hw1, hQ⟩
  obtain ⟨hst, m, hrep⟩ := HQ.out _ _ _ _ hQ
  have hsm : recs.length ≤ 131008 := by have := Stands.small hst; have := sizeB_ge recs; omega
  obtain ⟨bs, b1, b2, b3, b4⟩ := hrep.reads
  obtain ⟨w2, hw2⟩ : ∃ w2, (w1.alloc (.map #[] 0)).alloc (.cells #[.pointer (some ⟨l, 0, none⟩), .map (some w1.heap.size)] 118) = w2 := ⟨_, rfl⟩
  have hc2 : Chg (fun _ => False) w1 w2 := by rw [← hw2]; exact ((Chg.refl _ _).alloc _).alloc _
  have hsz2 : w2.heap.size = w1.heap.size + 1 + 1 := by rw [← hw2, World.size_alloc, World.size_alloc]
  have hdb : DbIs w2 (w1.heap.size + 1) l w1.heap.size [] := by
    have e1 : (w1.alloc (.map #[] 0)).heap.size = w1.heap.size + 1 := World.size_alloc _ _
    refine ⟨?_, ?_⟩
    · rw [← hw2, ← e1]
      exact block_alloc_new _ _
    · rw [← hw2]
      exact (MapIs.made sKey strV (block_alloc_new _ _) : MapAt (w1.alloc (.map #[] 0)) w1.heap.size []).kept ((Chg.refl (fun _ => False) _).alloc _) id
  have hk2 : KAt (NowP P w w1) w2 (w1.heap.size + 1) l w1.heap.size d X' (lvW recs s a []) [] :=
    ⟨wat_again hw1.now hc2, hdb, fun h => by have := h.2; omega, fun h => by have := h.2; omega, fun k hk => by have := hk.2; omega⟩
  have hcw : Chg P w w2 := hw1.chg.trans' (hc2.mono (fun _ _ e => e.elim))
  have HK2 := Lib.hid hk2
  have HCw := Lib.hid hcw
  have HSz := Lib.hid (And.intro hsz2 hw1.chg.size)
  have HW2 := Lib.hid hw2
  have HRp := Lib.hid (And.intro hrep hQ)
  have HB := Lib.hid (And.intro b1 (And.intro b2 (And.intro b3 b4)))
  have HSm := Lib.hid hsm
  have HRec := Lib.hid (show Calls Tryz.prog 59 #[.pointer (some ⟨l, 0, none⟩)] w2 fun e w' => ∃ v, e = .returned v ∧ w'.ownsRow w2.heap.size 9 1 v recs.length (recs.map strV) ∧ Chg (fun _ => False) w2 w' from wat_records hk2.log hsm)
  clear hw1 hQ hst hrep hsm b1 b2 b3 b4 hc2 hdb hk2 hcw hsz2 hw2 HO
  dsimp only
  go_wp2_with (first
    | (go_at_call 59; fail))
  rw [HW2.out]
  refine HRec.out.mono ?_
  rintro e w3 ⟨v3, rfl, ho3, hc3⟩
  obtain ⟨oa3, cap3, rfl⟩ := own_slice ho3
  obtain ⟨b, hb⟩ : ∃ b, w1.heap.size + 1 = b := ⟨_, rfl⟩
  obtain ⟨q, hq⟩ : ∃ q, w1.heap.size = q := ⟨_, rfl⟩
  have hk3 := HK2.out.fresh hc3
  rw [hb, hq] at hk3
  have HK3 := Lib.hid hk3
  have HO3 := Lib.hid ho3
  have HC3 := Lib.hid hc3
  have HQ2 := Lib.hid (show q < w2.heap.size by rw [← hq]; have := HSz.out.1; omega)
  have HBq := Lib.hid (show w.heap.size ≤ b ∧ w.heap.size ≤ q ∧ w.heap.size ≤ w3.heap.size by rw [← hq, ← hb]; have := HSz.out.1; have := HSz.out.2; have := hc3.size; exact ⟨by omega, by omega, by omega⟩)
  have hsmi : (recs.length : Int) ≤ 131008 := by have := HSm.out; omega
  rw [hb, hq]
  clear hc3 ho3 hk3 HRec HK2 HW2 hb hq HSz
  dsimp only
  go_wp2_with fail
  go_loopw [26] (fun j wr => ∃ k : Nat, j = .int .i64 k ∧ k ≤ recs.length ∧ KAt (NowP P w w1) wr b l q d X' (lvW recs s a []) (applyF [] (bs.take k).flatten) ∧ Chg (· = q) w3 wr) (fun j _ => recs.length - (intOf j).toNat)
  · exact ⟨0, rfl, Nat.zero_le _, HK3.out, Chg.refl _ _⟩
  obtain ⟨k, rfl, hk, hkat, hc⟩ := hrel
  have HKr := Lib.hid hkat
  have HCr := Lib.hid hc
  clear hkat hc
  by_cases hlt : k < recs.length
  · have hki : (k : Int) < (recs.length : Int) := by omega
    obtain ⟨r, hr⟩ : ∃ r, recs[k]? = some r := ⟨recs[k], List.getElem?_eq_getElem hlt⟩
    obtain ⟨bt, hb1, hb2, hb3, hb4⟩ := HB.out.2.1 k r hr
    obtain ⟨g, rfl, hg1, hg2, hcell⟩ := row_cell HO3.out hr
    have d0 := hcell (· = q) wr HCr.out (fun e => by have := HQ2.out; have e : g = q := e; omega)
    have hdec := decode_any wr r (by omega)
    rw [hb2] at hdec
    obtain ⟨sr, hsr⟩ : ∃ s : ByteArray, strV r = .string s := ⟨_, rfl⟩
    rw [hsr] at d0 hdec
    have HDec := Lib.hid hdec
    have HBt := Lib.hid (And.intro hb1 hb3)
    clear hdec hsr hb1 hb2 hb3 hb4 hcell hr hg1 hg2
    go_wp2_with (first
      | (go_at_call 60; refine HDec.out.mono ?_; rintro e w4 ⟨v4, er, rfl, ⟨hp4, rfl⟩, hc4⟩
         have hk4 := HKr.out.fresh hc4
         have c1 := cell_of_block (i := 1) hk4.db.head rfl
         have HK4 := Lib.hid hk4
         have HP4 := Lib.hid hp4
         have HC4 := Lib.hid hc4
         clear hk4 hp4 hc4)
      | (go_at_call 61; refine (apply_any _ HK4.out.db.map HP4.out (fun p hp => by have := (may_key (HBt.out.2.may p hp)).2.1; unfold maxLen; omega) (by have := HBt.out.2.few; omega)).mono ?_; rintro e w5 ⟨rfl, hm5, hc5⟩
         have HM5 := Lib.hid hm5
         have HC5 := Lib.hid hc5
         clear hm5 hc5))
    refine ⟨⟨k + 1, by go_num, hlt, ?_, (HCr.out.trans' (HC4.out.mono (fun _ _ e => e.elim))).trans' HC5.out⟩, by simp [intOf]; omega⟩
    have := HM5.out
    rw [flat_take HBt.out.1] at this
    exact HK4.out.put HC5.out this
  · have hki : ¬ (k : Int) < (recs.length : Int) := by omega
    obtain rfl : k = recs.length := by omega
    have hkr := HKr.out
    rw [List.take_of_length_le (Nat.le_of_eq HB.out.1.symm)] at hkr
    have HKe := Lib.hid hkr
    clear hkr
    go_wp2_with fail
    go_ret2
    refine ⟨_, rfl, ⟨l, q, _, X', recs, s, a, _, HKe.out, HRp.out.1.same HB.out.2.2.1 (fun k => (HB.out.2.2.2 k).symm), HRp.out.2, fun k hk => hk.1, ?_⟩, ?_, ?_⟩
    · exact HBq.out.2.1
    · exact HBq.out.1
    · refine (HCw.out.trans' (HC3.out.mono (fun _ _ e => e.elim))).trans HCr.out (fun i hi e => ?_)
      have := HBq.out.2.1
      have e : i = q := e
      omega

end Go.Proofs.YtbjagmlbamjdbaaGreat.kvs
end

section
namespace Go.Proofs.YtbjagmlbamjdbaaGreat.kvs
open Go.RowKit Go.Maps Go.My Go.ChangeMaps disks bufs wals
set_option maxRecDepth 100000

variable {W w w' : World} {P : Nat → Prop} {b l q d s a : Nat} {X X' : DV} {V V' : LV} {m m' mm : List KV} {recs : List Txt}

structure KS (P : Nat → Prop) (W w : World) (b l q d : Nat) (X : DV) (V : LV) (m : List KV) : Prop where
  at' : KAt P w b l q d X V m
  new : ∀ k, P k → W.heap.size ≤ k
  nb : W.heap.size ≤ b
  nq : W.heap.size ≤ q
  chg : Chg (fun _ => False) W w
def Beside (P : Nat → Prop) (q : Nat) (w : World) (g : Nat) : Prop := ¬ P g ∧ g ≠ q ∧ g < w.heap.size

theorem Beside.fresh {g : Nat} (h : Beside P q w g) (hc : Chg (fun _ => False) w w') : Beside P q w' g := ⟨h.1, h.2.1, Nat.lt_of_lt_of_le h.2.2 hc.size⟩
theorem KS.fresh (h : KS P W w b l q d X V m) (hc : Chg (fun _ => False) w w') : KS P W w' b l q d X V m := ⟨h.at'.fresh hc, h.new, h.nb, h.nq, h.chg.trans' hc⟩
theorem KS.made (h : KS P W w b l q d X V m) {g : Nat} (hg : w.heap.size ≤ g) (hw : g < w'.heap.size) : Beside P q w' g := ⟨fun hp => by have := h.at'.lt g hp; omega, fun e => by have := h.at'.db.ltq; omega, hw⟩
theorem KS.old (h : KS P W w b l q d X V m) {g : Nat} (hg : g < W.heap.size) : Beside P q w g := ⟨fun hp => by have := h.new g hp; omega, fun e => by have := h.nq; omega, Nat.lt_of_lt_of_le hg h.chg.size⟩

structure KNext (P : Nat → Prop) (W w w' : World) (b l q d : Nat) (X : DV) (V : LV) (m : List KV) (P' : Nat → Prop) : Prop where
  ks : KS P' W w' b l q d X V m
  off : ∀ g, Beside P q w g → Beside P' q w' g
  chg : Chg (fun k => P k ∨ k = q) w w'
theorem KS.post (h : KS P W w b l q d X V m) (k : KPost P w w' b l q d X' V' m') : ∃ P', KNext P W w w' b l q d X' V' m' P' := by
  obtain ⟨⟨P', h1, h2⟩, h3⟩ := k
  refine ⟨P', ⟨h1, fun j hj => (h2 j hj).elim (h.new j) (fun e => Nat.le_trans h.chg.size e), h.nb, h.nq, h.chg.new h3 (fun j hj => hj.elim (h.new j) (fun e => by rw [e]; exact h.nq))⟩, fun g hg => ⟨fun hp => (h2 g hp).elim hg.1 (fun e => by have := hg.2.2; omega), hg.2.1, Nat.lt_of_lt_of_le hg.2.2 h3.size⟩, h3⟩
theorem KNext.keep {P' : Nat → Prop} (h : KNext P W w w' b l q d X V m P') {g2 : Nat} {m2 : List KV} (hb : Beside P q w g2) (hm : MapAt w g2 m2) : MapAt w' g2 m2 := hm.kept h.chg (fun e => e.elim hb.1 hb.2.1)
theorem KNext.puts {P' : Nat → Prop} (h : KNext P W w w' b l q d X V m P') {B : Nat} {v : Value} {ps : List PV} (hb : ∀ g, v.ownBlock = some g → Beside P q w g) (hp : Puts w B v ps) : Puts w' B v ps := hp.kept h.chg (fun g hg e => e.elim (hb g hg).1 (hb g hg).2.1)

theorem ks_do (w : World) (h : KS P W w b l q d X (lvW recs s a []) m) (hs : Stands X recs s a) (h60 : s ≤ 1152921504606846976) (hr : Rep recs m) (hf : X.fuse ≤ 9223372036854775807) {B : Nat} {v : Value} {ps : List PV} (hp : Puts w B v ps) (hl : ps.length ≤ 1000000) (hv : ∀ g, v.ownBlock = some g → Beside P q w g) :
    Calls Tryz.prog 33 #[.pointer (some ⟨b, 0, none⟩), v] w fun e w' => ∃ z, e = .returned (.int .i64 z) ∧ ∃ X' V' m' P', KNext P W w w' b l q d X' V' m' P' ∧ Out X recs s a m (applyF m ps) (DoWhy X m ps) z X' V' m' := by
  refine (do_lv w h.at' hs h60 hr hf hp hl (fun g hg => ⟨(hv g hg).1, (hv g hg).2.1⟩)).mono ?_
  rintro e w' ⟨z, X', V', m', rfl, hk, ho⟩
  obtain ⟨P', hn⟩ := h.post hk
  exact ⟨z, rfl, X', V', m', P', hn, ho⟩
structure DS (P : Nat → Prop) (W w : World) (d : Nat) (X : DV) : Prop where
  at' : DAt P w w d X
  new : ∀ k, P k → W.heap.size ≤ k
  lt : ∀ k, P k → k < w.heap.size
  chg : Chg (fun _ => False) W w
theorem KS.disk (h : KS P W w b l q d X V m) : DS P W w d X := ⟨h.at'.log.disk, h.new, h.at'.lt, h.chg⟩
theorem DS.fresh (h : DS P W w d X) (hc : Chg (fun _ => False) w w') : DS P W w' d X := by
  refine ⟨?_, h.new, fun k hk => Nat.lt_of_lt_of_le (h.lt k hk) hc.size, h.chg.trans' hc⟩
  obtain ⟨⟨Fd, h1, h2⟩, -⟩ := h.at'
  exact ⟨⟨Fd, h1.fresh hc, fun k hk => (h2 k hk).elim Or.inl (fun h' => by have := h1.lt k hk; omega)⟩, Chg.refl _ _⟩
theorem ds_new (W : World) (w : World) (hc : Chg (fun _ => False) W w) (n : Nat) (h1 : 1 ≤ n) (hn : n ≤ 4096) : Calls Tryz.prog 25 #[.int .i64 (n : Int)] w fun e w' => ∃ d, e = .returned (.tuple #[.pointer (some ⟨d, 0, none⟩), .int .i64 0]) ∧ ∃ P, DS P W w' d (DV.new n) := by
  refine (dat_new w n h1 hn).mono ?_
  rintro e w' ⟨d, rfl, hd⟩
  refine ⟨d, rfl, NowP (fun _ => False) w w', hd.rest (Chg.refl _ _), fun k hk => hk.1.elim (fun h => h.elim) (fun e => Nat.le_trans hc.size e), fun k hk => hk.2, hc.trans' hd.chg⟩

structure KOpen (P : Nat → Prop) (W w w' : World) (b l q d : Nat) (X : DV) (recs : List Txt) (s a : Nat) (m : List KV) (P' : Nat → Prop) : Prop where
  ks : KS P' W w' b l q d X (lvW recs s a []) m
  rep : Rep recs m
  off : ∀ g, g < w.heap.size → ¬ P g → Beside P' q w' g
  chg : Chg P w w'
theorem Opened.ks {Q : DV → List Txt → Nat → Nat → Prop} (h : Opened P w w' b d Q) (hd : DS P W w d X) : ∃ l q m X' recs s a P', KOpen P W w w' b l q d X' recs s a m P' ∧ Q X' recs s a := by
  obtain ⟨l, q, m, X', recs, s, a, P', k1, k2, k3, k4, k5⟩ := h.at'
  refine ⟨l, q, m, X', recs, s, a, P', ⟨⟨k1, fun k hk => (k4 k hk).elim (hd.new k) (fun e => Nat.le_trans hd.chg.size e), Nat.le_trans hd.chg.size h.new, Nat.le_trans hd.chg.size k5, hd.chg.new h.chg hd.new⟩, k2, fun g hg hp => ⟨fun hp' => (k4 g hp').elim hp (fun e => by omega), fun e => by omega, Nat.lt_of_lt_of_le hg h.chg.size⟩, h.chg⟩, k3⟩

theorem ks_open_new (w : World) (hd : DS P W w d X) (hb : Blank X) (hf : X.fuse = -1) :
    Calls Tryz.prog 31 #[.pointer (some ⟨d, 0, none⟩)] w fun e w' => ∃ b, e = .returned (.tuple #[.pointer (some ⟨b, 0, none⟩), .int .i64 0]) ∧ ∃ l q m X' recs s a P', KOpen P W w w' b l q d X' recs s a m P' ∧ (recs = [] ∧ s = 1 ∧ Stands X' recs s a ∧ X'.fuse = -1 ∧ X'.B.length = X.B.length) := by
  refine (open_kv w hd.lt (Q := fun X' recs s a => recs = [] ∧ s = 1 ∧ Stands X' recs s a ∧ X'.fuse = -1 ∧ X'.B.length = X.B.length) ((wat_open_new hd.at' hb hf).mono ?_) ?_).mono ?_
  · rintro e w' ⟨l, X', rfl, h1, h2, h3, h4⟩
    exact ⟨l, X', [], 1, 0, rfl, h1, rfl, rfl, h2, h3, h4⟩
  · rintro X' recs s a ⟨rfl, rfl, h, -, -⟩
    exact ⟨h, [], Rep.nil⟩
  · rintro e w' ⟨b, rfl, h⟩
    exact ⟨b, rfl, h.ks hd⟩
theorem ks_open (w : World) (hd : DS P W w d X) (hs : Stands X recs s a) (h60 : s ≤ 1152921504606846976) (hf : X.fuse ≤ 9223372036854775807) (hr : Rep recs mm) :
    Calls Tryz.prog 31 #[.pointer (some ⟨d, 0, none⟩)] w fun e w' => ∃ b, e = .returned (.tuple #[.pointer (some ⟨b, 0, none⟩), .int .i64 0]) ∧ ∃ l q m P', KOpen P W w w' b l q d X recs s a m P' ∧ ∀ k, mget m k = mget mm k := by
  refine (open_kv w hd.lt (Q := fun X' recs' s' a' => X' = X ∧ recs' = recs ∧ s' = s ∧ a' = a) ((wat_open hd.at' hs h60 hf).mono ?_) ?_).mono ?_
  · rintro e w' ⟨l, rfl, h1⟩
    exact ⟨l, X, recs, s, a, rfl, h1, rfl, rfl, rfl, rfl⟩
  · rintro X' recs' s' a' ⟨rfl, rfl, rfl, rfl⟩
    exact ⟨hs, mm, hr⟩
  · rintro e w' ⟨b, rfl, h⟩
    obtain ⟨l, q, m, X', recs', s', a', P', k1, rfl, rfl, rfl, rfl⟩ := h.ks hd
    exact ⟨b, rfl, l, q, m, P', k1, k1.rep.unique hr⟩

theorem puts_block {g : Nat} {ps : List PV} {rows : List Value} (hb : w.heap[g]? = some (.cells rows.toArray 103 (0, 0))) (hr : rows = (ps.map PV.row).flatten) (hl : ps.length ≤ 1000) : Puts w g (.slice (some ⟨g, 0, none⟩) ps.length ps.length) ps := by
  subst hr
  have h3 : ∀ r ∈ ps.map PV.row, r.length = 3 := fun r hr => by obtain ⟨p, -, rfl⟩ := List.mem_map.1 hr; rfl
  have h4 : (ps.map PV.row).flatten.length = ps.length * 3 := by rw [flat_length 3 _ h3, List.length_map]
  refine ⟨?_, h3⟩
  rw [List.length_map]
  exact ⟨h4, .inr ⟨g, ps.length, _, rfl, Nat.le_refl _, hb, Nat.le_refl _, by unfold maxLen; omega, by simpa using h4, by rw [List.take_of_length_le (by simpa using Nat.le_of_eq h4)]⟩⟩

end Go.Proofs.YtbjagmlbamjdbaaGreat.kvs
end

/- . -/
import Derived.Test.YtbjagmlbamjdbaaGreatPx0RootOnce
import Derived.Test.YtbjagmlbamjdbaaGreatPx3RootOnce

set_option linter.unusedSimpArgs false
set_option linter.unusedVariables false
section
namespace Go.Proofs.YtbjagmlbamjdbaaGreat.wals
open Go.RowKit Go.My disks bufs
set_option maxRecDepth 100000

theorem size_wblock : (Tryz.prog.info? 178).map (·.size) = some 64 := by kernel_rfl

set_option maxHeartbeats 2000000 in
theorem bytes_any (w : World) (s a u : Nat) (hs : s < 9223372036854775808) (ha : a < 256) (hu : u < 4294967296) :
    Calls Tryz.prog 152 #[.agg #[.int .i64 s, .int .i64 a, .int .i64 u]] w fun e w' => e = .returned (.agg (cellsB (headB s a u)).toArray) ∧ Chg (fun _ => False) w w' := by
  have HF1 := fun w' => Lib.hid (fixed_any w' 8 s (Or.inr rfl) (by have : (256 : Nat) ^ 8 = 18446744073709551616 := rfl; omega))
  have HF2 := fun w' => Lib.hid (fixed_any w' 4 u (Or.inl rfl) (by have : (256 : Nat) ^ 4 = 4294967296 := rfl; omega))
  have hs' : (s : Int) % 18446744073709551616 = (s : Int) := by omega
  have hu' : (u : Int) % 18446744073709551616 = (u : Int) := by omega
  have ha' : (a : Int) % 256 = (a : Int) := by omega
  have HAa := Lib.hid ha
  clear hs ha hu
  go_enter Tryz.func152, Tryz.ntmps152
  go_wp2_with (first
    | (go_at_call 92; fail))
  refine (HF1 _).out.mono ?_
  rintro e w1 ⟨s1, rfl, ho1, hc1⟩
  have HA := Lib.hid (show Arr w1 w.heap.size 175 [.int .i64 s, .int .i64 a, .int .i64 u] from hc1.at at3_0 id)
  obtain ⟨zs, hzs, hB⟩ : ∃ zs : List Value, zs.length = 64 ∧ Arr w1 (w.heap.size + 1) 178 zs := ⟨_, rfl, hc1.at at3_1 id⟩
  have hC := hc1.at at3_2 id
  have hO : w1.ownsRow (w.heap.size + 1 + 1) 5 1 (.slice (some ⟨w.heap.size + 1 + 1, 0, none⟩) 4 4) 4 (cellsB [86, 72, UInt8.ofNat a, 0]) := by
    have h1 := own_of_block (n := 4) hC (Nat.le_refl _) rfl (by unfold maxLen; omega)
    have h2 : cellsB [86, 72, UInt8.ofNat a, 0] = [.int .u8 86, .int .u8 72, .int .u8 (a : Int), .int .u8 0] := by
      simp only [cellsB, List.map_cons, List.map_nil, ofNat_toNat, ha']
      rfl
    rw [h2]; exact h1
  have HO := Lib.hid hO
  have HB := Lib.hid hB
  have HZ := Lib.hid hzs
  have HC1 := Lib.hid (show Chg (fun _ => False) w w1 from chg3.trans' hc1)
  have HO1 := Lib.hid (own_lower ho1 (Nat.zero_le _))
  have HSz := Lib.hid (show w.heap.size + 1 + 1 < w1.heap.size from lt_of_block hC)
  clear hC hO hB hzs ho1 hc1 HF1
  dsimp only
  have a2 := HA.out.cell (i := 2) rfl
  go_wp2_with (first
    | (go_at_call 92; fail))
  refine (HF2 _).out.mono ?_
  rintro e w2 ⟨s2, rfl, ho2, hc2⟩
  clear a2 HF2
  obtain ⟨oa1, cap1, rfl⟩ := own_slice HO1.out
  obtain ⟨oa2, cap2, rfl⟩ := own_slice ho2
  have hsz := HSz.out
  have hsz2 := hc2.size
  -- the first append
  obtain ⟨v3, w3, hr3, ho3, hg3, hv3⟩ := append_bytes (own_kept HO.out hc2) (SlAt.of_own (own_kept HO1.out hc2)) (by omega) (by rw [be_length]; simp) 101
  have hs2 : SlAt w3 (.slice oa2 4 cap2) (cellsB (be 4 u)) := slat_but (SlAt.of_own ho2) (Chg.of_grown hg3) (fun g hg e => by
    have h1 := (ho2.lt g hg).1
    simp only [Value.ownBlock, Option.some.injEq] at e
    omega)
  have hsz3 := hg3.size
  -- the second one
  obtain ⟨v4, w4, hr4, ho4, hg4, -⟩ := append_bytes ho3 hs2 (by omega) (by simp [be_length]) 101
  have hsz4 := hg4.size
  obtain ⟨v5, w5, hr5, ho5, hg5⟩ := zeros_step (k := 44) ho4 (by simp) (by omega) (by omega) (by simp [be_length]) 101
  rw [show ([86, 72, UInt8.ofNat a, 0] ++ be 8 s ++ be 4 u) ++ List.replicate 44 0 = headPre s a u from rfl] at ho5
  have hl4 : ([86, 72, UInt8.ofNat a, 0] ++ be 8 s ++ be 4 u).length = 16 := by simp [be_length]
  have h35 : Chg (fun k => w.heap.size + 1 + 1 ≤ k) w2 w5 := ((grown_chg hg3 (fun g hg => by simp only [Value.ownBlock, Option.some.injEq] at hg; omega)).trans' (grown_chg hg4 (fun g hg => (ho3.lt g hg).1))).trans' hg5
  have HA5 := Lib.hid (h35.at (hc2.at HA.out id) (by omega))
  have HB5 := Lib.hid (show Arr w5 (w.heap.size + 1) 178 zs from h35.at (hc2.at HB.out id) (by omega))
  have HC5 := Lib.hid (show Chg (fun _ => False) w w5 from (HC1.out.trans' hc2).new h35 (fun i hi => by omega))
  have HSz5 := Lib.hid (show w.heap.size + 1 + 1 < w5.heap.size from by have := h35.size; omega)
  obtain ⟨oa4, cap4, e4⟩ := own_slice ho4
  rw [hl4] at e4
  subst e4
  obtain ⟨g5, cap5, e5, hg5b, -⟩ := own_nonnil ho5 (by simp [headPre])
  rw [headPre_length] at e5 ho5
  subst e5
  have HR3 := Lib.hid hr3
  have HR4 := Lib.hid hr4
  have HR5 := Lib.hid (show (Builtin.append_ #[101, 3] 101 #[.slice oa4 16 cap4, .int .i64 44]).run Tryz.prog w4 = _ from hr5)
  have HO5 := Lib.hid ho5
  obtain ⟨c, hc⟩ : ∃ c, crcF (headPre s a u) = c := ⟨_, rfl⟩
  have hc32 : c < 4294967296 := by rw [← hc]; exact crcF_lt _
  have hsum := sum_any w5 _ _ _ (headPre s a u) (SlAt.of_own ho5) (by rw [headPre_length]; omega)
  rw [hc] at hsum
  have HSum := Lib.hid hsum
  have hhead : headB s a u = headPre s a u ++ le4 c := by unfold headB; rw [hc]
  have HHead := Lib.hid hhead
  -- the sum's four bytes, in a block of their own
  have e4 : cellsB (le4 c) = [.int .u8 ((c : Int) % 256), .int .u8 ((c : Int) / 256 % 256), .int .u8 ((c : Int) / 65536 % 256), .int .u8 ((c : Int) / 16777216 % 256)] := by
    simp only [le4, cellsB, List.map_cons, List.map_nil, ofNat_toNat, Int.natCast_ediv]
    rfl
  have h6 : Chg (fun _ => False) w5 (w5.alloc (.cells #[.int .u8 ((c : Int) % 256), .int .u8 ((c : Int) / 256 % 256), .int .u8 ((c : Int) / 65536 % 256), .int .u8 ((c : Int) / 16777216 % 256)] 5)) := (Chg.refl _ _).alloc _
  have hs6 : SlAt (w5.alloc (.cells #[.int .u8 ((c : Int) % 256), .int .u8 ((c : Int) / 256 % 256), .int .u8 ((c : Int) / 65536 % 256), .int .u8 ((c : Int) / 16777216 % 256)] 5)) (.slice (some ⟨w5.heap.size, 0, none⟩) 4 4) (cellsB (le4 c)) := by
    rw [e4]
    exact SlAt.of_own (own_of_block (base := 0) (n := 4) at1 (Nat.zero_le _) rfl (by unfold maxLen; omega))
  obtain ⟨v7, w7, hr7, ho7, hg7, -⟩ := append_bytes (own_kept ho5 h6) hs6 (by rw [World.size_alloc]; have := HSz5.out; omega) (by simp [headPre_length, le4_length]) 101
  rw [← hhead] at ho7
  obtain ⟨g7, cap7, e7, hg7b, -⟩ := own_nonnil ho7 (by intro e; have := congrArg List.length e; rw [headB_length] at this; simp at this)
  rw [headB_length] at e7 ho7
  subst e7
  have hcap7 : 64 ≤ cap7 := by
    rcases ho7.2 with ⟨h, _⟩ | ⟨_, _, _, h, _, _, h7, _⟩
    · cases h
    · cases h; exact h7
  have h57 : Chg (fun k => w.heap.size + 1 + 1 ≤ k) w5 w7 := (h6.mono (fun _ _ h => h.elim)).trans' (grown_chg hg7 (fun g hg => by simp only [Value.ownBlock, Option.some.injEq] at hg; omega))
  have hrng : w7.rangeAt g7 0 (cellsB (headB s a u)) := own_range ho7
  have hB7 : Arr w7 (w.heap.size + 1) 178 zs := h57.at HB5.out (by omega)
  have HR7 := Lib.hid hr7
  have HRng := Lib.hid hrng
  have HB7 := Lib.hid hB7
  have HC7 := Lib.hid (HC5.out.new h57 (fun i hi => by omega))
  have HThere : Hid (w7.there (w.heap.size + 1) 0 (cellsB (headB s a u)).toArray.size) := Lib.hid (by have := hB7.there; rwa [HZ.out, show 64 = (cellsB (headB s a u)).toArray.size by simp [cellsB_length, headB_length]] at this)
  have HSz7 : Hid ((Tryz.prog.info? 178).map (·.size) = some (cellsB (headB s a u)).toArray.size) := Lib.hid (by rw [size_wblock]; simp [cellsB_length, headB_length])
  have HSzl : Hid ((Tryz.prog.info? 178).map (·.size) = some (cellsB (headB s a u)).length) := Lib.hid (by rw [size_wblock]; simp [cellsB_length, headB_length])
  have hsa : ∀ w', (Instr.arrayAt 178 (.slice (some ⟨g7, 0, none⟩) 64 cap7)).run Tryz.prog w' = .ok (.pointer (some ⟨g7, 0, none⟩)) w' := fun w' => run_arrayAt _ _ _ 64 _ _ _ Tryz.underlying178 (by omega)
  clear hr3 hr4 hr5 ho3 ho4 ho5 hg3 hg4 hg5 h35 hs2 hsz hsz2 hsz3 hsz4 hc2 ho2 HO HO1 HA HB hv3 hl4 hc hsum hhead e4 h6 hs6 hr7 ho7 hg7 hrng hB7 h57 hg7b
  dsimp only
  go_wp2_with (first
    | (at_builtin; refine Lib.wpList_append_run _ rfl _ _ _ _ rfl _ _ rfl rfl _ _ HR3.out ?_)
    | (at_builtin; refine Lib.wpList_append_run _ rfl _ _ _ _ rfl _ _ rfl rfl _ _ HR4.out ?_)
    | (at_builtin; refine Lib.wpList_append_run _ rfl _ _ _ _ rfl _ _ rfl rfl _ _ HR5.out ?_)
    | (go_at_call 178; fail))
  refine HSum.out.mono ?_
  rintro e w6 ⟨rfl, rfl⟩
  clear HR3 HR4 HR5 HSum hc32
  dsimp only
  go_wp2_with (first
    | (at_builtin; refine Lib.wpList_append_run _ rfl _ _ _ _ rfl _ _ rfl rfl _ _ HR7.out ?_)
    | (refine wpList_load_mid rfl 178 _ rfl g7 0 rfl (cellsB (headB s a u)) _ HRng.out Tryz.underlying178 rfl HSzl.out ?_)
    | (refine wpList_store_mid rfl 178 _ _ rfl (w.heap.size + 1) 0 (cellsB (headB s a u)).toArray rfl rfl HThere.out HSz7.out (all_oneCell_toArray (one_cellsB _)) ?_; rw [List.toList_toArray]))
  have hth : w7.there (w.heap.size + 1) 0 (cellsB (headB s a u)).length := by have := HThere.out; simpa using this
  have hload := run_loadVar_mid (P := Tryz.prog) (w7.setCells (w.heap.size + 1) 0 (cellsB (headB s a u))) (w.heap.size + 1) 0 178 (cellsB (headB s a u)) _ (World.rangeAt_setCells_same w7 (w.heap.size + 1) 0 _ hth) Tryz.underlying178 rfl HSzl.out
  refine bodyPost_ret (result1 rfl _ rfl hload) rfl ⟨rfl, ?_⟩
  exact HC7.out.new (chg_setCells (w.heap.size + 1) (cellsB (headB s a u)) 0 w7) (fun i hi => by omega)

end Go.Proofs.YtbjagmlbamjdbaaGreat.wals
end

section
namespace Go.Proofs.YtbjagmlbamjdbaaGreat.wals
open Go.RowKit Go.My disks bufs
set_option maxRecDepth 100000

def Rd (w : World) (r : Nat) (v : Value) (p : Nat) : Prop := Arr w r 288 [v, .int .i64 (p : Int)]

theorem slat_sub {w : World} {oa : Option Addr} {n cap : Nat} {b : Blk} (h : SlAt w (.slice oa n cap) (cellsB b)) (g off p m c' : Nat) (ho : oa = some ⟨g, off, none⟩) (hm : p + m ≤ b.length) : SlAt w (.slice (some ⟨g, off + p, none⟩) m c') (cellsB ((b.drop p).take m)) := by
  obtain ⟨oa', cap', e1, e2, e3⟩ := h
  simp only [Value.slice.injEq] at e1
  have hl : (cellsB ((b.drop p).take m)).length = m := by rw [cellsB_length, List.length_take, List.length_drop]; omega
  refine ⟨_, c', by rw [hl], fun _ => ⟨_, _, rfl⟩, fun g' off' ho' i x hx => ?_⟩
  cases ho'
  have hi : i < m := by have := (List.getElem?_eq_some_iff.1 hx).1; rwa [hl] at this
  rw [Nat.add_assoc]
  refine e3 g off (by rw [← e1.1, ho]) (p + i) x ?_
  simp only [cellsB, List.getElem?_map, List.getElem?_take_of_lt hi, List.getElem?_drop] at hx ⊢
  exact hx

set_option maxHeartbeats 1000000 in
theorem take_any (w : World) (r g off n cap p m : Nat) (b : Blk) (h : Rd w r (.slice (some ⟨g, off, none⟩) n cap) p) (hs : SlAt w (.slice (some ⟨g, off, none⟩) n cap) (cellsB b)) (hb : b.length ≤ 1000000) (hcap : b.length ≤ cap) (hm : p + m ≤ b.length) (hgr : g ≠ r) :
    Calls Tryz.prog 214 #[.pointer (some ⟨r, 0, none⟩), .int .i64 m] w fun e w' => (∃ oa, e = .returned (.slice oa m m) ∧ SlAt w' (.slice oa m m) (cellsB ((b.drop p).take m)) ∧ ∀ x, oa = some x → x.block = g) ∧ Rd w' r (.slice (some ⟨g, off, none⟩) n cap) (p + m) ∧ Chg (· = r) w w' := by
  obtain rfl := slat_len hs
  have c0 : w.cell? ⟨r, 0, none⟩ = some (.slice (some ⟨g, off, none⟩) b.length cap) := h.cell rfl
  have c1 : w.cell? ⟨r, 1, none⟩ = some (.int .i64 (p : Int)) := h.cell rfl
  have z1 : w.frozen? ⟨r, 1, none⟩ = false := h.free
  have H := Lib.hid h
  have HS := Lib.hid hs
  have i1 : (b.length : Int) ≤ 1000000 := by omega
  have i2 : (b.length : Int) ≤ (cap : Int) := by omega
  have i3 : (p : Int) + (m : Int) ≤ (b.length : Int) := by omega
  have HG := Lib.hid hgr
  clear h hs hb hcap hm hgr
  go_enter Tryz.func214, Tryz.ntmps214
  have q0 : ∀ n : FreshW w, n.val.cell? ⟨r, 0, none⟩ = some (.slice (some ⟨g, off, none⟩) b.length cap) := fun n => n.chg.cell c0 id
  have q1 : ∀ n : FreshW w, n.val.cell? ⟨r, 1, none⟩ = some (.int .i64 (p : Int)) := fun n => n.chg.cell c1 id
  go_wp2_with fail
  refine wp_region_fresh (by kernel_rfl) (by kernel_rfl) ?_
  repeat (go_big_quiet_step (fail))
  refine wpQuiet_nil ?_
  rintro _ ⟨n1, rfl⟩
  obtain ⟨w1, hw1⟩ : ∃ w1, n1.val = w1 := ⟨_, rfl⟩
  have hc1 : Chg (fun _ => False) w w1 := by rw [← hw1]; exact n1.chg
  rw [hw1]
  have hr1 : Rd w1 r (.slice (some ⟨g, off, none⟩) b.length cap) p := hc1.at H.out id
  clear q0 q1 hw1 c0 c1 z1
  have c1 : w1.cell? ⟨r, 1, none⟩ = some (.int .i64 (p : Int)) := hr1.cell rfl
  have z1 : w1.frozen? ⟨r, 1, none⟩ = false := hr1.free
  have hr2 : Rd (w1.setCell ⟨r, 1, none⟩ (.int .i64 ((p : Int) + (m : Int)))) r (.slice (some ⟨g, off, none⟩) b.length cap) (p + m) := by
    have := hr1.set 1 (.int .i64 ((p : Int) + (m : Int)))
    unfold Rd
    simpa using this
  have hc2 : Chg (· = r) w (w1.setCell ⟨r, 1, none⟩ (.int .i64 ((p : Int) + (m : Int)))) := Chg.setCell (S := (· = r)) (hc1.mono (fun _ _ h => h.elim)) (fun _ => rfl) _
  obtain ⟨w2, hw2⟩ : ∃ w2, w1.setCell ⟨r, 1, none⟩ (.int .i64 ((p : Int) + (m : Int))) = w2 := ⟨_, rfl⟩
  rw [hw2] at hr2 hc2
  have HR2 := Lib.hid hr2
  have HC2 := Lib.hid hc2
  have HW2 := Lib.hid hw2
  have HR1 := Lib.hid hr1
  have HC1 := Lib.hid hc1
  have q0 : ∀ n : FreshW w2, n.val.cell? ⟨r, 0, none⟩ = some (.slice (some ⟨g, off, none⟩) b.length cap) := fun n => n.chg.cell (hr2.cell rfl) id
  have q1 : ∀ n : FreshW w2, n.val.cell? ⟨r, 1, none⟩ = some (.int .i64 ((p : Int) + (m : Int))) := fun n => n.chg.cell (hr2.cell (by rw [show ((p : Int) + (m : Int)) = ((p + m : Nat) : Int) by omega]; rfl)) id
  clear hr2 hc2 hw2 hr1 hc1
  have i5 : (p : Int) + (m : Int) - (m : Int) = (p : Int) := by omega
  go_wp2_with fail
  rw [HW2.out]
  clear c1 z1
  refine wp_region_fresh (by kernel_rfl) (by kernel_rfl) ?_
  repeat (go_big_quiet_step (fail))
  refine wpQuiet_nil ?_
  rintro _ ⟨n2, rfl⟩
  have hc3 : Chg (fun _ => False) w2 n2.val := n2.chg
  obtain ⟨w3, hw3⟩ : ∃ w3, n2.val = w3 := ⟨_, rfl⟩
  rw [hw3] at hc3 ⊢
  clear q0 q1 hw3
  have HC3 := Lib.hid hc3
  clear hc3
  rw [Nat.add_sub_cancel_left]
  have HI3 := Lib.hid i3
  obtain ⟨oa, hoa⟩ : ∃ oa, (if p + m = p then some (⟨g, off, none⟩ : Addr) else some ⟨g, off + p, none⟩) = oa := ⟨_, rfl⟩
  rw [hoa]
  have HOa := Lib.hid hoa
  clear hoa
  go_wp2_with fail
  go_ret
  have hS3 : SlAt w3 (.slice (some ⟨g, off, none⟩) b.length cap) (cellsB b) := by
    refine (slat_but HS.out HC2.out (fun x hx => ?_)).kept HC3.out
    cases hx
    exact HG.out
  refine ⟨⟨oa, rfl, ?_, fun x hx => by rw [← HOa.out] at hx; split at hx <;> cases hx <;> rfl⟩, HC3.out.at HR2.out id, HC2.out.trans' (HC3.out.mono (fun _ _ h => h.elim))⟩
  rw [← HOa.out]
  by_cases hm0 : m = 0
  · subst hm0
    rw [if_pos (Nat.add_zero p), List.take_zero]
    exact ⟨_, 0, rfl, fun h => absurd rfl h, fun _ _ _ i x hx => by simp [cellsB] at hx⟩
  · rw [if_neg (by omega)]
    exact slat_sub hS3 g off p m m rfl (by have := HI3.out; omega)

theorem ofLe_take1 (x : UInt8) (l : Blk) (m : Nat) (h : l[m]? = some x) : ofLe (l.take (m + 1)) = ofLe (l.take m) + 256 ^ m * x.toNat := by
  rw [List.take_add_one, h, Option.toList_some]
  have hl : (l.take m).length = m := by rw [List.length_take]; have := (List.getElem?_eq_some_iff.1 h).1; omega
  have : ∀ (l : Blk), ofLe (l ++ [x]) = ofLe l + 256 ^ l.length * x.toNat := by
    intro l
    induction l with
    | nil => simp [ofLe]
    | cons y l ih =>
      have e : ofLe (y :: l ++ [x]) = y.toNat + 256 * ofLe (l ++ [x]) := rfl
      rw [e, ih, List.length_cons, Nat.pow_succ, Nat.mul_add, show ofLe (y :: l) = y.toNat + 256 * ofLe l from rfl, Nat.mul_comm (256 ^ l.length) 256, Nat.mul_assoc, Nat.add_assoc]
  rw [this, hl]

theorem ofLe_lt (l : Blk) : ofLe l < 256 ^ l.length := by
  induction l with
  | nil => simp [ofLe]
  | cons y l ih =>
    rw [List.length_cons, Nat.pow_succ, show ofLe (y :: l) = y.toNat + 256 * ofLe l from rfl]
    have := y.toNat_lt
    omega

theorem or_low (v x m : Nat) (hv : v < 256 ^ m) (hx : x < 256) (hm : m < 4) : bits .or .u32 (v : Int) ((x : Int) * ((256 ^ m : Nat) : Int)) = ((v + 256 ^ m * x : Nat) : Int) := by
  have h4 : 256 ^ m * x < 4294967296 := by
    have h1 : 256 ^ m * x < 256 ^ m * 256 := Nat.mul_lt_mul_of_pos_left hx (Nat.pow_pos (by omega))
    have h2 : (256 : Nat) ^ m * 256 ≤ 256 ^ 3 * 256 := Nat.mul_le_mul_right _ (Nat.pow_le_pow_right (by omega) (by omega))
    have h3 : (256 : Nat) ^ 3 * 256 = 4294967296 := rfl
    omega
  have h5 : v < 4294967296 := by
    have h2 : (256 : Nat) ^ m ≤ 256 ^ 3 := Nat.pow_le_pow_right (by omega) (by omega)
    have h3 : (256 : Nat) ^ 3 = 16777216 := rfl
    omega
  have h1 := u32_or_nat v (256 ^ m * x) h5 h4
  rw [show ((x : Int) * ((256 ^ m : Nat) : Int)) = ((256 ^ m * x : Nat) : Int) by rw [Int.natCast_mul, Int.mul_comm], h1]
  have hp : (256 : Nat) ^ m = 2 ^ (8 * m) := by rw [Nat.pow_mul]
  have h2 := Nat.shiftLeft_add_eq_or_of_lt (i := 8 * m) (show v < 2 ^ (8 * m) by rw [← hp]; exact hv) x
  rw [Nat.shiftLeft_eq, ← hp] at h2
  rw [Nat.or_comm, Nat.mul_comm (256 ^ m) x, ← h2, Nat.add_comm]

set_option maxHeartbeats 1000000 in
theorem four_any (w : World) (r g off n cap p : Nat) (b : Blk) (h : Rd w r (.slice (some ⟨g, off, none⟩) n cap) p) (hs : SlAt w (.slice (some ⟨g, off, none⟩) n cap) (cellsB b)) (hb : b.length ≤ 1000000) (hcap : b.length ≤ cap) (hm : p + 4 ≤ b.length) (hgr : g ≠ r) :
    Calls Tryz.prog 213 #[.pointer (some ⟨r, 0, none⟩)] w fun e w' => e = .returned (.int .u32 (ofLe ((b.drop p).take 4) : Int)) ∧ Rd w' r (.slice (some ⟨g, off, none⟩) n cap) (p + 4) ∧ Chg (· = r) w w' := by
  have ht := take_any w r g off n cap p 4 b h hs hb hcap hm hgr
  obtain ⟨c, hc⟩ : ∃ c, (b.drop p).take 4 = c := ⟨_, rfl⟩
  have hcl : c.length = 4 := by rw [← hc, List.length_take, List.length_drop]; omega
  rw [hc] at ht ⊢
  have HT := Lib.hid ht
  have HCl := Lib.hid hcl
  clear hc hcl ht
  clear h hs hb hcap hm hgr
  go_enter Tryz.func213, Tryz.ntmps213
  go_wp2_with (first
    | (go_at_call 214; fail))
  refine HT.out.mono ?_
  rintro e w1 ⟨⟨oa, rfl, hs1, -⟩, hr1, hc1⟩
  have HS1 := Lib.hid hs1
  have HR1 := Lib.hid hr1
  have HC1 := Lib.hid hc1
  clear hs1 hr1 hc1 HT
  dsimp only
  go_wp2_with fail
  go_loop [3, 9] (fun v i => ∃ m : Nat, m ≤ 4 ∧ i = .int .i64 m ∧ v = .int .u32 (ofLe (c.take m) : Int)) (fun _ i => 4 - (intOf i).toNat)
  case atStart => exact ⟨0, Nat.zero_le _, rfl, rfl⟩
  case round =>
    obtain ⟨m, hm, rfl, rfl⟩ := hrel
    by_cases hlt : m < 4
    · obtain ⟨x, hx⟩ : ∃ x, c[m]? = some x := ⟨c[m]'(by have := HCl.out; omega), List.getElem?_eq_getElem _⟩
      obtain ⟨b', off', hoa, hcell⟩ : ∃ b' off', oa = some ⟨b', off', none⟩ ∧ w1.cell? ⟨b', off' + m, none⟩ = some (.int .u8 (x.toNat : Int)) := by
        obtain ⟨b', off', rfl, -, hcell⟩ := HS1.out.cell (k := m) (by rw [cellsB_length]; have := HCl.out; omega)
        refine ⟨b', off', rfl, ?_⟩
        rw [hcell]
        have : (cellsB c)[m]? = some (.int .u8 (x.toNat : Int)) := by simp [cellsB, hx]
        rwa [List.getElem?_eq_getElem (by rw [cellsB_length]; have := HCl.out; omega)] at this
      subst hoa
      obtain ⟨v, hv⟩ : ∃ v, ofLe (c.take m) = v := ⟨_, rfl⟩
      have htk := ofLe_take1 x c m hx
      have hvl : v < 256 ^ m := by
        rw [← hv]
        have h1 := ofLe_lt (c.take m)
        rwa [List.length_take, Nat.min_eq_left (by have := HCl.out; omega)] at h1
      rw [hv] at htk
      have hxl := x.toNat_lt
      have hor := or_low v x.toNat m hvl hxl hlt
      have HTK := Lib.hid htk
      have HOR := Lib.hid hor
      rw [hv]
      clear hv htk hx hor hvl
      have h4 : m = 0 ∨ m = 1 ∨ m = 2 ∨ m = 3 := by omega
      clear hlt hm
      rcases h4 with rfl | rfl | rfl | rfl
      all_goals try simp only [Nat.add_zero] at hcell
      all_goals go_wp2_with fail
      all_goals refine ⟨⟨_, ?_, by go_num, congrArg (Value.int .u32) (Eq.trans ?_ (congrArg Nat.cast HTK.out.symm))⟩, ?_⟩
      all_goals first
        | omega
        | (simp [intOf]; done)
        | (simpa using HOR.out)
    · go_wp2_with fail
      go_ret
      obtain rfl : m = 4 := by omega
      rw [List.take_of_length_le (by have := HCl.out; omega)]
      exact ⟨rfl, HR1.out, HC1.out⟩

end Go.Proofs.YtbjagmlbamjdbaaGreat.wals
end

section
namespace Go.Proofs.YtbjagmlbamjdbaaGreat.kvs
open Go.RowKit Go.My disks bufs wals
set_option maxRecDepth 100000

variable {w w' : World}

theorem or128 (n : Nat) : bits .or .u8 ((n : Int) % 256) 128 = ((n % 128 + 128 : Nat) : Int) := by
  have h1 : (n : Int) % 256 = ((n % 256 : Nat) : Int) := by omega
  have h2 := u8_or_nat (n % 256) 128 (by omega) (by omega)
  have h3 : ∀ x : Fin 256, x.val ||| 128 = x.val % 128 + 128 := by decide
  have h4 := h3 ⟨n % 256, by omega⟩
  simp only at h4
  rw [h1]
  refine h2.trans ?_
  rw [h4]
  congr 2
  omega

theorem or_sevens (v c i : Nat) (hv : v < 128 ^ i) (hc : c < 128) (hi : i < 9 ∨ (i = 9 ∧ c ≤ 1)) : bits .or .u64 (v : Int) ((c * 128 ^ i : Nat) : Int) = ((v + c * 128 ^ i : Nat) : Int) := by
  have hb : v < 18446744073709551616 ∧ c * 128 ^ i < 18446744073709551616 := by
    rcases hi with hi | ⟨rfl, hc1⟩
    · have h2 : (128 : Nat) ^ (i + 1) ≤ 128 ^ 9 := Nat.pow_le_pow_right (by omega) (by omega)
      have h3 : (128 : Nat) ^ 9 = 9223372036854775808 := by decide
      rw [Nat.pow_succ] at h2
      have h4 : c * 128 ^ i ≤ 127 * 128 ^ i := Nat.mul_le_mul_right _ (by omega)
      omega
    · have h3 : (128 : Nat) ^ 9 = 9223372036854775808 := by decide
      have h4 : c * 128 ^ 9 ≤ 1 * 128 ^ 9 := Nat.mul_le_mul_right _ hc1
      omega
  rw [u64_or_nat _ _ hb.1 hb.2]
  have hp : (128 : Nat) ^ i = 2 ^ (7 * i) := by rw [Nat.pow_mul]
  have h2 := Nat.shiftLeft_add_eq_or_of_lt (i := 7 * i) (show v < 2 ^ (7 * i) by rw [← hp]; exact hv) c
  rw [Nat.shiftLeft_eq, ← hp] at h2
  rw [Nat.or_comm, ← h2, Nat.add_comm]

set_option maxHeartbeats 1000000 in
theorem var_any (w : World) (n : Nat) (hn : n < 16384) :
    Calls Tryz.prog 121 #[.int .u64 (n : Int)] w fun e w' => ∃ v, e = .returned v ∧ w'.ownsRow w.heap.size 5 1 v (varB n).length (cellsB (varB n)) ∧ Chg (fun _ => False) w w' := by
  go_enter Tryz.func121, Tryz.ntmps121
  go_wp2_with fail
  go_loopw [0, 3] (fun v out wr => (v = .int .u64 (n : Int) ∧ out = .slice none 0 0 ∧ wr = w) ∨ (128 ≤ n ∧ v = .int .u64 ((n / 128 : Nat) : Int) ∧ wr.ownsRow w.heap.size 5 1 out 1 (cellsB [UInt8.ofNat (n % 128 + 128)]) ∧ Chg (fun _ => False) w wr)) (fun v _ _ => (intOf v).toNat)
  · exact Or.inl ⟨rfl, rfl, rfl⟩
  have h0 : (0 : Int) ≤ (n : Int) := by omega
  have h1 : (n : Int) < 16384 := by omega
  rcases hrel with ⟨rfl, rfl, rfl⟩ | ⟨hge, rfl, ho, hc⟩
  · by_cases hlt : n < 128
    · have hlti : ¬ (128 : Int) ≤ (n : Int) := by omega
      have hca : Chg (fun _ => False) wr (wr.alloc (.cells #[.int .u8 (n : Int)] 5)) := (Chg.refl _ _).alloc _
      have hs2 : SlAt (wr.alloc (.cells #[.int .u8 (n : Int)] 5)) (.slice (some ⟨wr.heap.size, 0, none⟩) 1 1) (cellsB [UInt8.ofNat n]) := by
        have := SlAt.of_own (own_of_block (w := wr.alloc (.cells #[.int .u8 (n : Int)] 5)) (base := 0) (n := 1) at1 (Nat.zero_le _) rfl (by unfold maxLen; omega))
        simp only [cellsB, List.map_cons, List.map_nil, toNat_ofNat_lt (show n < 256 by omega)]
        exact this
      obtain ⟨v3, w3, hr3, ho3, hg3⟩ := append_step (base := wr.heap.size) (n := 0) (v := .slice none 0 0) (xs := []) ⟨rfl, Or.inl ⟨rfl, rfl⟩⟩ hs2 hca.size (by simp) 101
      rw [List.nil_append] at ho3
      have hc3 : Chg (fun _ => False) wr w3 := hca.new hg3 (fun _ h => h)
      have HR3 := Lib.hid hr3
      have HO3 := Lib.hid ho3
      have HC3 := Lib.hid hc3
      clear hca hs2 hr3 ho3 hg3 hc3
      go_wp2_with (first
        | (at_builtin; refine Lib.wpList_append_run _ rfl _ _ _ _ rfl _ _ rfl rfl _ _ HR3.out ?_))
      go_ret
      refine ⟨_, rfl, ?_, HC3.out⟩
      rw [varB_one hlt]
      exact HO3.out
    · have hlti : (128 : Int) ≤ (n : Int) := by omega
      obtain ⟨X, hX⟩ : ∃ X : Int, bits .or .u8 ((n : Int) % 256) 128 = X := ⟨_, rfl⟩
      have hXv : X = ((n % 128 + 128 : Nat) : Int) := by
        rw [← hX]
        exact or128 n
      have hca : Chg (fun _ => False) wr (wr.alloc (.cells #[.int .u8 X] 5)) := (Chg.refl _ _).alloc _
      have hs2 : SlAt (wr.alloc (.cells #[.int .u8 X] 5)) (.slice (some ⟨wr.heap.size, 0, none⟩) 1 1) (cellsB [UInt8.ofNat (n % 128 + 128)]) := by
        have := SlAt.of_own (own_of_block (w := wr.alloc (.cells #[.int .u8 X] 5)) (base := 0) (n := 1) at1 (Nat.zero_le _) rfl (by unfold maxLen; omega))
        simp only [cellsB, List.map_cons, List.map_nil, toNat_ofNat_lt (show n % 128 + 128 < 256 by omega)]
        rw [← hXv]
        exact this
      obtain ⟨v3, w3, hr3, ho3, hg3⟩ := append_step (base := wr.heap.size) (n := 0) (v := .slice none 0 0) (xs := []) ⟨rfl, Or.inl ⟨rfl, rfl⟩⟩ hs2 hca.size (by simp) 101
      rw [List.nil_append] at ho3
      have hc3 : Chg (fun _ => False) wr w3 := hca.new hg3 (fun _ h => h)
      have HR3 := Lib.hid hr3
      have HO3 := Lib.hid ho3
      have HC3 := Lib.hid hc3
      clear hca hs2 hr3 ho3 hg3 hc3 hXv
      go_wp2_with (first
        | (at_builtin; refine Lib.wpList_append_run _ rfl _ _ _ _ rfl _ _ rfl rfl _ _ HR3.out ?_))
      exact ⟨Or.inr ⟨by omega, congrArg (Value.int .u64) (by omega), HO3.out, HC3.out⟩, by simp [intOf]; omega⟩
  · have h2 : (0 : Int) ≤ ((n / 128 : Nat) : Int) := by omega
    have h3 : ¬ (128 : Int) ≤ ((n / 128 : Nat) : Int) := by omega
    obtain ⟨m, hm⟩ : ∃ m, n / 128 = m := ⟨_, rfl⟩
    rw [hm] at h2 h3 ⊢
    have h4 : (m : Int) < 256 := by omega
    have hca : Chg (fun _ => False) wr (wr.alloc (.cells #[.int .u8 (m : Int)] 5)) := (Chg.refl _ _).alloc _
    have hs2 : SlAt (wr.alloc (.cells #[.int .u8 (m : Int)] 5)) (.slice (some ⟨wr.heap.size, 0, none⟩) 1 1) (cellsB [UInt8.ofNat m]) := by
      have := SlAt.of_own (own_of_block (w := wr.alloc (.cells #[.int .u8 (m : Int)] 5)) (base := 0) (n := 1) at1 (Nat.zero_le _) rfl (by unfold maxLen; omega))
      simp only [cellsB, List.map_cons, List.map_nil, toNat_ofNat_lt (show m < 256 by omega)]
      exact this
    have hsz := hc.size
    obtain ⟨v3, w3, hr3, ho3, hg3⟩ := append_step (own_kept ho hca) hs2 (Nat.le_trans hsz hca.size) (by simp) 101
    have hc3 : Chg (fun _ => False) w w3 := (hc.trans' hca).new hg3 (fun _ h => h)
    rw [show [UInt8.ofNat (n % 128 + 128)] ++ [UInt8.ofNat m] = varB n from by rw [varB_two hge hn, hm]; rfl] at ho3
    obtain ⟨oa, cap, rfl⟩ := own_slice ho
    have HR3 := Lib.hid hr3
    have HO3 := Lib.hid ho3
    have HC3 := Lib.hid hc3
    clear hca hs2 hr3 ho3 hg3 hc3 ho hc hm
    go_wp2_with (first
      | (at_builtin; refine Lib.wpList_append_run _ rfl _ _ _ _ rfl _ _ rfl rfl _ _ HR3.out ?_))
    go_ret
    exact ⟨_, rfl, HO3.out, HC3.out⟩

theorem and127 (C : Nat) (hC : C < 256) : bits .and .u8 (C : Int) 127 = ((C % 128 : Nat) : Int) := by
  have h1 := u8_and_nat C 127 hC (by omega)
  have h2 : ∀ x : Fin 256, x.val &&& 127 = x.val % 128 := by decide
  have h3 := h2 ⟨C, hC⟩
  simp only at h3
  exact h1.trans (by rw [h3])
theorem sevens (V C i : Nat) (hV : V < 128 ^ i) (hC : C < 256) (hi : i < 9 ∨ (i = 9 ∧ C ≤ 1)) : bits .or .u64 (V : Int) (IntKind.u64.wrap (IntKind.u64.wrap (bits .and .u8 (C : Int) 127) * ((128 ^ i : Nat) : Int))) = ((V + C % 128 * 128 ^ i : Nat) : Int) := by
  have h0 : C % 128 * 128 ^ i < 18446744073709551616 := by
    rcases hi with hi | ⟨rfl, hc1⟩
    · have h2 : (128 : Nat) ^ (i + 1) ≤ 128 ^ 9 := Nat.pow_le_pow_right (by omega) (by omega)
      have h3 : (128 : Nat) ^ 9 = 9223372036854775808 := by decide
      rw [Nat.pow_succ] at h2
      have h4 : C % 128 * 128 ^ i ≤ 127 * 128 ^ i := Nat.mul_le_mul_right _ (by omega)
      omega
    · have h3 : (128 : Nat) ^ 9 = 9223372036854775808 := by decide
      have h4 : C % 128 * 128 ^ 9 ≤ 1 * 128 ^ 9 := Nat.mul_le_mul_right _ (by omega)
      omega
  rw [and127 C hC, IntKind.wrap_u64, IntKind.wrap_u64]
  have e1 : ((C % 128 : Nat) : Int) % 18446744073709551616 = ((C % 128 : Nat) : Int) := by omega
  rw [e1, ← Int.natCast_mul]
  have e2 : ((C % 128 * 128 ^ i : Nat) : Int) % 18446744073709551616 = ((C % 128 * 128 ^ i : Nat) : Int) := by omega
  rw [e2]
  exact or_sevens V (C % 128) i hV (by omega) (hi.imp id (fun h => ⟨h.1, by omega⟩))

set_option maxHeartbeats 1000000 in
theorem readVar_any (w : World) (v : Value) (b : Txt) (h : SlAt w v (cellsB b)) (hb : b.length ≤ 1000000) :
    Calls Tryz.prog 110 #[v] w fun e w' => e = .returned (.tuple #[.int .u64 ((rdV b).1 : Int), .int .i64 ((rdV b).2.1 : Int), .int .i64 ((rdV b).2.2 : Int)]) ∧ Chg (fun _ => False) w w' := by
  obtain ⟨oa, cap, rfl, h2, h3⟩ := h
  rw [cellsB_length] at *
  have H := Lib.hid (show SlAt w (.slice oa b.length cap) (cellsB b) from ⟨oa, cap, by rw [cellsB_length], h2, h3⟩)
  have hbi : (b.length : Int) ≤ 1000000 := by omega
  obtain ⟨R, hR⟩ : ∃ R, rdV b = R := ⟨_, rfl⟩
  rw [hR]
  have HR := Lib.hid hR
  clear h2 h3 hR
  go_enter Tryz.func110, Tryz.ntmps110
  go_wp2_with fail
  go_loopw [5, 8] (fun u i wr => ∃ k V : Nat, i = .int .i64 k ∧ u = .int .u64 (V : Int) ∧ k ≤ 10 ∧ V < 128 ^ k ∧ rdN (10 - k) k V (b.drop k) = R ∧ wr = w) (fun _ i _ => 10 - (intOf i).toNat)
  · exact ⟨0, 0, rfl, rfl, by omega, by simp, HR.out, rfl⟩
  obtain ⟨k, V, rfl, rfl, hk, hV, hrd, rfl⟩ := hrel
  by_cases h10 : k < 10
  · have hki : (k : Int) < 10 := by omega
    obtain ⟨j, hj⟩ : ∃ j, 10 - k = j + 1 := ⟨9 - k, by omega⟩
    rw [hj] at hrd
    by_cases hkl : k < b.length
    · have hkli : ¬ (b.length : Int) ≤ (k : Int) := by omega
      obtain ⟨c, hc⟩ : ∃ c, b[k]? = some c := ⟨b[k], List.getElem?_eq_getElem hkl⟩
      obtain ⟨g, off, rfl, -, hcell⟩ := H.out.cell (k := k) (by rw [cellsB_length]; exact hkl)
      have hcell' : wr.cell? ⟨g, off + k, none⟩ = some (.int .u8 (c.toNat : Int)) := by
        rw [hcell]
        have : (cellsB b)[k]? = some (.int .u8 (c.toNat : Int)) := by simp [cellsB, hc]
        rwa [List.getElem?_eq_getElem (by rw [cellsB_length]; exact hkl)] at this
      have hd : b.drop k = c :: b.drop (k + 1) := by rw [List.drop_eq_getElem_cons hkl]; congr 1; exact (List.getElem?_eq_some_iff.1 hc).2
      rw [hd, rdN] at hrd
      have hc256 := c.toNat_lt
      obtain ⟨C, hC⟩ : ∃ C, c.toNat = C := ⟨_, rfl⟩
      rw [hC] at hrd hcell' hc256
      clear hcell hc hd hC
      have hcc : (0 : Int) ≤ (C : Int) := by omega
      have hcd : (C : Int) < 256 := by omega
      rcases (by omega : k = 0 ∨ k = 1 ∨ k = 2 ∨ k = 3 ∨ k = 4 ∨ k = 5 ∨ k = 6 ∨ k = 7 ∨ k = 8 ∨ k = 9) with rfl | rfl | rfl | rfl | rfl | rfl | rfl | rfl | rfl | rfl
      · rw [if_neg (by omega)] at hrd
        rw [Nat.add_zero] at hcell'
        have hkl0 : ¬ (b.length : Int) ≤ 0 := by omega
        have hkl1 : ¬ b.length = 0 := by omega
        have hkl2 : ¬ b = [] := fun e => hkl1 (by rw [e]; rfl)
        by_cases hlt : C < 128
        · by_cases hC0 : C = 0
          · subst hC0
            rw [if_pos hlt, if_neg (by omega)] at hrd
            have hsv := sevens V 0 0 hV hc256 (by omega)
            rw [show ((128 ^ 0 : Nat) : Int) = 1 from rfl, Int.mul_one, show (((0 : Nat) : Nat) : Int) = 0 from rfl] at hsv
            have HSv := Lib.hid hsv
            have HRd := Lib.hid hrd
            clear hsv hrd
            go_wp2_with fail
            refine bodyPost_ret (results_tmp3 rfl _ _ _) rfl ?_
            rw [← HRd.out]
            exact ⟨congrArg (fun x => Ending.returned (.tuple #[.int .u64 x, .int .i64 ((0 + 1 : Nat) : Int), .int .i64 0])) HSv.out, Chg.refl _ _⟩
          · rw [if_pos hlt, if_neg (by omega)] at hrd
            have hlti : (C : Int) < 128 := by omega
            have hne : ¬ (C : Int) = 0 := by omega
            have hsv := sevens V C 0 hV hc256 (by omega)
            rw [show ((128 ^ 0 : Nat) : Int) = 1 from rfl, Int.mul_one, show C % 128 = C from Nat.mod_eq_of_lt hlt] at hsv
            have HSv := Lib.hid hsv
            have HRd := Lib.hid hrd
            clear hsv hrd hC0
            go_wp2_with fail
            refine bodyPost_ret (results_tmp3 rfl _ _ _) rfl ?_
            rw [← HRd.out]
            exact ⟨congrArg (fun x => Ending.returned (.tuple #[.int .u64 x, .int .i64 ((0 + 1 : Nat) : Int), .int .i64 0])) HSv.out, Chg.refl _ _⟩
        · rw [if_neg hlt] at hrd
          have hlti : ¬ (C : Int) < 128 := by omega
          have hsv := sevens V C 0 hV hc256 (by omega)
          rw [show ((128 ^ 0 : Nat) : Int) = 1 from rfl, Int.mul_one] at hsv
          have HSv := Lib.hid hsv
          have HRd := Lib.hid hrd
          have HV := Lib.hid hV
          have HJ := Lib.hid hj
          clear hsv hrd
          go_wp2_with fail
          refine ⟨⟨0 + 1, V + C % 128 * 128 ^ 0, rfl, congrArg (Value.int .u64) HSv.out, by omega, ?_, ?_, trivial⟩, by simp [intOf]⟩
          · have h2 := HV.out
            simp only [Nat.pow_zero, Nat.pow_one, Nat.mul_one, Nat.zero_add] at *
            omega
          · rw [show 10 - (0 + 1) = j from by have := HJ.out; omega]
            exact HRd.out
      · rw [if_neg (by omega)] at hrd
        by_cases hlt : C < 128
        · rw [if_pos hlt] at hrd
          have hlti : (C : Int) < 128 := by omega
          have hsv := sevens V C 1 hV hc256 (by omega)
          have hP : ((128 ^ 1 : Nat) : Int) = 128 := by decide
          rw [hP, show C % 128 = C from Nat.mod_eq_of_lt hlt] at hsv
          have HSv := Lib.hid hsv
          clear hsv hP
          by_cases hC0 : C = 0 ∧ 0 < (1 : Nat)
          · rw [if_pos hC0] at hrd
            obtain ⟨hC0, hK0⟩ := hC0
            subst hC0
            subst hrd
            go_wp2_with fail
            refine bodyPost_ret (results_tmp3 rfl _ _ _) rfl ?_
            exact ⟨rfl, Chg.refl _ _⟩
          · rw [if_neg hC0] at hrd
            have hC0i : (0 : Int) < 1 → ¬ (C : Int) = 0 := fun h h' => hC0 ⟨by omega, by omega⟩
            try simp only [Int.zero_lt_one, forall_const] at hC0i
            have hne : 1 = 0 ∨ ¬ (C : Int) = 0 := by omega
            have HRd := Lib.hid hrd
            clear hC0 hrd hC0i
            rcases hne with h0 | hne
            · first
                | exact absurd h0 (by decide)
                | (go_wp2_with fail
                   refine bodyPost_ret (results_tmp3 rfl _ _ _) rfl ?_
                   rw [← HRd.out]
                   exact ⟨congrArg (fun x => Ending.returned (.tuple #[.int .u64 x, .int .i64 ((1 + 1 : Nat) : Int), .int .i64 0])) HSv.out, Chg.refl _ _⟩)
            · go_wp2_with fail
              all_goals try refine bodyPost_ret (results_tmp3 rfl _ _ _) rfl ?_
              all_goals rw [← HRd.out]
              all_goals exact ⟨congrArg (fun x => Ending.returned (.tuple #[.int .u64 x, .int .i64 ((1 + 1 : Nat) : Int), .int .i64 0])) HSv.out, Chg.refl _ _⟩
        · rw [if_neg hlt] at hrd
          have hlti : ¬ (C : Int) < 128 := by omega
          have hsv := sevens V C 1 hV hc256 (by omega)
          have hP : ((128 ^ 1 : Nat) : Int) = 128 := by decide
          rw [hP] at hsv
          have HSv := Lib.hid hsv
          have HRd := Lib.hid hrd
          have HV := Lib.hid hV
          have HJ := Lib.hid hj
          clear hsv hP hrd
          go_wp2_with fail
          refine ⟨⟨1 + 1, V + C % 128 * 128 ^ 1, rfl, congrArg (Value.int .u64) HSv.out, by omega, ?_, ?_, trivial⟩, by simp [intOf]⟩
          · have h1 : C % 128 * 128 ^ 1 ≤ 127 * 128 ^ 1 := Nat.mul_le_mul_right _ (by omega)
            have h2 := HV.out
            rw [Nat.pow_succ]
            omega
          · rw [show 10 - (1 + 1) = j from by have := HJ.out; omega]
            exact HRd.out
      · rw [if_neg (by omega)] at hrd
        by_cases hlt : C < 128
        · rw [if_pos hlt] at hrd
          have hlti : (C : Int) < 128 := by omega
          have hsv := sevens V C 2 hV hc256 (by omega)
          have hP : ((128 ^ 2 : Nat) : Int) = 16384 := by decide
          rw [hP, show C % 128 = C from Nat.mod_eq_of_lt hlt] at hsv
          have HSv := Lib.hid hsv
          clear hsv hP
          by_cases hC0 : C = 0 ∧ 0 < (2 : Nat)
          · rw [if_pos hC0] at hrd
            obtain ⟨hC0, hK0⟩ := hC0
            subst hC0
            subst hrd
            go_wp2_with fail
            refine bodyPost_ret (results_tmp3 rfl _ _ _) rfl ?_
            exact ⟨rfl, Chg.refl _ _⟩
          · rw [if_neg hC0] at hrd
            have hC0i : (0 : Int) < 2 → ¬ (C : Int) = 0 := fun h h' => hC0 ⟨by omega, by omega⟩
            try simp only [Int.zero_lt_one, forall_const] at hC0i
            have hne : 2 = 0 ∨ ¬ (C : Int) = 0 := by omega
            have HRd := Lib.hid hrd
            clear hC0 hrd hC0i
            rcases hne with h0 | hne
            · first
                | exact absurd h0 (by decide)
                | (go_wp2_with fail
                   refine bodyPost_ret (results_tmp3 rfl _ _ _) rfl ?_
                   rw [← HRd.out]
                   exact ⟨congrArg (fun x => Ending.returned (.tuple #[.int .u64 x, .int .i64 ((2 + 1 : Nat) : Int), .int .i64 0])) HSv.out, Chg.refl _ _⟩)
            · go_wp2_with fail
              all_goals try refine bodyPost_ret (results_tmp3 rfl _ _ _) rfl ?_
              all_goals rw [← HRd.out]
              all_goals exact ⟨congrArg (fun x => Ending.returned (.tuple #[.int .u64 x, .int .i64 ((2 + 1 : Nat) : Int), .int .i64 0])) HSv.out, Chg.refl _ _⟩
        · rw [if_neg hlt] at hrd
          have hlti : ¬ (C : Int) < 128 := by omega
          have hsv := sevens V C 2 hV hc256 (by omega)
          have hP : ((128 ^ 2 : Nat) : Int) = 16384 := by decide
          rw [hP] at hsv
          have HSv := Lib.hid hsv
          have HRd := Lib.hid hrd
          have HV := Lib.hid hV
          have HJ := Lib.hid hj
          clear hsv hP hrd
          go_wp2_with fail
          refine ⟨⟨2 + 1, V + C % 128 * 128 ^ 2, rfl, congrArg (Value.int .u64) HSv.out, by omega, ?_, ?_, trivial⟩, by simp [intOf]⟩
          · have h1 : C % 128 * 128 ^ 2 ≤ 127 * 128 ^ 2 := Nat.mul_le_mul_right _ (by omega)
            have h2 := HV.out
            rw [Nat.pow_succ]
            omega
          · rw [show 10 - (2 + 1) = j from by have := HJ.out; omega]
            exact HRd.out
      · rw [if_neg (by omega)] at hrd
        by_cases hlt : C < 128
        · rw [if_pos hlt] at hrd
          have hlti : (C : Int) < 128 := by omega
          have hsv := sevens V C 3 hV hc256 (by omega)
          have hP : ((128 ^ 3 : Nat) : Int) = 2097152 := by decide
          rw [hP, show C % 128 = C from Nat.mod_eq_of_lt hlt] at hsv
          have HSv := Lib.hid hsv
          clear hsv hP
          by_cases hC0 : C = 0 ∧ 0 < (3 : Nat)
          · rw [if_pos hC0] at hrd
            obtain ⟨hC0, hK0⟩ := hC0
            subst hC0
            subst hrd
            go_wp2_with fail
            refine bodyPost_ret (results_tmp3 rfl _ _ _) rfl ?_
            exact ⟨rfl, Chg.refl _ _⟩
          · rw [if_neg hC0] at hrd
            have hC0i : (0 : Int) < 3 → ¬ (C : Int) = 0 := fun h h' => hC0 ⟨by omega, by omega⟩
            try simp only [Int.zero_lt_one, forall_const] at hC0i
            have hne : 3 = 0 ∨ ¬ (C : Int) = 0 := by omega
            have HRd := Lib.hid hrd
            clear hC0 hrd hC0i
            rcases hne with h0 | hne
            · first
                | exact absurd h0 (by decide)
                | (go_wp2_with fail
                   refine bodyPost_ret (results_tmp3 rfl _ _ _) rfl ?_
                   rw [← HRd.out]
                   exact ⟨congrArg (fun x => Ending.returned (.tuple #[.int .u64 x, .int .i64 ((3 + 1 : Nat) : Int), .int .i64 0])) HSv.out, Chg.refl _ _⟩)
            · go_wp2_with fail
              all_goals try refine bodyPost_ret (results_tmp3 rfl _ _ _) rfl ?_
              all_goals rw [← HRd.out]
              all_goals exact ⟨congrArg (fun x => Ending.returned (.tuple #[.int .u64 x, .int .i64 ((3 + 1 : Nat) : Int), .int .i64 0])) HSv.out, Chg.refl _ _⟩
        · rw [if_neg hlt] at hrd
          have hlti : ¬ (C : Int) < 128 := by omega
          have hsv := sevens V C 3 hV hc256 (by omega)
          have hP : ((128 ^ 3 : Nat) : Int) = 2097152 := by decide
          rw [hP] at hsv
          have HSv := Lib.hid hsv
          have HRd := Lib.hid hrd
          have HV := Lib.hid hV
          have HJ := Lib.hid hj
          clear hsv hP hrd
          go_wp2_with fail
          refine ⟨⟨3 + 1, V + C % 128 * 128 ^ 3, rfl, congrArg (Value.int .u64) HSv.out, by omega, ?_, ?_, trivial⟩, by simp [intOf]⟩
          · have h1 : C % 128 * 128 ^ 3 ≤ 127 * 128 ^ 3 := Nat.mul_le_mul_right _ (by omega)
            have h2 := HV.out
            rw [Nat.pow_succ]
            omega
          · rw [show 10 - (3 + 1) = j from by have := HJ.out; omega]
            exact HRd.out
      · rw [if_neg (by omega)] at hrd
        by_cases hlt : C < 128
        · rw [if_pos hlt] at hrd
          have hlti : (C : Int) < 128 := by omega
          have hsv := sevens V C 4 hV hc256 (by omega)
          have hP : ((128 ^ 4 : Nat) : Int) = 268435456 := by decide
          rw [hP, show C % 128 = C from Nat.mod_eq_of_lt hlt] at hsv
          have HSv := Lib.hid hsv
          clear hsv hP
          by_cases hC0 : C = 0 ∧ 0 < (4 : Nat)
          · rw [if_pos hC0] at hrd
            obtain ⟨hC0, hK0⟩ := hC0
            subst hC0
            subst hrd
            go_wp2_with fail
            refine bodyPost_ret (results_tmp3 rfl _ _ _) rfl ?_
            exact ⟨rfl, Chg.refl _ _⟩
          · rw [if_neg hC0] at hrd
            have hC0i : (0 : Int) < 4 → ¬ (C : Int) = 0 := fun h h' => hC0 ⟨by omega, by omega⟩
            try simp only [Int.zero_lt_one, forall_const] at hC0i
            have hne : 4 = 0 ∨ ¬ (C : Int) = 0 := by omega
            have HRd := Lib.hid hrd
            clear hC0 hrd hC0i
            rcases hne with h0 | hne
            · first
                | exact absurd h0 (by decide)
                | (go_wp2_with fail
                   refine bodyPost_ret (results_tmp3 rfl _ _ _) rfl ?_
                   rw [← HRd.out]
                   exact ⟨congrArg (fun x => Ending.returned (.tuple #[.int .u64 x, .int .i64 ((4 + 1 : Nat) : Int), .int .i64 0])) HSv.out, Chg.refl _ _⟩)
            · go_wp2_with fail
              all_goals try refine bodyPost_ret (results_tmp3 rfl _ _ _) rfl ?_
              all_goals rw [← HRd.out]
              all_goals exact ⟨congrArg (fun x => Ending.returned (.tuple #[.int .u64 x, .int .i64 ((4 + 1 : Nat) : Int), .int .i64 0])) HSv.out, Chg.refl _ _⟩
        · rw [if_neg hlt] at hrd
          have hlti : ¬ (C : Int) < 128 := by omega
          have hsv := sevens V C 4 hV hc256 (by omega)
          have hP : ((128 ^ 4 : Nat) : Int) = 268435456 := by decide
          rw [hP] at hsv
          have HSv := Lib.hid hsv
          have HRd := Lib.hid hrd
          have HV := Lib.hid hV
          have HJ := Lib.hid hj
          clear hsv hP hrd
          go_wp2_with fail
          refine ⟨⟨4 + 1, V + C % 128 * 128 ^ 4, rfl, congrArg (Value.int .u64) HSv.out, by omega, ?_, ?_, trivial⟩, by simp [intOf]⟩
          · have h1 : C % 128 * 128 ^ 4 ≤ 127 * 128 ^ 4 := Nat.mul_le_mul_right _ (by omega)
            have h2 := HV.out
            rw [Nat.pow_succ]
            omega
          · rw [show 10 - (4 + 1) = j from by have := HJ.out; omega]
            exact HRd.out
      · rw [if_neg (by omega)] at hrd
        by_cases hlt : C < 128
        · rw [if_pos hlt] at hrd
          have hlti : (C : Int) < 128 := by omega
          have hsv := sevens V C 5 hV hc256 (by omega)
          have hP : ((128 ^ 5 : Nat) : Int) = 34359738368 := by decide
          rw [hP, show C % 128 = C from Nat.mod_eq_of_lt hlt] at hsv
          have HSv := Lib.hid hsv
          clear hsv hP
          by_cases hC0 : C = 0 ∧ 0 < (5 : Nat)
          · rw [if_pos hC0] at hrd
            obtain ⟨hC0, hK0⟩ := hC0
            subst hC0
            subst hrd
            go_wp2_with fail
            refine bodyPost_ret (results_tmp3 rfl _ _ _) rfl ?_
            exact ⟨rfl, Chg.refl _ _⟩
          · rw [if_neg hC0] at hrd
            have hC0i : (0 : Int) < 5 → ¬ (C : Int) = 0 := fun h h' => hC0 ⟨by omega, by omega⟩
            try simp only [Int.zero_lt_one, forall_const] at hC0i
            have hne : 5 = 0 ∨ ¬ (C : Int) = 0 := by omega
            have HRd := Lib.hid hrd
            clear hC0 hrd hC0i
            rcases hne with h0 | hne
            · first
                | exact absurd h0 (by decide)
                | (go_wp2_with fail
                   refine bodyPost_ret (results_tmp3 rfl _ _ _) rfl ?_
                   rw [← HRd.out]
                   exact ⟨congrArg (fun x => Ending.returned (.tuple #[.int .u64 x, .int .i64 ((5 + 1 : Nat) : Int), .int .i64 0])) HSv.out, Chg.refl _ _⟩)
            · go_wp2_with fail
              all_goals try refine bodyPost_ret (results_tmp3 rfl _ _ _) rfl ?_
              all_goals rw [← HRd.out]
              all_goals exact ⟨congrArg (fun x => Ending.returned (.tuple #[.int .u64 x, .int .i64 ((5 + 1 : Nat) : Int), .int .i64 0])) HSv.out, Chg.refl _ _⟩
        · rw [if_neg hlt] at hrd
          have hlti : ¬ (C : Int) < 128 := by omega
          have hsv := sevens V C 5 hV hc256 (by omega)
          have hP : ((128 ^ 5 : Nat) : Int) = 34359738368 := by decide
          rw [hP] at hsv
          have HSv := Lib.hid hsv
          have HRd := Lib.hid hrd
          have HV := Lib.hid hV
          have HJ := Lib.hid hj
          clear hsv hP hrd
          go_wp2_with fail
          refine ⟨⟨5 + 1, V + C % 128 * 128 ^ 5, rfl, congrArg (Value.int .u64) HSv.out, by omega, ?_, ?_, trivial⟩, by simp [intOf]⟩
          · have h1 : C % 128 * 128 ^ 5 ≤ 127 * 128 ^ 5 := Nat.mul_le_mul_right _ (by omega)
            have h2 := HV.out
            rw [Nat.pow_succ]
            omega
          · rw [show 10 - (5 + 1) = j from by have := HJ.out; omega]
            exact HRd.out
      · rw [if_neg (by omega)] at hrd
        by_cases hlt : C < 128
        · rw [if_pos hlt] at hrd
          have hlti : (C : Int) < 128 := by omega
          have hsv := sevens V C 6 hV hc256 (by omega)
          have hP : ((128 ^ 6 : Nat) : Int) = 4398046511104 := by decide
          rw [hP, show C % 128 = C from Nat.mod_eq_of_lt hlt] at hsv
          have HSv := Lib.hid hsv
          clear hsv hP
          by_cases hC0 : C = 0 ∧ 0 < (6 : Nat)
          · rw [if_pos hC0] at hrd
            obtain ⟨hC0, hK0⟩ := hC0
            subst hC0
            subst hrd
            go_wp2_with fail
            refine bodyPost_ret (results_tmp3 rfl _ _ _) rfl ?_
            exact ⟨rfl, Chg.refl _ _⟩
          · rw [if_neg hC0] at hrd
            have hC0i : (0 : Int) < 6 → ¬ (C : Int) = 0 := fun h h' => hC0 ⟨by omega, by omega⟩
            try simp only [Int.zero_lt_one, forall_const] at hC0i
            have hne : 6 = 0 ∨ ¬ (C : Int) = 0 := by omega
            have HRd := Lib.hid hrd
            clear hC0 hrd hC0i
            rcases hne with h0 | hne
            · first
                | exact absurd h0 (by decide)
                | (go_wp2_with fail
                   refine bodyPost_ret (results_tmp3 rfl _ _ _) rfl ?_
                   rw [← HRd.out]
                   exact ⟨congrArg (fun x => Ending.returned (.tuple #[.int .u64 x, .int .i64 ((6 + 1 : Nat) : Int), .int .i64 0])) HSv.out, Chg.refl _ _⟩)
            · go_wp2_with fail
              all_goals try refine bodyPost_ret (results_tmp3 rfl _ _ _) rfl ?_
              all_goals rw [← HRd.out]
              all_goals exact ⟨congrArg (fun x => Ending.returned (.tuple #[.int .u64 x, .int .i64 ((6 + 1 : Nat) : Int), .int .i64 0])) HSv.out, Chg.refl _ _⟩
        · rw [if_neg hlt] at hrd
          have hlti : ¬ (C : Int) < 128 := by omega
          have hsv := sevens V C 6 hV hc256 (by omega)
          have hP : ((128 ^ 6 : Nat) : Int) = 4398046511104 := by decide
          rw [hP] at hsv
          have HSv := Lib.hid hsv
          have HRd := Lib.hid hrd
          have HV := Lib.hid hV
          have HJ := Lib.hid hj
          clear hsv hP hrd
          go_wp2_with fail
          refine ⟨⟨6 + 1, V + C % 128 * 128 ^ 6, rfl, congrArg (Value.int .u64) HSv.out, by omega, ?_, ?_, trivial⟩, by simp [intOf]⟩
          · have h1 : C % 128 * 128 ^ 6 ≤ 127 * 128 ^ 6 := Nat.mul_le_mul_right _ (by omega)
            have h2 := HV.out
            rw [Nat.pow_succ]
            omega
          · rw [show 10 - (6 + 1) = j from by have := HJ.out; omega]
            exact HRd.out
      · rw [if_neg (by omega)] at hrd
        by_cases hlt : C < 128
        · rw [if_pos hlt] at hrd
          have hlti : (C : Int) < 128 := by omega
          have hsv := sevens V C 7 hV hc256 (by omega)
          have hP : ((128 ^ 7 : Nat) : Int) = 562949953421312 := by decide
          rw [hP, show C % 128 = C from Nat.mod_eq_of_lt hlt] at hsv
          have HSv := Lib.hid hsv
          clear hsv hP
          by_cases hC0 : C = 0 ∧ 0 < (7 : Nat)
          · rw [if_pos hC0] at hrd
            obtain ⟨hC0, hK0⟩ := hC0
            subst hC0
            subst hrd
            go_wp2_with fail
            refine bodyPost_ret (results_tmp3 rfl _ _ _) rfl ?_
            exact ⟨rfl, Chg.refl _ _⟩
          · rw [if_neg hC0] at hrd
            have hC0i : (0 : Int) < 7 → ¬ (C : Int) = 0 := fun h h' => hC0 ⟨by omega, by omega⟩
            try simp only [Int.zero_lt_one, forall_const] at hC0i
            have hne : 7 = 0 ∨ ¬ (C : Int) = 0 := by omega
            have HRd := Lib.hid hrd
            clear hC0 hrd hC0i
            rcases hne with h0 | hne
            · first
                | exact absurd h0 (by decide)
                | (go_wp2_with fail
                   refine bodyPost_ret (results_tmp3 rfl _ _ _) rfl ?_
                   rw [← HRd.out]
                   exact ⟨congrArg (fun x => Ending.returned (.tuple #[.int .u64 x, .int .i64 ((7 + 1 : Nat) : Int), .int .i64 0])) HSv.out, Chg.refl _ _⟩)
            · go_wp2_with fail
              all_goals try refine bodyPost_ret (results_tmp3 rfl _ _ _) rfl ?_
              all_goals rw [← HRd.out]
              all_goals exact ⟨congrArg (fun x => Ending.returned (.tuple #[.int .u64 x, .int .i64 ((7 + 1 : Nat) : Int), .int .i64 0])) HSv.out, Chg.refl _ _⟩
        · rw [if_neg hlt] at hrd
          have hlti : ¬ (C : Int) < 128 := by omega
          have hsv := sevens V C 7 hV hc256 (by omega)
          have hP : ((128 ^ 7 : Nat) : Int) = 562949953421312 := by decide
          rw [hP] at hsv
          have HSv := Lib.hid hsv
          have HRd := Lib.hid hrd
          have HV := Lib.hid hV
          have HJ := Lib.hid hj
          clear hsv hP hrd
          go_wp2_with fail
          refine ⟨⟨7 + 1, V + C % 128 * 128 ^ 7, rfl, congrArg (Value.int .u64) HSv.out, by omega, ?_, ?_, trivial⟩, by simp [intOf]⟩
          · have h1 : C % 128 * 128 ^ 7 ≤ 127 * 128 ^ 7 := Nat.mul_le_mul_right _ (by omega)
            have h2 := HV.out
            rw [Nat.pow_succ]
            omega
          · rw [show 10 - (7 + 1) = j from by have := HJ.out; omega]
            exact HRd.out
      · rw [if_neg (by omega)] at hrd
        by_cases hlt : C < 128
        · rw [if_pos hlt] at hrd
          have hlti : (C : Int) < 128 := by omega
          have hsv := sevens V C 8 hV hc256 (by omega)
          have hP : ((128 ^ 8 : Nat) : Int) = 72057594037927936 := by decide
          rw [hP, show C % 128 = C from Nat.mod_eq_of_lt hlt] at hsv
          have HSv := Lib.hid hsv
          clear hsv hP
          by_cases hC0 : C = 0 ∧ 0 < (8 : Nat)
          · rw [if_pos hC0] at hrd
            obtain ⟨hC0, hK0⟩ := hC0
            subst hC0
            subst hrd
            go_wp2_with fail
            refine bodyPost_ret (results_tmp3 rfl _ _ _) rfl ?_
            exact ⟨rfl, Chg.refl _ _⟩
          · rw [if_neg hC0] at hrd
            have hC0i : (0 : Int) < 8 → ¬ (C : Int) = 0 := fun h h' => hC0 ⟨by omega, by omega⟩
            try simp only [Int.zero_lt_one, forall_const] at hC0i
            have hne : 8 = 0 ∨ ¬ (C : Int) = 0 := by omega
            have HRd := Lib.hid hrd
            clear hC0 hrd hC0i
            rcases hne with h0 | hne
            · first
                | exact absurd h0 (by decide)
                | (go_wp2_with fail
                   refine bodyPost_ret (results_tmp3 rfl _ _ _) rfl ?_
                   rw [← HRd.out]
                   exact ⟨congrArg (fun x => Ending.returned (.tuple #[.int .u64 x, .int .i64 ((8 + 1 : Nat) : Int), .int .i64 0])) HSv.out, Chg.refl _ _⟩)
            · go_wp2_with fail
              all_goals try refine bodyPost_ret (results_tmp3 rfl _ _ _) rfl ?_
              all_goals rw [← HRd.out]
              all_goals exact ⟨congrArg (fun x => Ending.returned (.tuple #[.int .u64 x, .int .i64 ((8 + 1 : Nat) : Int), .int .i64 0])) HSv.out, Chg.refl _ _⟩
        · rw [if_neg hlt] at hrd
          have hlti : ¬ (C : Int) < 128 := by omega
          have hsv := sevens V C 8 hV hc256 (by omega)
          have hP : ((128 ^ 8 : Nat) : Int) = 72057594037927936 := by decide
          rw [hP] at hsv
          have HSv := Lib.hid hsv
          have HRd := Lib.hid hrd
          have HV := Lib.hid hV
          have HJ := Lib.hid hj
          clear hsv hP hrd
          go_wp2_with fail
          refine ⟨⟨8 + 1, V + C % 128 * 128 ^ 8, rfl, congrArg (Value.int .u64) HSv.out, by omega, ?_, ?_, trivial⟩, by simp [intOf]⟩
          · have h1 : C % 128 * 128 ^ 8 ≤ 127 * 128 ^ 8 := Nat.mul_le_mul_right _ (by omega)
            have h2 := HV.out
            rw [Nat.pow_succ]
            omega
          · rw [show 10 - (8 + 1) = j from by have := HJ.out; omega]
            exact HRd.out
      · by_cases h1c : 1 < C
        · have h1i : (1 : Int) < (C : Int) := by omega
          rw [if_pos ⟨rfl, h1c⟩] at hrd
          subst hrd
          go_wp2_with fail
          refine bodyPost_ret (results_tmp3 rfl _ _ _) rfl ?_
          exact ⟨rfl, Chg.refl _ _⟩
        · have h1i : ¬ (1 : Int) < (C : Int) := by omega
          rw [if_neg (fun h => h1c h.2)] at hrd
          have hlt : C < 128 := by omega
          rw [if_pos hlt] at hrd
          have hlti : (C : Int) < 128 := by omega
          have hsv := sevens V C 9 hV hc256 (by omega)
          have hP : ((128 ^ 9 : Nat) : Int) = 9223372036854775808 := by decide
          rw [hP, show C % 128 = C from Nat.mod_eq_of_lt hlt] at hsv
          have HSv := Lib.hid hsv
          clear hsv hP
          by_cases hC0 : C = 0 ∧ 0 < (9 : Nat)
          · rw [if_pos hC0] at hrd
            obtain ⟨hC0, hK0⟩ := hC0
            subst hC0
            subst hrd
            go_wp2_with fail
            refine bodyPost_ret (results_tmp3 rfl _ _ _) rfl ?_
            exact ⟨rfl, Chg.refl _ _⟩
          · rw [if_neg hC0] at hrd
            have hC0i : (0 : Int) < 9 → ¬ (C : Int) = 0 := fun h h' => hC0 ⟨by omega, by omega⟩
            try simp only [Int.zero_lt_one, forall_const] at hC0i
            have hne : 9 = 0 ∨ ¬ (C : Int) = 0 := by omega
            have HRd := Lib.hid hrd
            clear hC0 hrd hC0i
            rcases hne with h0 | hne
            · first
                | exact absurd h0 (by decide)
                | (go_wp2_with fail
                   refine bodyPost_ret (results_tmp3 rfl _ _ _) rfl ?_
                   rw [← HRd.out]
                   exact ⟨congrArg (fun x => Ending.returned (.tuple #[.int .u64 x, .int .i64 ((9 + 1 : Nat) : Int), .int .i64 0])) HSv.out, Chg.refl _ _⟩)
            · go_wp2_with fail
              all_goals try refine bodyPost_ret (results_tmp3 rfl _ _ _) rfl ?_
              all_goals rw [← HRd.out]
              all_goals exact ⟨congrArg (fun x => Ending.returned (.tuple #[.int .u64 x, .int .i64 ((9 + 1 : Nat) : Int), .int .i64 0])) HSv.out, Chg.refl _ _⟩
    · have hkli : (b.length : Int) ≤ (k : Int) := by omega
      rw [List.drop_eq_nil_of_le (by omega), rdN] at hrd
      subst hrd
      go_wp2_with fail
      refine bodyPost_ret (results_tmp3 rfl _ _ _) rfl ?_
      exact ⟨rfl, Chg.refl _ _⟩
  · have hki : ¬ (k : Int) < 10 := by omega
    obtain rfl : k = 10 := by omega
    rw [show 10 - 10 = 0 from rfl, rdN] at hrd
    subst hrd
    go_wp2_with fail
    refine bodyPost_ret (results_tmp3 rfl _ _ _) rfl ?_
    exact ⟨rfl, Chg.refl _ _⟩

end Go.Proofs.YtbjagmlbamjdbaaGreat.kvs
end

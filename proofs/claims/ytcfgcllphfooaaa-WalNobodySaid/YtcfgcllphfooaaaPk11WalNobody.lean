/-
  frame: Read of a frame that is whole.
-/
import Derived.Test.YtcfgcllphfooaaaPk4WalNobody
import Derived.Test.YtcfgcllphfooaaaPk10WalNobody
import Derived.Defers
import Derived.Recover

section
namespace Go.Proofs.Ytcfgcllphfooaaa.wals
open Go.RowKit Go.My disks bufs
set_option maxRecDepth 100000

theorem read_idle (a1 a2 a3 : Value) (w : World) :
    CallsD Try.prog 78 #[a1, a2, a3] .returning w fun e u' w' => e = .returned (.tuple #[]) ∧ u' = .returning ∧ w' = w := by
  refine callsD_of_wpS Try.func78 rfl fun c₀ cs hu => ?_
  apply wpS_seq
  apply wpS_region
  simp [wpOpsS, go_sem, recoverD, hu, Try.ntmps78, Exit.thenS]
  apply wpS_seq
  apply wpS_region
  simp [wpOpsS, go_sem, Exit.thenS]
  refine wpS_cond (t := false) (by simp [Act.eval, Array.replicate]) ?_
  simp only [Bool.false_eq_true, if_false]
  refine wpS_of_wp (wp_skip ?_)
  cases c₀
  simp_all [bodyPostS, results, Try.results78]



set_option maxHeartbeats 1000000 in
theorem frame_read (w : World) (oa : Option Addr) (n cap : Nat) (b r : Blk) (hs : SlAt w (.slice oa n cap) (cellsB b)) (hb : b.length ≤ 1000000) (hcap : b.length ≤ cap)
    (h4 : 4 ≤ b.length) (hr : r.length ≤ 4096) (hl : ofLe (b.take 4) = r.length) (h8 : r.length + 8 ≤ b.length) (hbd : (b.drop 4).take r.length = r) (hcs : ofLe ((b.drop (4 + r.length)).take 4) = crcF (b.take (4 + r.length))) :
    Calls Try.prog 66 #[.slice oa n cap] w fun e w' => ∃ v, e = .returned (.tuple #[v, .int .i64 ((r.length + 8 : Nat) : Int), .int .i64 0]) ∧ w'.ownsRow w.heap.size 5 1 v r.length (cellsB r) ∧ Chg (fun _ => False) w w' := by
  have hmf : ∀ (fn : Fn) (first cap : Array Value) (w : World), (Instr.makeFunc fn first cap).run Try.prog w = .ok (.func fn first cap) w := fun _ _ _ _ => rfl
  obtain ⟨g, off, rfl⟩ : ∃ g off, oa = some ⟨g, off, none⟩ := by
    obtain ⟨oa', cap', e1, e2, e3⟩ := hs
    simp only [Value.slice.injEq] at e1
    rw [e1.1]
    exact e2 (by intro e; have := congrArg List.length e; rw [cellsB_length] at this; simp at this; rw [this] at h4; simp at h4)
  have hgl : g < w.heap.size := by
    obtain ⟨b', off', e, -, hc⟩ := hs.cell (k := 0) (by rw [cellsB_length]; omega)
    cases e
    exact World.block_lt_of_cell? _ _ hc
  obtain rfl := slat_len hs
  obtain ⟨rr, hrr⟩ : ∃ rr, w.heap.size + 1 + 1 + 1 = rr := ⟨_, rfl⟩
  obtain ⟨w0, hw0⟩ : ∃ w0, ((w.alloc (.cells #[.slice none 0 0] 39)).alloc (.cells #[.int .i64 0] 3)).alloc (.cells #[.int .i64 0] 24) = w0 := ⟨_, rfl⟩
  have h0 : w0.heap.size = rr := by rw [← hw0, ← hrr]; simp only [World.size_alloc]
  have hc0 : Chg (fun _ => False) w w0 := by rw [← hw0]; exact chg3
  have hb1 : Arr w0 w.heap.size 39 [.slice none 0 0] := by rw [← hw0]; exact at3_0
  have hb2 : Arr w0 (w.heap.size + 1) 3 [.int .i64 0] := by rw [← hw0]; exact at3_1
  have hb3 : Arr w0 (w.heap.size + 1 + 1) 24 [.int .i64 0] := by rw [← hw0]; exact at3_2
  obtain ⟨w1, hw1⟩ : ∃ w1, w0.alloc (.cells #[.slice (some ⟨g, off, none⟩) b.length cap, .int .i64 0] 140) = w1 := ⟨_, rfl⟩
  have hc1 : Chg (fun _ => False) w0 w1 := by rw [← hw1]; exact (Chg.refl _ _).alloc _
  have hr1 : Rd w1 rr (.slice (some ⟨g, off, none⟩) b.length cap) 0 := by rw [← hw1, ← h0]; exact at1
  have hf := four_any w1 rr g off b.length cap 0 b hr1 ((hs.kept hc0).kept hc1) hb hcap (by omega) (by omega)
  rw [List.drop_zero, hl, Nat.zero_add] at hf
  have HF := Lib.hid hf
  have HRr := Lib.hid hrr
  have HW0 := Lib.hid hw0
  have HW1 := Lib.hid hw1
  have HB1 := Lib.hid (hc1.at hb1 id)
  have HB2 := Lib.hid (hc1.at hb2 id)
  have HB3 := Lib.hid (hc1.at hb3 id)
  have HC1 := Lib.hid (hc0.trans' hc1)
  have HS1 := Lib.hid ((hs.kept hc0).kept hc1)
  have HN := Lib.hid (And.intro hb (And.intro hcap (And.intro h8 hgl)))
  have HBd := Lib.hid hbd
  have HCs := Lib.hid hcs
  have HRl := Lib.hid hr
  have i1 : (r.length : Int) ≤ 4096 := by omega
  have i2 : (r.length : Int) + 8 ≤ (b.length : Int) := by omega
  have i3 : (b.length : Int) ≤ (cap : Int) := by omega
  have i4 : (b.length : Int) ≤ 1000000 := by omega
  clear hf hw0 hw1 hb1 hb2 hb3 hc0 hc1 hs hb hcap h4 hr hl h8 hbd hcs hgl h0 hr1
  go_enter_defers Try.func66, Try.ntmps66
  go_wp2_with fail
  rw [HW0.out, HW1.out]
  clear hrr
  refine HF.out.mono ?_
  rintro e w2 ⟨rfl, hr2, hc2⟩
  have hlt2 : rr < w1.heap.size := by rw [← HW1.out, World.size_alloc, ← HW0.out, ← HRr.out]; simp only [World.size_alloc]; omega
  have hne : ∀ k, k < w.heap.size + 1 + 1 + 1 → ¬ (· = rr) k := fun k hk e => by have e : k = rr := e; have := HRr.out; omega
  have HNe := Lib.hid hne
  have hs2 := slat_but HS1.out hc2 (fun x hx => by cases hx; exact hne g (by have := HN.out; omega))
  have ht := take_any w2 rr g off b.length cap 4 r.length b hr2 hs2 (by have := HN.out; omega) (by have := HN.out; omega) (by have := HN.out; omega) (fun e => hne g (by have := HN.out; omega) e)
  rw [HBd.out] at ht
  have HT := Lib.hid ht
  have HB21 := Lib.hid (hc2.at HB1.out (hne _ (by omega)))
  have HB22 := Lib.hid (hc2.at HB2.out (hne _ (by omega)))
  have HB23 := Lib.hid (hc2.at HB3.out (hne _ (by omega)))
  have HC2 := Lib.hid hc2
  have HS2 := Lib.hid hs2
  clear ht hr2 hc2 hs2 hlt2 hne HF HW0 HW1 HB1 HB2 HB3 HS1
  dsimp only
  go_wp2_with (first
    | (go_at_call 80; fail))
  refine HT.out.mono ?_
  rintro e w3 ⟨⟨oa3, rfl, hs3, hg3⟩, hr3, hc3⟩
  have a3 := hc3.at HB21.out (HNe.out _ (by omega))
  have c3 : w3.cell? ⟨w.heap.size, 0, none⟩ = some (.slice none 0 0) := Arr.cell a3 rfl
  have z3 : w3.frozen? ⟨w.heap.size, 0, none⟩ = false := Arr.free a3
  have hsz : w.heap.size < rr := by have := HRr.out; omega
  obtain ⟨w4, hw4⟩ : ∃ w4, w3.setCell ⟨w.heap.size, 0, none⟩ (.slice oa3 r.length r.length) = w4 := ⟨_, rfl⟩
  have hc4 : Chg (· = w.heap.size) w3 w4 := by rw [← hw4]; exact Chg.setCell (S := (· = w.heap.size)) (Chg.refl _ _) (fun _ => rfl) _
  have a4 : Arr w4 w.heap.size 39 [.slice oa3 r.length r.length] := by rw [← hw4]; exact Arr.set a3 0 _
  have hr4 : Rd w4 rr (.slice (some ⟨g, off, none⟩) b.length cap) (4 + r.length) := hc4.at hr3 (fun e => by have e : rr = w.heap.size := e; omega)
  have hs4 : SlAt w4 (.slice (some ⟨g, off, none⟩) b.length cap) (cellsB b) := slat_but (slat_but HS2.out hc3 (fun x hx => by cases hx; exact HNe.out g (by have := HN.out; omega))) hc4 (fun x hx e => by cases hx; have e : g = w.heap.size := e; have := HN.out; omega)
  have hown3 : ∀ g', (Value.slice oa3 r.length r.length).ownBlock = some g' → g' ≠ w.heap.size := fun x hx e => by
    cases oa3 with
    | none => simp [Value.ownBlock] at hx
    | some a =>
      have h1 := hg3 a rfl
      simp only [Value.ownBlock, Option.some.injEq] at hx
      have := HN.out
      omega
  have hv4 := slat_but hs3 hc4 hown3
  obtain ⟨q, hq⟩ : ∃ q, 4 + r.length = q := ⟨_, rfl⟩
  have hf := fun w' (h1 : Rd w' rr (.slice (some ⟨g, off, none⟩) b.length cap) (4 + r.length)) (h2 : SlAt w' (.slice (some ⟨g, off, none⟩) b.length cap) (cellsB b)) => four_any w' rr g off b.length cap (4 + r.length) b h1 h2 (by have := HN.out; omega) (by have := HN.out; omega) (by have := HN.out; omega) (HNe.out g (by have := HN.out; omega))
  have hsum := fun w' (h2 : SlAt w' (.slice (some ⟨g, off, none⟩) b.length cap) (cellsB b)) => sum_any w' _ _ cap _ (slat_sub h2 g off 0 (4 + r.length) cap rfl (by have := HN.out; omega)) (by rw [List.length_take, List.length_drop]; have := HN.out; omega)
  rw [HCs.out] at hf
  rw [List.drop_zero, Nat.add_zero] at hsum
  rw [hq] at hf hsum hr4
  have i6 : (q : Int) ≤ 4100 := by omega
  have i7 : (q : Int) ≤ (b.length : Int) := by omega
  have HFo := Lib.hid hf
  have HSu := Lib.hid hsum
  have HA4 := Lib.hid a4
  have HR4 := Lib.hid hr4
  have HS4 := Lib.hid hs4
  have HV4 := Lib.hid hv4
  have HOw : Hid (∀ x, (Value.slice oa3 r.length r.length).ownBlock = some x → ¬ (· = rr) x) := Lib.hid (fun x hx => by
    cases oa3 with
    | none => simp [Value.ownBlock] at hx
    | some a =>
      have h1 := hg3 a rfl
      simp only [Value.ownBlock, Option.some.injEq] at hx
      exact HNe.out x (by have := HN.out; omega))
  have HW4 := Lib.hid hw4
  have HQ := Lib.hid hq
  have HC4 : Hid (Chg (fun _ => False) w w4) := Lib.hid (((((HC1.out.new HC2.out (fun i e => by have e : i = rr := e; omega)).new hc3 (fun i e => by have e : i = rr := e; omega)).new hc4 (fun i e => by have e : i = w.heap.size := e; omega))))
  have HB42 := Lib.hid (hc4.at (hc3.at HB22.out (HNe.out _ (by omega))) (by omega))
  have HB43 := Lib.hid (hc4.at (hc3.at HB23.out (HNe.out _ (by omega))) (by omega))
  have d4 : (w3.setCell ⟨w.heap.size, 0, none⟩ (.slice oa3 r.length r.length)).cell? ⟨rr, 1, none⟩ = some (.int .i64 (q : Int)) := by rw [hw4]; exact hr4.cell rfl
  have hcl : q + 4 = r.length + 8 := by omega
  have HCl := Lib.hid hcl
  clear hg3 hcl
  clear hf hsum a4 hr4 hs4 hv4 hw4 hq hc4 hown3 hs3 hr3 hc3 a3 HT HB21 HB22 HB23 HC1 HC2 HS2 HCs
  dsimp only
  go_wp2_with fail
  rw [HW4.out]
  clear c3 z3 d4 HW4
  have hqc : q ≤ cap := by have := HN.out; have := HQ.out; omega
  have hd4 : Chg (fun _ => False) w4 w4.drew := (Chg.refl _ w4).drew
  have HF4 := Lib.hid (HFo.out _ (hd4.at HR4.out id) (HS4.out.kept hd4))
  have HU4 := Lib.hid (HSu.out _ (HS4.out.kept hd4))
  clear hd4
  refine wp_region_noPanic ?_
  refine wp_region_held_drew (S := (fun _ => True)) (by kernel_rfl) (trivial) (fun hHeld => ?_)
  refine take_list (i := 0) (v := ?_) rfl (by kernel_rfl) (by kernel_rfl) (by kernel_rfl) (fun _ _ _ h => h) (Or.inl ⟨by rfl, fun w hSw => ?_⟩) hHeld ?_
  rotate_left
  · (skip; go_simp)
    try with_reducible rfl
  simp only [Act.put, List.setIfInBounds_toArray, List.set_cons_zero, List.set_cons_succ]
  refine take_list (i := 2) (v := ?_) rfl (by kernel_rfl) (by kernel_rfl) (by kernel_rfl) (fun _ _ _ h => h) (Or.inl ⟨by rfl, fun w hSw => ?_⟩) hHeld ?_
  rotate_left
  · (skip; go_simp)
    try with_reducible rfl
  simp only [Act.put, List.setIfInBounds_toArray, List.set_cons_zero, List.set_cons_succ]
  refine take_list (i := 3) (v := ?_) rfl (by kernel_rfl) (by kernel_rfl) (by kernel_rfl) (fun _ _ _ h => h) (Or.inl ⟨by rfl, fun w hSw => ?_⟩) hHeld ?_
  rotate_left
  · (skip; go_simp)
    try with_reducible rfl
  simp only [Act.put, List.setIfInBounds_toArray, List.set_cons_zero, List.set_cons_succ]
  refine take_list (i := 4) (v := ?_) rfl (by kernel_rfl) (by kernel_rfl) (by kernel_rfl) (fun _ _ _ h => h) (Or.inl ⟨by rfl, fun w hSw => ?_⟩) hHeld ?_
  rotate_left
  · (skip; go_simp)
    try with_reducible rfl
  simp only [Act.put, List.setIfInBounds_toArray, List.set_cons_zero, List.set_cons_succ]
  refine wpAnyH_ready (rs := [1]) (by kernel_rfl) (by simp) (one_list (i := 1) rfl (by rfl) (fun K hK => ?_) AllReadyH.nil)
  go_simp
  refine HF4.out.mono ?_
  rintro e w5 ⟨rfl, hr5, hc5⟩
  have hc5 := (Chg.refl _ w4).drew.trans' hc5
  have hs5 := slat_but HS4.out hc5 (fun x hx => by cases hx; exact HNe.out g (by have := HN.out; omega))
  have HR5 := Lib.hid hr5
  have HC5 := Lib.hid hc5
  have HS5 := Lib.hid hs5
  clear hr5 hc5 hs5
  dsimp only
  refine hK _ _ (trivial) (fun hH2 => ?_)
  try simp only [Act.put, List.setIfInBounds_toArray, List.set_cons_zero, List.set_cons_succ]
  refine wpAnyH_ready (rs := [5]) (by kernel_rfl) (by simp) (one_list (i := 5) rfl (by rfl) (fun K hK => ?_) AllReadyH.nil)
  go_simp
  refine (HSu.out _ HS5.out).mono ?_
  rintro e w6 ⟨rfl, rfl⟩
  dsimp only
  refine hK _ _ (trivial) (fun hH3 => ?_)
  try simp only [Act.put, List.setIfInBounds_toArray, List.set_cons_zero, List.set_cons_succ]
  refine take_list (i := 6) (v := ?_) rfl (by kernel_rfl) (by kernel_rfl) (by kernel_rfl) (fun _ _ _ h => h) (Or.inl ⟨by rfl, fun w hSw => ?_⟩) hH3 ?_
  rotate_left
  · (skip; go_simp)
    try with_reducible rfl
  simp only [Act.put, List.setIfInBounds_toArray, List.set_cons_zero, List.set_cons_succ]
  refine wpAnyH_done (by kernel_rfl) ?_ _
  refine NoPanic.normal ?_
  clear hHeld hH2 hH3 hK
  have d5 : w5.cell? ⟨rr, 1, none⟩ = some (.int .i64 ((q : Int) + 4)) := HR5.out.cell (by rw [show ((q : Int) + 4) = ((q + 4 : Nat) : Int) by omega]; rfl)
  go_wp2_with fail
  obtain ⟨wd, hwd⟩ : ∃ wd, w5.drew = wd := ⟨_, rfl⟩
  have hcd : Chg (fun _ => False) w5 wd := by rw [← hwd]; exact (Chg.refl _ _).drew
  have hc6 : Chg (fun _ => False) wd (wd.alloc (.cells #[] 5)) := (Chg.refl _ _).alloc _
  have a5 := (HC5.out.at HA4.out (HNe.out _ (by omega)))
  have ad := hcd.at a5 id
  have a6 := hc6.at ad id
  have cd1 : wd.cell? ⟨w.heap.size, 0, none⟩ = some (.slice oa3 r.length r.length) := Arr.cell ad rfl
  have c6 : (wd.alloc (.cells #[] 5)).cell? ⟨w.heap.size, 0, none⟩ = some (.slice oa3 r.length r.length) := Arr.cell a6 rfl
  have hv6 := (slat_but HV4.out HC5.out HOw.out).kept (hcd.trans' hc6)
  have hsz6 : w.heap.size < wd.heap.size := lt_of_block ad
  have ho6 : (wd.alloc (.cells #[] 5)).ownsRow wd.heap.size 5 1 (.slice (some ⟨wd.heap.size, 0, none⟩) 0 0) 0 (cellsB []) := own_of_block (n := 0) at1 (Nat.le_refl _) rfl (by unfold maxLen; omega)
  obtain ⟨v7, w7, hr7, ho7, hg7⟩ := append_step ho6 hv6 (by rw [World.size_alloc]; omega) (by have := HRl.out; simp; omega) 39
  rw [List.nil_append] at ho7
  obtain ⟨oa7, cap7, rfl⟩ := own_slice ho7
  have hd6 : (wd.alloc (.cells #[] 5)).cell? ⟨rr, 1, none⟩ = some (.int .i64 ((q : Int) + 4)) := hc6.cell (hcd.cell d5 id) id
  have HR7 := Lib.hid hr7
  have HDd := Lib.hid (show wd.cell? ⟨rr, 1, none⟩ = some (.int .i64 ((q : Int) + 4)) from hcd.cell d5 id)
  have hold : ∀ k, k < wd.heap.size → (Value.slice (some ⟨wd.heap.size, 0, none⟩) 0 0).ownBlock ≠ some k := fun k hk e => by simp only [Value.ownBlock, Option.some.injEq] at e; omega
  have hszk : rr < wd.heap.size := by have h1 := lt_of_block (hcd.at HR5.out id); omega
  have hrd7 : Rd w7 rr (.slice (some ⟨g, off, none⟩) b.length cap) (q + 4) := hg7.at (hc6.at (hcd.at HR5.out id) id) (by omega)
  have a71 : Arr w7 w.heap.size 39 [.slice oa3 r.length r.length] := hg7.at a6 (by omega)
  have a72 : Arr w7 (w.heap.size + 1) 3 [.int .i64 0] := hg7.at (hc6.at (hcd.at (HC5.out.at HB42.out (HNe.out _ (by omega))) id) id) (by have := HRr.out; omega)
  have a73 : Arr w7 (w.heap.size + 1 + 1) 24 [.int .i64 0] := hg7.at (hc6.at (hcd.at (HC5.out.at HB43.out (HNe.out _ (by omega))) id) id) (by have := HRr.out; omega)
  have hrr := HRr.out
  obtain ⟨w8, hw8⟩ : ∃ w8, w7.setCell ⟨w.heap.size, 0, none⟩ (.slice oa7 r.length cap7) = w8 := ⟨_, rfl⟩
  have hc8 : Chg (· = w.heap.size) w7 w8 := by rw [← hw8]; exact Chg.setCell (S := (· = w.heap.size)) (Chg.refl _ _) (fun _ => rfl) _
  have a81 : Arr w8 w.heap.size 39 [.slice oa7 r.length cap7] := by rw [← hw8]; exact Arr.set a71 0 _
  have a82 := hc8.at a72 (by omega)
  have a83 := hc8.at a73 (by omega)
  obtain ⟨w9, hw9⟩ : ∃ w9, w8.setCell ⟨w.heap.size + 1, 0, none⟩ (.int .i64 ((q : Int) + 4)) = w9 := ⟨_, rfl⟩
  have hc9 : Chg (· = w.heap.size + 1) w8 w9 := by rw [← hw9]; exact Chg.setCell (S := (· = w.heap.size + 1)) (Chg.refl _ _) (fun _ => rfl) _
  have a92 : Arr w9 (w.heap.size + 1) 3 [.int .i64 ((q : Int) + 4)] := by rw [← hw9]; exact Arr.set a82 0 _
  have a91 := hc9.at a81 (by omega)
  have a93 := hc9.at a83 (by omega)
  obtain ⟨w10, hw10⟩ : ∃ w10, w9.setCell ⟨w.heap.size + 1 + 1, 0, none⟩ (.int .i64 0) = w10 := ⟨_, rfl⟩
  have hc10 : Chg (· = w.heap.size + 1 + 1) w9 w10 := by rw [← hw10]; exact Chg.setCell (S := (· = w.heap.size + 1 + 1)) (Chg.refl _ _) (fun _ => rfl) _
  have aa3 : Arr w10 (w.heap.size + 1 + 1) 24 [.int .i64 0] := by rw [← hw10]; exact Arr.set a93 0 _
  have aa1 := hc10.at a91 (by omega)
  have aa2 := hc10.at a92 (by omega)
  have hd8 := hc8.at hrd7 (by omega)
  have hd9 := hc9.at hd8 (by omega)
  have hda := hc10.at hd9 (by omega)
  have hdc : ∀ {w'}, Rd w' rr (.slice (some ⟨g, off, none⟩) b.length cap) (q + 4) → w'.cell? ⟨rr, 1, none⟩ = some (.int .i64 ((q : Int) + 4)) := fun h => Arr.cell h (by rw [show ((q : Int) + 4) = ((q + 4 : Nat) : Int) by omega]; rfl)
  have HD7 := Lib.hid (hdc hrd7)
  have HD8 := Lib.hid (hdc hd8)
  have HD9 := Lib.hid (hdc hd9)
  have HD10 := Lib.hid (hdc hda)
  have HW8 := Lib.hid hw8
  have HW9 := Lib.hid hw9
  have HW10 := Lib.hid hw10
  have c7 : w7.cell? ⟨w.heap.size, 0, none⟩ = some (.slice oa3 r.length r.length) := Arr.cell a71 rfl
  have z7 : w7.frozen? ⟨w.heap.size, 0, none⟩ = false := Arr.free a71
  have c8 : w8.cell? ⟨w.heap.size + 1, 0, none⟩ = some (.int .i64 0) := Arr.cell a82 rfl
  have z8 : w8.frozen? ⟨w.heap.size + 1, 0, none⟩ = false := Arr.free a82
  have c9 : w9.cell? ⟨w.heap.size + 1 + 1, 0, none⟩ = some (.int .i64 0) := Arr.cell a93 rfl
  have z9 : w9.frozen? ⟨w.heap.size + 1 + 1, 0, none⟩ = false := Arr.free a93
  have e1 : w10.cell? ⟨w.heap.size, 0, none⟩ = some (.slice oa7 r.length cap7) := Arr.cell aa1 rfl
  have e2 : w10.cell? ⟨w.heap.size + 1, 0, none⟩ = some (.int .i64 ((q : Int) + 4)) := Arr.cell aa2 rfl
  have e3 : w10.cell? ⟨w.heap.size + 1 + 1, 0, none⟩ = some (.int .i64 0) := Arr.cell aa3 rfl
  have E1 := Lib.hid (And.intro e1 (And.intro e2 e3))
  have hC6 : Chg (fun _ => False) w (wd.alloc (.cells #[] 5)) := ((HC4.out.new HC5.out (fun i e => by have e : i = rr := e; omega)).trans' hcd).trans' hc6
  have hC10 : Chg (fun _ => False) w w10 := (((hC6.new hg7 (fun i e => by omega)).new hc8 (fun i e => by have e : i = w.heap.size := e; omega)).new hc9 (fun i e => by have e : i = w.heap.size + 1 := e; omega)).new hc10 (fun i e => by have e : i = w.heap.size + 1 + 1 := e; omega)
  have HC10 := Lib.hid hC10
  have HO7 := Lib.hid ho7
  have HK8 := Lib.hid hc8
  have HK9 := Lib.hid hc9
  have HK10 := Lib.hid hc10
  have HSz := Lib.hid hsz6
  have HSr := Lib.hid hszk
  clear hold hszk hrd7 a71 a72 a73 hc8 a81 a82 a83 hc9 a92 a91 a93 hc10 aa3 aa1 aa2 hd8 hd9 hda hdc hw8 hw9 hw10 hC10 hC6 hrr e1 e2 e3 hg7 ho7 hsz6 hcd hc6 a5
  have HD6 := Lib.hid hd6
  refine wp_region_noPanic ?_
  refine wp_region_held_drew (S := (fun w' => w'.cell? ⟨rr, 1, none⟩ = some (.int .i64 ((q : Int) + 4)))) (by kernel_rfl) (((Chg.refl (fun _ => False) _).drew.cell d5 id)) (fun hHeld => ?_)
  rw [hwd] at hHeld ⊢
  clear hr7 hd6 d5 ho6 hv6 ad a6 hwd
  refine take_list (i := 3) (v := ?_) rfl (by kernel_rfl) (by kernel_rfl) (by kernel_rfl) (fun _ _ _ h => h) (Or.inl ⟨by rfl, fun w hSw => ?_⟩) hHeld ?_
  rotate_left
  · (skip; go_simp)
    try with_reducible rfl
  simp only [Act.put, List.setIfInBounds_toArray, List.set_cons_zero, List.set_cons_succ]
  refine take_list (i := 4) (v := ?_) rfl (by kernel_rfl) (by kernel_rfl) (by kernel_rfl) (fun _ _ _ h => h) (Or.inl ⟨by rfl, fun w hSw => ?_⟩) hHeld ?_
  rotate_left
  · (skip; go_simp)
    try with_reducible rfl
  simp only [Act.put, List.setIfInBounds_toArray, List.set_cons_zero, List.set_cons_succ]
  refine take_list (i := 5) (v := ?_) rfl (by kernel_rfl) (by kernel_rfl) (by kernel_rfl) (fun _ _ _ h => h) (Or.inl ⟨by rfl, fun w hSw => ?_⟩) hHeld ?_
  rotate_left
  · (skip; go_simp)
    try with_reducible rfl
  simp only [Act.put, List.setIfInBounds_toArray, List.set_cons_zero, List.set_cons_succ]
  refine take_list (i := 6) (v := ?_) rfl (by kernel_rfl) (by kernel_rfl) (by kernel_rfl) (fun _ _ _ h => h) (Or.inl ⟨by rfl, fun w hSw => ?_⟩) hHeld ?_
  rotate_left
  · (skip; go_simp)
    try with_reducible rfl
  simp only [Act.put, List.setIfInBounds_toArray, List.set_cons_zero, List.set_cons_succ]
  refine wpAnyH_ready (rs := [0, 1]) (by kernel_rfl) (by simp) (one_list (i := 0) rfl (by rfl) (fun K hK => ?_) (one_list (i := 1) rfl (by rfl) (fun K hK => ?_) AllReadyH.nil))
  · go_simp
    refine hK _ _ (HD6.out) (fun hH2 => ?_)
    try simp only [Act.put, List.setIfInBounds_toArray, List.set_cons_zero, List.set_cons_succ]
    refine wpAnyH_ready (rs := [1]) (by kernel_rfl) (by simp) (one_list (i := 1) rfl (by rfl) (fun K hK => ?_) AllReadyH.nil)
    go_simp
    refine hK _ _ (HD6.out) (fun hH3 => ?_)
    try simp only [Act.put, List.setIfInBounds_toArray, List.set_cons_zero, List.set_cons_succ]
    refine wpAnyH_ready (rs := [2]) (by kernel_rfl) (by simp) (one_list (i := 2) rfl (by rfl) (fun K hK => ?_) AllReadyH.nil)
    refine oper_append _ _ _ rfl rfl rfl HR7.out ?_
    refine hK _ _ (HD7.out) (fun hH4 => ?_)
    try simp only [Act.put, List.setIfInBounds_toArray, List.set_cons_zero, List.set_cons_succ]
    refine wpAnyH_ready (rs := [7]) (by kernel_rfl) (by simp) (one_list (i := 7) rfl (by rfl) (fun K hK => ?_) AllReadyH.nil)
    go_simp
    rw [HW8.out]
    refine hK _ _ (HD8.out) (fun hH5 => ?_)
    try simp only [Act.put, List.setIfInBounds_toArray, List.set_cons_zero, List.set_cons_succ]
    refine wpAnyH_ready (rs := [8]) (by kernel_rfl) (by simp) (one_list (i := 8) rfl (by rfl) (fun K hK => ?_) AllReadyH.nil)
    go_simp
    rw [HW9.out]
    refine hK _ _ (HD9.out) (fun hH6 => ?_)
    try simp only [Act.put, List.setIfInBounds_toArray, List.set_cons_zero, List.set_cons_succ]
    refine wpAnyH_ready (rs := [9]) (by kernel_rfl) (by simp) (one_list (i := 9) rfl (by rfl) (fun K hK => ?_) AllReadyH.nil)
    go_simp
    rw [HW10.out]
    refine hK _ _ (HD10.out) (fun hH7 => ?_)
    try simp only [Act.put, List.setIfInBounds_toArray, List.set_cons_zero, List.set_cons_succ]
    refine wpAnyH_done (by kernel_rfl) ?_ _
    refine NoPanic.normal ?_
    clear hHeld hH2 hH3 hH4 hH5 hH6 hH7 hK c7 z7 c8 z8 c9 z9 cd1 c6
    go_wp2_with fail
    refine leaves_cons (f := 78) (args := #[.pointer (some ⟨w.heap.size, 0, none⟩), .pointer (some ⟨w.heap.size + 1, 0, none⟩), .pointer (some ⟨w.heap.size + 1 + 1, 0, none⟩)]) (by simp) (by simp [go_sem]) ?_
    refine (read_idle _ _ _ _).mono ?_
    rintro e u' w'' ⟨rfl, rfl, rfl⟩
    have e1 := E1.out.1
    have e2 := E1.out.2.1
    have e3 := E1.out.2.2
    have hown := own_lower (row_kept (row_kept (row_kept HO7.out HK8.out (fun x hx e => by have e : x = w.heap.size := e; have := (HO7.out.lt x hx).1; have := HSz.out; omega)) HK9.out (fun x hx e => by have e : x = w.heap.size + 1 := e; have := (HO7.out.lt x hx).1; have := HSz.out; have := HRr.out; have := HSr.out; omega)) HK10.out (fun x hx e => by have e : x = w.heap.size + 1 + 1 := e; have := (HO7.out.lt x hx).1; have := HRr.out; have := HSr.out; omega)) (Nat.le_of_lt HSz.out)
    have hq4 : ((q : Int) + 4) = ((r.length + 8 : Nat) : Int) := by have := HQ.out; omega
    rw [hq4] at e2
    simp [Leaves, settle, results, Try.results66, go_sem, e1, e2, e3]
    exact ⟨hown, HC10.out⟩
  · go_simp
    refine hK _ _ (HDd.out) (fun hH2 => ?_)
    try simp only [Act.put, List.setIfInBounds_toArray, List.set_cons_zero, List.set_cons_succ]
    refine wpAnyH_ready (rs := [0]) (by kernel_rfl) (by simp) (one_list (i := 0) rfl (by rfl) (fun K hK => ?_) AllReadyH.nil)
    go_simp
    refine hK _ _ (HD6.out) (fun hH3 => ?_)
    try simp only [Act.put, List.setIfInBounds_toArray, List.set_cons_zero, List.set_cons_succ]
    refine wpAnyH_ready (rs := [2]) (by kernel_rfl) (by simp) (one_list (i := 2) rfl (by rfl) (fun K hK => ?_) AllReadyH.nil)
    refine oper_append _ _ _ rfl rfl rfl HR7.out ?_
    refine hK _ _ (HD7.out) (fun hH4 => ?_)
    try simp only [Act.put, List.setIfInBounds_toArray, List.set_cons_zero, List.set_cons_succ]
    refine wpAnyH_ready (rs := [7]) (by kernel_rfl) (by simp) (one_list (i := 7) rfl (by rfl) (fun K hK => ?_) AllReadyH.nil)
    go_simp
    rw [HW8.out]
    refine hK _ _ (HD8.out) (fun hH5 => ?_)
    try simp only [Act.put, List.setIfInBounds_toArray, List.set_cons_zero, List.set_cons_succ]
    refine wpAnyH_ready (rs := [8]) (by kernel_rfl) (by simp) (one_list (i := 8) rfl (by rfl) (fun K hK => ?_) AllReadyH.nil)
    go_simp
    rw [HW9.out]
    refine hK _ _ (HD9.out) (fun hH6 => ?_)
    try simp only [Act.put, List.setIfInBounds_toArray, List.set_cons_zero, List.set_cons_succ]
    refine wpAnyH_ready (rs := [9]) (by kernel_rfl) (by simp) (one_list (i := 9) rfl (by rfl) (fun K hK => ?_) AllReadyH.nil)
    go_simp
    rw [HW10.out]
    refine hK _ _ (HD10.out) (fun hH7 => ?_)
    try simp only [Act.put, List.setIfInBounds_toArray, List.set_cons_zero, List.set_cons_succ]
    refine wpAnyH_done (by kernel_rfl) ?_ _
    refine NoPanic.normal ?_
    clear hHeld hH2 hH3 hH4 hH5 hH6 hH7 hK c7 z7 c8 z8 c9 z9 cd1 c6
    go_wp2_with fail
    refine leaves_cons (f := 78) (args := #[.pointer (some ⟨w.heap.size, 0, none⟩), .pointer (some ⟨w.heap.size + 1, 0, none⟩), .pointer (some ⟨w.heap.size + 1 + 1, 0, none⟩)]) (by simp) (by simp [go_sem]) ?_
    refine (read_idle _ _ _ _).mono ?_
    rintro e u' w'' ⟨rfl, rfl, rfl⟩
    have e1 := E1.out.1
    have e2 := E1.out.2.1
    have e3 := E1.out.2.2
    have hown := own_lower (row_kept (row_kept (row_kept HO7.out HK8.out (fun x hx e => by have e : x = w.heap.size := e; have := (HO7.out.lt x hx).1; have := HSz.out; omega)) HK9.out (fun x hx e => by have e : x = w.heap.size + 1 := e; have := (HO7.out.lt x hx).1; have := HSz.out; have := HRr.out; have := HSr.out; omega)) HK10.out (fun x hx e => by have e : x = w.heap.size + 1 + 1 := e; have := (HO7.out.lt x hx).1; have := HRr.out; have := HSr.out; omega)) (Nat.le_of_lt HSz.out)
    have hq4 : ((q : Int) + 4) = ((r.length + 8 : Nat) : Int) := by have := HQ.out; omega
    rw [hq4] at e2
    simp [Leaves, settle, results, Try.results66, go_sem, e1, e2, e3]
    exact ⟨hown, HC10.out⟩

end Go.Proofs.Ytcfgcllphfooaaa.wals
end

/-
  frame: All of whole frames.
-/
section
namespace Go.Proofs.Ytcfgcllphfooaaa.wals
open Go.RowKit Go.My disks bufs
set_option maxRecDepth 100000

theorem frame_parts (r rest : Blk) (h : r.length ≤ 4096) : ofLe ((frameB r ++ rest).take 4) = r.length ∧ ((frameB r ++ rest).drop 4).take r.length = r ∧ ofLe (((frameB r ++ rest).drop (4 + r.length)).take 4) = crcF ((frameB r ++ rest).take (4 + r.length)) := by
  have e4 : (frameB r ++ rest).take 4 = le4 r.length := by
    unfold frameB
    simp only [List.append_assoc]
    rw [List.take_append_of_le_length (by simp [le4_length]), List.take_of_length_le (by simp [le4_length])]
  have eo : ofLe (le4 r.length) = r.length := ofLe_le4 _ (by omega)
  have e1 : (frameB r ++ rest).drop 4 = r ++ (le4 (crcF (le4 r.length ++ r)) ++ rest) := by
    unfold frameB
    simp only [List.append_assoc]
    rw [List.drop_append_of_le_length (by simp [le4_length]), List.drop_eq_nil_of_le (by simp [le4_length]), List.nil_append]
  have e2 : (frameB r ++ rest).take (4 + r.length) = le4 r.length ++ r := by
    unfold frameB
    rw [List.append_assoc, List.take_append_of_le_length (by simp [le4_length]), List.take_of_length_le (by simp [le4_length])]
  have e3 : ((frameB r ++ rest).drop (4 + r.length)).take 4 = le4 (crcF (le4 r.length ++ r)) := by
    unfold frameB
    rw [List.append_assoc, List.drop_append_of_le_length (by simp [le4_length]), List.drop_eq_nil_of_le (by simp [le4_length]), List.nil_append, List.take_append_of_le_length (by simp [le4_length]), List.take_of_length_le (by simp [le4_length])]
  refine ⟨by rw [e4, eo], by rw [e1, List.take_append_of_le_length (Nat.le_refl _), List.take_of_length_le (Nat.le_refl _)], by rw [e3, e2, ofLe_le4 _ (crcF_lt _)]⟩

theorem framesB_at {rs : List Blk} {k : Nat} {r : Blk} (h : rs[k]? = some r) : (framesB rs).drop (framesB (rs.take k)).length = frameB r ++ framesB (rs.drop (k + 1)) := by
  have h1 : framesB rs = framesB (rs.take k) ++ framesB (rs.drop k) := by rw [← framesB_append, List.take_append_drop]
  have h2 : rs.drop k = r :: rs.drop (k + 1) := by
    rw [List.drop_eq_getElem_cons (by exact (List.getElem?_eq_some_iff.1 h).1)]
    congr 1
    exact (List.getElem?_eq_some_iff.1 h).2
  rw [← framesB_cons, ← h2, h1, List.drop_left]

theorem framesB_take' {rs : List Blk} {k : Nat} {r : Blk} (h : rs[k]? = some r) : framesB (rs.take (k + 1)) = framesB (rs.take k) ++ frameB r := by
  rw [List.take_add_one, h, Option.toList_some, framesB_append]
  simp [framesB]

theorem info_bytes : (Try.prog.info? 39).map (fun i => (i.zero, i.size, i.bytes)) = some (some (.slice none 0 0), 1, 24) := by kernel_rfl

theorem append_slices {w : World} {base n : Nat} {v : Value} {xs ys : List Value} {oa : Option Addr} {m cap : Nat} (h : w.ownsRow base 39 1 v n xs) (hs : SlAt w (.slice oa m cap) ys) (h1 : ∀ y ∈ ys, y.oneCell' = true) (hb : base ≤ w.heap.size) (hl : xs.length + ys.length ≤ 1099511627776) (ty : TypeId) :
    ∃ v' w', (Builtin.append_ #[52, 52] ty #[v, .slice oa m cap]).run Try.prog w = .ok v' w' ∧ w'.ownsRow base 39 1 v' (xs ++ ys).length (xs ++ ys) ∧ w.grownBy w' v.ownBlock ∧ (v'.ownBlock = v.ownBlock ∨ v'.ownBlock = some w.heap.size) := by
  obtain ⟨i, hi, hz, hsz, hby⟩ := info_parts info_bytes
  exact append_cells Try.underlying52 hi hz hsz hby rfl h hs h1 hb (by omega) (by omega) ty

/-- Bodies that were read: an own list of own slices. -/
structure Bodies (w : World) (base : Nat) (v : Value) (rs : List Blk) (vs : List Value) : Prop where
  list : w.ownsRow base 39 1 v rs.length vs
  body : ∀ (i : Nat) (r : Blk), rs[i]? = some r → ∃ x, vs[i]? = some x ∧ w.ownsRow base 5 1 x r.length (cellsB r)

set_option maxHeartbeats 1000000 in
theorem all_any (w : World) (oa : Option Addr) (n cap : Nat) (rs : List Blk) (hs : SlAt w (.slice oa n cap) (cellsB (framesB rs))) (hsh : ∀ r ∈ rs, r.length ≤ 4096) (hb : (framesB rs).length ≤ 1000000) (hcap : (framesB rs).length ≤ cap) :
    Calls Try.prog 52 #[.slice oa n cap] w fun e w' => ∃ v vs, e = .returned (.tuple #[v, .int .i64 ((framesB rs).length : Int), .int .i64 0]) ∧ Bodies w' w.heap.size v rs vs ∧ Chg (fun _ => False) w w' := by
  obtain rfl := slat_len hs
  obtain ⟨B, hB⟩ : ∃ B, framesB rs = B := ⟨_, rfl⟩
  rw [hB] at hs hb hcap ⊢
  have HS := Lib.hid hs
  have HB := Lib.hid hB
  have HSh := Lib.hid hsh
  have HN := Lib.hid (And.intro hb hcap)
  have i1 : (B.length : Int) ≤ 1000000 := by omega
  have i2 : (B.length : Int) ≤ (cap : Int) := by omega
  clear hs hb hcap hsh hB
  go_enter Try.func52, Try.ntmps52
  go_wp2_with fail
  go_loopw [5, 6] (fun v p wr => ∃ (k P : Nat) (vs : List Value), p = .int .i64 (P : Int) ∧ P = (framesB (rs.take k)).length ∧ k ≤ rs.length ∧ Bodies wr w.heap.size v (rs.take k) vs ∧ Chg (fun _ => False) w wr) (fun _ p _ => B.length - (intOf p).toNat)
  · exact ⟨0, 0, [], rfl, rfl, Nat.zero_le _, ⟨⟨rfl, Or.inl ⟨rfl, rfl⟩⟩, fun i r h => by simp at h⟩, Chg.refl _ _⟩
  obtain ⟨k, P, vs, rfl, hP, hk, hbo, hc⟩ := hrel
  have HP := Lib.hid hP
  have HBo := Lib.hid hbo
  have HC := Lib.hid hc
  obtain ⟨oav, capv, rfl⟩ := own_slice hbo.list
  clear hP hbo hc
  by_cases hlt : k < rs.length
  · obtain ⟨r, hr⟩ : ∃ r, rs[k]? = some r := ⟨rs[k], List.getElem?_eq_getElem hlt⟩
    have hat := framesB_at hr
    rw [HB.out, ← HP.out] at hat
    have hfl := frameB_length r
    have hBl : P + r.length + 8 ≤ B.length := by
      have := congrArg List.length hat
      rw [List.length_drop, List.length_append, hfl] at this
      omega
    have hPl : (P : Int) + (r.length : Int) + 8 ≤ (B.length : Int) := by omega
    have hr4 := HSh.out r (List.mem_of_getElem? hr)
    obtain ⟨f1, f2, f3⟩ := frame_parts r (framesB (rs.drop (k + 1))) hr4
    rw [← hat] at f1 f2 f3
    have hs1 := HS.out.kept HC.out
    obtain ⟨g, off, rfl⟩ : ∃ g off, oa = some ⟨g, off, none⟩ := by
      obtain ⟨oa', cap', e1, e2, e3⟩ := hs1
      simp only [Value.slice.injEq] at e1
      rw [e1.1]
      exact e2 (by intro e; have := congrArg List.length e; rw [cellsB_length] at this; simp at this; rw [this] at hBl; simp at hBl)
    have hs2 := slat_sub hs1 g off P (B.length - P) (cap - P) rfl (by omega)
    rw [List.take_of_length_le (by rw [List.length_drop]; omega)] at hs2
    have hfr := frame_read wr _ _ _ (B.drop P) r hs2 (by rw [List.length_drop]; have := HN.out; omega) (by rw [List.length_drop]; have := HN.out; omega) (by rw [List.length_drop]; omega) hr4 f1 (by rw [List.length_drop]; omega) f2 f3
    have hcP : ¬ cap = P := by omega
    have HFr := Lib.hid hfr
    have HR := Lib.hid hr
    have HRl := Lib.hid hr4
    have HK := Lib.hid hlt
    clear hat hfl hBl f1 f2 f3 hs1 hs2 hfr hr hr4
    go_wp2_with (first
      | (go_at_call 66; fail))
    refine HFr.out.mono ?_
    rintro e w1 ⟨x, rfl, hx1, hc1⟩
    obtain ⟨oax, capx, rfl⟩ := own_slice hx1
    have HX1 := Lib.hid hx1
    have HC1 := Lib.hid hc1
    have hc2 : Chg (fun _ => False) w1 (w1.alloc (.cells #[.slice oax r.length capx] 39)) := (Chg.refl _ _).alloc _
    have hs2 : SlAt (w1.alloc (.cells #[.slice oax r.length capx] 39)) (.slice (some ⟨w1.heap.size, 0, none⟩) 1 1) [.slice oax r.length capx] := SlAt.of_own (own_of_block (base := 0) (n := 1) at1 (Nat.zero_le _) rfl (by unfold maxLen; omega))
    have hrl : rs.length ≤ 1000000 := by have := sizeB_ge rs; rw [← framesB_length, HB.out] at this; have := HN.out; omega
    have hvl : vs.length = k := by have := HBo.out.list.1; rw [List.length_take] at this; have := HK.out; omega
    have hl1 := own_kept HBo.out.list (hc1.trans' hc2)
    obtain ⟨v3, w3, hr3, ho3, hg3, -⟩ := append_slices hl1 hs2 (fun y hy => by rw [List.mem_singleton] at hy; subst hy; rfl) (by have := (HC.out.trans' hc1).size; rw [World.size_alloc]; omega) (by rw [hvl]; simp; omega) 52
    rw [show (vs ++ [Value.slice oax r.length capx]).length = k + 1 by rw [List.length_append, hvl]; rfl] at ho3
    have hc3 := Chg.of_grown hg3
    have HR3 := Lib.hid hr3
    have hb3 : Bodies w3 w.heap.size v3 (rs.take (k + 1)) (vs ++ [.slice oax r.length capx]) := by
      refine ⟨?_, fun i r' hi => ?_⟩
      · rw [show (rs.take (k + 1)).length = k + 1 by rw [List.length_take]; have := HK.out; omega]
        exact ho3
      · have hne : ∀ {x : Value} {m : Nat} {cs : List Value}, (w1.alloc (.cells #[.slice oax r.length capx] 39)).ownsRow w.heap.size 5 1 x m cs → w3.ownsRow w.heap.size 5 1 x m cs := fun hx => row_kept hx hc3 (fun g' hg' e => by
          obtain ⟨c1, h1⟩ := row_obj hx hg'
          obtain ⟨c2, h2⟩ := row_obj hl1 e.symm
          rw [h1] at h2
          simp only [Option.some.injEq, Obj.cells.injEq] at h2
          exact absurd h2.2.1 (by decide))
        have hi1 : i < k + 1 := by have := (List.getElem?_eq_some_iff.1 hi).1; rw [List.length_take] at this; omega
        rw [List.getElem?_take_of_lt hi1] at hi
        by_cases hik : i < k
        · obtain ⟨x', h1, h2⟩ := HBo.out.body i r' (by rw [List.getElem?_take_of_lt hik]; exact hi)
          exact ⟨x', by rw [List.getElem?_append_left (by omega)]; exact h1, hne (own_kept h2 (HC1.out.trans' hc2))⟩
        · obtain rfl : i = k := by omega
          rw [HR.out] at hi
          cases hi
          exact ⟨_, by rw [List.getElem?_append_right (by omega), hvl]; simp, hne (own_kept (own_lower HX1.out HC.out.size) hc2)⟩
    have hC3 : Chg (fun _ => False) w w3 := ((HC.out.trans' HC1.out).trans' hc2).new hc3 (fun i e => (hl1.lt i e.symm).1)
    have hP3 : P + (r.length + 8) = (framesB (rs.take (k + 1))).length := by rw [framesB_take' HR.out, List.length_append, frameB_length, HP.out]
    have HB3 := Lib.hid hb3
    have HC3 := Lib.hid hC3
    have HP3 := Lib.hid hP3
    obtain ⟨oa3, cap3, rfl⟩ := own_slice ho3
    clear hb3 hC3 hP3 hr3 ho3 hg3 hc3 hc2 hs2 hl1 hx1 hc1 hvl
    dsimp only
    go_wp2_with (first
      | (at_builtin; refine Lib.wpList_append_run _ rfl _ _ _ _ rfl _ _ rfl rfl _ _ HR3.out ?_))
    refine ⟨⟨k + 1, P + (r.length + 8), _, by go_num, HP3.out, HK.out, HB3.out, HC3.out⟩, by simp [intOf]; omega⟩
  · obtain rfl : k = rs.length := by omega
    have hbo : Bodies wr w.heap.size (.slice oav (rs.take rs.length).length capv) rs vs := by
      have := HBo.out
      rw [List.take_of_length_le (Nat.le_refl _)] at this ⊢
      exact this
    have hp := HP.out
    rw [List.take_of_length_le (Nat.le_refl _)] at hp
    rw [HB.out] at hp
    subst hp
    go_wp2_with fail
    refine bodyPost_ret (results_tmp3 rfl _ _ _) rfl ?_
    exact ⟨_, _, rfl, hbo, HC.out⟩

end Go.Proofs.Ytcfgcllphfooaaa.wals
end

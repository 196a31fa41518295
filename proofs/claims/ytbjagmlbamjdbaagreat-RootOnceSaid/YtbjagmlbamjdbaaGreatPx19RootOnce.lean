/- . -/
import Derived.Test.YtbjagmlbamjdbaaGreatPx14RootOnce
import Derived.Test.YtbjagmlbamjdbaaGreatPx16RootOnce
import Derived.Test.YtbjagmlbamjdbaaGreatPx18RootOnce
import Derived.Lib.SlBytesConst

set_option linter.unusedSimpArgs false
set_option linter.unusedVariables false
section
namespace Go.Proofs.YtbjagmlbamjdbaaGreat.roots
open Go.RowKit Go.Maps Go.My Go.ChangeMaps disks bufs wals kvs
set_option maxRecDepth 100000

variable {w w' : World}

def nameT (s : Txt) : Txt := UInt8.ofNat s.length :: s
def headT (nm vr : Txt) (k : Nat) : Txt := [86, 77, 1] ++ (([nm, vr].take k).map nameT).flatten
theorem headT_len {nm vr : Txt} (h1 : nm.length ≤ 16) (h2 : vr.length ≤ 16) (k : Nat) : (headT nm vr k).length ≤ 37 := by
  unfold headT
  rcases k with _ | _ | k
  · simp
  · simp [nameT]; omega
  · simp [nameT]; omega
theorem mencF_head (m : Mf) : mencF m = (headT m.name m.ver 2 ++ [UInt8.ofNat m.layers.length]) ++ laysB m.layers := by
  unfold mencF headT nameT
  simp
theorem laysB_take {L : List Rf} {k : Nat} {x : Rf} (h : L[k]? = some x) : laysB (L.take (k + 1)) = laysB (L.take k) ++ (x.sum ++ varB x.size.toNat) := by
  unfold laysB
  rw [List.take_add_one, h, Option.toList_some, List.map_append, List.flatten_append]
  simp [layB]

theorem own_ne {base n b : Nat} {e t : TypeId} {v : Value} {xs : List Value} {cs : Array Value} (h : w.ownsRow base e 1 v n xs) (hb : w.heap[b]? = some (.cells cs t (0, 0))) (ht : e ≠ t) : ∀ g, v.ownBlock = some g → g ≠ b := by
  intro g hg e
  subst e
  rcases h.2 with ⟨rfl, h0⟩ | ⟨g', cap, cur, rfl, _, hh, _⟩
  · simp [Value.ownBlock] at hg
  · simp only [Value.ownBlock, Option.some.injEq] at hg
    subst hg
    rw [hh] at hb
    simp only [Option.some.injEq, Obj.cells.injEq] at hb
    exact ht hb.2.1

theorem append_full {s0 base m cap : Nat} {xs ys : Txt} {oa : Option Addr} (hb : ∀ j v, (cellsB xs)[j]? = some v → w.cell? ((⟨s0, 0, none⟩ : Addr).add j) = some v) (hs : SlAt w (.slice oa m cap) (cellsB ys)) (hy : ys ≠ []) (hbase : base ≤ w.heap.size) (hl : xs.length + ys.length ≤ 1000) (ty : TypeId) :
    ∃ v' w', (Builtin.append_ #[101, 101] ty #[.slice (some ⟨s0, 0, none⟩) xs.length xs.length, .slice oa m cap]).run Tryz.prog w = .ok v' w' ∧ w'.ownsRow base 5 1 v' (xs ++ ys).length (cellsB (xs ++ ys)) ∧ Chg (fun _ => False) w w' := by
  obtain ⟨i, hi, hz, hsz, hby⟩ := u8_parts
  have hyl := List.length_pos_iff.2 hy
  obtain ⟨b, off, rfl, hm, -⟩ := hs.cell (k := 0) (by rw [cellsB_length]; exact hyl)
  rw [cellsB_length] at hm
  subst hm
  have hnews : ∀ j v, (cellsB ys)[j]? = some v → w.cell? ((⟨b, off, none⟩ : Addr).add j) = some v := fun j v hv => by
    obtain ⟨oa', cap', h1, -, h3⟩ := hs
    simp only [Value.slice.injEq] at h1
    obtain ⟨rfl, -, -⟩ := h1
    have h4 := h3 b off rfl j v hv
    rw [show (⟨b, off, none⟩ : Addr).add j = ⟨b, off + j, none⟩ from by unfold Addr.add; by_cases e1 : j = 0 <;> simp [e1]]
    exact h4
  have hr := run_append_grow (P := Tryz.prog) w 101 ty 5 i (.int .u8 0) Tryz.underlying101 hi hz ⟨s0, 0, none⟩ xs.length xs.length (cellsB xs) (by rw [cellsB_length, hsz]; omega) hb ⟨b, off, none⟩ ys.length cap (cellsB ys) (by rw [cellsB_length, hsz]; omega) hnews (by omega) (by omega) (growslice_fits (by omega) (by rw [hby]; omega))
  have hlen : (cellsB xs ++ cellsB ys).length = xs.length + ys.length := by rw [List.length_append, cellsB_length, cellsB_length]
  refine ⟨_, _, hr, ?_, ((Chg.refl _ _).drew).alloc _⟩
  rw [List.length_append, show cellsB (xs ++ ys) = cellsB xs ++ cellsB ys by simp [cellsB]]
  refine ⟨by rw [hlen]; omega, .inr ⟨w.heap.size, _, _, rfl, hbase, heap_alloc_new w.drew _, grownCap_ge w _ _ _, grownCap_le_maxLen w _ _ _ (by unfold maxLen; omega), ?_, ?_⟩⟩
  · have := grownCap_ge w (xs.length + ys.length) xs.length 5
    simp only [Array.size_append, List.size_toArray, size_zeroCells, Value.cells, cellsB_length, List.length_cons, List.length_nil]
    omega
  · simp only [Array.toList_append]
    rw [Nat.mul_one, ← hlen]
    exact List.take_left

set_option maxHeartbeats 2000000 in
theorem encode_is (w : World) (m : Mf) {F : Nat → Prop} {v : Value} (h : LysAt w F v m.layers) (hm : mchkF m = 0) :
    Calls Tryz.prog 148 #[.agg #[strV m.name, strV m.ver, v]] w fun e w' => ∃ u, e = .returned (.tuple #[u, .int .i64 0]) ∧ w'.ownsRow w.heap.size 5 1 u (mencF m).length (cellsB (mencF m)) ∧ Chg (fun _ => False) w w' := by
  have hok := mchkF_ok hm
  rw [mencF_head m]
  obtain ⟨nm, vr, L⟩ := m
  simp only at h hok ⊢
  have n1 := nameB_len hok.name
  have n2 := nameB_len hok.ver
  have n3 := hok.few
  simp only at n1 n2 n3
  have HSz := Lib.hid hok.sizes
  have HHd := Lib.hid (headT_len n1.2 n2.2)
  obtain ⟨oa, cap, rfl, hr, -, -, -⟩ := id h.is
  have HD := Lib.hid h.dig
  obtain ⟨b, off, rfl⟩ := hr.spot (by intro e; rw [List.map_eq_nil_iff] at e; have := hok.some; rw [e] at this; simp at this)
  have H := Lib.hid hr
  obtain ⟨sn, hsn⟩ : ∃ s, strV nm = .string s := ⟨_, rfl⟩
  obtain ⟨sv, hsv⟩ : ∃ s, strV vr = .string s := ⟨_, rfl⟩
  have hcx := ((Chg.refl (fun _ => False) w)).alloc (.cells #[.string sn, .string sv, .slice (some ⟨b, off, none⟩) L.length cap] 88)
  have hmk := mcheck_is (w.alloc (.cells #[.string sn, .string sv, .slice (some ⟨b, off, none⟩) L.length cap] 88)) ⟨nm, vr, L⟩ (h.fresh hcx) (by unfold maxLen; simp only; omega) (by unfold maxLen; simp only; omega)
  rw [hm, hsn, hsv] at hmk
  rw [hsn, hsv]
  obtain ⟨B, hB⟩ : ∃ B, headT nm vr 2 ++ [UInt8.ofNat L.length] ++ laysB L = B := ⟨_, rfl⟩
  rw [hB]
  have HB := Lib.hid hB
  clear hB
  have HBx := Lib.hid (block_alloc_new w (.cells #[.string sn, .string sv, .slice (some ⟨b, off, none⟩) L.length cap] 88))
  have HMk := Lib.hid hmk
  have HCx := Lib.hid hcx
  have HNm := Lib.hid (And.intro hsn (And.intro hsv (And.intro n1 n2)))
  have hL0 : (0 : Int) ≤ (L.length : Int) := by omega
  have hL8 : (L.length : Int) ≤ 8 := by omega
  clear hok hr h hsn hsv hcx hmk n1 n2 hm
  go_enter Tryz.func148, Tryz.ntmps148
  go_wp2_with (first
    | (go_at_call 41; refine HMk.out.mono ?_; rintro e w1 ⟨rfl, hc1⟩
       have hb1 := hc1.at HBx.out id
       have c0 : w1.cell? ⟨w.heap.size, 0, none⟩ = some (.string sn) := cell_of_block hb1 rfl
       have c1 : w1.cell? ⟨w.heap.size, 1, none⟩ = some (.string sv) := cell_of_block hb1 rfl
       have hlt1 := lt_of_block hb1
       have HB1 := Lib.hid hb1
       have HC1 := Lib.hid (HCx.out.trans' hc1)
       have f0 : (w1.alloc (.cells #[.int .u8 86, .int .u8 77, .int .u8 1] 5 (3, 4))).cell? ⟨w.heap.size, 0, none⟩ = some (.string sn) := ((Chg.refl (fun _ => False) w1).alloc _).cell c0 id
       have f1 : (w1.alloc (.cells #[.int .u8 86, .int .u8 77, .int .u8 1] 5 (3, 4))).cell? ⟨w.heap.size, 1, none⟩ = some (.string sv) := ((Chg.refl (fun _ => False) w1).alloc _).cell c1 id
       clear hb1 hc1))
  have hcv := Lib.run_convert_bytes_const (P := Tryz.prog) w1 101 5 #[.int .u8 86, .int .u8 77, .int .u8 1] 3 3 Tryz.underlying101 Tryz.underlying5
  have hcv : (convert 101 101 (.slice (some ⟨w1.heap.size, 0, none⟩) 3 3)).run Tryz.prog (w1.alloc (.cells #[.int .u8 86, .int .u8 77, .int .u8 1] 5)) = .ok (.slice (some ⟨w1.heap.size, 0, none⟩) 3 3) (w1.alloc (.cells #[.int .u8 86, .int .u8 77, .int .u8 1] 5 (3, 4))) := hcv
  rw [hcv]
  simp only [Result.andThen]
  rw [Oper.upon_value]
  clear hcv
  go_wp2_with fail
  trace_state
  obtain ⟨w2, hw2⟩ : ∃ w2, (w1.alloc (.cells #[.int .u8 86, .int .u8 77, .int .u8 1] 5 (3, 4))).alloc (.cells #[.string sn, .string sv] 9) = w2 := ⟨_, rfl⟩
  have h2a : w2.heap[w1.heap.size]? = some (.cells #[.int .u8 86, .int .u8 77, .int .u8 1] 5 (3, 4)) := by rw [← hw2]; exact at2_0
  have h2b : w2.heap[w1.heap.size + 1]? = some (.cells #[.string sn, .string sv] 9 (0, 0)) := by rw [← hw2]; exact at2_1
  have hc2 : Chg (fun _ => False) w1 w2 := by rw [← hw2]; exact chg2
  rw [hw2]
  have HB2 := Lib.hid h2b
  have HBx2 := Lib.hid (hc2.at HB1.out id)
  have HC2 := Lib.hid (HC1.out.trans' hc2)
  have hrow0 : w2.heap[w1.heap.size]? = some (.cells #[.int .u8 86, .int .u8 77, .int .u8 1] 5 (3, 4)) := h2a
  have HRow0 := Lib.hid hrow0
  have HLt1 := Lib.hid hlt1
  clear h2a h2b hc2 hrow0 hw2 c0 c1 f0 f1 hlt1
  obtain ⟨sb, hsb⟩ : ∃ sb, w1.heap.size + 1 = sb := ⟨_, rfl⟩
  obtain ⟨s0, hs0⟩ : ∃ s0, w1.heap.size = s0 := ⟨_, rfl⟩
  rw [hsb] at HB2 ⊢
  rw [hs0] at HRow0 HLt1 ⊢
  obtain ⟨bx, hbx⟩ : ∃ bx, w.heap.size = bx := ⟨_, rfl⟩
  rw [hbx] at HBx2 HLt1 ⊢
  clear hsb hs0
  go_loopw [5, 23] (fun u j wr => ∃ (k : Nat) (ou : Option Addr) (nu cu : Nat), j = .int .i64 k ∧ u = .slice ou nu cu ∧ k ≤ 2 ∧ ((1 ≤ k ∧ wr.ownsRow bx 5 1 (.slice ou nu cu) (headT nm vr k).length (cellsB (headT nm vr k))) ∨ (k = 0 ∧ Value.slice ou nu cu = .slice (some ⟨s0, 0, none⟩) 3 3 ∧ wr.heap[s0]? = some (.cells #[.int .u8 86, .int .u8 77, .int .u8 1] 5 (3, 4)))) ∧ Chg (fun _ => False) w wr ∧ wr.heap[sb]? = some (.cells #[.string sn, .string sv] 9 (0, 0)) ∧ wr.heap[bx]? = some (.cells #[.string sn, .string sv, .slice (some ⟨b, off, none⟩) L.length cap] 88 (0, 0)) ) (fun _ j _ => 2 - (intOf j).toNat)
  · exact ⟨0, _, _, _, rfl, rfl, by omega, Or.inr ⟨rfl, rfl, HRow0.out⟩, HC2.out, HB2.out, HBx2.out⟩
  clear HRow0 HC2 HB2 HBx2
  obtain ⟨k, ou, nu, cu, rfl, rfl, hk, ho, hc, hsbk, hbxk⟩ := hrel
  have hN := HNm.out
  have hhl := HHd.out k
  have HC := Lib.hid hc
  by_cases hlt : k < 2
  · have hki : (k : Int) < 2 := by omega
    obtain ⟨X, sX, hX, hcX, hXl, hXt⟩ : ∃ (X : Txt) (sX : ByteArray), strV X = .string sX ∧ (#[Value.string sn, Value.string sv] : Array Value)[k]? = some (.string sX) ∧ X.length ≤ 16 ∧ headT nm vr (k + 1) = headT nm vr k ++ [UInt8.ofNat X.length] ++ X := by
      rcases (by omega : k = 0 ∨ k = 1) with rfl | rfl
      · exact ⟨nm, sn, hN.1, rfl, hN.2.2.1.2, by simp [headT, nameT]⟩
      · exact ⟨vr, sv, hN.2.1, rfl, hN.2.2.2.2, by simp [headT, nameT]⟩
    have cX : wr.cell? ⟨sb, k, none⟩ = some (.string sX) := cell_of_block hsbk hcX
    have hXs := strV_string X sX hX
    have hsz := str_size X sX hX
    have hxd : sX.data.toList = X := by rw [hXs]
    obtain ⟨N, hNn⟩ : ∃ N, X.length = N := ⟨_, rfl⟩
    rw [hNn] at hXl hXt hsz
    have hN0 : (0 : Int) ≤ (N : Int) := by omega
    have hNm : (N : Int) % 256 = (N : Int) := by omega
    have hca : Chg (fun _ => False) wr (wr.alloc (.cells #[.int .u8 (N : Int)] 5)) := (Chg.refl _ _).alloc _
    have hs2 : SlAt (wr.alloc (.cells #[.int .u8 (N : Int)] 5)) (.slice (some ⟨wr.heap.size, 0, none⟩) 1 1) (cellsB [UInt8.ofNat N]) := by
      have := SlAt.of_own (own_of_block (w := wr.alloc (.cells #[.int .u8 (N : Int)] 5)) (base := 0) (n := 1) at1 (Nat.zero_le _) rfl (by unfold maxLen; omega))
      simp only [cellsB, List.map_cons, List.map_nil, toNat_ofNat_lt (show N < 256 by omega)]
      exact this
    have hbxs := lt_of_block hbxk
    obtain ⟨v3, w3, hr3, ho3, hs3, hb3, hc3⟩ : ∃ v3 w3, (Builtin.append_ #[101, 101] 101 #[.slice ou nu cu, .slice (some ⟨wr.heap.size, 0, none⟩) 1 1]).run Tryz.prog (wr.alloc (.cells #[.int .u8 (N : Int)] 5)) = .ok v3 w3 ∧ w3.ownsRow bx 5 1 v3 (headT nm vr k ++ [UInt8.ofNat N]).length (cellsB (headT nm vr k ++ [UInt8.ofNat N])) ∧ w3.heap[sb]? = some (.cells #[.string sn, .string sv] 9 (0, 0)) ∧ w3.heap[bx]? = some (.cells #[.string sn, .string sv, .slice (some ⟨b, off, none⟩) L.length cap] 88 (0, 0)) ∧ Chg (fun _ => False) w w3 := by
      rcases ho with ⟨-, ho⟩ | ⟨rfl, hu, h0⟩
      · have hn1 := own_ne ho hsbk (by decide)
        have hn2 := own_ne ho hbxk (by decide)
        obtain ⟨v3, w3, hr3, ho3, hg3⟩ := append_slice (own_kept ho hca) hs2 (by have := hca.size; omega) (by simp; omega) 101
        exact ⟨v3, w3, hr3, ho3, hg3.at (hca.at hsbk id) (fun e => hn1 _ e.symm rfl), hg3.at (hca.at hbxk id) (fun e => hn2 _ e.symm rfl), (hc.trans' hca).new hg3 (fun i e => by have := (ho.lt i e.symm).1; omega)⟩
      · cases hu
        obtain ⟨v3, w3, hr3, ho3, hg3⟩ := append_full (s0 := s0) (base := bx) (xs := headT nm vr 0) (w := wr.alloc (.cells #[.int .u8 (N : Int)] 5)) (fun j v hv => by
          rw [show (⟨s0, 0, none⟩ : Addr).add j = ⟨s0, j, none⟩ from by unfold Addr.add; by_cases e1 : j = 0 <;> simp [e1]]
          exact cell_of_block (hca.at h0 id) (by simpa [headT, cellsB] using hv)) hs2 (by simp) (by have := hca.size; omega) (by simp [headT]) 101
        exact ⟨v3, w3, hr3, ho3, hg3.at (hca.at hsbk id) id, hg3.at (hca.at hbxk id) id, (hc.trans' hca).trans' hg3⟩
    have hm1 := own_ne ho3 hs3 (by decide)
    have hm2 := own_ne ho3 hb3 (by decide)
    obtain ⟨M3, hM3⟩ : ∃ M, (headT nm vr k ++ [UInt8.ofNat N]).length = M := ⟨_, rfl⟩
    rw [hM3] at ho3
    obtain ⟨o3, p3, hv3⟩ := own_slice ho3
    have hbxs3 := lt_of_block hb3
    obtain ⟨v4, w4, hr4, ho4, hg4⟩ := append_string (s := sX) ho3 (by omega) (by simp only [List.length_append, List.length_singleton]; omega) 101
    have hs4 := hg4.at hs3 (fun e => hm1 _ e.symm rfl)
    have hb4 := hg4.at hb3 (fun e => hm2 _ e.symm rfl)
    have hc4 : Chg (fun _ => False) w w4 := hc3.new hg4 (fun i e => by have := (ho3.lt i e.symm).1; omega)
    rw [hxd, ← hXt] at ho4
    subst hv3
    obtain ⟨M4, hM4⟩ : ∃ M, (headT nm vr (k + 1)).length = M := ⟨_, rfl⟩
    rw [hM4] at ho4
    obtain ⟨o4, p4, hv4⟩ := own_slice ho4
    subst hv4
    have ho4 : w4.ownsRow bx 5 1 (.slice o4 M4 p4) (headT nm vr (k + 1)).length (cellsB (headT nm vr (k + 1))) := by rw [hM4]; exact ho4
    have HR3 := Lib.hid hr3
    have HR4 := Lib.hid hr4
    have HRes := Lib.hid (And.intro (Or.inl ⟨(by omega : 1 ≤ k + 1), ho4⟩ : (1 ≤ k + 1 ∧ _) ∨ (k + 1 = 0 ∧ Value.slice o4 M4 p4 = .slice (some ⟨s0, 0, none⟩) 3 3 ∧ w4.heap[s0]? = some (.cells #[.int .u8 86, .int .u8 77, .int .u8 1] 5 (3, 4)))) (And.intro hc4 (And.intro hs4 hb4)))
    clear hM3 hM4 hca hs2 hr3 ho3 hs3 hb3 hm1 hm2 hc3 hr4 ho4 hg4 hs4 hb4 hc4 ho hc hsbk hbxk hN hX hcX hXt hXs hxd hNn hbxs hbxs3
    go_wp2_with (first
      | (at_builtin; refine Lib.wpList_append_run _ rfl _ _ _ _ rfl _ _ rfl rfl _ _ HR3.out ?_)
      | (at_builtin; refine Lib.wpList_append_run _ rfl _ _ _ _ rfl _ _ rfl rfl _ _ HR4.out ?_))
    exact ⟨⟨k + 1, _, _, _, by go_num, rfl, hlt, HRes.out⟩, by simp [intOf]; omega⟩
  · have hki : ¬ (k : Int) < 2 := by omega
    obtain rfl : k = 2 := by omega
    have ho : wr.ownsRow bx 5 1 (.slice ou nu cu) (headT nm vr 2).length (cellsB (headT nm vr 2)) := by
      rcases ho with ⟨-, ho⟩ | ⟨h, -⟩
      · exact ho
      · omega
    have c2 : wr.cell? ⟨bx, 2, none⟩ = some (.slice (some ⟨b, off, none⟩) L.length cap) := cell_of_block hbxk rfl
    obtain ⟨N, hNn⟩ : ∃ N, L.length = N := ⟨_, rfl⟩
    have hn2 := own_ne ho hbxk (by decide)
    have hNm : (N : Int) % 256 = (N : Int) := by omega
    have hca : Chg (fun _ => False) wr (wr.alloc (.cells #[.int .u8 (N : Int)] 5)) := (Chg.refl _ _).alloc _
    have hs2 : SlAt (wr.alloc (.cells #[.int .u8 (N : Int)] 5)) (.slice (some ⟨wr.heap.size, 0, none⟩) 1 1) (cellsB [UInt8.ofNat N]) := by
      have := SlAt.of_own (own_of_block (w := wr.alloc (.cells #[.int .u8 (N : Int)] 5)) (base := 0) (n := 1) at1 (Nat.zero_le _) rfl (by unfold maxLen; omega))
      simp only [cellsB, List.map_cons, List.map_nil, toNat_ofNat_lt (show N < 256 by omega)]
      exact this
    have hbxs := lt_of_block hbxk
    obtain ⟨v3, w3, hr3, ho3, hg3⟩ := append_slice (own_kept ho hca) hs2 (by have := hca.size; omega) (by simp; omega) 101
    have hb3 := hg3.at (hca.at hbxk id) (fun e => hn2 _ e.symm rfl)
    have hc3 : Chg (fun _ => False) w w3 := (hc.trans' hca).new hg3 (fun i e => by have := (ho.lt i e.symm).1; omega)
    have c3 : w3.cell? ⟨bx, 2, none⟩ = some (.slice (some ⟨b, off, none⟩) L.length cap) := cell_of_block hb3 rfl
    obtain ⟨M3, hM3⟩ : ∃ M, (headT nm vr 2 ++ [UInt8.ofNat N]).length = M := ⟨_, rfl⟩
    have hM3b : M3 ≤ 38 := by rw [← hM3, List.length_append, List.length_singleton]; omega
    rw [hM3] at ho3
    obtain ⟨o3, p3, hv3⟩ := own_slice ho3
    subst hv3
    have HM3 := Lib.hid hM3
    have ho3 : w3.ownsRow bx 5 1 (.slice o3 M3 p3) (headT nm vr 2 ++ [UInt8.ofNat N]).length (cellsB (headT nm vr 2 ++ [UInt8.ofNat N])) := by rw [hM3]; exact ho3
    have HR3 := Lib.hid hr3
    have HO3 := Lib.hid ho3
    have HC3 := Lib.hid hc3
    have HB3 := Lib.hid (lt_of_block hb3)
    have HN2 := Lib.hid hNn
    rw [hNn] at c2 c3 hL0 hL8 n3 ⊢
    clear hca hs2 hr3 ho3 hg3 hb3 hc3 hn2 ho hc hsbk hbxk hN hNn hbxs hhl HC HHd
    go_wp2_with (first
      | (at_builtin; refine Lib.wpList_append_run _ rfl _ _ _ _ rfl _ _ rfl rfl _ _ HR3.out ?_))
    obtain ⟨P0, hP0⟩ : ∃ P0, headT nm vr 2 ++ [UInt8.ofNat N] = P0 := ⟨_, rfl⟩
    rw [hP0] at HO3 HM3
    clear HR3
    go_loopw [5, 46] (fun u j wr => ∃ (k : Nat) (ou : Option Addr) (nu cu : Nat), j = .int .i64 k ∧ u = .slice ou nu cu ∧ k ≤ N ∧ wr.ownsRow bx 5 1 (.slice ou nu cu) (P0 ++ laysB (L.take k)).length (cellsB (P0 ++ laysB (L.take k))) ∧ Chg (fun _ => False) w wr ∧ bx < wr.heap.size) (fun _ j _ => N - (intOf j).toNat)
    · exact ⟨0, _, _, _, rfl, rfl, Nat.zero_le _, by simpa [laysB] using HO3.out, HC3.out, HB3.out⟩
    clear HO3 HC3 HB3 c2 c3
    obtain ⟨k, ou, nu, cu, rfl, rfl, hk, ho, hc, hbs⟩ := hrel
    have HO := Lib.hid ho
    have HC := Lib.hid hc
    have HBs := Lib.hid hbs
    clear ho hc hbs
    by_cases hlt : k < N
    · have hki : (k : Int) < (N : Int) := by omega
      have hNn := HN2.out
      obtain ⟨x, hx⟩ : ∃ x, L[k]? = some x := ⟨L[k]'(by omega), List.getElem?_eq_getElem _⟩
      have hb32 : x.sum.length = 32 := HD.out x (List.mem_of_getElem? hx)
      obtain ⟨z0, z1⟩ := HSz.out x (List.mem_of_getElem? hx)
      obtain ⟨z, hz⟩ : ∃ z : Nat, x.size = (z : Int) := ⟨x.size.toNat, by omega⟩
      have hlay : laysB (L.take (k + 1)) = laysB (L.take k) ++ (x.sum ++ varB z) := by rw [laysB_take hx, hz]; rfl
      have hpl : (P0 ++ laysB (L.take k)).length ≤ 400 := by
        have h1 := laysB_len (L.take k) (fun y hy => HD.out y (List.mem_of_mem_take hy))
        have h2 : (L.take k).length ≤ 8 := by rw [List.length_take]; omega
        have h3 := HM3.out
        rw [List.length_append]
        omega
      have hlen : (rfC x).length = 33 := by simp [rfC, cellsB_length, hb32]
      have hrng : wr.rangeAt b (off + k * 33) (rfC x) := fun j v hj => (H.out.kept HC.out (fun _ _ h => h)).cell b off rfl k (rfC x) j v (by rw [List.getElem?_map, hx]; rfl) hj
      have hone : ∀ v ∈ rfC x, v.oneCell' = true := by
        intro v hv
        simp only [rfC, cellsB, List.mem_append, List.mem_map, List.mem_singleton] at hv
        rcases hv with ⟨y, -, rfl⟩ | rfl <;> rfl
      have HRng := Lib.hid hrng
      have HOne := Lib.hid hone
      have HLen := Lib.hid hlen
      have HDl := Lib.hid (show (cellsB x.sum).length = 32 by rw [cellsB_length, hb32])
      obtain ⟨row, hrow⟩ : ∃ row, rfC x = row := ⟨_, rfl⟩
      rw [hrow] at HRng HOne HLen
      have HRow := Lib.hid hrow
      have HLay := Lib.hid hlay
      have HPl := Lib.hid hpl
      clear hx hlen hrng hone hrow hlay hpl z0 hNn
      have hba := block_alloc_new wr (.cells row.toArray 98)
      have hca : Chg (fun _ => False) wr (wr.alloc (.cells row.toArray 98)) := (Chg.refl _ _).alloc _
      have hsA : (wr.alloc (.cells row.toArray 98)).heap.size = wr.heap.size + 1 := World.size_alloc _ _
      obtain ⟨wA, hwA⟩ : ∃ wA, wr.alloc (.cells row.toArray 98) = wA := ⟨_, rfl⟩
      rw [hwA] at hba hca hsA
      have a32 : wA.cell? ⟨wr.heap.size, 32, none⟩ = some (.int .i64 (z : Int)) := cell_of_block hba (by rw [List.getElem?_toArray, ← HRow.out, rfC, List.getElem?_append_right (by rw [HDl.out]; exact Nat.le_refl _), HDl.out, hz]; rfl)
      have hrd : wA.rangeAt wr.heap.size 0 (cellsB x.sum) := fun j v hj => by
        rw [Nat.zero_add]
        refine cell_of_block hba ?_
        rw [List.getElem?_toArray, ← HRow.out, rfC, List.getElem?_append_left (List.getElem?_eq_some_iff.1 hj).1]
        exact hj
      have hsl : ∀ W, Chg (fun k => some k = (Value.slice ou nu cu).ownBlock) wA W → SlAt W (.slice (some ⟨wr.heap.size, 0, none⟩) 32 32) (cellsB x.sum) := fun W hW =>
        ⟨some ⟨wr.heap.size, 0, none⟩, 32, by rw [HDl.out], fun _ => ⟨_, _, rfl⟩, fun b' off' ho' i y hy => by
          cases ho'
          exact hW.cell (hrd i y hy) (fun e => absurd (HO.out.lt wr.heap.size e.symm).2 (Nat.lt_irrefl _))⟩
      rw [hz] at z1
      have hz1 : z ≤ 2147483647 := by omega
      have hzm : IntKind.u64.wrap (z : Int) = (z : Int) := by rw [IntKind.wrap_u64]; omega
      have HZm := Lib.hid hzm
      have HBa := Lib.hid hba
      have HA32 := Lib.hid a32
      have HCA := Lib.hid hca
      have HSA := Lib.hid hsA
      have HSl := Lib.hid hsl
      have HVar := Lib.hid (fun W => var_big W z (by omega))
      clear hzm hba hca hsA hrd hsl hz z1 hb32
      go_wp2_with (first
        | (refine wpList_load_mid rfl 98 _ rfl b (off + k * 33) rfl row _ HRng.out Tryz.underlying98 rfl (size_ref.trans (by rw [HLen.out])) ?_)
        | (refine wpList_store_new rfl 98 _ _ rfl row.toArray rfl rfl (size_ref.trans (by rw [List.size_toArray, HLen.out])) (by rw [show row.toArray.size = 33 from by rw [List.size_toArray, HLen.out]]; rfl) (all_oneCell_toArray HOne.out) ?_))
      rw [hwA]
      clear hwA
      have hown : ∀ g, some g = (Value.slice ou nu cu).ownBlock → g < wr.heap.size := fun g hg => (HO.out.lt g hg.symm).2
      have HOwn := Lib.hid hown
      have hd : Chg (fun _ => False) wA wA.drew := (Chg.refl _ _).drew
      have HDr := Lib.hid hd
      have HLw := Lib.hid (show w.heap.size ≤ bx from by rw [hbx]; exact Nat.le_refl _)
      clear hown hd
      refine wp_region_noPanic ?_
      refine wp_region_held_drew (S := (fun w' => w'.cell? ⟨wr.heap.size, 32, none⟩ = some (.int .i64 (z : Int)))) (by kernel_rfl) (HA32.out) (fun hHeld => ?_)
      refine tk 0 (v := ?_) hHeld rfl (fun w hSw => ?_) ?_
      rotate_left
      · (have hSw1 := hSw; go_simp)
        try with_reducible rfl
      simp only [Act.put, zA, zB, zC]
      refine tk 1 (v := ?_) hHeld rfl (fun w hSw => ?_) ?_
      rotate_left
      · (have hSw1 := hSw; go_simp)
        try with_reducible rfl
      simp only [Act.put, zA, zB, zC]
      refine tk 2 (v := ?_) hHeld rfl (fun w hSw => ?_) ?_
      rotate_left
      · (have hSw1 := hSw; go_simp)
        try with_reducible rfl
      simp only [Act.put, zA, zB, zC]
      refine tk 4 (v := ?_) hHeld rfl (fun w hSw => ?_) ?_
      rotate_left
      · (have hSw1 := hSw; go_simp)
        try with_reducible rfl
      simp only [Act.put, zA, zB, zC]
      refine tk 5 (v := ?_) hHeld rfl (fun w hSw => ?_) ?_
      rotate_left
      · (have hSw1 := hSw; go_simp)
        try with_reducible rfl
      simp only [Act.put, zA, zB, zC]
      refine tk 6 (v := ?_) hHeld rfl (fun w hSw => ?_) ?_
      rotate_left
      · (have hSw1 := hSw; go_simp)
        try with_reducible rfl
      simp only [Act.put, zA, zB, zC]
      refine on1 3 rfl (fun K hK => ?_)
      · obtain ⟨v3, w3, hap, ho3, hg3⟩ := append_slice (own_kept HO.out (HCA.out.trans' HDr.out)) (HSl.out _ (HDr.out.mono (fun _ _ h => h.elim))) (by have := HBs.out; have := (HCA.out.trans' HDr.out).size; omega) (by have := HPl.out; have := HDl.out; rw [cellsB_length] at this; omega) 101
        have q3 := hg3.cell (HDr.out.cell HA32.out id) (fun e => absurd (HOwn.out _ e) (Nat.lt_irrefl _))
        have hc3 : Chg (fun _ => False) w w3 := (HC.out.trans' (HCA.out.trans' HDr.out)).new hg3 (fun i e => by have := (HO.out.lt i e.symm).1; have := HLw.out; omega)
        obtain ⟨M3, hM3⟩ : ∃ M, (P0 ++ laysB (L.take k) ++ x.sum).length = M := ⟨_, rfl⟩
        have hM3b : M3 ≤ 432 := by rw [← hM3, List.length_append]; have := HPl.out; have := HDl.out; rw [cellsB_length] at this; omega
        rw [hM3] at ho3
        obtain ⟨o3, p3, hv3⟩ := own_slice ho3
        subst hv3
        have hbb3 := hg3.at (HDr.out.at HBa.out id) (fun e => absurd (HOwn.out _ e) (Nat.lt_irrefl _))
        have HBb3 := Lib.hid hbb3
        have hb3 : bx < w3.heap.size := by have h1 := (HCA.out.trans' HDr.out).size; have h2 := hg3.size; have := HBs.out; omega
        have HO3 := Lib.hid ho3
        have HC3 := Lib.hid hc3
        have HQ3 := Lib.hid q3
        have HB3 := Lib.hid hb3
        refine oper_append _ _ _ rfl rfl rfl hap ?_
        clear hap ho3 hg3 q3 hc3 hb3 hbb3
        refine hK _ _ (HQ3.out) (fun hA1 => ?_)
        try simp only [Act.put, zA, zB, zC]
        refine on1 7 rfl (fun K hK => ?_)
        go_simp
        rw [HZm.out]
        refine (HVar.out w3).mono ?_
        rintro e w4 ⟨v4, rfl, ho4, hc4⟩
        obtain ⟨M4, hM4⟩ : ∃ M, (varB z).length = M := ⟨_, rfl⟩
        have hM4b : M4 ≤ 10 := by rw [← hM4]; exact (varB_length z).1
        rw [hM4] at ho4
        obtain ⟨o4, p4, hv4⟩ := own_slice ho4
        subst hv4
        have q4 := hc4.cell HQ3.out id
        obtain ⟨v5, w5, hap, ho5, hg5⟩ := append_slice (own_kept HO3.out hc4) (SlAt.of_own ho4) (by have := HB3.out; have := hc4.size; omega) (by rw [hM3, hM4]; omega) 101
        have q5 : w5.cell? ⟨wr.heap.size, 32, none⟩ = some (.int .i64 (z : Int)) := hg5.cell q4 (fun e => own_ne (own_kept HO3.out hc4) (hc4.at HBb3.out id) (by decide) _ e.symm rfl)
        have hc5 : Chg (fun _ => False) w w5 := (HC3.out.trans' hc4).new hg5 (fun i e => by have := (HO3.out.lt i e.symm).1; have := HLw.out; omega)
        obtain ⟨M5, hM5⟩ : ∃ M, (P0 ++ laysB (L.take k) ++ x.sum ++ varB z).length = M := ⟨_, rfl⟩
        rw [hM5] at ho5
        obtain ⟨o5, p5, hv5⟩ := own_slice ho5
        subst hv5
        have hfin : w5.ownsRow bx 5 1 (.slice o5 M5 p5) (P0 ++ laysB (L.take (k + 1))).length (cellsB (P0 ++ laysB (L.take (k + 1)))) := by
          rw [HLay.out, ← List.append_assoc, ← List.append_assoc, hM5]; exact ho5
        have hb5 : bx < w5.heap.size := by have := (HC3.out.trans' hc4).size; have := hg5.size; have := HB3.out; have := hc4.size; omega
        have HFin := Lib.hid (And.intro hfin (And.intro hc5 hb5))
        have HQ4 := Lib.hid q4
        have HQ5 := Lib.hid q5
        have HAp := Lib.hid hap
        clear ho4 hc4 hM4 q4 hap ho5 hg5 q5 hc5 hM5 hfin hb5
        refine hK _ _ (HQ4.out) (fun hA2 => ?_)
        try simp only [Act.put, zA, zB, zC]
        refine on1 8 rfl (fun K hK => ?_)
        refine oper_append _ _ _ rfl rfl rfl HAp.out ?_
        refine hK _ _ (HQ5.out) (fun hA3 => ?_)
        try simp only [Act.put, zA, zB, zC]
        refine tk 9 (v := ?_) hA3 rfl (fun w hSw => ?_) ?_
        rotate_left
        · go_simp
          try with_reducible rfl
        simp only [Act.put, zA, zB, zC]
        refine wpAnyH_done (by kernel_rfl) ?_ _
        refine NoPanic.normal ?_
        go_wp2_with fail
        exact ⟨⟨k + 1, _, _, _, by go_num, rfl, hlt, HFin.out⟩, by simp [intOf]; omega⟩
    · have hki : ¬ (k : Int) < (N : Int) := by omega
      have hkN : k = L.length := by rw [HN2.out]; omega
      have ho := HO.out
      rw [hkN, List.take_length] at ho
      have HO2 := Lib.hid ho
      clear hkN ho
      go_wp2_with fail
      go_ret2
      have hB := HB.out
      rw [HN2.out, hP0] at hB
      refine ⟨_, rfl, ?_, HC.out⟩
      rw [← hB]
      exact HO2.out

end Go.Proofs.YtbjagmlbamjdbaaGreat.roots
end

section
namespace Go.Proofs.YtbjagmlbamjdbaaGreat.kvs
open Go.RowKit Go.Maps Go.My Go.ChangeMaps disks bufs wals
set_option maxRecDepth 100000

variable {w w' : World}

end Go.Proofs.YtbjagmlbamjdbaaGreat.kvs
end

section
namespace Go.Proofs.YtbjagmlbamjdbaaGreat.roots
open Go.RowKit Go.Maps Go.My Go.ChangeMaps disks bufs wals kvs
set_option maxRecDepth 100000

variable {w w' : World}

theorem bytes_is (w : World) (p : Pk) {F : Nat → Prop} {v : Value} (h : LysAt w F v p.man.layers) (hm : mchkF p.man = 0) (ho : 1 ≤ p.owner ∧ p.owner ≤ 8) :
    Calls Tryz.prog 95 #[.agg #[.int .i64 p.owner, strV p.man.name, strV p.man.ver, v]] w fun e w' => e = .returned (strV (pencF p)) ∧ Chg (fun _ => False) w w' := by
  obtain ⟨ow, nm, vr, L⟩ := p
  simp only at h ho hm ⊢
  obtain ⟨o, rfl⟩ : ∃ o : Nat, ow = (o : Int) := ⟨ow.toNat, by omega⟩
  have hpe : pencF ⟨(o : Int), nm, vr, L⟩ = [UInt8.ofNat o] ++ mencF ⟨nm, vr, L⟩ := by unfold pencF; simp
  rw [hpe]
  obtain ⟨oa, cap, rfl, -⟩ := id h.is
  obtain ⟨sn, hsn⟩ : ∃ s, strV nm = .string s := ⟨_, rfl⟩
  obtain ⟨sv, hsv⟩ : ∃ s, strV vr = .string s := ⟨_, rfl⟩
  have hcx := ((Chg.refl (fun _ => False) w)).alloc (.cells #[.int .i64 (o : Int), .string sn, .string sv, .slice oa L.length cap] 90)
  have hen := encode_is (w.alloc (.cells #[.int .i64 (o : Int), .string sn, .string sv, .slice oa L.length cap] 90)) ⟨nm, vr, L⟩ (h.fresh hcx) hm
  simp only at hen
  rw [hsn, hsv] at hen
  rw [hsn, hsv]
  have HBx := Lib.hid (block_alloc_new w (.cells #[.int .i64 (o : Int), .string sn, .string sv, .slice oa L.length cap] 90))
  have hml : (mencF ⟨nm, vr, L⟩).length ≤ 400 := by
    have h1 := (pencF_len (p := ⟨(o : Int), nm, vr, L⟩) h.dig hm).1
    have h2 := (mchkF_ok hm).few
    rw [hpe] at h1
    simp only [List.length_append, List.length_singleton] at h1 h2
    omega
  obtain ⟨B, hB⟩ : ∃ B, mencF ⟨nm, vr, L⟩ = B := ⟨_, rfl⟩
  rw [hB] at hen hml ⊢
  have HEn := Lib.hid hen
  have HCx := Lib.hid hcx
  have hom : (o : Int) % 256 = (o : Int) := by omega
  obtain ⟨t, ht⟩ : ∃ t, strV [UInt8.ofNat o] = .string t := ⟨_, rfl⟩
  obtain ⟨s, hs⟩ : ∃ s, strV B = .string s := ⟨_, rfl⟩
  have hts : strV ([UInt8.ofNat o] ++ B) = .string (t ++ s) := by
    rw [strV_string _ t ht, strV_string _ s hs, str_append]; rfl
  have htz : t.size = 1 := str_size _ t ht
  have hsz : s.size ≤ 400 := by rw [str_size B s hs]; exact hml
  have hct : ∀ W : World, (convert 101 9 (.slice (some ⟨W.heap.size, 0, none⟩) 1 1)).run Tryz.prog (W.alloc (.cells #[.int .u8 (o : Int)] 5)) = .ok (.string t) (W.alloc (.cells #[.int .u8 (o : Int)] 5)) := fun W => by
    rw [← ht]
    refine conv_own (b := [UInt8.ofNat o]) (n := 1) (base := 0) ?_
    have := own_of_block (w := W.alloc (.cells #[.int .u8 (o : Int)] 5)) (base := 0) (n := 1) at1 (Nat.zero_le _) rfl (by unfold maxLen; omega)
    simp only [cellsB, List.map_cons, List.map_nil, toNat_ofNat_lt (show o < 256 by omega)]
    exact this
  have HCt := Lib.hid hct
  have HS := Lib.hid hs
  rw [hts]
  clear hct hts ht hs hen hcx hsn hsv h hB hm hpe
  go_enter Tryz.func95, Tryz.ntmps95
  go_wp2_with (first
    | (go_at_call 148; refine HEn.out.mono ?_; rintro e w1 ⟨v1, rfl, ho1, hc1⟩
       obtain ⟨o1, p1, hv1⟩ := own_slice ho1
       subst hv1
       have hb1 := hc1.at HBx.out id
       have d0 : w1.cell? ⟨w.heap.size, 0, none⟩ = some (.int .i64 (o : Int)) := cell_of_block hb1 rfl
       have hct := HCt.out w1
       have hca := (Chg.refl (fun _ => False) w1).alloc (.cells #[.int .u8 (o : Int)] 5)
       have hcs : (convert 101 9 (.slice o1 B.length p1)).run Tryz.prog (w1.alloc (.cells #[.int .u8 (o : Int)] 5)) = .ok (.string s) (w1.alloc (.cells #[.int .u8 (o : Int)] 5)) := by
         rw [← HS.out]; exact conv_own (own_kept ho1 hca)
       have HC := Lib.hid ((HCx.out.trans' hc1).trans' hca)
       clear hb1 hc1 hca ho1))
  go_ret
  exact ⟨rfl, HC.out⟩

def NoRoot (w : World) (p : Option Addr) : Prop := p = none ∨ ∃ T, p = some ⟨T, 0, none⟩ ∧ w.cell? ⟨T, 0, none⟩ = some (.pointer none)
theorem NoRoot.kept {p : Option Addr} (h : NoRoot w p) (hc : Chg (fun _ => False) w w') : NoRoot w' p := by
  rcases h with h | ⟨T, h1, h2⟩
  · exact Or.inl h
  · exact Or.inr ⟨T, h1, hc.cell h2 id⟩

end Go.Proofs.YtbjagmlbamjdbaaGreat.roots
end

section
namespace Go.Proofs.YtbjagmlbamjdbaaGreat.roots
open Go.RowKit Go.Maps Go.My Go.ChangeMaps disks bufs wals kvs
set_option maxRecDepth 100000

variable {w w' : World}

theorem push_put {B nb : Nat} {v : Value} {l : List PV} {p : PV} (h : Puts w B v l) (hb : w.heap[nb]? = some (.cells p.row.toArray 103 (0, 0))) (hB : B ≤ w.heap.size) (hl : l.length ≤ 1000000) :
    ∃ (o3 : Option Addr) (M p3 : Nat) (w3 : World), (Builtin.append_ #[66, 66] 66 #[v, .slice (some ⟨nb, 0, none⟩) 1 1]).run Tryz.prog w = .ok (.slice o3 M p3) w3 ∧ Puts w3 B (.slice o3 M p3) (l ++ [p]) ∧ Chg (fun k => some k = v.ownBlock) w w3 := by
  obtain ⟨i, hi, hz, hsz, hby⟩ := info_parts info_put
  have hadd : ∀ (j : Nat) u, p.row[j]? = some u → w.cell? ((⟨nb, 0, none⟩ : Addr).add j) = some u := by
    intro j u hu
    have : (⟨nb, 0, none⟩ : Addr).add j = ⟨nb, j, none⟩ := by unfold Addr.add; split <;> simp_all
    rw [this]; exact cell_of_block hb (by simpa using hu)
  obtain ⟨v', w', h1, h2, h3, -⟩ := run_append_own (P := Tryz.prog) w B 66 66 103 i _ 3 40 Tryz.underlying66 hi hz hsz hby rfl (by decide) v _ _ h.row ⟨nb, 0, none⟩ 1 1 p.row rfl hadd (row_oneCell p) (by rw [List.length_map]; unfold maxLen; omega) (by rw [List.length_map]; omega) hB
  have h4 : Puts w' B v' (l ++ [p]) := by
    show OwnRecs w' B _ 3 v' ((l ++ [p]).map PV.row)
    rw [List.map_append]
    exact OwnRecs.append (m := [p.row]) (by simpa using h2) h.each (by simp [PV.row])
  obtain ⟨o, c, rfl, -⟩ := h4.slice
  exact ⟨o, _, c, w', h1, h4, Chg.of_grown h3⟩

theorem lkeys_succ (c : UInt8) (a n : Nat) : lkeys c a (n + 1) = lkeys c a n ++ [[c, UInt8.ofNat (a + n)]] := by
  unfold lkeys
  rw [List.range'_concat, List.map_append]
  simp

set_option maxHeartbeats 1000000 in
theorem gone_is (w : World) (c : UInt8) (a b : Nat) (ha : a ≤ 1000) (hb : b ≤ 1000) :
    Calls Tryz.prog 54 #[strV [c], .int .i64 (a : Int), .int .i64 (b : Int)] w fun e w' => ∃ v, e = .returned v ∧ Puts w' w.heap.size v ((lkeys c a (b - a)).map delP) ∧ Chg (fun _ => False) w w' := by
  obtain ⟨sc, hsc⟩ : ∃ s, strV [c] = .string s := ⟨_, rfl⟩
  have hky := fun (W : World) (i : Nat) (hi : i < 9223372036854775808) => key_any W c i hi
  rw [hsc] at hky ⊢
  have HKy := Lib.hid hky
  clear hky hsc
  have ha0 : (0 : Int) ≤ (a : Int) := by omega
  have hb0 : (0 : Int) ≤ (b : Int) := by omega
  have ha1 : (a : Int) ≤ 1000 := by omega
  have hb1 : (b : Int) ≤ 1000 := by omega
  obtain ⟨bs, hbs⟩ : ∃ bs, w.heap.size = bs := ⟨_, rfl⟩
  rw [hbs]
  have HBs := Lib.hid hbs
  clear hbs
  go_enter Tryz.func54, Tryz.ntmps54
  go_wp2_with fail
  go_loopw [7, 8] (fun u j wr => ∃ (k : Nat) (ou : Option Addr) (nu cu : Nat), j = .int .i64 ((a + k : Nat) : Int) ∧ u = .slice ou nu cu ∧ k ≤ b - a ∧ Puts wr bs (.slice ou nu cu) ((lkeys c a k).map delP) ∧ Chg (fun _ => False) w wr) (fun _ j _ => b - (intOf j).toNat)
  · exact ⟨0, none, 0, 0, rfl, rfl, Nat.zero_le _, OwnRecs.nil _ _ _ _, Chg.refl _ _⟩
  obtain ⟨k, ou, nu, cu, rfl, rfl, hk, ho, hc⟩ := hrel
  have HO := Lib.hid ho
  have HC := Lib.hid hc
  clear ho hc
  obtain ⟨i, hi⟩ : ∃ i, a + k = i := ⟨_, rfl⟩
  rw [hi]
  by_cases hlt : i < b
  · have hki : (i : Int) < (b : Int) := by omega
    have HKi := Lib.hid (fun W => HKy.out W i (by omega))
    obtain ⟨sk, hsk⟩ : ∃ s, strV [c, UInt8.ofNat i] = .string s := ⟨_, rfl⟩
    rw [hsk] at HKi
    have HSk := Lib.hid hsk
    have HIk := Lib.hid hi
    clear hsk hi
    go_wp2_with (first
      | (go_at_call 94; refine (HKi.out wr).mono ?_; rintro e w1 ⟨rfl, hc1⟩
         have hca := (Chg.refl (fun _ => False) w1).alloc (.cells #[.string sk, .string ⟨#[]⟩, .bool true] 103)
         have hrow : (delP [c, UInt8.ofNat i]).row.toArray = #[.string sk, .string ⟨#[]⟩, .bool true] := by
           unfold PV.row delP; rw [← HSk.out]; rfl
         have hnb : (w1.alloc (.cells #[.string sk, .string ⟨#[]⟩, .bool true] 103)).heap[w1.heap.size]? = some (.cells (delP [c, UInt8.ofNat i]).row.toArray 103 (0, 0)) := by rw [hrow]; exact block_alloc_new _ _
         have hct := (HC.out.trans' hc1).trans' hca
         obtain ⟨o3, M3, p3, w3, hr3, ho3, hg3⟩ := push_put (HO.out.kept (hc1.trans' hca) (fun _ _ h => h)) hnb (by have := hct.size; have := HBs.out; omega) (by rw [List.length_map, lkeys_len]; omega)
         have HR3 := Lib.hid hr3
         have hfin : Puts w3 bs (.slice o3 M3 p3) ((lkeys c a (k + 1)).map delP) := by rw [lkeys_succ, HIk.out, List.map_append]; exact ho3
         have HO3 := Lib.hid hfin
         have HC3 := Lib.hid (hct.new hg3 (fun i e => by have := HBs.out; have := (HO.out.lt e.symm).1; omega))
         clear hc1 hca hrow hnb hct hr3 ho3 hg3 hfin)
      | (at_builtin; refine Lib.wpList_append_run _ rfl _ _ _ _ rfl _ _ rfl rfl _ _ HR3.out ?_))
    have hi := HIk.out
    exact ⟨⟨k + 1, _, _, _, congrArg (Value.int .i64) (by go_num), rfl, by omega, HO3.out, HC3.out⟩, by simp [intOf]; omega⟩
  · have hki : ¬ (i : Int) < (b : Int) := by omega
    have HKe := Lib.hid (show k = b - a by omega)
    clear hi
    go_wp2_with fail
    go_ret
    have h := HO.out
    rw [HKe.out] at h
    exact ⟨_, rfl, h, HC.out⟩

theorem lst_push (c : UInt8) : ∀ (l : List Pk) (i : Nat) (p : Pk), lst c i (l ++ [p]) = lst c i l ++ [([c, UInt8.ofNat (i + l.length)], pencF p)]
  | [], i, p => rfl
  | q :: l, i, p => by
    rw [List.cons_append, lst, lst, lst_push c l (i + 1) p, List.cons_append, List.length_cons, show i + 1 + l.length = i + (l.length + 1) by omega]

set_option maxHeartbeats 2000000 in
theorem lay_is (w : World) (c : UInt8) {F : Nat → Prop} {v : Value} {l : List Pk} (h : PksAt w F v l) (hok : ∀ p ∈ l, 1 ≤ p.owner ∧ p.owner ≤ 8 ∧ mchkF p.man = 0) (hl : l.length ≤ 200) :
    Calls Tryz.prog 53 #[strV [c], v] w fun e w' => ∃ v', e = .returned v' ∧ Puts w' w.heap.size v' ((lst c 0 l).map ofKV) ∧ Chg (fun _ => False) w w' := by
  obtain ⟨sc, hsc⟩ : ∃ s, strV [c] = .string s := ⟨_, rfl⟩
  have hky := fun (W : World) (i : Nat) (hi : i < 9223372036854775808) => key_any W c i hi
  rw [hsc] at hky ⊢
  have HKy := Lib.hid hky
  clear hky hsc
  obtain ⟨oa, cap, lv, rfl, hlv, hr, -, hly, hcap, hcm⟩ := h.is
  have H := Lib.hid hr
  have HLy := Lib.hid hly
  have HOk := Lib.hid hok
  obtain ⟨bs, hbs⟩ : ∃ bs, w.heap.size = bs := ⟨_, rfl⟩
  rw [hbs]
  have HBs := Lib.hid hbs
  clear hbs h hr hly hok hcap hcm
  go_enter Tryz.func53, Tryz.ntmps53
  go_wp2_with fail
  go_loopw [5, 10] (fun u j wr => ∃ (k : Nat) (ou : Option Addr) (nu cu : Nat), j = .int .i64 (k : Int) ∧ u = .slice ou nu cu ∧ k ≤ l.length ∧ Puts wr bs (.slice ou nu cu) ((lst c 0 (l.take k)).map ofKV) ∧ Chg (fun _ => False) w wr) (fun _ j _ => l.length - (intOf j).toNat)
  · exact ⟨0, none, 0, 0, rfl, rfl, Nat.zero_le _, OwnRecs.nil _ _ _ _, Chg.refl _ _⟩
  obtain ⟨k, ou, nu, cu, rfl, rfl, hk, ho, hc⟩ := hrel
  have HO := Lib.hid ho
  have HC := Lib.hid hc
  clear ho hc
  by_cases hlt : k < l.length
  · have hki : (k : Int) < (l.length : Int) := by omega
    obtain ⟨p, hp⟩ : ∃ p, l[k]? = some p := ⟨l[k]'(by omega), List.getElem?_eq_getElem _⟩
    obtain ⟨u, hu⟩ : ∃ u, lv[k]? = some u := ⟨lv[k]'(by omega), List.getElem?_eq_getElem _⟩
    obtain ⟨b, off, rfl⟩ := H.out.spot (by intro e; have e2 := congrArg List.length e; rw [List.length_zipWith, List.length_nil] at e2; omega)
    obtain ⟨d0, d1, d2, d3⟩ := pk_cells (H.out.kept HC.out (fun _ _ h => h)) hp hu
    have hlyk := HLy.out k p u hp hu
    obtain ⟨o1, o2, o3⟩ := HOk.out p (List.mem_of_getElem? hp)
    have hby := fun (W : World) (hW : Chg (fun _ => False) w W) => bytes_is W p (hlyk.fresh hW) o3 ⟨o1, o2⟩
    have hlst : lst c 0 (l.take (k + 1)) = lst c 0 (l.take k) ++ [([c, UInt8.ofNat k], pencF p)] := by
      rw [List.take_add_one, hp, Option.toList_some, lst_push, List.length_take, Nat.min_eq_left (by omega), Nat.zero_add]
    have HLst := Lib.hid hlst
    obtain ⟨ou1, cu1, rfl, -⟩ := hlyk.is
    obtain ⟨s1, hs1⟩ : ∃ s, strV p.man.name = .string s := ⟨_, rfl⟩
    obtain ⟨s2, hs2⟩ : ∃ s, strV p.man.ver = .string s := ⟨_, rfl⟩
    obtain ⟨sk, hsk⟩ : ∃ s, strV [c, UInt8.ofNat k] = .string s := ⟨_, rfl⟩
    obtain ⟨sb, hsb⟩ : ∃ s, strV (pencF p) = .string s := ⟨_, rfl⟩
    obtain ⟨n1, hn1⟩ : ∃ n, p.man.layers.length = n := ⟨_, rfl⟩
    obtain ⟨ow, how⟩ : ∃ n, p.owner = n := ⟨_, rfl⟩
    rw [hs1, hs2, hsb, hn1, how] at hby
    rw [hs1] at d1
    rw [hs2] at d2
    rw [hn1] at d3
    rw [how] at d0
    have HKi := Lib.hid (fun W => HKy.out W k (by omega))
    rw [hsk] at HKi
    have HBy := Lib.hid hby
    have hrow : (ofKV ([c, UInt8.ofNat k], pencF p)).row.toArray = #[.string sk, .string sb, .bool false] := by
      unfold PV.row ofKV; rw [← hsk, ← hsb]
    have HRow := Lib.hid hrow
    have hba := block_alloc_new wr (.cells #[.int .i64 ow, .string s1, .string s2, .slice ou1 n1 cu1] 90)
    have hca : Chg (fun _ => False) wr (wr.alloc (.cells #[.int .i64 ow, .string s1, .string s2, .slice ou1 n1 cu1] 90)) := (Chg.refl _ _).alloc _
    obtain ⟨wA, hwA⟩ : ∃ wA, wr.alloc (.cells #[.int .i64 ow, .string s1, .string s2, .slice ou1 n1 cu1] 90) = wA := ⟨_, rfl⟩
    rw [hwA] at hba hca
    have hq : ∀ W, Chg (fun k => bs ≤ k ∧ k ≠ wr.heap.size) wA W → W.cell? ⟨wr.heap.size, 0, none⟩ = some (.int .i64 ow) ∧ W.cell? ⟨wr.heap.size, 1, none⟩ = some (.string s1) ∧ W.cell? ⟨wr.heap.size, 2, none⟩ = some (.string s2) ∧ W.cell? ⟨wr.heap.size, 3, none⟩ = some (.slice ou1 n1 cu1) := fun W hW => by
      have hb := hW.at hba (fun e => e.2 rfl)
      exact ⟨cell_of_block hb rfl, cell_of_block hb rfl, cell_of_block hb rfl, cell_of_block hb rfl⟩
    have HQ := Lib.hid hq
    have HBa := Lib.hid hba
    have HCA := Lib.hid hca
    clear hp hu hlyk hby o1 o2 o3 hs1 hs2 hsk hsb hn1 how hlst hrow hba hca hq
    go_wp2_with fail
    try rw [hwA]
    clear hwA
    have HD := Lib.hid (show Chg (fun _ => False) wA wA.drew from (Chg.refl _ _).drew)
    refine wp_region_noPanic ?_
    refine wp_region_held_drew (S := (fun w' => w'.cell? ⟨wr.heap.size, 0, none⟩ = some (.int .i64 ow) ∧ w'.cell? ⟨wr.heap.size, 1, none⟩ = some (.string s1) ∧ w'.cell? ⟨wr.heap.size, 2, none⟩ = some (.string s2) ∧ w'.cell? ⟨wr.heap.size, 3, none⟩ = some (.slice ou1 n1 cu1))) (by kernel_rfl) (HQ.out _ (HD.out.mono (fun _ _ h => h.elim))) (fun hHeld => ?_)
    refine tk 0 (v := ?_) hHeld rfl (fun w hSw => ?_) ?_
    rotate_left
    · go_simp
      try with_reducible rfl
    simp only [Act.put, zA, zB, zC]
    refine tk 1 (v := ?_) hHeld rfl (fun w hSw => ?_) ?_
    rotate_left
    · go_simp
      try with_reducible rfl
    simp only [Act.put, zA, zB, zC]
    refine tk 2 (v := ?_) hHeld rfl (fun w hSw => ?_) ?_
    rotate_left
    · go_simp
      try with_reducible rfl
    simp only [Act.put, zA, zB, zC]
    refine tk 4 (v := ?_) hHeld rfl (fun w hSw => ?_) ?_
    rotate_left
    · (obtain ⟨hSw1, hSw2, hSw3, hSw4⟩ := hSw; go_simp)
      try with_reducible rfl
    simp only [Act.put, zA, zB, zC]
    refine on1 3 rfl (fun K hK => ?_)
    go_simp
    refine (HKi.out wA.drew).mono ?_
    rintro e w1 ⟨rfl, hc1⟩
    have HC1 := Lib.hid (HD.out.trans' hc1)
    clear hc1
    refine hK _ _ (HQ.out _ (HC1.out.mono (fun _ _ h => h.elim))) (fun hA1 => ?_)
    try simp only [Act.put, zA, zB, zC]
    refine on1 5 rfl (fun K hK => ?_)
    go_simp
    refine (HBy.out w1 (HC.out.trans' (HCA.out.trans' HC1.out))).mono ?_
    rintro e w2 ⟨rfl, hc2⟩
    have hca2 := (Chg.refl (fun _ => False) w2).alloc (.cells #[.string sk, .string sb, .bool false] 103)
    have hc3 : Chg (fun _ => False) wA (w2.alloc (.cells #[.string sk, .string sb, .bool false] 103)) := (HC1.out.trans' hc2).trans' hca2
    have hnb : (w2.alloc (.cells #[.string sk, .string sb, .bool false] 103)).heap[w2.heap.size]? = some (.cells (ofKV ([c, UInt8.ofNat k], pencF p)).row.toArray 103 (0, 0)) := by rw [HRow.out]; exact block_alloc_new _ _
    have HC2 := Lib.hid (HC1.out.trans' hc2)
    have HC3 := Lib.hid hc3
    have HNb := Lib.hid hnb
    clear hc2 hca2 hc3 hnb
    refine hK _ _ (HQ.out _ (HC2.out.mono (fun _ _ h => h.elim))) (fun hA2 => ?_)
    try simp only [Act.put, zA, zB, zC]
    refine tk 6 (v := ?_) hA2 rfl (fun w hSw => ?_) ?_
    rotate_left
    · go_simp
      try with_reducible rfl
    simp only [Act.put, zA, zB, zC]
    refine on1 7 rfl (fun K hK => ?_)
    go_simp
    refine hK _ _ (HQ.out _ (HC3.out.mono (fun _ _ h => h.elim))) (fun hA3 => ?_)
    try simp only [Act.put, zA, zB, zC]
    have hown : ∀ g, (Value.slice ou nu cu).ownBlock = some g → bs ≤ g ∧ g < wr.heap.size := fun g hg => HO.out.lt hg
    have hcz := HC.out.trans' (HCA.out.trans' HC3.out)
    obtain ⟨o3, M3, p3, w3, hr3, ho3, hg3⟩ := push_put (HO.out.kept (HCA.out.trans' HC3.out) (fun _ _ h => h)) HNb.out (by have := hcz.size; have := HBs.out; omega) (by rw [List.length_map, lst_len, List.length_take]; omega)
    refine on1 8 rfl (fun K hK => ?_)
    refine oper_append _ _ _ rfl rfl rfl hr3 ?_
    have hc3 : Chg (fun _ => False) w w3 := hcz.new hg3 (fun i e => by have := HBs.out; have := (hown i e.symm).1; omega)
    have hq3 := HQ.out w3 ((HC3.out.mono (fun _ _ h => h.elim) : Chg (fun k => bs ≤ k ∧ k ≠ wr.heap.size) wA _).trans' (hg3.mono (fun k _ e => ⟨(hown k e.symm).1, by have := (hown k e.symm).2; omega⟩)))
    have hfin : Puts w3 bs (.slice o3 M3 p3) ((lst c 0 (l.take (k + 1))).map ofKV) := by rw [HLst.out, List.map_append]; exact ho3
    have HFin := Lib.hid (And.intro hfin hc3)
    have HQ3 := Lib.hid hq3
    clear hown hcz hr3 ho3 hg3 hc3 hq3 hfin
    refine hK _ _ (HQ3.out) (fun hA4 => ?_)
    try simp only [Act.put, zA, zB, zC]
    refine tk 9 (v := ?_) hA4 rfl (fun w hSw => ?_) ?_
    rotate_left
    · go_simp
      try with_reducible rfl
    simp only [Act.put, zA, zB, zC]
    refine wpAnyH_done (by kernel_rfl) ?_ _
    refine NoPanic.normal ?_
    go_wp2_with fail
    exact ⟨⟨k + 1, _, _, _, by go_num, rfl, hlt, HFin.out⟩, meas_step hlt⟩
  · have hki : ¬ (k : Int) < (l.length : Int) := by omega
    obtain rfl : k = l.length := by omega
    go_wp2_with fail
    go_ret
    have h := HO.out
    rw [List.take_length] at h
    exact ⟨_, rfl, h, HC.out⟩

end Go.Proofs.YtbjagmlbamjdbaaGreat.roots
end

section
namespace Go.Proofs.YtbjagmlbamjdbaaGreat.roots
open Go.RowKit Go.Maps Go.My Go.ChangeMaps disks bufs wals kvs
set_option maxRecDepth 100000

variable {w w' : World}

def sizesF (l : List Rf) : Nat := (l.map (fun x => x.size.toNat)).sum
def msizeF (m : Mf) : Nat := if mchkF m ≠ 0 then 0 else sizesF m.layers
theorem sizesF_le : ∀ (l : List Rf), (∀ x ∈ l, 0 ≤ x.size ∧ x.size ≤ 2147483647) → sizesF l ≤ 2147483647 * l.length
  | [], _ => by simp [sizesF]
  | x :: l, h => by
    have h1 := sizesF_le l (fun y hy => h y (by simp [hy]))
    have h2 := h x (by simp)
    have e : sizesF (x :: l) = x.size.toNat + sizesF l := by simp [sizesF]
    rw [e, List.length_cons]
    omega
theorem sizesF_take {l : List Rf} {k : Nat} {x : Rf} (h : l[k]? = some x) : sizesF (l.take (k + 1)) = sizesF (l.take k) + x.size.toNat := by
  unfold sizesF
  rw [List.take_add_one, h, Option.toList_some, List.map_append, List.sum_append]
  simp
theorem msizeF_le (m : Mf) : msizeF m ≤ 17179869176 := by
  unfold msizeF
  split
  · omega
  · rename_i h
    have h := mchkF_ok (by simpa using h)
    have h1 := sizesF_le m.layers h.sizes
    have h2 := h.few
    omega

set_option maxHeartbeats 2000000 in
theorem msize_is (w : World) (m : Mf) {F : Nat → Prop} {v : Value} (h : LysAt w F v m.layers) (h1 : m.name.length ≤ maxLen) (h2 : m.ver.length ≤ maxLen) :
    Calls Tryz.prog 45 #[.agg #[strV m.name, strV m.ver, v]] w fun e w' => e = .returned (.int .i64 (msizeF m : Int)) ∧ Chg (fun _ => False) w w' := by
  obtain ⟨nm, vr, L⟩ := m
  simp only at h h1 h2 ⊢
  obtain ⟨oa, cap, rfl, hr, -, -, -⟩ := id h.is
  have H := Lib.hid hr
  have HD := Lib.hid h.dig
  obtain ⟨sn, hsn⟩ : ∃ s, strV nm = .string s := ⟨_, rfl⟩
  obtain ⟨sv, hsv⟩ : ∃ s, strV vr = .string s := ⟨_, rfl⟩
  have hcx := ((Chg.refl (fun _ => False) w)).alloc (.cells #[.string sn, .string sv, .slice oa L.length cap] 88)
  have hmk := mcheck_is (w.alloc (.cells #[.string sn, .string sv, .slice oa L.length cap] 88)) ⟨nm, vr, L⟩ (h.fresh hcx) h1 h2
  simp only at hmk
  rw [hsn, hsv] at hmk
  rw [hsn, hsv]
  have HBx := Lib.hid (block_alloc_new w (.cells #[.string sn, .string sv, .slice oa L.length cap] 88))
  have HCx := Lib.hid hcx
  obtain ⟨M, hM⟩ : ∃ M, mchkF ⟨nm, vr, L⟩ = M := ⟨_, rfl⟩
  have hms : msizeF ⟨nm, vr, L⟩ = if M ≠ 0 then 0 else sizesF L := by unfold msizeF; rw [hM]
  rw [hM] at hmk
  rw [hms]
  have HMk := Lib.hid hmk
  clear h hr hsn hsv hcx hmk h1 h2 hms
  by_cases m0 : M = 0
  · subst m0
    have hok := mchkF_ok hM
    have HSz := Lib.hid hok.sizes
    have n3 := hok.few
    simp only at n3
    rw [if_neg (by simp)]
    obtain ⟨b, off, rfl⟩ := H.out.spot (by intro e; rw [List.map_eq_nil_iff] at e; have := hok.some; rw [e] at this; simp at this)
    obtain ⟨S, hS⟩ : ∃ S, sizesF L = S := ⟨_, rfl⟩
    rw [hS]
    have HS := Lib.hid hS
    clear hok hS hM
    go_enter Tryz.func45, Tryz.ntmps45
    go_wp2_with (first
      | (go_at_call 41; refine HMk.out.mono ?_; rintro e w1 ⟨rfl, hc1⟩
         have hb1 := hc1.at HBx.out id
         have c2 : w1.cell? ⟨w.heap.size, 2, none⟩ = some (.slice (some ⟨b, off, none⟩) L.length cap) := cell_of_block hb1 rfl
         have HC1 := Lib.hid (HCx.out.trans' hc1)
         clear hb1 hc1))
    go_loopw [3, 12] (fun u j wr => ∃ k : Nat, j = .int .i64 k ∧ k ≤ L.length ∧ u = .int .i64 (sizesF (L.take k) : Int) ∧ Chg (fun _ => False) w wr) (fun _ j _ => L.length - (intOf j).toNat)
    · exact ⟨0, rfl, Nat.zero_le _, rfl, HC1.out⟩
    obtain ⟨k, rfl, hk, rfl, hc⟩ := hrel
    have HC := Lib.hid hc
    clear hc HC1 c2
    by_cases hlt : k < L.length
    · have hki : (k : Int) < (L.length : Int) := by omega
      obtain ⟨x, hx⟩ : ∃ x, L[k]? = some x := ⟨L[k], List.getElem?_eq_getElem hlt⟩
      have hb32 : x.sum.length = 32 := HD.out x (List.mem_of_getElem? hx)
      obtain ⟨z0, z1⟩ := HSz.out x (List.mem_of_getElem? hx)
      obtain ⟨z, hz⟩ : ∃ z : Nat, x.size = (z : Int) := ⟨x.size.toNat, by omega⟩
      have htk : sizesF (L.take (k + 1)) = sizesF (L.take k) + z := by rw [sizesF_take hx, hz]; rfl
      have hle := sizesF_le (L.take k) (fun y hy => HSz.out y (List.mem_of_mem_take hy))
      have hlen : (rfC x).length = 33 := by simp [rfC, cellsB_length, hb32]
      have hrng : wr.rangeAt b (off + k * 33) (rfC x) := fun j v hj => (H.out.kept HC.out (fun _ _ h => h)).cell b off rfl k (rfC x) j v (by rw [List.getElem?_map, hx]; rfl) hj
      have hone : ∀ v ∈ rfC x, v.oneCell' = true := by
        intro v hv
        simp only [rfC, cellsB, List.mem_append, List.mem_map, List.mem_singleton] at hv
        rcases hv with ⟨y, -, rfl⟩ | rfl <;> rfl
      have HRng := Lib.hid hrng
      have HOne := Lib.hid hone
      have HLen := Lib.hid hlen
      obtain ⟨row, hrow⟩ : ∃ row, rfC x = row := ⟨_, rfl⟩
      rw [hrow] at HRng HOne HLen
      have hba := block_alloc_new wr (.cells row.toArray 98)
      have hca : Chg (fun _ => False) wr (wr.alloc (.cells row.toArray 98)) := (Chg.refl _ _).alloc _
      obtain ⟨wA, hwA⟩ : ∃ wA, wr.alloc (.cells row.toArray 98) = wA := ⟨_, rfl⟩
      rw [hwA] at hba hca
      have a32 : wA.cell? ⟨wr.heap.size, 32, none⟩ = some (.int .i64 (z : Int)) := cell_of_block hba (by rw [List.getElem?_toArray, ← hrow, rfC, List.getElem?_append_right (by rw [cellsB_length, hb32]; exact Nat.le_refl _), cellsB_length, hb32, hz]; rfl)
      obtain ⟨A, hA⟩ : ∃ A, sizesF (L.take k) = A := ⟨_, rfl⟩
      rw [hA] at htk hle ⊢
      have hlk : (L.take k).length ≤ 8 := by rw [List.length_take]; omega
      have hA0 : (0 : Int) ≤ (A : Int) := by omega
      have hA1 : (A : Int) ≤ 17179869176 := by omega
      have hz0 : (0 : Int) ≤ (z : Int) := by omega
      have hz1 : (z : Int) ≤ 2147483647 := by omega
      have HTk := Lib.hid htk
      have HCA := Lib.hid hca
      clear hx hb32 z0 z1 hz htk hle hlen hrng hone hrow hba hca hA hlk
      go_wp2_with (first
        | (refine wpList_load_mid rfl 98 _ rfl b (off + k * 33) rfl row _ HRng.out Tryz.underlying98 rfl (size_ref.trans (by rw [HLen.out])) ?_)
        | (refine wpList_store_new rfl 98 _ _ rfl row.toArray rfl rfl (size_ref.trans (by rw [List.size_toArray, HLen.out])) (by rw [show row.toArray.size = 33 from by rw [List.size_toArray, HLen.out]]; rfl) (all_oneCell_toArray HOne.out) ?_))
      exact ⟨⟨k + 1, by go_num, hlt, by rw [HTk.out]; go_num, HC.out.trans' HCA.out⟩, meas_step hlt⟩
    · have hki : ¬ (k : Int) < (L.length : Int) := by omega
      obtain rfl : k = L.length := by omega
      go_wp2_with fail
      go_ret
      rw [← HS.out]
      first
        | exact ⟨rfl, HC.out⟩
        | (rw [List.take_length]; exact ⟨rfl, HC.out⟩)
  · rw [if_pos m0]
    have m0b : ((M : Int) != 0) = true := by simpa using m0
    have m0i : ¬ (M : Int) = 0 := by omega
    clear hM
    go_enter Tryz.func45, Tryz.ntmps45
    go_wp2_with (first
      | (go_at_call 41; refine HMk.out.mono ?_; rintro e w1 ⟨rfl, hc1⟩
         have HC1 := Lib.hid (HCx.out.trans' hc1)
         clear hc1))
    go_ret
    exact ⟨rfl, HC1.out⟩

def sizeF (o : Int) (l : List Pk) : Nat := (l.map (fun p => if p.owner = o then msizeF p.man else 0)).sum
theorem sizeF_le (o : Int) : ∀ (l : List Pk), sizeF o l ≤ 17179869176 * l.length
  | [] => by simp [sizeF]
  | p :: l => by
    have h1 := sizeF_le o l
    have h2 := msizeF_le p.man
    have e : sizeF o (p :: l) = (if p.owner = o then msizeF p.man else 0) + sizeF o l := by simp [sizeF]
    rw [e, List.length_cons]
    split <;> omega
theorem sizeF_take {o : Int} {l : List Pk} {k : Nat} {p : Pk} (h : l[k]? = some p) : sizeF o (l.take (k + 1)) = sizeF o (l.take k) + if p.owner = o then msizeF p.man else 0 := by
  unfold sizeF
  rw [List.take_add_one, h, Option.toList_some, List.map_append, List.sum_append]
  simp

set_option maxHeartbeats 1000000 in
theorem size_is (w : World) {F : Nat → Prop} {v : Value} {l : List Pk} (h : PksAt w F v l) (hl : l.length ≤ 1000) (o : Int) :
    Calls Tryz.prog 15 #[v, .int .i64 o] w fun e w' => e = .returned (.int .i64 (sizeF o l : Int)) ∧ Chg (fun _ => False) w w' := by
  obtain ⟨oa, cap, lv, rfl, hlv, hr, -, hly, hcap, hcm⟩ := h.is
  have HTx := Lib.hid h.txt
  have H := Lib.hid hr
  have HLy := Lib.hid hly
  obtain ⟨S, hS⟩ : ∃ S, sizeF o l = S := ⟨_, rfl⟩
  rw [hS]
  have HS := Lib.hid hS
  clear h hr hly hcap hcm hS
  go_enter Tryz.func15, Tryz.ntmps15
  go_wp2_with fail
  go_loopw [5, 10] (fun u j wr => ∃ k : Nat, u = .int .i64 (sizeF o (l.take k) : Int) ∧ j = .int .i64 k ∧ k ≤ l.length ∧ Chg (fun _ => False) w wr) (fun _ j _ => l.length - (intOf j).toNat)
  · exact ⟨0, rfl, rfl, Nat.zero_le _, Chg.refl _ _⟩
  obtain ⟨k, rfl, rfl, hk, hc⟩ := hrel
  have HC := Lib.hid hc
  clear hc
  by_cases hlt : k < l.length
  · have hki : (k : Int) < (l.length : Int) := by omega
    obtain ⟨p, hp⟩ : ∃ p, l[k]? = some p := ⟨l[k]'(by omega), List.getElem?_eq_getElem _⟩
    obtain ⟨u, hu⟩ : ∃ u, lv[k]? = some u := ⟨lv[k]'(by omega), List.getElem?_eq_getElem _⟩
    obtain ⟨b, off, rfl⟩ := H.out.spot (by intro e; have e2 := congrArg List.length e; rw [List.length_zipWith, List.length_nil] at e2; omega)
    obtain ⟨d0, d1, d2, d3⟩ := pk_cells (H.out.kept HC.out (fun _ _ h => h)) hp hu
    have hlyk := HLy.out k p u hp hu
    obtain ⟨t1, t2⟩ := HTx.out p (List.mem_of_getElem? hp)
    have htk := sizeF_take (o := o) hp
    obtain ⟨A, hA⟩ : ∃ A, sizeF o (l.take k) = A := ⟨_, rfl⟩
    have hAl := sizeF_le o (l.take k)
    rw [hA] at hAl
    have hlk : (l.take k).length ≤ 1000 := by rw [List.length_take]; omega
    have hA0 : (0 : Int) ≤ (A : Int) := by omega
    have hA1 : (A : Int) ≤ 17179869176000 := by omega
    rw [hA] at htk ⊢
    obtain ⟨ou, cu, rfl, -⟩ := hlyk.is
    obtain ⟨ow, nm, vr, L⟩ := p
    simp only at d0 d1 d2 d3 hlyk t1 t2 htk
    obtain ⟨s1, hs1⟩ : ∃ s, strV nm = .string s := ⟨_, rfl⟩
    obtain ⟨s2, hs2⟩ : ∃ s, strV vr = .string s := ⟨_, rfl⟩
    rw [hs1] at d1
    rw [hs2] at d2
    have hcx : Chg (fun _ => False) w (wr.alloc (.cells #[.int .i64 ow, .string s1, .string s2, .slice ou L.length cu] 90)) := HC.out.alloc _
    have hmk := msize_is (wr.alloc (.cells #[.int .i64 ow, .string s1, .string s2, .slice ou L.length cu] 90)) ⟨nm, vr, L⟩ (hlyk.fresh hcx) t1 t2
    rw [hs1, hs2] at hmk
    obtain ⟨M, hM⟩ : ∃ M, msizeF ⟨nm, vr, L⟩ = M := ⟨_, rfl⟩
    have hMl := msizeF_le ⟨nm, vr, L⟩
    rw [hM] at hmk htk hMl
    have hM0 : (0 : Int) ≤ (M : Int) := by omega
    have hM1 : (M : Int) ≤ 17179869176 := by omega
    have HMk := Lib.hid hmk
    have HCa := Lib.hid hcx
    have HTk := Lib.hid htk
    clear hp hu hlyk t1 t2 htk hA hAl hlk hs1 hs2 hcx hmk hM hMl
    by_cases he : ow = o
    · subst he
      go_wp2_with (first
        | (go_at_call 45; refine HMk.out.mono ?_; rintro e w1 ⟨rfl, hc1⟩
           have HC1 := Lib.hid (HCa.out.trans' hc1)
           clear hc1))
      exact ⟨⟨k + 1, by rw [HTk.out]; simp, by go_num, hlt, HC1.out⟩, meas_step hlt⟩
    · have heb : (ow == o) = false := by simpa using he
      have HNe := Lib.hid he
      clear he
      go_wp2_with fail
      exact ⟨⟨k + 1, by rw [HTk.out, if_neg HNe.out, Nat.add_zero], by go_num, hlt, HCa.out⟩, meas_step hlt⟩
  · have hki : ¬ (k : Int) < (l.length : Int) := by omega
    obtain rfl : k = l.length := by omega
    go_wp2_with fail
    go_ret
    rw [← HS.out]
    first
      | exact ⟨rfl, HC.out⟩
      | (rw [List.take_length]; exact ⟨rfl, HC.out⟩)

end Go.Proofs.YtbjagmlbamjdbaaGreat.roots
end

/- . -/
import Derived.Test.YtbjagmlbamjdbaaGreatPx0RootOnce
import Derived.Test.YtbjagmlbamjdbaaGreatPx19RootOnce
import Derived.Test.YtbjagmlbamjdbaaGreatPx24RootOnce
import Derived.Laws.ResultCell

set_option linter.unusedSimpArgs false
set_option linter.unusedVariables false
section
namespace Go.Proofs.YtbjagmlbamjdbaaGreat.roots
open Go.RowKit Go.Maps Go.My Go.ChangeMaps disks bufs wals kvs
set_option maxRecDepth 100000

variable {w w' : World}

theorem conv_slatR {v : Value} {b : Txt} (h : SlAt w v (cellsB b)) (hne : b ≠ []) : (convert 101 9 v).run Tryz.prog w = .ok (strV b) w := by
  obtain ⟨oa, cap, rfl, hs, hc⟩ := h
  obtain ⟨g, off, e⟩ := hs (by intro e; have := congrArg List.length e; rw [cellsB_length, List.length_nil] at this; exact hne (List.eq_nil_of_length_eq_zero this))
  subst e
  rw [cellsB_length]
  refine run_convert_bytes_back w 101 9 5 ⟨g, off, none⟩ cap b Tryz.underlying101 Tryz.underlying5 Tryz.underlying9 (fun j hj => ?_)
  have e : (⟨g, off, none⟩ : Addr).add j = ⟨g, off + j, none⟩ := by unfold Addr.add; split <;> simp_all
  rw [e]
  exact hc g off rfl j _ (by simp [cellsB, hj])

theorem size_man : (Tryz.prog.info? 88).map (·.size) = some 3 := by kernel_rfl
theorem cut_tail {g off n cap : Nat} {c : UInt8} {b : Txt} (h : CutAt w (.slice (some ⟨g, off, none⟩) n cap) (c :: b)) (hb : 1 < cap) : CutAt w (.slice (some ⟨g, off + 1, none⟩) (n - 1) (cap - 1)) b := by
  obtain ⟨g', off', cap', e, hc, hs⟩ := h
  cases e
  have h1 := cut_of (p := 1) (m := b.length) (c' := cap - 1) (o2 := off + 1) hs (by simp only [List.length_cons]; omega) (by simp only [List.length_cons] at hc; omega) (Or.inl rfl)
  rw [List.drop_succ_cons, List.drop_zero, List.take_of_length_le (Nat.le_refl _)] at h1
  rw [List.length_cons, Nat.add_sub_cancel]
  exact h1
theorem cut_byte {g off n cap : Nat} {c : UInt8} {b : Txt} (h : CutAt w (.slice (some ⟨g, off, none⟩) n cap) (c :: b)) : w.cell? ⟨g, off, none⟩ = some (.int .u8 (c.toNat : Int)) ∧ n = b.length + 1 ∧ n ≤ cap := by
  obtain ⟨g', off', cap', e, hc, h1⟩ := h
  cases e
  obtain ⟨oa, cp, e, -, h3⟩ := h1
  simp only [Value.slice.injEq] at e
  have := h3 g off e.1.symm 0 (.int .u8 (c.toNat : Int)) (by simp [cellsB])
  exact ⟨by simpa using this, rfl, hc⟩

theorem cut_but {g off n cap : Nat} {b : Txt} {Sx : Nat → Prop} (h : CutAt w (.slice (some ⟨g, off, none⟩) n cap) b) (hc : Chg Sx w w') (hs : ¬ Sx g) : CutAt w' (.slice (some ⟨g, off, none⟩) n cap) b := by
  obtain ⟨g', off', cap', e, h2, oa, cp, h3, h4, h5⟩ := h
  cases e
  refine ⟨g, off, cap, rfl, h2, oa, cp, h3, h4, fun b' o' ho i x hx => hc.cell (h5 b' o' ho i x hx) ?_⟩
  simp only [Value.slice.injEq] at h3
  rw [← h3.1] at ho
  cases ho
  exact hs

theorem cut_len {g off n cap : Nat} {b : Txt} (h : CutAt w (.slice (some ⟨g, off, none⟩) n cap) b) : n = b.length ∧ n ≤ cap := by
  obtain ⟨g', off', cap', e, hc, h1⟩ := h
  cases e
  exact ⟨rfl, hc⟩
theorem cut_drop {g off n cap V : Nat} {x b : Txt} (h : CutAt w (.slice (some ⟨g, off, none⟩) n cap) (x ++ b)) (hV : x.length = V) : CutAt w (.slice (some ⟨g, if cap = V then off else off + V, none⟩) (n - V) (cap - V)) b := by
  obtain ⟨g', off', cap', e, hc, hs⟩ := h
  cases e
  have hl : (x ++ b).length - V = b.length := by rw [List.length_append]; omega
  have hl2 : V + b.length = (x ++ b).length := by rw [List.length_append]; omega
  have h1 := cut_of (p := V) (m := b.length) (c' := cap - V) (o2 := if cap = V then off else off + V) hs (by omega) (by omega) (by
    split
    · exact Or.inr (by omega)
    · exact Or.inl rfl)
  rw [List.drop_left' hV, List.take_of_length_le (Nat.le_refl _)] at h1
  rw [hl]
  exact h1

def nmL (m : Mf) : List Txt := [m.name, m.ver]
def restN (m : Mf) (k : Nat) : Txt := (((nmL m).drop k).map nameT).flatten ++ (UInt8.ofNat m.layers.length :: laysB m.layers)
def seenN (m : Mf) (k : Nat) : Array Value := #[if 0 < k then strV m.name else .string ⟨#[]⟩, if 1 < k then strV m.ver else .string ⟨#[]⟩, .slice none 0 0]
theorem menc_rest (m : Mf) : mencF m = [86, 77, 1] ++ restN m 0 := by
  simp [mencF, restN, nmL, nameT]
theorem rest_succ {m : Mf} {k : Nat} {x : Txt} (h : (nmL m)[k]? = some x) : restN m k = UInt8.ofNat x.length :: (x ++ restN m (k + 1)) := by
  unfold restN
  rw [List.drop_eq_getElem_cons (List.getElem?_eq_some_iff.1 h).1, (List.getElem?_eq_some_iff.1 h).2]
  simp [nameT]
theorem restN_le (m : Mf) : ∀ k, (restN m k).length ≤ (restN m 0).length
  | 0 => Nat.le_refl _
  | 1 => by simp [restN, nmL]
  | k + 2 => by simp [restN, nmL]; omega
theorem restN_two (m : Mf) : restN m 2 = UInt8.ofNat m.layers.length :: laysB m.layers := rfl
theorem yieldsIf_arrayAt {ops : Array Oper} {S : World → Prop} {op : Oper} {a : Act} (hw : Region.wanted op (yielded ops a.tmps) = true) (t : TypeId) (x : Operand) (ho : op.op = .sliceToArrayPointer t x) (ad : Addr) (n c k : Nat) {e : TypeId} (hx : a.eval x = .slice (some ad) n c)
    (ht : Tryz.prog.underlying t = some (.array k e)) (hk : ¬ n < k) : YieldsIf Tryz.prog ops S op (.pointer (some ad)) a :=
  .inl ⟨hw, fun w' _ => by
    unfold execOp
    simp [ho, hx, Instr.arrayAt, run_underlying ht, hk]⟩
theorem take_set_succ {α : Type} (l : List α) (k : Nat) (c : α) (h : k < l.length) : (l.set k c).take (k + 1) = l.take k ++ [c] := by
  rw [List.take_add_one, List.take_set, List.set_eq_of_length_le (by rw [List.length_take]; omega), List.getElem?_set_self h]
  rfl
theorem fold_set_at : ∀ (cs : List Value) (k : Nat) (A : Array Value), k + cs.length ≤ A.size → ((cs.zipIdx k).foldl (fun cs x => cs.setIfInBounds x.snd x.fst) A).toList = A.toList.take k ++ cs ++ A.toList.drop (k + cs.length)
  | [], k, A, _ => by simp
  | c :: cs, k, A, h => by
    rw [List.length_cons] at h
    rw [List.zipIdx_cons, List.foldl_cons, fold_set_at cs (k + 1) _ (by simp; omega), Array.toList_setIfInBounds, take_set_succ _ _ _ (by rw [Array.length_toList]; omega), List.drop_set_of_lt (by omega), List.length_cons]
    rw [show k + 1 + cs.length = k + (cs.length + 1) by omega]
    simp
theorem fold_set (cs : List Value) (A : Array Value) (h : cs.length ≤ A.size) : cs.zipIdx.foldl (fun cs x => cs.setIfInBounds x.snd x.fst) A = (cs ++ A.toList.drop cs.length).toArray := by
  have h1 := fold_set_at cs 0 A (by omega)
  rw [List.take_zero, List.nil_append, Nat.zero_add] at h1
  rw [← h1]
theorem laysB_ge : ∀ {l : List Rf}, (∀ x ∈ l, x.sum.length = 32) → 1 ≤ l.length → 33 ≤ (laysB l).length
  | [], _, h => by simp at h
  | x :: l, hd, _ => by
    have h1 := hd x (by simp)
    have h2 := (varB_length x.size.toNat).2
    have e : laysB (x :: l) = (x.sum ++ varB x.size.toNat) ++ laysB l := by simp [laysB, layB]
    rw [e, List.length_append, List.length_append]
    omega
set_option maxHeartbeats 4000000 in
theorem decode_is (w : World) {v : Value} {m : Mf} (h : CutAt w v (mencF m)) (hm : mchkF m = 0) (hd : ∀ x ∈ m.layers, x.sum.length = 32) :
    Calls Tryz.prog 177 #[v] w fun e w' => ∃ u, e = .returned (.tuple #[.agg #[strV m.name, strV m.ver, u], .bool true]) ∧ LysAt w' (fun b => w.heap.size ≤ b ∧ b < w'.heap.size) u m.layers ∧ Chg (fun _ => False) w w' := by
  have hOk := mchkF_ok hm
  have hlay := laysB_len m.layers hd
  have hfew := hOk.few
  have hsome := hOk.some
  have hn1 := nameB_len hOk.name
  have hn2 := nameB_len hOk.ver
  have hrl : (restN m 0).length ≤ 400 := by simp [restN, nmL, nameT]; omega
  rw [menc_rest] at h
  obtain ⟨g, off0, cap0, e0, -, -⟩ := id h
  obtain ⟨N0, hN0⟩ : ∃ N, ([86, 77, 1] ++ restN m 0).length = N := ⟨_, rfl⟩
  rw [hN0] at e0
  subst e0
  have hgl : g < w.heap.size := World.block_lt_of_cell? _ _ (cut_byte (b := [77, 1] ++ restN m 0) h).1
  obtain ⟨w1, hw1⟩ : ∃ w1, w.alloc (.cells #[.string ⟨#[]⟩, .string ⟨#[]⟩, .slice none 0 0] 88) = w1 := ⟨_, rfl⟩
  have hc1 : Chg (fun _ => False) w w1 := by rw [← hw1]; exact (Chg.refl _ _).alloc _
  have hb1 : w1.heap[w.heap.size]? = some (.cells (seenN m 0) 88 (0, 0)) := by rw [← hw1]; exact block_alloc_new w _
  have HSp := Lib.hid (split_is w1 (h.fresh hc1) (by simp only [List.length_append, List.length_cons, List.length_nil]; omega) 3 (by simp only [List.length_append, List.length_cons, List.length_nil]; omega))
  have HC1 := Lib.hid hc1
  have HB1 := Lib.hid hb1
  have HOk := Lib.hid (And.intro hm (And.intro hd (And.intro hlay hrl)))
  have HNm := Lib.hid (And.intro hn1 (And.intro hn2 (And.intro hfew hsome)))
  clear hN0
  obtain ⟨N2, hN2⟩ : ∃ N, ([86, 77, 1] ++ restN m 0).length - 3 = N := ⟨_, rfl⟩
  rw [hN2] at HSp
  clear hN2
  have HGl := Lib.hid hgl
  clear hgl
  clear h hc1 hb1 hOk hlay hfew hsome hn1 hn2 hrl hm hd
  go_enter Tryz.func177, Tryz.ntmps177
  go_wp2_with (first
    | (go_at_call 210; fail))
  try rw [hw1]
  clear hw1
  refine HSp.out.mono ?_
  rintro e w2 ⟨o1, c1, o2, c2, rfl, hh, hr, hc2⟩
  have hcv := conv_slatR hh.choose_spec.choose_spec.choose_spec.2.2 (by simp)
  have hbh : w2.heap[w.heap.size]? = some (.cells (seenN m 0) 88 (0, 0)) := hc2.at HB1.out id
  rw [show List.take 3 ([86, 77, 1] ++ restN m 0) = [86, 77, 1] from rfl] at hcv
  rw [show List.drop 3 ([86, 77, 1] ++ restN m 0) = restN m 0 from rfl] at hr
  have hcv2 : (convert 101 9 (.slice (some ⟨g, o1, none⟩) 3 c1)).run Tryz.prog w2 = .ok (.string ⟨#[86, 77, 1]⟩) w2 := hcv
  have HR := Lib.hid hr
  have HC2 := Lib.hid (HC1.out.trans' hc2)
  have HB2 := Lib.hid hbh
  clear hh hr hc2 hcv hbh HSp HB1
  dsimp only
  go_wp2_with fail
  obtain ⟨mb, hmb⟩ : ∃ n, w.heap.size = n := ⟨_, rfl⟩
  obtain ⟨w3, hw3⟩ : ∃ w3, w2.alloc (.cells #[.pointer (some ⟨w.heap.size, 0, none⟩), .pointer (some ⟨w.heap.size, 1, none⟩)] 284) = w3 := ⟨_, rfl⟩
  have hc3 : Chg (fun _ => False) w2 w3 := by rw [← hw3]; exact (Chg.refl _ _).alloc _
  have hb3 : w3.heap[w2.heap.size]? = some (.cells #[.pointer (some ⟨w.heap.size, 0, none⟩), .pointer (some ⟨w.heap.size, 1, none⟩)] 284 (0, 0)) := by rw [← hw3]; exact block_alloc_new w2 _
  have hm3 := hc3.at HB2.out id
  have hlt3 := lt_of_block HB2.out
  have hr3 := HR.out.fresh hc3
  rw [hw3]
  obtain ⟨pb, hpb⟩ : ∃ n, w2.heap.size = n := ⟨_, rfl⟩
  have hgm := HGl.out
  rw [hmb] at hb3 hm3 hlt3 hgm ⊢
  rw [hpb] at hb3 hlt3 ⊢
  have HB3 := Lib.hid hb3
  have HM3 := Lib.hid hm3
  have HLt := Lib.hid hlt3
  have HC3 := Lib.hid (HC2.out.trans' hc3)
  have HR3 := Lib.hid hr3
  have HMb := Lib.hid hmb
  have HGm := Lib.hid (show g ≠ mb by omega)
  clear hw3 hc3 hb3 hm3 hlt3 hr3 hpb hmb HR HB2 hcv2 hgm
  go_loopw [0, 35] (fun v j wr => ∃ (k o n c : Nat), v = .slice (some ⟨g, o, none⟩) n c ∧ j = .int .i64 k ∧ k ≤ 2 ∧ CutAt wr (.slice (some ⟨g, o, none⟩) n c) (restN m k) ∧ wr.heap[mb]? = some (.cells (seenN m k) 88 (0, 0)) ∧ Chg (· = mb) w3 wr) (fun _ j _ => 2 - (intOf j).toNat)
  · exact ⟨0, _, _, _, rfl, rfl, by omega, HR3.out, HM3.out, Chg.refl _ _⟩
  clear HR3 HM3
  obtain ⟨k, o, n, c, rfl, rfl, hk, hcut, hmk, hck⟩ := hrel
  by_cases hlt : k < 2
  · have hlti : (k : Int) < 2 := by omega
    obtain ⟨x, hx⟩ : ∃ x, (nmL m)[k]? = some x := ⟨(nmL m)[k]'(by simp [nmL]; omega), List.getElem?_eq_getElem _⟩
    have hxl : 1 ≤ x.length ∧ x.length ≤ 16 := by
      have := List.mem_of_getElem? hx
      simp only [nmL, List.mem_cons, List.not_mem_nil, or_false] at this
      rcases this with rfl | rfl
      · exact HNm.out.1
      · exact HNm.out.2.1
    have hrs := rest_succ hx
    rw [hrs] at hcut
    obtain ⟨d0, hn, hnc⟩ := cut_byte hcut
    have hl0 : (x ++ restN m (k + 1)).length ≤ 400 := by
      have h1 := restN_le m k
      rw [hrs, List.length_cons] at h1
      have := HOk.out.2.2.2
      omega
    have hct := cut_tail hcut (by rw [List.length_append] at hn; omega)
    have hbt : ((UInt8.ofNat x.length).toNat : Int) = (x.length : Int) := by rw [toNat_ofNat_lt (by omega)]
    rw [hbt] at d0
    have hpc : wr.cell? ⟨pb, k, none⟩ = some (.pointer (some ⟨mb, k, none⟩)) := by
      have := hck.at HB3.out (fun e => by have := HLt.out; omega)
      match k, hlt with
      | 0, _ => exact cell_of_block this rfl
      | 1, _ => exact cell_of_block this rfl
    have HCt := Lib.hid hct
    have HHx := Lib.hid hx
    have HMk := Lib.hid hmk
    have HCk := Lib.hid hck
    have HXl := Lib.hid (And.intro hxl hl0)
    obtain ⟨M, hM⟩ : ∃ M, x.length = M := ⟨_, rfl⟩
    have hM16 : (M : Int) ≤ 16 := by omega
    have hM0 : (0 : Int) ≤ (M : Int) := by omega
    rw [hM] at d0
    have HM := Lib.hid hM
    have hnl : 2 ≤ n := by rw [List.length_append] at hn; omega
    have hn400 : n ≤ 401 := by omega
    clear hx hxl hrs hcut hn hl0 hct hbt hmk hck hM
    have hni : (2 : Int) ≤ (n : Int) := by omega
    have hni4 : (n : Int) ≤ 401 := by omega
    have hnci : (n : Int) ≤ (c : Int) := by omega
    have hn0 : ((n : Int) == 0) = false := by simp; omega
    have hcne : ¬ c = 1 := by omega
    have hnn : 0 < n := by omega
    have hi1 : (1 : Int) ≤ (n : Int) := by omega
    have hi2 : (1 : Int) ≤ (c : Int) := by omega
    have hi3 : (0 : Int) < (n : Int) := by omega
    go_wp2_with fail
    refine wp_region_noPanic ?_
    refine wp_region_held_drew (S := (fun w' => w'.cell? ⟨g, o, none⟩ = some (.int .u8 (M : Int)))) (by kernel_rfl) (d0) (fun hHeld => ?_)
    have HD := Lib.hid (show Chg (fun _ => False) wr wr.drew from (Chg.refl _ _).drew)
    refine tk 0 (v := ?_) hHeld rfl (fun w hSw => ?_) ?_
    rotate_left
    · go_simp
      try with_reducible rfl
    simp only [Act.put, zA, zB, zC]
    refine tk 1 (v := ?_) hHeld rfl (fun w hSw => ?_) ?_
    rotate_left
    · go_simp
      try with_reducible rfl
    simp only [Act.put, zA, zB, zC]
    refine tk 2 (v := ?_) hHeld rfl (fun w hSw => ?_) ?_
    rotate_left
    · go_simp
      try with_reducible rfl
    simp only [Act.put, zA, zB, zC]
    refine tk 3 (v := ?_) hHeld rfl (fun w hSw => ?_) ?_
    rotate_left
    · go_simp
      try with_reducible rfl
    simp only [Act.put, zA, zB, zC]
    refine tk 4 (v := ?_) hHeld rfl (fun w hSw => ?_) ?_
    rotate_left
    · go_simp
      try with_reducible rfl
    simp only [Act.put, zA, zB, zC]
    refine tk 5 (v := ?_) hHeld rfl (fun w hSw => ?_) ?_
    rotate_left
    · go_simp
      try with_reducible rfl
    simp only [Act.put, zA, zB, zC]
    refine on1 6 rfl (fun K hK => ?_)
    go_simp
    have hsp := split_is wr.drew (HCt.out.fresh HD.out) (by have := HXl.out.2; omega) x.length (by rw [List.length_append]; omega)
    rw [HM.out] at hsp
    obtain ⟨n2, hn2⟩ : ∃ N, (x ++ restN m (k + 1)).length - M = N := ⟨_, rfl⟩
    rw [hn2, ← HM.out, List.take_left' rfl, List.drop_left' rfl, HM.out] at hsp
    rw [show IntKind.i64.wrap (M : Int) = (M : Int) by simp [IntKind.wrap, IntKind.bits, IntKind.signed]; omega]
    refine hsp.mono ?_
    clear hsp
    rintro e w4 ⟨o4, c4, o5, c5, rfl, hx4, hr4, hc4⟩
    have HX4 := Lib.hid hx4
    have HR4 := Lib.hid hr4
    have HC4 := Lib.hid (HD.out.trans' hc4)
    clear hx4 hr4 hc4
    refine hK _ _ (HC4.out.cell d0 id) (fun hA1 => ?_)
    try simp only [Act.put, zA, zB, zC]
    refine tk 7 (v := ?_) hA1 rfl (fun w hSw => ?_) ?_
    rotate_left
    · go_simp
      try with_reducible rfl
    simp only [Act.put, zA, zB, zC]
    refine tk 8 (v := ?_) hA1 rfl (fun w hSw => ?_) ?_
    rotate_left
    · go_simp
      try with_reducible rfl
    simp only [Act.put, zA, zB, zC]
    refine tk 9 (v := ?_) hA1 rfl (fun w hSw => ?_) ?_
    rotate_left
    · go_simp
      try with_reducible rfl
    simp only [Act.put, zA, zB, zC]
    refine tk 10 (v := ?_) hA1 rfl (fun w hSw => ?_) ?_
    rotate_left
    · go_simp
      try with_reducible rfl
    simp only [Act.put, zA, zB, zC]
    refine tk 11 (v := ?_) hA1 rfl (fun w hSw => ?_) ?_
    rotate_left
    · go_simp
      try with_reducible rfl
    simp only [Act.put, zA, zB, zC]
    refine tk 12 (v := ?_) hA1 rfl (fun w hSw => ?_) ?_
    rotate_left
    · go_simp
      try with_reducible rfl
    simp only [Act.put, zA, zB, zC]
    refine tk 13 (v := ?_) hA1 rfl (fun w hSw => ?_) ?_
    rotate_left
    · go_simp
      try with_reducible rfl
    simp only [Act.put, zA, zB, zC]
    refine wpAnyH_done (by kernel_rfl) ?_ _
    refine NoPanic.normal ?_
    clear hHeld hA1 d0
    obtain ⟨g', o', c', e4, -, hs4⟩ := id HX4.out
    have hcv := conv_slatR HX4.out.choose_spec.choose_spec.choose_spec.2.2 (by intro e; have := HXl.out.1.1; rw [e] at this; simp at this)
    obtain ⟨sx, hsx⟩ : ∃ s, strV x = .string s := ⟨_, rfl⟩
    rw [hsx] at hcv
    have hm4 := HC4.out.at HMk.out id
    have hsz4 : ∃ sv, w4.cell? ⟨mb, k, none⟩ = some sv := by
      match k, hlt with
      | 0, _ => exact ⟨_, cell_of_block hm4 rfl⟩
      | 1, _ => exact ⟨_, cell_of_block hm4 rfl⟩
    obtain ⟨sv4, hsv4⟩ := hsz4
    have hz4 : w4.frozen? ⟨mb, k, none⟩ = false := free_of_block hm4
    clear hs4 e4
    go_wp2_with fail
    have hcs : Chg (· = mb) w4 (w4.setCell ⟨mb, k, none⟩ (.string sx)) := Chg.setCell (S := (· = mb)) (Chg.refl _ _) (fun _ => rfl) _
    have hbs := block_setCell (i := k) (v := .string sx) hm4
    have hlen5 : n2 = (restN m (k + 1)).length := by rw [← hn2, ← HM.out, List.length_append]; omega
    refine ⟨⟨k + 1, o5, n2, c5, rfl, by go_num, by omega, ?_, ?_, (HCk.out.trans' (HC4.out.mono (fun _ _ e => e.elim))).trans' hcs⟩, by simp [intOf]; omega⟩
    · exact cut_but HR4.out hcs (fun e => HGm.out e)
    · rw [hbs]
      rw [← hsx]
      match k, hlt, HHx with
      | 0, _, HHx =>
        have e : x = m.name := (Option.some.inj HHx.out).symm
        rw [e]
        simp [seenN]
      | 1, _, HHx =>
        have e : x = m.ver := (Option.some.inj HHx.out).symm
        rw [e]
        simp [seenN]
  · obtain rfl : k = 2 := by omega
    have hlti : ¬ ((2 : Nat) : Int) < 2 := by omega
    rw [restN_two] at hcut
    obtain ⟨d0, hn, hnc⟩ := cut_byte hcut
    have hl8 := HNm.out.2.2
    have hlb := HOk.out.2.2.1
    have hl1 : 33 ≤ (laysB m.layers).length := laysB_ge HOk.out.2.1 hl8.2
    have hct := cut_tail hcut (by omega)
    rw [toNat_ofNat_lt (by omega)] at d0
    obtain ⟨L, hL⟩ : ∃ L, m.layers.length = L := ⟨_, rfl⟩
    rw [hL] at d0
    have hL8 : (L : Int) ≤ 8 := by omega
    have hL0 : (0 : Int) ≤ (L : Int) := by omega
    have hn2 : 2 ≤ n := by omega
    have hn4 : n ≤ 400 := by omega
    have hni : (2 : Int) ≤ (n : Int) := by omega
    have hni4 : (n : Int) ≤ 400 := by omega
    have hnci : (n : Int) ≤ (c : Int) := by omega
    have hn0 : ((n : Int) == 0) = false := by simp; omega
    have hcne : ¬ c = 1 := by omega
    have hnn : 0 < n := by omega
    have HCt := Lib.hid hct
    have HMk := Lib.hid (show wr.heap[mb]? = some (.cells #[strV m.name, strV m.ver, .slice none 0 0] 88 (0, 0)) from hmk)
    have HCk := Lib.hid hck
    have HL := Lib.hid hL
    have HL8 := Lib.hid (And.intro hl8 hlb)
    clear hcut hn hl8 hlb hl1 hct hmk hck hL
    obtain ⟨s1, hs1⟩ : ∃ s, strV m.name = .string s := ⟨_, rfl⟩
    obtain ⟨s2, hs2⟩ : ∃ s, strV m.ver = .string s := ⟨_, rfl⟩
    rw [hs1, hs2] at HMk
    have HSt := Lib.hid (And.intro hs1 hs2)
    clear hs1 hs2
    obtain ⟨BS, hBS⟩ : ∃ n, w3.heap.size = n := ⟨_, rfl⟩
    have HBS := Lib.hid hBS
    clear hBS
    go_wp2_with fail
    go_loopw [0, 74] (fun v j wt => ∃ (k o n c : Nat) (ou : Option Addr) (cu : Nat), v = .slice (some ⟨g, o, none⟩) n c ∧ j = .int .i64 k ∧ k ≤ L ∧ CutAt wt (.slice (some ⟨g, o, none⟩) n c) (laysB (m.layers.drop k)) ∧ OwnRecs wt BS 98 33 (.slice ou k cu) ((m.layers.take k).map rfC) ∧ wt.heap[mb]? = some (.cells #[.string s1, .string s2, .slice ou k cu] 88 (0, 0)) ∧ Chg (· = mb) w3 wt) (fun _ j _ => L - (intOf j).toNat)
    · exact ⟨0, _, _, _, none, 0, rfl, rfl, Nat.zero_le _, HCt.out, OwnRecs.nil _ _ _ _, HMk.out, HCk.out⟩
    clear HCt HMk HCk d0
    obtain ⟨k, o, n, c, ou, cu, rfl, rfl, hk, hcut, hown, hmk, hck⟩ := hrel
    by_cases hlt : k < L
    · have hki : (k : Int) < (L : Int) := by omega
      obtain ⟨x, hx⟩ : ∃ x, m.layers[k]? = some x := ⟨m.layers[k]'(by rw [HL.out]; exact hlt), List.getElem?_eq_getElem _⟩
      have hxd := HOk.out.2.1 x (List.mem_of_getElem? hx)
      have hxz := (mchkF_ok HOk.out.1).sizes x (List.mem_of_getElem? hx)
      have hlk : laysB (m.layers.drop k) = x.sum ++ (varB x.size.toNat ++ laysB (m.layers.drop (k + 1))) := by
        rw [List.drop_eq_getElem_cons (List.getElem?_eq_some_iff.1 hx).1, (List.getElem?_eq_some_iff.1 hx).2]
        simp [laysB, layB]
      rw [hlk] at hcut
      have hlen : (varB x.size.toNat ++ laysB (m.layers.drop (k + 1))).length ≤ 400 := by
        have h1 := laysB_len (m.layers.drop (k + 1)) (fun y hy => HOk.out.2.1 y (List.mem_of_mem_drop hy))
        have h2 := (varB_length x.size.toNat).1
        rw [List.length_drop] at h1
        rw [List.length_append]
        have := HL.out
        omega
      have HSp := Lib.hid (split_is wr hcut (by rw [List.length_append]; omega) 32 (by rw [List.length_append]; omega))
      have HX := Lib.hid (And.intro hx (And.intro hxd (And.intro hxz hlen)))
      have HOw := Lib.hid hown
      have HMk := Lib.hid hmk
      have HCk := Lib.hid hck
      clear hx hxd hxz hlk hcut hlen hown hmk hck
      go_wp2_with (first
        | (go_at_call 210; fail))
      refine HSp.out.mono ?_
      clear HSp
      rintro e w4 ⟨o4, c4, o5, c5, rfl, hx4, hr4, hc4⟩
      obtain ⟨n5, hn5⟩ : ∃ N, (x.sum ++ (varB x.size.toNat ++ laysB (m.layers.drop (k + 1)))).length - 32 = N := ⟨_, rfl⟩
      rw [hn5] at hr4 ⊢
      rw [List.take_left' HX.out.2.1] at hx4
      rw [List.drop_left' HX.out.2.1] at hr4
      have hrv := readVar_any w4 _ _ hr4.choose_spec.choose_spec.choose_spec.2.2 (by have := HX.out.2.2.2; omega)
      have hrd := rdV_big (n := x.size.toNat) (by have := HX.out.2.2.1; omega) (laysB (m.layers.drop (k + 1)))
      rw [hrd] at hrv
      simp only at hrv
      obtain ⟨Z, hZ⟩ : ∃ Z, x.size.toNat = Z := ⟨_, rfl⟩
      obtain ⟨V, hV⟩ : ∃ V, (varB Z).length = V := ⟨_, rfl⟩
      rw [hZ] at hrv hr4
      rw [hV] at hrv
      have hV10 := varB_length Z
      rw [hV] at hV10
      have hZle : Z ≤ 2147483647 := by have := HX.out.2.2.1; omega
      have hZi : (Z : Int) ≤ 2147483647 := by omega
      have hZ0 : (0 : Int) ≤ (Z : Int) := by omega
      have hnl : V ≤ n5 ∧ n5 ≤ c5 := by
        obtain ⟨g', o', c', e, h2, -⟩ := id hr4
        cases e
        exact ⟨by rw [List.length_append, hV]; omega, h2⟩
      have hn5le : n5 ≤ 400 := by
        rw [← hn5, List.length_append, HX.out.2.1]
        have := HX.out.2.2.2
        omega
      have v0 : (0 : Int) ≤ (V : Int) := by omega
      have v1 : (V : Int) ≤ (n5 : Int) := by omega
      have v2 : (n5 : Int) ≤ (c5 : Int) := by omega
      have v3 : (n5 : Int) ≤ 400 := by omega
      have HRv := Lib.hid hrv
      have HX4 := Lib.hid hx4
      have HR4 := Lib.hid hr4
      have HC4 := Lib.hid hc4
      have HZ := Lib.hid (And.intro hZ hV)
      have HN5 := Lib.hid (And.intro hn5 hnl)
      clear hx4 hr4 hc4 hrv hrd hZ hV hV10 hn5 hnl hn5le
      dsimp only
      go_wp2_with (first
        | (go_at_call 110; fail))
      refine HRv.out.mono ?_
      clear HRv
      rintro e w5 ⟨rfl, hc5⟩
      have HC5 := Lib.hid (HC4.out.trans' hc5)
      have HX5 := Lib.hid (HX4.out.fresh hc5)
      have HR5 := Lib.hid (HR4.out.fresh hc5)
      have hm5 := (HC4.out.trans' hc5).at HMk.out id
      have y2 : w5.cell? ⟨mb, 2, none⟩ = some (.slice ou k cu) := cell_of_block hm5 rfl
      have hrg : w5.rangeAt g o4 (cellsB x.sum) := by
        obtain ⟨_, _, _, -, -, oa, cp, e2, -, h5⟩ := id HX5.out
        simp only [Value.slice.injEq] at e2
        exact fun j u hj => h5 g o4 e2.1.symm j u hj
      have HM5 := Lib.hid hm5
      clear hc5 hm5
      dsimp only
      go_wp2_with fail
      have HRg := Lib.hid hrg
      clear hrg
      refine wp_region_noPanic ?_
      refine wp_region_held_drew (S := (fun w' => w'.rangeAt g o4 (cellsB x.sum))) (by kernel_rfl) (HRg.out) (fun hHeld => ?_)
      have HD := Lib.hid (show Chg (fun _ => False) w5 w5.drew from (Chg.refl _ _).drew)
      refine tk 0 (v := ?_) hHeld rfl (fun w hSw => ?_) ?_
      rotate_left
      · go_simp
        try with_reducible rfl
      simp only [Act.put, zA, zB, zC]
      refine tk 2 (v := ?_) hHeld rfl (fun w hSw => ?_) ?_
      rotate_left
      · go_simp
        try with_reducible rfl
      simp only [Act.put, zA, zB, zC]
      refine take_list (i := 3) rfl (by kernel_rfl) (by kernel_rfl) (by kernel_rfl) (fun _ _ _ h => h) (yieldsIf_arrayAt (by rfl) 96 _ rfl ⟨g, o4, none⟩ 32 c4 32 rfl Tryz.underlying96 (by omega)) hHeld ?_
      simp only [Act.put, zA, zB, zC]
      refine take_list (i := 4) rfl (by kernel_rfl) (by kernel_rfl) (by kernel_rfl) (fun _ _ _ h => h) (yieldsIf_load_mid (by rfl) 96 _ rfl g o4 rfl (cellsB x.sum) _ (fun w h => h) Tryz.underlying96 rfl (size_dig.trans (by rw [cellsB_length, HX.out.2.1]))) hHeld ?_
      simp only [Act.put, zA, zB, zC]
      refine tk 5 (v := ?_) hHeld rfl (fun w hSw => ?_) ?_
      rotate_left
      · go_simp
        try with_reducible rfl
      simp only [Act.put, zA, zB, zC]
      refine tk 6 (v := ?_) hHeld rfl (fun w hSw => ?_) ?_
      rotate_left
      · go_simp
        try with_reducible rfl
      simp only [Act.put, zA, zB, zC]
      have hlc : (cellsB x.sum).length = 32 := by rw [cellsB_length, HX.out.2.1]
      have hsz : IntKind.i64.wrap (Z : Int) = x.size := by rw [wrap_small _ hZ0 (by omega), ← HZ.out.1, Int.toNat_of_nonneg HX.out.2.2.1.1]
      refine take_list (i := 7) (v := .agg (rfC x).toArray) rfl (by kernel_rfl) (by kernel_rfl) (by kernel_rfl) (fun _ _ _ h => h) (Or.inl ⟨by rfl, fun w hSw => ?_⟩) hHeld ?_
      · go_simp
        rw [fold_set _ _ (by rw [hlc]; decide)]
        rw [hlc]
        simp [rfC, hlc]
      simp only [Act.put, zA, zB, zC]
      have hlr : (rfC x).length = 33 := by unfold rfC; rw [List.length_append, hlc]; rfl
      refine wpAnyH_ready (rs := [1, 8]) (by kernel_rfl) (by simp) (one_list (i := 1) rfl (by rfl) (fun K hK => ?_) (one_list (i := 8) rfl (by rfl) (fun K hK => ?_) AllReadyH.nil))
      · go_simp
        refine hK _ _ (HRg.out) (fun hB1 => ?_)
        try simp only [Act.put, zA, zB, zC]
        refine on1 8 rfl (fun K hK => ?_)
        go_simp
        rw [fold_set _ _ (by rw [hlr]; decide)]
        simp only [hlr]
        go_simp
        have hgs : g < w3.heap.size := by have := HGl.out; have := HC3.out.size; omega
        have hms : mb < w3.heap.size := by have := HLt.out; have := lt_of_block HB3.out; omega
        obtain ⟨i0, hi, hz, his, hib⟩ := info_parts info_ref
        have hsb : BS ≤ w5.heap.size := by have h1 := HCk.out.size; have h2 := HC5.out.size; have := HBS.out; omega
        obtain ⟨oa, cap, w6, hap, ho6, hc6, hsz6, hv6⟩ := own_pushR (P := Tryz.prog) (w := w5.drew) Tryz.underlying86 hi hz his hib rfl (by decide) (HOw.out.kept (HC5.out.drew) (fun _ _ h => h)) (rfC x) hlr (by
          intro u hu
          unfold rfC cellsB at hu
          rcases List.mem_append.1 hu with hu | hu
          · obtain ⟨b, -, rfl⟩ := List.mem_map.1 hu; rfl
          · rw [List.mem_singleton.1 hu]; rfl) (by rw [List.length_map, List.length_take]; have := HL8.out.1.1; omega) (by decide) hsb
        have hkl : ((m.layers.take k).map rfC).length = k := by rw [List.length_map, List.length_take]; have := HL.out; omega
        rw [hkl] at hap ho6 hv6
        have hown : ∀ b, (Value.slice ou k cu).ownBlock = some b → BS ≤ b := fun b hb => (HOw.out.lt hb).1
        have hgo : ¬ some g = (Value.slice ou k cu).ownBlock := fun e => by have := hown g e.symm; have := HBS.out; omega
        have hmo : ¬ some mb = (Value.slice ou k cu).ownBlock := fun e => by have := hown mb e.symm; have := HBS.out; omega
        have hm6 := hc6.at (show w5.drew.heap[mb]? = _ from HM5.out) hmo
        refine hK _ _ ((fun j u hj => ((Chg.refl (fun _ => False) w5).alloc _).drew.cell (HRg.out j u hj) id)) (fun hA1 => ?_)
        try simp only [Act.put, zA, zB, zC]
        refine on1 9 rfl (fun K hK => ?_)
        refine oper_append _ _ _ rfl rfl rfl (show _ = Result.ok _ w6 from hap) ?_
        refine hK _ _ ((fun j u hj => hc6.cell (show w5.drew.cell? _ = _ from HRg.out j u hj) hgo)) (fun hA2 => ?_)
        try simp only [Act.put, zA, zB, zC]
        refine tk 10 (v := ?_) hA2 rfl (fun w hSw => ?_) ?_
        rotate_left
        · go_simp
          try with_reducible rfl
        simp only [Act.put, zA, zB, zC]
        refine on1 11 rfl (fun K hK => ?_)
        have q2 : w6.cell? ⟨mb, 2, none⟩ = some (.slice ou k cu) := cell_of_block hm6 rfl
        have z2 : w6.frozen? ⟨mb, 2, none⟩ = false := free_of_block hm6
        go_simp
        have hb7 := block_setCell (i := 2) (v := .slice oa (k + 1) cap) hm6
        have hcs : Chg (· = mb) w6 (w6.setCell ⟨mb, 2, none⟩ (.slice oa (k + 1) cap)) := Chg.setCell (S := (· = mb)) (Chg.refl _ _) (fun _ => rfl) _
        have hr7 := cut_but (cut_but (HR5.out.fresh (show Chg (fun _ => False) w5 w5.drew from (Chg.refl _ _).drew)) hc6 hgo) hcs (fun e => HGm.out e)
        have ho7 : OwnRecs (w6.setCell ⟨mb, 2, none⟩ (.slice oa (k + 1) cap)) BS 98 33 (.slice oa (k + 1) cap) ((m.layers.take (k + 1)).map rfC) := by
          rw [List.take_add_one, HX.out.1, Option.toList_some, List.map_append]
          exact ho6.kept hcs (fun b hb e => by have := (ho6.lt hb).1; have := HBS.out; omega)
        have hck7 : Chg (· = mb) w3 (w6.setCell ⟨mb, 2, none⟩ (.slice oa (k + 1) cap)) := by
          have h1 : Chg (· = mb) w3 w5.drew := (HCk.out.trans' (HC5.out.mono (fun _ _ e => e.elim))).drew
          have h2 : Chg (· = mb) w3 w6 := h1.trans hc6 (fun b hb e => by have := hown b e.symm; have := HBS.out; omega)
          exact h2.trans' hcs
        obtain ⟨w7, hw7⟩ : ∃ w7, w6.setCell ⟨mb, 2, none⟩ (.slice oa (k + 1) cap) = w7 := ⟨_, rfl⟩
        have hg7 : w7.rangeAt g o4 (cellsB x.sum) := by
          rw [← hw7]
          exact fun j u hj => hcs.cell (hc6.cell (show w5.drew.cell? _ = _ from HRg.out j u hj) hgo) (fun e => HGm.out e)
        rw [hw7] at hb7 hr7 ho7 hck7 ⊢
        have HF := Lib.hid (And.intro hr7 (And.intro ho7 hck7))
        have HB7 := Lib.hid hb7
        have HG7 := Lib.hid hg7
        clear hw7 hcs hr7 ho7 hck7 hm6 q2 z2 hc6 hap ho6 hsz6 hv6 hown hgo hmo hkl hsb hgs hms hi hz his hib hg7 y2 hlr hsz
        refine hK _ _ (HG7.out) (fun hA3 => ?_)
        try simp only [Act.put, zA, zB, zC]
        refine wpAnyH_done (by kernel_rfl) ?_ _
        refine NoPanic.normal ?_
        try clear hA3
        have HG := Lib.hid HF.out.1
        go_wp2_with fail
        refine ⟨⟨k + 1, (if c5 = V then o5 else o5 + V), n5 - V, c5 - V, oa, cap, by split <;> rfl, by go_num, hlt, cut_drop HG.out HZ.out.2, HF.out.2.1, by simpa using HB7.out, HF.out.2.2⟩, by simp [intOf]; omega⟩
      · go_simp
        rw [fold_set _ _ (by rw [hlr]; decide)]
        simp only [hlr]
        go_simp
        refine hK _ _ ((fun j u hj => ((Chg.refl (fun _ => False) w5).alloc _).drew.cell (HRg.out j u hj) id)) (fun hB1 => ?_)
        try simp only [Act.put, zA, zB, zC]
        have y3 : (w5.alloc (.cells (rfC x).toArray 98)).drew.cell? ⟨mb, 2, none⟩ = some (.slice ou k cu) := ((Chg.refl (fun _ => False) _).alloc _).drew.cell y2 id
        refine on1 1 rfl (fun K hK => ?_)
        go_simp
        clear y3
        have hgs : g < w3.heap.size := by have := HGl.out; have := HC3.out.size; omega
        have hms : mb < w3.heap.size := by have := HLt.out; have := lt_of_block HB3.out; omega
        obtain ⟨i0, hi, hz, his, hib⟩ := info_parts info_ref
        have hsb : BS ≤ w5.heap.size := by have h1 := HCk.out.size; have h2 := HC5.out.size; have := HBS.out; omega
        obtain ⟨oa, cap, w6, hap, ho6, hc6, hsz6, hv6⟩ := own_pushR (P := Tryz.prog) (w := w5.drew) Tryz.underlying86 hi hz his hib rfl (by decide) (HOw.out.kept (HC5.out.drew) (fun _ _ h => h)) (rfC x) hlr (by
          intro u hu
          unfold rfC cellsB at hu
          rcases List.mem_append.1 hu with hu | hu
          · obtain ⟨b, -, rfl⟩ := List.mem_map.1 hu; rfl
          · rw [List.mem_singleton.1 hu]; rfl) (by rw [List.length_map, List.length_take]; have := HL8.out.1.1; omega) (by decide) hsb
        have hkl : ((m.layers.take k).map rfC).length = k := by rw [List.length_map, List.length_take]; have := HL.out; omega
        rw [hkl] at hap ho6 hv6
        have hown : ∀ b, (Value.slice ou k cu).ownBlock = some b → BS ≤ b := fun b hb => (HOw.out.lt hb).1
        have hgo : ¬ some g = (Value.slice ou k cu).ownBlock := fun e => by have := hown g e.symm; have := HBS.out; omega
        have hmo : ¬ some mb = (Value.slice ou k cu).ownBlock := fun e => by have := hown mb e.symm; have := HBS.out; omega
        have hm6 := hc6.at (show w5.drew.heap[mb]? = _ from HM5.out) hmo
        refine hK _ _ ((fun j u hj => ((Chg.refl (fun _ => False) w5).alloc _).drew.cell (HRg.out j u hj) id)) (fun hA1 => ?_)
        try simp only [Act.put, zA, zB, zC]
        refine on1 9 rfl (fun K hK => ?_)
        refine oper_append _ _ _ rfl rfl rfl (show _ = Result.ok _ w6 from hap) ?_
        refine hK _ _ ((fun j u hj => hc6.cell (show w5.drew.cell? _ = _ from HRg.out j u hj) hgo)) (fun hA2 => ?_)
        try simp only [Act.put, zA, zB, zC]
        refine tk 10 (v := ?_) hA2 rfl (fun w hSw => ?_) ?_
        rotate_left
        · go_simp
          try with_reducible rfl
        simp only [Act.put, zA, zB, zC]
        refine on1 11 rfl (fun K hK => ?_)
        have q2 : w6.cell? ⟨mb, 2, none⟩ = some (.slice ou k cu) := cell_of_block hm6 rfl
        have z2 : w6.frozen? ⟨mb, 2, none⟩ = false := free_of_block hm6
        go_simp
        have hb7 := block_setCell (i := 2) (v := .slice oa (k + 1) cap) hm6
        have hcs : Chg (· = mb) w6 (w6.setCell ⟨mb, 2, none⟩ (.slice oa (k + 1) cap)) := Chg.setCell (S := (· = mb)) (Chg.refl _ _) (fun _ => rfl) _
        have hr7 := cut_but (cut_but (HR5.out.fresh (show Chg (fun _ => False) w5 w5.drew from (Chg.refl _ _).drew)) hc6 hgo) hcs (fun e => HGm.out e)
        have ho7 : OwnRecs (w6.setCell ⟨mb, 2, none⟩ (.slice oa (k + 1) cap)) BS 98 33 (.slice oa (k + 1) cap) ((m.layers.take (k + 1)).map rfC) := by
          rw [List.take_add_one, HX.out.1, Option.toList_some, List.map_append]
          exact ho6.kept hcs (fun b hb e => by have := (ho6.lt hb).1; have := HBS.out; omega)
        have hck7 : Chg (· = mb) w3 (w6.setCell ⟨mb, 2, none⟩ (.slice oa (k + 1) cap)) := by
          have h1 : Chg (· = mb) w3 w5.drew := (HCk.out.trans' (HC5.out.mono (fun _ _ e => e.elim))).drew
          have h2 : Chg (· = mb) w3 w6 := h1.trans hc6 (fun b hb e => by have := hown b e.symm; have := HBS.out; omega)
          exact h2.trans' hcs
        obtain ⟨w7, hw7⟩ : ∃ w7, w6.setCell ⟨mb, 2, none⟩ (.slice oa (k + 1) cap) = w7 := ⟨_, rfl⟩
        have hg7 : w7.rangeAt g o4 (cellsB x.sum) := by
          rw [← hw7]
          exact fun j u hj => hcs.cell (hc6.cell (show w5.drew.cell? _ = _ from HRg.out j u hj) hgo) (fun e => HGm.out e)
        rw [hw7] at hb7 hr7 ho7 hck7 ⊢
        have HF := Lib.hid (And.intro hr7 (And.intro ho7 hck7))
        have HB7 := Lib.hid hb7
        have HG7 := Lib.hid hg7
        clear hw7 hcs hr7 ho7 hck7 hm6 q2 z2 hc6 hap ho6 hsz6 hv6 hown hgo hmo hkl hsb hgs hms hi hz his hib hg7 y2 hlr hsz
        refine hK _ _ (HG7.out) (fun hA3 => ?_)
        try simp only [Act.put, zA, zB, zC]
        refine wpAnyH_done (by kernel_rfl) ?_ _
        refine NoPanic.normal ?_
        try clear hA3
        have HG := Lib.hid HF.out.1
        go_wp2_with fail
        refine ⟨⟨k + 1, (if c5 = V then o5 else o5 + V), n5 - V, c5 - V, oa, cap, by split <;> rfl, by go_num, hlt, cut_drop HG.out HZ.out.2, HF.out.2.1, by simpa using HB7.out, HF.out.2.2⟩, by simp [intOf]; omega⟩
    · obtain rfl : k = L := by omega
      have hki : ¬ (k : Int) < (k : Int) := by omega
      rw [← HL.out, List.drop_length] at hcut
      obtain ⟨rfl, -⟩ := cut_len hcut
      have hn : (laysB ([] : List Rf)).length = 0 := rfl
      rw [hn]
      rw [← HL.out, List.take_length, HL.out] at hown
      have a0 : wr.cell? ⟨mb, 0, none⟩ = some (.string s1) := cell_of_block hmk rfl
      have a1 : wr.cell? ⟨mb, 1, none⟩ = some (.string s2) := cell_of_block hmk rfl
      have a2 : wr.cell? ⟨mb, 2, none⟩ = some (.slice ou k cu) := cell_of_block hmk rfl
      have z0 : wr.frozen? ⟨mb, 0, none⟩ = false := free_of_block hmk
      have z1 : wr.frozen? ⟨mb, 1, none⟩ = false := free_of_block hmk
      have z2 : wr.frozen? ⟨mb, 2, none⟩ = false := free_of_block hmk
      have HMk := Lib.hid hmk
      have HCk := Lib.hid hck
      have HOw := Lib.hid hown
      clear hcut hn hown hmk hck
      go_wp2_with fail
      have b1 := block_setCell (i := 0) (v := .string s1) HMk.out
      have b2 := block_setCell (i := 1) (v := .string s2) b1
      have b3 := block_setCell (i := 2) (v := .slice ou k cu) b2
      have hcs : Chg (· = mb) wr (((wr.setCell ⟨mb, 0, none⟩ (.string s1)).setCell ⟨mb, 1, none⟩ (.string s2)).setCell ⟨mb, 2, none⟩ (.slice ou k cu)) := Chg.setCell (S := (· = mb)) (Chg.setCell (S := (· = mb)) (Chg.setCell (S := (· = mb)) (Chg.refl _ _) (fun _ => rfl) _) (fun _ => rfl) _) (fun _ => rfl) _
      obtain ⟨w9, hw9⟩ : ∃ w9, (((wr.setCell ⟨mb, 0, none⟩ (.string s1)).setCell ⟨mb, 1, none⟩ (.string s2)).setCell ⟨mb, 2, none⟩ (.slice ou k cu)) = w9 := ⟨_, rfl⟩
      rw [hw9] at b3 hcs ⊢
      have hb9 : w9.heap[mb]? = some (.cells #[.string s1, .string s2, .slice ou k cu] 88 (0, 0)) := by simpa using b3
      refine bodyPost_ret (result_cell_tmp rfl _ rfl (run_loadVar_row w9 mb _ 88 _ _ _ hb9 Tryz.underlying88 rfl size_man) (x := .bool true) rfl) rfl ?_
      have hms : mb < w3.heap.size := by have := HLt.out; have := lt_of_block HB3.out; omega
      have hBS := HBS.out
      have ho9 := HOw.out.kept hcs (fun b hb e => by have := (HOw.out.lt hb).1; omega)
      obtain ⟨oe, ce, e9, g1, g2⟩ := ho9.slice
      rw [List.length_map] at e9 g1
      have hs3 := HC3.out.size
      have hlc := HL.out
      refine ⟨.slice ou k cu, by rw [HSt.out.1, HSt.out.2], ⟨⟨ou, cu, by rw [HL.out], rows_of_own ho9, in_of_own ho9 (List.length_map ..) (fun b h1 h2 => ⟨by omega, h2⟩), ?_, ?_⟩, HOk.out.2.1⟩, HC3.out.new (HCk.out.trans' hcs) (fun i e => by have := HMb.out; omega)⟩
      · simp only [Value.slice.injEq] at e9
        rw [e9.2.2]; exact g1
      · simp only [Value.slice.injEq] at e9
        rw [e9.2.2]; exact g2

theorem mdecode_is (w : World) {v : Value} {m : Mf} (h : CutAt w v (mencF m)) (hm : mchkF m = 0) (hd : ∀ x ∈ m.layers, x.sum.length = 32) :
    Calls Tryz.prog 149 #[v] w fun e w' => ∃ u, e = .returned (.tuple #[.agg #[strV m.name, strV m.ver, u], .int .i64 0]) ∧ LysAt w' (fun b => w.heap.size ≤ b ∧ b < w'.heap.size) u m.layers ∧ Chg (fun _ => False) w w' := by
  obtain ⟨w1, hw1⟩ : ∃ w1, w.alloc (.cells #[.string ⟨#[]⟩, .string ⟨#[]⟩, .slice none 0 0] 88) = w1 := ⟨_, rfl⟩
  have hc1 : Chg (fun _ => False) w w1 := by rw [← hw1]; exact (Chg.refl _ _).alloc _
  have hb1 : w1.heap[w.heap.size]? = some (.cells #[.string ⟨#[]⟩, .string ⟨#[]⟩, .slice none 0 0] 88 (0, 0)) := by rw [← hw1]; exact block_alloc_new w _
  have HDc := Lib.hid (decode_is w1 (h.fresh hc1) hm hd)
  have HSz := Lib.hid (lt_of_block hb1)
  have HC1 := Lib.hid hc1
  have HB1 := Lib.hid hb1
  have hOk := mchkF_ok hm
  have hn1 := nameB_len hOk.name
  have hn2 := nameB_len hOk.ver
  have HNm := Lib.hid (And.intro hm (And.intro hn1 hn2))
  obtain ⟨g, o, c, rfl, -, -⟩ := id h
  obtain ⟨N, hN⟩ : ∃ N, (mencF m).length = N := ⟨_, rfl⟩
  rw [hN] at HDc ⊢
  obtain ⟨s1, hs1⟩ : ∃ s, strV m.name = .string s := ⟨_, rfl⟩
  obtain ⟨s2, hs2⟩ : ∃ s, strV m.ver = .string s := ⟨_, rfl⟩
  rw [hs1, hs2] at HDc ⊢
  have HSt := Lib.hid (And.intro hs1 hs2)
  clear h hc1 hb1 hOk hn1 hn2 hm hd hN hs1 hs2
  go_enter Tryz.func149, Tryz.ntmps149
  go_wp2_with (first
    | (go_at_call 177; fail))
  try rw [hw1]
  clear hw1
  refine HDc.out.mono ?_
  clear HDc
  rintro e w2 ⟨u, rfl, hu, hc2⟩
  obtain ⟨ou, cu, hue, -⟩ := id hu.is
  subst hue
  obtain ⟨w3, hw3⟩ : ∃ w3, w2.alloc (.cells #[.string s1, .string s2, .slice ou m.layers.length cu] 88) = w3 := ⟨_, rfl⟩
  have hc3 : Chg (fun _ => False) w2 w3 := by rw [← hw3]; exact (Chg.refl _ _).alloc _
  have hb3 : w3.heap[w2.heap.size]? = some (.cells #[.string s1, .string s2, .slice ou m.layers.length cu] 88 (0, 0)) := by rw [← hw3]; exact block_alloc_new w2 _
  have HU3 := Lib.hid (hu.fresh hc3)
  have hck := mcheck_is w3 m (hu.fresh hc3) (by have := HNm.out.2.1; unfold maxLen; omega) (by have := HNm.out.2.2; unfold maxLen; omega)
  rw [HNm.out.1, HSt.out.1, HSt.out.2] at hck
  have HCk := Lib.hid hck
  have HB3 := Lib.hid hb3
  have HC3 := Lib.hid ((HC1.out.trans' hc2).trans' hc3)
  have HB13 := Lib.hid ((hc2.trans' hc3).at HB1.out id)
  obtain ⟨L, hL⟩ : ∃ L, m.layers.length = L := ⟨_, rfl⟩
  have HL := Lib.hid hL
  rw [hL] at HCk HB3 hw3 ⊢
  clear hc2 hc3 hb3 hu hck HB1 hL
  have c0 : w3.cell? ⟨w2.heap.size, 0, none⟩ = some (.string s1) := cell_of_block HB3.out rfl
  have c1 : w3.cell? ⟨w2.heap.size, 1, none⟩ = some (.string s2) := cell_of_block HB3.out rfl
  have c2 : w3.cell? ⟨w2.heap.size, 2, none⟩ = some (.slice ou L cu) := cell_of_block HB3.out rfl
  dsimp only
  go_wp2_with (first
    | (go_at_call 41; fail))
  try rw [hw3]
  clear hw3 c0 c1 c2
  refine HCk.out.mono ?_
  clear HCk
  rintro e w4 ⟨rfl, hc4⟩
  have hb4 := hc4.at HB3.out id
  have hb14 := hc4.at HB13.out id
  have HU4 := Lib.hid (HU3.out.fresh hc4)
  have HC4 := Lib.hid (HC3.out.trans' hc4)
  have HB14 := Lib.hid hb14
  have HS24 := Lib.hid (show w2.heap.size ≤ w4.heap.size by have := lt_of_block hb4; omega)
  have c0 : w4.cell? ⟨w2.heap.size, 0, none⟩ = some (.string s1) := cell_of_block hb4 rfl
  have c1 : w4.cell? ⟨w2.heap.size, 1, none⟩ = some (.string s2) := cell_of_block hb4 rfl
  have c2 : w4.cell? ⟨w2.heap.size, 2, none⟩ = some (.slice ou L cu) := cell_of_block hb4 rfl
  have a0 : w4.cell? ⟨w.heap.size, 0, none⟩ = some (.string ⟨#[]⟩) := cell_of_block hb14 rfl
  have a1 : w4.cell? ⟨w.heap.size, 1, none⟩ = some (.string ⟨#[]⟩) := cell_of_block hb14 rfl
  have a2 : w4.cell? ⟨w.heap.size, 2, none⟩ = some (.slice none 0 0) := cell_of_block hb14 rfl
  have z0 : w4.frozen? ⟨w.heap.size, 0, none⟩ = false := free_of_block hb14
  have z1 : w4.frozen? ⟨w.heap.size, 1, none⟩ = false := free_of_block hb14
  have z2 : w4.frozen? ⟨w.heap.size, 2, none⟩ = false := free_of_block hb14
  clear hc4 hb4 hb14
  dsimp only
  go_wp2_with fail
  have b1 := block_setCell (i := 0) (v := .string s1) HB14.out
  have b2 := block_setCell (i := 1) (v := .string s2) b1
  have b3 := block_setCell (i := 2) (v := .slice ou L cu) b2
  have hcs : Chg (· = w.heap.size) w4 (((w4.setCell ⟨w.heap.size, 0, none⟩ (.string s1)).setCell ⟨w.heap.size, 1, none⟩ (.string s2)).setCell ⟨w.heap.size, 2, none⟩ (.slice ou L cu)) := Chg.setCell (S := (· = w.heap.size)) (Chg.setCell (S := (· = w.heap.size)) (Chg.setCell (S := (· = w.heap.size)) (Chg.refl _ _) (fun _ => rfl) _) (fun _ => rfl) _) (fun _ => rfl) _
  obtain ⟨w9, hw9⟩ : ∃ w9, (((w4.setCell ⟨w.heap.size, 0, none⟩ (.string s1)).setCell ⟨w.heap.size, 1, none⟩ (.string s2)).setCell ⟨w.heap.size, 2, none⟩ (.slice ou L cu)) = w9 := ⟨_, rfl⟩
  rw [hw9] at b3 hcs ⊢
  have hb9 : w9.heap[w.heap.size]? = some (.cells #[.string s1, .string s2, .slice ou L cu] 88 (0, 0)) := by simpa using b3
  refine bodyPost_ret (result_cell_tmp rfl _ rfl (run_loadVar_row w9 w.heap.size _ 88 _ _ _ hb9 Tryz.underlying88 rfl size_man) (x := .int .i64 0) rfl) rfl ?_
  have hs1 : w.heap.size < w1.heap.size := HSz.out
  have hu := HU4.out
  rw [HL.out] at hu
  have hu9 := hu.kept hcs (fun b hb e => by have := hb.1; omega)
  have h14 := HC4.out.size
  have hs49 := hcs.size
  have h24 : w2.heap.size ≤ w4.heap.size := HS24.out
  exact ⟨_, rfl, hu9.wide (fun b hb => ⟨by have := hb.1; omega, by have := hb.2; omega⟩), HC4.out.new hcs (fun i e => by omega)⟩

end Go.Proofs.YtbjagmlbamjdbaaGreat.roots
end

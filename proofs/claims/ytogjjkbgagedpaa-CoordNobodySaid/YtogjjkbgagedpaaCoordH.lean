/-
  coord: coordinators that New did not make; 'roots'; the argument of CoordNobody.
-/
import Derived.Test.YtogjjkbgagedpaaCoordG
import Derived.Test.YtogjjkbgagedpaaArgs
namespace Go.Proofs.Ytogjjkbgagedpaa.coords
open Go.ChangeShapes Go.WideShapes Go.RowKit Go.Maps Go.My Go.ChangeMaps Go.Deep
set_option maxRecDepth 100000

variable {w w' : World}

theorem NoCo.kept {p : Option Addr} (h : NoCo w p) (hc : Chg (fun _ => False) w w') : NoCo w' p := by
  rcases h with h | ⟨T, h, c⟩
  · exact Or.inl h
  · exact Or.inr ⟨T, h, hc.cell c id⟩

theorem enter_none (w : World) (p : Option Addr) (h : NoCo w p) (v1 v2 v3 : Value) : Calls Try.prog 31 #[.pointer p, v1, v2, v3] w fun e w' => e = .returned (.tuple #[.pointer none, .int .i64 1]) ∧ w = w' := by
  have H := Lib.hid h
  clear h
  go_enter Try.func31, Try.ntmps31
  go_wp2_with (go_at_call 34; refine (none_yes _ _ H.out).mono ?_; rintro e w1 ⟨rfl, rfl⟩)
  go_ret2
  exact ⟨rfl, rfl⟩

theorem begin_none (w : World) (p : Option Addr) (h : NoCo w p) (v1 v2 : Value) : Calls Try.prog 12 #[.pointer p, v1, v2] w fun e w' => e = .returned (.tuple #[.slice none 0 0, .int .i64 1]) ∧ w = w' := by
  have H := Lib.hid h
  clear h
  go_enter Try.func12, Try.ntmps12
  go_wp2_with (go_at_call 31; refine (enter_none _ _ H.out _ _ _).mono ?_; rintro e w1 ⟨rfl, rfl⟩)
  go_ret2
  exact ⟨rfl, rfl⟩

theorem sure_none (w : World) (p : Option Addr) (h : NoCo w p) (v1 : Value) : Calls Try.prog 25 #[.pointer p, v1] w fun e w' => e = .returned (.tuple #[.slice none 0 0, .int .i64 1]) ∧ w = w' := by
  have H := Lib.hid h
  clear h
  go_enter Try.func25, Try.ntmps25
  go_wp2_with (go_at_call 34; refine (none_yes _ _ H.out).mono ?_; rintro e w1 ⟨rfl, rfl⟩)
  go_ret2
  exact ⟨rfl, rfl⟩

theorem quit_none (w : World) (p : Option Addr) (h : NoCo w p) (v1 : Value) : Calls Try.prog 30 #[.pointer p, v1] w fun e w' => e = .returned (.tuple #[.slice none 0 0, .int .i64 1]) ∧ w = w' := by
  have H := Lib.hid h
  clear h
  go_enter Try.func30, Try.ntmps30
  go_wp2_with (go_at_call 34; refine (none_yes _ _ H.out).mono ?_; rintro e w1 ⟨rfl, rfl⟩)
  go_ret2
  exact ⟨rfl, rfl⟩

theorem open_none (w : World) (p : Option Addr) (h : NoCo w p) : Calls Try.prog 17 #[.pointer p] w fun e w' => e = .returned (.slice none 0 0) ∧ w = w' := by
  have H := Lib.hid h
  clear h
  go_enter Try.func17, Try.ntmps17
  go_wp2_with (go_at_call 34; refine (none_yes _ _ H.out).mono ?_; rintro e w1 ⟨rfl, rfl⟩)
  go_ret
  exact ⟨rfl, rfl⟩

theorem state_none (w : World) (p : Option Addr) (h : NoCo w p) (v1 : Value) : Calls Try.prog 15 #[.pointer p, v1] w fun e w' => e = .returned (.int .i64 0) ∧ w = w' := by
  have H := Lib.hid h
  clear h
  go_enter Try.func15, Try.ntmps15
  go_wp2_with (go_at_call 34; refine (none_yes _ _ H.out).mono ?_; rintro e w1 ⟨rfl, rfl⟩)
  go_ret
  exact ⟨rfl, rfl⟩

theorem lacks_none (w : World) (p : Option Addr) (h : NoCo w p) (v1 : Value) : Calls Try.prog 26 #[.pointer p, v1] w fun e w' => e = .returned (.slice none 0 0) ∧ w = w' := by
  have H := Lib.hid h
  clear h
  go_enter Try.func26, Try.ntmps26
  go_wp2_with (go_at_call 34; refine (none_yes _ _ H.out).mono ?_; rintro e w1 ⟨rfl, rfl⟩)
  go_ret
  exact ⟨rfl, rfl⟩

theorem tick_none (w : World) (p : Option Addr) (h : NoCo w p) : Calls Try.prog 22 #[.pointer p] w fun e w' => e = .returned (.tuple #[.slice none 0 0, .slice none 0 0]) ∧ w = w' := by
  have H := Lib.hid h
  clear h
  go_enter Try.func22, Try.ntmps22
  go_wp2_with (go_at_call 17; refine (open_none _ _ H.out).mono ?_; rintro e w1 ⟨rfl, rfl⟩)
  go_loopw [4, 5, 13] (fun a b j wr => a = .slice none 0 0 ∧ b = .slice none 0 0 ∧ j = .int .i64 0 ∧ w = wr) (fun _ _ _ _ => 0)
  · exact ⟨rfl, rfl, rfl, rfl⟩
  obtain ⟨rfl, rfl, rfl, rfl⟩ := hrel
  go_wp2_with fail
  go_ret2
  exact ⟨rfl, rfl⟩

theorem take_none (w : World) (p : Option Addr) (h : NoCo w p) (m0 m1 m2 m3 m4 m5 : Value) : Calls Try.prog 13 #[.pointer p, .agg #[m0, m1, m2, m3, m4, m5]] w fun e w' => e = .returned (saidV 0) ∧ Chg (fun _ => False) w w' := by
  have H := Lib.hid h
  clear h
  go_enter Try.func13, Try.ntmps13
  go_wp2_with fail
  obtain ⟨w0, hw0⟩ : ∃ w0, (w.alloc (.cells #[m0, m1, m2, m3, m4, m5] 24)).alloc (.cells #[.slice none 0 0, .int .i64 0, .int .i64 0, .int .i64 0] 36) = w0 := ⟨_, rfl⟩
  rw [hw0]
  have hb1 : Arr w0 (w.heap.size + 1) 36 (saidL 0) := by
    subst hw0; unfold Arr; simp only [heap_alloc_get, World.size_alloc]; rw [if_pos trivial]; rfl
  have hc0 : Chg (fun _ => False) w w0 := by subst hw0; exact ((Chg.refl _ _).alloc _).alloc _
  have HS := Lib.hid (said_store (l0 := 0) hb1 0)
  have HC0 := Lib.hid hc0
  clear hb1 hc0 hw0
  go_wp2_with (first
    | (go_at_call 34; refine (none_yes _ _ (H.out.kept HC0.out)).mono ?_; rintro e w1 ⟨rfl, rfl⟩)
    | (refine wpList_store_mid rfl 36 _ _ rfl (w.heap.size + 1) 0 (saidL 0).toArray rfl rfl HS.out.there HS.out.size HS.out.one ?_; rw [List.toList_toArray]))
  (try simp only [Exit.inBlock, Exit.then])
  refine bodyPost_ret (result1 rfl _ rfl HS.out.load) rfl ?_
  exact ⟨rfl, HC0.out.new HS.out.chg (fun k e => by omega)⟩

set_option maxHeartbeats 1000000 in
theorem recall_none (w : World) (p : Option Addr) (h : NoCo w p) (v1 : Value) {base : Nat} {v : Value} {zs : List Int} (hz : w.ownsRow base 3 1 v zs.length (zs.map (Value.int .i64))) (hl : zs.length ≤ 10) : Calls Try.prog 20 #[.pointer p, v1, v] w fun e w' => e = .returned (.tuple #[.slice none 0 0, .int .i64 1]) ∧ Chg (fun _ => False) w w' := by
  obtain ⟨i0, hI0⟩ := info_parts info_plan
  have HI0 := Lib.hid hI0
  have H := Lib.hid h
  have HZ := Lib.hid hz
  obtain ⟨oa, cap, rfl⟩ := own_slice hz
  clear h hz hI0
  go_enter Try.func20, Try.ntmps20
  go_wp2_with fail
  go_loopw [8, 15] (fun u j wr => ∃ (k : Nat) (l : List Value), j = .int .i64 k ∧ k ≤ zs.length ∧ wr.ownsRow w.heap.size 33 2 u k l ∧ Chg (fun _ => False) w wr) (fun _ j _ => zs.length - (intOf j).toNat)
  · exact ⟨0, [], rfl, Nat.zero_le _, World.ownsRow_nil _ _ _ _, Chg.refl _ _⟩
  obtain ⟨k, l, rfl, hk, ho, hc⟩ := hrel
  have HO := Lib.hid ho
  have HC := Lib.hid hc
  clear ho hc
  by_cases hlt : k < zs.length
  · have hki : (k : Int) < (zs.length : Int) := by omega
    obtain ⟨g, rfl⟩ : ∃ g, oa = some ⟨g, 0, none⟩ := by
      rcases HZ.out.2 with ⟨e1, h0⟩ | ⟨g, cap', cur, e1, -⟩
      · omega
      · simp only [Value.slice.injEq] at e1; exact ⟨g, e1.1⟩
    obtain ⟨r, hr⟩ : ∃ r, wr.cell? ⟨g, k, none⟩ = some (.int .i64 r) := by
      obtain ⟨hx, h1, -⟩ := own_cell (row_kept HZ.out HC.out (fun _ _ h => h)) hlt
      exact ⟨zs[k], by rw [h1, List.getElem_map]⟩
    have hca := (Chg.refl (fun _ => False) wr).alloc (.cells #[.int .i64 r, .slice none 0 0] 33)
    have HRow := Lib.hid (row_kept HO.out hca (fun _ _ h => h))
    have HCa := Lib.hid hca
    clear hca
    go_wp2_with (first
      | (at_builtin; refine wpList_append_own_at _ rfl _ _ 34 rfl w.heap.size 33 i0 (.agg (planC 0).toArray) 2 32 Try.underlying34 HI0.out.1 HI0.out.2.1 HI0.out.2.2.1 HI0.out.2.2.2 rfl (by decide) _ k _ rfl HRow.out ⟨wr.heap.size, 0, none⟩ 1 1 [.int .i64 r, .slice none 0 0] rfl rfl (cells_new wr [.int .i64 r, .slice none 0 0] _) (by intro x hx; simp only [List.mem_cons, List.not_mem_nil, or_false] at hx; rcases hx with rfl | rfl <;> rfl) (by unfold maxLen; omega) (by omega) (Nat.le_trans HC.out.size HCa.out.size) ?_; intro v6 w6 ho6 hg6 hx1 hx2; have HO6 := Lib.hid ho6; have HG6 := Lib.hid hg6; clear ho6 hg6 hx1 hx2))
    exact ⟨⟨k + 1, _, by go_num, hlt, HO6.out, (HC.out.trans' HCa.out).new (Chg.of_grown HG6.out) (fun j e => (HO.out.lt j e.symm).1)⟩, meas_step hlt⟩
  · have hki : ¬ (k : Int) < (zs.length : Int) := by omega
    go_wp2_with (go_at_call 31; refine (enter_none _ _ (H.out.kept HC.out) _ _ _).mono ?_; rintro e w1 ⟨rfl, rfl⟩)
    go_ret2
    exact ⟨rfl, HC.out⟩

set_option maxHeartbeats 1000000 in
theorem roots_any (w : World) (oa : Option Addr) (cap : Nat) (l : List (List Value)) (h : RowsAt w 2 oa l) (hr : ∀ x ∈ l, ∃ r p, x = [.int .i64 r, p]) : Calls Try.prog 21 #[.slice oa l.length cap] w fun e w' => ∃ v, e = .returned v ∧ (∃ zs : List Int, zs.length ≤ 10 ∧ w'.ownsRow w.heap.size 3 1 v zs.length (zs.map (Value.int .i64))) ∧ Chg (fun _ => False) w w' := by
  obtain ⟨i0, hI0⟩ := info_parts info_int
  have HI0 := Lib.hid hI0
  have H := Lib.hid h
  have HR := Lib.hid hr
  clear h hr hI0
  go_enter Try.func21, Try.ntmps21
  go_wp2_with fail
  go_loopw [3, 4] (fun u j wr => ∃ zs : List Int, j = .int .i64 zs.length ∧ zs.length ≤ l.length ∧ zs.length ≤ 10 ∧ wr.ownsRow w.heap.size 3 1 u zs.length (zs.map (Value.int .i64)) ∧ Chg (fun _ => False) w wr) (fun _ j _ => 10 - (intOf j).toNat)
  · exact ⟨[], rfl, Nat.zero_le _, Nat.zero_le _, World.ownsRow_nil _ _ _ _, Chg.refl _ _⟩
  obtain ⟨zs, rfl, hk, hk10, ho, hc⟩ := hrel
  obtain ⟨k, hkk⟩ : ∃ k, zs.length = k := ⟨_, rfl⟩
  rw [hkk] at hk hk10 ho ⊢
  have HO := Lib.hid ho
  have HC := Lib.hid hc
  have HK := Lib.hid hkk
  clear ho hc hkk
  by_cases hlt : k < l.length
  · have hki : (k : Int) < (l.length : Int) := by omega
    by_cases h10 : k < 10
    · have hd10 : decide ((k : Int) < 10) = true := by simp; omega
      obtain ⟨b, off, rfl⟩ := H.out.spot (by intro e; rw [e] at hlt; simp at hlt)
      obtain ⟨r, pk, hx⟩ := HR.out l[k] (List.getElem_mem hlt)
      have d0 : wr.cell? ⟨b, off + k * 2, none⟩ = some (.int .i64 r) := (H.out.kept HC.out (fun _ _ h => h)).cell b off rfl k l[k] 0 _ (List.getElem?_eq_getElem hlt) (by rw [hx]; rfl)
      have hca := (Chg.refl (fun _ => False) wr).alloc (.cells #[.int .i64 r] 3)
      have HRow := Lib.hid (row_kept HO.out hca (fun _ _ h => h))
      have HCa := Lib.hid hca
      clear hca hx
      go_wp2_with (first
        | (at_builtin; refine wpList_append_own_at _ rfl _ _ 41 rfl w.heap.size 3 i0 (.int .i64 0) 1 8 Try.underlying41 HI0.out.1 HI0.out.2.1 HI0.out.2.2.1 HI0.out.2.2.2 rfl (by decide) _ k _ rfl HRow.out ⟨wr.heap.size, 0, none⟩ 1 1 [.int .i64 r] rfl rfl (cells_new wr [.int .i64 r] _) (by intro x hx; rw [List.mem_singleton.1 hx]; rfl) (by unfold maxLen; omega) (by omega) (Nat.le_trans HC.out.size HCa.out.size) ?_; intro v6 w6 ho6 hg6 hx1 hx2; have HO6 := Lib.hid ho6; have HG6 := Lib.hid hg6; clear ho6 hg6 hx1 hx2))
      have hz : (zs ++ [r]).length = k + 1 := by rw [List.length_append, HK.out]; rfl
      refine ⟨⟨zs ++ [r], by rw [hz]; go_num, by rw [hz]; exact hlt, by rw [hz]; exact h10, ?_, (HC.out.trans' HCa.out).new (Chg.of_grown HG6.out) (fun j e => (HO.out.lt j e.symm).1)⟩, meas_step h10⟩
      rw [hz, List.map_append]
      exact HO6.out
    · have hd10 : decide ((k : Int) < 10) = false := by simp; omega
      go_wp2_with fail
      go_ret
      exact ⟨_, rfl, ⟨zs, by rw [HK.out]; exact hk10, by rw [HK.out]; exact HO.out⟩, HC.out⟩
  · have hki : ¬ (k : Int) < (l.length : Int) := by omega
    go_wp2_with fail
    go_ret
    exact ⟨_, rfl, ⟨zs, by rw [HK.out]; exact hk10, by rw [HK.out]; exact HO.out⟩, HC.out⟩

theorem cells_plan : Try.prog.cellsOf 33 = 2 := by kernel_rfl
theorem cells_act : Try.prog.cellsOf 61 = 9 := by kernel_rfl
theorem cells_int : Try.prog.cellsOf 3 = 1 := by kernel_rfl
theorem cells_plans : Try.prog.cellsOf 34 = 1 := by kernel_rfl
theorem cells_packs : Try.prog.cellsOf 22 = 1 := by kernel_rfl

theorem open_act {H : Type} {enc : TypeId × Value → H} {W : World} {v : Value} {d : DataW H} {ps : List MemPlace} {r : Reach} {b0 : Nat}
    (hv : Value.okWide Try.prog W r b0 61 v) (h : DataW.Trod enc Try.prog W 0 (fun _ => true) true 61 v d ps) :
    ∃ (c0 c1 m0 m1 m2 m3 m4 m5 : Value) (oa : Option Addr) (l : List (List Value)) (cap : Nat), v = .agg #[c0, c1, .slice oa l.length cap, m0, m1, m2, m3, m4, m5] ∧ RowsAt W 2 oa l ∧ ∀ x ∈ l, ∃ r p, x = [.int .i64 r, p] := by
  obtain ⟨cs, rfl, hsz⟩ := okWide_struct Try.underlying61 hv
  obtain ⟨fuel, hf⟩ := h
  obtain ⟨xs, k, _, _, hlen, hxs, hx⟩ := DataW.trod_struct Try.underlying61 hf
  rw [cells_act] at hlen
  have h2 := hx 2 _ rfl
  rw [show xs[2]? = some (xs[2]'(by rw [hxs]; decide)) from List.getElem?_eq_getElem _] at h2
  have hcs : ∃ l : List Value, cs.toList = l ∧ l.length = 9 := ⟨_, rfl, by simpa [Value.cells] using hlen⟩
  obtain ⟨l, hl, hl9⟩ := hcs
  have e0 : (Value.agg cs).cells.toList = l := by simpa [Value.cells] using hl
  rw [e0] at h2
  match l, hl9 with
  | [c0, c1, c2, m0, m1, m2, m3, m4, m5], _ =>
    have h2' : DataW.trod enc Try.prog W 0 (fun _ => true) true k 34 [c2] = some _ := h2
    obtain ⟨oa, rows, cap, e, -, -, hr, hel⟩ := open_rows_trod Try.underlying34 cells_plan (by omega) h2'
    simp only [List.cons.injEq, and_true] at e
    subst e
    refine ⟨c0, c1, m0, m1, m2, m3, m4, m5, oa, rows, cap, ?_, hr, fun x hx' => ?_⟩
    · congr 1
      exact Array.toList_inj.1 hl
    · obtain ⟨fuel', y, hy⟩ := hel x hx'
      obtain ⟨hxl, k', hf'⟩ := trod_fields Try.underlying33 cells_plan rfl (by
        intro i f hf
        match i, hf with
        | 0, hf => cases hf; exact ⟨rfl, cells_int⟩
        | 1, hf => cases hf; exact ⟨rfl, cells_packs⟩
        | i + 2, hf => simp at hf) hy
      match x, hxl with
      | [a, b], _ =>
        obtain ⟨_, h0⟩ := hf' 0 _ _ rfl rfl
        obtain ⟨z, e1, _, _⟩ := DataW.trod_int Try.underlying3 h0
        simp only [List.cons.injEq, and_true] at e1
        exact ⟨z, b, by rw [e1]⟩

end Go.Proofs.Ytogjjkbgagedpaa.coords

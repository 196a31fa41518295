/-
  coord, of any plans: Begin, Recall; roots of any plans.
-/
import Derived.Test.YtogjjkbgagedpaaCoGQ
import Derived.Test.YtogjjkbgagedpaaCoGN
namespace Go.Proofs.Ytogjjkbgagedpaa.coordg
open Go.RowKit Go.Maps Go.My Go.ChangeMaps coords
set_option maxRecDepth 100000

variable {w w' : World} {c q : Nat} {Fc : Nat → Prop} {lim : Int} {L : List (Int × Ent)}

set_option maxHeartbeats 1000000 in
theorem roots_gen (w : World) (oa : Option Addr) (cap : Nat) (l : List (List Value)) (h : RowsAt w 2 oa l) (hr : ∀ x ∈ l, ∃ r p, x = [.int .i64 r, p]) : Calls Try.prog 21 #[.slice oa l.length cap] w fun e w' => ∃ v, e = .returned v ∧ (∃ zs : List Int, zs.length ≤ 10 ∧ w'.ownsRow w.heap.size 3 1 v zs.length (zs.map (Value.int .i64))) ∧ Chg (fun _ => False) w w' := by
  obtain ⟨i0, hI0⟩ := info_parts info_int
  have HI0 := Lib.hid hI0
  have H := Lib.hid h
  have HR := Lib.hid hr
  clear h hr hI0
  go_enter Try.func21, Try.ntmps21
  go_wp2_with fail
  go_loopw [3, 4] (fun u j wr => ∃ zs : List Int, j = .int .i64 zs.length ∧ zs.length ≤ l.length ∧ zs.length ≤ 10 ∧ wr.ownsRow w.heap.size 3 1 u zs.length (zs.map (Value.int .i64)) ∧ Chg (fun _ => False) w wr) (fun _ j _ => 10 - (intOf j).toNat)
  · exact ⟨[], rfl, Nat.zero_le _, Nat.zero_le _, World.ownsRow_nil _ _ _ _, Chg.refl _ _⟩
  obtain ⟨zs, rfl, hk, hk10, ho, hc⟩ := hrel
  obtain ⟨k, hkk⟩ : ∃ k, zs.length = k := ⟨_, rfl⟩
  rw [hkk] at hk hk10 ho ⊢
  have HO := Lib.hid ho
  have HC := Lib.hid hc
  have HK := Lib.hid hkk
  clear ho hc hkk
  by_cases hlt : k < l.length
  · have hki : (k : Int) < (l.length : Int) := by omega
    by_cases h10 : k < 10
    · have hd10 : decide ((k : Int) < 10) = true := by simp; omega
      obtain ⟨b, off, rfl⟩ := H.out.spot (by intro e; rw [e] at hlt; simp at hlt)
      obtain ⟨r, pk, hx⟩ := HR.out l[k] (List.getElem_mem hlt)
      have d0 : wr.cell? ⟨b, off + k * 2, none⟩ = some (.int .i64 r) := (H.out.kept HC.out (fun _ _ h => h)).cell b off rfl k l[k] 0 _ (List.getElem?_eq_getElem hlt) (by rw [hx]; rfl)
      have hca := (Chg.refl (fun _ => False) wr).alloc (.cells #[.int .i64 r] 3)
      have HRow := Lib.hid (row_kept HO.out hca (fun _ _ h => h))
      have HCa := Lib.hid hca
      clear hca hx
      go_wp2_with (first
        | (at_builtin; refine wpList_append_own_at _ rfl _ _ 41 rfl w.heap.size 3 i0 (.int .i64 0) 1 8 Try.underlying41 HI0.out.1 HI0.out.2.1 HI0.out.2.2.1 HI0.out.2.2.2 rfl (by decide) _ k _ rfl HRow.out ⟨wr.heap.size, 0, none⟩ 1 1 [.int .i64 r] rfl rfl (cells_new wr [.int .i64 r] _) (by intro x hx; rw [List.mem_singleton.1 hx]; rfl) (by unfold maxLen; omega) (by omega) (Nat.le_trans HC.out.size HCa.out.size) ?_; intro v6 w6 ho6 hg6 hx1 hx2; have HO6 := Lib.hid ho6; have HG6 := Lib.hid hg6; clear ho6 hg6 hx1 hx2))
      have hz : (zs ++ [r]).length = k + 1 := by rw [List.length_append, HK.out]; rfl
      refine ⟨⟨zs ++ [r], by rw [hz]; go_num, by rw [hz]; exact hlt, by rw [hz]; exact h10, ?_, (HC.out.trans' HCa.out).new (Chg.of_grown HG6.out) (fun j e => (HO.out.lt j e.symm).1)⟩, meas_step h10⟩
      rw [hz, List.map_append]
      exact HO6.out
    · have hd10 : decide ((k : Int) < 10) = false := by simp; omega
      go_wp2_with fail
      go_ret
      exact ⟨_, rfl, ⟨zs, by rw [HK.out]; exact hk10, by rw [HK.out]; exact HO.out⟩, HC.out⟩
  · have hki : ¬ (k : Int) < (l.length : Int) := by omega
    go_wp2_with fail
    go_ret
    exact ⟨_, rfl, ⟨zs, by rw [HK.out]; exact hk10, by rw [HK.out]; exact HO.out⟩, HC.out⟩


theorem foot_add {tx : Int} {e : Ent} : ∀ b, Foot (L ++ [(tx, e)]) Fc b → Foot L Fc b ∨ e.F b := by
  rintro b (h | ⟨p, hp, h⟩)
  · exact Or.inl (Or.inl h)
  · rcases List.mem_append.1 hp with h1 | h1
    · exact Or.inl (Or.inr ⟨p, h1, h⟩)
    · rw [List.mem_singleton.1 h1] at h
      exact Or.inr h

set_option maxHeartbeats 1000000 in
theorem begin_gen (w : World) (h : AllIs w c Fc lim q L) (txn : Int) (ht : inR txn) (ps : List Int) (pk : List Value) (hpl : pk.length = ps.length) (hl : ps.length ≤ 10) (oap : Option Addr) (cp : Nat) (hp : RowsAt w 2 oap (List.zipWith planG ps pk)) {G : Nat → Prop} (hpk : ∀ p ∈ pk, PkOk w G p) :
    Calls Try.prog 12 #[ptrV c, .int .i64 txn, .slice oap ps.length cp] w fun e w' => ∃ v n L', e = .returned (.tuple #[v, .int .i64 n]) ∧ AllIs w' c Fc lim q L' ∧ L'.length ≤ L.length + 1 ∧ (∀ b, Foot L' Fc b → Foot L Fc b ∨ w.heap.size ≤ b) ∧ Chg (Foot L Fc) w w' := by
  have HE := Lib.hid (enter_gen w h.co txn 1 ht ps pk hpl hl oap cp hp hpk)
  have H := Lib.hid h
  have HC := Lib.hid (Chg.refl (fun _ => False) w)
  clear h hp hpk
  unfold ptrV at HE ⊢
  go_enter Try.func12, Try.ntmps12
  go_wp2_with (first
    | (go_at_call 31; fail))
  refine HE.out.mono ?_
  rintro e w1 (⟨n, rfl, hn, hc1⟩ | ⟨x, pv, qa, pk', rfl, hE, hC1, hmn, htx, hc1⟩)
  · have hnb : (n == 0) = false := by simp [hn]
    have HC1 := Lib.hid hc1
    clear hn hc1 HE
    dsimp only
    go_wp2_with fail
    go_ret2
    exact ⟨_, _, L, rfl, H.out.fresh (HC.out.trans' HC1.out), Nat.le_succ _, fun _ h => Or.inl h, (HC.out.trans' HC1.out).mono (fun _ _ h => h.elim)⟩
  · have HEn := Lib.hid hE
    have HAd := Lib.hid (((H.out.fresh HC.out)).add (e := ⟨x, born w w1, ⟨1, 0, ps, pk', []⟩⟩) htx (by rw [mget_map] at hmn; cases hg : mget L txn with | none => rfl | some y => rw [hg] at hmn; cases hmn) hE hC1 hc1 (fun k e1 => Or.inl (by rw [e1]; exact H.out.co.fq)) (fun k hk => hk.1) ⟨Or.inl rfl, by show (0 : Int) ≤ 0; omega, by show (0 : Int) < lim; have := H.out.lim1; omega⟩)
    have HC1 := Lib.hid ((HC.out.mono (fun _ _ h => h.elim) : Chg (Foot L Fc) w w).trans' (hc1.mono (fun k _ e1 => Or.inl (by rw [e1]; exact H.out.co.fq))))
    clear hE hC1 hmn htx hc1 HE
    unfold ptrV
    dsimp only
    go_wp2_with (first
      | (go_at_call 32; refine (all_each _ HEn.out 1 txn (fun _ => true) (fun wr _ r _ => each_any wr r)).mono ?_; rintro e w2 ⟨v, rfl, ho, hc2⟩
         have HC2 := Lib.hid hc2
         clear ho hc2))
    go_ret2
    exact ⟨_, _, _, rfl, HAd.out.fresh HC2.out, by rw [List.length_append]; exact Nat.le_refl _, fun b hb => (foot_add b hb).imp_right (fun h => Nat.le_trans HC.out.size h.1), HC1.out.trans' (HC2.out.mono (fun _ _ h => h.elim))⟩

theorem zip_plain (l : List Int) : List.zipWith planG l (List.replicate l.length (.slice none 0 0)) = l.map coords.planC := by
  induction l with
  | nil => rfl
  | cons a l ih => simp only [List.length_cons, List.replicate_succ, List.zipWith_cons_cons, ih, List.map_cons]; rfl

set_option maxHeartbeats 1000000 in
theorem recall_gen (w : World) (h : AllIs w c Fc lim q L) (txn : Int) (ht : inR txn) {base : Nat} {v : Value} {zs : List Int} (hz : w.ownsRow base 3 1 v zs.length (zs.map (Value.int .i64))) (hl : zs.length ≤ 10) :
    Calls Try.prog 20 #[ptrV c, .int .i64 txn, v] w fun e w' => ∃ v n L', e = .returned (.tuple #[v, .int .i64 n]) ∧ AllIs w' c Fc lim q L' ∧ L'.length ≤ L.length + 1 ∧ (∀ b, Foot L' Fc b → Foot L Fc b ∨ w.heap.size ≤ b) ∧ Chg (Foot L Fc) w w' := by
  obtain ⟨i0, hI0⟩ := info_parts info_plan
  have HI0 := Lib.hid hI0
  have H := Lib.hid h
  have HZ := Lib.hid hz
  obtain ⟨oa, cap, rfl⟩ := own_slice hz
  clear h hz hI0
  unfold ptrV
  go_enter Try.func20, Try.ntmps20
  go_wp2_with fail
  go_loopw [8, 15] (fun u j wr => ∃ k : Nat, j = .int .i64 k ∧ k ≤ zs.length ∧ wr.ownsRow w.heap.size 33 2 u k ((zs.take k).map coords.planC).flatten ∧ Chg (fun _ => False) w wr) (fun _ j _ => zs.length - (intOf j).toNat)
  · exact ⟨0, rfl, Nat.zero_le _, World.ownsRow_nil _ _ _ _, Chg.refl _ _⟩
  obtain ⟨k, rfl, hk, ho, hc⟩ := hrel
  have HO := Lib.hid ho
  have HC := Lib.hid hc
  clear ho hc
  by_cases hlt : k < zs.length
  · have hki : (k : Int) < (zs.length : Int) := by omega
    obtain ⟨g, rfl⟩ : ∃ g, oa = some ⟨g, 0, none⟩ := by
      rcases HZ.out.2 with ⟨e1, h0⟩ | ⟨g, cap', cur, e1, -⟩
      · omega
      · simp only [Value.slice.injEq] at e1; exact ⟨g, e1.1⟩
    obtain ⟨r, hrz, hr⟩ : ∃ r, zs[k]? = some r ∧ wr.cell? ⟨g, k, none⟩ = some (.int .i64 r) := by
      obtain ⟨hx, h1, -⟩ := own_cell (row_kept HZ.out HC.out (fun _ _ h => h)) hlt
      exact ⟨zs[k], List.getElem?_eq_getElem hlt, by rw [h1, List.getElem_map]⟩
    have hca := (Chg.refl (fun _ => False) wr).alloc (.cells #[.int .i64 r, .slice none 0 0] 33)
    have HRow := Lib.hid (row_kept HO.out hca (fun _ _ h => h))
    have HCa := Lib.hid hca
    have HRz := Lib.hid hrz
    clear hca hrz
    go_wp2_with (first
      | (at_builtin; refine wpList_append_own_at _ rfl _ _ 34 rfl w.heap.size 33 i0 (.agg (coords.planC 0).toArray) 2 32 Try.underlying34 HI0.out.1 HI0.out.2.1 HI0.out.2.2.1 HI0.out.2.2.2 rfl (by decide) _ k _ rfl HRow.out ⟨wr.heap.size, 0, none⟩ 1 1 [.int .i64 r, .slice none 0 0] rfl rfl (cells_new wr [.int .i64 r, .slice none 0 0] _) (by intro x hx; simp only [List.mem_cons, List.not_mem_nil, or_false] at hx; rcases hx with rfl | rfl <;> rfl) (by unfold maxLen; omega) (by omega) (Nat.le_trans HC.out.size HCa.out.size) ?_; intro v6 w6 ho6 hg6 hx1 hx2; have HO6 := Lib.hid ho6; have HG6 := Lib.hid hg6; clear ho6 hg6 hx1 hx2))
    refine ⟨⟨k + 1, by go_num, hlt, ?_, (HC.out.trans' HCa.out).new (Chg.of_grown HG6.out) (fun j e => (HO.out.lt j e.symm).1)⟩, meas_step hlt⟩
    rw [List.take_add_one, HRz.out, Option.toList_some, List.map_append, List.flatten_append]
    simpa [coords.planC] using HO6.out
  · have hki : ¬ (k : Int) < (zs.length : Int) := by omega
    have hkl : k = zs.length := by omega
    rw [hkl, List.take_length] at HO
    clear hkl hlt hk
    obtain ⟨oau, cu, rfl⟩ := own_slice HO.out
    have hrows := rows_own HO.out (by intro r hr; obtain ⟨z, -, rfl⟩ := List.mem_map.1 hr; rfl) (by rw [List.length_map])
    rw [← zip_plain] at hrows
    have HE := Lib.hid (enter_gen wr (H.out.fresh HC.out).co txn 3 ht zs (List.replicate zs.length (.slice none 0 0)) (by simp) hl oau cu hrows (G := fun _ => False) (fun p hp => by rw [(List.mem_replicate.1 hp).2]; exact PkOk.none _ _))
    unfold ptrV at HE
    clear hrows
    go_wp2_with (first
      | (go_at_call 31; fail))
    refine HE.out.mono ?_
    rintro e w1 (⟨n, rfl, hn, hc1⟩ | ⟨x, pv, qa, pk', rfl, hE, hC1, hmn, htx, hc1⟩)
    · have hnb : (n == 0) = false := by simp [hn]
      have HC1 := Lib.hid hc1
      clear hn hc1 HE
      dsimp only
      go_wp2_with fail
      go_ret2
      exact ⟨_, _, L, rfl, H.out.fresh (HC.out.trans' HC1.out), Nat.le_succ _, fun _ h => Or.inl h, (HC.out.trans' HC1.out).mono (fun _ _ h => h.elim)⟩
    · have HEn := Lib.hid hE
      have HAd := Lib.hid (((H.out.fresh HC.out)).add (e := ⟨x, born wr w1, ⟨3, 0, zs, pk', []⟩⟩) htx (by rw [mget_map] at hmn; cases hg : mget L txn with | none => rfl | some y => rw [hg] at hmn; cases hmn) hE hC1 hc1 (fun k e1 => Or.inl (by rw [e1]; exact H.out.co.fq)) (fun k hk => hk.1) ⟨Or.inr (Or.inr rfl), by show (0 : Int) ≤ 0; omega, by show (0 : Int) < lim; have := H.out.lim1; omega⟩)
      have HC1 := Lib.hid ((HC.out.mono (fun _ _ h => h.elim) : Chg (Foot L Fc) w wr).trans' (hc1.mono (fun k _ e1 => Or.inl (by rw [e1]; exact H.out.co.fq))))
      clear hE hC1 hmn htx hc1 HE
      unfold ptrV
      dsimp only
      go_wp2_with (first
        | (go_at_call 32; refine (all_each _ HEn.out 3 txn (fun _ => true) (fun wr _ r _ => each_any wr r)).mono ?_; rintro e w2 ⟨v, rfl, ho, hc2⟩
           have HC2 := Lib.hid hc2
           clear ho hc2))
      go_ret2
      exact ⟨_, _, _, rfl, HAd.out.fresh HC2.out, by rw [List.length_append]; exact Nat.le_refl _, fun b hb => (foot_add b hb).imp_right (fun h => Nat.le_trans HC.out.size h.1), HC1.out.trans' (HC2.out.mono (fun _ _ h => h.elim))⟩

end Go.Proofs.Ytogjjkbgagedpaa.coordg

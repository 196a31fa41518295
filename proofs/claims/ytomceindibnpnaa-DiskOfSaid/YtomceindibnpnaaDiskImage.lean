/-
  disk: Image, the walk.
-/
import Derived.Test.YtomceindibnpnaaDiskNew
namespace Go.Proofs.Ytomceindibnpnaa.disks
open Go.RowKit Go.Maps Go.My Go.ChangeMaps
set_option maxRecDepth 100000

variable {w w' : World} {d q : Nat} {F F' : Nat → Prop} {X X' : DV} {bv : Value} {m : List (Int × (Value × List Blk))}

theorem info_bytes : (Try.prog.info? 68).map (fun i => (i.zero, i.size, i.bytes)) = some (some (.slice none 0 0), 1, 24) := by kernel_rfl

/-- A slice of byte slices, all of them new since 'base', no two over one block. -/
structure ImgAt (w : World) (base : Nat) (v : Value) (L : List Blk) : Prop where
  ex : ∃ gs : List Value, gs.length = L.length ∧ w.ownsRow base 68 1 v L.length gs ∧ (∀ (i : Nat) g b, gs[i]? = some g → L[i]? = some b → w.ownsRow base 5 1 g b.length (cellsB b) ∧ g.oneCell' = true) ∧
    (∀ (i j : Nat) g g', i < j → gs[i]? = some g → gs[j]? = some g' → g.ownBlock = none ∨ g.ownBlock ≠ g'.ownBlock)

theorem types_ne' : (68 : Nat) ≠ 5 := by decide

theorem row_obj {w : World} {base : Nat} {e : TypeId} {n : Nat} {v : Value} {k : Nat} {l : List Value} (h : w.ownsRow base e n v k l) {g : Nat} (hg : v.ownBlock = some g) : ∃ cur, w.heap[g]? = some (.cells cur e (0, 0)) := by
  rcases h.2 with ⟨rfl, h0⟩ | ⟨g', cap, cur, rfl, _, hh, _⟩
  · simp [Value.ownBlock] at hg
  · simp only [Value.ownBlock, Option.some.injEq] at hg
    subst hg
    exact ⟨_, hh⟩

theorem row_kept {w w' : World} {base : Nat} {e : TypeId} {n : Nat} {v : Value} {k : Nat} {l : List Value} (h : w.ownsRow base e n v k l) {S : Nat → Prop} (hc : Chg S w w') (hs : ∀ g, v.ownBlock = some g → ¬ S g) : w'.ownsRow base e n v k l := by
  obtain ⟨h1, h2⟩ := h
  refine ⟨h1, ?_⟩
  rcases h2 with h2 | ⟨g, cap, cur, rfl, a1, a2, a3⟩
  · exact Or.inl h2
  · exact Or.inr ⟨g, cap, cur, rfl, a1, hc.at a2 (hs g rfl), a3⟩

theorem ImgAt.nil (w : World) (base : Nat) : ImgAt w base (.slice none 0 0) [] := ⟨[], rfl, World.ownsRow_nil _ _ _ _, by simp, by simp⟩

/-- One more: the byte slice v' (new since w), then the outer slice appended. -/
theorem img_step {w w2 w3 : World} {base : Nat} {gs : List Value} {L : List Blk} {u u' v' : Value} {b : Blk} (hlen : gs.length = L.length) (hrow : w.ownsRow base 68 1 u L.length gs)
    (heach : ∀ (i : Nat) g b, gs[i]? = some g → L[i]? = some b → w.ownsRow base 5 1 g b.length (cellsB b) ∧ g.oneCell' = true)
    (hap : ∀ (i j : Nat) g g', i < j → gs[i]? = some g → gs[j]? = some g' → g.ownBlock = none ∨ g.ownBlock ≠ g'.ownBlock)
    (hc2 : Chg (fun _ => False) w w2) (hv : w2.ownsRow w.heap.size 5 1 v' b.length (cellsB b)) (hb : base ≤ w.heap.size) (hone : v'.oneCell' = true)
    (hu : w3.ownsRow base 68 1 u' (L.length + 1) (gs ++ [v'])) (hc3 : Chg (fun k => some k = u.ownBlock) w2 w3) : ImgAt w3 base u' (L ++ [b]) := by
  have hne : ∀ {g : Value} {n : Nat} {l : List Value} {W : World} {b0 : Nat}, W.ownsRow b0 5 1 g n l → Chg (fun _ => False) W w2 → ∀ k, g.ownBlock = some k → ¬ some k = u.ownBlock := by
    intro g n l W b0 h hc k hk e
    obtain ⟨c1, h1⟩ := row_obj h hk
    obtain ⟨c2, h2⟩ := row_obj (row_kept hrow hc2 (fun _ _ h => h)) e.symm
    rw [hc.at h1 id] at h2
    simp only [Option.some.injEq, Obj.cells.injEq] at h2
    exact types_ne' h2.2.1.symm
  refine ⟨gs ++ [v'], by simp [hlen], by simpa using hu, ?_, ?_⟩
  · intro i g b' hg hb'
    rcases Nat.lt_trichotomy i gs.length with hi | hi | hi
    · rw [List.getElem?_append_left hi] at hg
      rw [List.getElem?_append_left (by omega)] at hb'
      have := heach i g b' hg hb'
      exact ⟨row_kept (row_kept this.1 hc2 (fun _ _ h => h)) hc3 (hne this.1 hc2), this.2⟩
    · subst hi
      rw [List.getElem?_append_right (Nat.le_refl _), Nat.sub_self] at hg
      rw [hlen, List.getElem?_append_right (Nat.le_refl _), Nat.sub_self] at hb'
      simp only [List.getElem?_cons_zero, Option.some.injEq] at hg hb'
      subst hg; subst hb'
      have := row_kept hv hc3 (hne hv (Chg.refl _ _))
      refine ⟨⟨this.1, ?_⟩, hone⟩
      rcases this.2 with h | ⟨g, cap, cur, h1, h2, h3⟩
      · exact Or.inl h
      · exact Or.inr ⟨g, cap, cur, h1, Nat.le_trans hb h2, h3⟩
    · rw [List.getElem?_eq_none (by simp; omega)] at hg; cases hg
  · intro i j g g' hij hg hg'
    have hjl : j < gs.length + 1 := by
      have := (List.getElem?_eq_some_iff.1 hg').1
      simpa using this
    rw [List.getElem?_append_left (by omega)] at hg
    by_cases hj : j < gs.length
    · rw [List.getElem?_append_left hj] at hg'
      exact hap i j g g' hij hg hg'
    · rw [List.getElem?_append_right (by omega), show j - gs.length = 0 by omega] at hg'
      simp only [List.getElem?_cons_zero, Option.some.injEq] at hg'
      subst hg'
      have hil : i < L.length := by omega
      obtain ⟨h1, -⟩ := heach i g _ hg (List.getElem?_eq_getElem hil)
      cases hgo : g.ownBlock with
      | none => exact Or.inl rfl
      | some k =>
        right
        intro e
        have h2 := (h1.lt k hgo).2
        have h3 := (hv.lt k e.symm).1
        omega

set_option maxHeartbeats 4000000 in
theorem image_any (w : World) (h : DiskIs w d F X bv q m) :
    Calls Try.prog 31 #[.pointer (some ⟨d, 0, none⟩)] w fun e w' => ∃ v, e = .returned v ∧ ImgAt w' w.heap.size v X.B ∧ Chg (fun _ => False) w w' := by
  obtain ⟨i0, hI0⟩ := info_parts info_u8'
  obtain ⟨i1, hI1⟩ := info_parts info_bytes
  have HI0 := Lib.hid hI0
  have HI1 := Lib.hid hI1
  clear hI0 hI1
  obtain ⟨g, cap, rfl, hcap⟩ := h.sl
  have c0 : w.cell? ⟨d, 0, none⟩ = some (.slice (some ⟨g, 0, none⟩) X.B.length cap) := cell_of_block h.head rfl
  have H := Lib.hid h
  have hsz := h.size
  clear h
  go_enter Try.func31, Try.ntmps31
  go_wp2_with (first
    | (go_at_call 63; refine (none_no _ ⟨_, _, _, H.out⟩).mono ?_; rintro e w' ⟨rfl, rfl⟩))
  go_loopw [3, 13] (fun u j wr => ∃ k : Nat, j = .int .i64 k ∧ k ≤ X.B.length ∧ ImgAt wr w.heap.size u (X.B.take k) ∧ Chg (fun _ => False) w wr) (fun _ j _ => X.B.length - (intOf j).toNat)
  · exact ⟨0, rfl, Nat.zero_le _, by simpa using ImgAt.nil w _, Chg.refl _ _⟩
  obtain ⟨k, rfl, hk, hI, hc⟩ := hrel
  have HIm := Lib.hid hI
  have HC := Lib.hid hc
  clear hI hc
  by_cases hlt : k < X.B.length
  · obtain ⟨g', cap', e1, -, hr, -⟩ := rows_range (H.out.rows.kept HC.out (fun _ _ h => h)) hlt
    simp only [Value.slice.injEq, Option.some.injEq, Addr.mk.injEq] at e1
    obtain ⟨⟨rfl, -⟩, -⟩ := e1
    have hb64 : (X.B[k]).length = 64 := H.out.wide64 _ (List.getElem_mem _)
    obtain ⟨b, hb⟩ : ∃ b, b = X.B[k] := ⟨_, rfl⟩
    rw [← hb] at hb64 hr
    have HR := Lib.hid hr
    have HB := Lib.hid hb
    have hbs : (cellsB b).toArray.size = 64 := by rw [List.size_toArray, cellsB_length, hb64]
    have Hb := Lib.hid hb64
    have Hbs := Lib.hid hbs
    have hk' : (k : Int) < (X.B.length : Int) := by omega
    clear hr hb hb64 hbs
    go_wp2_with (first
      | (refine wpList_load_mid rfl 112 _ rfl g (k * 64) rfl (cellsB b) _ HR.out Try.underlying112 rfl (by rw [size_block, cellsB_length, Hb.out]) ?_)
      | (refine wpList_store_new rfl 112 _ _ rfl (cellsB b).toArray rfl rfl (size_block.trans (by rw [Hbs.out])) (by rw [Hbs.out] <;> rfl) (all_oneCell_toArray (one_cellsB _)) ?_)
      | (at_builtin; refine wpList_append_own_at _ rfl _ _ 68 rfl wr.heap.size 5 i0 (.int .u8 0) 1 1 Try.underlying68 HI0.out.1 HI0.out.2.1 HI0.out.2.2.1 HI0.out.2.2.2 rfl (by decide) _ _ _ rfl (own_empty _ _) ⟨wr.heap.size, 0, none⟩ 64 64 (cellsB b) rfl ?c1 ?c2 ?c3 ?c4 ?c5 ?c6 ?_))
    case c1 => rw [cellsB_length, Hb.out]
    case c2 => exact cells_there _ _ _ _
    case c3 => exact one_cellsB _
    case c4 => unfold maxLen; omega
    case c5 => omega
    case c6 => simp only [World.size_alloc]; omega
    intro v' w2 ho hg _ _
    have hc2 : Chg (fun _ => False) wr w2 := (((Chg.refl _ _).alloc _).alloc _).trans (Chg.of_grown hg) (fun i hi hk => by simp [Value.ownBlock] at hk; omega)
    obtain ⟨oa, cp, rfl⟩ := own_slice ho
    obtain ⟨v', hv'⟩ : ∃ v', v' = Value.slice oa 64 cp := ⟨_, rfl⟩
    have hv1 : v'.oneCell' = true := by rw [hv']; rfl
    have HV := Lib.hid hv'
    rw [← hv'] at ho
    obtain ⟨gs, hlen, hrow, heach, hap⟩ := HIm.out.ex
    have HO := Lib.hid ho
    have HC2 := Lib.hid hc2
    have HRow := Lib.hid hrow
    have HE := Lib.hid heach
    have HA := Lib.hid hap
    clear ho hg hc2 hrow heach hap hv'
    have hrw : (w2.alloc (.cells #[v'] 68)) = w2.alloc (.cells #[.slice oa 64 cp] 68) := by rw [HV.out]
    have hl1 : (X.B.take k).length = k := by rw [List.length_take]; omega
    have hlen' := hlen
    rw [hl1] at hlen
    have hc4 := HC2.out.alloc (.cells #[v'] 68)
    have hrow2 := row_kept HRow.out hc4 (fun _ _ h => h)
    rw [hl1] at hrow2
    rw [hrw] at hrow2
    have HR2 := Lib.hid hrow2
    clear hrow2 hc4 hrw
    go_wp2_with (first
      | (at_builtin; go_loud (refine wpList_append_own_at _ rfl _ _ 62 rfl w.heap.size 68 i1 (.slice none 0 0) 1 24 Try.underlying62 HI1.out.1 HI1.out.2.1 HI1.out.2.2.1 HI1.out.2.2.2 rfl (by decide) _ k gs rfl HR2.out ⟨w2.heap.size, 0, none⟩ 1 1 [.slice oa 64 cp] rfl ?d1 ?d2 ?d3 ?d4 ?d5 ?d6 ?_)))
    case d1 => rfl
    case d2 => exact cells_new w2 [.slice oa 64 cp] _
    case d3 => intro x hx; rw [List.mem_singleton.1 hx]; rfl
    case d4 => unfold maxLen; omega
    case d5 => omega
    case d6 => simp only [World.size_alloc]; have := HC.out.size; have := HC2.out.size; omega
    intro u' w3 ho3 hg3 _ _
    have HO3 := Lib.hid ho3
    have HG3 := Lib.hid hg3
    clear ho3 hg3
    go_wp2_with fail
    have hcu : Chg (fun i => some i = u3.ownBlock) w2 w3 := ((Chg.refl _ _).alloc _).trans' (Chg.of_grown HG3.out)
    have hst := img_step hlen' HRow.out HE.out HA.out HC2.out (by rw [Hb.out]; exact HO.out) HC.out.size hv1 (by rw [HV.out, hl1]; exact HO3.out) hcu
    refine ⟨⟨k + 1, by go_num, by omega, ?_, ?_⟩, by simp [intOf]; omega⟩
    · rw [List.take_add_one, List.getElem?_eq_getElem hlt, Option.toList_some, ← HB.out]
      exact hst
    · exact (HC.out.trans' HC2.out).new hcu (fun i e => (HRow.out.lt i e.symm).1)
  · have hk' : ¬ (k : Int) < (X.B.length : Int) := by omega
    go_wp2_with fail
    go_ret
    rw [show k = X.B.length by omega, List.take_length] at HIm
    exact ⟨_, rfl, HIm.out, HC.out⟩

end Go.Proofs.Ytomceindibnpnaa.disks

/-
  disk: Image, the walk.
-/
import Derived.Test.YtcfgcllphfooaaaPk0WalNobody
import Derived.Test.YtcfgcllphfooaaaPk1WalNobody
import Derived.Test.YtcfgcllphfooaaaPk2WalNobody
import Derived.Laws.IdiomStrings
import Derived.Lib.AppendZerosOnto
import Derived.Lib.AppendStr
import Derived.Lib.ConvBytes
import Derived.Maps.AppendAt
import Derived.Laws.BitsAll

section
namespace Go.Proofs.Ytcfgcllphfooaaa.disks
open Go.RowKit Go.Maps Go.My Go.ChangeMaps
set_option maxRecDepth 100000

variable {w w' : World} {d q : Nat} {F F' : Nat → Prop} {X X' : DV} {bv : Value} {m : List (Int × (Value × List Blk))}

theorem info_bytes : (Try.prog.info? 39).map (fun i => (i.zero, i.size, i.bytes)) = some (some (.slice none 0 0), 1, 24) := by kernel_rfl

/-- A slice of byte slices, all of them new since 'base', no two over one block. -/
structure ImgAt (w : World) (base : Nat) (v : Value) (L : List Blk) : Prop where
  ex : ∃ gs : List Value, gs.length = L.length ∧ w.ownsRow base 39 1 v L.length gs ∧ (∀ (i : Nat) g b, gs[i]? = some g → L[i]? = some b → w.ownsRow base 5 1 g b.length (cellsB b) ∧ g.oneCell' = true) ∧
    (∀ (i j : Nat) g g', i < j → gs[i]? = some g → gs[j]? = some g' → g.ownBlock = none ∨ g.ownBlock ≠ g'.ownBlock)

theorem types_ne' : (39 : Nat) ≠ 5 := by decide

theorem row_obj {w : World} {base : Nat} {e : TypeId} {n : Nat} {v : Value} {k : Nat} {l : List Value} (h : w.ownsRow base e n v k l) {g : Nat} (hg : v.ownBlock = some g) : ∃ cur, w.heap[g]? = some (.cells cur e (0, 0)) := by
  rcases h.2 with ⟨rfl, h0⟩ | ⟨g', cap, cur, rfl, _, hh, _⟩
  · simp [Value.ownBlock] at hg
  · simp only [Value.ownBlock, Option.some.injEq] at hg
    subst hg
    exact ⟨_, hh⟩

theorem row_kept {w w' : World} {base : Nat} {e : TypeId} {n : Nat} {v : Value} {k : Nat} {l : List Value} (h : w.ownsRow base e n v k l) {S : Nat → Prop} (hc : Chg S w w') (hs : ∀ g, v.ownBlock = some g → ¬ S g) : w'.ownsRow base e n v k l := by
  obtain ⟨h1, h2⟩ := h
  refine ⟨h1, ?_⟩
  rcases h2 with h2 | ⟨g, cap, cur, rfl, a1, a2, a3⟩
  · exact Or.inl h2
  · exact Or.inr ⟨g, cap, cur, rfl, a1, hc.at a2 (hs g rfl), a3⟩

theorem ImgAt.nil (w : World) (base : Nat) : ImgAt w base (.slice none 0 0) [] := ⟨[], rfl, World.ownsRow_nil _ _ _ _, by simp, by simp⟩

/-- One more: the byte slice v' (new since w), then the outer slice appended. -/
theorem img_step {w w2 w3 : World} {base : Nat} {gs : List Value} {L : List Blk} {u u' v' : Value} {b : Blk} (hlen : gs.length = L.length) (hrow : w.ownsRow base 39 1 u L.length gs)
    (heach : ∀ (i : Nat) g b, gs[i]? = some g → L[i]? = some b → w.ownsRow base 5 1 g b.length (cellsB b) ∧ g.oneCell' = true)
    (hap : ∀ (i j : Nat) g g', i < j → gs[i]? = some g → gs[j]? = some g' → g.ownBlock = none ∨ g.ownBlock ≠ g'.ownBlock)
    (hc2 : Chg (fun _ => False) w w2) (hv : w2.ownsRow w.heap.size 5 1 v' b.length (cellsB b)) (hb : base ≤ w.heap.size) (hone : v'.oneCell' = true)
    (hu : w3.ownsRow base 39 1 u' (L.length + 1) (gs ++ [v'])) (hc3 : Chg (fun k => some k = u.ownBlock) w2 w3) : ImgAt w3 base u' (L ++ [b]) := by
  have hne : ∀ {g : Value} {n : Nat} {l : List Value} {W : World} {b0 : Nat}, W.ownsRow b0 5 1 g n l → Chg (fun _ => False) W w2 → ∀ k, g.ownBlock = some k → ¬ some k = u.ownBlock := by
    intro g n l W b0 h hc k hk e
    obtain ⟨c1, h1⟩ := row_obj h hk
    obtain ⟨c2, h2⟩ := row_obj (row_kept hrow hc2 (fun _ _ h => h)) e.symm
    rw [hc.at h1 id] at h2
    simp only [Option.some.injEq, Obj.cells.injEq] at h2
    exact types_ne' h2.2.1.symm
  refine ⟨gs ++ [v'], by simp [hlen], by simpa using hu, ?_, ?_⟩
  · intro i g b' hg hb'
    rcases Nat.lt_trichotomy i gs.length with hi | hi | hi
    · rw [List.getElem?_append_left hi] at hg
      rw [List.getElem?_append_left (by omega)] at hb'
      have := heach i g b' hg hb'
      exact ⟨row_kept (row_kept this.1 hc2 (fun _ _ h => h)) hc3 (hne this.1 hc2), this.2⟩
    · subst hi
      rw [List.getElem?_append_right (Nat.le_refl _), Nat.sub_self] at hg
      rw [hlen, List.getElem?_append_right (Nat.le_refl _), Nat.sub_self] at hb'
      simp only [List.getElem?_cons_zero, Option.some.injEq] at hg hb'
      subst hg; subst hb'
      have := row_kept hv hc3 (hne hv (Chg.refl _ _))
      refine ⟨⟨this.1, ?_⟩, hone⟩
      rcases this.2 with h | ⟨g, cap, cur, h1, h2, h3⟩
      · exact Or.inl h
      · exact Or.inr ⟨g, cap, cur, h1, Nat.le_trans hb h2, h3⟩
    · rw [List.getElem?_eq_none (by simp; omega)] at hg; cases hg
  · intro i j g g' hij hg hg'
    have hjl : j < gs.length + 1 := by
      have := (List.getElem?_eq_some_iff.1 hg').1
      simpa using this
    rw [List.getElem?_append_left (by omega)] at hg
    by_cases hj : j < gs.length
    · rw [List.getElem?_append_left hj] at hg'
      exact hap i j g g' hij hg hg'
    · rw [List.getElem?_append_right (by omega), show j - gs.length = 0 by omega] at hg'
      simp only [List.getElem?_cons_zero, Option.some.injEq] at hg'
      subst hg'
      have hil : i < L.length := by omega
      obtain ⟨h1, -⟩ := heach i g _ hg (List.getElem?_eq_getElem hil)
      cases hgo : g.ownBlock with
      | none => exact Or.inl rfl
      | some k =>
        right
        intro e
        have h2 := (h1.lt k hgo).2
        have h3 := (hv.lt k e.symm).1
        omega

set_option maxHeartbeats 4000000 in
theorem image_any (w : World) (h : DiskIs w d F X bv q m) :
    Calls Try.prog 40 #[.pointer (some ⟨d, 0, none⟩)] w fun e w' => ∃ v, e = .returned v ∧ ImgAt w' w.heap.size v X.B ∧ Chg (fun _ => False) w w' := by
  obtain ⟨i0, hI0⟩ := info_parts info_u8'
  obtain ⟨i1, hI1⟩ := info_parts info_bytes
  have HI0 := Lib.hid hI0
  have HI1 := Lib.hid hI1
  clear hI0 hI1
  obtain ⟨g, cap, rfl, hcap⟩ := h.sl
  have c0 : w.cell? ⟨d, 0, none⟩ = some (.slice (some ⟨g, 0, none⟩) X.B.length cap) := cell_of_block h.head rfl
  have H := Lib.hid h
  have hsz := h.size
  clear h
  go_enter Try.func40, Try.ntmps40
  go_wp2_with (first
    | (go_at_call 38; refine (none_no _ ⟨_, _, _, H.out⟩).mono ?_; rintro e w' ⟨rfl, rfl⟩))
  go_loopw [3, 13] (fun u j wr => ∃ k : Nat, j = .int .i64 k ∧ k ≤ X.B.length ∧ ImgAt wr w.heap.size u (X.B.take k) ∧ Chg (fun _ => False) w wr) (fun _ j _ => X.B.length - (intOf j).toNat)
  · exact ⟨0, rfl, Nat.zero_le _, by simpa using ImgAt.nil w _, Chg.refl _ _⟩
  obtain ⟨k, rfl, hk, hI, hc⟩ := hrel
  have HIm := Lib.hid hI
  have HC := Lib.hid hc
  clear hI hc
  by_cases hlt : k < X.B.length
  · obtain ⟨g', cap', e1, -, hr, -⟩ := rows_range (H.out.rows.kept HC.out (fun _ _ h => h)) hlt
    simp only [Value.slice.injEq, Option.some.injEq, Addr.mk.injEq] at e1
    obtain ⟨⟨rfl, -⟩, -⟩ := e1
    have hb64 : (X.B[k]).length = 64 := H.out.wide64 _ (List.getElem_mem _)
    obtain ⟨b, hb⟩ : ∃ b, b = X.B[k] := ⟨_, rfl⟩
    rw [← hb] at hb64 hr
    have HR := Lib.hid hr
    have HB := Lib.hid hb
    have hbs : (cellsB b).toArray.size = 64 := by rw [List.size_toArray, cellsB_length, hb64]
    have Hb := Lib.hid hb64
    have Hbs := Lib.hid hbs
    have hk' : (k : Int) < (X.B.length : Int) := by omega
    clear hr hb hb64 hbs
    go_wp2_with (first
      | (refine wpList_load_mid rfl 85 _ rfl g (k * 64) rfl (cellsB b) _ HR.out Try.underlying85 rfl (by rw [size_block, cellsB_length, Hb.out]) ?_)
      | (refine wpList_store_new rfl 85 _ _ rfl (cellsB b).toArray rfl rfl (size_block.trans (by rw [Hbs.out])) (by rw [Hbs.out] <;> rfl) (all_oneCell_toArray (one_cellsB _)) ?_)
      | (at_builtin; refine wpList_append_own_at _ rfl _ _ 39 rfl wr.heap.size 5 i0 (.int .u8 0) 1 1 Try.underlying39 HI0.out.1 HI0.out.2.1 HI0.out.2.2.1 HI0.out.2.2.2 rfl (by decide) _ _ _ rfl (own_empty _ _) ⟨wr.heap.size, 0, none⟩ 64 64 (cellsB b) rfl ?c1 ?c2 ?c3 ?c4 ?c5 ?c6 ?_))
    case c1 => rw [cellsB_length, Hb.out]
    case c2 => exact cells_there _ _ _ _
    case c3 => exact one_cellsB _
    case c4 => unfold maxLen; omega
    case c5 => omega
    case c6 => simp only [World.size_alloc]; omega
    intro v' w2 ho hg _ _
    have hc2 : Chg (fun _ => False) wr w2 := (((Chg.refl _ _).alloc _).alloc _).trans (Chg.of_grown hg) (fun i hi hk => by simp [Value.ownBlock] at hk; omega)
    obtain ⟨oa, cp, rfl⟩ := own_slice ho
    obtain ⟨v', hv'⟩ : ∃ v', v' = Value.slice oa 64 cp := ⟨_, rfl⟩
    have hv1 : v'.oneCell' = true := by rw [hv']; rfl
    have HV := Lib.hid hv'
    rw [← hv'] at ho
    obtain ⟨gs, hlen, hrow, heach, hap⟩ := HIm.out.ex
    have HO := Lib.hid ho
    have HC2 := Lib.hid hc2
    have HRow := Lib.hid hrow
    have HE := Lib.hid heach
    have HA := Lib.hid hap
    clear ho hg hc2 hrow heach hap hv'
    have hrw : (w2.alloc (.cells #[v'] 39)) = w2.alloc (.cells #[.slice oa 64 cp] 39) := by rw [HV.out]
    have hl1 : (X.B.take k).length = k := by rw [List.length_take]; omega
    have hlen' := hlen
    rw [hl1] at hlen
    have hc4 := HC2.out.alloc (.cells #[v'] 39)
    have hrow2 := row_kept HRow.out hc4 (fun _ _ h => h)
    rw [hl1] at hrow2
    rw [hrw] at hrow2
    have HR2 := Lib.hid hrow2
    clear hrow2 hc4 hrw
    go_wp2_with (first
      | (at_builtin; go_loud (refine wpList_append_own_at _ rfl _ _ 52 rfl w.heap.size 39 i1 (.slice none 0 0) 1 24 Try.underlying52 HI1.out.1 HI1.out.2.1 HI1.out.2.2.1 HI1.out.2.2.2 rfl (by decide) _ k gs rfl HR2.out ⟨w2.heap.size, 0, none⟩ 1 1 [.slice oa 64 cp] rfl ?d1 ?d2 ?d3 ?d4 ?d5 ?d6 ?_)))
    case d1 => rfl
    case d2 => exact cells_new w2 [.slice oa 64 cp] _
    case d3 => intro x hx; rw [List.mem_singleton.1 hx]; rfl
    case d4 => unfold maxLen; omega
    case d5 => omega
    case d6 => simp only [World.size_alloc]; have := HC.out.size; have := HC2.out.size; omega
    intro u' w3 ho3 hg3 _ _
    have HO3 := Lib.hid ho3
    have HG3 := Lib.hid hg3
    clear ho3 hg3
    go_wp2_with fail
    have hcu : Chg (fun i => some i = u3.ownBlock) w2 w3 := ((Chg.refl _ _).alloc _).trans' (Chg.of_grown HG3.out)
    have hst := img_step hlen' HRow.out HE.out HA.out HC2.out (by rw [Hb.out]; exact HO.out) HC.out.size hv1 (by rw [HV.out, hl1]; exact HO3.out) hcu
    refine ⟨⟨k + 1, by go_num, by omega, ?_, ?_⟩, by simp [intOf]; omega⟩
    · rw [List.take_add_one, List.getElem?_eq_getElem hlt, Option.toList_some, ← HB.out]
      exact hst
    · exact (HC.out.trans' HC2.out).new hcu (fun i e => (HRow.out.lt i e.symm).1)
  · have hk' : ¬ (k : Int) < (X.B.length : Int) := by omega
    go_wp2_with fail
    go_ret
    rw [show k = X.B.length by omega, List.take_length] at HIm
    exact ⟨_, rfl, HIm.out, HC.out⟩

end Go.Proofs.Ytcfgcllphfooaaa.disks
end

/-
  disk: the contracts over DiskAt; two disks apart, images read.
-/
section
namespace Go.Proofs.Ytcfgcllphfooaaa.disks
open Go.RowKit Go.Maps Go.My Go.ChangeMaps
set_option maxRecDepth 100000

variable {W w w' : World} {d q : Nat} {F F' : Nat → Prop} {X X' Y : DV} {bv : Value} {m : List (Int × (Value × List Blk))}

/-- 'string(b)' of an own byte slice. -/
theorem conv_own {base n : Nat} {v : Value} {b : Blk} (h : w.ownsRow base 5 1 v n (cellsB b)) : (convert 39 9 v).run Try.prog w = .ok (.string ⟨b.toArray⟩) w := by
  have hn : n = b.length := by have := h.1; rw [cellsB_length] at this; omega
  subst hn
  rcases h.2 with ⟨rfl, h0⟩ | ⟨g, cap, cur, rfl, _, hg, hc, _, hcs, ht⟩
  · have : b = [] := List.eq_nil_of_length_eq_zero h0
    subst this
    rw [run_convert_bytes_string w 39 9 5 none 0 0 Try.underlying39 Try.underlying5 Try.underlying9]
    rfl
  · refine run_convert_bytes_back w 39 9 5 ⟨g, 0, none⟩ cap b Try.underlying39 Try.underlying5 Try.underlying9 (fun j hj => ?_)
    have e : (⟨g, 0, none⟩ : Addr).add j = ⟨g, j, none⟩ := by unfold Addr.add; split <;> simp_all
    rw [e]
    have h1 : cur.toList[j]? = some (.int .u8 (b[j].toNat : Int)) := by
      have h2 : (cur.toList.take (b.length * 1))[j]? = (cellsB b)[j]? := by rw [ht]
      rw [List.getElem?_take_of_lt (by omega)] at h2
      rw [h2]
      simp [cellsB, hj]
    exact cell_of_block hg (by rw [← Array.getElem?_toList]; exact h1)

theorem ImgAt.sl {base : Nat} {v : Value} {L : List Blk} (h : ImgAt w base v L) : ∃ oa cap, v = .slice oa L.length cap := by
  obtain ⟨gs, _, hr, _⟩ := h.ex
  exact own_slice hr

theorem ImgAt.kept {base : Nat} {v : Value} {L : List Blk} (h : ImgAt w base v L) {S : Nat → Prop} (hc : Chg S w w') (hs : ∀ k, base ≤ k → ¬ S k) : ImgAt w' base v L := by
  obtain ⟨gs, h1, h2, h3, h4⟩ := h.ex
  exact ⟨gs, h1, row_kept h2 hc (fun g hg => hs g (h2.lt g hg).1), fun i g b hg hb => ⟨row_kept (h3 i g b hg hb).1 hc (fun k hk => hs k ((h3 i g b hg hb).1.lt k hk).1), (h3 i g b hg hb).2⟩, h4⟩

/-- An image's i-th block: its slice's value, its string. -/
theorem ImgAt.get {base : Nat} {v : Value} {L : List Blk} (h : ImgAt w base v L) {i : Nat} (hi : i < L.length) :
    ∃ go cap g, v = .slice (some ⟨go, 0, none⟩) L.length cap ∧ w.cell? ⟨go, i, none⟩ = some g ∧ (convert 39 9 g).run Try.prog w = .ok (.string ⟨(L[i]).toArray⟩) w := by
  obtain ⟨gs, h1, h2, h3, h4⟩ := h.ex
  have hig : i < gs.length := by omega
  rcases h2.2 with ⟨rfl, h0⟩ | ⟨go, cap, cur, rfl, _, hg, hc, _, hcs, ht⟩
  · omega
  · refine ⟨go, cap, gs[i], rfl, ?_, conv_own (h3 i _ _ (List.getElem?_eq_getElem hig) (List.getElem?_eq_getElem hi)).1⟩
    have h5 : cur.toList[i]? = some gs[i] := by
      have h6 : (cur.toList.take (L.length * 1))[i]? = gs[i]? := by rw [ht]
      rw [List.getElem?_take_of_lt (by omega)] at h6
      rw [h6]; exact List.getElem?_eq_getElem hig
    exact cell_of_block hg (by rw [← Array.getElem?_toList]; exact h5)

theorem flush_at (w : World) (h : DiskAt w d F X) (hf : X.fuse ≤ 9223372036854775807) :
    Calls Try.prog 55 #[.pointer (some ⟨d, 0, none⟩)] w fun e w' => e = .returned (.int .i64 (flushC X)) ∧ DiskAt w' d F X.flush ∧ Chg F w w' := by
  obtain ⟨bv, q, m, h⟩ := h
  exact flush_any w h hf

theorem DiskAt.lt (h : DiskAt w d F X) : ∀ k, F k → k < w.heap.size := by obtain ⟨_, _, _, h⟩ := h; exact h.lt

theorem write_at (w : World) (h : DiskAt w d F X) (i : Int) (hi : inR i) (hf : X.fuse ≤ 9223372036854775807) {base n : Nat} {v : Value} {b : Blk} (hb : w.ownsRow base 5 1 v n (cellsB b)) (hbf : ∀ g, v.ownBlock = some g → ¬ F g) (hL : ∀ j, (X.L j).length < 1000000) :
    Calls Try.prog 54 #[.pointer (some ⟨d, 0, none⟩), .int .i64 i, v] w fun e w' => e = .returned (.int .i64 (writeC X i b.length)) ∧ DiskAt w' d (grow F w w') (X.write i b) ∧ Chg F w w' := by
  obtain ⟨bv, q, m, h⟩ := h
  obtain ⟨oa, cap, rfl⟩ := own_slice hb
  exact write_any w h i hi hf oa n cap b (SlAt.of_own hb) (fun a ha => by subst ha; exact hbf _ rfl) hL

theorem image_at (w : World) (h : DiskAt w d F X) :
    Calls Try.prog 40 #[.pointer (some ⟨d, 0, none⟩)] w fun e w' => ∃ v, e = .returned v ∧ ImgAt w' w.heap.size v X.B ∧ Chg (fun _ => False) w w' := by
  obtain ⟨bv, q, m, h⟩ := h
  exact image_any w h

theorem fuse_at (w : World) (h : DiskAt w d F X) (n : Int) : Calls Try.prog 29 #[.pointer (some ⟨d, 0, none⟩), .int .i64 n] w fun e w' => e = .returned (.int .i64 (fuseC X n)) ∧ DiskAt w' d F (X.set n) ∧ Chg F w w' := by
  obtain ⟨bv, q, m, h⟩ := h
  refine (fuse_any w h n).mono ?_
  rintro e w' ⟨h1, h2, h3⟩
  exact ⟨h1, ⟨_, _, _, h2⟩, h3.mono (fun k _ e => by rw [e]; exact h.fd)⟩

theorem slat_old {v : Value} {xs : List Value} (h : SlAt w v xs) (hne : xs ≠ []) {g : Nat} (hg : v.ownBlock = some g) : g < w.heap.size := by
  obtain ⟨oa, cap, rfl, h2, h3⟩ := h
  obtain ⟨b, off, rfl⟩ := h2 hne
  simp only [Value.ownBlock, Option.some.injEq] at hg
  subst hg
  cases xs with
  | nil => exact absurd rfl hne
  | cons x xs => exact World.block_lt_of_cell? _ _ (h3 b off rfl 0 x rfl)

/-- Two disks apart, both of them the law's own. -/
structure Two (W w : World) (Fx : Nat → Prop) (dx : Nat) (X : DV) (Fy : Nat → Prop) (dy : Nat) (Y : DV) : Prop where
  x : DiskAt w dx Fx X
  y : DiskAt w dy Fy Y
  ox : ∀ k, Fx k → W.heap.size ≤ k
  oy : ∀ k, Fy k → W.heap.size ≤ k
  ap : ∀ k, Fx k → ¬ Fy k
  chg : Chg (fun _ => False) W w

variable {Fx Fy : Nat → Prop} {dx dy : Nat}

theorem Two.fresh (h : Two W w Fx dx X Fy dy Y) (hc : Chg (fun _ => False) w w') : Two W w' Fx dx X Fy dy Y :=
  ⟨h.x.fresh hc, h.y.fresh hc, h.ox, h.oy, h.ap, h.chg.trans' hc⟩

theorem Two.swap (h : Two W w Fx dx X Fy dy Y) : Two W w Fy dy Y Fx dx X := ⟨h.y, h.x, h.oy, h.ox, fun k h1 h2 => h.ap k h2 h1, h.chg⟩

theorem Two.setX (h : Two W w Fx dx X Fy dy Y) {X' : DV} (hx : DiskAt w' dx Fx X') (hc : Chg Fx w w') : Two W w' Fx dx X' Fy dy Y :=
  ⟨hx, h.y.kept hc (fun k hk hx => h.ap k hx hk), h.ox, h.oy, h.ap, h.chg.new hc h.ox⟩

theorem Two.growX (h : Two W w Fx dx X Fy dy Y) {X' : DV} (hx : DiskAt w' dx (grow Fx w w') X') (hc : Chg Fx w w') : Two W w' (grow Fx w w') dx X' Fy dy Y :=
  ⟨hx, h.y.kept hc (fun k hk hx => h.ap k hx hk), fun k hk => by rcases hk with hk | hk; exact h.ox k hk; exact Nat.le_trans h.chg.size hk.1, h.oy,
    fun k hk hy => by rcases hk with hk | hk; exact h.ap k hk hy; exact Nat.not_lt.2 hk.1 (h.y.lt k hy), h.chg.new hc h.ox⟩

end Go.Proofs.Ytcfgcllphfooaaa.disks
end

/-
  wal: the plain model: heads, frames, what a log writes, as functions on a disk's plain state.
-/
section
namespace Go.Proofs.Ytcfgcllphfooaaa.wals
open Go.My disks

/-! ### the sum -/
def crcStep (c : Nat) : Nat := (c / 2) ^^^ (if c % 2 = 1 then 3988292384 else 0)
def crcN : Nat → Nat → Nat
  | 0, c => c
  | k + 1, c => crcStep (crcN k c)
def crcByte (c : Nat) (x : UInt8) : Nat := crcN 8 (c ^^^ x.toNat)
def crcReg (l : List UInt8) : Nat := l.foldl crcByte 4294967295
def crcF (l : List UInt8) : Nat := 4294967295 ^^^ crcReg l

theorem crcStep_lt {c : Nat} (h : c < 4294967296) : crcStep c < 4294967296 := by
  unfold crcStep
  apply Nat.xor_lt_two_pow (n := 32)
  · omega
  · split <;> omega
theorem crcN_lt {c : Nat} (h : c < 4294967296) : ∀ k, crcN k c < 4294967296
  | 0 => h
  | k + 1 => crcStep_lt (crcN_lt h k)
theorem crcByte_lt {c : Nat} (h : c < 4294967296) (x : UInt8) : crcByte c x < 4294967296 := by
  refine crcN_lt ?_ 8
  apply Nat.xor_lt_two_pow (n := 32)
  · exact h
  · have := x.toNat_lt; omega
theorem crcReg_lt (l : List UInt8) : crcReg l < 4294967296 := by
  unfold crcReg
  have : ∀ (l : List UInt8) (c : Nat), c < 4294967296 → l.foldl crcByte c < 4294967296 := by
    intro l
    induction l with
    | nil => intro c h; exact h
    | cons x l ih => intro c h; exact ih _ (crcByte_lt h x)
  exact this l _ (by omega)
theorem crcReg_snoc (l : List UInt8) (x : UInt8) : crcReg (l ++ [x]) = crcByte (crcReg l) x := by simp [crcReg]
theorem crcF_lt (l : List UInt8) : crcF l < 4294967296 := Nat.xor_lt_two_pow (n := 32) (by omega) (crcReg_lt l)

/-! ### heads -/
def zeros (n : Nat) : Blk := List.replicate n 0
def headPre (s a u : Nat) : Blk := [86, 72, UInt8.ofNat a, 0] ++ be 8 s ++ be 4 u ++ zeros 44
def headB (s a u : Nat) : Blk := headPre s a u ++ le4 (crcF (headPre s a u))

theorem headPre_length (s a u : Nat) : (headPre s a u).length = 60 := by simp [headPre, be_length, zeros]
theorem headB_length (s a u : Nat) : (headB s a u).length = 64 := by simp [headB, headPre_length, le4_length]

/-- The head that a block has. -/
def readH (b : Blk) (pl most : Nat) : Option (Nat × Nat × Nat) :=
  if ofBe ((b.drop 4).take 8) < 1 ∨ 1152921504606846976 < ofBe ((b.drop 4).take 8) ∨ ofBe ((b.drop 4).take 8) % 2 ≠ pl ∨ 1 < (b[2]?.getD 0).toNat ∨ most < ofBe ((b.drop 12).take 4) then none
  else if headB (ofBe ((b.drop 4).take 8)) (b[2]?.getD 0).toNat (ofBe ((b.drop 12).take 4)) = b then some (ofBe ((b.drop 4).take 8), (b[2]?.getD 0).toNat, ofBe ((b.drop 12).take 4)) else none

theorem head_seq (s a u : Nat) (h : s < 18446744073709551616) : ofBe (((headB s a u).drop 4).take 8) = s := by
  have : ((headB s a u).drop 4).take 8 = be 8 s := by
    unfold headB headPre
    simp only [List.append_assoc]
    rw [List.drop_append_of_le_length (by simp), List.drop_eq_nil_of_le (by simp), List.nil_append, List.take_append_of_le_length (by simp [be_length]), List.take_of_length_le (by simp [be_length])]
  rw [this, ofBe_be]
  exact Nat.mod_eq_of_lt (by simpa using h)
theorem head_used (s a u : Nat) (h : u < 4294967296) : ofBe (((headB s a u).drop 12).take 4) = u := by
  have : ((headB s a u).drop 12).take 4 = be 4 u := by
    unfold headB headPre
    rw [show [86, 72, UInt8.ofNat a, 0] ++ be 8 s ++ be 4 u ++ zeros 44 ++ le4 (crcF ([86, 72, UInt8.ofNat a, 0] ++ be 8 s ++ be 4 u ++ zeros 44)) = ([86, 72, UInt8.ofNat a, 0] ++ be 8 s) ++ (be 4 u ++ (zeros 44 ++ le4 (crcF ([86, 72, UInt8.ofNat a, 0] ++ be 8 s ++ be 4 u ++ zeros 44)))) by simp only [List.append_assoc]]
    rw [List.drop_append_of_le_length (by simp [be_length]), List.drop_eq_nil_of_le (by simp [be_length]), List.nil_append, List.take_append_of_le_length (by simp [be_length]), List.take_of_length_le (by simp [be_length])]
  rw [this, ofBe_be]
  exact Nat.mod_eq_of_lt (by simpa using h)
theorem head_area (s a u : Nat) (h : a < 256) : ((headB s a u)[2]?.getD 0).toNat = a := by
  have : (headB s a u)[2]? = some (UInt8.ofNat a) := by simp [headB, headPre]
  rw [this]
  simp only [Option.getD_some, UInt8.toNat_ofNat']
  omega
theorem readH_head {s a u pl most : Nat} (h1 : 1 ≤ s) (h2 : s ≤ 1152921504606846976) (h3 : s % 2 = pl) (h4 : a ≤ 1) (h5 : u ≤ most) (h6 : most < 4294967296) : readH (headB s a u) pl most = some (s, a, u) := by
  unfold readH
  rw [head_seq s a u (by omega), head_used s a u (by omega), head_area s a u (by omega), if_neg (by omega), if_pos rfl]
theorem readH_zeros (pl most : Nat) : readH (zeros 64) pl most = none := by
  unfold readH
  rw [if_pos (Or.inl (by decide))]

/-! ### frames -/
def frameB (r : Blk) : Blk := le4 r.length ++ r ++ le4 (crcF (le4 r.length ++ r))
def framesB (l : List Blk) : Blk := (l.map frameB).flatten
theorem frameB_length (r : Blk) : (frameB r).length = r.length + 8 := by simp [frameB, le4_length]; omega
theorem framesB_nil : framesB [] = [] := rfl
theorem framesB_cons (r : Blk) (l : List Blk) : framesB (r :: l) = frameB r ++ framesB l := by simp [framesB]
theorem framesB_append (l m : List Blk) : framesB (l ++ m) = framesB l ++ framesB m := by simp [framesB]
def sizeB (l : List Blk) : Nat := (l.map (fun r => r.length + 8)).sum
theorem framesB_length (l : List Blk) : (framesB l).length = sizeB l := by
  induction l with
  | nil => rfl
  | cons r l ih => rw [framesB_cons, List.length_append, ih, frameB_length]; simp [sizeB]

/-- What Read says: the body, how many bytes, the error. -/
def readF (b : Blk) : Blk × Nat × Nat :=
  if b.length < 4 then ([], 0, 4)
  else if 4096 < ofLe (b.take 4) then ([], 0, 3)
  else if b.length < 8 + ofLe (b.take 4) then ([], 0, 4)
  else if ofLe ((b.drop (4 + ofLe (b.take 4))).take 4) ≠ crcF (b.take (4 + ofLe (b.take 4))) then ([], 0, 6)
  else ((b.drop 4).take (ofLe (b.take 4)), ofLe (b.take 4) + 8, 0)

/-- What All says: the bodies, how many bytes they have, the error. -/
def allN : Nat → Blk → List Blk × Nat × Nat
  | 0, _ => ([], 0, 0)
  | k + 1, b => if b = [] then ([], 0, 0) else if (readF b).2.2 ≠ 0 then ([], 0, (readF b).2.2)
    else ((readF b).1 :: (allN k (b.drop (readF b).2.1)).1, (readF b).2.1 + (allN k (b.drop (readF b).2.1)).2.1, (allN k (b.drop (readF b).2.1)).2.2)
def allF (b : Blk) : List Blk × Nat × Nat := allN b.length b

theorem readF_frame (r rest : Blk) (h : r.length ≤ 4096) : readF (frameB r ++ rest) = (r, r.length + 8, 0) := by
  have e4 : (frameB r ++ rest).take 4 = le4 r.length := by
    unfold frameB
    simp only [List.append_assoc]
    rw [List.take_append_of_le_length (by simp [le4_length]), List.take_of_length_le (by simp [le4_length])]
  have eo : ofLe (le4 r.length) = r.length := ofLe_le4 _ (by omega)
  have e1 : (frameB r ++ rest).drop 4 = r ++ (le4 (crcF (le4 r.length ++ r)) ++ rest) := by
    unfold frameB
    simp only [List.append_assoc]
    rw [List.drop_append_of_le_length (by simp [le4_length]), List.drop_eq_nil_of_le (by simp [le4_length]), List.nil_append]
  have e2 : (frameB r ++ rest).take (4 + r.length) = le4 r.length ++ r := by
    unfold frameB
    rw [List.append_assoc, List.take_append_of_le_length (by simp [le4_length]), List.take_of_length_le (by simp [le4_length])]
  have e3 : ((frameB r ++ rest).drop (4 + r.length)).take 4 = le4 (crcF (le4 r.length ++ r)) := by
    unfold frameB
    rw [List.append_assoc, List.drop_append_of_le_length (by simp [le4_length]), List.drop_eq_nil_of_le (by simp [le4_length]), List.nil_append, List.take_append_of_le_length (by simp [le4_length]), List.take_of_length_le (by simp [le4_length])]
  unfold readF
  rw [e4, eo, e3, e2, ofLe_le4 _ (crcF_lt _), e1]
  have hl := frameB_length r
  rw [if_neg (by simp only [List.length_append]; omega), if_neg (by omega), if_neg (by simp only [List.length_append]; omega), if_neg (by simp)]
  rw [List.take_append_of_le_length (Nat.le_refl _), List.take_of_length_le (Nat.le_refl _)]

theorem allN_frames (l : List Blk) (h : ∀ r ∈ l, r.length ≤ 4096) : ∀ k, l.length ≤ k → allN k (framesB l) = (l, (framesB l).length, 0) := by
  induction l with
  | nil => intro k _; cases k <;> simp [allN, framesB_nil]
  | cons r l ih =>
    intro k hk
    cases k with
    | zero => simp at hk
    | succ k =>
      have hne : framesB (r :: l) ≠ [] := by
        intro e
        have := congrArg List.length e
        rw [framesB_cons, List.length_append, frameB_length] at this
        simp at this
      rw [allN, if_neg hne, framesB_cons, readF_frame r _ (h r (by simp)), if_neg (by simp)]
      have hd : (frameB r ++ framesB l).drop (r.length + 8) = framesB l := by
        rw [← frameB_length r, List.drop_left]
      dsimp only
      rw [hd, ih (fun x hx => h x (by simp [hx])) k (by simpa using hk)]
      simp [frameB_length]
theorem sizeB_ge (l : List Blk) : l.length * 8 ≤ sizeB l := by
  induction l with
  | nil => simp [sizeB]
  | cons r l ih => simp only [sizeB, List.map_cons, List.sum_cons, List.length_cons] at *; omega
theorem allF_frames (l : List Blk) (h : ∀ r ∈ l, r.length ≤ 4096) : allF (framesB l) = (l, (framesB l).length, 0) := by
  refine allN_frames l h _ ?_
  have := sizeB_ge l
  rw [framesB_length]
  omega

/-! ### what is written -/
def chunkAt (b : Blk) (k : Nat) : Blk := (b.drop (64 * k)).take 64 ++ zeros (64 - (b.drop (64 * k)).length)
def chunks (b : Blk) : List Blk := (List.range ((b.length + 63) / 64)).map (chunkAt b)
theorem chunkAt_length (b : Blk) (k : Nat) : (chunkAt b k).length = 64 := by simp [chunkAt, zeros]; omega
theorem chunks_length (b : Blk) : (chunks b).length = (b.length + 63) / 64 := by simp [chunks]
theorem chunks_get (b : Blk) {k : Nat} (h : k < (b.length + 63) / 64) : (chunks b)[k]? = some (chunkAt b k) := by simp [chunks, h]
theorem chunkAt_get (b : Blk) (k r : Nat) (hr : r < 64) (h : 64 * k + r < b.length) : (chunkAt b k)[r]? = b[64 * k + r]? := by
  unfold chunkAt
  rw [List.getElem?_append_left (by rw [List.length_take, List.length_drop]; omega), List.getElem?_take_of_lt hr, List.getElem?_drop]

def wrBlocks (X : DV) (pl : Nat) : List Blk → Int × DV
  | [] => (0, X)
  | b :: bs => if writeC X pl b.length ≠ 0 then (writeC X pl b.length, X.write pl b) else wrBlocks (X.write pl b) (pl + 1) bs

def putH (X : DV) (s a u : Nat) : Int × DV :=
  if writeC X ((s % 2 : Nat) : Int) 64 ≠ 0 then (writeC X ((s % 2 : Nat) : Int) 64, X.write ((s % 2 : Nat) : Int) (headB s a u))
  else if flushC (X.write ((s % 2 : Nat) : Int) (headB s a u)) ≠ 0 then (flushC (X.write ((s % 2 : Nat) : Int) (headB s a u)), (X.write ((s % 2 : Nat) : Int) (headB s a u)).flush)
  else (0, (X.write ((s % 2 : Nat) : Int) (headB s a u)).flush)

def layF (X : DV) (pl : Nat) (b : Blk) (s a u : Nat) : Int × DV :=
  if (wrBlocks X pl (chunks b)).1 ≠ 0 then wrBlocks X pl (chunks b)
  else if flushC (wrBlocks X pl (chunks b)).2 ≠ 0 then (flushC (wrBlocks X pl (chunks b)).2, (wrBlocks X pl (chunks b)).2.flush)
  else putH (wrBlocks X pl (chunks b)).2.flush s a u

/-! ### the log -/
structure LV where
  seq : Nat
  area : Nat
  used : Nat
  recs : List Blk
  tail : Blk
  wait : List Blk
  more : Nat
  lost : Bool

def areaN (n : Nat) : Nat := (n - 2) / 2
def firstN (n a : Nat) : Nat := 2 + a * areaN n
def roomF (n : Nat) (V : LV) : Int := 64 * (areaN n : Int) - V.used - V.more

def addF (n : Nat) (V : LV) (r : Blk) : Nat × LV :=
  if V.lost then (15, V) else if 4096 < r.length then (3, V) else if roomF n V < (r.length : Int) + 8 then (7, V)
  else (0, { V with wait := V.wait ++ [r], more := V.more + (r.length + 8) })

def syncF (X : DV) (V : LV) : Int × DV × LV :=
  if V.lost then (15, X, V) else if V.wait = [] then (0, X, V)
  else if (layF X (firstN X.B.length V.area + V.used / 64) (V.tail ++ framesB V.wait) (V.seq + 1) V.area (V.used + (framesB V.wait).length)).1 ≠ 0 then
    ((layF X (firstN X.B.length V.area + V.used / 64) (V.tail ++ framesB V.wait) (V.seq + 1) V.area (V.used + (framesB V.wait).length)).1, (layF X (firstN X.B.length V.area + V.used / 64) (V.tail ++ framesB V.wait) (V.seq + 1) V.area (V.used + (framesB V.wait).length)).2, { V with lost := true })
  else (0, (layF X (firstN X.B.length V.area + V.used / 64) (V.tail ++ framesB V.wait) (V.seq + 1) V.area (V.used + (framesB V.wait).length)).2,
    ⟨V.seq + 1, V.area, V.used + (framesB V.wait).length, V.recs ++ V.wait, (V.tail ++ framesB V.wait).drop ((V.tail ++ framesB V.wait).length / 64 * 64), [], 0, false⟩)

def resetF (X : DV) (V : LV) (recs : List Blk) : Int × DV × LV :=
  if V.lost then (15, X, V) else if V.wait ≠ [] then (11, X, V) else if ∃ r ∈ recs, 4096 < r.length then (3, X, V)
  else if 64 * areaN X.B.length < sizeB recs then (7, X, V)
  else if (layF X (firstN X.B.length (1 - V.area)) (framesB recs) (V.seq + 1) (1 - V.area) (framesB recs).length).1 ≠ 0 then
    ((layF X (firstN X.B.length (1 - V.area)) (framesB recs) (V.seq + 1) (1 - V.area) (framesB recs).length).1, (layF X (firstN X.B.length (1 - V.area)) (framesB recs) (V.seq + 1) (1 - V.area) (framesB recs).length).2, { V with lost := true })
  else (0, (layF X (firstN X.B.length (1 - V.area)) (framesB recs) (V.seq + 1) (1 - V.area) (framesB recs).length).2,
    ⟨V.seq + 1, 1 - V.area, (framesB recs).length, recs, (framesB recs).drop ((framesB recs).length / 64 * 64), [], V.more, false⟩)

/-- The bytes of an area, of the current blocks. -/
def bytesOf (X : DV) (f : Nat) : Nat → Blk
  | 0 => []
  | k + 1 => bytesOf X f k ++ X.cur (f + k)
def pick (h g : Option (Nat × Nat × Nat)) : Option (Nat × Nat × Nat) :=
  match h, g with
  | none, g => g
  | some h, none => some h
  | some h, some g => if h.1 < g.1 then some g else some h
def loadF (X : DV) (s a u : Nat) : Option LV :=
  if (allF ((bytesOf X (firstN X.B.length a) ((u + 63) / 64)).take u)).2.1 ≠ u then none
  else some ⟨s, a, u, (allF ((bytesOf X (firstN X.B.length a) ((u + 63) / 64)).take u)).1, ((bytesOf X (firstN X.B.length a) ((u + 63) / 64)).take u).drop (u / 64 * 64), [], 0, false⟩
def openF (X : DV) : Int × DV × Option LV :=
  if X.down then (15, X, none) else if X.B.length < 6 then (2, X, none)
  else if X.cur 0 = zeros 64 ∧ X.cur 1 = zeros 64 then
    (if (putH X 1 0 0).1 ≠ 0 then ((putH X 1 0 0).1, (putH X 1 0 0).2, none) else (0, (putH X 1 0 0).2, some ⟨1, 0, 0, [], [], [], 0, false⟩))
  else match pick (readH (X.cur 0) 0 (64 * areaN X.B.length)) (readH (X.cur 1) 1 (64 * areaN X.B.length)) with
    | none => (6, X, none)
    | some (s, a, u) => match loadF X s a u with
      | none => (6, X, none)
      | some V => (0, X, some V)

end Go.Proofs.Ytcfgcllphfooaaa.wals
end

/-
  byte slices of a call's own: append of bytes, of zeros; a string's bytes.
-/
section
namespace Go.Proofs.Ytcfgcllphfooaaa.bufs
open Go.RowKit Go.My disks
set_option maxRecDepth 100000

variable {w w' : World}

theorem u8_parts : ∃ i, Try.prog.info? 5 = some i ∧ i.zero = some (.int .u8 0) ∧ i.size = 1 ∧ i.bytes = 1 := info_parts info_u8'

theorem own_len {base n : Nat} {v : Value} {xs : Blk} (h : w.ownsRow base 5 1 v n (cellsB xs)) : n = xs.length := by have := h.1; rw [cellsB_length] at this; omega

theorem slat_len {oa : Option Addr} {n cap : Nat} {xs : Blk} (h : SlAt w (.slice oa n cap) (cellsB xs)) : n = xs.length := by
  obtain ⟨_, _, h1, _⟩ := h
  simp only [Value.slice.injEq] at h1
  rw [h1.2.1, cellsB_length]

theorem SlAt.shape {v : Value} {xs : Blk} (h : SlAt w v (cellsB xs)) : ∃ oa cap, v = .slice oa xs.length cap := by
  obtain ⟨oa, cap, h1, _⟩ := h
  exact ⟨oa, cap, by rw [h1, cellsB_length]⟩

/-- An append of bytes to an own slice. -/
theorem append_bytes0 {base n : Nat} {v : Value} {xs ys : Blk} {oa : Option Addr} {m cap : Nat} (h : w.ownsRow base 5 1 v n (cellsB xs)) (hs : SlAt w (.slice oa m cap) (cellsB ys)) (hb : base ≤ w.heap.size) (hl : xs.length + ys.length ≤ 140737488355328) (ty : TypeId) :
    ∃ v' w', (Builtin.append_ #[39, 39] ty #[v, .slice oa m cap]).run Try.prog w = .ok v' w' ∧ w'.ownsRow base 5 1 v' (xs.length + ys.length) (cellsB (xs ++ ys)) ∧ w.grownBy w' v.ownBlock ∧ (v'.ownBlock = v.ownBlock ∨ v'.ownBlock = some w.heap.size) := by
  obtain ⟨i, hi, hz, hsz, hby⟩ := u8_parts
  obtain rfl := own_len h
  obtain rfl := slat_len hs
  have hx : cellsB (xs ++ ys) = cellsB xs ++ cellsB ys := by simp [cellsB]
  cases oa with
  | none =>
    have hy : ys = [] := by
      cases ys with
      | nil => rfl
      | cons y ys =>
        obtain ⟨oa', cap', h1, h2, _⟩ := hs
        obtain ⟨b, off, h3⟩ := h2 (by simp [cellsB])
        simp only [Value.slice.injEq] at h1
        rw [← h1.1] at h3; cases h3
    subst hy
    refine ⟨v, w, ?_, by rw [hx]; simpa [cellsB] using h, ⟨rfl, rfl, rfl, Nat.le_refl _, fun _ _ _ => rfl⟩, Or.inl rfl⟩
    rcases h.2 with ⟨rfl, h0⟩ | ⟨g, cap', cur, rfl, _, hg, hc, _⟩
    · simp [Builtin.append_, run_underlying Try.underlying39, sizeOf, typeInfo, hi, Builtin.lenOf, Builtin.firstCells]
    · simp [Builtin.append_, run_underlying Try.underlying39, sizeOf, typeInfo, hi, Builtin.lenOf, Builtin.firstCells, hc, storeCells]
  | some a =>
    have hcells : ∀ j u, (cellsB ys)[j]? = some u → w.cell? (a.add j) = some u := by
      intro j u hu
      obtain ⟨oa', cap', h1, h2, h3⟩ := hs
      simp only [Value.slice.injEq] at h1
      obtain ⟨b, off, h4⟩ := h2 (by intro e; rw [e] at hu; simp at hu)
      have h5 := h3 b off h4 j u hu
      rw [← h1.1] at h4
      cases h4
      have : (⟨b, off, none⟩ : Addr).add j = ⟨b, off + j, none⟩ := by unfold Addr.add; split <;> simp_all
      rw [this]; exact h5
    obtain ⟨v', w', h1, h2, h3, -, h4⟩ := run_append_own_at (P := Try.prog) w base 39 ty 5 i (.int .u8 0) 1 1 Try.underlying39 hi hz hsz hby rfl (by decide) v xs.length (cellsB xs) h a ys.length cap (cellsB ys) (by rw [cellsB_length]; omega) hcells (one_cellsB ys) (by unfold maxLen; omega) (by omega) hb
    exact ⟨v', w', h1, by rw [hx]; exact h2, h3, h4⟩

/-- An append of zeros (gc's append of make). -/
theorem append_zeros0 {base n : Nat} {v : Value} {xs : Blk} {k : Nat} (h : w.ownsRow base 5 1 v n (cellsB xs)) (hne : xs ≠ []) (hb : base ≤ w.heap.size) (hk : 0 < k) (hl : xs.length + k ≤ 140737488355328) (ty : TypeId) :
    ∃ v' w', (Builtin.append_ #[39, 3] ty #[v, .int .i64 (k : Int)]).run Try.prog w = .ok v' w' ∧ w'.ownsRow base 5 1 v' (xs.length + k) (cellsB (xs ++ List.replicate k 0)) ∧ w.grownBy w' v.ownBlock ∧ (v'.ownBlock = v.ownBlock ∨ v'.ownBlock = some w.heap.size) := by
  obtain ⟨i, hi, hz, hsz, hby⟩ := u8_parts
  obtain rfl := own_len h
  have hx : cellsB (xs ++ List.replicate k 0) = cellsB xs ++ List.replicate k (.int .u8 0) := by simp [cellsB]
  have hzc : ∀ q, (Builtin.zeroCells (Value.int .u8 0).cells q).toList = List.replicate q (.int .u8 0) := by
    intro q
    apply List.ext_getElem?
    intro j
    by_cases hj : j < q <;> simp [Builtin.zeroCells, Value.cells, hj, Nat.mod_one]
  have hlen : (cellsB xs ++ List.replicate k (Value.int .u8 0)).length = (xs.length + k) * 1 := by simp [cellsB_length]
  rcases h.2 with ⟨rfl, h0⟩ | ⟨g, cap, cur, rfl, hbg, hg, hnc, hcm, hcs, htake⟩
  · exact absurd (List.eq_nil_of_length_eq_zero h0) hne
  · by_cases hroom : xs.length + k ≤ cap
    · have hfit : xs.length + (List.replicate k (Value.int .u8 0)).length ≤ cur.size := by simp; omega
      have hst := run_storeCells_at Try.prog g xs.length 5 (List.replicate k (Value.int .u8 0)) 0 cur w hg (by simpa using hfit) (by intro u hu; rw [List.eq_of_mem_replicate hu]; rfl)
      simp only [Nat.add_zero, List.length_replicate] at hst
      have hw : IntKind.i64.wrap (k : Int) = k := by rw [IntKind.wrap_i64]; omega
      have hneg : ¬ ((k : Int) < 0) := by omega
      have hk0 : k ≠ 0 := by omega
      have h48 : ¬ (281474976710656 < (k : Int)) := by omega
      obtain ⟨R, hR⟩ : ∃ R : Array Value, (cur.toList.take xs.length ++ List.replicate k (Value.int .u8 0) ++ cur.toList.drop (xs.length + k)).toArray = R := ⟨_, rfl⟩
      rw [hR] at hst
      refine ⟨.slice (some ⟨g, 0, none⟩) (xs.length + k) cap, w.setRow g R, ?_, ⟨by rw [hx]; exact hlen, .inr ⟨g, cap, R, rfl, hbg, setRow_heap w g cur R 5 _ hg, hroom, hcm, ?_, ?_⟩⟩, ⟨rfl, rfl, rfl, by simp, fun j _ hj => setRow_other w g j R (fun e => hj (by simp [Value.ownBlock, e]))⟩, Or.inl rfl⟩
      · simp [Builtin.append_, run_underlying Try.underlying39, run_underlying Try.underlying3, sizeOf, typeInfo, zeroValue, hi, hz, hsz, hby, asInt, asIntOf, hw, hneg, hk0, h48, hroom, Addr.add_lit]
        rw [hzc k, hst]
        rfl
      · rw [← hR]
        simp only [List.size_toArray, List.length_append, List.length_take, List.length_drop, Array.length_toList, List.length_replicate]
        omega
      · have : cur.toList.take xs.length = cellsB xs := by simpa using htake
        rw [← hR, hx, this]
        simp only [List.append_assoc]
        rw [← List.append_assoc, ← hlen]
        exact List.take_left
    · have holds : ∀ j u, (cellsB xs)[j]? = some u → w.cell? ((⟨g, 0, none⟩ : Addr).add j) = some u := h.cells (g := g) rfl
      have hfo := run_firstCells_some (P := Try.prog) w.drew i.size xs.length ⟨g, 0, none⟩ xs.length cap (cellsB xs) (by rw [cellsB_length, hsz]; omega) (by simpa using holds)
      have hr := Lib.run_append_grow_zeros (P := Try.prog) w 39 3 ty 5 i (.int .u8 0) .i64 .i64 Try.underlying39 Try.underlying3 hi hz (some ⟨g, 0, none⟩) xs.length cap (cellsB xs) hfo k hk (by omega) (by omega) (by omega) (by rw [hby]; omega) (growslice_fits (by omega) (by rw [hby]; omega))
      refine ⟨_, _, hr, ⟨by rw [hx]; exact hlen, .inr ⟨w.heap.size, _, _, rfl, hb, heap_alloc_new w.drew _, grownCap_ge w _ _ _, grownCap_le_maxLen w _ _ _ (by unfold maxLen; omega), ?_, ?_⟩⟩, ⟨rfl, rfl, rfl, by simp, fun j hj _ => Below.heap_alloc _ _ _ hj⟩, Or.inr rfl⟩
      · have := grownCap_ge w (xs.length + k) cap 5
        simp only [Array.size_append, List.size_toArray, size_zeroCells, Value.cells, cellsB_length, List.size_toArray, List.length_cons, List.length_nil]
        omega
      · simp only [Array.toList_append, hzc]
        rw [hx, ← hlen]
        exact List.take_left

theorem append_bytes {base n : Nat} {v : Value} {xs ys : Blk} {oa : Option Addr} {m cap : Nat} (h : w.ownsRow base 5 1 v n (cellsB xs)) (hs : SlAt w (.slice oa m cap) (cellsB ys)) (hb : base ≤ w.heap.size) (hl : xs.length + ys.length ≤ 140737488355328) (ty : TypeId) :
    ∃ v' w', (Builtin.append_ #[39, 39] ty #[v, .slice oa m cap]).run Try.prog w = .ok v' w' ∧ w'.ownsRow base 5 1 v' (xs ++ ys).length (cellsB (xs ++ ys)) ∧ w.grownBy w' v.ownBlock ∧ (v'.ownBlock = v.ownBlock ∨ v'.ownBlock = some w.heap.size) := by
  rw [List.length_append]; exact append_bytes0 h hs hb hl ty

theorem append_zeros {base n : Nat} {v : Value} {xs : Blk} {k : Nat} (h : w.ownsRow base 5 1 v n (cellsB xs)) (hne : xs ≠ []) (hb : base ≤ w.heap.size) (hk : 0 < k) (hl : xs.length + k ≤ 140737488355328) (ty : TypeId) :
    ∃ v' w', (Builtin.append_ #[39, 3] ty #[v, .int .i64 (k : Int)]).run Try.prog w = .ok v' w' ∧ w'.ownsRow base 5 1 v' (xs ++ List.replicate k 0).length (cellsB (xs ++ List.replicate k 0)) ∧ w.grownBy w' v.ownBlock ∧ (v'.ownBlock = v.ownBlock ∨ v'.ownBlock = some w.heap.size) := by
  rw [List.length_append, List.length_replicate]; exact append_zeros0 h hne hb hk hl ty

/-- The bytes of a string, in a new block. -/
theorem string_bytes (w : World) (s : ByteArray) : ∃ v w', (convert 9 39 (.string s)).run Try.prog w = .ok v w' ∧ SlAt w' v (cellsB s.data.toList) ∧ Chg (fun _ => False) w w' ∧ (∃ g cap, v = .slice (some ⟨g, 0, none⟩) s.size cap ∧ w.heap.size ≤ g) := by
  refine ⟨_, _, Lib.run_convert_string_bytes (P := Try.prog) w 9 39 5 s Try.underlying9 Try.underlying39 Try.underlying5, ?_, ?_, ⟨w.heap.size, _, rfl, Nat.le_refl _⟩⟩
  · have hsl : (cellsB s.data.toList).length = s.size := by rw [cellsB_length]; rfl
    refine ⟨some ⟨w.heap.size, 0, none⟩, _, by rw [hsl], fun _ => ⟨_, _, rfl⟩, fun b off ho i x hx => ?_⟩
    cases ho
    have hi : i < s.size := by have := (List.getElem?_eq_some_iff.1 hx).1; rw [hsl] at this; exact this
    rw [Nat.zero_add, Lib.bytesWorld_cell w _ s i hi]
    have : i < s.data.toList.length := hi
    simp only [cellsB, List.getElem?_map, List.getElem?_eq_getElem this, Option.map_some, Option.some.injEq] at hx
    rw [← hx]
    simp [List.getD, List.getElem?_eq_getElem this]
  · exact ⟨rfl, rfl, rfl, by rw [Lib.bytesWorld_size]; omega, fun k hk _ => Lib.bytesWorld_at_old w _ s k hk⟩

end Go.Proofs.Ytcfgcllphfooaaa.bufs
end

/-
  crc: the walks.
-/
section
namespace Go.Proofs.Ytcfgcllphfooaaa.wals
open Go.RowKit Go.My disks bufs
set_option maxRecDepth 100000

theorem crc_step_bits (c : Nat) (h : c < 4294967296) : bits .xor .u32 ((c : Int) / 2) (bits .and .u32 3988292384 (-(bits .and .u32 (c : Int) 1) % 4294967296)) = ((crcStep c : Nat) : Int) := by
  have h1 : bits .and .u32 (c : Int) 1 = ((c % 2 : Nat) : Int) := by
    have := u32_and_nat c 1 h (by omega)
    rw [show ((1 : Nat) : Int) = 1 from rfl] at this
    rw [this, Nat.and_one_is_mod]
  rw [h1]
  have h2 : (c : Int) / 2 = ((c / 2 : Nat) : Int) := by omega
  rw [h2]
  unfold crcStep
  rcases Nat.mod_two_eq_zero_or_one c with e | e
  · rw [e, if_neg (by omega)]
    have h3 : (-((0 : Nat) : Int)) % 4294967296 = ((0 : Nat) : Int) := rfl
    rw [h3]
    have h4 := u32_and_nat 3988292384 0 (by omega) (by omega)
    rw [show ((3988292384 : Nat) : Int) = 3988292384 from rfl] at h4
    rw [h4, u32_xor_nat _ _ (by omega) (by simp)]
    simp
  · rw [e, if_pos rfl]
    have h3 : (-((1 : Nat) : Int)) % 4294967296 = ((4294967295 : Nat) : Int) := rfl
    rw [h3]
    have h4 := u32_and_nat 3988292384 4294967295 (by omega) (by omega)
    rw [show ((3988292384 : Nat) : Int) = 3988292384 from rfl] at h4
    rw [h4, show 3988292384 &&& 4294967295 = 3988292384 by decide, u32_xor_nat _ _ (by omega) (by omega)]

theorem crc_byte_bits (c : Nat) (h : c < 4294967296) (x : UInt8) : bits .xor .u32 (c : Int) (x.toNat : Int) = ((c ^^^ x.toNat : Nat) : Int) := u32_xor_nat _ _ h (by have := x.toNat_lt; omega)

set_option maxHeartbeats 1000000 in
theorem more_any (w : World) (oa : Option Addr) (n cap : Nat) (bs : Blk) (h : SlAt w (.slice oa n cap) (cellsB bs)) (hn : bs.length ≤ 1000000000) :
    Calls Try.prog 77 #[.int .u32 0, .slice oa n cap] w fun e w' => e = .returned (.int .u32 (crcF bs : Int)) ∧ w = w' := by
  obtain rfl := slat_len h
  have HS := Lib.hid h
  have HN := Lib.hid hn
  clear h hn
  obtain ⟨c0, hc0⟩ : ∃ c0, crcReg (bs.take 0) = c0 := ⟨_, rfl⟩
  have hx0 : bits .xor .u32 IntKind.u32.max 0 = (c0 : Int) := by
    have := u32_xor_nat 4294967295 0 (by omega) (by omega)
    rw [show IntKind.u32.max = ((4294967295 : Nat) : Int) from rfl, show (0 : Int) = ((0 : Nat) : Int) from rfl, this, ← hc0]
    simp [crcReg]
  have HX0 := Lib.hid hx0
  have HC0 := Lib.hid hc0
  clear hx0 hc0
  go_enter Try.func77, Try.ntmps77
  go_wp2_with fail
  rw [HX0.out]
  go_loop [5, 12] (fun c i => ∃ k : Nat, k ≤ bs.length ∧ i = .int .i64 k ∧ c = .int .u32 (crcReg (bs.take k) : Int)) (fun _ i => bs.length - (intOf i).toNat)
  case atStart => exact ⟨0, Nat.zero_le _, rfl, by rw [HC0.out]⟩
  case round =>
    obtain ⟨k, hk, rfl, rfl⟩ := hrel
    have hN := HN.out
    by_cases hlt : k < bs.length
    · have hlt' : (k : Int) < (bs.length : Int) := by omega
      obtain ⟨x, hx⟩ : ∃ x, bs[k]? = some x := ⟨bs[k], List.getElem?_eq_getElem hlt⟩
      obtain ⟨b, off, rfl, -, hcell⟩ := HS.out.cell (k := k) (by rw [cellsB_length]; exact hlt)
      have hv : (cellsB bs)[k]'(by rw [cellsB_length]; exact hlt) = .int .u8 (x.toNat : Int) := by
        have : (cellsB bs)[k]? = some (.int .u8 (x.toNat : Int)) := by simp [cellsB, hx]
        rw [List.getElem?_eq_getElem (by rw [cellsB_length]; exact hlt)] at this
        exact Option.some.inj this
      rw [hv] at hcell
      have hr := crcReg_lt (bs.take k)
      obtain ⟨c, hc⟩ : ∃ c, crcReg (bs.take k) = c := ⟨_, rfl⟩
      have htk : crcReg (bs.take (k + 1)) = crcByte c x := by
        rw [List.take_add_one, hx, Option.toList_some, crcReg_snoc, hc]
      rw [hc] at hr ⊢
      have hwr : (x.toNat : Int) % 4294967296 = (x.toNat : Int) := by have := x.toNat_lt; omega
      have hxb := crc_byte_bits c hr x
      have hc8 : (c ^^^ x.toNat) < 4294967296 := by
        have := x.toNat_lt
        exact Nat.xor_lt_two_pow (n := 32) hr (by omega)
      obtain ⟨e, he⟩ : ∃ e, c ^^^ x.toNat = e := ⟨_, rfl⟩
      have htk2 : crcReg (bs.take (k + 1)) = crcN 8 e := by rw [htk, ← he]; rfl
      rw [he] at hxb hc8
      have HTK := Lib.hid htk2
      have HC8 := Lib.hid hc8
      clear htk htk2 hv hx hc hr he hc8
      go_wp2_with fail
      clear hxb hwr hcell
      go_loop [5, 20] (fun c j => ∃ m : Nat, m ≤ 8 ∧ j = .int .i64 m ∧ c = .int .u32 (crcN m e : Int)) (fun _ j => 8 - (intOf j).toNat)
      case atStart => exact ⟨0, Nat.zero_le _, rfl, rfl⟩
      case round =>
        obtain ⟨m, hm, rfl, rfl⟩ := hrel
        by_cases hm8 : m < 8
        · have hm8' : (m : Int) < 8 := by omega
          have hst := crc_step_bits (crcN m e) (crcN_lt HC8.out m)
          have HST := Lib.hid hst
          clear hst
          go_wp2_with fail
          exact ⟨⟨m + 1, by omega, by go_num, by rw [HST.out]; rfl⟩, by simp [intOf]; omega⟩
        · go_wp2_with fail
          obtain rfl : m = 8 := by omega
          exact ⟨⟨k + 1, by omega, by go_num, by rw [HTK.out]⟩, by simp [intOf]; omega⟩
    · go_wp2_with fail
      go_ret
      obtain rfl : k = bs.length := by omega
      refine ⟨?_, rfl⟩
      have hm : bits .xor .u32 IntKind.u32.max (crcReg bs : Int) = (crcF bs : Int) := by
        rw [show IntKind.u32.max = ((4294967295 : Nat) : Int) from rfl, u32_xor_nat _ _ (by omega) (crcReg_lt bs)]; rfl
      rw [List.take_of_length_le (Nat.le_refl _), hm]
      rfl

theorem sum_any (w : World) (oa : Option Addr) (n cap : Nat) (bs : Blk) (h : SlAt w (.slice oa n cap) (cellsB bs)) (hn : bs.length ≤ 1000000000) :
    Calls Try.prog 65 #[.slice oa n cap] w fun e w' => e = .returned (.int .u32 (crcF bs : Int)) ∧ w = w' := by
  have H := Lib.hid (more_any w oa n cap bs h hn)
  clear h hn
  go_enter Try.func65, Try.ntmps65
  go_wp2_with (first
    | (go_at_call 77; refine H.out.mono ?_; rintro e w1 ⟨rfl, rfl⟩))
  go_ret
  exact ⟨rfl, rfl⟩

end Go.Proofs.Ytcfgcllphfooaaa.wals
end

/-
  frame: low, Frame: the walks.
-/
section
namespace Go.Proofs.Ytcfgcllphfooaaa.wals
open Go.RowKit Go.My disks bufs
set_option maxRecDepth 100000

theorem ofNat_toNat (n : Nat) : ((UInt8.ofNat n).toNat : Int) = (n : Int) % 256 := by rw [UInt8.toNat_ofNat']; omega

theorem low_any (w : World) (n : Nat) (hn : n < 4294967296) :
    Calls Try.prog 67 #[.int .u32 (n : Int)] w fun e w' => ∃ s, e = .returned s ∧ w'.ownsRow w.heap.size 5 1 s 4 (cellsB (le4 n)) ∧ Chg (fun _ => False) w w' := by
  have HN := Lib.hid hn
  clear hn
  go_enter Try.func67, Try.ntmps67
  go_wp2_with fail
  go_ret
  refine ⟨_, rfl, ?_, (Chg.refl _ _).alloc _⟩
  have e : cellsB (le4 n) = [.int .u8 ((n : Int) % 256), .int .u8 ((n : Int) / 256 % 256), .int .u8 ((n : Int) / 65536 % 256), .int .u8 ((n : Int) / 16777216 % 256)] := by
    simp only [le4, cellsB, List.map_cons, List.map_nil, ofNat_toNat, Int.natCast_ediv]
    rfl
  rw [e]
  exact World.ownsRow_lit (size := 1) w _ 4 (Nat.le_refl _) (by unfold maxLen; omega) rfl

set_option maxHeartbeats 1000000 in
theorem frame_any (w : World) (oa : Option Addr) (n cap : Nat) (bs : Blk) (h : SlAt w (.slice oa n cap) (cellsB bs)) (hn : bs.length ≤ 4096) :
    Calls Try.prog 53 #[.slice oa n cap] w fun e w' => ∃ s, e = .returned (.tuple #[s, .int .i64 0]) ∧ w'.ownsRow w.heap.size 5 1 s (frameB bs).length (cellsB (frameB bs)) ∧ Chg (fun _ => False) w w' := by
  obtain rfl := slat_len h
  have HS := Lib.hid h
  have HN := Lib.hid hn
  have hn' : (bs.length : Int) ≤ 4096 := by omega
  have hsm : (bs.length : Int) % 4294967296 = (bs.length : Int) := by omega
  clear h hn
  go_enter Try.func53, Try.ntmps53
  obtain ⟨b, hb⟩ : ∃ b, le4 bs.length ++ bs = b := ⟨_, rfl⟩
  have hfb : frameB bs = b ++ le4 (crcF b) := by unfold frameB; rw [hb]
  have HF := Lib.hid hfb
  have HB := Lib.hid hb
  have HBl := Lib.hid (show b.length ≤ 5000 by have := HN.out; rw [← hb, List.length_append, le4_length]; omega)
  clear hb hfb
  go_wp2_with (first
    | (go_at_call 67; fail))
  refine (low_any _ bs.length (by have := HN.out; omega)).mono ?_
  rintro e w1 ⟨s1, rfl, ho1, hc1⟩
  obtain ⟨v2, w2, hr2, ho2, hg2, -⟩ := append_bytes ho1 (HS.out.kept hc1) hc1.size (by have := HN.out; rw [le4_length]; omega) 39
  rw [HB.out] at ho2
  have HR2 := Lib.hid hr2
  have HO2 := Lib.hid ho2
  have HC2 := Lib.hid (show Chg (fun _ => False) w w2 from hc1.append ho1 (Chg.refl _ _) hg2)
  obtain ⟨oa2, cap2, e2⟩ := own_slice ho2
  subst e2
  have HSum := Lib.hid (sum_any w2 _ _ _ b (SlAt.of_own ho2) (by have := HBl.out; omega))
  clear hr2 ho2 hg2 ho1 hc1
  dsimp only
  go_wp2_with (first
    | (at_builtin; refine Lib.wpList_append_run _ rfl _ _ _ _ rfl _ _ rfl rfl _ _ HR2.out ?_)
    | (go_at_call 65; refine HSum.out.mono ?_; rintro e w3 ⟨rfl, rfl⟩)
    | (go_at_call 67; fail))
  refine (low_any _ (crcF b) (crcF_lt b)).mono ?_
  rintro e w3 ⟨s3, rfl, ho3, hc3⟩
  have ho2' := own_kept HO2.out hc3
  obtain ⟨oa3, cap3, rfl⟩ := own_slice ho3
  obtain ⟨v4, w4, hr4, ho4, hg4, -⟩ := append_bytes ho2' (SlAt.of_own ho3) (HC2.out.trans' hc3).size (by have := HBl.out; rw [le4_length]; omega) 39
  have HR4 := Lib.hid hr4
  have HO4 := Lib.hid ho4
  have HC4 := Lib.hid (show Chg (fun _ => False) w w4 from (HC2.out.append HO2.out hc3 hg4))
  clear hr4 ho4 hg4 ho3 hc3 ho2'
  dsimp only
  go_wp2_with (first
    | (at_builtin; refine Lib.wpList_append_run _ rfl _ _ _ _ rfl _ _ rfl rfl _ _ HR4.out ?_))
  go_ret2
  have h5 := HO4.out
  rw [← HF.out] at h5
  exact ⟨_, rfl, h5, HC4.out⟩

end Go.Proofs.Ytcfgcllphfooaaa.wals
end

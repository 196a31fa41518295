/-
  disk and the document's disk: the two states mirror each other (plain law).
-/
import Derived.Test.YtomceindibnpnaaDiskRefCrash
namespace Go.Proofs.Ytomceindibnpnaa.disks
open Go.RowKit Go.Maps Go.My Go.ChangeMaps

/-- The disk and the document's: the same blocks, the same writes that wait. -/
structure Mir (X : DV) (R : RV) : Prop where
  B : R.B = X.B
  L : ∀ i : Nat, X.L i = sel R.S i
  fuse : R.fuse = X.fuse
  down : R.down = X.down
  done : R.done = X.done

variable {X : DV} {R : RV}

theorem atN_sel (R : RV) (i : Nat) (n : Int) (k : Nat) (hk : k ≤ R.S.length) :
    R.atN i n k = ((((R.B[i]?.getD []) :: sel (R.S.take k) i)[if n < 0 then (sel (R.S.take k) i).length else min (sel (R.S.take k) i).length n.toNat]?).getD [], if n < 0 then (sel (R.S.take k) i).length else min (sel (R.S.take k) i).length n.toNat) := by
  induction k with
  | zero => simp [RV.atN, sel]
  | succ k ih =>
    have hlt : k < R.S.length := by omega
    obtain ⟨p, hp⟩ : ∃ p, R.S[k]? = some p := ⟨R.S[k], List.getElem?_eq_getElem hlt⟩
    have ih := ih (by omega)
    rw [RV.atN, hp, sel_take_succ hp i]
    generalize hs : sel (R.S.take k) i = s at ih ⊢
    generalize R.B[i]?.getD [] = b at ih ⊢
    rw [ih]
    simp only
    by_cases hc : p.1 = (i : Int)
    · rw [if_pos hc]
      by_cases hn : n < 0
      · rw [if_pos ⟨hc, Or.inl hn⟩]
        simp [hn]
      · simp only [if_neg hn]
        by_cases hl : s.length < n.toNat
        · have h1 : min s.length n.toNat = s.length := by omega
          have h2 : min (s ++ [p.2]).length n.toNat = s.length + 1 := by simp; omega
          rw [h1, if_pos ⟨hc, Or.inr (by omega)⟩, h2]
          simp
        · have h1 : min s.length n.toNat = n.toNat := by omega
          have h2 : min (s ++ [p.2]).length n.toNat = n.toNat := by simp; omega
          rw [h1, if_neg (fun h => h.2.elim hn (by omega)), h2]
          congr 2
          rw [← List.cons_append, List.getElem?_append_left (by simp; omega)]
    · rw [if_neg (fun h => hc h.1), if_neg hc, List.append_nil]

theorem at_sel (R : RV) (i : Nat) (n : Int) : R.at i n = (((R.B[i]?.getD []) :: sel R.S i)[if n < 0 then (sel R.S i).length else min (sel R.S i).length n.toNat]?).getD [] := by
  rw [RV.at, atN_sel R i n _ (Nat.le_refl _), List.take_length]

theorem last_cons (b : Blk) (s : List Blk) : ((b :: s)[s.length]?).getD [] = (s.getLast?).getD b := by
  rcases List.eq_nil_or_concat s with rfl | ⟨l, a, rfl⟩
  · rfl
  · simp

theorem Mir.cur (h : Mir X R) (i : Nat) : R.at i (-1) = X.cur i := by
  rw [at_sel, if_pos (by omega), last_cons, DV.cur, h.L, h.B]

theorem Mir.waits (h : Mir X R) : refWaits R = waitsOf X := by
  rw [refWaits, refWaitsN, waitsOf, h.B]
  simp only [h.L]

theorem Mir.burn (h : Mir X R) : Mir X.burn R.burn := by
  unfold DV.burn RV.burn
  rw [h.fuse]
  split
  · exact ⟨h.B, h.L, rfl, rfl, h.done⟩
  · exact ⟨h.B, h.L, rfl, h.down, by simp only [h.done]⟩

theorem Mir.read (h : Mir X R) (i : Int) : refReadC R i = askedC X i := by
  rw [refReadC, askedC, h.down, h.B]
  split
  · rfl
  · by_cases hc : 0 ≤ i ∧ i < X.B.length
    · rw [if_pos hc, if_neg (by omega)]
    · rw [if_neg hc, if_pos (by omega)]

theorem Mir.writeC (h : Mir X R) (i : Int) (n : Nat) : refWriteC R i n = writeC X i n := by
  rw [refWriteC, disks.writeC, askedC, h.down, h.B, h.fuse]
  by_cases hd : X.down = true
  · simp [hd]
  · simp only [if_neg hd]
    by_cases hc : 0 ≤ i ∧ i < X.B.length
    · simp only [if_pos hc]
      by_cases hn : n = 64
      · rw [if_neg (by omega)]; simp [hn]
      · rw [if_pos (by omega)]; simp [hn]
    · simp only [if_neg hc]
      rw [if_pos (by omega)]; simp

theorem Mir.write (h : Mir X R) (i : Int) (b : Blk) : Mir (X.write i b) (R.write i b) := by
  by_cases hg : X.down = false ∧ 0 ≤ i ∧ i < X.B.length ∧ b.length = 64
  · obtain ⟨hd, h0, h1, h2⟩ := hg
    have ha : askedC X i = 0 := by rw [askedC, if_neg (by simp [hd]), if_pos ⟨h0, h1⟩]
    have e1 : X.write i b = if X.fuse = 0 then X.burn else X.burn.put i.toNat b := by rw [DV.write, if_neg (by simp [ha, h2])]
    have e2 : R.write i b = if X.fuse = 0 then R.burn else { R.burn with S := R.burn.S ++ [(i, b)] } := by
      rw [RV.write, if_neg (by rw [h.down, h.B, hd]; simp only [Bool.false_eq_true, false_or]; omega), h.fuse]
    rw [e1, e2]
    split
    · exact h.burn
    · have hb := h.burn
      refine ⟨hb.B, fun j => ?_, hb.fuse, hb.down, hb.done⟩
      show (if j = i.toNat then X.burn.L j ++ [b] else X.burn.L j) = sel (R.burn.S ++ [(i, b)]) j
      rw [sel_append, ← hb.L, sel_one]
      by_cases hj : j = i.toNat
      · rw [if_pos hj, if_pos (by simp only; omega)]
      · rw [if_neg hj, if_neg (by simp only; omega), List.append_nil]
  · have e1 : X.write i b = X := by
      rw [DV.write, if_pos]
      by_cases hb : b.length = 64
      · left
        unfold askedC
        cases hd : X.down with
        | true => simp
        | false =>
          rw [if_neg (by simp), if_neg (fun hc => hg ⟨hd, hc.1, hc.2, hb⟩)]
          omega
      · exact Or.inr hb
    have e2 : R.write i b = R := by
      rw [RV.write, if_pos]
      rw [h.down, h.B]
      cases hd : X.down with
      | true => exact Or.inl rfl
      | false =>
        right
        by_cases h0 : 0 ≤ i
        · by_cases h1 : i < X.B.length
          · exact Or.inr (Or.inr (fun h2 => hg ⟨hd, h0, h1, h2⟩))
          · exact Or.inr (Or.inl (by omega))
        · exact Or.inl (by omega)
    rw [e1, e2]
    exact h

theorem Mir.flushC (h : Mir X R) : refFlushC R = disks.flushC X := by
  rw [refFlushC, disks.flushC, h.down, h.fuse]

theorem Mir.flush (h : Mir X R) : Mir X.flush R.flush := by
  rw [DV.flush, RV.flush, h.down, h.fuse]
  split
  · exact h
  · split
    · exact h.burn
    · have hb := h.burn
      refine ⟨?_, fun _ => rfl, hb.fuse, hb.down, hb.done⟩
      show (List.range R.burn.B.length).map (fun i => R.burn.at i (-1)) = (List.range X.burn.B.length).map X.burn.cur
      rw [hb.B]
      exact List.map_congr_left (fun i _ => hb.cur i)

theorem Mir.setC (h : Mir X R) (n : Int) : setC R n = fuseC X n := by
  rw [disks.setC, fuseC, h.down]

theorem Mir.set (h : Mir X R) (n : Int) : Mir (X.set n) (R.set n) := by
  rw [DV.set, RV.set, h.down]
  split
  · exact h
  · exact ⟨h.B, h.L, rfl, rfl, h.done⟩

theorem crashN_B (X : DV) (keep : List Int) (k t : Nat) (h : ∀ (j : Nat) (p : Nat × Nat), j < k → (waitsOf X)[j]? = some p → p.1 ≠ t) : (X.crashN keep k).B[t]? = X.B[t]? := by
  induction k with
  | zero => rfl
  | succ k ih =>
    rw [DV.crashN]
    split
    · rename_i p hp
      simp only
      have h1 := ih (fun j p hj hp => h j p (by omega) hp)
      split
      · rw [List.getElem?_set_ne (h k p (Nat.lt_succ_self k) hp)]
        exact h1
      · exact h1
    · exact ih (fun j p hj hp => h j p (by omega) hp)

theorem crashN_B_at (X : DV) (keep : List Int) {k i N : Nat} (h : (waitsOf X)[k]? = some (i, N)) : (X.crashN keep k).B[i]? = X.B[i]? := by
  refine crashN_B X keep k i (fun j p hj hp e => ?_)
  have h1 := waits_pairwise X
  rw [List.pairwise_iff_getElem] at h1
  obtain ⟨hjl, rfl⟩ := List.getElem?_eq_some_iff.1 hp
  obtain ⟨hkl, hk⟩ := List.getElem?_eq_some_iff.1 h
  have := h1 j k hjl hkl hj
  rw [hk] at this
  simp only at this
  omega

theorem set_same {α : Type} (l : List α) (i : Nat) (a : α) (h : l[i]? = some a) : l.set i a = l := by
  apply List.ext_getElem?
  intro j
  by_cases e : j = i
  · subst e
    have := (List.getElem?_eq_some_iff.1 h).1
    rw [List.getElem?_set_self this, h]
  · rw [List.getElem?_set_ne (fun h => e h.symm)]

theorem keepAt_le (keep : List Int) (k N : Nat) : keepAt keep k N ≤ N := by
  unfold keepAt
  split
  · split
    · have := Nat.mod_lt (x := (‹Int›).toNat) (y := N + 1) (by omega); omega
    · omega
  · omega

theorem Mir.crashN (h : Mir X R) (keep : List Int) (k : Nat) : R.crashN keep k = (X.crashN keep k).B := by
  induction k with
  | zero => exact h.B
  | succ k ih =>
    rw [RV.crashN, h.waits]
    cases hp : (waitsOf X)[k]? with
    | none => rw [DV.crashN, hp]; exact ih
    | some p =>
      obtain ⟨i, N⟩ := p
      obtain ⟨hi, hN, hpos⟩ := waitsOf_at hp
      rw [crashN_succ X keep hp]
      simp only
      rw [ih, at_sel, if_neg (by omega), Int.toNat_natCast, ← h.L, ← hN, h.B]
      have hle := keepAt_le keep k N
      rw [Nat.min_eq_right hle]
      by_cases h0 : 0 < keepAt keep k N
      · rw [if_pos h0]
        congr 2
        obtain ⟨m, hm⟩ : ∃ m, keepAt keep k N = m + 1 := ⟨keepAt keep k N - 1, by omega⟩
        rw [hm]
        simp
      · rw [if_neg h0, show keepAt keep k N = 0 by omega]
        refine set_same _ _ _ ?_
        rw [crashN_B_at X keep hp]
        simp [hi]

theorem crash_L (X : DV) (keep : List Int) (h : ∀ i, X.B.length ≤ i → X.L i = []) (t : Nat) : (X.crash keep).L t = [] := by
  show (X.crashN keep (waitsOf X).length).L t = []
  by_cases ht : ∃ j : Nat, (waitsOf X)[j]? = some (t, (X.L t).length)
  · obtain ⟨j, hj⟩ := ht
    have : ∀ k, j < k → (X.crashN keep k).L t = [] := by
      intro k
      induction k with
      | zero => intro h; omega
      | succ k ih =>
        intro hk
        by_cases e : j = k
        · subst e
          rw [crashN_succ X keep hj]
          simp
        · rw [DV.crashN]
          split
          · simp only
            split
            · rfl
            · exact ih (by omega)
          · exact ih (by omega)
    exact this _ (List.getElem?_eq_some_iff.1 hj).1
  · have hL : X.L t = [] := by
      by_cases htB : t < X.B.length
      · by_cases e : X.L t = []
        · exact e
        · exfalso
          refine ht (List.mem_iff_getElem?.1 ?_)
          simp only [waitsOf, List.mem_map, List.mem_filter, List.mem_range, Prod.mk.injEq]
          exact ⟨t, ⟨htB, by simpa using e⟩, rfl, rfl⟩
      · exact h t (by omega)
    rw [crashN_L X keep _ t (fun (j : Nat) (p : Nat × Nat) _ hp e => ht ⟨j, by
      obtain ⟨i, N⟩ := p
      obtain ⟨-, hN, -⟩ := waitsOf_at hp
      simp only at e
      rw [hp, hN, e]⟩)]
    exact hL

theorem Mir.crash (h : Mir X R) (keep : List Int) (hL : ∀ i, X.B.length ≤ i → X.L i = []) : Mir (X.crash keep) (R.crash keep) := by
  refine ⟨?_, fun i => ?_, rfl, rfl, ?_⟩
  · show R.crashN keep (refWaits R).length = (X.crashN keep (waitsOf X).length).B
    rw [h.waits, h.crashN]
  · rw [crash_L X keep hL]; rfl
  · show R.done = (X.crashN keep (waitsOf X).length).done
    rw [h.done]
    have : ∀ k, (X.crashN keep k).done = X.done := by
      intro k
      induction k with
      | zero => rfl
      | succ k ih => rw [DV.crashN]; split <;> exact ih
    rw [this]

end Go.Proofs.Ytomceindibnpnaa.disks

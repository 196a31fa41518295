/- . -/
import Derived.Test.YtbjagmlbamjdbaaGreatPx3RootOnce
import Derived.Test.YtbjagmlbamjdbaaGreatPx5RootOnce

set_option linter.unusedSimpArgs false
set_option linter.unusedVariables false
section
namespace Go.Proofs.YtbjagmlbamjdbaaGreat.wals
open Go.My disks

structure Goes (X X' : DV) : Prop where
  fuse : X'.fuse ≤ X.fuse
  free : X.fuse = -1 → X'.fuse = -1
theorem Goes.refl (X : DV) : Goes X X := ⟨Int.le_refl _, id⟩
theorem Goes.trans {X Y Z : DV} (h : Goes X Y) (k : Goes Y Z) : Goes X Z := ⟨Int.le_trans k.fuse h.fuse, fun e => k.free (h.free e)⟩

theorem goes_burn (X : DV) : Goes X X.burn := by
  unfold DV.burn
  split
  · exact ⟨Int.le_refl _, id⟩
  · constructor
    · show (if 0 < X.fuse then X.fuse - 1 else X.fuse) ≤ X.fuse
      split <;> omega
    · intro e
      show (if 0 < X.fuse then X.fuse - 1 else X.fuse) = -1
      rw [if_neg (by omega)]; exact e

theorem wr_one {X : DV} {i : Nat} {b : Blk} (h : X.down = false) (hi : i < X.B.length) (hb : b.length = 64) :
    Goes X (X.write (i : Int) b) ∧ (X.write (i : Int) b).B = X.B ∧
    ((writeC X (i : Int) b.length = 0 ∧ (X.write (i : Int) b).down = false ∧ ∀ j, (X.write (i : Int) b).L j = if j = i then X.L j ++ [b] else X.L j) ∨
     (writeC X (i : Int) b.length = 15 ∧ X.fuse = 0 ∧ (X.write (i : Int) b).down = true ∧ ∀ j, (X.write (i : Int) b).L j = X.L j)) := by
  have ha : askedC X (i : Int) = 0 := by unfold askedC; rw [h]; simp; omega
  by_cases hf : X.fuse = 0
  · have e1 : X.write (i : Int) b = X.burn := by unfold DV.write; rw [if_neg (by simp [ha, hb]), if_pos hf]
    rw [e1]
    have e2 : X.burn = { X with down := true } := by unfold DV.burn; rw [if_pos hf]
    refine ⟨goes_burn X, by rw [e2], Or.inr ⟨?_, hf, by rw [e2], fun j => by rw [e2]⟩⟩
    unfold writeC; rw [if_neg (by simp [ha]), if_neg (by simp [hb]), if_pos hf]
  · have e1 : X.write (i : Int) b = X.burn.put i b := by unfold DV.write; rw [if_neg (by simp [ha, hb]), if_neg hf, Int.toNat_natCast]
    rw [e1]
    have e2 : X.burn.down = false := by unfold DV.burn; rw [if_neg hf]; exact h
    refine ⟨⟨(goes_burn X).fuse, (goes_burn X).free⟩, burn_B X, Or.inl ⟨?_, e2, fun j => ?_⟩⟩
    · unfold writeC; rw [if_neg (by simp [ha]), if_neg (by simp [hb]), if_neg hf]
    · show (if j = i then X.burn.L j ++ [b] else X.burn.L j) = _
      rw [burn_L]

theorem fl_one {X : DV} (h : X.down = false) :
    Goes X X.flush ∧
    ((flushC X = 0 ∧ X.flush.down = false ∧ (∀ j, X.flush.L j = []) ∧ X.flush.B = (List.range X.B.length).map X.cur) ∨
     (flushC X = 15 ∧ X.fuse = 0 ∧ X.flush.down = true ∧ (∀ j, X.flush.L j = X.L j) ∧ X.flush.B = X.B)) := by
  by_cases hf : X.fuse = 0
  · have e1 : X.flush = X.burn := by unfold DV.flush; rw [if_neg (by simp [h]), if_pos hf]
    have e2 : X.burn = { X with down := true } := by unfold DV.burn; rw [if_pos hf]
    refine ⟨by rw [e1]; exact goes_burn X, Or.inr ⟨?_, hf, by rw [e1, e2], fun j => by rw [e1, e2], by rw [e1, e2]⟩⟩
    unfold flushC; rw [if_neg (by simp [h]), if_pos hf]
  · have e1 : X.flush = X.burn.all := by unfold DV.flush; rw [if_neg (by simp [h]), if_neg hf]
    have e2 : X.burn.down = false := by unfold DV.burn; rw [if_neg hf]; exact h
    refine ⟨by rw [e1]; exact ⟨(goes_burn X).fuse, (goes_burn X).free⟩, Or.inl ⟨?_, by rw [e1]; exact e2, fun j => by rw [e1]; rfl, ?_⟩⟩
    · unfold flushC; rw [if_neg (by simp [h]), if_neg hf]
    · rw [e1]
      show (List.range X.burn.B.length).map X.burn.cur = _
      have : X.burn.cur = X.cur := by funext i; unfold DV.cur; rw [burn_B, burn_L]
      rw [burn_B, this]

theorem wrBlocks_spec : ∀ (cs : List Blk) (X : DV) (pl : Nat), X.down = false → (∀ c ∈ cs, c.length = 64) → pl + cs.length ≤ X.B.length →
    Goes X (wrBlocks X pl cs).2 ∧ (wrBlocks X pl cs).2.B = X.B ∧ ∃ m, m ≤ cs.length ∧ (∀ i, (wrBlocks X pl cs).2.L i = if pl ≤ i ∧ i < pl + m then X.L i ++ [cs[i - pl]?.getD []] else X.L i) ∧
      (((wrBlocks X pl cs).1 = 0 ∧ m = cs.length ∧ (wrBlocks X pl cs).2.down = false) ∨ ((wrBlocks X pl cs).1 = 15 ∧ (wrBlocks X pl cs).2.down = true ∧ X.fuse ≠ -1))
  | [], X, pl, h, _, _ => ⟨Goes.refl X, rfl, 0, Nat.le_refl _, fun i => by rw [if_neg (by omega)]; rfl, Or.inl ⟨rfl, rfl, h⟩⟩
  | c :: cs, X, pl, h, hc, hl => by
    have hlc := hc c (by simp)
    have hl' : pl + (cs.length + 1) ≤ X.B.length := hl
    obtain ⟨g1, b1, h1⟩ := wr_one (b := c) h (show pl < X.B.length by omega) hlc
    rcases h1 with ⟨e1, d1, l1⟩ | ⟨e1, f1, d1, l1⟩
    · have ee : wrBlocks X pl (c :: cs) = wrBlocks (X.write pl c) (pl + 1) cs := by rw [wrBlocks, if_neg (by simp [e1])]
      rw [ee]
      obtain ⟨g2, b2, m, hm, l2, h2⟩ := wrBlocks_spec cs (X.write pl c) (pl + 1) d1 (fun x hx => hc x (by simp [hx])) (by rw [b1]; omega)
      refine ⟨g1.trans g2, b2.trans b1, m + 1, by simpa using hm, fun i => ?_, ?_⟩
      · rw [l2, l1]
        by_cases hi : i = pl
        · subst hi
          rw [if_neg (by omega), if_pos rfl, if_pos (by omega)]
          simp
        · by_cases hi2 : pl + 1 ≤ i ∧ i < pl + 1 + m
          · rw [if_pos hi2, if_neg hi, if_pos (by omega), show i - pl = (i - (pl + 1)) + 1 by omega]
            simp
          · rw [if_neg hi2, if_neg hi, if_neg (by omega)]
      · rcases h2 with ⟨p1, p2, p3⟩ | ⟨p1, p2, p3⟩
        · exact Or.inl ⟨p1, by simp [p2], p3⟩
        · exact Or.inr ⟨p1, p2, fun e => p3 (g1.free e)⟩
    · have ee : wrBlocks X pl (c :: cs) = (15, X.write pl c) := by rw [wrBlocks, if_pos (by simp [e1]), e1]
      rw [ee]
      exact ⟨g1, b1, 0, Nat.zero_le _, fun i => by rw [if_neg (by omega)]; exact l1 i, Or.inr ⟨rfl, d1, by omega⟩⟩

theorem keepAt_le' (keep : List Int) (k N : Nat) : keepAt keep k N ≤ N := by
  unfold keepAt
  split
  · split
    · have := Nat.mod_lt (‹Int›.toNat) (show 0 < N + 1 by omega)
      omega
    · omega
  · omega
theorem crash_mem (X : DV) (keep : List Int) {i : Nat} (hi : i < X.B.length) : (X.crash keep).B[i]? = X.B[i]? ∨ ∃ b ∈ X.L i, (X.crash keep).B[i]? = some b := by
  obtain ⟨h1, h2, h3⟩ := crash_keeps X keep hi
  by_cases h : X.L i = []
  · exact Or.inl (h2 h)
  · have h3 := h3 h
    split at h3
    · rename_i hk
      have hlt : keepAt keep (placeOf X i) (X.L i).length - 1 < (X.L i).length := by
        have : keepAt keep (placeOf X i) (X.L i).length ≤ (X.L i).length := keepAt_le' keep (placeOf X i) (X.L i).length
        have hp : 0 < (X.L i).length := by cases hL : X.L i with | nil => exact absurd hL h | cons a l => simp
        omega
      refine Or.inr ⟨(X.L i)[keepAt keep (placeOf X i) (X.L i).length - 1], List.getElem_mem hlt, ?_⟩
      rw [h3, List.getElem?_eq_getElem hlt]; rfl
    · exact Or.inl h3

theorem crash_L_nil (X : DV) (keep : List Int) (h : ∀ i, X.B.length ≤ i → X.L i = []) (i : Nat) : (X.crash keep).L i = [] := by
  by_cases hi : i < X.B.length
  · exact (crash_keeps X keep hi).1
  · have := crash_L_le X keep i
    rw [h i (by omega)] at this
    exact List.eq_nil_of_length_eq_zero (by simpa using this)

theorem crash_B_len (X : DV) (keep : List Int) : (X.crash keep).B.length = X.B.length := crashN_len X keep _
structure Part (B B' : List Blk) (pl : Nat) (cs : List Blk) : Prop where
  len : B'.length = B.length
  each : ∀ i, i < B.length → B'[i]? = B[i]? ∨ (pl ≤ i ∧ i < pl + cs.length ∧ B'[i]? = cs[i - pl]?)
structure Full (B B' : List Blk) (pl : Nat) (cs : List Blk) (k : Nat) (hd : Blk) : Prop where
  len : B'.length = B.length
  head : B'[k]? = some hd
  each : ∀ i, i < B.length → i ≠ k → B'[i]? = if pl ≤ i ∧ i < pl + cs.length then cs[i - pl]? else B[i]?

structure Idle (X : DV) : Prop where
  up : X.down = false
  L : ∀ i, X.L i = []
  ge : 6 ≤ X.B.length
  le : X.B.length ≤ 4096
  w64 : ∀ b ∈ X.B, b.length = 64

theorem Idle.cur {X : DV} (h : Idle X) (i : Nat) : X.cur i = X.B[i]?.getD [] := by unfold DV.cur; rw [h.L]; rfl

theorem part_64 {B B' : List Blk} {pl : Nat} {cs : List Blk} (h : Part B B' pl cs) (hB : ∀ b ∈ B, b.length = 64) (hc : ∀ c ∈ cs, c.length = 64) : ∀ b ∈ B', b.length = 64 := by
  intro b hb
  obtain ⟨i, hi, rfl⟩ := List.getElem_of_mem hb
  have hi' : i < B.length := by rw [← h.len]; exact hi
  rcases h.each i hi' with e | ⟨_, _, e⟩
  · rw [List.getElem?_eq_getElem hi] at e
    exact hB _ (List.mem_of_getElem? e.symm)
  · rw [List.getElem?_eq_getElem hi] at e
    exact hc _ (List.mem_of_getElem? e.symm)
theorem full_64 {B B' : List Blk} {pl k : Nat} {cs : List Blk} {hd : Blk} (h : Full B B' pl cs k hd) (hB : ∀ b ∈ B, b.length = 64) (hc : ∀ c ∈ cs, c.length = 64) (hh : hd.length = 64) : ∀ b ∈ B', b.length = 64 := by
  intro b hb
  obtain ⟨i, hi, rfl⟩ := List.getElem_of_mem hb
  have hi' : i < B.length := by rw [← h.len]; exact hi
  by_cases hk : i = k
  · subst hk
    have := h.head
    rw [List.getElem?_eq_getElem hi] at this
    rw [Option.some.inj this]; exact hh
  · have e := h.each i hi' hk
    rw [List.getElem?_eq_getElem hi] at e
    split at e
    · exact hc _ (List.mem_of_getElem? e.symm)
    · exact hB _ (List.mem_of_getElem? e.symm)

theorem putH_spec {X : DV} (h : X.down = false) (hL : ∀ i, X.L i = []) (hle : 2 ≤ X.B.length) (s a u : Nat) :
    Goes X (putH X s a u).2 ∧ (putH X s a u).2.B.length = X.B.length ∧
    (((putH X s a u).1 = 0 ∧ (putH X s a u).2.down = false ∧ (∀ i, (putH X s a u).2.L i = []) ∧ (putH X s a u).2.B = X.B.set (s % 2) (headB s a u)) ∨
     ((putH X s a u).1 = 15 ∧ X.fuse ≠ -1 ∧ (putH X s a u).2.down = true ∧ (putH X s a u).2.B = X.B ∧ ((∀ i, (putH X s a u).2.L i = []) ∨ (∀ i, (putH X s a u).2.L i = if i = s % 2 then [headB s a u] else [])))) := by
  have hlt : s % 2 < X.B.length := by omega
  obtain ⟨g1, b1, h1⟩ := wr_one (b := headB s a u) h hlt (headB_length s a u)
  rw [headB_length] at h1
  have h1' : (writeC X ((s % 2 : Nat) : Int) 64 = 0 ∧ (X.write ((s % 2 : Nat) : Int) (headB s a u)).down = false ∧ ∀ j, (X.write ((s % 2 : Nat) : Int) (headB s a u)).L j = if j = s % 2 then X.L j ++ [headB s a u] else X.L j) ∨
     (writeC X ((s % 2 : Nat) : Int) 64 = 15 ∧ X.fuse = 0 ∧ (X.write ((s % 2 : Nat) : Int) (headB s a u)).down = true ∧ ∀ j, (X.write ((s % 2 : Nat) : Int) (headB s a u)).L j = X.L j) := h1
  unfold putH
  generalize hX1 : X.write ((s % 2 : Nat) : Int) (headB s a u) = X1 at *
  rcases h1' with ⟨e1, d1, l1⟩ | ⟨e1, f1, d1, l1⟩
  · rw [if_neg (fun hh => hh e1)]
    obtain ⟨g2, h2⟩ := fl_one d1
    rcases h2 with ⟨e2, d2, l2, b2⟩ | ⟨e2, f2, d2, l2, b2⟩
    · rw [if_neg (by simp [e2])]
      have hb : X1.flush.B = X.B.set (s % 2) (headB s a u) := by
        rw [b2, b1]
        apply List.ext_getElem?
        intro i
        rw [List.getElem?_map, List.getElem?_set]
        by_cases hi : i < X.B.length
        · rw [List.getElem?_range hi]
          simp only [Option.map_some]
          unfold DV.cur
          rw [l1, hL, b1]
          by_cases hik : s % 2 = i
          · subst hik; simp [hi]
          · rw [if_neg (fun e => hik e.symm), if_neg hik]
            simp [hi]
        · rw [List.getElem?_eq_none (by simpa using hi), if_neg (by omega), List.getElem?_eq_none (by omega)]; rfl
      exact ⟨g1.trans g2, by rw [hb, List.length_set], Or.inl ⟨rfl, d2, l2, hb⟩⟩
    · rw [if_pos (by simp [e2])]
      refine ⟨g1.trans g2, by show X1.flush.B.length = _; rw [b2, b1], Or.inr ⟨e2, fun e => ?_, d2, b2.trans b1, Or.inr (fun i => ?_)⟩⟩
      · have := g1.free e; omega
      · show X1.flush.L i = _
        rw [l2, l1, hL]; rfl
  · rw [if_pos (by rw [e1]; decide)]
    exact ⟨g1, by show X1.B.length = _; rw [b1], Or.inr ⟨e1, by omega, d1, b1, Or.inl (fun i => by show X1.L i = _; rw [l1, hL])⟩⟩

theorem layF_spec {X : DV} (h : Idle X) {pl : Nat} (h2 : 2 ≤ pl) (b : Blk) (hpl : pl + (chunks b).length ≤ X.B.length) (s a u : Nat) :
    Goes X (layF X pl b s a u).2 ∧ (layF X pl b s a u).2.B.length = X.B.length ∧
    (((layF X pl b s a u).1 = 0 ∧ Idle (layF X pl b s a u).2 ∧ Full X.B (layF X pl b s a u).2.B pl (chunks b) (s % 2) (headB s a u)) ∨
     ((layF X pl b s a u).1 = 15 ∧ X.fuse ≠ -1 ∧ (layF X pl b s a u).2.down = true ∧ (∀ j, ((layF X pl b s a u).2.L j).length ≤ 1) ∧
       ∀ keep, Idle ((layF X pl b s a u).2.crash keep) ∧ (Part X.B ((layF X pl b s a u).2.crash keep).B pl (chunks b) ∨ Full X.B ((layF X pl b s a u).2.crash keep).B pl (chunks b) (s % 2) (headB s a u)))) := by
  have hc64 : ∀ c ∈ chunks b, c.length = 64 := fun c hc => by
    unfold chunks at hc
    obtain ⟨k, _, rfl⟩ := List.mem_map.1 hc
    exact chunkAt_length b k
  obtain ⟨g1, b1, m, hm, l1, h1⟩ := wrBlocks_spec (chunks b) X pl h.up hc64 hpl
  -- what a crash leaves where nothing but data waits
  have part : ∀ (Y : DV), Y.B = X.B → (∀ i, Y.L i = if pl ≤ i ∧ i < pl + m then X.L i ++ [(chunks b)[i - pl]?.getD []] else X.L i) → (∀ j, (Y.L j).length ≤ 1) ∧ ∀ keep, Idle (Y.crash keep) ∧ Part X.B (Y.crash keep).B pl (chunks b) := by
    intro Y hB hL
    have hLc : ∀ i, Y.L i = if pl ≤ i ∧ i < pl + m then [(chunks b)[i - pl]?.getD []] else [] := fun i => by
      rw [hL, h.L]; rfl
    refine ⟨fun j => by rw [hLc]; split <;> simp, fun keep => ?_⟩
    have hP : Part X.B (Y.crash keep).B pl (chunks b) := by
      refine ⟨by rw [crash_B_len, hB], fun i hi => ?_⟩
      rcases crash_mem Y keep (i := i) (by rw [hB]; exact hi) with e | ⟨x, hx, e⟩
      · exact Or.inl (by rw [e, hB])
      · rw [hLc] at hx
        split at hx
        · rename_i hr
          simp only [List.mem_singleton] at hx
          refine Or.inr ⟨hr.1, by omega, ?_⟩
          rw [e, hx, List.getElem?_eq_getElem (show i - pl < (chunks b).length by omega)]; rfl
        · simp at hx
    refine ⟨⟨rfl, fun i => crash_L_nil Y keep (fun i hi => ?_) i, by rw [crash_B_len, hB]; exact h.ge, by rw [crash_B_len, hB]; exact h.le, part_64 hP h.w64 hc64⟩, hP⟩
    rw [hLc, if_neg (by rw [hB] at hi; omega)]
  unfold layF
  rcases h1 with ⟨e1, rfl, d1⟩ | ⟨e1, d1, f1⟩
  · rw [if_neg (by simp [e1])]
    generalize hX1 : (wrBlocks X pl (chunks b)).2 = X1 at *
    obtain ⟨g2, h2'⟩ := fl_one d1
    rcases h2' with ⟨e2, d2, l2, b2⟩ | ⟨e2, f2, d2, l2, b2⟩
    · rw [if_neg (by simp [e2])]
      have hlen2 : X1.flush.B.length = X.B.length := by rw [b2, b1]; simp
      have hB2 : ∀ i, i < X.B.length → X1.flush.B[i]? = if pl ≤ i ∧ i < pl + (chunks b).length then (chunks b)[i - pl]? else X.B[i]? := by
        intro i hi
        rw [b2, b1, List.getElem?_map, List.getElem?_range hi]
        simp only [Option.map_some]
        unfold DV.cur
        rw [l1, h.L, b1]
        split
        · rename_i hr
          rw [List.getElem?_eq_getElem (show i - pl < (chunks b).length by omega)]; rfl
        · simp [hi]
      obtain ⟨g3, n3, h3⟩ := putH_spec (X := X1.flush) d2 l2 (by rw [hlen2]; have := h.ge; omega) s a u
      have full : ∀ B', B' = X1.flush.B.set (s % 2) (headB s a u) → Full X.B B' pl (chunks b) (s % 2) (headB s a u) := by
        rintro B' rfl
        have hs : s % 2 < X1.flush.B.length := by rw [hlen2]; have := h.ge; omega
        refine ⟨by rw [List.length_set, hlen2], List.getElem?_set_self hs, fun i hi hne => ?_⟩
        rw [List.getElem?_set_ne (fun e => hne e.symm)]
        exact hB2 i hi
      have p2 : Part X.B X1.flush.B pl (chunks b) := by
        refine ⟨hlen2, fun i hi => ?_⟩
        rw [hB2 i hi]
        split
        · rename_i hr; exact Or.inr ⟨hr.1, hr.2, rfl⟩
        · exact Or.inl rfl
      generalize hX2 : X1.flush = X2 at *
      rcases h3 with ⟨e3, d3, l3, b3⟩ | ⟨e3, f3, d3, b3, l3⟩
      · have hF := full _ b3
        refine ⟨(g1.trans g2).trans g3, n3.trans hlen2, Or.inl ⟨e3, ⟨d3, l3, by rw [n3, hlen2]; exact h.ge, by rw [n3, hlen2]; exact h.le, full_64 hF h.w64 hc64 (headB_length s a u)⟩, hF⟩⟩
      · refine ⟨(g1.trans g2).trans g3, n3.trans hlen2, Or.inr ⟨e3, fun e => f3 ((g1.trans g2).free e), d3, fun j => ?_, fun keep => ?_⟩⟩
        · rcases l3 with l3 | l3
          · rw [l3]; simp
          · rw [l3]; split <;> simp
        · generalize hY : (putH X2 s a u).2 = Y at *
          have hLn : ∀ i, Y.B.length ≤ i → Y.L i = [] := fun i hi => by
            rcases l3 with l3 | l3
            · exact l3 i
            · rw [l3, if_neg]; have := h.ge; rw [n3, hlen2] at hi; omega
          have hyl : (Y.crash keep).B.length = X.B.length := by rw [crash_B_len, n3, hlen2]
          have hcase : (Y.crash keep).B = X2.B ∨ (Y.crash keep).B = X2.B.set (s % 2) (headB s a u) := by
            have hs : s % 2 < X2.B.length := by rw [hlen2]; have := h.ge; omega
            have hk := crash_mem Y keep (i := s % 2) (by rw [b3]; exact hs)
            have hoth : ∀ i, i < X2.B.length → i ≠ s % 2 → (Y.crash keep).B[i]? = X2.B[i]? := fun i hi hne => by
              rcases crash_mem Y keep (i := i) (by rw [b3]; exact hi) with e | ⟨x, hx, e⟩
              · rw [e, b3]
              · exfalso
                rcases l3 with l3 | l3
                · rw [l3] at hx; simp at hx
                · rw [l3, if_neg hne] at hx; simp at hx
            rcases hk with e | ⟨x, hx, e⟩
            · left
              apply List.ext_getElem?
              intro i
              by_cases hi : i < X2.B.length
              · by_cases hne : i = s % 2
                · rw [hne, e, b3]
                · exact hoth i hi hne
              · rw [List.getElem?_eq_none (by rw [hyl, ← hlen2]; omega), List.getElem?_eq_none (by omega)]
            · right
              have hx' : x = headB s a u := by
                rcases l3 with l3 | l3
                · rw [l3] at hx; simp at hx
                · rw [l3, if_pos rfl] at hx; simpa using hx
              subst hx'
              apply List.ext_getElem?
              intro i
              by_cases hi : i < X2.B.length
              · by_cases hne : i = s % 2
                · rw [hne, e, List.getElem?_set_self hs]
                · rw [hoth i hi hne, List.getElem?_set_ne (fun e => hne e.symm)]
              · rw [List.getElem?_eq_none (by rw [hyl, ← hlen2]; omega), List.getElem?_eq_none (by rw [List.length_set]; omega)]
          rcases hcase with e | e
          · exact ⟨⟨rfl, crash_L_nil Y keep hLn, by rw [hyl]; exact h.ge, by rw [hyl]; exact h.le, by rw [e]; exact part_64 p2 h.w64 hc64⟩, Or.inl (by rw [e]; exact p2)⟩
          · have hF := full _ e
            exact ⟨⟨rfl, crash_L_nil Y keep hLn, by rw [hyl]; exact h.ge, by rw [hyl]; exact h.le, full_64 hF h.w64 hc64 (headB_length s a u)⟩, Or.inr hF⟩
    · rw [if_pos (by simp [e2])]
      obtain ⟨q1, q2⟩ := part X1.flush (b2.trans b1) (fun i => by rw [l2, l1])
      refine ⟨g1.trans g2, by show X1.flush.B.length = _; rw [b2, b1], Or.inr ⟨e2, fun e => ?_, d2, q1, fun keep => ⟨(q2 keep).1, Or.inl (q2 keep).2⟩⟩⟩
      have := g1.free e; omega
  · rw [if_pos (by simp [e1])]
    obtain ⟨q1, q2⟩ := part _ b1 l1
    exact ⟨g1, by rw [b1], Or.inr ⟨e1, f1, d1, q1, fun keep => ⟨(q2 keep).1, Or.inl (q2 keep).2⟩⟩⟩

end Go.Proofs.YtbjagmlbamjdbaaGreat.wals
end

section
namespace Go.Proofs.YtbjagmlbamjdbaaGreat.wals
open Go.My disks

def Data (B : List Blk) (f : Nat) (bs : Blk) : Prop := ∀ p, p < bs.length → (B[f + p / 64]?.getD [])[p % 64]? = bs[p]?

structure Stands (X : DV) (recs : List Blk) (s a : Nat) : Prop where
  idle : Idle X
  s1 : 1 ≤ s
  area : a ≤ 1
  short : ∀ r ∈ recs, r.length ≤ 4096
  fits : (framesB recs).length ≤ 64 * areaN X.B.length
  head : X.B[s % 2]? = some (headB s a (framesB recs).length)
  other : X.B[1 - s % 2]? = some (zeros 64) ∨ ∃ a' u', X.B[1 - s % 2]? = some (headB (s - 1) a' u') ∧ 2 ≤ s ∧ a' ≤ 1 ∧ u' ≤ 64 * areaN X.B.length
  data : Data X.B (firstN X.B.length a) (framesB recs)

structure Blank (X : DV) : Prop where
  idle : Idle X
  x : X.B[0]? = some (zeros 64)
  y : X.B[1]? = some (zeros 64)

def logV (recs : List Blk) (s a : Nat) : LV := ⟨s, a, (framesB recs).length, recs, (framesB recs).drop ((framesB recs).length / 64 * 64), [], 0, false⟩

theorem areaN_le {n : Nat} (h : n ≤ 4096) : areaN n ≤ 2047 := by unfold areaN; omega
theorem area_in {n a : Nat} (h6 : 6 ≤ n) (ha : a ≤ 1) : firstN n a + areaN n ≤ n ∧ 2 ≤ firstN n a := by
  unfold firstN areaN
  have : a = 0 ∨ a = 1 := by omega
  rcases this with rfl | rfl <;> omega
theorem area_apart {n : Nat} : firstN n 0 + areaN n = firstN n 1 := by unfold firstN; omega

theorem headB_ne (s a u : Nat) : headB s a u ≠ zeros 64 := by
  intro e
  have := congrArg (fun l : Blk => l[0]?) e
  simp [headB, headPre, zeros] at this

theorem bytesOf_length {X : DV} (h : Idle X) (f : Nat) : ∀ k, f + k ≤ X.B.length → (bytesOf X f k).length = 64 * k
  | 0, _ => rfl
  | k + 1, hk => by
    rw [bytesOf, List.length_append, bytesOf_length h f k (by omega), h.cur, List.getElem?_eq_getElem (show f + k < X.B.length by omega)]
    simp only [Option.getD_some]
    rw [h.w64 _ (List.getElem_mem _)]; omega
theorem bytesOf_get {X : DV} (h : Idle X) (f : Nat) : ∀ k, f + k ≤ X.B.length → ∀ p, p < 64 * k → (bytesOf X f k)[p]? = (X.B[f + p / 64]?.getD [])[p % 64]?
  | 0, _, p, hp => by omega
  | k + 1, hk, p, hp => by
    rw [bytesOf]
    by_cases hlt : p < 64 * k
    · rw [List.getElem?_append_left (by rw [bytesOf_length h f k (by omega)]; exact hlt)]
      exact bytesOf_get h f k (by omega) p hlt
    · rw [List.getElem?_append_right (by rw [bytesOf_length h f k (by omega)]; omega), bytesOf_length h f k (by omega), h.cur, show p / 64 = k by omega, show p - 64 * k = p % 64 by omega]

theorem data_read {X : DV} (h : Idle X) {f : Nat} {bs : Blk} (hd : Data X.B f bs) (hf : f + (bs.length + 63) / 64 ≤ X.B.length) : (bytesOf X f ((bs.length + 63) / 64)).take bs.length = bs := by
  apply List.ext_getElem?
  intro p
  by_cases hp : p < bs.length
  · rw [List.getElem?_take_of_lt hp, bytesOf_get h f _ hf p (by omega), hd p hp]
  · rw [List.getElem?_eq_none (by rw [List.length_take]; omega), List.getElem?_eq_none (by omega)]

theorem Stands.load {X : DV} {recs : List Blk} {s a : Nat} (h : Stands X recs s a) : loadF X s a (framesB recs).length = some (logV recs s a) := by
  have hi := area_in h.idle.ge h.area
  have hf := h.fits
  unfold loadF
  rw [data_read h.idle h.data (by omega), allF_frames recs h.short, if_neg (by simp)]
  rfl

theorem Stands.part {X Y : DV} {recs : List Blk} {s a pl : Nat} {cs : List Blk} (h : Stands X recs s a) (hY : Idle Y) (hP : Part X.B Y.B pl cs) (h2 : 2 ≤ pl)
    (hok : ∀ p, p < (framesB recs).length → pl ≤ firstN X.B.length a + p / 64 → firstN X.B.length a + p / 64 < pl + cs.length → (cs[firstN X.B.length a + p / 64 - pl]?.getD [])[p % 64]? = (framesB recs)[p]?) : Stands Y recs s a := by
  have hn := hP.len
  have low : ∀ k, k < 2 → Y.B[k]? = X.B[k]? := fun k hk => by
    rcases hP.each k (by have := h.idle.ge; omega) with e | ⟨e, _⟩
    · exact e
    · omega
  refine ⟨hY, h.s1, h.area, h.short, by rw [hn]; exact h.fits, by rw [low _ (by omega)]; exact h.head, ?_, fun p hp => ?_⟩
  · rw [low _ (by omega), hn]; exact h.other
  · rw [hn]
    have hi := area_in h.idle.ge h.area
    have hf := h.fits
    rcases hP.each (firstN X.B.length a + p / 64) (by omega) with e | ⟨e1, e2, e3⟩
    · rw [e]; exact h.data p hp
    · rw [e3]; exact hok p hp e1 e2

theorem Stands.full {X Y : DV} {recs recs2 : List Blk} {s a a2 pl : Nat} {cs : List Blk} (h : Stands X recs s a) (hY : Idle Y) (ha : a2 ≤ 1) (hsh : ∀ r ∈ recs2, r.length ≤ 4096) (hfit : (framesB recs2).length ≤ 64 * areaN X.B.length)
    (hF : Full X.B Y.B pl cs ((s + 1) % 2) (headB (s + 1) a2 (framesB recs2).length)) (h2 : 2 ≤ pl)
    (hok : ∀ p, p < (framesB recs2).length → ((if pl ≤ firstN X.B.length a2 + p / 64 ∧ firstN X.B.length a2 + p / 64 < pl + cs.length then cs[firstN X.B.length a2 + p / 64 - pl]? else X.B[firstN X.B.length a2 + p / 64]?).getD [])[p % 64]? = (framesB recs2)[p]?) :
    Stands Y recs2 (s + 1) a2 := by
  have hn := hF.len
  have h6 := h.idle.ge
  have hs1 := h.s1
  refine ⟨hY, by omega, ha, hsh, by rw [hn]; exact hfit, hF.head, Or.inr ⟨a, (framesB recs).length, ?_, by omega, h.area, by rw [hn]; exact h.fits⟩, fun p hp => ?_⟩
  · rw [hF.each _ (by omega) (by omega), if_neg (by omega), show 1 - (s + 1) % 2 = s % 2 by omega, h.head, show s + 1 - 1 = s by omega]
  · rw [hn]
    have hi := area_in h.idle.ge ha
    rw [hF.each _ (by omega) (by omega)]
    exact hok p hp

theorem Blank.first {X Y : DV} (h : Blank X) (hY : Idle Y) (hB : Y.B = X.B.set 1 (headB 1 0 0)) : Stands Y [] 1 0 := by
  have h6 := h.idle.ge
  refine ⟨hY, by omega, by omega, by simp, by simp [framesB_nil], ?_, Or.inl ?_, fun p hp => by simp [framesB_nil] at hp⟩
  · rw [hB, show 1 % 2 = 1 from rfl, List.getElem?_set_self (by omega)]; rfl
  · rw [hB, show 1 - 1 % 2 = 0 from rfl, List.getElem?_set_ne (by omega)]; exact h.x

theorem drop_data (fs : Blk) (p k : Nat) : ((fs.drop (k * 64))[p]?) = fs[64 * k + p]? := by rw [List.getElem?_drop, Nat.mul_comm]

theorem sync_spec {X : DV} {recs wait : List Blk} {s a : Nat} (h : Stands X recs s a) (hw : ∀ r ∈ wait, r.length ≤ 4096) (hfit : (framesB (recs ++ wait)).length ≤ 64 * areaN X.B.length) :
    ∀ R, layF X (firstN X.B.length a + (framesB recs).length / 64) ((framesB recs).drop ((framesB recs).length / 64 * 64) ++ framesB wait) (s + 1) a (framesB (recs ++ wait)).length = R →
    Goes X R.2 ∧ R.2.B.length = X.B.length ∧ ((R.1 = 0 ∧ Stands R.2 (recs ++ wait) (s + 1) a) ∨
      (R.1 = 15 ∧ X.fuse ≠ -1 ∧ R.2.down = true ∧ (∀ j, (R.2.L j).length ≤ 1) ∧ ∀ keep, Stands (R.2.crash keep) recs s a ∨ Stands (R.2.crash keep) (recs ++ wait) (s + 1) a)) := by
  rintro R rfl
  obtain ⟨u, hu⟩ : ∃ u, (framesB recs).length = u := ⟨_, rfl⟩
  obtain ⟨b, hb⟩ : ∃ b, (framesB recs).drop ((framesB recs).length / 64 * 64) ++ framesB wait = b := ⟨_, rfl⟩
  have hfa : framesB (recs ++ wait) = framesB recs ++ framesB wait := framesB_append _ _
  have hlen : b.length + u / 64 * 64 = (framesB (recs ++ wait)).length := by
    rw [← hb, hfa, List.length_append, List.length_append, List.length_drop, hu]; omega
  have hbget : ∀ p, b[p]? = (framesB (recs ++ wait))[64 * (u / 64) + p]? := fun p => by
    rw [← hb, hu, hfa]
    by_cases hp : p < u - u / 64 * 64
    · rw [List.getElem?_append_left (by rw [List.length_drop, hu]; exact hp), drop_data, List.getElem?_append_left (by rw [hu]; omega)]
    · rw [List.getElem?_append_right (by rw [List.length_drop, hu]; omega), List.getElem?_append_right (by rw [hu]; omega), List.length_drop, hu]
      congr 1; omega
  have hi := area_in h.idle.ge h.area
  rw [hu, show (framesB recs).drop (u / 64 * 64) ++ framesB wait = b by rw [← hu]; exact hb]
  obtain ⟨pl, hpl⟩ : ∃ pl, firstN X.B.length a + u / 64 = pl := ⟨_, rfl⟩
  rw [hpl]
  have hcl := chunks_length b
  have hin : pl + (chunks b).length ≤ X.B.length := by rw [hcl]; omega
  obtain ⟨g, hn, hr⟩ := layF_spec h.idle (pl := pl) (by omega) b hin (s + 1) a (framesB (recs ++ wait)).length
  -- the byte of a chunk
  have hch : ∀ p, p < (framesB (recs ++ wait)).length → pl ≤ firstN X.B.length a + p / 64 → firstN X.B.length a + p / 64 < pl + (chunks b).length ∧ ((chunks b)[firstN X.B.length a + p / 64 - pl]?.getD [])[p % 64]? = (framesB (recs ++ wait))[p]? := by
    intro p hp h1
    have h3 : firstN X.B.length a + p / 64 - pl = p / 64 - u / 64 := by omega
    have h4 : p / 64 - u / 64 < (b.length + 63) / 64 := by omega
    refine ⟨by rw [hcl]; omega, ?_⟩
    rw [h3, chunks_get b h4]
    simp only [Option.getD_some]
    rw [chunkAt_get b _ _ (by omega) (by omega), hbget]
    congr 1; omega
  have hokP : ∀ p, p < (framesB recs).length → pl ≤ firstN X.B.length a + p / 64 → firstN X.B.length a + p / 64 < pl + (chunks b).length → ((chunks b)[firstN X.B.length a + p / 64 - pl]?.getD [])[p % 64]? = (framesB recs)[p]? := by
    intro p hp h1 _
    have hp2 : p < (framesB (recs ++ wait)).length := by rw [hfa, List.length_append]; omega
    rw [(hch p hp2 h1).2, hfa, List.getElem?_append_left hp]
  have hokF : ∀ p, p < (framesB (recs ++ wait)).length → ((if pl ≤ firstN X.B.length a + p / 64 ∧ firstN X.B.length a + p / 64 < pl + (chunks b).length then (chunks b)[firstN X.B.length a + p / 64 - pl]? else X.B[firstN X.B.length a + p / 64]?).getD [])[p % 64]? = (framesB (recs ++ wait))[p]? := by
    intro p hp
    by_cases h1 : pl ≤ firstN X.B.length a + p / 64
    · obtain ⟨h2, h3⟩ := hch p hp h1
      rw [if_pos ⟨h1, h2⟩]; exact h3
    · rw [if_neg (fun h => h1 h.1)]
      have hpu : p < (framesB recs).length := by omega
      rw [h.data p hpu, hfa, List.getElem?_append_left hpu]
  have hsh : ∀ r ∈ recs ++ wait, r.length ≤ 4096 := fun r hr => by
    rcases List.mem_append.1 hr with hr | hr
    · exact h.short r hr
    · exact hw r hr
  refine ⟨g, hn, ?_⟩
  rcases hr with ⟨e1, hI, hF⟩ | ⟨e1, f1, d1, q1, hk⟩
  · exact Or.inl ⟨e1, h.full hI h.area hsh hfit hF (by omega) hokF⟩
  · refine Or.inr ⟨e1, f1, d1, q1, fun keep => ?_⟩
    obtain ⟨hI, hc⟩ := hk keep
    rcases hc with hP | hF
    · exact Or.inl (h.part hI hP (by omega) hokP)
    · exact Or.inr (h.full hI h.area hsh hfit hF (by omega) hokF)

theorem reset_spec {X : DV} {recs recs2 : List Blk} {s a : Nat} (h : Stands X recs s a) (hw : ∀ r ∈ recs2, r.length ≤ 4096) (hfit : (framesB recs2).length ≤ 64 * areaN X.B.length) :
    ∀ R, layF X (firstN X.B.length (1 - a)) (framesB recs2) (s + 1) (1 - a) (framesB recs2).length = R →
    Goes X R.2 ∧ R.2.B.length = X.B.length ∧ ((R.1 = 0 ∧ Stands R.2 recs2 (s + 1) (1 - a)) ∨
      (R.1 = 15 ∧ X.fuse ≠ -1 ∧ R.2.down = true ∧ (∀ j, (R.2.L j).length ≤ 1) ∧ ∀ keep, Stands (R.2.crash keep) recs s a ∨ Stands (R.2.crash keep) recs2 (s + 1) (1 - a))) := by
  rintro R rfl
  have ha := h.area
  have hi := area_in h.idle.ge ha
  have hi2 := area_in (a := 1 - a) h.idle.ge (by omega)
  have hfo := h.fits
  have hap := area_apart (n := X.B.length)
  obtain ⟨b, hb⟩ : ∃ b, framesB recs2 = b := ⟨_, rfl⟩
  rw [hb] at hfit ⊢
  have hcl := chunks_length b
  have hin : firstN X.B.length (1 - a) + (chunks b).length ≤ X.B.length := by rw [hcl]; omega
  obtain ⟨g, hn, hr⟩ := layF_spec h.idle (pl := firstN X.B.length (1 - a)) hi2.2 b hin (s + 1) (1 - a) b.length
  have hokP : ∀ p, p < (framesB recs).length → firstN X.B.length (1 - a) ≤ firstN X.B.length a + p / 64 → firstN X.B.length a + p / 64 < firstN X.B.length (1 - a) + (chunks b).length → ((chunks b)[firstN X.B.length a + p / 64 - firstN X.B.length (1 - a)]?.getD [])[p % 64]? = (framesB recs)[p]? := by
    intro p hp h1 h2
    exfalso
    rw [hcl] at h2
    have : a = 0 ∨ a = 1 := by omega
    rcases this with rfl | rfl
    · rw [show 1 - 0 = 1 from rfl] at *; omega
    · rw [show 1 - 1 = 0 from rfl] at *; omega
  have hokF : ∀ p, p < (framesB recs2).length → ((if firstN X.B.length (1 - a) ≤ firstN X.B.length (1 - a) + p / 64 ∧ firstN X.B.length (1 - a) + p / 64 < firstN X.B.length (1 - a) + (chunks b).length then (chunks b)[firstN X.B.length (1 - a) + p / 64 - firstN X.B.length (1 - a)]? else X.B[firstN X.B.length (1 - a) + p / 64]?).getD [])[p % 64]? = (framesB recs2)[p]? := by
    rw [hb]
    intro p hp
    rw [if_pos ⟨by omega, by rw [hcl]; omega⟩, show firstN X.B.length (1 - a) + p / 64 - firstN X.B.length (1 - a) = p / 64 by omega, chunks_get b (by omega)]
    simp only [Option.getD_some]
    rw [chunkAt_get b _ _ (by omega) (by omega)]
    congr 1; omega
  refine ⟨g, hn, ?_⟩
  rcases hr with ⟨e1, hI, hF⟩ | ⟨e1, f1, d1, q1, hk⟩
  · exact Or.inl ⟨e1, h.full hI (by omega) hw (by rw [hb]; exact hfit) (by rw [hb]; exact hF) hi2.2 hokF⟩
  · refine Or.inr ⟨e1, f1, d1, q1, fun keep => ?_⟩
    obtain ⟨hI, hc⟩ := hk keep
    rcases hc with hP | hF
    · exact Or.inl (h.part hI hP hi2.2 hokP)
    · exact Or.inr (h.full hI (by omega) hw (by rw [hb]; exact hfit) (by rw [hb]; exact hF) hi2.2 hokF)

end Go.Proofs.YtbjagmlbamjdbaaGreat.wals
end

section
namespace Go.Proofs.YtbjagmlbamjdbaaGreat.wals
open Go.RowKit Go.My disks bufs
set_option maxRecDepth 100000

def strV (b : Blk) : Value := .string ⟨b.toArray⟩
theorem one_strs (l : List Blk) : ∀ v ∈ l.map strV, v.oneCell' = true := fun v hv => by obtain ⟨b, -, rfl⟩ := List.mem_map.1 hv; rfl

structure LV.Ok (n : Nat) (V : LV) : Prop where
  ge : 6 ≤ n
  le : n ≤ 4096
  seq : V.seq ≤ 1152921504606846976
  area : V.area ≤ 1
  fit : V.used + V.more ≤ 64 * areaN n
  used : V.used = sizeB V.recs
  more : V.more = sizeB V.wait
  tail : V.tail.length = V.used % 64
  short : ∀ r ∈ V.wait, r.length ≤ 4096

theorem LV.Ok.small {n : Nat} {V : LV} (h : V.Ok n) : V.used ≤ 131008 ∧ V.more ≤ 131008 ∧ V.recs.length ≤ 131008 ∧ V.wait.length ≤ 131008 ∧ areaN n ≤ 2047 := by
  have h1 := areaN_le h.le
  have h2 := h.fit
  have h3 := sizeB_ge V.recs
  have h4 := sizeB_ge V.wait
  have h5 := h.used
  have h6 := h.more
  omega

def logC (d : Nat) (V : LV) (rv tv wv : Value) : List Value := [.pointer (some ⟨d, 0, none⟩), .int .i64 V.seq, .int .i64 V.area, .int .i64 V.used, rv, tv, wv, .int .i64 V.more, .bool V.lost]

structure LogIs (w : World) (l d : Nat) (F : Nat → Prop) (V : LV) (rv tv wv : Value) : Prop where
  head : Arr w l 177 (logC d V rv tv wv)
  recs : w.ownsRow 0 9 1 rv V.recs.length (V.recs.map strV)
  tail : w.ownsRow 0 5 1 tv V.tail.length (cellsB V.tail)
  wait : w.ownsRow 0 9 1 wv V.wait.length (V.wait.map strV)
  rw : ∀ g, rv.ownBlock = some g → wv.ownBlock ≠ some g
  fl : F l
  fr : ∀ g, rv.ownBlock = some g → F g
  ft : ∀ g, tv.ownBlock = some g → F g
  fw : ∀ g, wv.ownBlock = some g → F g
  lt : ∀ k, F k → k < w.heap.size

structure LogAt (w : World) (l d : Nat) (F Fd : Nat → Prop) (X : DV) (V : LV) : Prop where
  log : ∃ rv tv wv, LogIs w l d F V rv tv wv
  disk : DiskAt w d Fd X
  off : ∀ k, F k → ¬ Fd k

variable {w w' : World} {l d : Nat} {F Fd : Nat → Prop} {X : DV} {V : LV} {rv tv wv : Value}

theorem LogIs.kept (h : LogIs w l d F V rv tv wv) {S : Nat → Prop} (hc : Chg S w w') (hs : ∀ k, F k → ¬ S k) : LogIs w' l d F V rv tv wv :=
  ⟨hc.at h.head (hs _ h.fl), row_kept h.recs hc (fun g hg => hs _ (h.fr g hg)), row_kept h.tail hc (fun g hg => hs _ (h.ft g hg)), row_kept h.wait hc (fun g hg => hs _ (h.fw g hg)), h.rw, h.fl, h.fr, h.ft, h.fw, fun k hk => Nat.lt_of_lt_of_le (h.lt k hk) hc.size⟩

theorem LogAt.kept (h : LogAt w l d F Fd X V) {S : Nat → Prop} (hc : Chg S w w') (hs : ∀ k, F k ∨ Fd k → ¬ S k) : LogAt w' l d F Fd X V := by
  obtain ⟨⟨rv, tv, wv, hl⟩, hd, ho⟩ := h
  exact ⟨⟨rv, tv, wv, hl.kept hc (fun k hk => hs k (Or.inl hk))⟩, hd.kept hc (fun k hk => hs k (Or.inr hk)), ho⟩

theorem LogAt.fresh (h : LogAt w l d F Fd X V) (hc : Chg (fun _ => False) w w') : LogAt w' l d F Fd X V := h.kept hc (fun _ _ h => h)

theorem LogAt.lt (h : LogAt w l d F Fd X V) : ∀ k, F k ∨ Fd k → k < w.heap.size := by
  obtain ⟨⟨rv, tv, wv, hl⟩, hd, ho⟩ := h
  intro k hk
  rcases hk with hk | hk
  · exact hl.lt k hk
  · exact hd.lt k hk

theorem log_no (w : World) (h : LogAt w l d F Fd X V) : Calls Tryz.prog 107 #[.pointer (some ⟨l, 0, none⟩)] w fun e w' => e = .returned (.bool false) ∧ w = w' := by
  obtain ⟨⟨rv, tv, wv, hl⟩, -, -⟩ := h
  have c0 := hl.head.cell (i := 0) rfl
  clear hl
  go_enter Tryz.func107, Tryz.ntmps107
  go_wp2
  go_ret
  exact ⟨rfl, rfl⟩

theorem area_any (w : World) (h : LogAt w l d F Fd X V) (h2 : 2 ≤ X.B.length) (hle : X.B.length ≤ 4096) : Calls Tryz.prog 104 #[.pointer (some ⟨l, 0, none⟩)] w fun e w' => e = .returned (.int .i64 (areaN X.B.length : Int)) ∧ w = w' := by
  have HD := Lib.hid h.disk
  obtain ⟨⟨rv, tv, wv, hl⟩, -, -⟩ := h
  have c0 := hl.head.cell (i := 0) rfl
  obtain ⟨n, hn⟩ : ∃ n, X.B.length = n := ⟨_, rfl⟩
  have HN := Lib.hid hn
  have i1 : (2 : Int) ≤ n := by omega
  have i2 : (n : Int) ≤ 4096 := by omega
  clear hl h2 hle hn
  go_enter Tryz.func104, Tryz.ntmps104
  go_wp2_with (go_at_call 102; refine (blocks_any _ HD.out).mono ?_; rw [HN.out]; rintro e w' ⟨rfl, rfl⟩)
  go_ret
  refine ⟨?_, rfl⟩
  rw [HN.out]
  unfold areaN
  rw [show (((n - 2) / 2 : Nat) : Int) = ((n : Int) - 2) / 2 by omega]
  rfl

theorem area_fresh (w : World) (h : LogAt w l d F Fd X V) (h2 : 2 ≤ X.B.length) (hle : X.B.length ≤ 4096) (m : FreshW w) :
    Calls Tryz.prog 104 #[.pointer (some ⟨l, 0, none⟩)] m.val fun e w'' => e = .returned (.int .i64 (areaN X.B.length : Int)) ∧ ∃ m' : FreshW w, w'' = m'.val :=
  fresh_call ((area_any _ (h.fresh m.chg) h2 hle).mono (fun e w' hh => ⟨hh.1, hh.2 ▸ Chg.refl _ _⟩))

theorem first_any (w : World) (h : LogAt w l d F Fd X V) (h2 : 2 ≤ X.B.length) (hle : X.B.length ≤ 4096) (a : Nat) (ha : a ≤ 1) : Calls Tryz.prog 153 #[.pointer (some ⟨l, 0, none⟩), .int .i64 a] w fun e w' => e = .returned (.int .i64 (firstN X.B.length a : Int)) ∧ w = w' := by
  have HA := Lib.hid (area_any w h h2 hle)
  obtain ⟨n, hn⟩ : ∃ n, areaN X.B.length = n := ⟨_, rfl⟩
  have HN := Lib.hid hn
  have i2 : (n : Int) ≤ 2047 := by have := areaN_le hle; omega
  have HF := Lib.hid (show firstN X.B.length a = 2 + a * n by unfold firstN; rw [hn])
  have ha' : a = 0 ∨ a = 1 := by omega
  clear h h2 hle hn ha
  rcases ha' with rfl | rfl
  all_goals go_enter Tryz.func153, Tryz.ntmps153
  all_goals go_wp2_with (go_at_call 104; refine HA.out.mono ?_; rw [HN.out]; rintro e w' ⟨rfl, rfl⟩)
  all_goals go_ret
  all_goals refine ⟨?_, rfl⟩
  all_goals rw [HF.out]
  all_goals simp

theorem framed_any (w : World) (b : Blk) (hb : b.length ≤ 1000000000000) : Calls Tryz.prog 126 #[strV b] w fun e w' => e = .returned (.tuple #[.int .i64 ((b.length : Int) + 8), .bool (decide (b.length ≤ 4096))]) ∧ w = w' := by
  have hsz : (⟨b.toArray⟩ : ByteArray).size = b.length := by simp [ByteArray.size]
  unfold strV
  obtain ⟨s, hs⟩ : ∃ s : ByteArray, ⟨b.toArray⟩ = s := ⟨_, rfl⟩
  rw [hs] at hsz ⊢
  have HS := Lib.hid hsz
  have i1 : (s.size : Int) ≤ 1000000000000 := by omega
  clear hsz hb
  go_enter Tryz.func126, Tryz.ntmps126
  go_wp2_with fail
  go_ret2
  refine ⟨?_, rfl⟩
  rw [← HS.out]
  have hd : decide ((s.size : Int) ≤ 4096) = decide (s.size ≤ 4096) := by rw [decide_eq_decide]; omega
  rw [← hd]
  rfl

theorem room_any (w : World) (h : LogAt w l d F Fd X V) (hV : V.Ok X.B.length) : Calls Tryz.prog 127 #[.pointer (some ⟨l, 0, none⟩)] w fun e w' => e = .returned (.int .i64 (roomF X.B.length V)) ∧ Chg (fun _ => False) w w' := by
  have HNo := Lib.hid (log_no w h)
  have har := area_fresh w h (by have := hV.ge; omega) hV.le
  have hs := hV.small
  have H := Lib.hid h
  have HV := Lib.hid hV
  obtain ⟨⟨rv, tv, wv, hl⟩, -, -⟩ := h
  have q3 : ∀ n : FreshW w, n.val.cell? ⟨l, 3, none⟩ = some (.int .i64 V.used) := fun n => n.chg.cell (hl.head.cell (i := 3) rfl) id
  have q7 : ∀ n : FreshW w, n.val.cell? ⟨l, 7, none⟩ = some (.int .i64 V.more) := fun n => n.chg.cell (hl.head.cell (i := 7) rfl) id
  obtain ⟨n, hn⟩ : ∃ n, areaN X.B.length = n := ⟨_, rfl⟩
  have HN := Lib.hid hn
  rw [hn] at har
  have HAr := Lib.hid har
  have i1 : (n : Int) ≤ 2047 := by omega
  have i2 : (V.used : Int) ≤ 131008 := by omega
  have i3 : (V.more : Int) ≤ 131008 := by omega
  have i5 : 0 ≤ (64 : Int) * n := by omega
  clear hl hs hV hn har
  go_enter Tryz.func127, Tryz.ntmps127
  go_wp2_with (first
    | (go_at_call 107; refine HNo.out.mono ?_; rintro e w' ⟨rfl, rfl⟩))
  refine wp_region_fresh (by kernel_rfl) (by kernel_rfl) ?_
  repeat (go_big_quiet_step ((go_at_call 104; exact HAr.out _)))
  refine wpQuiet_nil ?_
  rintro _ ⟨n10, rfl⟩
  go_wp2_with fail
  go_ret
  refine ⟨?_, n10.chg⟩
  unfold roomF
  rw [HN.out]
  rfl

theorem records_any (w : World) (h : LogAt w l d F Fd X V) (hr : V.recs.length ≤ 131008) : Calls Tryz.prog 59 #[.pointer (some ⟨l, 0, none⟩)] w fun e w' => ∃ v, e = .returned v ∧ w'.ownsRow w.heap.size 9 1 v V.recs.length (V.recs.map strV) ∧ Chg (fun _ => False) w w' := by
  have HNo := Lib.hid (log_no w h)
  obtain ⟨⟨rv, tv, wv, hl⟩, -, -⟩ := h
  obtain ⟨oa, cap, rfl⟩ := own_slice hl.recs
  have hc1 : Chg (fun _ => False) w (w.alloc (.cells #[] 9)) := (Chg.refl _ _).alloc _
  have c4 : (w.alloc (.cells #[] 9)).cell? ⟨l, 4, none⟩ = some (.slice oa V.recs.length cap) := hc1.cell (hl.head.cell rfl) id
  have ho : (w.alloc (.cells #[] 9)).ownsRow w.heap.size 9 1 (.slice (some ⟨w.heap.size, 0, none⟩) 0 0) 0 [] := own_of_block (n := 0) at1 (Nat.le_refl _) rfl (by unfold maxLen; omega)
  obtain ⟨v2, w2, hr2, ho2, hg2, -⟩ := append_strs ho (SlAt.of_own (own_kept hl.recs hc1)) (one_strs _) (by simp) (by simp only [List.length_map, List.length_nil]; omega) 109
  simp only [List.nil_append, List.length_map] at ho2
  have HR2 := Lib.hid hr2
  have HO2 := Lib.hid ho2
  have HC2 := Lib.hid (show Chg (fun _ => False) w w2 from hc1.append ho (Chg.refl _ _) hg2)
  clear hl hr2 ho2 hg2 ho hc1
  go_enter Tryz.func59, Tryz.ntmps59
  go_wp2_with (first
    | (go_at_call 107; refine HNo.out.mono ?_; rintro e w' ⟨rfl, rfl⟩)
    | (at_builtin; refine Lib.wpList_append_run _ rfl _ _ _ _ rfl _ _ rfl rfl _ _ HR2.out ?_))
  go_ret
  exact ⟨_, rfl, HO2.out, HC2.out⟩

end Go.Proofs.YtbjagmlbamjdbaaGreat.wals
end

section
namespace Go.Proofs.YtbjagmlbamjdbaaGreat.wals
open Go.RowKit Go.My disks bufs
set_option maxRecDepth 100000

variable {w w' : World} {l d : Nat} {F Fd : Nat → Prop} {X : DV} {V : LV} {rv tv wv : Value}

theorem row_apart {w : World} {base base' : Nat} {e e' : TypeId} {x y : Value} {n m : Nat} {xs ys : List Value} (h : w.ownsRow base e 1 x n xs) (k : w.ownsRow base' e' 1 y m ys) (hne : e ≠ e') : ∀ g, x.ownBlock = some g → y.ownBlock ≠ some g := by
  intro g hg hk
  obtain ⟨c1, h1⟩ := row_obj h hg
  obtain ⟨c2, h2⟩ := row_obj k hk
  rw [h1] at h2
  simp only [Option.some.injEq, Obj.cells.injEq] at h2
  exact hne h2.2.1

theorem row_head {w : World} {base n b : Nat} {e t : TypeId} {x : Value} {xs cs : List Value} (h : w.ownsRow base e 1 x n xs) (k : Arr w b t cs) (hne : e ≠ t) : ∀ g, x.ownBlock = some g → g ≠ b := by
  intro g hg e1
  obtain ⟨c1, h1⟩ := row_obj h hg
  rw [e1] at h1
  have h2 : w.heap[b]? = some (.cells cs.toArray t (0, 0)) := k
  rw [h2] at h1
  simp only [Option.some.injEq, Obj.cells.injEq] at h1
  exact hne h1.2.1.symm

theorem LogIs.growWait {w1 w3 : World} (h : LogIs w l d F V rv tv wv) (hc1 : Chg (fun _ => False) w w1) {v3 : Value} {rs : List Blk} {n3 : Nat} (hn3 : rs.length = n3) (ho : w3.ownsRow 0 9 1 v3 n3 (rs.map strV)) (hg : w1.grownBy w3 wv.ownBlock) (h4 : v3.ownBlock = wv.ownBlock ∨ v3.ownBlock = some w1.heap.size) :
    LogIs (w3.setCell ⟨l, 6, none⟩ v3) l d (fun k => F k ∨ v3.ownBlock = some k) { V with wait := rs } rv tv v3 ∧ Chg F w (w3.setCell ⟨l, 6, none⟩ v3) := by
  subst hn3
  have h1 := h.kept hc1 (fun _ _ h => h)
  have hc3 := Chg.of_grown hg
  have n1 : ¬ some l = wv.ownBlock := fun e => row_head h1.wait h1.head (by decide) l e.symm rfl
  have n2 : ∀ g, rv.ownBlock = some g → ¬ some g = wv.ownBlock := fun g hg e => h.rw g hg e.symm
  have n3 : ∀ g, tv.ownBlock = some g → ¬ some g = wv.ownBlock := fun g hg e => row_apart h1.tail h1.wait (by decide) g hg e.symm
  have a3 := hc3.at h1.head n1
  have r3 := row_kept h1.recs hc3 n2
  have t3 := row_kept h1.tail hc3 n3
  have hc : Chg (· = l) w3 (w3.setCell ⟨l, 6, none⟩ v3) := Chg.setCell (S := (· = l)) (Chg.refl _ _) (fun _ => rfl) _
  refine ⟨⟨Arr.set a3 6 v3, row_kept r3 hc (row_head r3 a3 (by decide)), row_kept t3 hc (row_head t3 a3 (by decide)), row_kept ho hc (row_head ho a3 (by decide)), fun g hg e => ?_, Or.inl h.fl, fun g hg => Or.inl (h.fr g hg), fun g hg => Or.inl (h.ft g hg), fun g hg => Or.inr hg, fun k hk => ?_⟩, ((hc1.mono (fun _ _ h => h.elim)).trans hc3 (fun i hi e => h.fw i e.symm)).trans hc (fun i hi e => by have e : i = l := e; rw [e]; exact h.fl)⟩
  · rcases h4 with h4 | h4
    · exact h.rw g hg (h4 ▸ e)
    · rw [h4] at e
      have := (h1.recs.lt g hg).2
      cases e
      omega
  · have := hc.size
    have := hc3.size
    rcases hk with hk | hk
    · have := h1.lt k hk; omega
    · have := (ho.lt k hk).2; omega

theorem LogIs.setMore (h : LogIs w l d F V rv tv wv) (m : Nat) : LogIs (w.setCell ⟨l, 7, none⟩ (.int .i64 m)) l d F { V with more := m } rv tv wv ∧ Chg F w (w.setCell ⟨l, 7, none⟩ (.int .i64 m)) := by
  have hc : Chg (· = l) w (w.setCell ⟨l, 7, none⟩ (.int .i64 m)) := Chg.setCell (S := (· = l)) (Chg.refl _ _) (fun _ => rfl) _
  exact ⟨⟨h.head.set 7 _, row_kept h.recs hc (row_head h.recs h.head (by decide)), row_kept h.tail hc (row_head h.tail h.head (by decide)), row_kept h.wait hc (row_head h.wait h.head (by decide)), h.rw, h.fl, h.fr, h.ft, h.fw, fun k hk => Nat.lt_of_lt_of_le (h.lt k hk) hc.size⟩, hc.mono (fun i _ e => by have e : i = l := e; rw [e]; exact h.fl)⟩

def AddPost (w : World) (l d : Nat) (F Fd : Nat → Prop) (X : DV) (R : Nat × LV) (e : Ending) (w' : World) : Prop :=
  e = .returned (.int .i64 (R.1 : Int)) ∧ ∃ F', LogAt w' l d F' Fd X R.2 ∧ (∀ k, F' k → F k ∨ w.heap.size ≤ k) ∧ Chg F w w'

set_option maxHeartbeats 1000000 in
theorem add_any (w : World) (h : LogAt w l d F Fd X V) (hV : V.Ok X.B.length) (r : Blk) (hr : r.length ≤ 1000000000000) :
    Calls Tryz.prog 67 #[.pointer (some ⟨l, 0, none⟩), strV r] w (AddPost w l d F Fd X (addF X.B.length V r)) := by
  have HNo := Lib.hid (log_no w h)
  have HFr := Lib.hid (framed_any w r hr)
  have HRo := Lib.hid (room_any w h hV)
  have H := Lib.hid h
  have HV := Lib.hid hV
  obtain ⟨⟨rv, tv, wv, hl⟩, -, -⟩ := h
  have HL := Lib.hid hl
  obtain ⟨R, hR⟩ : ∃ R, addF X.B.length V r = R := ⟨_, rfl⟩
  rw [hR]
  have HR := Lib.hid hR
  have c8 : w.cell? ⟨l, 8, none⟩ = some (.bool V.lost) := hl.head.cell rfl
  obtain ⟨sr, hsr⟩ : ∃ sr : ByteArray, strV r = .string sr := ⟨_, rfl⟩
  have HSr := Lib.hid hsr
  have i1 : (r.length : Int) ≤ 1000000000000 := by omega
  rw [hsr] at HFr ⊢
  clear hl hR hsr hV
  rcases Bool.eq_false_or_eq_true V.lost with hlo | hlo
  · rw [hlo] at c8
    have HLo := Lib.hid hlo
    clear hlo
    go_enter Tryz.func67, Tryz.ntmps67
    go_wp2_with (first
      | (go_at_call 107; refine HNo.out.mono ?_; rintro e w' ⟨rfl, rfl⟩)
      | (go_at_call 126; refine HFr.out.mono ?_; rintro e w' ⟨rfl, rfl⟩))
    go_ret
    have hRe : R = (15, V) := by rw [← HR.out]; unfold addF; rw [if_pos HLo.out]
    rw [hRe]
    exact ⟨rfl, F, H.out, fun k hk => Or.inl hk, Chg.refl _ _⟩
  · rw [hlo] at c8
    have HLo := Lib.hid hlo
    clear hlo
    by_cases hb : r.length ≤ 4096
    · have hd : decide (r.length ≤ 4096) = true := by simp [hb]
      rw [hd] at HFr
      have HB := Lib.hid hb
      obtain ⟨ρ, hρ⟩ : ∃ ρ, roomF X.B.length V = ρ := ⟨_, rfl⟩
      rw [hρ] at HRo
      have HRh := Lib.hid hρ
      clear hd hρ
      by_cases hf : ρ < (r.length : Int) + 8
      · go_enter Tryz.func67, Tryz.ntmps67
        go_wp2_with (first
          | (go_at_call 107; refine HNo.out.mono ?_; rintro e w' ⟨rfl, rfl⟩)
          | (go_at_call 126; refine HFr.out.mono ?_; rintro e w' ⟨rfl, rfl⟩)
          | (go_at_call 127; fail))
        refine HRo.out.mono ?_
        rintro e w1 ⟨rfl, hc1⟩
        have HC1 := Lib.hid hc1
        clear hc1
        dsimp only
        go_wp2_with fail
        go_ret
        have hRe : R = (7, V) := by
          rw [← HR.out]
          unfold addF
          rw [if_neg (by rw [HLo.out]; decide), if_neg (by omega), HRh.out, if_pos hf]
        rw [hRe]
        exact ⟨rfl, F, H.out.fresh HC1.out, fun k hk => Or.inl hk, HC1.out.mono (fun _ _ h => h.elim)⟩
      · go_enter Tryz.func67, Tryz.ntmps67
        go_wp2_with (first
          | (go_at_call 107; refine HNo.out.mono ?_; rintro e w' ⟨rfl, rfl⟩)
          | (go_at_call 126; refine HFr.out.mono ?_; rintro e w' ⟨rfl, rfl⟩)
          | (go_at_call 127; fail))
        refine HRo.out.mono ?_
        rintro e w1 ⟨rfl, hc1⟩
        have hRe : R = (0, { V with wait := V.wait ++ [r], more := V.more + (r.length + 8) }) := by
          rw [← HR.out]
          unfold addF
          rw [if_neg (by rw [HLo.out]; decide), if_neg (by omega), HRh.out, if_neg (by omega)]
        have HRe := Lib.hid hRe
        have hs := HV.out.small
        have hl1 := HL.out.kept hc1 (fun _ _ h => h)
        obtain ⟨oaw, capw, rfl⟩ := own_slice hl1.wait
        have hc2 : Chg (fun _ => False) w1 (w1.alloc (.cells #[.string sr] 9)) := (Chg.refl _ _).alloc _
        have hl2 := hl1.kept hc2 (fun _ _ h => h)
        have hs2 : SlAt (w1.alloc (.cells #[.string sr] 9)) (.slice (some ⟨w1.heap.size, 0, none⟩) 1 1) [strV r] := by
          rw [HSr.out]
          exact SlAt.of_own (own_of_block (base := 0) (n := 1) (show (w1.alloc (.cells #[.string sr] 9)).heap[w1.heap.size]? = _ from at1) (Nat.zero_le _) rfl (by unfold maxLen; omega))
        obtain ⟨v3, w3, hr3, ho3, hg3, h43⟩ := append_strs hl2.wait hs2 (fun y hy => one_strs [r] y (by simpa using hy)) (Nat.zero_le _) (by simp; omega) 109
        rw [show (V.wait.map strV ++ [strV r]) = (V.wait ++ [r]).map strV by simp, List.length_map] at ho3
        obtain ⟨n3, hn3⟩ : ∃ n3, (V.wait ++ [r]).length = n3 := ⟨_, rfl⟩
        rw [hn3] at ho3
        obtain ⟨oa3, cap3, rfl⟩ := own_slice ho3
        obtain ⟨hl4, hc4⟩ := hl2.growWait (Chg.refl _ _) hn3 ho3 hg3 h43
        obtain ⟨hl5, hc5⟩ := hl4.setMore (V.more + (r.length + 8))
        have hc3 := Chg.of_grown hg3
        have hl3h : Arr w3 l 177 (logC d V rv tv (.slice oaw V.wait.length capw)) := hc3.at hl2.head (fun e => row_head hl2.wait hl2.head (by decide) l e.symm rfl)
        have k1 : w1.cell? ⟨l, 6, none⟩ = some (.slice oaw V.wait.length capw) := hl1.head.cell rfl
        have k2 : (w1.alloc (.cells #[.string sr] 9)).cell? ⟨l, 6, none⟩ = some (.slice oaw V.wait.length capw) := hl2.head.cell rfl
        have k3 : w3.cell? ⟨l, 6, none⟩ = some (.slice oaw V.wait.length capw) := hl3h.cell rfl
        have z3 : w3.frozen? ⟨l, 6, none⟩ = false := hl3h.free
        obtain ⟨w4, hw4⟩ : ∃ w4, w3.setCell ⟨l, 6, none⟩ (.slice oa3 n3 cap3) = w4 := ⟨_, rfl⟩
        rw [hw4] at hl4 hc4 hl5 hc5
        have k7 : (w3.setCell ⟨l, 6, none⟩ (.slice oa3 n3 cap3)).cell? ⟨l, 7, none⟩ = some (.int .i64 V.more) := by rw [hw4]; exact hl4.head.cell rfl
        have z7 : (w3.setCell ⟨l, 6, none⟩ (.slice oa3 n3 cap3)).frozen? ⟨l, 7, none⟩ = false := by rw [hw4]; exact hl4.head.free
        have i2 : (V.more : Int) ≤ 131008 := by omega
        have HW4 := Lib.hid hw4
        have HR3 := Lib.hid hr3
        have HL5 := Lib.hid hl5
        have hnew : ∀ k, (Value.slice oa3 n3 cap3).ownBlock = some k → F k ∨ w.heap.size ≤ k := fun k hk => by
          rcases h43 with e | e
          · exact Or.inl (HL.out.fw k (e ▸ hk))
          · rw [e] at hk
            cases hk
            exact Or.inr (hc1.trans' hc2).size
        have HNw := Lib.hid hnew
        have HC5 : Hid (Chg F w (w4.setCell ⟨l, 7, none⟩ (.int .i64 ((V.more + (r.length + 8) : Nat) : Int)))) := Lib.hid ((((hc1.trans' hc2).mono (fun _ _ h => h.elim)).trans' hc4).trans hc5 (fun k hk h => h.elim id (fun h => (hnew k h).resolve_right (by omega))))
        have HSz := Lib.hid ((hc1.trans' hc2).size)
        clear hnew
        clear hc1 hc2 hc3 hl1 hl2 hs2 hr3 ho3 hg3 h43 hl4 hc4 hl5 hc5 hl3h hw4 hs hRe hn3
        dsimp only
        go_wp2_with (first
          | (at_builtin; refine Lib.wpList_append_run _ rfl _ _ _ _ rfl _ _ rfl rfl _ _ HR3.out ?_))
        go_ret
        have h5 := HL5.out
        have c5 := HC5.out
        rw [show ((V.more + (r.length + 8) : Nat) : Int) = (V.more : Int) + ((r.length : Int) + 8) by omega] at h5 c5
        rw [HW4.out, HRe.out]
        refine ⟨rfl, _, ⟨⟨rv, tv, _, h5⟩, H.out.disk.kept c5 (fun k hk hF => H.out.off k hF hk), fun k hk hF => ?_⟩, fun k hk => hk.elim Or.inl (HNw.out k), c5⟩
        rcases hk with hk | hk
        · exact H.out.off k hk hF
        · rcases HNw.out k hk with h1 | h1
          · exact H.out.off k h1 hF
          · have := H.out.disk.lt k hF
            omega
    · have hd : decide (r.length ≤ 4096) = false := by simp [hb]
      rw [hd] at HFr
      have HB := Lib.hid hb
      clear hd
      go_enter Tryz.func67, Tryz.ntmps67
      go_wp2_with (first
        | (go_at_call 107; refine HNo.out.mono ?_; rintro e w' ⟨rfl, rfl⟩)
        | (go_at_call 126; refine HFr.out.mono ?_; rintro e w' ⟨rfl, rfl⟩))
      go_ret
      have hRe : R = (3, V) := by rw [← HR.out]; unfold addF; rw [if_neg (by rw [HLo.out]; decide), if_pos (by have := HB.out; omega)]
      rw [hRe]
      exact ⟨rfl, F, H.out, fun k hk => Or.inl hk, Chg.refl _ _⟩

end Go.Proofs.YtbjagmlbamjdbaaGreat.wals
end

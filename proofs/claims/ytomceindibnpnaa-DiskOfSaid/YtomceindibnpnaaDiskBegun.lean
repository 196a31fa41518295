/-
  disk: begun, the walk: a disk behind writes and flushes, what it had at the last flush, what was written since.
-/
import Derived.Test.YtomceindibnpnaaDiskFusesLaw
namespace Go.Proofs.Ytomceindibnpnaa.disks
open Go.RowKit Go.Maps Go.My Go.ChangeMaps
set_option maxRecDepth 100000

variable {W w w' : World} {d q : Nat} {F F' : Nat → Prop} {X X' Y : DV} {bv : Value} {m : List (Int × (Value × List Blk))}

def strV (b : Blk) : Value := .string ⟨b.toArray⟩

/-- A block of the heap, whole. -/
def Arr (w : World) (b : Nat) (t : TypeId) (l : List Value) : Prop := w.heap[b]? = some (.cells l.toArray t (0, 0))

theorem Arr.kept {b : Nat} {t : TypeId} {l : List Value} (h : Arr w b t l) {S : Nat → Prop} (hc : Chg S w w') (hn : ¬ S b) : Arr w' b t l := hc.at h hn
theorem Arr.lt {b : Nat} {t : TypeId} {l : List Value} (h : Arr w b t l) : b < w.heap.size := lt_of_block h

theorem Arr.range {b : Nat} {t : TypeId} {l : List Value} (h : Arr w b t l) : w.rangeAt b 0 l := by
  intro j x hx
  rw [Nat.zero_add]
  exact cell_of_block h (by simpa using hx)

theorem Arr.there {b : Nat} {t : TypeId} {l : List Value} (h : Arr w b t l) : w.there b 0 l.length := by
  intro j hj
  refine ⟨?_, free_of_block h⟩
  rw [h.range j l[j] (List.getElem?_eq_getElem hj)]; rfl

theorem Arr.set {b : Nat} {t : TypeId} {l : List Value} (h : Arr w b t l) (k : Nat) (v : Value) : Arr (w.setCell ⟨b, k, none⟩ v) b t (l.set k v) := by
  have := block_setCell (i := k) (v := v) h
  simpa [Arr] using this

theorem arr_setCells {b : Nat} {t : TypeId} : ∀ (vs : List Value) (o : Nat) (w : World) (l : List Value), Arr w b t l → o + vs.length ≤ l.length → Arr (w.setCells b o vs) b t (l.take o ++ vs ++ l.drop (o + vs.length))
  | [], o, w, l, h, _ => by simpa [World.setCells] using h
  | v :: r, o, w, l, h, hl => by
    simp only [List.length_cons] at hl
    have h1 := arr_setCells r (o + 1) _ _ (h.set o v) (by rw [List.length_set]; omega)
    have e : (l.set o v).take (o + 1) ++ r ++ (l.set o v).drop (o + 1 + r.length) = l.take o ++ (v :: r) ++ l.drop (o + (v :: r).length) := by
      have e1 : (l.set o v).take (o + 1) = l.take o ++ [v] := by
        rw [List.take_set, List.take_add_one, List.getElem?_eq_getElem (by omega), Option.toList_some, List.set_append_right _ _ (by rw [List.length_take]; omega)]
        have : (l.take o).length = o := by rw [List.length_take]; omega
        rw [this, Nat.sub_self]; rfl
      rw [e1, List.drop_set_of_lt (by omega)]
      simp [Nat.add_assoc, Nat.add_comm 1]
    rw [e] at h1
    exact h1

theorem Arr.all {b : Nat} {t : TypeId} {l vs : List Value} (h : Arr w b t l) (hl : vs.length = l.length) : Arr (w.setCells b 0 vs) b t vs := by
  have h1 := arr_setCells vs 0 w l h (by omega)
  rw [Nat.zero_add, List.take_zero, List.nil_append, List.drop_eq_nil_of_le (by omega), List.append_nil] at h1
  exact h1

def nilS : Value := .slice none 0 0

/-- What 'begun' has, in its arrays and its disk. -/
structure Bg (W w : World) (nb : Nat) (F : Nat → Prop) (d : Nat) (X : DV) (ls : List Value) (n : Nat) : Prop where
  disk : DiskAt w d F X
  old : ∀ k, F k → W.heap.size + 4 ≤ k
  fn : ¬ F nb
  nbn : W.heap.size + 4 ≤ nb
  was : Arr w (W.heap.size + 1 + 1) 56 (X.B.map strV)
  now : Arr w nb 56 ((List.range 8).map (fun i => strV (X.cur i)))
  snc : Arr w (W.heap.size + 1 + 1 + 1) 58 ls
  r3 : Arr w W.heap.size 56 (List.replicate 8 (.string ⟨#[]⟩))
  r4 : Arr w (W.heap.size + 1) 58 (List.replicate 8 nilS)
  ll : ls.length = 8
  each : ∀ (i : Nat) v, ls[i]? = some v → w.ownsRow (W.heap.size + 4) 9 1 v (X.L i).length ((X.L i).map strV)
  apart : ∀ (i j : Nat) v u, i ≠ j → ls[i]? = some v → ls[j]? = some u → v.ownBlock = none ∨ v.ownBlock ≠ u.ownBlock
  off : ∀ (i : Nat) v g, ls[i]? = some v → v.ownBlock = some g → ¬ F g
  len : X.B.length = 8
  down : X.down = false
  fuse : X.fuse = -1
  done : 0 ≤ X.done ∧ X.done ≤ n
  Ls : ∀ j, (X.L j).length ≤ n
  chg : Chg (fun _ => False) W w

variable {nb n : Nat} {ls : List Value}

theorem types_ne3 : (56 : Nat) ≠ 9 ∧ (58 : Nat) ≠ 9 := by decide

/-- A row of strings is none of the arrays. -/
theorem Bg.row_ne (h : Bg W w nb F d X ls n) {v : Value} {k base : Nat} {xs : List Value} (hr : w.ownsRow base 9 1 v k xs) {g b : Nat} {t : TypeId} {l : List Value} (hb : Arr w b t l) (ht : t = 56 ∨ t = 58) (hg : v.ownBlock = some g) : g ≠ b := by
  rintro rfl
  obtain ⟨cur, hc⟩ := row_obj hr hg
  unfold Arr at hb
  rw [hc] at hb
  simp only [Option.some.injEq, Obj.cells.injEq] at hb
  rcases ht with rfl | rfl
  · exact types_ne3.1 hb.2.1.symm
  · exact types_ne3.2 hb.2.1.symm

/-- A change off the disk, off the arrays, off the rows. -/
theorem Bg.fresh (h : Bg W w nb F d X ls n) (hc : Chg (fun _ => False) w w') : Bg W w' nb F d X ls n :=
  ⟨h.disk.fresh hc, h.old, h.fn, h.nbn, h.was.kept hc id, h.now.kept hc id, h.snc.kept hc id, h.r3.kept hc id, h.r4.kept hc id, h.ll, fun i v hv => row_kept (h.each i v hv) hc (fun _ _ h => h), h.apart, h.off, h.len, h.down, h.fuse, h.done, h.Ls, h.chg.trans' hc⟩

theorem nil_row (w : World) (base : Nat) (X : DV) (i : Nat) (h : X.L i = []) : w.ownsRow base 9 1 nilS (X.L i).length ((X.L i).map strV) := by
  rw [h]; exact World.ownsRow_nil _ _ _ _

theorem rep_get {i : Nat} {v : Value} (h : (List.replicate 8 nilS)[i]? = some v) : v = nilS := List.eq_of_mem_replicate (List.mem_of_getElem? h)

/-- Behind a flush: 'was' is what there was, nothing was written since. -/
theorem Bg.flushed (h : Bg W w nb F d X ls n) (hn : n < 1000) {w2 w3 w4 : World} (hd : DiskAt w2 d F X.flush) (hc : Chg F w w2) (h3 : w3 = w2.setCells (W.heap.size + 1 + 1) 0 ((List.range 8).map (fun i => strV (X.cur i)))) (h4 : w4 = w3.setCells (W.heap.size + 1 + 1 + 1) 0 (List.replicate 8 nilS)) :
    Bg W w4 nb F d X.flush (List.replicate 8 nilS) (n + 1) := by
  have hX : X.flush = X.burn.all := by rw [DV.flush, if_neg (by simp [h.down]), if_neg (by rw [h.fuse]; omega)]
  have hdn : X.burn = { X with done := X.done + 1 } := by
    have hf : X.fuse ≠ 0 := by rw [h.fuse]; omega
    rw [burn_of hf, if_neg (by rw [h.fuse]; omega), wrap_small (by have := h.done; omega) (by have := h.done; omega)]
  have hF : ∀ b, b < W.heap.size + 4 → ¬ F b := fun b hb hf => by have := h.old b hf; omega
  have hcur : ∀ i, X.burn.cur i = X.cur i := fun i => by rw [hdn]; rfl
  have hB : (X.flush).B = (List.range 8).map X.cur := by
    rw [hX, DV.all, hdn]
    simp only [h.len]
    rfl
  have c3 : Chg (· = W.heap.size + 1 + 1) w2 w3 := by rw [h3]; exact chg_setCells _ _ _ _
  have c4 : Chg (· = W.heap.size + 1 + 1 + 1) w3 w4 := by rw [h4]; exact chg_setCells _ _ _ _
  have a3 : Arr w3 (W.heap.size + 1 + 1) 56 ((List.range 8).map (fun i => strV (X.cur i))) := by
    rw [h3]
    exact (h.was.kept hc (hF _ (by omega))).all (by simp [h.len])
  have a4 : Arr w4 (W.heap.size + 1 + 1 + 1) 58 (List.replicate 8 nilS) := by
    rw [h4]
    exact ((h.snc.kept hc (hF _ (by omega))).kept c3 (by omega)).all (by simp [h.ll])
  have keep : ∀ {b t l}, Arr w b t l → ¬ F b → b ≠ W.heap.size + 1 + 1 → b ≠ W.heap.size + 1 + 1 + 1 → Arr w4 b t l := fun ha h1 h2 h3 => ((ha.kept hc h1).kept c3 h2).kept c4 h3
  have hLn : ∀ i, (X.flush).L i = [] := fun i => by rw [hX]; rfl
  refine ⟨(hd.kept c3 (fun k hk e => hF _ (by omega) hk)).kept c4 (fun k hk e => hF _ (by omega) hk), h.old, h.fn, h.nbn, ?_, ?_, a4, keep h.r3 (hF _ (by omega)) (by omega) (by omega), keep h.r4 (hF _ (by omega)) (by omega) (by omega), by simp, ?_, ?_, ?_, ?_, ?_, ?_, ?_, ?_, ?_⟩
  · rw [hB, List.map_map]
    exact a3.kept c4 (by omega)
  · have e : (List.range 8).map (fun i => strV (X.flush.cur i)) = (List.range 8).map (fun i => strV (X.cur i)) := by
      apply List.map_congr_left
      intro i hi
      have hi' : i < 8 := by simpa using hi
      unfold DV.cur
      rw [hLn i, hB]
      simp [hi', DV.cur]
    rw [e]
    exact keep h.now h.fn (by have := h.nbn; omega) (by have := h.nbn; omega)
  · intro i v hv
    rw [rep_get hv]
    exact nil_row _ _ _ _ (hLn i)
  · intro i j v u _ hv _
    rw [rep_get hv]; exact Or.inl rfl
  · intro i v g hv hg
    rw [rep_get hv] at hg; cases hg
  · rw [hB]; simp
  · rw [hX, hdn]; exact h.down
  · rw [hX, hdn]; exact h.fuse
  · rw [hX, hdn]; show 0 ≤ X.done + 1 ∧ X.done + 1 ≤ _; have := h.done; omega
  · intro j; rw [hLn j]; simp
  · exact ((h.chg.new hc (fun k hk => by have := h.old k hk; omega)).new c3 (fun k e => by omega)).new c4 (fun k e => by omega)

theorem cur_put (X : DV) (k : Nat) (b : Blk) (i : Nat) : (X.put k b).cur i = if i = k then b else X.cur i := by
  unfold DV.cur DV.put
  by_cases h : i = k
  · simp [h]
  · simp [h]

/-- Behind a write. -/
theorem Bg.written (h : Bg W w nb F d X ls n) (hn : n < 1000) {k : Nat} (hk : k < 8) {b : Blk} (hb : b.length = 64) {w3 w4 w5 w6 w7 : World} (hd : DiskAt w3 d (grow F w w3) (X.write k b)) (hc : Chg F w w3)
    (h4 : w4 = w3.setCell ⟨nb, k, none⟩ (strV b)) (h5 : Chg (fun _ => False) w4 w5) {u u' : Value} (hu : ls[k]? = some u) (ho : w6.ownsRow (W.heap.size + 4) 9 1 u' ((X.L k).length + 1) ((X.L k).map strV ++ [strV b]))
    (hg : Chg (fun i => some i = u.ownBlock) w5 w6) (hvn : u'.ownBlock = u.ownBlock ∨ u'.ownBlock = some w5.heap.size) (h7 : w7 = w6.setCell ⟨W.heap.size + 1 + 1 + 1, k, none⟩ u') : Bg W w7 nb (grow F w w3) d (X.write k b) (ls.set k u') (n + 1) := by
  have ha : askedC X (k : Int) = 0 := by simp [askedC, h.down, h.len]; omega
  have hX : X.write k b = X.burn.put k b := by rw [DV.write, if_neg (by simp [ha, hb]), if_neg (by rw [h.fuse]; omega), Int.toNat_natCast]
  have hdn : X.burn = { X with done := X.done + 1 } := by
    have hf : X.fuse ≠ 0 := by rw [h.fuse]; omega
    rw [burn_of hf, if_neg (by rw [h.fuse]; omega), wrap_small (by have := h.done; omega) (by have := h.done; omega)]
  have hF : ∀ x, x < W.heap.size + 4 → ¬ F x := fun x hx hf => by have := h.old x hf; omega
  have hF3 : ∀ x, x < w.heap.size → ¬ F x → ¬ grow F w w3 x := fun x hx h1 h2 => by rcases h2 with h2 | h2; exact h1 h2; omega
  have hnn := h.nbn
  have hu1 := h.each k u hu
  have c4 : Chg (· = nb) w3 w4 := by rw [h4]; exact Chg.setCell (S := (· = nb)) (Chg.refl _ _) (fun _ => rfl) _
  have c7 : Chg (· = W.heap.size + 1 + 1 + 1) w6 w7 := by rw [h7]; exact Chg.setCell (S := (· = W.heap.size + 1 + 1 + 1)) (Chg.refl _ _) (fun _ => rfl) _
  have hs5 : w3.heap.size ≤ w5.heap.size := Nat.le_trans c4.size h5.size
  have ne : ∀ {x : Nat} {t : TypeId} {l : List Value}, Arr w x t l → (t = 56 ∨ t = 58) → ¬ some x = u.ownBlock := fun ha ht e => h.row_ne hu1 ha ht e.symm rfl
  have keep6 : ∀ {x t l}, Arr w x t l → (t = 56 ∨ t = 58) → ¬ F x → x ≠ nb → Arr w6 x t l := fun ha ht h1 h2 => (((ha.kept hc h1).kept c4 h2).kept h5 id).kept hg (ne ha ht)
  have keep : ∀ {x t l}, Arr w x t l → (t = 56 ∨ t = 58) → ¬ F x → x ≠ nb → x ≠ W.heap.size + 1 + 1 + 1 → Arr w7 x t l := fun ha ht h1 h2 h3 => (keep6 ha ht h1 h2).kept c7 h3
  have hB : (X.write k b).B = X.B := by rw [hX, hdn]; rfl
  have hL : ∀ i, (X.write k b).L i = if i = k then X.L i ++ [b] else X.L i := fun i => by rw [hX, hdn]; rfl
  have a6 := keep6 h.snc (Or.inr rfl) (hF _ (by omega)) (by omega)
  have hu6 : ∀ g, u'.ownBlock = some g → g ≠ W.heap.size + 1 + 1 + 1 := fun g hgo e => by
    obtain ⟨cur, hcu⟩ := row_obj ho hgo
    rw [e] at hcu
    unfold Arr at a6
    rw [hcu] at a6
    simp only [Option.some.injEq, Obj.cells.injEq] at a6
    exact types_ne3.2 a6.2.1.symm
  have hul : ∀ (i : Nat) v, ls[i]? = some v → ∀ g, v.ownBlock = some g → g < w.heap.size := fun i v hv g hgo => ((h.each i v hv).lt g hgo).2
  have hd5 : DiskAt w7 d (grow F w w3) (X.write k b) := by
    refine (((hd.kept c4 (fun x hx e => ?_)).fresh h5).kept hg (fun x hx e => ?_)).kept c7 (fun x hx e => ?_)
    · rw [show x = nb from e] at hx
      exact hF3 nb h.now.lt h.fn hx
    · exact hF3 x (hul k u hu x e.symm) (h.off k u x hu e.symm) hx
    · rw [show x = W.heap.size + 1 + 1 + 1 from e] at hx
      exact hF3 _ h.snc.lt (hF _ (by omega)) hx
  refine ⟨hd5, ?_, hF3 nb h.now.lt h.fn, hnn, ?_, ?_, ?_, keep h.r3 (Or.inl rfl) (hF _ (by omega)) (by omega) (by omega), keep h.r4 (Or.inr rfl) (hF _ (by omega)) (by omega) (by omega), by simp [h.ll], ?_, ?_, ?_, by rw [hB]; exact h.len, ?_, ?_, ?_, ?_, ?_⟩
  · intro x hx
    rcases hx with hx | hx
    · exact h.old x hx
    · have := h.r4.lt; have := h.snc.lt; omega
  · rw [hB]
    exact keep h.was (Or.inl rfl) (hF _ (by omega)) (by omega) (by omega)
  · have a3 : Arr w4 nb 56 (((List.range 8).map (fun i => strV (X.cur i))).set k (strV b)) := by
      rw [h4]; exact (h.now.kept hc h.fn).set k _
    have e : (List.range 8).map (fun i => strV ((X.write k b).cur i)) = ((List.range 8).map (fun i => strV (X.cur i))).set k (strV b) := by
      apply List.ext_getElem?
      intro i
      rw [List.getElem?_set]
      simp only [List.length_map, List.length_range, List.getElem?_map]
      by_cases hi : i < 8
      · rw [List.getElem?_range hi]
        simp only [Option.map_some]
        rw [hX, cur_put, hdn]
        by_cases hki : k = i
        · subst hki; simp [hk]
        · have : ¬ i = k := fun e => hki e.symm
          simp only [if_neg this, if_neg hki]
          rfl
      · rw [List.getElem?_eq_none (by simpa using hi)]
        have : ¬ k = i := by omega
        simp [this]
    rw [e]
    have hne : ¬ some nb = u.ownBlock := ne h.now (Or.inl rfl)
    exact (((a3.kept h5 id).kept hg hne).kept c7 (by omega))
  · rw [h7]
    exact a6.set k u'
  · intro i v hv
    rw [List.getElem?_set] at hv
    rw [hL i]
    by_cases hik : k = i
    · subst hik
      rw [if_pos rfl, if_pos (by rw [h.ll]; exact hk)] at hv
      cases hv
      rw [if_pos rfl]
      have := row_kept ho c7 (fun g hgo e => hu6 g hgo e)
      simpa using this
    · rw [if_neg hik] at hv
      rw [if_neg (fun e => hik e.symm)]
      refine row_kept (row_kept (row_kept (row_kept (row_kept (h.each i v hv) hc (fun g hgo => h.off i v g hv hgo)) c4 (fun g hgo e => h.row_ne (h.each i v hv) h.now (Or.inl rfl) hgo e)) h5 (fun _ _ h => h)) hg (fun g hgo e => ?_)) c7 (fun g hgo e => h.row_ne (h.each i v hv) h.snc (Or.inr rfl) hgo e)
      rcases h.apart i k v u (fun e => hik e.symm) hv hu with h1 | h1
      · rw [h1] at hgo; cases hgo
      · exact h1 (hgo.trans e)
  · intro i j v x hij hv hx
    rw [List.getElem?_set] at hv hx
    by_cases hik : k = i
    · subst hik
      rw [if_pos rfl, if_pos (by rw [h.ll]; exact hk)] at hv
      cases hv
      rw [if_neg hij] at hx
      rcases hvo : u'.ownBlock with _ | g
      · exact Or.inl rfl
      · right
        intro e
        have hxl := hul j x hx g e.symm
        rcases hvn with h1 | h1
        · rw [h1] at hvo
          rcases h.apart k j u x hij hu hx with h2 | h2
          · rw [h2] at hvo; cases hvo
          · exact h2 (hvo.trans e)
        · rw [h1] at hvo
          cases hvo
          have := hc.size
          omega
    · rw [if_neg hik] at hv
      by_cases hjk : k = j
      · subst hjk
        rw [if_pos rfl, if_pos (by rw [h.ll]; exact hk)] at hx
        cases hx
        rcases hvo : v.ownBlock with _ | g
        · exact Or.inl rfl
        · right
          intro e
          have hxl := hul i v hv g hvo
          rcases hvn with h1 | h1
          · rcases h.apart i k v u hij hv hu with h2 | h2
            · rw [h2] at hvo; cases hvo
            · exact h2 (hvo.trans (e.trans h1))
          · rw [h1] at e
            cases e
            have := hc.size
            omega
      · rw [if_neg hjk] at hx
        exact h.apart i j v x hij hv hx
  · intro i v g hv hgo
    rw [List.getElem?_set] at hv
    by_cases hik : k = i
    · subst hik
      rw [if_pos rfl, if_pos (by rw [h.ll]; exact hk)] at hv
      cases hv
      rcases hvn with h1 | h1
      · rw [h1] at hgo
        exact hF3 g (hul k u hu g hgo) (h.off k u g hu hgo)
      · rw [h1] at hgo
        cases hgo
        intro hx
        have := hd.lt _ hx
        omega
    · rw [if_neg hik] at hv
      exact hF3 g (hul i v hv g hgo) (h.off i v g hv hgo)
  · rw [hX, hdn]; exact h.down
  · rw [hX, hdn]; exact h.fuse
  · rw [hX, hdn]; show 0 ≤ X.done + 1 ∧ X.done + 1 ≤ _; have := h.done; omega
  · intro j
    rw [hL j]
    have := h.Ls j
    split
    · simp; omega
    · omega
  · have c1 := h.chg.new hc (fun x hx => by have := h.old x hx; omega)
    exact (((c1.new c4 (fun x e => by omega)).trans' h5).new hg (fun x e => by have := (hu1.lt x e.symm).1; omega)).new c7 (fun x e => by omega)

theorem place_wrap' (z : Int) : wrap64 (z.tmod 8 + 8) = z.tmod 8 + 8 := by
  have h1 := Int.tmod_lt_of_pos z (b := 8) (by omega)
  have h2 := Int.lt_tmod_of_pos z (b := 8) (by omega)
  exact IntWalk.wrap64_in _ (by omega)

/-- What 'begun' hands over. -/
structure BgOut (W w : World) (F : Nat → Prop) (d : Nat) (X : DV) (ls : List Value) (n : Nat) : Prop where
  disk : DiskAt w d F X
  old : ∀ k, F k → W.heap.size ≤ k
  ll : ls.length = 8
  each : ∀ (i : Nat) v, ls[i]? = some v → w.ownsRow (W.heap.size + 4) 9 1 v (X.L i).length ((X.L i).map strV)
  off : ∀ (i : Nat) v g, ls[i]? = some v → v.ownBlock = some g → ¬ F g
  len : X.B.length = 8
  down : X.down = false
  fuse : X.fuse = -1
  done : 0 ≤ X.done ∧ X.done ≤ n
  Ls : ∀ j, (X.L j).length ≤ n
  chg : Chg (fun _ => False) W w

theorem Bg.out (h : Bg W w nb F d X ls n) {w5 w6 : World} (c5 : Chg (· = W.heap.size) w w5) (c6 : Chg (· = W.heap.size + 1) w5 w6) : BgOut W w6 F d X ls n := by
  have hF : ∀ b, b < W.heap.size + 4 → ¬ F b := fun b hb hf => by have := h.old b hf; omega
  refine ⟨(h.disk.kept c5 (fun k hk e => hF k (by omega) hk)).kept c6 (fun k hk e => hF k (by omega) hk), fun k hk => by have := h.old k hk; omega, h.ll, fun i v hv => ?_, h.off, h.len, h.down, h.fuse, h.done, h.Ls, (h.chg.new c5 (fun k e => by omega)).new c6 (fun k e => by omega)⟩
  exact row_kept (row_kept (h.each i v hv) c5 (fun g hg e => h.row_ne (h.each i v hv) h.r3 (Or.inl rfl) hg e)) c6 (fun g hg e => h.row_ne (h.each i v hv) h.r4 (Or.inr rfl) hg e)

theorem size_s8 : (Try.prog.info? 56).map (·.size) = some 8 := by kernel_rfl
theorem size_ss8 : (Try.prog.info? 58).map (·.size) = some 8 := by kernel_rfl

theorem one_rep (n : Nat) {v : Value} (h : v.oneCell' = true) : ∀ x ∈ List.replicate n v, x.oneCell' = true := fun x hx => by rw [List.eq_of_mem_replicate hx]; exact h
theorem one_map {α : Type} (f : α → Blk) (l : List α) : ∀ x ∈ l.map (fun i => strV (f i)), x.oneCell' = true := fun x hx => by obtain ⟨i, _, rfl⟩ := List.mem_map.1 hx; rfl

theorem one_map' (l : List Blk) (_h : True) : ∀ x ∈ l.map strV, x.oneCell' = true := fun x hx => by obtain ⟨i, _, rfl⟩ := List.mem_map.1 hx; rfl

theorem new8' (w : World) : Calls Try.prog 38 #[.int .i64 8] w fun e w' => ∃ d, e = .returned (.tuple #[.pointer (some ⟨d, 0, none⟩), .int .i64 0]) ∧ DiskAt w' d (born w w') (DV.new 8) ∧ Chg (fun _ => False) w w' :=
  new_any w 8 (by omega) (by omega)

theorem bg_start {w0 w1 w5 : World} {d : Nat} (h0 : w0.heap.size = W.heap.size + 4) (hc0 : Chg (fun _ => False) W w0) (hd : DiskAt w1 d (born w0 w1) (DV.new 8)) (hc1 : Chg (fun _ => False) w0 w1) (hnb : nb = w1.heap.size)
    (hc : Chg (fun k => k = nb ∨ k = W.heap.size + 1 + 1) w1 w5) (hwas : Arr w5 (W.heap.size + 1 + 1) 56 (List.replicate 8 (strV zeroBlk))) (hnow : Arr w5 nb 56 (List.replicate 8 (strV zeroBlk)))
    (h3 : Arr w0 W.heap.size 56 (List.replicate 8 (.string ⟨#[]⟩))) (h4 : Arr w0 (W.heap.size + 1) 58 (List.replicate 8 nilS)) (h6 : Arr w0 (W.heap.size + 1 + 1 + 1) 58 (List.replicate 8 nilS)) :
    Bg W w5 nb (born w0 w1) d (DV.new 8) (List.replicate 8 nilS) 0 := by
  have hs := hc1.size
  have keep : ∀ {x t l}, Arr w0 x t l → x ≠ W.heap.size + 1 + 1 → Arr w5 x t l := fun ha hx => (ha.kept hc1 id).kept hc (fun e => by have := ha.lt; rcases e with e | e; omega; exact hx e)
  refine ⟨hd.kept hc (fun k hk e => ?_), fun k hk => by have := hk.1; omega, fun hk => by have := hk.2; omega, by omega, hwas, hnow, keep h6 (by omega), keep h3 (by omega), keep h4 (by omega), by simp, ?_, ?_, ?_, by simp [DV.new], rfl, rfl, by simp [DV.new], by simp [DV.new], ?_⟩
  · have := hk.1; have := hk.2
    rcases e with e | e <;> omega
  · intro i v hv
    rw [rep_get hv]
    exact nil_row _ _ _ _ rfl
  · intro i j v u _ hv _
    rw [rep_get hv]; exact Or.inl rfl
  · intro i v g hv hg
    rw [rep_get hv] at hg; cases hg
  · exact (hc0.trans' hc1).new hc (fun k e => by rcases e with e | e <;> omega)

theorem info_str : (Try.prog.info? 9).map (fun i => (i.zero, i.size, i.bytes)) = some (some (.string ⟨#[]⟩), 1, 16) := by kernel_rfl

theorem results4 {P : Program} {fn : Func} {a p q b : Tmp} {t1 t2 : TypeId} (h : fn.results = #[.tmp a, .cell p t1, .cell q t2, .tmp b]) (tmps : Array Value) {g1 g2 : Nat} (hp : tmps.getD p undef = .pointer (some ⟨g1, 0, none⟩)) (hq : tmps.getD q undef = .pointer (some ⟨g2, 0, none⟩))
    {v1 v2 : Value} (h1 : (loadVar t1 ⟨g1, 0, none⟩).run P w = .ok v1 w) (h2 : (loadVar t2 ⟨g2, 0, none⟩).run P w = .ok v2 w) : (results fn tmps).run P w = .ok (.tuple #[tmps.getD a undef, v1, v2, tmps.getD b undef]) w := by
  have hp' : tmps[p]?.getD undef = .pointer (some ⟨g1, 0, none⟩) := by simpa using hp
  have hq' : tmps[q]?.getD undef = .pointer (some ⟨g2, 0, none⟩) := by simpa using hq
  simp [results, h, hp', hq', asAddr, h1, h2, Sem.run_bind, Result.andThen]



set_option maxHeartbeats 4000000 in
theorem begun_any (W : World) (oa : Option Addr) (cap : Nat) (acts : List DAct) (hacts : RowsAt W 5 oa (acts.map DAct.row)) (hok : ∀ a ∈ acts, a.ok W) :
    Calls Try.prog 29 #[.slice oa acts.length cap] W fun e w' => ∃ d F X ls n, e = .returned (.tuple #[.pointer (some ⟨d, 0, none⟩), .agg (X.B.map strV).toArray, .agg ls.toArray, .bool true]) ∧ BgOut W w' F d X ls n ∧ n ≤ 60 := by
  have HActs := Lib.hid hacts
  have HOk := Lib.hid hok
  clear hacts hok
  go_enter Try.func29, Try.ntmps29
  go_wp2_with fail
  obtain ⟨w0, hw0⟩ : ∃ w0, (((W.alloc (.cells #[.string ⟨#[]⟩, .string ⟨#[]⟩, .string ⟨#[]⟩, .string ⟨#[]⟩, .string ⟨#[]⟩, .string ⟨#[]⟩, .string ⟨#[]⟩, .string ⟨#[]⟩] 56)).alloc (.cells #[.slice none 0 0, .slice none 0 0, .slice none 0 0, .slice none 0 0, .slice none 0 0, .slice none 0 0, .slice none 0 0, .slice none 0 0] 58)).alloc (.cells #[.string ⟨#[]⟩, .string ⟨#[]⟩, .string ⟨#[]⟩, .string ⟨#[]⟩, .string ⟨#[]⟩, .string ⟨#[]⟩, .string ⟨#[]⟩, .string ⟨#[]⟩] 56)).alloc (.cells #[.slice none 0 0, .slice none 0 0, .slice none 0 0, .slice none 0 0, .slice none 0 0, .slice none 0 0, .slice none 0 0, .slice none 0 0] 58) = w0 := ⟨_, rfl⟩
  rw [hw0]
  have hs0 : w0.heap.size = W.heap.size + 4 := by subst hw0; simp only [World.size_alloc]
  have hc0 : Chg (fun _ => False) W w0 := by subst hw0; exact ((((Chg.refl _ _).alloc _).alloc _).alloc _).alloc _
  have h3 : Arr w0 W.heap.size 56 (List.replicate 8 (.string ⟨#[]⟩)) := by
    subst hw0; unfold Arr; simp only [heap_alloc_get, World.size_alloc]; rw [if_neg (by omega), if_neg (by omega), if_neg (by omega), if_pos trivial]; rfl
  have h4 : Arr w0 (W.heap.size + 1) 58 (List.replicate 8 nilS) := by
    subst hw0; unfold Arr; simp only [heap_alloc_get, World.size_alloc]; rw [if_neg (by omega), if_neg (by omega), if_pos trivial]; rfl
  have h5 : Arr w0 (W.heap.size + 1 + 1) 56 (List.replicate 8 (.string ⟨#[]⟩)) := by
    subst hw0; unfold Arr; simp only [heap_alloc_get, World.size_alloc]; rw [if_neg (by omega), if_pos trivial]; rfl
  have h6 : Arr w0 (W.heap.size + 1 + 1 + 1) 58 (List.replicate 8 nilS) := by
    subst hw0; unfold Arr; simp only [heap_alloc_get, World.size_alloc]; rw [if_pos trivial]; rfl
  have HA := Lib.hid (And.intro hs0 (And.intro hc0 (And.intro h3 (And.intro h4 (And.intro h5 h6)))))
  clear hs0 hc0 h3 h4 h5 h6 hw0
  go_wp2_with (first
    | (go_at_call 38; refine (new8' _).mono ?_; rintro e w1 ⟨d, rfl, hx, hc1⟩; have HX1 := Lib.hid (And.intro hx hc1); have HR1 := Lib.hid (HA.out.2.2.2.2.1.kept hc1 id).range; clear hx hc1)
    | (refine wpList_load_mid rfl 56 _ rfl (W.heap.size + 1 + 1) 0 rfl (List.replicate 8 (.string ⟨#[]⟩)) _ HR1.out Try.underlying56 rfl size_s8 ?_)
    | (refine wpList_store_new rfl 56 _ _ rfl (List.replicate 8 (.string ⟨#[]⟩)).toArray rfl rfl size_s8 rfl (all_oneCell_toArray (one_rep 8 rfl)) ?_))
  obtain ⟨w2, hw2⟩ : ∃ w2, w1.alloc (.cells #[.string ⟨#[]⟩, .string ⟨#[]⟩, .string ⟨#[]⟩, .string ⟨#[]⟩, .string ⟨#[]⟩, .string ⟨#[]⟩, .string ⟨#[]⟩, .string ⟨#[]⟩] 56) = w2 := ⟨_, rfl⟩
  rw [hw2]
  have hn2 : Arr w2 w1.heap.size 56 (List.replicate 8 (.string ⟨#[]⟩)) := by subst hw2; exact block_alloc_new _ _
  have hc2 : Chg (fun _ => False) w1 w2 := by subst hw2; exact (Chg.refl _ _).alloc _
  obtain ⟨nb, hnb⟩ : ∃ nb, nb = w1.heap.size := ⟨_, rfl⟩
  rw [← hnb] at hn2
  have HN2 := Lib.hid hn2
  have HC2 := Lib.hid hc2
  have HNb := Lib.hid hnb
  clear hw2 hn2 hc2 HR1
  rw [← hnb]
  clear hnb
  go_loopw [29] (fun j wr => ∃ k : Nat, j = .int .i64 k ∧ k ≤ 8 ∧ Chg (· = nb) w2 wr ∧ Arr wr nb 56 (List.replicate k (strV zeroBlk) ++ List.replicate (8 - k) (.string ⟨#[]⟩))) (fun j _ => 8 - (intOf j).toNat)
  · exact ⟨0, rfl, Nat.zero_le _, Chg.refl _ _, HN2.out⟩
  obtain ⟨k, rfl, hk8, hc, hA⟩ := hrel
  have HC := Lib.hid hc
  have HAr := Lib.hid hA
  clear hc hA
  by_cases hlt : k < 8
  · obtain ⟨w3, hm, ho, hc3⟩ := made_u8 wr 64 (by omega)
    have hm' : (Instr.makeSlice 68 (.int .i64 64) (.int .i64 64)).run Try.prog wr = .ok (.slice (some ⟨wr.heap.size, 0, none⟩) 64 64) w3 := hm
    have hcv : (convert 68 9 (.slice (some ⟨wr.heap.size, 0, none⟩) 64 64)).run Try.prog w3 = .ok (strV zeroBlk) w3 := conv_own (b := zeroBlk) ho
    unfold strV at hcv
    obtain ⟨zs, hzs⟩ : ∃ zs : ByteArray, (⟨zeroBlk.toArray⟩ : ByteArray) = zs := ⟨_, rfl⟩
    rw [hzs] at hcv
    have hA3 := HAr.out.kept hc3 id
    have hki : (k : Int) < 8 := by omega
    have hcell : w3.cell? ⟨nb, k, none⟩ = some (.string ⟨#[]⟩) := cell_of_block hA3 (by
      have : (List.replicate k (strV zeroBlk) ++ List.replicate (8 - k) (Value.string ⟨#[]⟩))[k]? = some (.string ⟨#[]⟩) := by
        rw [List.getElem?_append_right (by simp), List.length_replicate, Nat.sub_self, List.getElem?_replicate_of_lt (by omega)]
      simpa using this)
    have hfr : w3.frozen? ⟨nb, k, none⟩ = false := free_of_block hA3
    have HA3 := Lib.hid hA3
    have HC3 := Lib.hid hc3
    have HZ := Lib.hid hzs
    clear hm ho hA3 hc3 hzs
    go_wp2_with fail
    refine ⟨⟨k + 1, by go_num, hlt, (HC.out.trans' (HC3.out.mono (fun _ _ h => h.elim))).setCell (fun _ => rfl) _, ?_⟩, by simp [intOf]; omega⟩
    have h1 := HA3.out.set k (.string zs)
    rw [show (Value.string zs) = strV zeroBlk from by rw [← HZ.out]; rfl, fill_step _ _ _ _ (by omega), Nat.sub_sub] at h1
    rw [show (Value.string zs) = strV zeroBlk from by rw [← HZ.out]; rfl]
    exact h1
  · have hki : ¬ (k : Int) < 8 := by omega
    obtain rfl : k = 8 := by omega
    have hA8 : Arr wr nb 56 (List.replicate 8 (strV zeroBlk)) := by simpa using HAr.out
    have HW8 := Lib.hid (((HA.out.2.2.2.2.1.kept HX1.out.2 id).kept HC2.out id).kept HC.out (fun e => by have := (HA.out.2.2.2.2.1.kept HX1.out.2 id).lt; have := HNb.out; omega))
    have HA8 := Lib.hid hA8
    clear hA8
    go_wp2_with (first
      | (refine wpList_load_mid rfl 56 _ rfl nb 0 rfl (List.replicate 8 (strV zeroBlk)) _ HA8.out.range Try.underlying56 rfl size_s8 ?_)
      | (refine wpList_store_mid rfl 56 _ _ rfl (W.heap.size + 1 + 1) 0 (List.replicate 8 (strV zeroBlk)).toArray rfl rfl HW8.out.there size_s8 (all_oneCell_toArray (one_rep 8 rfl)) ?_))
    obtain ⟨w5, hw5⟩ : ∃ w5, wr.setCells (W.heap.size + 1 + 1) 0 [strV zeroBlk, strV zeroBlk, strV zeroBlk, strV zeroBlk, strV zeroBlk, strV zeroBlk, strV zeroBlk, strV zeroBlk] = w5 := ⟨_, rfl⟩
    rw [hw5]
    have c5 : Chg (· = W.heap.size + 1 + 1) wr w5 := by subst hw5; exact chg_setCells _ _ _ _
    have hsn : W.heap.size + 4 ≤ nb := by rw [HNb.out]; have := HX1.out.2.size; have := HA.out.1; omega
    have hbg : Bg W w5 nb (born w0 w1) d (DV.new 8) (List.replicate 8 nilS) 0 := by
      refine bg_start HA.out.1 HA.out.2.1 HX1.out.1 HX1.out.2 HNb.out (((HC2.out.mono (fun _ _ h => h.elim)).trans' (HC.out.mono (fun _ _ h => Or.inl h))).trans' (c5.mono (fun _ _ h => Or.inr h))) ?_ (HA8.out.kept c5 (by omega)) HA.out.2.2.1 HA.out.2.2.2.1 HA.out.2.2.2.2.2
      subst hw5
      exact HW8.out.all (vs := List.replicate 8 (strV zeroBlk)) (by simp)
    have HB := Lib.hid hbg
    clear hw5 c5 hbg HW8 HA8 HAr HC HN2 HC2
    go_loopw [12] (fun j wr => ∃ i : Nat, j = .int .i64 i ∧ i ≤ acts.length ∧ i ≤ 60 ∧ ∃ F X ls, Bg W wr nb F d X ls i) (fun j _ => 60 - (intOf j).toNat)
    · exact ⟨0, rfl, Nat.zero_le _, by omega, _, _, _, HB.out⟩
    clear HB HA HX1 HNb
    obtain ⟨i, rfl, hil, hi60, F, X, ls, hB⟩ := hrel
    have HB := Lib.hid hB
    clear hB
    by_cases hlt : i < acts.length ∧ i < 60
    · obtain ⟨hl1, hl2⟩ := hlt
      have hd60 : decide ((i : Int) < 60) = true := by simp; omega
      obtain ⟨b, off, rfl⟩ := HActs.out.spot (by intro e; cases acts with | nil => simp at hl1 | cons => simp at e)
      obtain ⟨a, ha⟩ : ∃ a, acts[i]? = some a := ⟨acts[i], List.getElem?_eq_getElem hl1⟩
      have hcell := fun j v hj => (HActs.out.kept HB.out.chg (fun _ _ h => h)).cell b off rfl i a.row j v (by simp [ha]) hj
      have c0 : wr.cell? ⟨b, off + i * 5, none⟩ = some (.int .i64 a.kind) := hcell 0 _ rfl
      have c1 : wr.cell? ⟨b, off + i * 5 + 1, none⟩ = some (.int .i64 a.place) := hcell 1 _ rfl
      have c2 : wr.cell? ⟨b, off + i * 5 + 2, none⟩ = some (.int .i64 a.n) := hcell 2 _ rfl
      have c3 : wr.cell? ⟨b, off + i * 5 + 3, none⟩ = some (.int .i64 a.long) := hcell 3 _ rfl
      have c4 : wr.cell? ⟨b, off + i * 5 + 4, none⟩ = some a.kv := hcell 4 _ rfl
      have HOa := Lib.hid (HOk.out a (List.mem_of_getElem? ha))
      obtain ⟨oak, lk, ck, hkv⟩ : ∃ oak lk ck, a.kv = .slice oak lk ck := by obtain ⟨oak, ck, e, _⟩ := HOa.out.keep; exact ⟨_, _, _, e⟩
      rw [hkv] at c4
      obtain ⟨hk1, hk8⟩ := kOf_eq a
      have hkR : inR (kOf a : Int) := by constructor <;> omega
      have inR0 : inR 0 := by constructor <;> omega
      have HK8 := Lib.hid hk8
      have hfx : X.fuse ≤ 9223372036854775807 := by rw [HB.out.fuse]; omega
      have HFx := Lib.hid hfx
      have hLx : ∀ j, (X.L j).length < 1000000 := fun j => by have := HB.out.Ls j; omega
      have HLx := Lib.hid hLx
      have hF : ∀ x, x < W.heap.size + 4 → ¬ F x := fun x hx hf => by have := HB.out.old x hf; omega
      have HF := Lib.hid hF
      clear hcell ha hkv hk8 hfx hLx hF
      by_cases hkd : a.kind = 1
      · have hkb : (a.kind == 1) = true := by simp [hkd]
        have hfl : flushC X = 0 := by
          have := HB.out.fuse
          simp [flushC, HB.out.down, this]
        obtain ⟨nl, hnl⟩ : ∃ nl, (List.range 8).map (fun i => strV (X.cur i)) = nl := ⟨_, rfl⟩
        have hnlen : nl.length = 8 := by rw [← hnl]; simp
        have hnone : ∀ x ∈ nl, x.oneCell' = true := by rw [← hnl]; exact one_map _ _
        have hnow := HB.out.now
        rw [hnl] at hnow
        have hsz8 : (Try.prog.info? 56).map (·.size) = some nl.length := by rw [hnlen]; exact size_s8
        have HN := Lib.hid hnow
        have HL8 := Lib.hid hnlen
        have HO := Lib.hid hnone
        have HSz := Lib.hid hsz8
        have HNl := Lib.hid hnl
        have hth : ∀ w2, Chg F wr w2 → w2.there (W.heap.size + 1 + 1) 0 nl.length := fun w2 hc => by
          have := (HB.out.was.kept hc (HF.out _ (by omega))).there
          rw [List.length_map, HB.out.len] at this
          rw [HL8.out]; exact this
        have HTh := Lib.hid hth
        have hth2 : ∀ w2, Chg F wr w2 → (w2.setCells (W.heap.size + 1 + 1) 0 nl).there (W.heap.size + 1 + 1 + 1) 0 8 := fun w2 hc => by
          have := ((HB.out.snc.kept hc (HF.out _ (by omega))).kept (chg_setCells (W.heap.size + 1 + 1) nl 0 w2) (by omega)).there
          rw [HB.out.ll] at this
          exact this
        have HTh2 := Lib.hid hth2
        have ho8 : ([nilS, nilS, nilS, nilS, nilS, nilS, nilS, nilS].toArray.all (·.oneCell')) = true := all_oneCell_toArray (one_rep 8 rfl)
        have HO8 := Lib.hid ho8
        clear hth2 ho8
        clear hnl hnlen hnone hnow hsz8 hth
        go_wp2_with (first
          | (go_at_call 30; refine (flush_at _ HB.out.disk HFx.out).mono ?_; rw [hfl]; rintro e w2 ⟨rfl, hx2, hcx⟩; have HX2 := Lib.hid (And.intro hx2 hcx); have HNow := Lib.hid (HN.out.kept hcx HB.out.fn).range; have HWas := Lib.hid (HTh.out _ hcx); have HSnc := Lib.hid (HTh2.out _ hcx); clear hx2 hcx)
          | (refine wpList_load_mid rfl 56 _ rfl nb 0 rfl nl _ HNow.out Try.underlying56 rfl HSz.out ?_)
          | (refine wpList_store_mid rfl 56 _ _ rfl (W.heap.size + 1 + 1) 0 nl.toArray rfl rfl (by rw [List.size_toArray]; exact HWas.out) (by rw [List.size_toArray]; exact HSz.out) (all_oneCell_toArray HO.out) ?_; rw [List.toList_toArray]; obtain ⟨w3, hw3⟩ : ∃ w3, w2.setCells (W.heap.size + 1 + 1) 0 nl = w3 := ⟨_, rfl⟩; rw [hw3]; have HS3 := Lib.hid (show w3.there (W.heap.size + 1 + 1 + 1) 0 8 from by rw [← hw3]; exact HSnc.out); have HW3 := Lib.hid hw3; clear hw3)
          | (refine wpList_store_mid rfl 58 _ _ rfl (W.heap.size + 1 + 1 + 1) 0 #[nilS, nilS, nilS, nilS, nilS, nilS, nilS, nilS] rfl rfl HS3.out size_ss8 HO8.out ?_; rw [List.toList_toArray]; obtain ⟨w4, hw4⟩ : ∃ w4, w3.setCells (W.heap.size + 1 + 1 + 1) 0 [nilS, nilS, nilS, nilS, nilS, nilS, nilS, nilS] = w4 := ⟨_, rfl⟩; rw [hw4]; have HW4 := Lib.hid hw4; clear hw4))
        exact ⟨⟨i + 1, by go_num, hl1, by omega, _, _, _, HB.out.flushed (by omega) HX2.out.1 HX2.out.2 (by rw [HNl.out, HW3.out]) HW4.out.symm⟩, by simp [intOf]; omega⟩
      · have hkb : (a.kind == 1) = false := by simp [hkd]
        have hwc : writeC X (kOf a) 64 = 0 := by
          have ha : askedC X (kOf a : Int) = 0 := by simp [askedC, HB.out.down, HB.out.len]; have := HK8.out; omega
          have hf := HB.out.fuse
          simp [writeC, ha, hf]
        have hBf : ∀ o, Bg W (wr.alloc o) nb F d X ls i := fun o => HB.out.fresh ((Chg.refl _ _).alloc o)
        have HBf := Lib.hid hBf
        obtain ⟨bs, hbs⟩ : ∃ bs : ByteArray, (⟨(bOf a).toArray⟩ : ByteArray) = bs := ⟨_, rfl⟩
        have HBs := Lib.hid hbs
        obtain ⟨u, hu⟩ : ∃ u, ls[kOf a]? = some u := ⟨ls[kOf a]'(by rw [HB.out.ll]; exact HK8.out), List.getElem?_eq_getElem _⟩
        have HU := Lib.hid hu
        have hki : ((kOf a : Nat) : Int) < 8 := by have := HK8.out; omega
        have hpw := place_wrap' a.place
        clear hBf hbs hu
        obtain ⟨kk, hkk⟩ : ∃ kk, kOf a = kk := ⟨_, rfl⟩
        have HKk := Lib.hid hkk
        rw [hkk] at hk1 hkR hki HK8 HU hwc
        clear hkk
        go_wp2_with (first
          | (go_at_call 33; refine (write_at _ HB2.out.disk _ hkR HFx.out (b := bOf a) HV1.out (fun g hg hF => Nat.not_lt.2 (HV1.out.lt g hg).1 ((HBf.out _).disk.lt g hF)) HLx.out).mono ?_; rw [bOf_len, hwc]; rintro e w3 ⟨rfl, hx3, hcx⟩
             have HX3 := Lib.hid (And.intro hx3 hcx)
             have hcv : (convert 68 9 v1).run Try.prog w3 = .ok (.string bs) w3 := by rw [← HBs.out]; exact conv_own (row_kept HV1.out hcx (fun g hg hF => Nat.not_lt.2 (HV1.out.lt g hg).1 ((HBf.out _).disk.lt g hF)))
             have hnow := HB2.out.now.kept hcx HB2.out.fn
             have hnc : w3.cell? ⟨nb, kk, none⟩ = some (strV (X.cur kk)) := cell_of_block hnow (by have := HK8.out; simp [this])
             have hnf : w3.frozen? ⟨nb, kk, none⟩ = false := free_of_block hnow
             clear hx3 hcx hnow)
          | (go_at_call 34; refine (bytesOf_any _ { a with long := 0, kv := .slice oak lk ck } HOa.out.n inR0).mono ?_; rintro e w2 ⟨v1, rfl, hv1, hcb1⟩; have HV1 := Lib.hid hv1; have HB2 := Lib.hid ((HBf.out _).fresh hcb1); clear hv1 hcb1))
        obtain ⟨w4, hw4⟩ : ∃ w4, w3.setCell ⟨nb, kk, none⟩ (.string bs) = w4 := ⟨_, rfl⟩
        rw [hw4]
        have c4 : Chg (· = nb) w3 w4 := by subst hw4; exact Chg.setCell (S := (· = nb)) (Chg.refl _ _) (fun _ => rfl) _
        have hu2 := HB2.out.each kk u HU.out
        have hsn := HB2.out.snc
        have hu4 := row_kept (row_kept hu2 HX3.out.2 (fun g hg => HB2.out.off kk u g HU.out hg)) c4 (fun g hg e => HB2.out.row_ne hu2 HB2.out.now (Or.inl rfl) hg e)
        have hs4 := (hsn.kept HX3.out.2 (HF.out _ (by omega))).kept c4 (by have := HB2.out.nbn; omega)
        have hcu4 : w4.cell? ⟨W.heap.size + 1 + 1 + 1, kk, none⟩ = some u := cell_of_block hs4 (by simpa using HU.out)
        have hcv4 : (convert 68 9 v1).run Try.prog w4.drew = .ok (.string bs) w4.drew := by
          rw [← HBs.out]
          refine conv_own (w := w4.drew) (row_kept (w := w3) (w' := w4.drew) (row_kept HV1.out HX3.out.2 (fun g hg hF => Nat.not_lt.2 (HV1.out.lt g hg).1 ((HBf.out _).disk.lt g hF))) c4.drew (fun g hg e => ?_))
          have h1 := (HV1.out.lt g hg).1
          have h2 := HB.out.now.lt
          rw [World.size_alloc] at h1
          omega
        have hc5 : Chg (fun _ => False) w4 (w4.alloc (.cells #[.string bs] 9)).drew := ((Chg.refl _ _).alloc _).drew
        have hlk : (X.L kk).length < 1000000 := HLx.out kk
        obtain ⟨i0, hI0⟩ := info_parts info_str
        obtain ⟨u', w6, hap, ho, hg, -, hvn⟩ := run_append_own_at (P := Try.prog) (w4.alloc (.cells #[.string bs] 9)).drew (W.heap.size + 4) 57 57 9 i0 (.string ⟨#[]⟩) 1 16 Try.underlying57 hI0.1 hI0.2.1 hI0.2.2.1 hI0.2.2.2 rfl (by decide)
          u _ _ (row_kept hu4 hc5 (fun _ _ h => h)) ⟨w4.heap.size, 0, none⟩ 1 1 [.string bs] rfl (cells_new w4 [.string bs] _) (by intro x hx; rw [List.mem_singleton.1 hx]; rfl) (by unfold maxLen; omega) (by omega) (by have := HB2.out.chg.size; have h3 := HX3.out.2.size; have h4 := c4.size; have h5 := hc5.size; have := HB2.out.r4.lt; have := HB2.out.snc.lt; omega)
        obtain ⟨oau, capu, rfl⟩ := own_slice ho
        have hg6 := Chg.of_grown hg
        have hs6 := (hs4.kept hc5 id).kept hg6 (fun e => HB2.out.row_ne hu2 hsn (Or.inr rfl) e.symm rfl)
        have hcu5 : (w4.alloc (.cells #[.string bs] 9)).drew.cell? ⟨W.heap.size + 1 + 1 + 1, kk, none⟩ = some u := hc5.cell hcu4 id
        have hcu6 : w6.cell? ⟨W.heap.size + 1 + 1 + 1, kk, none⟩ = some u := cell_of_block hs6 (by simpa using HU.out)
        have hfr6 : w6.frozen? ⟨W.heap.size + 1 + 1 + 1, kk, none⟩ = false := free_of_block hs6
        have hfin := HB2.out.written (k := kk) (b := bOf a) (by omega) HK8.out (bOf_len a) HX3.out.1 HX3.out.2 (by rw [← hw4, strV, HBs.out]) hc5 HU.out (by rw [show strV (bOf a) = .string bs from by rw [strV, HBs.out]]; exact ho) hg6 hvn rfl
        have HFin := Lib.hid hfin
        clear hw4 c4 hu2 hsn hu4 hs4 hc5 hI0 ho hg hvn hg6 hs6 hfin hnc hnf
        refine wp_region_noPanic ?_
        refine wp_region_held_drew (S := (fun _ => True)) (by kernel_rfl) (trivial) (fun hHeld => ?_)
        refine take_list (i := 0) (v := ?_) rfl (by kernel_rfl) (by kernel_rfl) (by kernel_rfl) (fun _ _ _ h => h) (Or.inl ⟨by rfl, fun w hSw => ?_⟩) hHeld ?_
        rotate_left
        · (skip; go_simp)
          try with_reducible rfl
        simp only [Act.put, List.setIfInBounds_toArray, List.set_cons_zero, List.set_cons_succ]
        refine take_list (i := 1) (v := ?_) rfl (by kernel_rfl) (by kernel_rfl) (by kernel_rfl) (fun _ _ _ h => h) (Or.inl ⟨by rfl, fun w hSw => ?_⟩) hHeld ?_
        rotate_left
        · (skip; go_simp)
          try with_reducible rfl
        simp only [Act.put, List.setIfInBounds_toArray, List.set_cons_zero, List.set_cons_succ]
        refine take_list (i := 2) (v := ?_) rfl (by kernel_rfl) (by kernel_rfl) (by kernel_rfl) (fun _ _ _ h => h) (Or.inl ⟨by rfl, fun w hSw => ?_⟩) hHeld ?_
        rotate_left
        · (skip; go_simp)
          try with_reducible rfl
        simp only [Act.put, List.setIfInBounds_toArray, List.set_cons_zero, List.set_cons_succ]
        refine take_list (i := 4) (v := ?_) rfl (by kernel_rfl) (by kernel_rfl) (by kernel_rfl) (fun _ _ _ h => h) (Or.inl ⟨by rfl, fun w hSw => ?_⟩) hHeld ?_
        rotate_left
        · (skip; go_simp)
          try with_reducible rfl
        simp only [Act.put, List.setIfInBounds_toArray, List.set_cons_zero, List.set_cons_succ]
        refine wpAnyH_ready (rs := [3, 5]) (by kernel_rfl) (by simp) (one_list (i := 3) rfl (by rfl) (fun K hK => ?_) (one_list (i := 5) rfl (by rfl) (fun K hK => ?_) AllReadyH.nil))
        · go_simp
          refine hK _ _ (trivial) (fun hH1 => ?_)
          try simp only [Act.put, List.setIfInBounds_toArray, List.set_cons_zero, List.set_cons_succ]
          refine wpAnyH_ready (rs := [5]) (by kernel_rfl) (by simp) (one_list (i := 5) rfl (by rfl) (fun K hK => ?_) AllReadyH.nil)
          go_simp
          refine hK _ _ (trivial) (fun hH2 => ?_)
          try simp only [Act.put, List.setIfInBounds_toArray, List.set_cons_zero, List.set_cons_succ]
          refine wpAnyH_ready (rs := [6]) (by kernel_rfl) (by simp) (one_list (i := 6) rfl (by rfl) (fun K hK => ?_) AllReadyH.nil)
          go_simp
          refine hK _ _ (trivial) (fun hH3 => ?_)
          try simp only [Act.put, List.setIfInBounds_toArray, List.set_cons_zero, List.set_cons_succ]
          refine wpAnyH_ready (rs := [7]) (by kernel_rfl) (by simp) (one_list (i := 7) rfl (by rfl) (fun K hK => ?_) AllReadyH.nil)
          refine oper_append _ _ _ rfl rfl rfl hap ?_
          refine hK _ _ (trivial) (fun hH4 => ?_)
          try simp only [Act.put, List.setIfInBounds_toArray, List.set_cons_zero, List.set_cons_succ]
          refine take_list (i := 8) (v := ?_) rfl (by kernel_rfl) (by kernel_rfl) (by kernel_rfl) (fun _ _ _ h => h) (Or.inl ⟨by rfl, fun w hSw => ?_⟩) hH4 ?_
          rotate_left
          · (skip; go_simp)
            try with_reducible rfl
          simp only [Act.put, List.setIfInBounds_toArray, List.set_cons_zero, List.set_cons_succ]
          refine wpAnyH_ready (rs := [9]) (by kernel_rfl) (by simp) (one_list (i := 9) rfl (by rfl) (fun K hK => ?_) AllReadyH.nil)
          go_simp
          refine hK _ _ (trivial) (fun hH5 => ?_)
          try simp only [Act.put, List.setIfInBounds_toArray, List.set_cons_zero, List.set_cons_succ]
          refine wpAnyH_done (by kernel_rfl) ?_ _
          refine NoPanic.normal ?_
          go_wp2_with fail
          exact ⟨⟨i + 1, by go_num, hl1, by omega, _, _, _, HFin.out⟩, by simp [intOf]; omega⟩
        · go_simp
          refine hK _ _ (trivial) (fun hH1 => ?_)
          try simp only [Act.put, List.setIfInBounds_toArray, List.set_cons_zero, List.set_cons_succ]
          refine wpAnyH_ready (rs := [3, 6]) (by kernel_rfl) (by simp) (one_list (i := 3) rfl (by rfl) (fun K hK => ?_) (one_list (i := 6) rfl (by rfl) (fun K hK => ?_) AllReadyH.nil))
          · go_simp
            refine hK _ _ (trivial) (fun hH2 => ?_)
            try simp only [Act.put, List.setIfInBounds_toArray, List.set_cons_zero, List.set_cons_succ]
            refine wpAnyH_ready (rs := [6]) (by kernel_rfl) (by simp) (one_list (i := 6) rfl (by rfl) (fun K hK => ?_) AllReadyH.nil)
            go_simp
            refine hK _ _ (trivial) (fun hH3 => ?_)
            try simp only [Act.put, List.setIfInBounds_toArray, List.set_cons_zero, List.set_cons_succ]
            refine wpAnyH_ready (rs := [7]) (by kernel_rfl) (by simp) (one_list (i := 7) rfl (by rfl) (fun K hK => ?_) AllReadyH.nil)
            refine oper_append _ _ _ rfl rfl rfl hap ?_
            refine hK _ _ (trivial) (fun hH4 => ?_)
            try simp only [Act.put, List.setIfInBounds_toArray, List.set_cons_zero, List.set_cons_succ]
            refine take_list (i := 8) (v := ?_) rfl (by kernel_rfl) (by kernel_rfl) (by kernel_rfl) (fun _ _ _ h => h) (Or.inl ⟨by rfl, fun w hSw => ?_⟩) hH4 ?_
            rotate_left
            · (skip; go_simp)
              try with_reducible rfl
            simp only [Act.put, List.setIfInBounds_toArray, List.set_cons_zero, List.set_cons_succ]
            refine wpAnyH_ready (rs := [9]) (by kernel_rfl) (by simp) (one_list (i := 9) rfl (by rfl) (fun K hK => ?_) AllReadyH.nil)
            go_simp
            refine hK _ _ (trivial) (fun hH5 => ?_)
            try simp only [Act.put, List.setIfInBounds_toArray, List.set_cons_zero, List.set_cons_succ]
            refine wpAnyH_done (by kernel_rfl) ?_ _
            refine NoPanic.normal ?_
            go_wp2_with fail
            exact ⟨⟨i + 1, by go_num, hl1, by omega, _, _, _, HFin.out⟩, by simp [intOf]; omega⟩
          · go_simp
            refine hK _ _ (trivial) (fun hH2 => ?_)
            try simp only [Act.put, List.setIfInBounds_toArray, List.set_cons_zero, List.set_cons_succ]
            refine wpAnyH_ready (rs := [3]) (by kernel_rfl) (by simp) (one_list (i := 3) rfl (by rfl) (fun K hK => ?_) AllReadyH.nil)
            go_simp
            refine hK _ _ (trivial) (fun hH3 => ?_)
            try simp only [Act.put, List.setIfInBounds_toArray, List.set_cons_zero, List.set_cons_succ]
            refine wpAnyH_ready (rs := [7]) (by kernel_rfl) (by simp) (one_list (i := 7) rfl (by rfl) (fun K hK => ?_) AllReadyH.nil)
            refine oper_append _ _ _ rfl rfl rfl hap ?_
            refine hK _ _ (trivial) (fun hH4 => ?_)
            try simp only [Act.put, List.setIfInBounds_toArray, List.set_cons_zero, List.set_cons_succ]
            refine take_list (i := 8) (v := ?_) rfl (by kernel_rfl) (by kernel_rfl) (by kernel_rfl) (fun _ _ _ h => h) (Or.inl ⟨by rfl, fun w hSw => ?_⟩) hH4 ?_
            rotate_left
            · (skip; go_simp)
              try with_reducible rfl
            simp only [Act.put, List.setIfInBounds_toArray, List.set_cons_zero, List.set_cons_succ]
            refine wpAnyH_ready (rs := [9]) (by kernel_rfl) (by simp) (one_list (i := 9) rfl (by rfl) (fun K hK => ?_) AllReadyH.nil)
            go_simp
            refine hK _ _ (trivial) (fun hH5 => ?_)
            try simp only [Act.put, List.setIfInBounds_toArray, List.set_cons_zero, List.set_cons_succ]
            refine wpAnyH_done (by kernel_rfl) ?_ _
            refine NoPanic.normal ?_
            go_wp2_with fail
            exact ⟨⟨i + 1, by go_num, hl1, by omega, _, _, _, HFin.out⟩, by simp [intOf]; omega⟩
    · obtain ⟨al, hal⟩ : ∃ al, X.B.map strV = al := ⟨_, rfl⟩
      have hall : al.length = 8 := by rw [← hal, List.length_map]; exact HB.out.len
      have hwas := HB.out.was
      rw [hal] at hwas
      have halo : ∀ x ∈ al, x.oneCell' = true := by rw [← hal]; exact one_map' _ trivial
      have hlso : ∀ x ∈ ls, x.oneCell' = true := by
        intro x hx
        obtain ⟨j, hj⟩ := List.getElem?_of_mem hx
        obtain ⟨oax, cx, e⟩ := own_slice (HB.out.each j x hj)
        rw [e]; rfl
      have HAl := Lib.hid hal
      have HAll := Lib.hid hall
      have HWas := Lib.hid hwas
      have HAlo := Lib.hid halo
      have HLso := Lib.hid hlso
      clear hal hall hwas halo hlso
      rcases Nat.lt_or_ge i acts.length with hl1 | hl1
      · have hd60 : decide ((i : Int) < 60) = false := by simp; omega
        have hl2 : (i : Int) < (acts.length : Int) := by omega
        clear hl1 hlt
        go_wp2_with fail
        have hty := Try.underlying56
        have hty2 := Try.underlying58
        have hsz : (Try.prog.info? 56).map (·.size) = some al.length := by rw [HAll.out]; exact size_s8
        have hsz2 : (Try.prog.info? 58).map (·.size) = some ls.length := by rw [HB.out.ll]; exact size_ss8
        refine wp_region_noPanic ?_
        refine wp_region_held_drew (S := (fun w' => w'.rangeAt (W.heap.size + 1 + 1) 0 al ∧ w'.rangeAt (W.heap.size + 1 + 1 + 1) 0 ls)) (by kernel_rfl) (⟨HWas.out.range, HB.out.snc.range⟩) (fun hHeld => ?_)
        refine take_list (i := 0) (v := ?_) rfl (by kernel_rfl) (by kernel_rfl) (by kernel_rfl) (fun _ _ _ h => h) (Or.inl ⟨by rfl, fun w hSw => ?_⟩) hHeld ?_
        rotate_left
        · (obtain ⟨hSw1, hSw2⟩ := hSw; go_simp)
          try with_reducible rfl
        simp only [Act.put, List.setIfInBounds_toArray, List.set_cons_zero, List.set_cons_succ]
        refine take_list (i := 1) rfl (by kernel_rfl) (by kernel_rfl) (by kernel_rfl) (fun _ _ _ h => h) ((yieldsIf_load_mid (by rfl) _ _ rfl _ _ rfl al _ (fun w h => h.1) hty rfl hsz)) hHeld ?_
        simp only [Act.put, List.setIfInBounds_toArray, List.set_cons_zero, List.set_cons_succ]
        refine take_list (i := 2) rfl (by kernel_rfl) (by kernel_rfl) (by kernel_rfl) (fun _ _ _ h => h) ((yieldsIf_load_mid (by rfl) _ _ rfl _ _ rfl ls _ (fun w h => h.2) hty2 rfl hsz2)) hHeld ?_
        simp only [Act.put, List.setIfInBounds_toArray, List.set_cons_zero, List.set_cons_succ]
        refine take_list (i := 3) (v := ?_) rfl (by kernel_rfl) (by kernel_rfl) (by kernel_rfl) (fun _ _ _ h => h) (Or.inl ⟨by rfl, fun w hSw => ?_⟩) hHeld ?_
        rotate_left
        · (obtain ⟨hSw1, hSw2⟩ := hSw; go_simp)
          try with_reducible rfl
        simp only [Act.put, List.setIfInBounds_toArray, List.set_cons_zero, List.set_cons_succ]
        have hth1 : wr.drew.there W.heap.size 0 al.length := by
          have := HB.out.r3.there
          rw [List.length_replicate] at this
          rw [HAll.out]; exact this
        obtain ⟨w5, hw5⟩ : ∃ w5, wr.drew.setCells W.heap.size 0 al = w5 := ⟨_, rfl⟩
        have c5 : Chg (· = W.heap.size) wr w5 := by subst hw5; exact ((Chg.refl (fun _ => False) wr).drew.mono (fun _ _ h => h.elim)).trans' (chg_setCells _ _ _ _)
        have a5 : Arr w5 W.heap.size 56 al := by subst hw5; exact (HB.out.r3.kept ((Chg.refl (fun _ => False) wr).drew) id).all (by rw [HAll.out]; rfl)
        have r5 := HB.out.r4.kept c5 (by omega)
        have hth2 : w5.there (W.heap.size + 1) 0 ls.length := by
          have := r5.there
          rw [List.length_replicate] at this
          rw [HB.out.ll]; exact this
        obtain ⟨w6, hw6⟩ : ∃ w6, w5.setCells (W.heap.size + 1) 0 ls = w6 := ⟨_, rfl⟩
        have c6 : Chg (· = W.heap.size + 1) w5 w6 := by subst hw6; exact chg_setCells _ _ _ _
        have a6 : Arr w6 (W.heap.size + 1) 58 ls := by subst hw6; exact r5.all (by rw [HB.out.ll]; rfl)
        have s5a := (HWas.out.kept c5 (by omega)).range
        have s5b := (HB.out.snc.kept c5 (by omega)).range
        have s6a := ((HWas.out.kept c5 (by omega)).kept c6 (by omega)).range
        have s6b := ((HB.out.snc.kept c5 (by omega)).kept c6 (by omega)).range
        refine wpAnyH_ready (rs := [4]) (by kernel_rfl) (by simp) (one_list (i := 4) rfl (by rfl) (fun K hK => ?_) AllReadyH.nil)
        refine wp_store_mid _ _ _ rfl W.heap.size 0 al.toArray rfl rfl (by rw [List.size_toArray]; exact hth1) (by rw [List.size_toArray]; exact hsz) (all_oneCell_toArray HAlo.out) ?_
        rw [List.toList_toArray, hw5]
        refine hK _ _ ⟨s5a, s5b⟩ (fun hH2 => ?_)
        simp only [Act.put, List.setIfInBounds_toArray, List.set_cons_zero, List.set_cons_succ]
        refine wpAnyH_ready (rs := [5]) (by kernel_rfl) (by simp) (one_list (i := 5) rfl (by rfl) (fun K hK => ?_) AllReadyH.nil)
        refine wp_store_mid _ _ _ rfl (W.heap.size + 1) 0 ls.toArray rfl rfl (by rw [List.size_toArray]; exact hth2) (by rw [List.size_toArray]; exact hsz2) (all_oneCell_toArray HLso.out) ?_
        rw [List.toList_toArray, hw6]
        refine hK _ _ ⟨s6a, s6b⟩ (fun hH3 => ?_)
        simp only [Act.put, List.setIfInBounds_toArray, List.set_cons_zero, List.set_cons_succ]
        refine take_list (i := 6) (v := ?_) rfl (by kernel_rfl) (by kernel_rfl) (by kernel_rfl) (fun _ _ _ h => h) (Or.inl ⟨by rfl, fun w hSw => ?_⟩) hH3 ?_
        rotate_left
        · (obtain ⟨hSw1, hSw2⟩ := hSw; go_simp)
          try with_reducible rfl
        simp only [Act.put, List.setIfInBounds_toArray, List.set_cons_zero, List.set_cons_succ]
        refine wpAnyH_done (by kernel_rfl) ?_ _
        refine NoPanic.normal ?_
        go_wp2_with fail
        have hv1 : (loadVar 56 ⟨W.heap.size, 0, none⟩).run Try.prog w6 = .ok (.agg al.toArray) w6 := run_loadVar_mid w6 W.heap.size 0 56 al _ (a5.kept c6 (by omega)).range hty rfl hsz
        have hv2 : (loadVar 58 ⟨W.heap.size + 1, 0, none⟩).run Try.prog w6 = .ok (.agg ls.toArray) w6 := run_loadVar_mid w6 (W.heap.size + 1) 0 58 ls _ a6.range hty2 rfl hsz2
        (try simp only [Exit.inBlock, Exit.then])
        refine bodyPost_ret (results4 rfl _ rfl rfl hv1 hv2) rfl ?_
        exact ⟨d, F, X, ls, i, by rw [HAl.out]; rfl, HB.out.out c5 c6, hi60⟩
      · have hl2 : ¬ (i : Int) < (acts.length : Int) := by omega
        clear hl1 hlt
        go_wp2_with fail
        have hty := Try.underlying56
        have hty2 := Try.underlying58
        have hsz : (Try.prog.info? 56).map (·.size) = some al.length := by rw [HAll.out]; exact size_s8
        have hsz2 : (Try.prog.info? 58).map (·.size) = some ls.length := by rw [HB.out.ll]; exact size_ss8
        refine wp_region_noPanic ?_
        refine wp_region_held_drew (S := (fun w' => w'.rangeAt (W.heap.size + 1 + 1) 0 al ∧ w'.rangeAt (W.heap.size + 1 + 1 + 1) 0 ls)) (by kernel_rfl) (⟨HWas.out.range, HB.out.snc.range⟩) (fun hHeld => ?_)
        refine take_list (i := 0) (v := ?_) rfl (by kernel_rfl) (by kernel_rfl) (by kernel_rfl) (fun _ _ _ h => h) (Or.inl ⟨by rfl, fun w hSw => ?_⟩) hHeld ?_
        rotate_left
        · (obtain ⟨hSw1, hSw2⟩ := hSw; go_simp)
          try with_reducible rfl
        simp only [Act.put, List.setIfInBounds_toArray, List.set_cons_zero, List.set_cons_succ]
        refine take_list (i := 1) rfl (by kernel_rfl) (by kernel_rfl) (by kernel_rfl) (fun _ _ _ h => h) ((yieldsIf_load_mid (by rfl) _ _ rfl _ _ rfl al _ (fun w h => h.1) hty rfl hsz)) hHeld ?_
        simp only [Act.put, List.setIfInBounds_toArray, List.set_cons_zero, List.set_cons_succ]
        refine take_list (i := 2) rfl (by kernel_rfl) (by kernel_rfl) (by kernel_rfl) (fun _ _ _ h => h) ((yieldsIf_load_mid (by rfl) _ _ rfl _ _ rfl ls _ (fun w h => h.2) hty2 rfl hsz2)) hHeld ?_
        simp only [Act.put, List.setIfInBounds_toArray, List.set_cons_zero, List.set_cons_succ]
        refine take_list (i := 3) (v := ?_) rfl (by kernel_rfl) (by kernel_rfl) (by kernel_rfl) (fun _ _ _ h => h) (Or.inl ⟨by rfl, fun w hSw => ?_⟩) hHeld ?_
        rotate_left
        · (obtain ⟨hSw1, hSw2⟩ := hSw; go_simp)
          try with_reducible rfl
        simp only [Act.put, List.setIfInBounds_toArray, List.set_cons_zero, List.set_cons_succ]
        have hth1 : wr.drew.there W.heap.size 0 al.length := by
          have := HB.out.r3.there
          rw [List.length_replicate] at this
          rw [HAll.out]; exact this
        obtain ⟨w5, hw5⟩ : ∃ w5, wr.drew.setCells W.heap.size 0 al = w5 := ⟨_, rfl⟩
        have c5 : Chg (· = W.heap.size) wr w5 := by subst hw5; exact ((Chg.refl (fun _ => False) wr).drew.mono (fun _ _ h => h.elim)).trans' (chg_setCells _ _ _ _)
        have a5 : Arr w5 W.heap.size 56 al := by subst hw5; exact (HB.out.r3.kept ((Chg.refl (fun _ => False) wr).drew) id).all (by rw [HAll.out]; rfl)
        have r5 := HB.out.r4.kept c5 (by omega)
        have hth2 : w5.there (W.heap.size + 1) 0 ls.length := by
          have := r5.there
          rw [List.length_replicate] at this
          rw [HB.out.ll]; exact this
        obtain ⟨w6, hw6⟩ : ∃ w6, w5.setCells (W.heap.size + 1) 0 ls = w6 := ⟨_, rfl⟩
        have c6 : Chg (· = W.heap.size + 1) w5 w6 := by subst hw6; exact chg_setCells _ _ _ _
        have a6 : Arr w6 (W.heap.size + 1) 58 ls := by subst hw6; exact r5.all (by rw [HB.out.ll]; rfl)
        have s5a := (HWas.out.kept c5 (by omega)).range
        have s5b := (HB.out.snc.kept c5 (by omega)).range
        have s6a := ((HWas.out.kept c5 (by omega)).kept c6 (by omega)).range
        have s6b := ((HB.out.snc.kept c5 (by omega)).kept c6 (by omega)).range
        refine wpAnyH_ready (rs := [4]) (by kernel_rfl) (by simp) (one_list (i := 4) rfl (by rfl) (fun K hK => ?_) AllReadyH.nil)
        refine wp_store_mid _ _ _ rfl W.heap.size 0 al.toArray rfl rfl (by rw [List.size_toArray]; exact hth1) (by rw [List.size_toArray]; exact hsz) (all_oneCell_toArray HAlo.out) ?_
        rw [List.toList_toArray, hw5]
        refine hK _ _ ⟨s5a, s5b⟩ (fun hH2 => ?_)
        simp only [Act.put, List.setIfInBounds_toArray, List.set_cons_zero, List.set_cons_succ]
        refine wpAnyH_ready (rs := [5]) (by kernel_rfl) (by simp) (one_list (i := 5) rfl (by rfl) (fun K hK => ?_) AllReadyH.nil)
        refine wp_store_mid _ _ _ rfl (W.heap.size + 1) 0 ls.toArray rfl rfl (by rw [List.size_toArray]; exact hth2) (by rw [List.size_toArray]; exact hsz2) (all_oneCell_toArray HLso.out) ?_
        rw [List.toList_toArray, hw6]
        refine hK _ _ ⟨s6a, s6b⟩ (fun hH3 => ?_)
        simp only [Act.put, List.setIfInBounds_toArray, List.set_cons_zero, List.set_cons_succ]
        refine take_list (i := 6) (v := ?_) rfl (by kernel_rfl) (by kernel_rfl) (by kernel_rfl) (fun _ _ _ h => h) (Or.inl ⟨by rfl, fun w hSw => ?_⟩) hH3 ?_
        rotate_left
        · (obtain ⟨hSw1, hSw2⟩ := hSw; go_simp)
          try with_reducible rfl
        simp only [Act.put, List.setIfInBounds_toArray, List.set_cons_zero, List.set_cons_succ]
        refine wpAnyH_done (by kernel_rfl) ?_ _
        refine NoPanic.normal ?_
        go_wp2_with fail
        have hv1 : (loadVar 56 ⟨W.heap.size, 0, none⟩).run Try.prog w6 = .ok (.agg al.toArray) w6 := run_loadVar_mid w6 W.heap.size 0 56 al _ (a5.kept c6 (by omega)).range hty rfl hsz
        have hv2 : (loadVar 58 ⟨W.heap.size + 1, 0, none⟩).run Try.prog w6 = .ok (.agg ls.toArray) w6 := run_loadVar_mid w6 (W.heap.size + 1) 0 58 ls _ a6.range hty2 rfl hsz2
        (try simp only [Exit.inBlock, Exit.then])
        refine bodyPost_ret (results4 rfl _ rfl rfl hv1 hv2) rfl ?_
        exact ⟨d, F, X, ls, i, by rw [HAl.out]; rfl, HB.out.out c5 c6, hi60⟩

end Go.Proofs.Ytomceindibnpnaa.disks

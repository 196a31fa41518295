/-
  GENERAL: arguments that are slices of records, opened with the form's own reach: what each slice within takes.
-/
import Derived.Test.YtcfgcllphfooaaaPkAa
import Derived.Test.YtcfgcllphfooaaaPkAb
import Derived.Test.YtcfgcllphfooaaaPkAl
import Derived.Deep.RegionHeld3

section
set_option linter.unusedSimpArgs false
set_option linter.unusedVariables false
namespace Go.My
open Go.ChangeShapes Go.WideShapes Go.RowKit Go.Deep

section
variable {H : Type} {enc : TypeId × Value → H} {P : Program}

theorem weightsAll_mem {e : TypeId} : ∀ {l : List (DataW H)} {d : DataW H}, d ∈ l → ∀ n ∈ d.weights P e, n ∈ DataW.weightsAll P e l
  | [], _, h, _, _ => by cases h
  | x :: l, d, h, n, hn => by
    rw [DataW.weightsAll]
    rcases List.mem_cons.1 h with rfl | h
    · exact List.mem_append_left _ hn
    · exact List.mem_append_right _ (weightsAll_mem h n hn)

theorem weightsEach_mem : ∀ {ts : List TypeId} {ds : List (DataW H)} {i : Nat} {t : TypeId} {d : DataW H}, ts[i]? = some t → ds[i]? = some d → ∀ n ∈ d.weights P t, n ∈ DataW.weightsEach P ts ds
  | [], _, _, _, _, h, _, _, _ => by simp at h
  | _ :: _, [], _, _, _, _, h, _, _ => by simp at h
  | t' :: ts, d' :: ds, 0, t, d, ht, hd, n, hn => by
    rw [DataW.weightsEach]
    simp only [List.getElem?_cons_zero, Option.some.injEq] at ht hd
    subst ht; subst hd
    exact List.mem_append_left _ hn
  | t' :: ts, d' :: ds, i + 1, t, d, ht, hd, n, hn => by
    rw [DataW.weightsEach]
    simp only [List.getElem?_cons_succ] at ht hd
    exact List.mem_append_right _ (weightsEach_mem ht hd n hn)

theorem open_rows_sized {W : World} {base : Nat} {sp : Nat → Bool} {held : Bool} {t e n fuel : Nat} {cs : List Value} {y : DataW H × List MemPlace} (ht : P.underlying t = some (.slice e)) (hc : P.cellsOf e = n) (hn : 0 < n)
    (hf : DataW.trod enc P W base sp held fuel t cs = some y) (hw : ∀ n ∈ y.1.weights P t, n ≤ reachBytes) :
    ∃ (oa : Option Addr) (l : List (List Value)) (cap : Nat), cs = [.slice oa l.length cap] ∧ l.length ≤ cap ∧ cap ≤ maxLen ∧ RowsAt W n oa l ∧ l.length * P.bytesOf e ≤ reachBytes ∧ (∀ x ∈ l, ∃ fuel y, DataW.trod enc P W base sp held fuel e x = some y ∧ ∀ n ∈ y.1.weights P e, n ≤ reachBytes) := by
  rcases open_slice ht hf with ⟨h1, _⟩ | ⟨a, len0, cap0, m, k, D, Pl, h1, hb, hl, hm, hmm, hy, hx⟩
  · exact ⟨none, [], 0, h1, Nat.le_refl _, by unfold maxLen; omega, ⟨fun h => absurd rfl h, by simp, by simp⟩, by simp, by simp⟩
  · subst h1
    subst hy
    have hle : len0 ≤ m := by rw [hmm]; split <;> omega
    simp only [DataW.weights, ht, List.mem_cons, List.mem_append] at hw
    have hbytes : len0 * P.bytesOf e ≤ reachBytes := by
      have := hw _ (Or.inl rfl)
      simp only [List.length_map, List.length_range] at this
      exact Nat.le_trans (Nat.mul_le_mul_right _ (Nat.le_add_right _ _)) this
    obtain ⟨R, hR⟩ := choose_lt (α := List Value) (n := len0) (p := fun i cs' => W.cells? base (a.add (i * n)) n = some cs' ∧ DataW.trod enc P W base sp held k e cs' = some (D i, Pl i)) (fun i hi => by
      obtain ⟨cs', h1, h2⟩ := hx i (by omega)
      rw [hc] at h1
      exact ⟨cs', h1, h2⟩)
    refine ⟨some a, (List.range len0).map R, cap0, by simp, by simpa using hl, hm, ⟨?_, ?_, ?_⟩, by simpa using hbytes, ?_⟩
    · intro hne
      have h0 : 0 < len0 := by
        rcases Nat.eq_zero_or_pos len0 with h | h
        · subst h; simp at hne
        · exact h
      obtain ⟨h1, _⟩ := hR 0 h0
      obtain ⟨_, h2, h3⟩ := World.cells?_some h1
      have h4 := h3 0 hn
      have h5 : a.add (0 * n) = a := by simp [Addr.add]
      rw [h5] at h4
      have h6 : a.add 0 = a := by simp [Addr.add]
      rw [h6, List.getElem?_eq_getElem (by omega)] at h4
      obtain ⟨bl, of, spt⟩ := a
      cases spt with
      | none => exact ⟨bl, of, rfl⟩
      | some s =>
        unfold World.cell? at h4
        cases hh : W.heap[bl]? with
        | none => simp [hh] at h4
        | some o => cases o <;> simp [hh] at h4
    · intro i r hr
      simp only [List.getElem?_map, Option.map_eq_some_iff] at hr
      obtain ⟨i', hi', rfl⟩ := hr
      obtain ⟨hlt, rfl⟩ := List.getElem?_eq_some_iff.1 hi'
      simp only [List.length_range] at hlt
      simp only [List.getElem_range]
      obtain ⟨h1, _⟩ := hR i hlt
      exact (World.cells?_some h1).2.1
    · intro b off hab i r j v hi hj
      cases hab
      simp only [List.getElem?_map, Option.map_eq_some_iff] at hi
      obtain ⟨i', hi', rfl⟩ := hi
      obtain ⟨hlt, rfl⟩ := List.getElem?_eq_some_iff.1 hi'
      simp only [List.length_range] at hlt
      simp only [List.getElem_range] at hj
      obtain ⟨h1, _⟩ := hR i hlt
      obtain ⟨_, h2, h3⟩ := World.cells?_some h1
      have hjn : j < n := by have := (List.getElem?_eq_some_iff.1 hj).1; omega
      have h4 := h3 j hjn
      rw [hj] at h4
      rw [← h4]
      congr 1
      unfold Addr.add
      by_cases e1 : i * n = 0 <;> by_cases e2 : j = 0 <;> simp [e1, e2]
    · intro x hx'
      simp only [List.mem_map, List.mem_range] at hx'
      obtain ⟨i, hi, rfl⟩ := hx'
      refine ⟨_, _, (hR i hi).2, fun n hn => hw n (Or.inr (Or.inl ?_))⟩
      exact weightsAll_mem (List.mem_map_of_mem (List.mem_range.2 hi)) n hn

/-- A record of single cells, with what its fields take. -/
theorem fields_sized {W : World} {base : Nat} {sp : Nat → Bool} {held : Bool} {e n fuel : Nat} {fs : Array Field} {cs : List Value} {y : DataW H × List MemPlace} (he : P.underlying e = some (.struct fs)) (hc : P.cellsOf e = n) (hn : fs.size = n)
    (hf : ∀ (i : Nat) (f : Field), fs[i]? = some f → f.offset = i ∧ P.cellsOf f.type = 1) (h : DataW.trod enc P W base sp held fuel e cs = some y) (hw : ∀ n ∈ y.1.weights P e, n ≤ reachBytes) :
    cs.length = n ∧ ∃ k, ∀ (i : Nat) (f : Field) (u : Value), fs[i]? = some f → cs[i]? = some u → ∃ x, DataW.trod enc P W base sp held k f.type [u] = some x ∧ ∀ n ∈ x.1.weights P f.type, n ≤ reachBytes := by
  obtain ⟨xs, k, _, rfl, hlen, hxs, hx⟩ := DataW.trod_struct he h
  rw [hc] at hlen
  simp only [DataW.weights, he] at hw
  refine ⟨hlen, k, fun i f u hfi hu => ?_⟩
  obtain ⟨h1, h2⟩ := hf i f hfi
  have h4 := hx i f hfi
  have hi : i < xs.length := by have := (Array.getElem?_eq_some_iff.1 hfi).1; omega
  have hic : i < cs.length := by have := (Array.getElem?_eq_some_iff.1 hfi).1; omega
  rw [List.getElem?_eq_getElem hi] at h4
  refine ⟨xs[i], ?_, fun n hn => hw n ?_⟩
  · rw [← h4, h1, h2]
    congr 1
    rw [List.getElem?_eq_getElem hic] at hu
    cases hu
    rw [List.drop_eq_getElem_cons hic]
    rfl
  · refine weightsEach_mem (i := i) ?_ ?_ n hn
    · rw [List.getElem?_map, Array.getElem?_toList, hfi]; rfl
    · rw [List.getElem?_map, List.getElem?_eq_getElem hi]; rfl

end
end Go.My
end

/-
  wal: the laws' acts as arguments, with what they take.
-/
section
set_option linter.unusedSimpArgs false
set_option linter.unusedVariables false
namespace Go.Proofs.Ytcfgcllphfooaaa.wals
open Go.ChangeShapes Go.WideShapes Go.RowKit Go.My Go.Deep disks

structure WAct where
  kind : Int
  n : Int
  one : Blk
  rv : Value
  recs : List Blk
  kv : Value
  keep : List Int
def WAct.row (a : WAct) : List Value := [.int .i64 a.kind, .int .i64 a.n, strV a.one, a.rv, a.kv]
structure WAct.ok (W : World) (a : WAct) : Prop where
  rv : SlAt W a.rv (a.recs.map strV)
  kv : SlAt W a.kv (a.keep.map (Value.int .i64))
  rl : a.recs.length * 16 ≤ reachBytes
  kl : a.keep.length * 8 ≤ reachBytes
  n : inR a.n
  kz : ∀ z ∈ a.keep, inR z

theorem bytes_str : Try.prog.bytesOf 9 = 16 := by kernel_rfl
theorem bytes_int8 : Try.prog.bytesOf 3 = 8 := by kernel_rfl
theorem cells_act10 : Try.prog.cellsOf 95 = 5 := by kernel_rfl
theorem cells_strs : Try.prog.cellsOf 22 = 1 := by kernel_rfl

set_option maxRecDepth 100000 in
theorem fields_act10 {H : Type} {enc : TypeId × Value → H} {W : World} {base : Nat} {sp : Nat → Bool} {held : Bool} {fuel : Nat} {cs : List Value} {y : DataW H × List MemPlace}
    (hf : DataW.trod enc Try.prog W base sp held fuel 95 cs = some y) (hw : ∀ n ∈ y.1.weights Try.prog 95, n ≤ reachBytes) : ∃ a : WAct, cs = a.row ∧ a.ok W := by
  obtain ⟨hlen, k, hx⟩ := fields_sized Try.underlying95 cells_act10 rfl (by
    intro i f hf
    match i, hf with
    | 0, hf => cases hf; exact ⟨rfl, cells_int⟩
    | 1, hf => cases hf; exact ⟨rfl, cells_int⟩
    | 2, hf => cases hf; exact ⟨rfl, cells_str⟩
    | 3, hf => cases hf; exact ⟨rfl, cells_strs⟩
    | 4, hf => cases hf; exact ⟨rfl, cells_ints⟩
    | i + 5, hf => simp at hf) hf hw
  match cs, hlen with
  | [c0, c1, c2, c3, c4], _ =>
      obtain ⟨_, h0, -⟩ := hx 0 _ _ rfl rfl
      obtain ⟨_, h1, -⟩ := hx 1 _ _ rfl rfl
      obtain ⟨_, h2, -⟩ := hx 2 _ _ rfl rfl
      obtain ⟨_, h3, hw3⟩ := hx 3 _ _ rfl rfl
      obtain ⟨_, h4, hw4⟩ := hx 4 _ _ rfl rfl
      obtain ⟨z0, e0, _, w0⟩ := DataW.trod_int Try.underlying3 h0
      obtain ⟨z1, e1, _, w1⟩ := DataW.trod_int Try.underlying3 h1
      obtain ⟨s, e2, _, w2⟩ := DataW.trod_string Try.underlying9 h2
      obtain ⟨oar, lr, capr, e3, r1, r2, r3, r5, r4⟩ := open_rows_sized Try.underlying22 cells_str (by omega) h3 hw3
      obtain ⟨rs, rfl, hrs⟩ := trod_strs (fun x hx => by obtain ⟨f, y, h, -⟩ := r4 x hx; exact ⟨f, y, h⟩)
      obtain ⟨oa, l, cap, e4, l1, l2, l3, l5, l4⟩ := open_rows_sized Try.underlying63 cells_int (by omega) h4 hw4
      obtain ⟨zs, rfl, hz⟩ := trod_ints Try.underlying3 (fun x hx => by obtain ⟨f, y, h, -⟩ := l4 x hx; exact ⟨f, y, h⟩)
      simp only [List.cons.injEq, and_true] at e0 e1 e2 e3 e4
      subst e0 e1 e2 e3 e4
      rw [List.length_map, bytes_int8] at l5
      rw [List.length_map, bytes_str] at r5
      refine ⟨⟨z0, z1, s.data.toList, .slice oar (rs.map (fun b => [strV b])).length capr, rs, .slice oa (zs.map (fun z => [Value.int .i64 z])).length cap, zs⟩, ?_, ?_, ?_, r5, l5, wf_inR w1, fun z hm => wf_inR (hz z hm)⟩
      · simp only [WAct.row, ← strV_of]
      · have := r3.flat capr
        rw [flat_one] at this
        exact this
      · have := l3.flat cap
        rw [flat_one] at this
        exact this

set_option maxRecDepth 100000 in
theorem open_acts10 {H : Type} {enc : TypeId × Value → H} {W : World} {v : Value} {d : DataW H} {ps : List MemPlace} {r : Reach} {b0 : Nat}
    (hv : Value.okWide Try.prog W r b0 62 v) (h : DataW.Trod enc Try.prog W 0 (fun _ => true) true 62 v d ps) (hw : ∀ n ∈ d.weights Try.prog 62, n ≤ reachBytes) :
    ∃ (oa : Option Addr) (l : List WAct) (cap : Nat), v = .slice oa l.length cap ∧ l.length ≤ cap ∧ cap ≤ maxLen ∧ RowsAt W 5 oa (l.map WAct.row) ∧ ∀ a ∈ l, a.ok W := by
  obtain ⟨a0, len0, cap0, rfl⟩ := okWide_slice Try.underlying62 hv
  obtain ⟨fuel, hf⟩ := h
  obtain ⟨oa, l, cap, e, h1, h2, h3, -, h4⟩ := open_rows_sized Try.underlying62 cells_act10 (by omega) hf hw
  simp only [Value.cells, List.cons.injEq, and_true] at e
  rw [e]
  have h5 : ∃ L : List WAct, l = L.map WAct.row ∧ ∀ a ∈ L, a.ok W := by
    clear h1 h2 h3 hv hf e
    induction l with
    | nil => exact ⟨[], rfl, by simp⟩
    | cons x l ih =>
      obtain ⟨L, rfl, hL⟩ := ih (fun y hy => h4 y (by simp [hy]))
      obtain ⟨fuel, y, hy, hwy⟩ := h4 x (by simp)
      obtain ⟨a, rfl, ha⟩ := fields_act10 hy hwy
      refine ⟨a :: L, rfl, fun b hb => ?_⟩
      rcases List.mem_cons.1 hb with rfl | hb
      · exact ha
      · exact hL b hb
  obtain ⟨L, rfl, hL⟩ := h5
  exact ⟨oa, L, cap, by simp, by simpa using h1, h2, h3, hL⟩

/-- An append of texts, as many as an argument may have. -/
theorem append_strs_big {w : World} {base n : Nat} {v : Value} {xs ys : List Value} {oa : Option Addr} {m cap : Nat} (h : w.ownsRow base 9 1 v n xs) (hs : SlAt w (.slice oa m cap) ys) (h1 : ∀ y ∈ ys, y.oneCell' = true) (hb : base ≤ w.heap.size) (hl : (xs.length + ys.length) * 16 ≤ 140737488355328) (ty : TypeId) :
    ∃ v' w', (Builtin.append_ #[22, 22] ty #[v, .slice oa m cap]).run Try.prog w = .ok v' w' ∧ w'.ownsRow base 9 1 v' (xs ++ ys).length (xs ++ ys) ∧ w.grownBy w' v.ownBlock ∧ (v'.ownBlock = v.ownBlock ∨ v'.ownBlock = some w.heap.size) := by
  obtain ⟨i, hi, hz, hsz, hby⟩ := info_parts bufs.info_string
  exact bufs.append_cells Try.underlying22 hi hz hsz hby rfl h hs h1 hb (by omega) hl ty

end Go.Proofs.Ytcfgcllphfooaaa.wals
end

/-
  run: what stands behind the rounds of the law's play.
-/
section
set_option linter.unusedSimpArgs false
set_option linter.unusedVariables false
namespace Go.Proofs.Ytcfgcllphfooaaa.wals
open Go.RowKit Go.My disks bufs
set_option maxRecDepth 100000

variable {w w' W : World} {l d : Nat} {P Q : Nat → Prop} {X : DV} {V : LV}

/-- What a play leaves: behind any loss of power the one records, or the other. -/
def Ran (X : DV) (had next : List Blk) : Prop := (∀ j, (X.L j).length < 500000) ∧ ∀ keep, (Blank (X.crash keep) ∧ had = []) ∨ ∃ s a, s ≤ 100 ∧ (Stands (X.crash keep) had s a ∨ Stands (X.crash keep) next s a)

theorem Kp.step {w7 : World} {v : Value} {rs : List Blk} (h : Kp P W v rs) (hc : Chg P W w7) (hQ : ∀ j, Q j → P j ∨ W.heap.size ≤ j) : Kp Q w7 v rs :=
  ⟨fun w' h' => h.at' w' (chg_more hc h' hQ), fun g hg => ⟨fun hN => (hQ g hN).elim (h.off g hg).1 (fun h' => by have := (h.off g hg).2; omega), Nat.lt_of_lt_of_le (h.off g hg).2 hc.size⟩⟩
theorem WAt.again (h : WAt P w w l d X V) (hc : Chg (fun _ => False) w w') : WAt P w' w' l d X V := by
  obtain ⟨⟨F, Fd, h1, h2⟩, -⟩ := h
  exact ⟨⟨F, Fd, h1.fresh hc, fun k hk => (h2 k hk).elim Or.inl (fun h => by have := h1.lt k hk; omega)⟩, Chg.refl _ _⟩

structure RunPost (W : World) (e : Ending) (w' : World) : Prop where
  post : ∃ (P : Nat → Prop) (d : Nat) (X : DV) (had next : List Blk) (hv nv : Value), e = .returned (.tuple #[.agg #[.pointer (some ⟨d, 0, none⟩), hv, nv], .bool true]) ∧ DAt P w' w' d X ∧ Kp P w' hv had ∧ Kp P w' nv next ∧ (∀ k, P k → W.heap.size ≤ k) ∧ Ran X had next ∧ X.B.length = 16 ∧ Chg (fun _ => False) W w'

/-- What a play has of its own, beside the log. -/
structure RnF (W wr : World) (P : Nat → Prop) (b4 b8 d : Nat) (had wait : List Blk) (hv wv : Value) : Prop where
  new : ∀ j, P j → W.heap.size ≤ j
  lt : ∀ j, P j → j < wr.heap.size
  p4 : ¬ P b4
  p8 : ¬ P b8
  ne : b8 ≠ b4
  pw : ∀ g, wv.ownBlock = some g → ¬ P g
  kp : Kp (fun j => P j ∨ j = b4 ∨ j = b8 ∨ wv.ownBlock = some j) wr hv had
  own : wr.ownsRow W.heap.size 9 1 wv wait.length (wait.map strV)
  x : Arr wr b8 65 [.pointer (some ⟨d, 0, none⟩), hv, .slice none 0 0]
  r : Arr wr b4 65 [.pointer none, .slice none 0 0, .slice none 0 0]
  n4 : W.heap.size ≤ b4
  n8 : W.heap.size ≤ b8
  chg : Chg (fun _ => False) W wr

/-- What stands behind k rounds. -/
structure RnS (W wr : World) (P : Nat → Prop) (b4 b8 l d : Nat) (X : DV) (had wait : List Blk) (s a : Nat) (hv wv : Value) (k : Nat) : Prop where
  at' : WAt P wr wr l d X (lvW had s a wait)
  f : RnF W wr P b4 b8 d had wait hv wv
  st : Stands X had s a
  few : s ≤ 1 + k
  short : ∀ r ∈ wait, r.length ≤ 4096
  fits : (framesB had).length + sizeB wait ≤ 64 * areaN X.B.length
  len : X.B.length = 16
  fuse : X.fuse ≤ 100

variable {b4 b8 : Nat} {had wait : List Blk} {hv wv : Value} {w1 w2 : World}

theorem RnF.turn (h : RnF W w P b4 b8 d had wait hv wv) (hc : Chg P w w') : RnF W w' (NowP P w w') b4 b8 d had wait hv wv where
  new j hj := hj.1.elim (h.new j) (fun h' => Nat.le_trans h.chg.size h')
  lt _ hj := hj.2
  p4 hj := hj.1.elim h.p4 (fun h' => by have := h.r.lt; omega)
  p8 hj := hj.1.elim h.p8 (fun h' => by have := h.x.lt; omega)
  ne := h.ne
  pw g hg hj := hj.1.elim (h.pw g hg) (fun h' => by have := (h.own.lt g hg).2; omega)
  kp := h.kp.step (hc.mono (fun _ _ h => Or.inl h)) (fun j hj => hj.elim (fun hj => hj.1.elim (fun h => Or.inl (Or.inl h)) Or.inr) (fun h => Or.inl (Or.inr h)))
  own := row_kept h.own hc h.pw
  x := hc.at h.x h.p8
  r := hc.at h.r h.p4
  n4 := h.n4
  n8 := h.n8
  chg := h.chg.new hc (fun i hi => h.new i hi)

theorem RnF.fresh (h : RnF W w P b4 b8 d had wait hv wv) (hc : Chg (fun _ => False) w w') : RnF W w' P b4 b8 d had wait hv wv where
  new := h.new
  lt j hj := Nat.lt_of_lt_of_le (h.lt j hj) hc.size
  p4 := h.p4
  p8 := h.p8
  ne := h.ne
  pw := h.pw
  kp := h.kp.fresh hc
  own := own_kept h.own hc
  x := hc.at h.x id
  r := hc.at h.r id
  n4 := h.n4
  n8 := h.n8
  chg := h.chg.trans' hc

theorem RnS.fresh {s a k : Nat} (h : RnS W w P b4 b8 l d X had wait s a hv wv k) (hc : Chg (fun _ => False) w w') : RnS W w' P b4 b8 l d X had wait s a hv wv k :=
  ⟨h.at'.again hc, h.f.fresh hc, h.st, h.few, h.short, h.fits, h.len, h.fuse⟩

/-- Something beside the log's blocks changes. -/
theorem WAt.aside {S : Nat → Prop} (h : WAt P w w l d X V) (hc : Chg S w w') (hS : ∀ k, P k → ¬ S k) : WAt P w' w' l d X V := by
  obtain ⟨⟨F, Fd, h1, h2⟩, -⟩ := h
  have h3 : ∀ k, F k ∨ Fd k → P k := fun k hk => (h2 k hk).elim id (fun h' => by have := h1.lt k hk; omega)
  exact ⟨⟨F, Fd, h1.kept hc (fun k hk => hS k (h3 k hk)), fun k hk => Or.inl (h3 k hk)⟩, Chg.refl _ _⟩

/-- One more waits. -/
theorem RnF.push {wa w3 : World} {v3 : Value} {wait3 : List Blk} (h : RnF W w P b4 b8 d had wait hv wv) (hca : Chg (fun _ => False) w wa) (ho : w3.ownsRow W.heap.size 9 1 v3 wait3.length (wait3.map strV)) (hg : wa.grownBy w3 wv.ownBlock) (h4 : v3.ownBlock = wv.ownBlock ∨ v3.ownBlock = some wa.heap.size) :
    RnF W w3 P b4 b8 d had wait3 hv v3 ∧ Chg (fun k => wv.ownBlock = some k) w w3 := by
  have hc3 : Chg (fun k => wv.ownBlock = some k) w w3 := (hca.mono (fun _ _ h => h.elim)).trans' ((Chg.of_grown hg).mono (fun _ _ e => e.symm))
  have hs := hc3.size
  have hsa := hca.size
  have n8 : ¬ wv.ownBlock = some b8 := fun e => row_head h.own h.x (by decide) b8 e rfl
  have n4 : ¬ wv.ownBlock = some b4 := fun e => row_head h.own h.r (by decide) b4 e rfl
  refine ⟨⟨h.new, fun j hj => by have := h.lt j hj; omega, h.p4, h.p8, h.ne, fun g hg' hP => ?_, ?_, ho, hc3.at h.x n8, hc3.at h.r n4, h.n4, h.n8, ?_⟩, hc3⟩
  · rcases h4 with e | e
    · exact h.pw g (e ▸ hg') hP
    · rw [e] at hg'
      cases hg'
      have := h.lt _ hP
      omega
  · refine h.kp.step (hc3.mono (fun k _ hk => Or.inr (Or.inr (Or.inr hk)))) (fun j hj => ?_)
    rcases hj with hj | hj | hj | hj
    · exact Or.inl (Or.inl hj)
    · exact Or.inl (Or.inr (Or.inl hj))
    · exact Or.inl (Or.inr (Or.inr (Or.inl hj)))
    · rcases h4 with e | e
      · exact Or.inl (Or.inr (Or.inr (Or.inr (e ▸ hj))))
      · rw [e] at hj
        cases hj
        exact Or.inr hsa
  · exact h.chg.new hc3 (fun i hi => (h.own.lt i hi).1)

/-- What was wanted is had; nothing waits. -/
theorem RnF.take {want : List Blk} {vw : Value} (h : RnF W w P b4 b8 d had wait hv wv) (hk : Kp (fun j => P j ∨ j = b4 ∨ j = b8) w vw want) :
    RnF W (w.setCell ⟨b8, 1, none⟩ vw) P b4 b8 d want [] vw (.slice none 0 0) ∧ Chg (· = b8) w (w.setCell ⟨b8, 1, none⟩ vw) := by
  have hc : Chg (· = b8) w (w.setCell ⟨b8, 1, none⟩ vw) := Chg.setCell (S := (· = b8)) (Chg.refl _ _) (fun _ => rfl) _
  have hs := hc.size
  refine ⟨⟨h.new, fun j hj => Nat.lt_of_lt_of_le (h.lt j hj) hs, h.p4, h.p8, h.ne, fun g hg => by simp [Value.ownBlock] at hg, ?_, ⟨rfl, Or.inl ⟨rfl, rfl⟩⟩, h.x.set 1 vw, hc.at h.r (fun e => h.ne e.symm), h.n4, h.n8, h.chg.new hc (fun i hi => by have hi : i = b8 := hi; rw [hi]; exact h.n8)⟩, hc⟩
  refine hk.step (hc.mono (fun k _ hk => Or.inr (Or.inr hk))) (fun j hj => ?_)
  rcases hj with hj | hj | hj | hj
  · exact Or.inl (Or.inl hj)
  · exact Or.inl (Or.inr (Or.inl hj))
  · exact Or.inl (Or.inr (Or.inr hj))
  · simp [Value.ownBlock] at hj

/-- Two lists of texts, one behind the other. -/
theorem copy_two {oa oa' : Option Addr} {n n' cap cap' : Nat} {xs ys : List Blk} (hs : SlAt w (.slice oa n cap) (xs.map strV)) (hs' : SlAt w (.slice oa' n' cap') (ys.map strV)) (hl : xs.length ≤ 1000000000) (hl' : ys.length ≤ 1000000000) :
    ∃ v2 w2 v3 w3, (Builtin.append_ #[22, 22] 22 #[.slice (some ⟨w.heap.size, 0, none⟩) 0 0, .slice oa n cap]).run Try.prog (w.alloc (.cells #[] 9)) = .ok v2 w2 ∧
      ((Builtin.append_ #[22, 22] 22 #[v2, .slice oa' n' cap']).run Try.prog w2 = .ok v3 w3 ∧ ∃ oa n cap, v2 = .slice oa n cap) ∧
      w3.ownsRow w.heap.size 9 1 v3 (xs ++ ys).length ((xs ++ ys).map strV) ∧ Chg (fun _ => False) w w3 := by
  have hc1 : Chg (fun _ => False) w (w.alloc (.cells #[] 9)) := (Chg.refl _ _).alloc _
  have ho : (w.alloc (.cells #[] 9)).ownsRow w.heap.size 9 1 (.slice (some ⟨w.heap.size, 0, none⟩) 0 0) 0 [] := own_of_block (n := 0) at1 (Nat.le_refl _) rfl (by unfold maxLen; omega)
  obtain ⟨v2, w2, hr2, ho2, hg2, -⟩ := append_strs ho (hs.kept hc1) (one_strs _) hc1.size (by simp only [List.length_map, List.length_nil]; omega) 22
  have hc2 : Chg (fun _ => False) w w2 := hc1.append ho (Chg.refl _ _) hg2
  rw [List.nil_append, List.length_map] at ho2
  obtain ⟨oa2, cap2, rfl⟩ := own_slice ho2
  obtain ⟨v3, w3, hr3, ho3, hg3, -⟩ := append_strs ho2 (hs'.kept hc2) (one_strs _) hc2.size (by simp only [List.length_map]; omega) 22
  rw [← List.map_append, List.length_map] at ho3
  exact ⟨_, w2, v3, w3, hr2, ⟨hr3, _, _, _, rfl⟩, ho3, hc2.append ho2 (Chg.refl _ _) hg3⟩

/-- The tail of a list of texts, as a slice. -/
theorem slice_tail {g n cap : Nat} (h1 : 1 ≤ n) (h2 : n ≤ cap) :
    ∃ oa' c', (∀ w, (Instr.slice 22 (.slice (some ⟨g, 0, none⟩) n cap) (some (.int .i64 1)) none none).run Try.prog w = .ok (.slice oa' (n - 1) c') w) ∧ (∀ x, oa' = some x → x.block = g) ∧
      ∀ (w : World) (r : Blk) (rs : List Blk), SlAt w (.slice (some ⟨g, 0, none⟩) n cap) ((r :: rs).map strV) → SlAt w (.slice oa' (n - 1) c') (rs.map strV) := by
  refine ⟨if cap = 1 then some ⟨g, 0, none⟩ else some ⟨g, 1, none⟩, cap - 1, fun w => ?_, fun x hx => ?_, fun w r rs h => ?_⟩
  · have hu : Try.prog.underlying 22 = some (.slice (Try.prog.elem 22)) := Try.underlying22
    rw [run_slice_l w 22 (some ⟨g, 0, none⟩) n cap hu .i64 1 (by omega) (by omega)]
    obtain ⟨i, hi, hz, hsz, hby⟩ := info_parts bufs.info_string
    have he : (sizeOf (Try.prog.elem 22)).run Try.prog w = .ok 1 w := by
      show (sizeOf 9).run Try.prog w = _
      simp [sizeOf, typeInfo, hi, hsz]
    rw [he]
    simp only [Result.andThen, sliced]
    rfl
  · split at hx <;> (cases hx; rfl)
  · obtain ⟨oa', cap', e1, e2, e3⟩ := h
    simp only [Value.slice.injEq, List.length_map, List.length_cons] at e1
    have e1n := e1.2.1
    subst e1n
    refine ⟨_, _, by rw [List.length_map]; rfl, fun _ => ?_, fun b off ho i x hx => ?_⟩
    · split
      · exact ⟨_, _, rfl⟩
      · exact ⟨_, _, rfl⟩
    · have hi := (List.getElem?_eq_some_iff.1 hx).1
      rw [List.length_map] at hi
      rw [if_neg (by omega)] at ho
      cases ho
      have := e3 g 0 (by rw [← e1.1]) (i + 1) x (by rw [List.map_cons, List.getElem?_cons_succ]; exact hx)
      rw [Nat.add_comm 1 i]
      rw [Nat.zero_add] at this
      exact this

theorem dat_open_blank (h : DAt P W w d X) (hb : Blank X) (hf : X.fuse ≤ 9223372036854775807) :
    Calls Try.prog 10 #[.pointer (some ⟨d, 0, none⟩)] w fun e w' => (∃ l X', e = .returned (.tuple #[.pointer (some ⟨l, 0, none⟩), .int .i64 0]) ∧ WAt P W w' l d X' (lvW [] 1 0 []) ∧ Stands X' [] 1 0 ∧ Goes X X' ∧ X'.B.length = X.B.length) ∨
      (∃ X', e = .returned (.tuple #[.pointer none, .int .i64 15]) ∧ DAt P W w' d X' ∧ X.fuse ≠ -1 ∧ X'.down = true ∧ X'.B.length = X.B.length ∧ (∀ j, (X'.L j).length ≤ 1) ∧ ∀ keep, Blank (X'.crash keep) ∨ Stands (X'.crash keep) [] 1 0) := by
  obtain ⟨⟨Fd, h1, h2⟩, h3⟩ := h
  refine (open_of_blank w h1 hb hf).mono ?_
  rintro e w' ⟨Fd', k1, k2, k3⟩
  obtain ⟨g, hl, hr⟩ := blank_open hb _ rfl
  rcases hr with ⟨e1, e2, e3⟩ | ⟨e1, e2, e3, e4, e5, e6⟩
  · rcases k3 with ⟨V, l, F', j1, j2, j3, j4⟩ | ⟨j1, -⟩
    · rw [e2] at j1
      cases j1
      exact Or.inl ⟨l, _, j2, WAt.opened h3 h2 j3 j4 k1 k2, e3, g, hl⟩
    · rw [e2] at j1; cases j1
  · rcases k3 with ⟨V, l, F', j1, -⟩ | ⟨-, j2, j3⟩
    · rw [e2] at j1; cases j1
    · rw [e1] at j2
      exact Or.inr ⟨_, j2, ⟨⟨Fd', j3, fun k hk => (k1 k hk).elim (h2 k) (fun h' => Or.inr (Nat.le_trans h3.size h'))⟩, chg_more h3 k2 h2⟩, e3, e4, hl, e5, e6⟩

theorem act10_cells {W w : World} {b off i : Nat} {acts : List WAct} {a : WAct} (hacts : RowsAt W 5 (some ⟨b, off, none⟩) (acts.map WAct.row)) (hc : Chg (fun _ => False) W w) (ha : acts[i]? = some a) :
    w.cell? ⟨b, off + i * 5, none⟩ = some (.int .i64 a.kind) ∧ w.cell? ⟨b, off + i * 5 + 1, none⟩ = some (.int .i64 a.n) ∧ w.cell? ⟨b, off + i * 5 + 2, none⟩ = some (strV a.one) ∧ w.cell? ⟨b, off + i * 5 + 3, none⟩ = some a.rv ∧ w.cell? ⟨b, off + i * 5 + 4, none⟩ = some a.kv := by
  have hcell := fun j v hj => (hacts.kept hc (fun _ _ h => h)).cell b off rfl i a.row j v (by simp [ha]) hj
  exact ⟨hcell 0 _ rfl, hcell 1 _ rfl, hcell 2 _ rfl, hcell 3 _ rfl, hcell 4 _ rfl⟩

theorem size_run : (Try.prog.info? 65).map (·.size) = some 3 := by kernel_rfl
theorem results2c {P : Program} {fn : Func} {p u : Tmp} {t : TypeId} (h : fn.results = #[.cell p t, .tmp u]) (tmps : Array Value) {g : Nat} (hp : tmps.getD p undef = .pointer (some ⟨g, 0, none⟩))
    {v : Value} (hv : (loadVar t ⟨g, 0, none⟩).run P w = .ok v w) : (results fn tmps).run P w = .ok (.tuple #[v, tmps.getD u undef]) w := by
  rw [results_cell_tmp h, hp]
  simp [asAddr, Result.andThen, hv]
def runC (d : Nat) (hv nv : Value) : List Value := [.pointer (some ⟨d, 0, none⟩), hv, nv]
def runZ : List Value := [.pointer none, .slice none 0 0, .slice none 0 0]


/-- The end: the results' block has what is told. -/
theorem run_end {w18 : World} {next : List Blk} {nv : Value} (h : WAt P w w' l d X V) (hb : Chg (· = b4) w' w18) (n4 : ¬ P b4) (l4 : b4 < w.heap.size) (w4 : W.heap.size ≤ b4) (hn : ∀ j, P j → W.heap.size ≤ j) (hW : Chg (fun _ => False) W w)
    (hk : Kp (fun j => P j ∨ j = b4) w hv had) (hk2 : Kp (fun j => P j ∨ j = b4) w nv next) (hr : Ran X had next) (hl : X.B.length = 16) : RunPost W (.returned (.tuple #[.agg (runC d hv nv).toArray, .bool true])) w18 := by
  obtain ⟨⟨F, Fd, h1, h2⟩, h3⟩ := h
  have h4 : ∀ k, F k ∨ Fd k → ¬ k = b4 := fun j hj e => by
    rcases h2 _ hj with h | h
    · exact n4 (e ▸ h)
    · omega
  have hc : Chg (fun j => P j ∨ j = b4) w w18 := (h3.mono (fun _ _ h => Or.inl h)).trans hb (fun k _ e => Or.inr e)
  have hP : ∀ j, NowP P w w' j → (P j ∨ j = b4) ∨ w.heap.size ≤ j := fun j hj => hj.1.elim (fun h => Or.inl (Or.inl h)) Or.inr
  refine ⟨NowP P w w', d, X, had, next, hv, nv, rfl, ⟨⟨Fd, (h1.kept hb (fun k hk => h4 k hk)).disk, fun k hk => Or.inl ⟨h2 k (Or.inr hk), h1.lt k (Or.inr hk)⟩⟩, Chg.refl _ _⟩, hk.step hc hP, hk2.step hc hP, fun k hk => hk.1.elim (hn k) (fun h => Nat.le_trans hW.size h), hr, hl, ?_⟩
  exact hW.new hc (fun k hk => hk.elim (hn k) (fun e => e ▸ w4))

end Go.Proofs.Ytcfgcllphfooaaa.wals
end

/-
  run: the law's play over a disk that is cut off.
-/
section
set_option linter.unusedSimpArgs false
set_option linter.unusedVariables false
namespace Go.Proofs.Ytcfgcllphfooaaa.wals
open Go.RowKit Go.My disks bufs
set_option maxRecDepth 100000

variable {w w' W : World} {l d : Nat} {P Q : Nat → Prop} {X : DV} {V : LV}






set_option maxHeartbeats 4000000 in
theorem run_any (W : World) (oaA : Option Addr) (capA : Nat) (acts : List WAct) (hr : RowsAt W 5 oaA (acts.map WAct.row)) (hok : ∀ a ∈ acts, a.ok W) (n : Nat) (hn : n ≤ 59) :
    Calls Try.prog 26 #[.slice oaA acts.length capA, .int .i64 (n : Int)] W (RunPost W) := by
  have HB := Lib.hid (Blank.new 16 (by omega) (by omega))
  have HRa := Lib.hid hr
  have HOk := Lib.hid hok
  have HN := Lib.hid hn
  clear hr hok hn
  go_enter Try.func26, Try.ntmps26
  go_wp2_with (first
    | (go_at_call 9; fail))
  obtain ⟨w0, hw0⟩ : ∃ w0, W.alloc (.cells #[.pointer none, .slice none 0 0, .slice none 0 0] 65) = w0 := ⟨_, rfl⟩
  rw [hw0]
  have b4 : Arr w0 W.heap.size 65 [.pointer none, .slice none 0 0, .slice none 0 0] := by rw [← hw0]; exact at1
  have hc0 : Chg (fun _ => False) W w0 := by rw [← hw0]; exact (Chg.refl _ _).alloc _
  have HB4 := Lib.hid b4
  have HC0 := Lib.hid hc0
  clear hw0 b4 hc0
  refine (dat_new w0 16 (by omega) (by omega)).mono ?_
  rintro e w1 ⟨d, rfl, hd⟩
  have HD := Lib.hid hd
  clear hd
  dsimp only
  go_wp2_with (first
    | (go_at_call 29; fail))
  obtain ⟨w2, hw2⟩ : ∃ w2, w1.alloc (.cells #[.pointer (some ⟨d, 0, none⟩), .slice none 0 0, .slice none 0 0] 65) = w2 := ⟨_, rfl⟩
  rw [hw2]
  have b8 : Arr w2 w1.heap.size 65 [.pointer (some ⟨d, 0, none⟩), .slice none 0 0, .slice none 0 0] := by rw [← hw2]; exact at1
  have hc2 : Chg (fun _ => False) w1 w2 := by rw [← hw2]; exact (Chg.refl _ _).alloc _
  have hd2 := HD.out.rest hc2
  obtain ⟨P, hP⟩ : ∃ P, NowP (fun _ => False) w0 w1 = P := ⟨_, rfl⟩
  have hPa : ∀ k, P k → w0.heap.size ≤ k ∧ k < w1.heap.size := fun k hk => by rw [← hP] at hk; exact ⟨hk.1.resolve_left id, hk.2⟩
  rw [hP] at hd2
  have HPa := Lib.hid hPa
  have HB40 := Lib.hid (show W.heap.size < w0.heap.size from HB4.out.lt)
  have HPl := Lib.hid (show w0.heap.size ≤ w1.heap.size from HD.out.chg.size)
  have HC2 := Lib.hid (HC0.out.trans' (HD.out.chg.trans' hc2))
  have HC02 := Lib.hid (HD.out.chg.trans' hc2)
  have HB8 := Lib.hid b8
  have hfu := dat_fuse hd2 (n : Int)
  have hfc : fuseC (DV.new 16) (n : Int) = 0 := by
    unfold fuseC
    rw [if_neg (by show ¬ (false = true); decide), if_neg (by omega)]
  have hset : (DV.new 16).set (n : Int) = { DV.new 16 with fuse := (n : Int) } := by
    unfold DV.set
    rw [if_neg (fun h => h.elim (fun h => by cases h) (fun h => by omega))]
  rw [hfc, hset] at hfu
  have HFu := Lib.hid hfu
  clear hw2 b8 hc2 hP hPa hd2 hfu hfc hset
  refine HFu.out.mono ?_
  rintro e w3 ⟨rfl, hd3⟩
  obtain ⟨X3, hX3⟩ : ∃ X3, { DV.new 16 with fuse := (n : Int) } = X3 := ⟨_, rfl⟩
  have hb3 : Blank X3 := by rw [← hX3]; exact ⟨⟨HB.out.idle.up, HB.out.idle.L, HB.out.idle.ge, HB.out.idle.le, HB.out.idle.w64⟩, HB.out.x, HB.out.y⟩
  have hf3 : X3.fuse ≤ 59 := by rw [← hX3]; have := HN.out; show (n : Int) ≤ 59; omega
  have hl3 : X3.B.length = 16 := by rw [← hX3]; exact DV.new_len 16
  rw [hX3] at hd3
  have HO := Lib.hid (dat_open_blank hd3 hb3 (by omega))
  have H3 := Lib.hid (And.intro hf3 hl3)
  clear hd3 hX3 hb3 hf3 hl3 HFu
  dsimp only
  go_wp2_with (first
    | (go_at_call 10; fail))
  refine HO.out.mono ?_
  rintro e w4 (⟨l, X, rfl, hat, hst, hgo, hlen⟩ | ⟨X, rfl, hd4, hfu, hdn, hlen, hL, hcr⟩)
  · have b8 : Arr w4 w1.heap.size 65 (runC d (.slice none 0 0) (.slice none 0 0)) := hat.chg.at HB8.out (fun h => by have := (HPa.out _ h).2; omega)
    have b4 : Arr w4 W.heap.size 65 runZ := (HC02.out.trans hat.chg (fun k hk hPk => by have := (HPa.out k hPk).1; omega)).at HB4.out id
    have l8 : w1.heap.size < w2.heap.size := lt_of_block HB8.out
    have hcW : Chg (fun _ => False) W w4 := chg_more HC2.out hat.chg (fun k hk => Or.inr (by have := (HPa.out k hk).1; have := HC0.out.size; omega))
    have hrn : RnS W w4 (NowP P w2 w4) W.heap.size w1.heap.size l d X [] [] 1 0 (.slice none 0 0) (.slice none 0 0) 0 :=
      ⟨hat.now, ⟨fun j hj => hj.1.elim (fun h => by have := (HPa.out _ h).1; have := HB40.out; omega) (fun h => by have := HPl.out; have := HB40.out; omega), fun _ hj => hj.2, fun hj => hj.1.elim (fun h => by have := (HPa.out _ h).1; have := HB40.out; omega) (fun h => by have := HPl.out; have := HB40.out; omega), fun hj => hj.1.elim (fun h => by have := (HPa.out _ h).2; omega) (fun h => by omega),
        by have := HPl.out; have := HB40.out; omega, fun g hg => by simp [Value.ownBlock] at hg, Kp.nil _ 0 rfl, ⟨rfl, Or.inl ⟨rfl, rfl⟩⟩, b8, b4, Nat.le_refl _, by have := HPl.out; have := HB40.out; omega, hcW⟩, hst, by omega, by simp, by have := hst.fits; show _ + 0 ≤ _; omega, hlen.trans H3.out.2, by have := hgo.fuse; have := H3.out.1; omega⟩
    have HRn := Lib.hid hrn
    obtain ⟨b8, hb8⟩ : ∃ b8, w1.heap.size = b8 := ⟨_, rfl⟩
    rw [hb8] at HRn
    clear hat hst hgo hlen b4 l8 hcW hrn HB4 HB8 HC02 HC2 HD HO HPa HB HB40 HPl
    dsimp only
    rw [hb8]
    clear hb8
    go_wp2_with fail
    go_loopw [10, 11] (fun wv i wr => ∃ (k s a : Nat) (P : Nat → Prop) (X : DV) (had wait : List Blk) (hv : Value), i = .int .i64 k ∧ k ≤ acts.length ∧ k ≤ 40 ∧ RnS W wr P W.heap.size b8 l d X had wait s a hv wv k) (fun _ i _ => 40 - (intOf i).toNat)
    · exact ⟨0, 1, 0, _, X, [], [], _, rfl, Nat.zero_le _, by omega, HRn.out⟩
    clear HRn
    obtain ⟨k, s, a, P, X, had, wait, hv, rfl, hk1, hk2, hrn⟩ := hrel
    have HRn := Lib.hid hrn
    obtain ⟨oah, nh, caph, rfl⟩ : ∃ oa n cap, hv = .slice oa n cap := by
      obtain ⟨oa, cap, e, -⟩ := hrn.f.kp.at' _ (Chg.refl _ _)
      exact ⟨oa, _, cap, e⟩
    obtain ⟨oaw, capw, rfl⟩ := own_slice hrn.f.own
    clear hrn
    by_cases hlt : k < acts.length ∧ k < 40
    · obtain ⟨hl1, hl2⟩ := hlt
      have j1 : (k : Int) < (acts.length : Int) := by omega
      have j2 : (k : Int) < 40 := by omega
      obtain ⟨ga, offa, rfl⟩ := HRa.out.spot (by intro e; cases acts with | nil => simp at hl1 | cons => simp at e)
      obtain ⟨A, hA⟩ : ∃ A, acts[k]? = some A := ⟨acts[k], List.getElem?_eq_getElem hl1⟩
      obtain ⟨c0, c1, c2, c3, c4⟩ := act10_cells HRa.out HRn.out.f.chg hA
      have hOa := HOk.out A (List.mem_of_getElem? hA)
      obtain ⟨kd, kn, one, rv, rs, kv, keep⟩ := A
      obtain ⟨oar, capr, e1, h2r, h3r⟩ := hOa.rv
      obtain ⟨oak, capk, e2, h2k, h3k⟩ := hOa.kv
      simp only at e1 e2
      subst e1; subst e2
      have hsr0 : SlAt W (.slice oar (rs.map strV).length capr) (rs.map strV) := hOa.rv
      rw [List.length_map] at hsr0
      have HSr := Lib.hid hsr0
      clear hsr0
      have HRl := Lib.hid (show rs.length * 16 ≤ reachBytes from hOa.rl)
      obtain ⟨so, hso⟩ : ∃ s : ByteArray, strV one = .string s := ⟨_, rfl⟩
      simp only at c0 c1 c2 c3 c4
      rw [hso] at c2
      simp only [List.length_map] at c3 c4
      have HSo := Lib.hid hso
      clear hA hOa h2r h3r h2k h3k hso
      obtain ⟨w5, hw5⟩ : ∃ w5, wr.alloc (.cells #[.int .i64 kd, .int .i64 kn, .string so, .slice oar rs.length capr, .slice oak keep.length capk] 95) = w5 := ⟨_, rfl⟩
      have hc5 : Chg (fun _ => False) wr w5 := by rw [← hw5]; exact (Chg.refl _ _).alloc _
      have hA5 : Arr w5 wr.heap.size 95 [.int .i64 kd, .int .i64 kn, .string so, .slice oar rs.length capr, .slice oak keep.length capk] := by rw [← hw5]; exact at1
      have hc6 : Chg (fun _ => False) w5 (w5.alloc (.cells #[.string so] 9)) := (Chg.refl _ _).alloc _
      obtain ⟨v7, w7, hr7, ho7, hg7, -⟩ := append_strs_big (own_of_block (w := w5.alloc (.cells #[.string so] 9)) (base := wr.heap.size) (n := 1) at1 hc5.size rfl (by unfold maxLen; omega)) (HSr.out.kept (HRn.out.f.chg.trans' (hc5.trans' hc6))) (one_strs _) (hc5.trans' hc6).size (by have := HRl.out; unfold reachBytes at this; simp only [List.length_map]; show (1 + _) * 16 ≤ _; omega) 22
      have e7 : (#[Value.string so] : Array Value).toList ++ rs.map strV = (one :: rs).map strV := by rw [List.map_cons, HSo.out]; rfl
      rw [e7, List.length_map] at ho7
      have hc7 : Chg (fun _ => False) wr w7 := (hc5.trans' hc6).new (Chg.of_grown hg7) (fun k hk => by
        simp only [Value.ownBlock, Option.some.injEq] at hk
        have := hc5.size
        omega)
      obtain ⟨oa7, cap7, rfl⟩ := own_slice ho7
      have hsl7 := SlAt.of_own ho7
      have h57 : Arr w7 wr.heap.size 95 [.int .i64 kd, .int .i64 kn, .string so, .slice oar rs.length capr, .slice oak keep.length capk] := (Chg.of_grown hg7).at (hc6.at hA5 id) (fun e => by
        simp only [Value.ownBlock, Option.some.injEq] at e
        have := lt_of_block hA5
        omega)
      obtain ⟨n7, hn7⟩ : ∃ n7, (one :: rs).length = n7 := ⟨_, rfl⟩
      rw [hn7] at hsl7 hr7
      have HR7 := Lib.hid hr7
      have HC7 := Lib.hid hc7
      have H57 := Lib.hid h57
      have HSm := Lib.hid (small_any w7 _ (one :: rs) hsl7)
      have f2 : w5.cell? ⟨wr.heap.size, 2, none⟩ = some (.string so) := hA5.cell rfl
      have f3 : (w5.alloc (.cells #[.string so] 9)).cell? ⟨wr.heap.size, 3, none⟩ = some (.slice oar rs.length capr) := hc6.cell (hA5.cell rfl) id
      clear hc5 hA5 hc6 hr7 ho7 hg7 hc7 h57 hsl7 e7 hn7
      go_wp2_with (first
        | (at_builtin; refine Lib.wpList_append_run _ rfl _ _ _ _ rfl _ _ rfl rfl _ _ HR7.out ?_)
        | (go_at_call 11; fail))
      refine HSm.out.mono ?_
      rintro e w9 ⟨v9, rfl, ho9, hc9⟩
      obtain ⟨r0, rest, hrs9, hr0, hrl, hrm⟩ : ∃ r0 rest, smallL (one :: rs) = r0 :: rest ∧ r0.length ≤ 5000 ∧ rest.length ≤ 19 ∧ ∀ r ∈ rest, r.length ≤ 5000 :=
        ⟨smallS one, (rs.take 19).map smallS, rfl, smallS_len one, by rw [List.length_map, List.length_take]; omega, fun r hr => by obtain ⟨x, -, rfl⟩ := List.mem_map.1 hr; exact smallS_len x⟩
      rw [hrs9] at ho9
      have hc79 := HC7.out.trans' hc9
      have h59 : Arr w9 wr.heap.size 95 [.int .i64 kd, .int .i64 kn, .string so, .slice oar rs.length capr, .slice oak keep.length capk] := hc9.at H57.out id
      have k0 : w9.cell? ⟨wr.heap.size, 0, none⟩ = some (.int .i64 kd) := h59.cell rfl
      obtain ⟨n9, hn9⟩ : ∃ n9, (r0 :: rest).length = n9 := ⟨_, rfl⟩
      have hn91 : 1 ≤ n9 := by rw [← hn9]; simp
      have hn1 : n9 - 1 = rest.length := by rw [← hn9]; rfl
      rw [hn9] at ho9
      obtain ⟨oa9, cap9, rfl⟩ := own_slice ho9
      have hcap9 := own_cap ho9
      obtain ⟨g9, rfl, hg9a, hg9b, hcell9⟩ := row_cell ho9 (k := 0) (r := r0) rfl
      have hR9 := HRn.out.fresh hc79
      have hg9w : wr.heap.size ≤ g9 := Nat.le_trans HC7.out.size hg9a
      have hP9 : ¬ P g9 := fun h => by have := HRn.out.f.lt _ h; omega
      obtain ⟨sr, hsr⟩ : ∃ sr : ByteArray, strV r0 = .string sr := ⟨_, rfl⟩
      have hz9 : w9.cell? ⟨g9, 0, none⟩ = some (.string sr) := (hcell9 (fun _ => False) w9 (Chg.refl _ _) id).trans (by rw [hsr])
      have k1 : w9.cell? ⟨b8, 1, none⟩ = some (.slice oah nh caph) := hR9.f.x.cell rfl
      have HSt := Lib.hid (And.intro hsr (And.intro hr0 (And.intro hrl hrm)))
      have HR9 := Lib.hid hR9
      have HO9 := Lib.hid ho9
      have HG9 := Lib.hid (And.intro hg9a (And.intro hg9b (And.intro hg9w hP9)))
      have HC9 := Lib.hid hcell9
      have HN9 := Lib.hid (And.intro hn9 (And.intro hn1 (And.intro hn91 hcap9)))
      have hok := lvW_ok HRn.out.st (by have := HRn.out.few; omega) HRn.out.short HRn.out.fits
      have HOk1 := Lib.hid hok
      have HRw := Lib.hid (show wr.heap.size ≤ w9.heap.size from hc79.size)
      have hn9i : (0 : Int) < (n9 : Int) := by omega
      clear hrs9 hr0 hrl hrm ho9 hc79 h59 hn9 hn1 hn91 hcap9 hg9a hg9b hg9w hcell9 hR9 hP9 hsr hok HSm c0 c1 c2 c3 c4 f2 f3 hw5 HR7 HC7 H57 hc9
      dsimp only
      by_cases hk0 : kd = 0
      · subst hk0
        have hA := wat_add HR9.out.at' HOk1.out r0 (by have := HSt.out.2.1; omega)
        rw [HSt.out.1, add_lv] at hA
        have HA := Lib.hid hA
        clear hA
        by_cases hbig : 4096 < r0.length
        · have hA := HA.out
          rw [if_pos hbig] at hA
          have HA3 := Lib.hid hA
          clear hA HA hbig
          go_wp2_with (first
            | (go_at_call 13; fail))
          refine HA3.out.mono ?_
          rintro e w10 ⟨rfl, hat10⟩
          have hR10 : RnS W w10 (NowP P w9 w10) W.heap.size b8 l d X had wait s a (.slice oah nh caph) (.slice oaw wait.length capw) (k + 1) := ⟨hat10.now, HR9.out.f.turn hat10.chg, HRn.out.st, Nat.le_succ_of_le HRn.out.few, HRn.out.short, HRn.out.fits, HRn.out.len, HRn.out.fuse⟩
          have HR10 := Lib.hid hR10
          clear hat10 hR10 HA3
          dsimp only
          go_wp2_with fail
          exact ⟨⟨k + 1, s, a, _, X, had, wait, _, by go_num, hl1, hl2, HR10.out⟩, by simp [intOf]; omega⟩
        · by_cases hfull : roomF X.B.length (lvW had s a wait) < (r0.length : Int) + 8
          · have hA := HA.out
            rw [if_neg hbig, if_pos hfull] at hA
            have HA3 := Lib.hid hA
            clear hA HA hbig hfull
            go_wp2_with (first
              | (go_at_call 13; fail))
            refine HA3.out.mono ?_
            rintro e w10 ⟨rfl, hat10⟩
            have hR10 : RnS W w10 (NowP P w9 w10) W.heap.size b8 l d X had wait s a (.slice oah nh caph) (.slice oaw wait.length capw) (k + 1) := ⟨hat10.now, HR9.out.f.turn hat10.chg, HRn.out.st, Nat.le_succ_of_le HRn.out.few, HRn.out.short, HRn.out.fits, HRn.out.len, HRn.out.fuse⟩
            have HR10 := Lib.hid hR10
            clear hat10 hR10 HA3
            dsimp only
            go_wp2_with fail
            exact ⟨⟨k + 1, s, a, _, X, had, wait, _, by go_num, hl1, hl2, HR10.out⟩, by simp [intOf]; omega⟩
          · have hA := HA.out
            rw [if_neg hbig, if_neg hfull] at hA
            have hfit : (framesB had).length + sizeB (wait ++ [r0]) ≤ 64 * areaN X.B.length := by
              have h1 : roomF X.B.length (lvW had s a wait) = 64 * (areaN X.B.length : Int) - (((framesB had).length : Nat) : Int) - ((sizeB wait : Nat) : Int) := rfl
              rw [h1] at hfull
              have h2 : sizeB (wait ++ [r0]) = sizeB wait + (r0.length + 8) := by simp [sizeB]
              omega
            have hsh : ∀ x ∈ wait ++ [r0], x.length ≤ 4096 := fun x hx => (List.mem_append.1 hx).elim (HRn.out.short x) (fun h => by rw [List.mem_singleton] at h; subst h; omega)
            have HFi := Lib.hid (And.intro hfit hsh)
            have HA3 := Lib.hid hA
            clear hA HA hbig hfull hfit hsh
            go_wp2_with (first
              | (go_at_call 13; fail))
            refine HA3.out.mono ?_
            rintro e w10 ⟨rfl, hat10⟩
            have hf10 := HR9.out.f.turn hat10.chg
            have hz10 : w10.cell? ⟨g9, 0, none⟩ = some (.string sr) := (HC9.out P w10 hat10.chg HG9.out.2.2.2).trans (by rw [HSt.out.1])
            have hca : Chg (fun _ => False) w10 (w10.alloc (.cells #[.string sr] 9)) := (Chg.refl _ _).alloc _
            have hs2 : SlAt (w10.alloc (.cells #[.string sr] 9)) (.slice (some ⟨w10.heap.size, 0, none⟩) 1 1) [.string sr] := SlAt.of_own (own_of_block (base := 0) (n := 1) at1 (Nat.zero_le _) rfl (by unfold maxLen; omega))
            have hwl : wait.length ≤ 131008 := by have := HOk1.out.small; exact this.2.2.2.1
            obtain ⟨v12, w12, hr12, ho12, hg12, h412⟩ := append_strs (own_kept hf10.own hca) hs2 (fun y hy => by rw [List.mem_singleton] at hy; subst hy; rfl) (Nat.le_trans hf10.chg.size hca.size) (by simp only [List.length_map, List.length_singleton]; omega) 22
            have e12 : wait.map strV ++ [.string sr] = (wait ++ [r0]).map strV := by rw [List.map_append, List.map_cons, HSt.out.1]; rfl
            rw [e12, List.length_map] at ho12
            obtain ⟨hf12, hc12⟩ := hf10.push hca ho12 hg12 h412
            have hat12 := hat10.now.aside hc12 (fun j hj e => hf10.pw j e hj)
            have hR12 : RnS W w12 (NowP P w9 w10) W.heap.size b8 l d X had (wait ++ [r0]) s a (.slice oah nh caph) v12 (k + 1) := ⟨hat12, hf12, HRn.out.st, Nat.le_succ_of_le HRn.out.few, HFi.out.2, HFi.out.1, HRn.out.len, HRn.out.fuse⟩
            have HR12 := Lib.hid hR12
            have HRr12 := Lib.hid hr12
            obtain ⟨oa12, cap12, rfl⟩ := own_slice ho12
            clear hf10 hca hs2 hwl hr12 ho12 hg12 h412 e12 hf12 hc12 hat12 hR12 hat10 HA3
            dsimp only
            go_wp2_with (first
              | (at_builtin; refine Lib.wpList_append_run _ rfl _ _ _ _ rfl _ _ rfl rfl _ _ HRr12.out ?_))
            have hR := HR12.out
            rw [show (wait ++ [r0]).length = wait.length + 1 from by simp] at hR
            exact ⟨⟨k + 1, s, a, _, X, had, wait ++ [r0], _, by go_num, hl1, hl2, hR⟩, by simp [intOf]; omega⟩
      · by_cases hk1' : kd = 1
        · subst hk1'
          have hsh : SlAt w9 (.slice oah nh caph) (had.map strV) := HR9.out.f.kp.at' _ (Chg.refl _ _)
          have hsm := HOk1.out.small
          obtain ⟨v10, w10, v11, w11, hr10, hr11, ho11, hc11⟩ := copy_two hsh (SlAt.of_own HR9.out.f.own) (by have := hsm.2.2.1; show had.length ≤ _; have h2 : had.length ≤ 131008 := this; omega) (by have h2 : wait.length ≤ 131008 := hsm.2.2.2.1; omega)
          obtain ⟨oa10, n10, cap10, rfl⟩ : ∃ oa n cap, v10 = .slice oa n cap := hr11.2
          have hca : Chg (fun _ => False) w9 (w9.alloc (.cells #[] 9)) := (Chg.refl _ _).alloc _
          have k1a : (w9.alloc (.cells #[] 9)).cell? ⟨b8, 1, none⟩ = some (.slice oah nh caph) := hca.cell k1 id
          have HR10 := Lib.hid hr10
          have HR11 := Lib.hid hr11.1
          obtain ⟨want, hwant⟩ : ∃ want, had ++ wait = want := ⟨_, rfl⟩
          rw [hwant] at ho11
          have hkw : Kp (fun j => P j ∨ j = W.heap.size ∨ j = b8) w11 v11 want := Kp.of_own ho11 (fun g hg hj => by
            have h4 := HR9.out.f.r.lt
            have h8 := HR9.out.f.x.lt
            rcases hj with hj | hj | hj
            · have := HR9.out.f.lt _ hj; omega
            · omega
            · omega)
          have hRS := HR9.out.fresh hc11
          have HRS := Lib.hid hRS
          have HKw := Lib.hid hkw
          have HSl := Lib.hid (sync_lv HRn.out.st HRn.out.short HRn.out.fits _ rfl)
          have hsy := wat_sync hRS.at' HOk1.out (by have := HRn.out.fuse; omega) (fun j => by rw [HRn.out.st.idle.L]; simp)
          obtain ⟨R, hR⟩ : ∃ R, syncF X (lvW had s a wait) = R := ⟨_, rfl⟩
          rw [hR] at hsy HSl
          rw [hwant] at HSl
          have HSy := Lib.hid hsy
          obtain ⟨oa11, cap11, rfl⟩ := own_slice ho11
          obtain ⟨n11, hn11⟩ : ∃ n11, want.length = n11 := ⟨_, rfl⟩
          rw [hn11] at HKw HR11
          clear hsh hsm hr10 hr11 ho11 hc11 hca hkw hRS hsy hR hwant hn11 HR9
          go_wp2_with (first
            | (at_builtin; first
                | (refine Lib.wpList_append_run _ rfl _ _ _ _ rfl _ _ rfl rfl _ _ HR10.out ?_; clear HR10)
                | refine Lib.wpList_append_run _ rfl _ _ _ _ rfl _ _ rfl rfl _ _ HR11.out ?_)
            | (go_at_call 16; fail))
          refine HSy.out.mono ?_
          rintro e w12 ⟨rfl, hat12⟩
          obtain ⟨hgo, hlen, hcase⟩ := HSl.out
          have HGl := Lib.hid (And.intro hgo hlen)
          rcases hcase with ⟨h0, s', hs1, hs2, hst', hV'⟩ | ⟨h15, hfu, hdn, hL, hV', hkeep⟩
          · rw [hV'] at hat12
            rw [h0]
            have hf12 := HRS.out.f.turn hat12.chg
            have hkw12 := HKw.out.step (hat12.chg.mono (fun _ _ h => Or.inl h)) (Q := fun j => NowP P w11 w12 j ∨ j = W.heap.size ∨ j = b8) (fun j hj => hj.elim (fun hj => hj.1.elim (fun h => Or.inl (Or.inl h)) Or.inr) (fun h => Or.inl (Or.inr h)))
            obtain ⟨hf13, hc13⟩ := hf12.take hkw12
            have hat13 := hat12.now.aside hc13 (fun j hj e => hf12.p8 (by have e : j = b8 := e; exact e ▸ hj))
            have hR13 : RnS W (w12.setCell ⟨b8, 1, none⟩ (.slice oa11 n11 cap11)) (NowP P w11 w12) W.heap.size b8 l d R.2.1 want [] s' a (.slice oa11 n11 cap11) (.slice none 0 0) (k + 1) :=
              ⟨hat13, hf13, hst', by have := HRn.out.few; omega, by simp, by have := hst'.fits; show _ + 0 ≤ _; omega, HGl.out.2.trans HRn.out.len, by have := HGl.out.1.fuse; have := HRn.out.fuse; omega⟩
            have x1 : w12.cell? ⟨b8, 1, none⟩ = some (.slice oah nh caph) := hf12.x.cell rfl
            have x2 : w12.frozen? ⟨b8, 1, none⟩ = false := hf12.x.free
            have HR13 := Lib.hid hR13
            clear hf12 hkw12 hf13 hc13 hat13 hR13 hat12
            dsimp only
            go_wp2_with fail
            obtain ⟨w13, hw13⟩ : ∃ w13, w12.setCell ⟨b8, 1, none⟩ (.slice oa11 n11 cap11) = w13 := ⟨_, rfl⟩
            rw [hw13] at HR13 ⊢
            clear hw13 x1 x2
            have hrec := wat_records (HR13.out.at'.again (Chg.refl (fun _ => False) w13).drew) (by have h := HR13.out.st.fits; have h2 := sizeB_ge want; rw [framesB_length] at h; have := areaN_le HR13.out.st.idle.le; show want.length ≤ _; omega)
            have HRec := Lib.hid hrec
            have hx13 : w13.drew.cell? ⟨b8, 1, none⟩ = some (.slice oa11 n11 cap11) := HR13.out.f.x.cell rfl
            clear hrec
            refine wp_region_noPanic ?_
            refine wp_region_held_drew (S := (fun w' => w'.cell? ⟨b8, 1, none⟩ = some (.slice oa11 n11 cap11))) (by kernel_rfl) (hx13) (fun hHeld => ?_)
            refine take_list (i := 0) (v := ?_) rfl (by kernel_rfl) (by kernel_rfl) (by kernel_rfl) (fun _ _ _ h => h) (Or.inl ⟨by rfl, fun w hSw => ?_⟩) hHeld ?_
            rotate_left
            · (skip; go_simp)
              try with_reducible rfl
            simp only [Act.put, List.setIfInBounds_toArray, List.set_cons_zero, List.set_cons_succ]
            refine take_list (i := 2) (v := ?_) rfl (by kernel_rfl) (by kernel_rfl) (by kernel_rfl) (fun _ _ _ h => h) (Or.inl ⟨by rfl, fun w hSw => ?_⟩) hHeld ?_
            rotate_left
            · (skip; go_simp)
              try with_reducible rfl
            simp only [Act.put, List.setIfInBounds_toArray, List.set_cons_zero, List.set_cons_succ]
            refine take_list (i := 3) (v := ?_) rfl (by kernel_rfl) (by kernel_rfl) (by kernel_rfl) (fun _ _ _ h => h) (Or.inl ⟨by rfl, fun w hSw => ?_⟩) hHeld ?_
            rotate_left
            · (skip; go_simp)
              try with_reducible rfl
            simp only [Act.put, List.setIfInBounds_toArray, List.set_cons_zero, List.set_cons_succ]
            refine wpAnyH_ready (rs := [1]) (by kernel_rfl) (by simp) (one_list (i := 1) rfl (by rfl) (fun K hK => ?_) AllReadyH.nil)
            go_simp
            refine HRec.out.mono ?_
            rintro e w14 ⟨v14, rfl, ho14, hc14⟩
            have hc14' : Chg (fun _ => False) w13 w14 := (Chg.refl (fun _ => False) w13).drew.trans' hc14
            have hsa := wat_yes ho14 HR13.out.f.kp (hc14'.mono (fun _ _ h => h.elim)) (by have h := HR13.out.st.fits; have h2 := sizeB_ge want; rw [framesB_length] at h; have := areaN_le HR13.out.st.idle.le; show want.length ≤ _; omega) rfl
            have HSa := Lib.hid hsa
            have HC14 := Lib.hid hc14'
            obtain ⟨oa14, cap14, rfl⟩ := own_slice ho14
            clear hsa ho14
            dsimp only
            refine hK _ _ ((hc14.cell hx13 id)) (fun hH2 => ?_)
            try simp only [Act.put, List.setIfInBounds_toArray, List.set_cons_zero, List.set_cons_succ]
            clear hc14 hc14'
            refine wpAnyH_ready (rs := [4]) (by kernel_rfl) (by simp) (one_list (i := 4) rfl (by rfl) (fun K hK => ?_) AllReadyH.nil)
            go_simp
            refine HSa.out.mono ?_
            rintro e w15 ⟨rfl, hc15⟩
            have HR15 := Lib.hid (HR13.out.fresh (HC14.out.trans' hc15))
            dsimp only
            refine hK _ _ ((HR15.out.f.x.cell rfl)) (fun hH3 => ?_)
            try simp only [Act.put, List.setIfInBounds_toArray, List.set_cons_zero, List.set_cons_succ]
            clear hc15
            refine take_list (i := 5) (v := ?_) rfl (by kernel_rfl) (by kernel_rfl) (by kernel_rfl) (fun _ _ _ h => h) (Or.inl ⟨by rfl, fun w hSw => ?_⟩) hH3 ?_
            rotate_left
            · (skip; go_simp)
              try with_reducible rfl
            simp only [Act.put, List.setIfInBounds_toArray, List.set_cons_zero, List.set_cons_succ]
            refine wpAnyH_done (by kernel_rfl) ?_ _
            refine NoPanic.normal ?_
            go_wp2_with fail
            exact ⟨⟨k + 1, s', a, _, R.2.1, want, [], _, by go_num, hl1, hl2, HR15.out⟩, by simp [intOf]; omega⟩
          · rw [hV'] at hat12
            rw [h15]
            have hkp2 : ∀ keep, (Blank (R.2.1.crash keep) ∧ had = []) ∨ ∃ s2 a2, s2 ≤ 100 ∧ (Stands (R.2.1.crash keep) had s2 a2 ∨ Stands (R.2.1.crash keep) want s2 a2) := fun keep => Or.inr ((hkeep keep).elim (fun h => ⟨s, a, by have := HRn.out.few; omega, Or.inl h⟩) (fun h => ⟨s + 1, a, by have := HRn.out.few; omega, Or.inr h⟩))
            have hokl : ({ lvW had s a wait with lost := true } : LV).Ok R.2.1.B.length := by
              have h := HOk1.out
              rw [← hlen] at h
              exact ⟨h.ge, h.le, h.seq, h.area, h.fit, h.used, h.more, h.tail, h.short⟩
            have hfl : R.2.1.fuse ≤ 100 := by have := hgo.fuse; have := HRn.out.fuse; omega
            have hf12 := HRS.out.f.turn hat12.chg
            obtain ⟨P12, hP12⟩ : ∃ P12, NowP P w11 w12 = P12 := ⟨_, rfl⟩
            have hat12' := hat12.now
            rw [hP12] at hf12 hat12'
            have hkw12 : Kp (fun j => P12 j ∨ j = W.heap.size ∨ j = b8) w12 (.slice oa11 n11 cap11) want := HKw.out.step (hat12.chg.mono (fun _ _ h => Or.inl h)) (fun j hj => hj.elim (fun hj => (by rw [← hP12] at hj; exact hj.1.elim (fun h => Or.inl (Or.inl h)) Or.inr)) (fun h => Or.inl (Or.inr h)))
            have hcx : Chg (· = b8) w12 (w12.setCell ⟨b8, 2, none⟩ (.slice oa11 n11 cap11)) := Chg.setCell (S := (· = b8)) (Chg.refl _ _) (fun _ => rfl) _
            have hat13 := hat12'.aside hcx (fun j hj e => hf12.p8 (by have e : j = b8 := e; exact e ▸ hj))
            have hx13 : Arr (w12.setCell ⟨b8, 2, none⟩ (.slice oa11 n11 cap11)) b8 65 (runC d (.slice oah nh caph) (.slice oa11 n11 cap11)) := hf12.x.set 2 (.slice oa11 n11 cap11)
            have hr13 : Arr (w12.setCell ⟨b8, 2, none⟩ (.slice oa11 n11 cap11)) W.heap.size 65 runZ := hcx.at hf12.r (fun e => hf12.ne e.symm)
            have x2 : w12.cell? ⟨b8, 2, none⟩ = some (.slice none 0 0) := hf12.x.cell rfl
            have x3 : w12.frozen? ⟨b8, 2, none⟩ = false := hf12.x.free
            have hw13 : Chg (fun _ => False) W (w12.setCell ⟨b8, 2, none⟩ (.slice oa11 n11 cap11)) := hf12.chg.new hcx (fun i hi => by have hi : i = b8 := hi; rw [hi]; exact hf12.n8)
            have hkh13 : Kp (fun j => P12 j ∨ j = W.heap.size) (w12.setCell ⟨b8, 2, none⟩ (.slice oa11 n11 cap11)) (.slice oah nh caph) had := hf12.kp.step (hcx.mono (fun _ _ e => Or.inr (Or.inr (Or.inl e)))) (fun j hj => Or.inl (hj.imp id Or.inl))
            have hkn13 : Kp (fun j => P12 j ∨ j = W.heap.size) (w12.setCell ⟨b8, 2, none⟩ (.slice oa11 n11 cap11)) (.slice oa11 n11 cap11) want := hkw12.step (hcx.mono (fun _ _ e => Or.inr (Or.inr e))) (fun j hj => Or.inl (hj.imp id Or.inl))
            have HF := Lib.hid (And.intro hf12.new (And.intro hf12.p4 (And.intro hf12.p8 hf12.ne)))
            have H8 := Lib.hid hf12.n8
            clear hf12 hat12' hkw12 hcx hat12 hP12
            dsimp only
            go_wp2_with fail
            obtain ⟨w13, hw13e⟩ : ∃ w13, w12.setCell ⟨b8, 2, none⟩ (.slice oa11 n11 cap11) = w13 := ⟨_, rfl⟩
            rw [hw13e] at hat13 hx13 hr13 hw13 hkh13 hkn13 ⊢
            have hd : Chg (fun _ => False) w13 w13.drew := (Chg.refl _ _).drew
            have HA := Lib.hid (hat13.again hd)
            have HX := Lib.hid (show Arr w13.drew b8 65 (runC d (.slice oah nh caph) (.slice oa11 n11 cap11)) from hd.at hx13 id)
            have HRz := Lib.hid (show Arr w13.drew W.heap.size 65 runZ from hd.at hr13 id)
            have HW := Lib.hid (hw13.trans' hd)
            have HKh := Lib.hid (hkh13.fresh hd)
            have HKn := Lib.hid (hkn13.fresh hd)
            have hup := dat_up HA.out.disk
            rw [hdn, show (!true) = false from rfl] at hup
            have HUp := Lib.hid hup
            have HCs := Lib.hid (And.intro hokl (And.intro hfl (And.intro hL hkp2)))
            have hhl : had.length ≤ 131008 := HOk1.out.small.2.2.1
            have HHl := Lib.hid hhl
            clear hw13e x2 x3 hat13 hx13 hr13 hw13 hkh13 hkn13 hd hup hokl hfl hL hkp2 hdn hkeep hfu hhl
            refine wp_region_noPanic ?_
            refine wp_region_held_drew (S := (fun w' => w'.rangeAt b8 0 (runC d (.slice oah nh caph) (.slice oa11 n11 cap11)) ∧ w'.cell? ⟨b8, 1, none⟩ = some (.slice oah nh caph))) (by kernel_rfl) (⟨HX.out.range, HX.out.cell rfl⟩) (fun hHeld => ?_)
            refine take_list (i := 0) rfl (by kernel_rfl) (by kernel_rfl) (by kernel_rfl) (fun _ _ _ h => h) ((yieldsIf_load_mid (by rfl) _ _ rfl _ _ rfl (runC d (.slice oah nh caph) (.slice oa11 n11 cap11)) _ (fun w h => h.1) Try.underlying65 rfl size_run)) hHeld ?_
            simp only [Act.put, List.setIfInBounds_toArray, List.set_cons_zero, List.set_cons_succ]
            refine take_list (i := 1) (v := ?_) rfl (by kernel_rfl) (by kernel_rfl) (by kernel_rfl) (fun _ _ _ h => h) (Or.inl ⟨by rfl, fun w hSw => ?_⟩) hHeld ?_
            rotate_left
            · (skip; go_simp)
              try with_reducible rfl
            simp only [Act.put, List.setIfInBounds_toArray, List.set_cons_zero, List.set_cons_succ]
            refine wpAnyH_ready (rs := [2]) (by kernel_rfl) (by simp) (one_list (i := 2) rfl (by rfl) (fun K hK => ?_) AllReadyH.nil)
            go_simp
            refine HUp.out.mono ?_
            rintro e w14 ⟨rfl, rfl⟩
            dsimp only
            refine hK _ _ (⟨HX.out.range, HX.out.cell rfl⟩) (fun hH2 => ?_)
            try simp only [Act.put, List.setIfInBounds_toArray, List.set_cons_zero, List.set_cons_succ]
            refine take_list (i := 3) (v := ?_) rfl (by kernel_rfl) (by kernel_rfl) (by kernel_rfl) (fun _ _ _ h => h) (Or.inl ⟨by rfl, fun w hSw => ?_⟩) hH2 ?_
            rotate_left
            · (obtain ⟨hSw1, hSw2⟩ := hSw; go_simp)
              try with_reducible rfl
            simp only [Act.put, List.setIfInBounds_toArray, List.set_cons_zero, List.set_cons_succ]
            refine take_list (i := 4) (v := ?_) rfl (by kernel_rfl) (by kernel_rfl) (by kernel_rfl) (fun _ _ _ h => h) (Or.inl ⟨by rfl, fun w hSw => ?_⟩) hH2 ?_
            rotate_left
            · (obtain ⟨hSw1, hSw2⟩ := hSw; go_simp)
              try with_reducible rfl
            simp only [Act.put, List.setIfInBounds_toArray, List.set_cons_zero, List.set_cons_succ]
            refine take_list (i := 5) (v := ?_) rfl (by kernel_rfl) (by kernel_rfl) (by kernel_rfl) (fun _ _ _ h => h) (Or.inl ⟨by rfl, fun w hSw => ?_⟩) hH2 ?_
            rotate_left
            · (obtain ⟨hSw1, hSw2⟩ := hSw; go_simp)
              try with_reducible rfl
            simp only [Act.put, List.setIfInBounds_toArray, List.set_cons_zero, List.set_cons_succ]
            refine take_list (i := 7) (v := ?_) rfl (by kernel_rfl) (by kernel_rfl) (by kernel_rfl) (fun _ _ _ h => h) (Or.inl ⟨by rfl, fun w hSw => ?_⟩) hH2 ?_
            rotate_left
            · (obtain ⟨hSw1, hSw2⟩ := hSw; go_simp)
              try with_reducible rfl
            simp only [Act.put, List.setIfInBounds_toArray, List.set_cons_zero, List.set_cons_succ]
            refine take_list (i := 8) (v := ?_) rfl (by kernel_rfl) (by kernel_rfl) (by kernel_rfl) (fun _ _ _ h => h) (Or.inl ⟨by rfl, fun w hSw => ?_⟩) hH2 ?_
            rotate_left
            · (obtain ⟨hSw1, hSw2⟩ := hSw; go_simp)
              try with_reducible rfl
            simp only [Act.put, List.setIfInBounds_toArray, List.set_cons_zero, List.set_cons_succ]
            have HRec := Lib.hid (wat_records HA.out (by show had.length ≤ _; exact HHl.out))
            refine wpAnyH_ready (rs := [6]) (by kernel_rfl) (by simp) (one_list (i := 6) rfl (by rfl) (fun K hK => ?_) AllReadyH.nil)
            go_simp
            refine HRec.out.mono ?_
            rintro e w15 ⟨v15, rfl, ho15, hc15⟩
            have HSa := Lib.hid (wat_yes ho15 HKh.out (hc15.mono (fun _ _ h => h.elim)) (by show had.length ≤ _; have := HHl.out; omega) rfl)
            have HC15 := Lib.hid hc15
            obtain ⟨oa15, cap15, rfl⟩ := own_slice ho15
            clear ho15
            dsimp only
            refine hK _ _ (⟨(HX.out.kept hc15 id).range, (HX.out.kept hc15 id).cell rfl⟩) (fun hH3 => ?_)
            try simp only [Act.put, List.setIfInBounds_toArray, List.set_cons_zero, List.set_cons_succ]
            clear hc15
            refine wpAnyH_ready (rs := [9]) (by kernel_rfl) (by simp) (one_list (i := 9) rfl (by rfl) (fun K hK => ?_) AllReadyH.nil)
            go_simp
            refine HSa.out.mono ?_
            rintro e w16 ⟨rfl, hc16⟩
            have HC16 := Lib.hid (HC15.out.trans' hc16)
            clear hc16
            dsimp only
            refine hK _ _ (⟨(HX.out.kept HC16.out id).range, (HX.out.kept HC16.out id).cell rfl⟩) (fun hH4 => ?_)
            try simp only [Act.put, List.setIfInBounds_toArray, List.set_cons_zero, List.set_cons_succ]
            refine take_list (i := 10) (v := ?_) rfl (by kernel_rfl) (by kernel_rfl) (by kernel_rfl) (fun _ _ _ h => h) (Or.inl ⟨by rfl, fun w hSw => ?_⟩) hH4 ?_
            rotate_left
            · (obtain ⟨hSw1, hSw2⟩ := hSw; go_simp)
              try with_reducible rfl
            simp only [Act.put, List.setIfInBounds_toArray, List.set_cons_zero, List.set_cons_succ]
            refine take_list (i := 11) (v := ?_) rfl (by kernel_rfl) (by kernel_rfl) (by kernel_rfl) (fun _ _ _ h => h) (Or.inl ⟨by rfl, fun w hSw => ?_⟩) hH4 ?_
            rotate_left
            · (obtain ⟨hSw1, hSw2⟩ := hSw; go_simp)
              try with_reducible rfl
            simp only [Act.put, List.setIfInBounds_toArray, List.set_cons_zero, List.set_cons_succ]
            refine take_list (i := 12) (v := ?_) rfl (by kernel_rfl) (by kernel_rfl) (by kernel_rfl) (fun _ _ _ h => h) (Or.inl ⟨by rfl, fun w hSw => ?_⟩) hH4 ?_
            rotate_left
            · (obtain ⟨hSw1, hSw2⟩ := hSw; go_simp)
              try with_reducible rfl
            simp only [Act.put, List.setIfInBounds_toArray, List.set_cons_zero, List.set_cons_succ]
            have hsy := wat_sync (HA.out.again HC16.out) HCs.out.1 (by have := HCs.out.2.1; omega) (fun j => by have := HCs.out.2.2.1 j; omega)
            rw [show syncF R.2.1 ({ lvW had s a wait with lost := true } : LV) = (15, R.2.1, ({ lvW had s a wait with lost := true } : LV)) by unfold syncF; rw [if_pos rfl]] at hsy
            have HSy := Lib.hid hsy
            clear hsy
            refine wpAnyH_ready (rs := [13]) (by kernel_rfl) (by simp) (one_list (i := 13) rfl (by rfl) (fun K hK => ?_) AllReadyH.nil)
            go_simp
            refine HSy.out.mono ?_
            rintro e w17 ⟨rfl, hat17⟩
            have HA17 := Lib.hid hat17
            dsimp only
            have h17 : Arr w17 b8 65 (runC d (.slice oah nh caph) (.slice oa11 n11 cap11)) := (HX.out.kept HC16.out id).kept hat17.chg HF.out.2.2.1
            refine hK _ _ (⟨h17.range, h17.cell rfl⟩) (fun hH5 => ?_)
            try simp only [Act.put, List.setIfInBounds_toArray, List.set_cons_zero, List.set_cons_succ]
            refine take_list (i := 14) (v := ?_) rfl (by kernel_rfl) (by kernel_rfl) (by kernel_rfl) (fun _ _ _ h => h) (Or.inl ⟨by rfl, fun w hSw => ?_⟩) hH5 ?_
            rotate_left
            · (obtain ⟨hSw1, hSw2⟩ := hSw; go_simp)
              try with_reducible rfl
            simp only [Act.put, List.setIfInBounds_toArray, List.set_cons_zero, List.set_cons_succ]
            refine take_list (i := 15) (v := ?_) rfl (by kernel_rfl) (by kernel_rfl) (by kernel_rfl) (fun _ _ _ h => h) (Or.inl ⟨by rfl, fun w hSw => ?_⟩) hH5 ?_
            rotate_left
            · (obtain ⟨hSw1, hSw2⟩ := hSw; go_simp)
              try with_reducible rfl
            simp only [Act.put, List.setIfInBounds_toArray, List.set_cons_zero, List.set_cons_succ]
            refine take_list (i := 16) (v := ?_) rfl (by kernel_rfl) (by kernel_rfl) (by kernel_rfl) (fun _ _ _ h => h) (Or.inl ⟨by rfl, fun w hSw => ?_⟩) hH5 ?_
            rotate_left
            · (obtain ⟨hSw1, hSw2⟩ := hSw; go_simp)
              try with_reducible rfl
            simp only [Act.put, List.setIfInBounds_toArray, List.set_cons_zero, List.set_cons_succ]
            refine take_list (i := 17) (v := ?_) rfl (by kernel_rfl) (by kernel_rfl) (by kernel_rfl) (fun _ _ _ h => h) (Or.inl ⟨by rfl, fun w hSw => ?_⟩) hH5 ?_
            rotate_left
            · (obtain ⟨hSw1, hSw2⟩ := hSw; go_simp)
              try with_reducible rfl
            simp only [Act.put, List.setIfInBounds_toArray, List.set_cons_zero, List.set_cons_succ]
            have had' := wat_add hat17 HCs.out.1 [] (by simp)
            rw [show addF R.2.1.B.length ({ lvW had s a wait with lost := true } : LV) [] = (15, ({ lvW had s a wait with lost := true } : LV)) by unfold addF; rw [if_pos rfl], show strV [] = .string ⟨#[]⟩ from rfl] at had'
            have HAd := Lib.hid had'
            clear had' h17 hat17
            refine wpAnyH_ready (rs := [18]) (by kernel_rfl) (by simp) (one_list (i := 18) rfl (by rfl) (fun K hK => ?_) AllReadyH.nil)
            go_simp
            refine HAd.out.mono ?_
            rintro e w18 ⟨rfl, hat18⟩
            have HA18 := Lib.hid hat18
            dsimp only
            have h18 : Arr w18 b8 65 (runC d (.slice oah nh caph) (.slice oa11 n11 cap11)) := (HX.out.kept HC16.out id).kept hat18.chg HF.out.2.2.1
            have g18 : Arr w18 W.heap.size 65 runZ := (HRz.out.kept HC16.out id).kept hat18.chg HF.out.2.1
            refine hK _ _ (⟨h18.range, h18.cell rfl⟩) (fun hH6 => ?_)
            try simp only [Act.put, List.setIfInBounds_toArray, List.set_cons_zero, List.set_cons_succ]
            refine take_list (i := 19) (v := ?_) rfl (by kernel_rfl) (by kernel_rfl) (by kernel_rfl) (fun _ _ _ h => h) (Or.inl ⟨by rfl, fun w hSw => ?_⟩) hH6 ?_
            rotate_left
            · (obtain ⟨hSw1, hSw2⟩ := hSw; go_simp)
              try with_reducible rfl
            simp only [Act.put, List.setIfInBounds_toArray, List.set_cons_zero, List.set_cons_succ]
            refine take_list (i := 20) (v := ?_) rfl (by kernel_rfl) (by kernel_rfl) (by kernel_rfl) (fun _ _ _ h => h) (Or.inl ⟨by rfl, fun w hSw => ?_⟩) hH6 ?_
            rotate_left
            · (obtain ⟨hSw1, hSw2⟩ := hSw; go_simp)
              try with_reducible rfl
            simp only [Act.put, List.setIfInBounds_toArray, List.set_cons_zero, List.set_cons_succ]
            have hs4 := g18.store (vs := runC d (.slice oah nh caph) (.slice oa11 n11 cap11)) rfl
            have t4 := g18.there
            refine wpAnyH_ready (rs := [21]) (by kernel_rfl) (by simp) (one_list (i := 21) rfl (by rfl) (fun K hK => ?_) AllReadyH.nil)
            refine wp_store_mid 65 _ _ rfl W.heap.size 0 (runC d (.slice oah nh caph) (.slice oa11 n11 cap11)).toArray rfl rfl t4 size_run (all_oneCell_toArray (by intro v hv; simp [runC] at hv; rcases hv with rfl | rfl | rfl <;> rfl)) ?_
            rw [List.toList_toArray]
            obtain ⟨w19, hw19⟩ : ∃ w19, w18.setCells W.heap.size 0 (runC d (.slice oah nh caph) (.slice oa11 n11 cap11)) = w19 := ⟨_, rfl⟩
            rw [hw19] at hs4 ⊢
            have h19 : Arr w19 b8 65 (runC d (.slice oah nh caph) (.slice oa11 n11 cap11)) := hs4.chg.at h18 HF.out.2.2.2
            refine hK _ _ ⟨h19.range, h19.cell rfl⟩ (fun hH7 => ?_)
            try simp only [Act.put, List.setIfInBounds_toArray, List.set_cons_zero, List.set_cons_succ]
            refine take_list (i := 22) (v := ?_) rfl (by kernel_rfl) (by kernel_rfl) (by kernel_rfl) (fun _ _ _ h => h) (Or.inl ⟨by rfl, fun w hSw => ?_⟩) hH7 ?_
            rotate_left
            · (obtain ⟨hSw1, hSw2⟩ := hSw; go_simp)
              try with_reducible rfl
            simp only [Act.put, List.setIfInBounds_toArray, List.set_cons_zero, List.set_cons_succ]
            refine wpAnyH_done (by kernel_rfl) ?_ _
            refine NoPanic.normal ?_
            go_wp2_with fail
            refine bodyPost_ret (results2c rfl _ rfl (run_loadVar_mid (P := Try.prog) _ W.heap.size 0 65 (runC d (.slice oah nh caph) (.slice oa11 n11 cap11)) _ hs4.arr.range Try.underlying65 rfl size_run)) rfl ?_
            exact run_end HA18.out hs4.chg HF.out.2.1 (HRz.out.kept HC16.out id).lt (Nat.le_refl _) HF.out.1 (HW.out.trans' HC16.out) (HKh.out.fresh HC16.out) (HKn.out.fresh HC16.out) ⟨fun j => by have := HCs.out.2.2.1 j; omega, HCs.out.2.2.2⟩ (HGl.out.2.trans HRn.out.len)
        · obtain ⟨oat, ct, hsl, hblk, htl⟩ := slice_tail (g := g9) (n := n9) (cap := cap9) HN9.out.2.2.1 HN9.out.2.2.2
          obtain ⟨m9, hm9⟩ : ∃ m9, n9 - 1 = m9 := ⟨_, rfl⟩
          rw [hm9] at hsl htl
          have hkw : Kp (fun j => P j ∨ j = W.heap.size ∨ j = b8) w9 (.slice oat m9 ct) rest := by
            have hoff : ¬ (P g9 ∨ g9 = W.heap.size ∨ g9 = b8) := fun hj => by
              have h4 := HRn.out.f.r.lt
              have h8 := HRn.out.f.x.lt
              rcases hj with hj | hj | hj
              · exact HG9.out.2.2.2 hj
              · have := HG9.out.2.2.1; omega
              · have := HG9.out.2.2.1; omega
            refine ⟨fun w' hc => htl w' r0 rest (SlAt.of_own (row_kept HO9.out hc (fun g hg => ?_))), fun g hg => ?_⟩
            · simp only [Value.ownBlock, Option.some.injEq] at hg
              subst hg
              exact hoff
            · cases hoa : oat with
              | none => rw [hoa] at hg; simp [Value.ownBlock] at hg
              | some x =>
                have := hblk x hoa
                rw [hoa] at hg
                simp only [Value.ownBlock, Option.some.injEq] at hg
                rw [← hg, this]
                exact ⟨hoff, HG9.out.2.1⟩
          have HKw := Lib.hid hkw
          have HRS := HR9
          have HSl := Lib.hid (reset_lv HRn.out.st (recs2 := rest) (wait := wait) _ rfl)
          have hsy := wat_reset HR9.out.at' HOk1.out (by have := HRn.out.fuse; omega) (fun j => by rw [HRn.out.st.idle.L]; simp) rest (.slice oat m9 ct) (hkw.at' _ (Chg.refl _ _)) (fun g hg => ⟨fun h => (hkw.off g hg).1 (Or.inl h), (hkw.off g hg).2⟩) (by have := HSt.out.2.2.1; omega) (fun r hr => by have := HSt.out.2.2.2 r hr; omega)
          obtain ⟨R, hR⟩ : ∃ R, resetF X (lvW had s a wait) rest = R := ⟨_, rfl⟩
          rw [hR] at hsy HSl
          have HSy := Lib.hid hsy
          clear hblk htl hm9 hkw hsy hR
          go_wp2_with (first
            | (go_at_call 20; fail))
          refine HSy.out.mono ?_
          rintro e w12 ⟨rfl, hat12⟩
          rcases HSl.out with ⟨-, hE⟩ | ⟨hw0, -, hE⟩ | ⟨hw0, -, -, hE⟩ | ⟨hw0, -, -, hgo, hlen, hcase⟩
          · rw [hE] at hat12 ⊢
            have hR12 : RnS W w12 (NowP P w9 w12) W.heap.size b8 l d X had _ s a (.slice oah nh caph) (.slice oaw _ capw) (k + 1) := ⟨hat12.now, HR9.out.f.turn hat12.chg, HRn.out.st, Nat.le_succ_of_le HRn.out.few, HRn.out.short, HRn.out.fits, HRn.out.len, HRn.out.fuse⟩
            have HR12 := Lib.hid hR12
            clear hat12 hR12
            dsimp only
            go_wp2_with fail
            exact ⟨⟨k + 1, s, a, _, X, had, _, _, by go_num, hl1, hl2, HR12.out⟩, by simp [intOf]; omega⟩
          · subst hw0
            rw [hE] at hat12 ⊢
            have hR12 : RnS W w12 (NowP P w9 w12) W.heap.size b8 l d X had _ s a (.slice oah nh caph) (.slice oaw _ capw) (k + 1) := ⟨hat12.now, HR9.out.f.turn hat12.chg, HRn.out.st, Nat.le_succ_of_le HRn.out.few, HRn.out.short, HRn.out.fits, HRn.out.len, HRn.out.fuse⟩
            have HR12 := Lib.hid hR12
            clear hat12 hR12
            dsimp only
            go_wp2_with fail
            exact ⟨⟨k + 1, s, a, _, X, had, _, _, by go_num, hl1, hl2, HR12.out⟩, by simp [intOf]; omega⟩
          · subst hw0
            rw [hE] at hat12 ⊢
            have hR12 : RnS W w12 (NowP P w9 w12) W.heap.size b8 l d X had _ s a (.slice oah nh caph) (.slice oaw _ capw) (k + 1) := ⟨hat12.now, HR9.out.f.turn hat12.chg, HRn.out.st, Nat.le_succ_of_le HRn.out.few, HRn.out.short, HRn.out.fits, HRn.out.len, HRn.out.fuse⟩
            have HR12 := Lib.hid hR12
            clear hat12 hR12
            dsimp only
            go_wp2_with fail
            exact ⟨⟨k + 1, s, a, _, X, had, _, _, by go_num, hl1, hl2, HR12.out⟩, by simp [intOf]; omega⟩
          · subst hw0
            have HGl := Lib.hid (And.intro hgo hlen)
            obtain ⟨want, hwant⟩ : ∃ want, rest = want := ⟨_, rfl⟩
            rw [hwant] at HKw hcase
            rcases hcase with ⟨h0, hst', hV'⟩ | ⟨h15, hfu, hdn, hL, hV', hkeep⟩
            · rw [hV'] at hat12
              rw [h0]
              have hf12 := HRS.out.f.turn hat12.chg
              have hkw12 := HKw.out.step (hat12.chg.mono (fun _ _ h => Or.inl h)) (Q := fun j => NowP P w9 w12 j ∨ j = W.heap.size ∨ j = b8) (fun j hj => hj.elim (fun hj => hj.1.elim (fun h => Or.inl (Or.inl h)) Or.inr) (fun h => Or.inl (Or.inr h)))
              obtain ⟨hf13, hc13⟩ := hf12.take hkw12
              have hat13 := hat12.now.aside hc13 (fun j hj e => hf12.p8 (by have e : j = b8 := e; exact e ▸ hj))
              have hR13 : RnS W (w12.setCell ⟨b8, 1, none⟩ (.slice oat m9 ct)) (NowP P w9 w12) W.heap.size b8 l d R.2.1 want [] (s + 1) (1 - a) (.slice oat m9 ct) (.slice none 0 0) (k + 1) :=
                ⟨hat13, hf13, hst', by have := HRn.out.few; omega, by simp, by have := hst'.fits; show _ + 0 ≤ _; omega, HGl.out.2.trans HRn.out.len, by have := HGl.out.1.fuse; have := HRn.out.fuse; omega⟩
              have x1 : w12.cell? ⟨b8, 1, none⟩ = some (.slice oah nh caph) := hf12.x.cell rfl
              have x2 : w12.frozen? ⟨b8, 1, none⟩ = false := hf12.x.free
              have HR13 := Lib.hid hR13
              clear hf12 hkw12 hf13 hc13 hat13 hR13 hat12
              dsimp only
              go_wp2_with fail
              obtain ⟨w13, hw13⟩ : ∃ w13, w12.setCell ⟨b8, 1, none⟩ (.slice oat m9 ct) = w13 := ⟨_, rfl⟩
              rw [hw13] at HR13 ⊢
              clear hw13 x1 x2
              have hrec := wat_records (HR13.out.at'.again (Chg.refl (fun _ => False) w13).drew) (by have h := HR13.out.st.fits; have h2 := sizeB_ge want; rw [framesB_length] at h; have := areaN_le HR13.out.st.idle.le; show want.length ≤ _; omega)
              have HRec := Lib.hid hrec
              have hx13 : w13.drew.cell? ⟨b8, 1, none⟩ = some (.slice oat m9 ct) := HR13.out.f.x.cell rfl
              clear hrec
              refine wp_region_noPanic ?_
              refine wp_region_held_drew (S := (fun w' => w'.cell? ⟨b8, 1, none⟩ = some (.slice oat m9 ct))) (by kernel_rfl) (hx13) (fun hHeld => ?_)
              refine take_list (i := 0) (v := ?_) rfl (by kernel_rfl) (by kernel_rfl) (by kernel_rfl) (fun _ _ _ h => h) (Or.inl ⟨by rfl, fun w hSw => ?_⟩) hHeld ?_
              rotate_left
              · (skip; go_simp)
                try with_reducible rfl
              simp only [Act.put, List.setIfInBounds_toArray, List.set_cons_zero, List.set_cons_succ]
              refine take_list (i := 2) (v := ?_) rfl (by kernel_rfl) (by kernel_rfl) (by kernel_rfl) (fun _ _ _ h => h) (Or.inl ⟨by rfl, fun w hSw => ?_⟩) hHeld ?_
              rotate_left
              · (skip; go_simp)
                try with_reducible rfl
              simp only [Act.put, List.setIfInBounds_toArray, List.set_cons_zero, List.set_cons_succ]
              refine take_list (i := 3) (v := ?_) rfl (by kernel_rfl) (by kernel_rfl) (by kernel_rfl) (fun _ _ _ h => h) (Or.inl ⟨by rfl, fun w hSw => ?_⟩) hHeld ?_
              rotate_left
              · (skip; go_simp)
                try with_reducible rfl
              simp only [Act.put, List.setIfInBounds_toArray, List.set_cons_zero, List.set_cons_succ]
              refine wpAnyH_ready (rs := [1]) (by kernel_rfl) (by simp) (one_list (i := 1) rfl (by rfl) (fun K hK => ?_) AllReadyH.nil)
              go_simp
              refine HRec.out.mono ?_
              rintro e w14 ⟨v14, rfl, ho14, hc14⟩
              have hc14' : Chg (fun _ => False) w13 w14 := (Chg.refl (fun _ => False) w13).drew.trans' hc14
              have hsa := wat_yes ho14 HR13.out.f.kp (hc14'.mono (fun _ _ h => h.elim)) (by have h := HR13.out.st.fits; have h2 := sizeB_ge want; rw [framesB_length] at h; have := areaN_le HR13.out.st.idle.le; show want.length ≤ _; omega) rfl
              have HSa := Lib.hid hsa
              have HC14 := Lib.hid hc14'
              obtain ⟨oa14, cap14, rfl⟩ := own_slice ho14
              clear hsa ho14
              dsimp only
              refine hK _ _ ((hc14.cell hx13 id)) (fun hH2 => ?_)
              try simp only [Act.put, List.setIfInBounds_toArray, List.set_cons_zero, List.set_cons_succ]
              clear hc14 hc14'
              refine wpAnyH_ready (rs := [4]) (by kernel_rfl) (by simp) (one_list (i := 4) rfl (by rfl) (fun K hK => ?_) AllReadyH.nil)
              go_simp
              refine HSa.out.mono ?_
              rintro e w15 ⟨rfl, hc15⟩
              have HR15 := Lib.hid (HR13.out.fresh (HC14.out.trans' hc15))
              dsimp only
              refine hK _ _ ((HR15.out.f.x.cell rfl)) (fun hH3 => ?_)
              try simp only [Act.put, List.setIfInBounds_toArray, List.set_cons_zero, List.set_cons_succ]
              clear hc15
              refine take_list (i := 5) (v := ?_) rfl (by kernel_rfl) (by kernel_rfl) (by kernel_rfl) (fun _ _ _ h => h) (Or.inl ⟨by rfl, fun w hSw => ?_⟩) hH3 ?_
              rotate_left
              · (skip; go_simp)
                try with_reducible rfl
              simp only [Act.put, List.setIfInBounds_toArray, List.set_cons_zero, List.set_cons_succ]
              refine wpAnyH_done (by kernel_rfl) ?_ _
              refine NoPanic.normal ?_
              go_wp2_with fail
              exact ⟨⟨k + 1, (s + 1), (1 - a), _, R.2.1, want, [], _, by go_num, hl1, hl2, HR15.out⟩, by simp [intOf]; omega⟩
            · rw [hV'] at hat12
              rw [h15]
              have hkp2 : ∀ keep, (Blank (R.2.1.crash keep) ∧ had = []) ∨ ∃ s2 a2, s2 ≤ 100 ∧ (Stands (R.2.1.crash keep) had s2 a2 ∨ Stands (R.2.1.crash keep) want s2 a2) := fun keep => Or.inr ((hkeep keep).elim (fun h => ⟨s, a, by have := HRn.out.few; omega, Or.inl h⟩) (fun h => ⟨s + 1, 1 - a, by have := HRn.out.few; omega, Or.inr h⟩))
              have hokl : ({ lvW had s a [] with lost := true } : LV).Ok R.2.1.B.length := by
                have h := HOk1.out
                rw [← hlen] at h
                exact ⟨h.ge, h.le, h.seq, h.area, h.fit, h.used, h.more, h.tail, h.short⟩
              have hfl : R.2.1.fuse ≤ 100 := by have := hgo.fuse; have := HRn.out.fuse; omega
              have hf12 := HRS.out.f.turn hat12.chg
              obtain ⟨P12, hP12⟩ : ∃ P12, NowP P w9 w12 = P12 := ⟨_, rfl⟩
              have hat12' := hat12.now
              rw [hP12] at hf12 hat12'
              have hkw12 : Kp (fun j => P12 j ∨ j = W.heap.size ∨ j = b8) w12 (.slice oat m9 ct) want := HKw.out.step (hat12.chg.mono (fun _ _ h => Or.inl h)) (fun j hj => hj.elim (fun hj => (by rw [← hP12] at hj; exact hj.1.elim (fun h => Or.inl (Or.inl h)) Or.inr)) (fun h => Or.inl (Or.inr h)))
              have hcx : Chg (· = b8) w12 (w12.setCell ⟨b8, 2, none⟩ (.slice oat m9 ct)) := Chg.setCell (S := (· = b8)) (Chg.refl _ _) (fun _ => rfl) _
              have hat13 := hat12'.aside hcx (fun j hj e => hf12.p8 (by have e : j = b8 := e; exact e ▸ hj))
              have hx13 : Arr (w12.setCell ⟨b8, 2, none⟩ (.slice oat m9 ct)) b8 65 (runC d (.slice oah nh caph) (.slice oat m9 ct)) := hf12.x.set 2 (.slice oat m9 ct)
              have hr13 : Arr (w12.setCell ⟨b8, 2, none⟩ (.slice oat m9 ct)) W.heap.size 65 runZ := hcx.at hf12.r (fun e => hf12.ne e.symm)
              have x2 : w12.cell? ⟨b8, 2, none⟩ = some (.slice none 0 0) := hf12.x.cell rfl
              have x3 : w12.frozen? ⟨b8, 2, none⟩ = false := hf12.x.free
              have hw13 : Chg (fun _ => False) W (w12.setCell ⟨b8, 2, none⟩ (.slice oat m9 ct)) := hf12.chg.new hcx (fun i hi => by have hi : i = b8 := hi; rw [hi]; exact hf12.n8)
              have hkh13 : Kp (fun j => P12 j ∨ j = W.heap.size) (w12.setCell ⟨b8, 2, none⟩ (.slice oat m9 ct)) (.slice oah nh caph) had := hf12.kp.step (hcx.mono (fun _ _ e => Or.inr (Or.inr (Or.inl e)))) (fun j hj => Or.inl (hj.imp id Or.inl))
              have hkn13 : Kp (fun j => P12 j ∨ j = W.heap.size) (w12.setCell ⟨b8, 2, none⟩ (.slice oat m9 ct)) (.slice oat m9 ct) want := hkw12.step (hcx.mono (fun _ _ e => Or.inr (Or.inr e))) (fun j hj => Or.inl (hj.imp id Or.inl))
              have HF := Lib.hid (And.intro hf12.new (And.intro hf12.p4 (And.intro hf12.p8 hf12.ne)))
              have H8 := Lib.hid hf12.n8
              clear hf12 hat12' hkw12 hcx hat12 hP12
              dsimp only
              go_wp2_with fail
              obtain ⟨w13, hw13e⟩ : ∃ w13, w12.setCell ⟨b8, 2, none⟩ (.slice oat m9 ct) = w13 := ⟨_, rfl⟩
              rw [hw13e] at hat13 hx13 hr13 hw13 hkh13 hkn13 ⊢
              have hd : Chg (fun _ => False) w13 w13.drew := (Chg.refl _ _).drew
              have HA := Lib.hid (hat13.again hd)
              have HX := Lib.hid (show Arr w13.drew b8 65 (runC d (.slice oah nh caph) (.slice oat m9 ct)) from hd.at hx13 id)
              have HRz := Lib.hid (show Arr w13.drew W.heap.size 65 runZ from hd.at hr13 id)
              have HW := Lib.hid (hw13.trans' hd)
              have HKh := Lib.hid (hkh13.fresh hd)
              have HKn := Lib.hid (hkn13.fresh hd)
              have hup := dat_up HA.out.disk
              rw [hdn, show (!true) = false from rfl] at hup
              have HUp := Lib.hid hup
              have HCs := Lib.hid (And.intro hokl (And.intro hfl (And.intro hL hkp2)))
              have hhl : had.length ≤ 131008 := HOk1.out.small.2.2.1
              have HHl := Lib.hid hhl
              clear hw13e x2 x3 hat13 hx13 hr13 hw13 hkh13 hkn13 hd hup hokl hfl hL hkp2 hdn hkeep hfu hhl
              refine wp_region_noPanic ?_
              refine wp_region_held_drew (S := (fun w' => w'.rangeAt b8 0 (runC d (.slice oah nh caph) (.slice oat m9 ct)) ∧ w'.cell? ⟨b8, 1, none⟩ = some (.slice oah nh caph))) (by kernel_rfl) (⟨HX.out.range, HX.out.cell rfl⟩) (fun hHeld => ?_)
              refine take_list (i := 0) rfl (by kernel_rfl) (by kernel_rfl) (by kernel_rfl) (fun _ _ _ h => h) ((yieldsIf_load_mid (by rfl) _ _ rfl _ _ rfl (runC d (.slice oah nh caph) (.slice oat m9 ct)) _ (fun w h => h.1) Try.underlying65 rfl size_run)) hHeld ?_
              simp only [Act.put, List.setIfInBounds_toArray, List.set_cons_zero, List.set_cons_succ]
              refine take_list (i := 1) (v := ?_) rfl (by kernel_rfl) (by kernel_rfl) (by kernel_rfl) (fun _ _ _ h => h) (Or.inl ⟨by rfl, fun w hSw => ?_⟩) hHeld ?_
              rotate_left
              · (skip; go_simp)
                try with_reducible rfl
              simp only [Act.put, List.setIfInBounds_toArray, List.set_cons_zero, List.set_cons_succ]
              refine wpAnyH_ready (rs := [2]) (by kernel_rfl) (by simp) (one_list (i := 2) rfl (by rfl) (fun K hK => ?_) AllReadyH.nil)
              go_simp
              refine HUp.out.mono ?_
              rintro e w14 ⟨rfl, rfl⟩
              dsimp only
              refine hK _ _ (⟨HX.out.range, HX.out.cell rfl⟩) (fun hH2 => ?_)
              try simp only [Act.put, List.setIfInBounds_toArray, List.set_cons_zero, List.set_cons_succ]
              refine take_list (i := 3) (v := ?_) rfl (by kernel_rfl) (by kernel_rfl) (by kernel_rfl) (fun _ _ _ h => h) (Or.inl ⟨by rfl, fun w hSw => ?_⟩) hH2 ?_
              rotate_left
              · (obtain ⟨hSw1, hSw2⟩ := hSw; go_simp)
                try with_reducible rfl
              simp only [Act.put, List.setIfInBounds_toArray, List.set_cons_zero, List.set_cons_succ]
              refine take_list (i := 4) (v := ?_) rfl (by kernel_rfl) (by kernel_rfl) (by kernel_rfl) (fun _ _ _ h => h) (Or.inl ⟨by rfl, fun w hSw => ?_⟩) hH2 ?_
              rotate_left
              · (obtain ⟨hSw1, hSw2⟩ := hSw; go_simp)
                try with_reducible rfl
              simp only [Act.put, List.setIfInBounds_toArray, List.set_cons_zero, List.set_cons_succ]
              refine take_list (i := 5) (v := ?_) rfl (by kernel_rfl) (by kernel_rfl) (by kernel_rfl) (fun _ _ _ h => h) (Or.inl ⟨by rfl, fun w hSw => ?_⟩) hH2 ?_
              rotate_left
              · (obtain ⟨hSw1, hSw2⟩ := hSw; go_simp)
                try with_reducible rfl
              simp only [Act.put, List.setIfInBounds_toArray, List.set_cons_zero, List.set_cons_succ]
              refine take_list (i := 7) (v := ?_) rfl (by kernel_rfl) (by kernel_rfl) (by kernel_rfl) (fun _ _ _ h => h) (Or.inl ⟨by rfl, fun w hSw => ?_⟩) hH2 ?_
              rotate_left
              · (obtain ⟨hSw1, hSw2⟩ := hSw; go_simp)
                try with_reducible rfl
              simp only [Act.put, List.setIfInBounds_toArray, List.set_cons_zero, List.set_cons_succ]
              refine take_list (i := 8) (v := ?_) rfl (by kernel_rfl) (by kernel_rfl) (by kernel_rfl) (fun _ _ _ h => h) (Or.inl ⟨by rfl, fun w hSw => ?_⟩) hH2 ?_
              rotate_left
              · (obtain ⟨hSw1, hSw2⟩ := hSw; go_simp)
                try with_reducible rfl
              simp only [Act.put, List.setIfInBounds_toArray, List.set_cons_zero, List.set_cons_succ]
              have HRec := Lib.hid (wat_records HA.out (by show had.length ≤ _; exact HHl.out))
              refine wpAnyH_ready (rs := [6]) (by kernel_rfl) (by simp) (one_list (i := 6) rfl (by rfl) (fun K hK => ?_) AllReadyH.nil)
              go_simp
              refine HRec.out.mono ?_
              rintro e w15 ⟨v15, rfl, ho15, hc15⟩
              have HSa := Lib.hid (wat_yes ho15 HKh.out (hc15.mono (fun _ _ h => h.elim)) (by show had.length ≤ _; have := HHl.out; omega) rfl)
              have HC15 := Lib.hid hc15
              obtain ⟨oa15, cap15, rfl⟩ := own_slice ho15
              clear ho15
              dsimp only
              refine hK _ _ (⟨(HX.out.kept hc15 id).range, (HX.out.kept hc15 id).cell rfl⟩) (fun hH3 => ?_)
              try simp only [Act.put, List.setIfInBounds_toArray, List.set_cons_zero, List.set_cons_succ]
              clear hc15
              refine wpAnyH_ready (rs := [9]) (by kernel_rfl) (by simp) (one_list (i := 9) rfl (by rfl) (fun K hK => ?_) AllReadyH.nil)
              go_simp
              refine HSa.out.mono ?_
              rintro e w16 ⟨rfl, hc16⟩
              have HC16 := Lib.hid (HC15.out.trans' hc16)
              clear hc16
              dsimp only
              refine hK _ _ (⟨(HX.out.kept HC16.out id).range, (HX.out.kept HC16.out id).cell rfl⟩) (fun hH4 => ?_)
              try simp only [Act.put, List.setIfInBounds_toArray, List.set_cons_zero, List.set_cons_succ]
              refine take_list (i := 10) (v := ?_) rfl (by kernel_rfl) (by kernel_rfl) (by kernel_rfl) (fun _ _ _ h => h) (Or.inl ⟨by rfl, fun w hSw => ?_⟩) hH4 ?_
              rotate_left
              · (obtain ⟨hSw1, hSw2⟩ := hSw; go_simp)
                try with_reducible rfl
              simp only [Act.put, List.setIfInBounds_toArray, List.set_cons_zero, List.set_cons_succ]
              refine take_list (i := 11) (v := ?_) rfl (by kernel_rfl) (by kernel_rfl) (by kernel_rfl) (fun _ _ _ h => h) (Or.inl ⟨by rfl, fun w hSw => ?_⟩) hH4 ?_
              rotate_left
              · (obtain ⟨hSw1, hSw2⟩ := hSw; go_simp)
                try with_reducible rfl
              simp only [Act.put, List.setIfInBounds_toArray, List.set_cons_zero, List.set_cons_succ]
              refine take_list (i := 12) (v := ?_) rfl (by kernel_rfl) (by kernel_rfl) (by kernel_rfl) (fun _ _ _ h => h) (Or.inl ⟨by rfl, fun w hSw => ?_⟩) hH4 ?_
              rotate_left
              · (obtain ⟨hSw1, hSw2⟩ := hSw; go_simp)
                try with_reducible rfl
              simp only [Act.put, List.setIfInBounds_toArray, List.set_cons_zero, List.set_cons_succ]
              have hsy := wat_sync (HA.out.again HC16.out) HCs.out.1 (by have := HCs.out.2.1; omega) (fun j => by have := HCs.out.2.2.1 j; omega)
              rw [show syncF R.2.1 ({ lvW had s a [] with lost := true } : LV) = (15, R.2.1, ({ lvW had s a [] with lost := true } : LV)) by unfold syncF; rw [if_pos rfl]] at hsy
              have HSy := Lib.hid hsy
              clear hsy
              refine wpAnyH_ready (rs := [13]) (by kernel_rfl) (by simp) (one_list (i := 13) rfl (by rfl) (fun K hK => ?_) AllReadyH.nil)
              go_simp
              refine HSy.out.mono ?_
              rintro e w17 ⟨rfl, hat17⟩
              have HA17 := Lib.hid hat17
              dsimp only
              have h17 : Arr w17 b8 65 (runC d (.slice oah nh caph) (.slice oat m9 ct)) := (HX.out.kept HC16.out id).kept hat17.chg HF.out.2.2.1
              refine hK _ _ (⟨h17.range, h17.cell rfl⟩) (fun hH5 => ?_)
              try simp only [Act.put, List.setIfInBounds_toArray, List.set_cons_zero, List.set_cons_succ]
              refine take_list (i := 14) (v := ?_) rfl (by kernel_rfl) (by kernel_rfl) (by kernel_rfl) (fun _ _ _ h => h) (Or.inl ⟨by rfl, fun w hSw => ?_⟩) hH5 ?_
              rotate_left
              · (obtain ⟨hSw1, hSw2⟩ := hSw; go_simp)
                try with_reducible rfl
              simp only [Act.put, List.setIfInBounds_toArray, List.set_cons_zero, List.set_cons_succ]
              refine take_list (i := 15) (v := ?_) rfl (by kernel_rfl) (by kernel_rfl) (by kernel_rfl) (fun _ _ _ h => h) (Or.inl ⟨by rfl, fun w hSw => ?_⟩) hH5 ?_
              rotate_left
              · (obtain ⟨hSw1, hSw2⟩ := hSw; go_simp)
                try with_reducible rfl
              simp only [Act.put, List.setIfInBounds_toArray, List.set_cons_zero, List.set_cons_succ]
              refine take_list (i := 16) (v := ?_) rfl (by kernel_rfl) (by kernel_rfl) (by kernel_rfl) (fun _ _ _ h => h) (Or.inl ⟨by rfl, fun w hSw => ?_⟩) hH5 ?_
              rotate_left
              · (obtain ⟨hSw1, hSw2⟩ := hSw; go_simp)
                try with_reducible rfl
              simp only [Act.put, List.setIfInBounds_toArray, List.set_cons_zero, List.set_cons_succ]
              refine take_list (i := 17) (v := ?_) rfl (by kernel_rfl) (by kernel_rfl) (by kernel_rfl) (fun _ _ _ h => h) (Or.inl ⟨by rfl, fun w hSw => ?_⟩) hH5 ?_
              rotate_left
              · (obtain ⟨hSw1, hSw2⟩ := hSw; go_simp)
                try with_reducible rfl
              simp only [Act.put, List.setIfInBounds_toArray, List.set_cons_zero, List.set_cons_succ]
              have had' := wat_add hat17 HCs.out.1 [] (by simp)
              rw [show addF R.2.1.B.length ({ lvW had s a [] with lost := true } : LV) [] = (15, ({ lvW had s a [] with lost := true } : LV)) by unfold addF; rw [if_pos rfl], show strV [] = .string ⟨#[]⟩ from rfl] at had'
              have HAd := Lib.hid had'
              clear had' h17 hat17
              refine wpAnyH_ready (rs := [18]) (by kernel_rfl) (by simp) (one_list (i := 18) rfl (by rfl) (fun K hK => ?_) AllReadyH.nil)
              go_simp
              refine HAd.out.mono ?_
              rintro e w18 ⟨rfl, hat18⟩
              have HA18 := Lib.hid hat18
              dsimp only
              have h18 : Arr w18 b8 65 (runC d (.slice oah nh caph) (.slice oat m9 ct)) := (HX.out.kept HC16.out id).kept hat18.chg HF.out.2.2.1
              have g18 : Arr w18 W.heap.size 65 runZ := (HRz.out.kept HC16.out id).kept hat18.chg HF.out.2.1
              refine hK _ _ (⟨h18.range, h18.cell rfl⟩) (fun hH6 => ?_)
              try simp only [Act.put, List.setIfInBounds_toArray, List.set_cons_zero, List.set_cons_succ]
              refine take_list (i := 19) (v := ?_) rfl (by kernel_rfl) (by kernel_rfl) (by kernel_rfl) (fun _ _ _ h => h) (Or.inl ⟨by rfl, fun w hSw => ?_⟩) hH6 ?_
              rotate_left
              · (obtain ⟨hSw1, hSw2⟩ := hSw; go_simp)
                try with_reducible rfl
              simp only [Act.put, List.setIfInBounds_toArray, List.set_cons_zero, List.set_cons_succ]
              refine take_list (i := 20) (v := ?_) rfl (by kernel_rfl) (by kernel_rfl) (by kernel_rfl) (fun _ _ _ h => h) (Or.inl ⟨by rfl, fun w hSw => ?_⟩) hH6 ?_
              rotate_left
              · (obtain ⟨hSw1, hSw2⟩ := hSw; go_simp)
                try with_reducible rfl
              simp only [Act.put, List.setIfInBounds_toArray, List.set_cons_zero, List.set_cons_succ]
              have hs4 := g18.store (vs := runC d (.slice oah nh caph) (.slice oat m9 ct)) rfl
              have t4 := g18.there
              refine wpAnyH_ready (rs := [21]) (by kernel_rfl) (by simp) (one_list (i := 21) rfl (by rfl) (fun K hK => ?_) AllReadyH.nil)
              refine wp_store_mid 65 _ _ rfl W.heap.size 0 (runC d (.slice oah nh caph) (.slice oat m9 ct)).toArray rfl rfl t4 size_run (all_oneCell_toArray (by intro v hv; simp [runC] at hv; rcases hv with rfl | rfl | rfl <;> rfl)) ?_
              rw [List.toList_toArray]
              obtain ⟨w19, hw19⟩ : ∃ w19, w18.setCells W.heap.size 0 (runC d (.slice oah nh caph) (.slice oat m9 ct)) = w19 := ⟨_, rfl⟩
              rw [hw19] at hs4 ⊢
              have h19 : Arr w19 b8 65 (runC d (.slice oah nh caph) (.slice oat m9 ct)) := hs4.chg.at h18 HF.out.2.2.2
              refine hK _ _ ⟨h19.range, h19.cell rfl⟩ (fun hH7 => ?_)
              try simp only [Act.put, List.setIfInBounds_toArray, List.set_cons_zero, List.set_cons_succ]
              refine take_list (i := 22) (v := ?_) rfl (by kernel_rfl) (by kernel_rfl) (by kernel_rfl) (fun _ _ _ h => h) (Or.inl ⟨by rfl, fun w hSw => ?_⟩) hH7 ?_
              rotate_left
              · (obtain ⟨hSw1, hSw2⟩ := hSw; go_simp)
                try with_reducible rfl
              simp only [Act.put, List.setIfInBounds_toArray, List.set_cons_zero, List.set_cons_succ]
              refine wpAnyH_done (by kernel_rfl) ?_ _
              refine NoPanic.normal ?_
              go_wp2_with fail
              refine bodyPost_ret (results2c rfl _ rfl (run_loadVar_mid (P := Try.prog) _ W.heap.size 0 65 (runC d (.slice oah nh caph) (.slice oat m9 ct)) _ hs4.arr.range Try.underlying65 rfl size_run)) rfl ?_
              exact run_end HA18.out hs4.chg HF.out.2.1 (HRz.out.kept HC16.out id).lt (Nat.le_refl _) HF.out.1 (HW.out.trans' HC16.out) (HKh.out.fresh HC16.out) (HKn.out.fresh HC16.out) ⟨fun j => by have := HCs.out.2.2.1 j; omega, HCs.out.2.2.2⟩ (HGl.out.2.trans HRn.out.len)
    · rcases Nat.lt_or_ge k acts.length with hl1 | hl1
      · have j1 : (k : Int) < (acts.length : Int) := by omega
        have j2 : ¬ (k : Int) < 40 := by omega
        have x1 : wr.cell? ⟨b8, 1, none⟩ = some (.slice oah nh caph) := HRn.out.f.x.cell rfl
        have x2 : wr.cell? ⟨b8, 2, none⟩ = some (.slice none 0 0) := HRn.out.f.x.cell rfl
        have x3 : wr.frozen? ⟨b8, 2, none⟩ = false := HRn.out.f.x.free
        have hcx : Chg (· = b8) wr (wr.setCell ⟨b8, 2, none⟩ (.slice oah nh caph)) := Chg.setCell (S := (· = b8)) (Chg.refl _ _) (fun _ => rfl) _
        have hat13 := HRn.out.at'.aside hcx (fun j hj e => HRn.out.f.p8 (by have e : j = b8 := e; exact e ▸ hj))
        have hx13 : Arr (wr.setCell ⟨b8, 2, none⟩ (.slice oah nh caph)) b8 65 (runC d (.slice oah nh caph) (.slice oah nh caph)) := HRn.out.f.x.set 2 (.slice oah nh caph)
        have hr13 : Arr (wr.setCell ⟨b8, 2, none⟩ (.slice oah nh caph)) W.heap.size 65 runZ := hcx.at HRn.out.f.r (fun e => HRn.out.f.ne e.symm)
        have hw13 : Chg (fun _ => False) W (wr.setCell ⟨b8, 2, none⟩ (.slice oah nh caph)) := HRn.out.f.chg.new hcx (fun i hi => by have hi : i = b8 := hi; rw [hi]; exact HRn.out.f.n8)
        have hkh13 : Kp (fun j => P j ∨ j = W.heap.size) (wr.setCell ⟨b8, 2, none⟩ (.slice oah nh caph)) (.slice oah nh caph) had := HRn.out.f.kp.step (hcx.mono (fun _ _ e => Or.inr (Or.inr (Or.inl e)))) (fun j hj => Or.inl (hj.imp id Or.inl))
        obtain ⟨w13, hw13e⟩ : ∃ w13, wr.setCell ⟨b8, 2, none⟩ (.slice oah nh caph) = w13 := ⟨_, rfl⟩
        rw [hw13e] at hat13 hx13 hr13 hw13 hkh13
        have HA := Lib.hid hat13
        have HX := Lib.hid hx13
        have HRz := Lib.hid hr13
        have HW := Lib.hid hw13
        have HKh := Lib.hid hkh13
        have HEq := Lib.hid hw13e
        clear hcx hat13 hx13 hr13 hw13 hkh13 hw13e
        go_wp2_with (first
          | (rw [HEq.out]; refine wpList_load_mid rfl 65 _ rfl b8 0 rfl (runC d (.slice oah nh caph) (.slice oah nh caph)) _ HX.out.range Try.underlying65 rfl size_run ?_)
          | (refine wpList_store_mid rfl 65 _ _ rfl W.heap.size 0 (runC d (.slice oah nh caph) (.slice oah nh caph)).toArray rfl rfl HRz.out.there size_run (all_oneCell_toArray (by intro v hv; simp [runC] at hv; rcases hv with rfl | rfl | rfl <;> rfl)) ?_; rw [List.toList_toArray]))
        have hs4 := HRz.out.store (vs := runC d (.slice oah nh caph) (.slice oah nh caph)) rfl
        refine bodyPost_ret (results2c rfl _ rfl (run_loadVar_mid (P := Try.prog) _ W.heap.size 0 65 (runC d (.slice oah nh caph) (.slice oah nh caph)) _ hs4.arr.range Try.underlying65 rfl size_run)) rfl ?_
        exact run_end HA.out hs4.chg HRn.out.f.p4 HRz.out.lt (Nat.le_refl _) HRn.out.f.new HW.out HKh.out HKh.out ⟨fun j => by rw [HRn.out.st.idle.L]; simp, fun keep => Or.inr ⟨s, a, by have := HRn.out.few; omega, Or.inl (HRn.out.st.crash keep)⟩⟩ HRn.out.len
      · have j1 : ¬ (k : Int) < (acts.length : Int) := by omega
        have x1 : wr.cell? ⟨b8, 1, none⟩ = some (.slice oah nh caph) := HRn.out.f.x.cell rfl
        have x2 : wr.cell? ⟨b8, 2, none⟩ = some (.slice none 0 0) := HRn.out.f.x.cell rfl
        have x3 : wr.frozen? ⟨b8, 2, none⟩ = false := HRn.out.f.x.free
        have hcx : Chg (· = b8) wr (wr.setCell ⟨b8, 2, none⟩ (.slice oah nh caph)) := Chg.setCell (S := (· = b8)) (Chg.refl _ _) (fun _ => rfl) _
        have hat13 := HRn.out.at'.aside hcx (fun j hj e => HRn.out.f.p8 (by have e : j = b8 := e; exact e ▸ hj))
        have hx13 : Arr (wr.setCell ⟨b8, 2, none⟩ (.slice oah nh caph)) b8 65 (runC d (.slice oah nh caph) (.slice oah nh caph)) := HRn.out.f.x.set 2 (.slice oah nh caph)
        have hr13 : Arr (wr.setCell ⟨b8, 2, none⟩ (.slice oah nh caph)) W.heap.size 65 runZ := hcx.at HRn.out.f.r (fun e => HRn.out.f.ne e.symm)
        have hw13 : Chg (fun _ => False) W (wr.setCell ⟨b8, 2, none⟩ (.slice oah nh caph)) := HRn.out.f.chg.new hcx (fun i hi => by have hi : i = b8 := hi; rw [hi]; exact HRn.out.f.n8)
        have hkh13 : Kp (fun j => P j ∨ j = W.heap.size) (wr.setCell ⟨b8, 2, none⟩ (.slice oah nh caph)) (.slice oah nh caph) had := HRn.out.f.kp.step (hcx.mono (fun _ _ e => Or.inr (Or.inr (Or.inl e)))) (fun j hj => Or.inl (hj.imp id Or.inl))
        obtain ⟨w13, hw13e⟩ : ∃ w13, wr.setCell ⟨b8, 2, none⟩ (.slice oah nh caph) = w13 := ⟨_, rfl⟩
        rw [hw13e] at hat13 hx13 hr13 hw13 hkh13
        have HA := Lib.hid hat13
        have HX := Lib.hid hx13
        have HRz := Lib.hid hr13
        have HW := Lib.hid hw13
        have HKh := Lib.hid hkh13
        have HEq := Lib.hid hw13e
        clear hcx hat13 hx13 hr13 hw13 hkh13 hw13e
        go_wp2_with (first
          | (rw [HEq.out]; refine wpList_load_mid rfl 65 _ rfl b8 0 rfl (runC d (.slice oah nh caph) (.slice oah nh caph)) _ HX.out.range Try.underlying65 rfl size_run ?_)
          | (refine wpList_store_mid rfl 65 _ _ rfl W.heap.size 0 (runC d (.slice oah nh caph) (.slice oah nh caph)).toArray rfl rfl HRz.out.there size_run (all_oneCell_toArray (by intro v hv; simp [runC] at hv; rcases hv with rfl | rfl | rfl <;> rfl)) ?_; rw [List.toList_toArray]))
        have hs4 := HRz.out.store (vs := runC d (.slice oah nh caph) (.slice oah nh caph)) rfl
        refine bodyPost_ret (results2c rfl _ rfl (run_loadVar_mid (P := Try.prog) _ W.heap.size 0 65 (runC d (.slice oah nh caph) (.slice oah nh caph)) _ hs4.arr.range Try.underlying65 rfl size_run)) rfl ?_
        exact run_end HA.out hs4.chg HRn.out.f.p4 HRz.out.lt (Nat.le_refl _) HRn.out.f.new HW.out HKh.out HKh.out ⟨fun j => by rw [HRn.out.st.idle.L]; simp, fun keep => Or.inr ⟨s, a, by have := HRn.out.few; omega, Or.inl (HRn.out.st.crash keep)⟩⟩ HRn.out.len
  · have b8 := hd4.chg.at HB8.out (fun h => by have := (HPa.out _ h).2; omega)
    have b4 : Arr w4 W.heap.size 65 runZ := (HC02.out.trans hd4.chg (fun k hk hPk => by have := (HPa.out k hPk).1; omega)).at HB4.out id
    have hup := dat_up (hd4.fresh (Chg.refl _ _).drew)
    rw [hdn, show (!true) = false from rfl] at hup
    have HU := Lib.hid hup
    have HB8 := Lib.hid b8
    have HB4 := Lib.hid b4
    have HX := Lib.hid (And.intro hd4 (And.intro (hlen.trans H3.out.2) (And.intro hL hcr)))
    clear hd4 hfu hdn hlen hL hcr b8 b4 hup
    dsimp only
    go_wp2_with fail
    refine wp_region_noPanic ?_
    refine wp_region_held_drew (S := (fun w' => w'.rangeAt w1.heap.size 0 (runC d (.slice none 0 0) (.slice none 0 0)))) (by kernel_rfl) (Arr.range ((Chg.refl (fun _ => False) w4).drew.at HB8.out id : Arr w4.drew w1.heap.size 65 (runC d (.slice none 0 0) (.slice none 0 0)))) (fun hHeld => ?_)
    refine take_list (i := 0) rfl (by kernel_rfl) (by kernel_rfl) (by kernel_rfl) (fun _ _ _ h => h) ((yieldsIf_load_mid (by rfl) _ _ rfl _ _ rfl (runC d (.slice none 0 0) (.slice none 0 0)) _ (fun w h => h) Try.underlying65 rfl size_run)) hHeld ?_
    simp only [Act.put, List.setIfInBounds_toArray, List.set_cons_zero, List.set_cons_succ]
    refine take_list (i := 1) (v := ?_) rfl (by kernel_rfl) (by kernel_rfl) (by kernel_rfl) (fun _ _ _ h => h) (Or.inl ⟨by rfl, fun w hSw => ?_⟩) hHeld ?_
    rotate_left
    · (skip; go_simp)
      try with_reducible rfl
    simp only [Act.put, List.setIfInBounds_toArray, List.set_cons_zero, List.set_cons_succ]
    refine take_list (i := 2) (v := ?_) rfl (by kernel_rfl) (by kernel_rfl) (by kernel_rfl) (fun _ _ _ h => h) (Or.inl ⟨by rfl, fun w hSw => ?_⟩) hHeld ?_
    rotate_left
    · (skip; go_simp)
      try with_reducible rfl
    simp only [Act.put, List.setIfInBounds_toArray, List.set_cons_zero, List.set_cons_succ]
    refine take_list (i := 3) (v := ?_) rfl (by kernel_rfl) (by kernel_rfl) (by kernel_rfl) (fun _ _ _ h => h) (Or.inl ⟨by rfl, fun w hSw => ?_⟩) hHeld ?_
    rotate_left
    · (skip; go_simp)
      try with_reducible rfl
    simp only [Act.put, List.setIfInBounds_toArray, List.set_cons_zero, List.set_cons_succ]
    refine take_list (i := 4) (v := ?_) rfl (by kernel_rfl) (by kernel_rfl) (by kernel_rfl) (fun _ _ _ h => h) (Or.inl ⟨by rfl, fun w hSw => ?_⟩) hHeld ?_
    rotate_left
    · (skip; go_simp)
      try with_reducible rfl
    simp only [Act.put, List.setIfInBounds_toArray, List.set_cons_zero, List.set_cons_succ]
    refine take_list (i := 5) (v := ?_) rfl (by kernel_rfl) (by kernel_rfl) (by kernel_rfl) (fun _ _ _ h => h) (Or.inl ⟨by rfl, fun w hSw => ?_⟩) hHeld ?_
    rotate_left
    · (skip; go_simp)
      try with_reducible rfl
    simp only [Act.put, List.setIfInBounds_toArray, List.set_cons_zero, List.set_cons_succ]
    refine take_list (i := 6) (v := ?_) rfl (by kernel_rfl) (by kernel_rfl) (by kernel_rfl) (fun _ _ _ h => h) (Or.inl ⟨by rfl, fun w hSw => ?_⟩) hHeld ?_
    rotate_left
    · (skip; go_simp)
      try with_reducible rfl
    simp only [Act.put, List.setIfInBounds_toArray, List.set_cons_zero, List.set_cons_succ]
    refine take_list (i := 7) (v := ?_) rfl (by kernel_rfl) (by kernel_rfl) (by kernel_rfl) (fun _ _ _ h => h) (Or.inl ⟨by rfl, fun w hSw => ?_⟩) hHeld ?_
    rotate_left
    · (skip; go_simp)
      try with_reducible rfl
    simp only [Act.put, List.setIfInBounds_toArray, List.set_cons_zero, List.set_cons_succ]
    refine take_list (i := 8) (v := ?_) rfl (by kernel_rfl) (by kernel_rfl) (by kernel_rfl) (fun _ _ _ h => h) (Or.inl ⟨by rfl, fun w hSw => ?_⟩) hHeld ?_
    rotate_left
    · (skip; go_simp)
      try with_reducible rfl
    simp only [Act.put, List.setIfInBounds_toArray, List.set_cons_zero, List.set_cons_succ]
    refine wpAnyH_ready (rs := [9]) (by kernel_rfl) (by simp) (one_list (i := 9) rfl (by rfl) (fun K hK => ?_) AllReadyH.nil)
    go_simp
    refine HU.out.mono ?_
    rintro e w5 ⟨rfl, rfl⟩
    dsimp only
    refine hK _ _ ((Arr.range ((Chg.refl (fun _ => False) w4).drew.at HB8.out id : Arr w4.drew w1.heap.size 65 (runC d (.slice none 0 0) (.slice none 0 0))))) (fun hH2 => ?_)
    try simp only [Act.put, List.setIfInBounds_toArray, List.set_cons_zero, List.set_cons_succ]
    refine take_list (i := 10) (v := ?_) rfl (by kernel_rfl) (by kernel_rfl) (by kernel_rfl) (fun _ _ _ h => h) (Or.inl ⟨by rfl, fun w hSw => ?_⟩) hH2 ?_
    rotate_left
    · (skip; go_simp)
      try with_reducible rfl
    simp only [Act.put, List.setIfInBounds_toArray, List.set_cons_zero, List.set_cons_succ]
    refine take_list (i := 11) (v := ?_) rfl (by kernel_rfl) (by kernel_rfl) (by kernel_rfl) (fun _ _ _ h => h) (Or.inl ⟨by rfl, fun w hSw => ?_⟩) hH2 ?_
    rotate_left
    · (skip; go_simp)
      try with_reducible rfl
    simp only [Act.put, List.setIfInBounds_toArray, List.set_cons_zero, List.set_cons_succ]
    have g4 : Arr w4.drew W.heap.size 65 runZ := (Chg.refl (fun _ => False) w4).drew.at HB4.out id
    have hne : w1.heap.size ≠ W.heap.size := by have := HPl.out; have := HB40.out; omega
    have hs4 := g4.store (vs := runC d (.slice none 0 0) (.slice none 0 0)) rfl
    have t4 := g4.there
    refine wpAnyH_ready (rs := [12]) (by kernel_rfl) (by simp) (one_list (i := 12) rfl (by rfl) (fun K hK => ?_) AllReadyH.nil)
    refine wp_store_mid 65 _ _ rfl W.heap.size 0 (runC d (.slice none 0 0) (.slice none 0 0)).toArray rfl rfl t4 size_run (all_oneCell_toArray (by intro v hv; simp [runC] at hv; rcases hv with rfl | rfl <;> rfl)) ?_
    rw [List.toList_toArray]
    obtain ⟨w6, hw6⟩ : ∃ w6, w4.drew.setCells W.heap.size 0 (runC d (.slice none 0 0) (.slice none 0 0)) = w6 := ⟨_, rfl⟩
    rw [hw6] at hs4 ⊢
    have g8 : Arr w6 w1.heap.size 65 (runC d (.slice none 0 0) (.slice none 0 0)) := hs4.chg.at ((Chg.refl (fun _ => False) w4).drew.at HB8.out id) hne
    refine hK _ _ g8.range (fun hH3 => ?_)
    try simp only [Act.put, List.setIfInBounds_toArray, List.set_cons_zero, List.set_cons_succ]
    refine take_list (i := 13) (v := ?_) rfl (by kernel_rfl) (by kernel_rfl) (by kernel_rfl) (fun _ _ _ h => h) (Or.inl ⟨by rfl, fun w hSw => ?_⟩) hH3 ?_
    rotate_left
    · (skip; go_simp)
      try with_reducible rfl
    simp only [Act.put, List.setIfInBounds_toArray, List.set_cons_zero, List.set_cons_succ]
    refine wpAnyH_done (by kernel_rfl) ?_ _
    refine NoPanic.normal ?_
    go_wp2_with fail
    refine bodyPost_ret (results2c rfl _ rfl (run_loadVar_mid (P := Try.prog) _ W.heap.size 0 65 (runC d (.slice none 0 0) (.slice none 0 0)) _ hs4.arr.range Try.underlying65 rfl size_run)) rfl ?_
    have hc6 : Chg (fun k => k = W.heap.size) w4 w6 := ((Chg.refl (fun _ => False) w4).drew.mono (fun _ _ h => h.elim)).trans' hs4.chg
    have hcW : Chg (fun _ => False) W w6 := (chg_more HC2.out HX.out.1.chg (fun k hk => Or.inr (by have := (HPa.out k hk).1; have := HC0.out.size; omega))).new hc6 (fun k hk => by have hk : k = W.heap.size := hk; omega)
    obtain ⟨⟨Fd, j1, j2⟩, j3⟩ := HX.out.1
    have j4 : ∀ k, Fd k → W.heap.size < k := fun k hk => (j2 k hk).elim (fun h => by have := (HPa.out k h).1; have := HB40.out; omega) (fun h => by have := HC02.out.size; have := HB40.out; omega)
    refine ⟨⟨fun k => Fd k, d, X, [], [], .slice none 0 0, .slice none 0 0, rfl, ⟨⟨Fd, j1.kept hc6 (fun k hk e => by have e : k = W.heap.size := e; have := j4 k hk; omega), fun k hk => Or.inl hk⟩, Chg.refl _ _⟩, Kp.nil _ 0 rfl, Kp.nil _ 0 rfl, fun k hk => Nat.le_of_lt (j4 k hk), ⟨fun j => by have := HX.out.2.2.1 j; omega, fun keep => (HX.out.2.2.2 keep).elim (fun h => Or.inl ⟨h, rfl⟩) (fun h => Or.inr ⟨1, 0, by omega, Or.inl h⟩)⟩, HX.out.2.1, hcW⟩⟩

end Go.Proofs.Ytcfgcllphfooaaa.wals
end

/-
  GENERAL: regions that are walked by hand: an operation that its guard leaves out.
-/
section
set_option linter.unusedSimpArgs false
set_option linter.unusedVariables false
namespace Go.Proofs.Ytcfgcllphfooaaa.disks
open Go.RowKit Go.My

theorem one_skip {P : Program} {md : Region.Mode} {l : List Oper} {Q : Exit → Go.Act → World → Prop} {S : World → Prop} {i : Nat} {o : Oper} {rs : List Nat} {fuel : Nat} {listed : Array Bool} {a : Go.Act} {w : World} (hi : l[i]? = some o)
    (hw : Region.wanted o (yielded l.toArray a.tmps) = false) (hS : S w) (h : wpAnyH P md l.toArray Q S fuel (listed.setIfInBounds i true) (a.put o.dst undef) w)
    (hs : AllReadyH P md l.toArray Q S fuel listed a w rs) : AllReadyH P md l.toArray Q S fuel listed a w (i :: rs) := by
  refine AllReadyH.cons (o := o) (by simpa using hi) (fun K hK => ?_) hs
  rw [if_neg (by rw [hw]; decide)]
  exact hK.out _ _ hS (fun _ => h)

end Go.Proofs.Ytcfgcllphfooaaa.disks
end

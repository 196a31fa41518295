/-
  GENERAL: arguments that are slices of records, opened with the form's own reach: what each slice within takes.
-/
import Derived.Test.YtomceindibnpnaaNest
import Derived.Test.YtomceindibnpnaaDiskActs
namespace Go.My
open Go.ChangeShapes Go.WideShapes Go.RowKit Go.Deep

section
variable {H : Type} {enc : TypeId × Value → H} {P : Program}

theorem weightsAll_mem {e : TypeId} : ∀ {l : List (DataW H)} {d : DataW H}, d ∈ l → ∀ n ∈ d.weights P e, n ∈ DataW.weightsAll P e l
  | [], _, h, _, _ => by cases h
  | x :: l, d, h, n, hn => by
    rw [DataW.weightsAll]
    rcases List.mem_cons.1 h with rfl | h
    · exact List.mem_append_left _ hn
    · exact List.mem_append_right _ (weightsAll_mem h n hn)

theorem weightsEach_mem : ∀ {ts : List TypeId} {ds : List (DataW H)} {i : Nat} {t : TypeId} {d : DataW H}, ts[i]? = some t → ds[i]? = some d → ∀ n ∈ d.weights P t, n ∈ DataW.weightsEach P ts ds
  | [], _, _, _, _, h, _, _, _ => by simp at h
  | _ :: _, [], _, _, _, _, h, _, _ => by simp at h
  | t' :: ts, d' :: ds, 0, t, d, ht, hd, n, hn => by
    rw [DataW.weightsEach]
    simp only [List.getElem?_cons_zero, Option.some.injEq] at ht hd
    subst ht; subst hd
    exact List.mem_append_left _ hn
  | t' :: ts, d' :: ds, i + 1, t, d, ht, hd, n, hn => by
    rw [DataW.weightsEach]
    simp only [List.getElem?_cons_succ] at ht hd
    exact List.mem_append_right _ (weightsEach_mem ht hd n hn)

theorem open_rows_sized {W : World} {base : Nat} {sp : Nat → Bool} {held : Bool} {t e n fuel : Nat} {cs : List Value} {y : DataW H × List MemPlace} (ht : P.underlying t = some (.slice e)) (hc : P.cellsOf e = n) (hn : 0 < n)
    (hf : DataW.trod enc P W base sp held fuel t cs = some y) (hw : ∀ n ∈ y.1.weights P t, n ≤ reachBytes) :
    ∃ (oa : Option Addr) (l : List (List Value)) (cap : Nat), cs = [.slice oa l.length cap] ∧ l.length ≤ cap ∧ cap ≤ maxLen ∧ RowsAt W n oa l ∧ l.length * P.bytesOf e ≤ reachBytes ∧ (∀ x ∈ l, ∃ fuel y, DataW.trod enc P W base sp held fuel e x = some y ∧ ∀ n ∈ y.1.weights P e, n ≤ reachBytes) := by
  rcases open_slice ht hf with ⟨h1, _⟩ | ⟨a, len0, cap0, m, k, D, Pl, h1, hb, hl, hm, hmm, hy, hx⟩
  · exact ⟨none, [], 0, h1, Nat.le_refl _, by unfold maxLen; omega, ⟨fun h => absurd rfl h, by simp, by simp⟩, by simp, by simp⟩
  · subst h1
    subst hy
    have hle : len0 ≤ m := by rw [hmm]; split <;> omega
    simp only [DataW.weights, ht, List.mem_cons, List.mem_append] at hw
    have hbytes : len0 * P.bytesOf e ≤ reachBytes := by
      have := hw _ (Or.inl rfl)
      simp only [List.length_map, List.length_range] at this
      exact Nat.le_trans (Nat.mul_le_mul_right _ (Nat.le_add_right _ _)) this
    obtain ⟨R, hR⟩ := choose_lt (α := List Value) (n := len0) (p := fun i cs' => W.cells? base (a.add (i * n)) n = some cs' ∧ DataW.trod enc P W base sp held k e cs' = some (D i, Pl i)) (fun i hi => by
      obtain ⟨cs', h1, h2⟩ := hx i (by omega)
      rw [hc] at h1
      exact ⟨cs', h1, h2⟩)
    refine ⟨some a, (List.range len0).map R, cap0, by simp, by simpa using hl, hm, ⟨?_, ?_, ?_⟩, by simpa using hbytes, ?_⟩
    · intro hne
      have h0 : 0 < len0 := by
        rcases Nat.eq_zero_or_pos len0 with h | h
        · subst h; simp at hne
        · exact h
      obtain ⟨h1, _⟩ := hR 0 h0
      obtain ⟨_, h2, h3⟩ := World.cells?_some h1
      have h4 := h3 0 hn
      have h5 : a.add (0 * n) = a := by simp [Addr.add]
      rw [h5] at h4
      have h6 : a.add 0 = a := by simp [Addr.add]
      rw [h6, List.getElem?_eq_getElem (by omega)] at h4
      obtain ⟨bl, of, spt⟩ := a
      cases spt with
      | none => exact ⟨bl, of, rfl⟩
      | some s =>
        unfold World.cell? at h4
        cases hh : W.heap[bl]? with
        | none => simp [hh] at h4
        | some o => cases o <;> simp [hh] at h4
    · intro i r hr
      simp only [List.getElem?_map, Option.map_eq_some_iff] at hr
      obtain ⟨i', hi', rfl⟩ := hr
      obtain ⟨hlt, rfl⟩ := List.getElem?_eq_some_iff.1 hi'
      simp only [List.length_range] at hlt
      simp only [List.getElem_range]
      obtain ⟨h1, _⟩ := hR i hlt
      exact (World.cells?_some h1).2.1
    · intro b off hab i r j v hi hj
      cases hab
      simp only [List.getElem?_map, Option.map_eq_some_iff] at hi
      obtain ⟨i', hi', rfl⟩ := hi
      obtain ⟨hlt, rfl⟩ := List.getElem?_eq_some_iff.1 hi'
      simp only [List.length_range] at hlt
      simp only [List.getElem_range] at hj
      obtain ⟨h1, _⟩ := hR i hlt
      obtain ⟨_, h2, h3⟩ := World.cells?_some h1
      have hjn : j < n := by have := (List.getElem?_eq_some_iff.1 hj).1; omega
      have h4 := h3 j hjn
      rw [hj] at h4
      rw [← h4]
      congr 1
      unfold Addr.add
      by_cases e1 : i * n = 0 <;> by_cases e2 : j = 0 <;> simp [e1, e2]
    · intro x hx'
      simp only [List.mem_map, List.mem_range] at hx'
      obtain ⟨i, hi, rfl⟩ := hx'
      refine ⟨_, _, (hR i hi).2, fun n hn => hw n (Or.inr (Or.inl ?_))⟩
      exact weightsAll_mem (List.mem_map_of_mem (List.mem_range.2 hi)) n hn

/-- A record of single cells, with what its fields take. -/
theorem fields_sized {W : World} {base : Nat} {sp : Nat → Bool} {held : Bool} {e n fuel : Nat} {fs : Array Field} {cs : List Value} {y : DataW H × List MemPlace} (he : P.underlying e = some (.struct fs)) (hc : P.cellsOf e = n) (hn : fs.size = n)
    (hf : ∀ (i : Nat) (f : Field), fs[i]? = some f → f.offset = i ∧ P.cellsOf f.type = 1) (h : DataW.trod enc P W base sp held fuel e cs = some y) (hw : ∀ n ∈ y.1.weights P e, n ≤ reachBytes) :
    cs.length = n ∧ ∃ k, ∀ (i : Nat) (f : Field) (u : Value), fs[i]? = some f → cs[i]? = some u → ∃ x, DataW.trod enc P W base sp held k f.type [u] = some x ∧ ∀ n ∈ x.1.weights P f.type, n ≤ reachBytes := by
  obtain ⟨xs, k, _, rfl, hlen, hxs, hx⟩ := DataW.trod_struct he h
  rw [hc] at hlen
  simp only [DataW.weights, he] at hw
  refine ⟨hlen, k, fun i f u hfi hu => ?_⟩
  obtain ⟨h1, h2⟩ := hf i f hfi
  have h4 := hx i f hfi
  have hi : i < xs.length := by have := (Array.getElem?_eq_some_iff.1 hfi).1; omega
  have hic : i < cs.length := by have := (Array.getElem?_eq_some_iff.1 hfi).1; omega
  rw [List.getElem?_eq_getElem hi] at h4
  refine ⟨xs[i], ?_, fun n hn => hw n ?_⟩
  · rw [← h4, h1, h2]
    congr 1
    rw [List.getElem?_eq_getElem hic] at hu
    cases hu
    rw [List.drop_eq_getElem_cons hic]
    rfl
  · refine weightsEach_mem (i := i) ?_ ?_ n hn
    · rw [List.getElem?_map, Array.getElem?_toList, hfi]; rfl
    · rw [List.getElem?_map, List.getElem?_eq_getElem hi]; rfl

end
end Go.My

namespace Go.Proofs.Ytomceindibnpnaa.disks
open Go.ChangeShapes Go.WideShapes Go.RowKit Go.My Go.Deep

def DAct.fit (a : DAct) : Prop := a.keep.length * 8 ≤ reachBytes

theorem bytes_int : Try.prog.bytesOf 3 = 8 := by kernel_rfl
theorem bytes_u8 : Try.prog.bytesOf 5 = 1 := by kernel_rfl
theorem cells_u8 : Try.prog.cellsOf 5 = 1 := by kernel_rfl
theorem cells_bytes : Try.prog.cellsOf 68 = 1 := by kernel_rfl

set_option maxRecDepth 100000 in
theorem fields_act_sized {H : Type} {enc : TypeId × Value → H} {W : World} {base : Nat} {sp : Nat → Bool} {held : Bool} {fuel : Nat} {cs : List Value} {y : DataW H × List MemPlace}
    (hf : DataW.trod enc Try.prog W base sp held fuel 66 cs = some y) (hw : ∀ n ∈ y.1.weights Try.prog 66, n ≤ reachBytes) : ∃ a : DAct, cs = a.row ∧ a.ok W ∧ a.fit := by
  obtain ⟨hlen, k, hx⟩ := fields_sized Try.underlying66 cells_act rfl (by
    intro i f hf
    match i, hf with
    | 0, hf => cases hf; exact ⟨rfl, cells_int⟩
    | 1, hf => cases hf; exact ⟨rfl, cells_int⟩
    | 2, hf => cases hf; exact ⟨rfl, cells_int⟩
    | 3, hf => cases hf; exact ⟨rfl, cells_int⟩
    | 4, hf => cases hf; exact ⟨rfl, cells_ints⟩
    | i + 5, hf => simp at hf) hf hw
  match cs, hlen with
  | [c0, c1, c2, c3, c4], _ =>
      obtain ⟨_, h0, -⟩ := hx 0 _ _ rfl rfl
      obtain ⟨_, h1, -⟩ := hx 1 _ _ rfl rfl
      obtain ⟨_, h2, -⟩ := hx 2 _ _ rfl rfl
      obtain ⟨_, h3, -⟩ := hx 3 _ _ rfl rfl
      obtain ⟨_, h4, hw4⟩ := hx 4 _ _ rfl rfl
      obtain ⟨z0, e0, _, w0⟩ := DataW.trod_int Try.underlying3 h0
      obtain ⟨z1, e1, _, w1⟩ := DataW.trod_int Try.underlying3 h1
      obtain ⟨z2, e2, _, w2⟩ := DataW.trod_int Try.underlying3 h2
      obtain ⟨z3, e3, _, w3⟩ := DataW.trod_int Try.underlying3 h3
      obtain ⟨oa, l, cap, e4, l1, l2, l3, l5, l4⟩ := open_rows_sized Try.underlying41 cells_int (by omega) h4 hw4
      obtain ⟨zs, rfl, hz⟩ := trod_ints Try.underlying3 (fun x hx => by obtain ⟨f, y, h, -⟩ := l4 x hx; exact ⟨f, y, h⟩)
      simp only [List.cons.injEq, and_true] at e0 e1 e2 e3 e4
      subst e0 e1 e2 e3 e4
      refine ⟨⟨z0, z1, z2, z3, _, zs⟩, rfl, ⟨wf_inR w0, wf_inR w1, wf_inR w2, wf_inR w3, ?_, fun z hm => wf_inR (hz z hm), by simpa using Nat.le_trans l1 l2⟩, ?_⟩
      · have := l3.flat cap
        rw [flat_one] at this
        exact this
      · rw [List.length_map, bytes_int] at l5
        exact l5

set_option maxRecDepth 100000 in
theorem open_acts_sized {H : Type} {enc : TypeId × Value → H} {W : World} {v : Value} {d : DataW H} {ps : List MemPlace} {r : Reach} {b0 : Nat}
    (hv : Value.okWide Try.prog W r b0 54 v) (h : DataW.Trod enc Try.prog W 0 (fun _ => true) true 54 v d ps) (hw : ∀ n ∈ d.weights Try.prog 54, n ≤ reachBytes) :
    ∃ (oa : Option Addr) (l : List DAct) (cap : Nat), v = .slice oa l.length cap ∧ l.length ≤ cap ∧ cap ≤ maxLen ∧ RowsAt W 5 oa (l.map DAct.row) ∧ ∀ a ∈ l, a.ok W ∧ a.fit := by
  obtain ⟨a0, len0, cap0, rfl⟩ := okWide_slice Try.underlying54 hv
  obtain ⟨fuel, hf⟩ := h
  obtain ⟨oa, l, cap, e, h1, h2, h3, -, h4⟩ := open_rows_sized Try.underlying54 cells_act (by omega) hf hw
  simp only [Value.cells, List.cons.injEq, and_true] at e
  rw [e]
  have h5 : ∃ L : List DAct, l = L.map DAct.row ∧ ∀ a ∈ L, a.ok W ∧ a.fit := by
    clear h1 h2 h3 hv hf e
    induction l with
    | nil => exact ⟨[], rfl, by simp⟩
    | cons x l ih =>
      obtain ⟨L, rfl, hL⟩ := ih (fun y hy => h4 y (by simp [hy]))
      obtain ⟨fuel, y, hy, hwy⟩ := h4 x (by simp)
      obtain ⟨a, rfl, ha⟩ := fields_act_sized hy hwy
      refine ⟨a :: L, rfl, fun b hb => ?_⟩
      rcases List.mem_cons.1 hb with rfl | hb
      · exact ha
      · exact hL b hb
  obtain ⟨L, rfl, hL⟩ := h5
  exact ⟨oa, L, cap, by simp, by simpa using h1, h2, h3, hL⟩

theorem u8_byte {z : Int} (h : (Lit.int .u8 z).wf = true) : z = ((UInt8.ofNat z.toNat).toNat : Int) := by
  have hx : 0 ≤ z ∧ z ≤ 255 := by simpa [Lit.wf, IntKind.min, IntKind.max, IntKind.signed, IntKind.bits] using h
  rw [UInt8.toNat_ofNat']
  omega

set_option maxRecDepth 100000 in
/-- An image: a slice of byte slices. -/
theorem open_image {H : Type} {enc : TypeId × Value → H} {W : World} {v : Value} {d : DataW H} {ps : List MemPlace} {r : Reach} {b0 : Nat}
    (hv : Value.okWide Try.prog W r b0 62 v) (h : DataW.Trod enc Try.prog W 0 (fun _ => true) true 62 v d ps) (hw : ∀ n ∈ d.weights Try.prog 62, n ≤ reachBytes) :
    ∃ (oa : Option Addr) (cap : Nat) (gs : List Value) (L : List (List UInt8)), v = .slice oa L.length cap ∧ L.length ≤ cap ∧ cap ≤ maxLen ∧ L.length * Try.prog.bytesOf 68 ≤ reachBytes ∧ gs.length = L.length ∧ SlAt W v gs ∧
      ∀ (i : Nat) g b, gs[i]? = some g → L[i]? = some b → SlAt W g (b.map (fun x => Value.int .u8 x.toNat)) ∧ b.length ≤ reachBytes := by
  obtain ⟨a0, len0, cap0, rfl⟩ := okWide_slice Try.underlying62 hv
  obtain ⟨fuel, hf⟩ := h
  obtain ⟨oa, l, cap, e, h1, h2, h3, h6, h4⟩ := open_rows_sized Try.underlying62 cells_bytes (by omega) hf hw
  simp only [Value.cells, List.cons.injEq, and_true] at e
  rw [e]
  have h7 := h3.flat cap
  have h5 : ∃ (gs : List Value) (L : List (List UInt8)), l = gs.map (fun g => [g]) ∧ gs.length = L.length ∧ ∀ (i : Nat) g b, gs[i]? = some g → L[i]? = some b → SlAt W g (b.map (fun x => Value.int .u8 x.toNat)) ∧ b.length ≤ reachBytes := by
    clear h1 h2 h3 h6 h7 hv hf e
    induction l with
    | nil => exact ⟨[], [], rfl, rfl, by simp⟩
    | cons x l ih =>
      obtain ⟨gs, L, rfl, hl, hL⟩ := ih (fun y hy => h4 y (by simp [hy]))
      obtain ⟨fuel, y, hy, hwy⟩ := h4 x (by simp)
      obtain ⟨oa', l', cap', e', -, -, h3', h6', h4'⟩ := open_rows_sized Try.underlying68 cells_u8 (by omega) hy hwy
      obtain ⟨zs, rfl, hz⟩ := trod_ints Try.underlying5 (fun x hx => by obtain ⟨f, y, h, -⟩ := h4' x hx; exact ⟨f, y, h⟩)
      have hr := h3'.flat cap'
      rw [flat_one, bytes_u8] at *
      have hzs : zs.map (Value.int .u8) = (zs.map (fun z => UInt8.ofNat z.toNat)).map (fun x => Value.int .u8 x.toNat) := by
        rw [List.map_map]
        refine List.map_congr_left (fun z hm => ?_)
        simp only [Function.comp]
        rw [← u8_byte (hz z hm)]
      refine ⟨.slice oa' zs.length cap' :: gs, zs.map (fun z => UInt8.ofNat z.toNat) :: L, by rw [e']; simp, by simp [hl], ?_⟩
      intro i g b hg hb
      cases i with
      | zero =>
        simp only [List.getElem?_cons_zero, Option.some.injEq] at hg hb
        subst hg; subst hb
        refine ⟨?_, by simpa using h6'⟩
        rw [← hzs]
        simpa using hr
      | succ i =>
        simp only [List.getElem?_cons_succ] at hg hb
        exact hL i g b hg hb
  obtain ⟨gs, L, rfl, hl, hL⟩ := h5
  rw [flat_one] at h7
  simp only [List.length_map] at *
  simp only [List.map_id'] at h7
  exact ⟨oa, cap, gs, L, by rw [hl], by omega, h2, by rw [← hl]; exact h6, hl, h7, hL⟩

end Go.Proofs.Ytomceindibnpnaa.disks

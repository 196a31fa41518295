/-
  coord's laws: few: any plans become plans in memory of the call's own.
-/
import Derived.Test.YtogjjkbgagedpaaCoGN
import Derived.Laws.AppendOwnNone
namespace Go.Proofs.Ytogjjkbgagedpaa.coordg
open Go.RowKit Go.Maps Go.My Go.ChangeMaps coords
set_option maxRecDepth 100000

variable {w w' : World}

theorem wpList_app {P : Program} {ops : Array Oper} {rest : List Oper} {o : Oper} {a : Go.Act} {w w' : World} {Q : Exit → Go.Act → World → Prop} (hgd : o.guard = none) (s x : Operand) (t : TypeId)
    (ho : o.op = .call { callee := .builtin .append, args := #[s, x], argTypes := #[t, t] }) {v sv xv : Value} (hs : a.eval s = sv) (hx : a.eval x = xv)
    (hr : (Builtin.append_ #[t, t] o.type #[sv, xv]).run P w = .ok v w') (h : wpList P ops Q rest (a.put o.dst v) w') : wpList P ops Q (o :: rest) a w :=
  wpList_plain hgd fun _ hK => oper_append s x t ho hs hx hr (hK _ _ h)

theorem own_push {P : Program} {base : Nat} {t e : TypeId} {i : TypeInfo} {z : Value} {n bytes : Nat} (ht : P.underlying t = some (.slice e)) (hi : P.info? e = some i) (hz : i.zero = some z) (hs : i.size = n) (hb : i.bytes = bytes) (hzs : z.cells.size = n) (hn : 0 < n)
    {v : Value} {l : List (List Value)} (h : OwnRecs w base e n v l) (r : List Value) (hr : r.length = n) (h1 : ∀ u ∈ r, u.oneCell' = true) (hl : l.length ≤ 1000) (hby : bytes ≤ 1000) (hbase : base ≤ w.heap.size) :
    ∃ oa cap w', (Builtin.append_ #[t, t] t #[v, .slice (some ⟨w.heap.size, 0, none⟩) 1 1]).run P (w.alloc (.cells r.toArray e)) = .ok (.slice oa (l.length + 1) cap) w' ∧
      OwnRecs w' base e n (.slice oa (l.length + 1) cap) (l ++ [r]) ∧ Chg (fun k => some k = v.ownBlock) w w' ∧ w.heap.size < w'.heap.size ∧
      ((Value.slice oa (l.length + 1) cap).ownBlock = v.ownBlock ∨ (Value.slice oa (l.length + 1) cap).ownBlock = some (w.heap.size + 1)) := by
  have hca := (Chg.refl (fun _ => False) w).alloc (.cells r.toArray e)
  have hrow := (h.kept hca (fun _ _ h => h)).row
  obtain ⟨v', w4, hap, ho, hg, -, hvn⟩ := run_append_own_at (P := P) (w.alloc (.cells r.toArray e)) base t t e i z n bytes ht hi hz hs hb hzs hn v _ _ hrow ⟨w.heap.size, 0, none⟩ 1 1 r (by omega) (cells_new w r _) h1 (by unfold maxLen; omega)
    (by have : (l.length + 1) * bytes ≤ 1001 * 1000 := Nat.mul_le_mul (by omega) hby
        omega) (by rw [World.size_alloc]; omega)
  obtain ⟨oa, cap, rfl⟩ := own_slice ho
  have hcg := Chg.of_grown hg
  refine ⟨oa, cap, w4, hap, ⟨by simpa using ho, fun y hy => ?_⟩, (hca.mono (fun _ _ h => h.elim)).trans' hcg, by have := hcg.size; rw [World.size_alloc] at this; omega, by rwa [World.size_alloc] at hvn⟩
  rcases List.mem_append.1 hy with h2 | h2
  · exact h.each y h2
  · rw [List.mem_singleton.1 h2]; exact hr

theorem append_none {P : Program} (base : Nat) (t ty e : TypeId) (i : TypeInfo) (size : Nat) (ht : P.underlying t = some (.slice e)) (hi : P.info? e = some i)
    (v : Value) (n c : Nat) (xs : List Value) (hown : w.ownsRow base e size v n xs) :
    (Builtin.append_ #[t, t] ty #[v, .slice none 0 c]).run P w = .ok v w := by
  rcases hown.2 with ⟨rfl, rfl⟩ | ⟨g, cap, cur, rfl, _, _, hnc, _⟩
  · simp [Builtin.append_, run_underlying ht, sizeOf, typeInfo, hi, Builtin.lenOf, Builtin.firstCells]
  · simp [Builtin.append_, run_underlying ht, sizeOf, typeInfo, hi, Builtin.lenOf, Builtin.firstCells, hnc, storeCells]

theorem refs_own (w3 : World) (la : Option Addr) (lc : Nat) (ly : List (List Value)) (h : RowsAt w3 33 la ly) (hr : ∀ x ∈ ly, RefOk x) (hl : ly.length ≤ 20) :
    ∃ ol cl w4, (Builtin.append_ #[90, 90] 90 #[.slice (some ⟨w3.heap.size, 0, none⟩) 0 0, .slice la ly.length lc]).run Try.prog (w3.alloc (.cells #[] 127)) = .ok (.slice ol ly.length cl) w4 ∧
      OwnRecs w4 w3.heap.size 127 33 (.slice ol ly.length cl) ly ∧ Chg (fun _ => False) w3 w4 ∧ w3.heap.size < w4.heap.size := by
  obtain ⟨i0, hi, hz, hs, hb⟩ := info_parts info_ref
  have hca := (Chg.refl (fun _ => False) w3).alloc (.cells #[] 127)
  have heach : ∀ r ∈ ly, r.length = 33 := fun r hr => by obtain ⟨i, hi⟩ := List.getElem?_of_mem hr; exact h.row i r hi
  cases la with
  | none =>
    have hl0 : ly = [] := by
      cases ly with
      | nil => rfl
      | cons a l => obtain ⟨b, off, e⟩ := h.spot (by simp); cases e
    subst hl0
    exact ⟨_, _, _, append_none (P := Try.prog) (w := w3.alloc (.cells #[] 127)) w3.heap.size 90 90 127 i0 33 Try.underlying90 hi _ 0 lc [] (own_no w3 _ _), ⟨own_no w3 _ _, heach⟩, hca, by rw [World.size_alloc]; omega⟩
  | some a =>
    obtain ⟨v', w4, hap, ho, hg, -, hvn⟩ := run_append_own_at (P := Try.prog) (w3.alloc (.cells #[] 127)) w3.heap.size 90 90 127 i0 _ 33 40 Try.underlying90 hi hz hs hb rfl (by decide) _ 0 [] (own_no w3 _ _) a ly.length lc ly.flatten (flat_length 33 ly heach)
      (fun j u hu => hca.cell (rows_flat h (by omega) rfl j u hu) id) (refs_one hr) (by unfold maxLen; omega) (by omega) (by simp only [World.size_alloc]; omega)
    obtain ⟨oa, cap, rfl⟩ := own_slice ho
    have hcg := Chg.of_grown hg
    have hsz := hcg.size
    rw [World.size_alloc] at hsz
    rw [Nat.zero_add] at hap ho
    exact ⟨oa, cap, w4, hap, ⟨by simpa using ho, heach⟩, hca.new hcg (fun i e => by simp [Value.ownBlock] at e; omega), by omega⟩

/-- One package copied: what the appends say, and what lies there then. -/
theorem pack_step (w2 W3 : World) (ow : Int) (nm vr : ByteArray) (la : Option Addr) (lc : Nat) (ly : List (List Value)) (h1 : nm.size ≤ maxLen) (h2 : vr.size ≤ maxLen) (h : RowsAt w2 33 la ly) (hr : ∀ x ∈ ly, RefOk x) (hl : ly.length ≤ 20)
    (hX : W3.heap[w2.heap.size]? = some (.cells #[.int .i64 ow, .string nm, .string vr, .slice la ly.length lc] 94 (0, 0))) (hs : W3.heap.size = w2.heap.size + 1) (hch : Chg (fun _ => False) w2 W3)
    {base : Nat} {pv : Value} {rows : List (List Value)} (hown : OwnRecs w2 base 94 4 pv rows) (hrl : rows.length ≤ 20) (hbase : base ≤ w2.heap.size) :
    ∃ ol cl w4 op cp w6, (Builtin.append_ #[90, 90] 90 #[.slice (some ⟨w2.heap.size + 1, 0, none⟩) 0 0, .slice la ly.length lc]).run Try.prog (W3.alloc (.cells #[] 127)) = .ok (.slice ol ly.length cl) w4 ∧
      w4.heap[w2.heap.size]? = some (.cells #[.int .i64 ow, .string nm, .string vr, .slice la ly.length lc] 94 (0, 0)) ∧
      (w4.setCell ⟨w2.heap.size, 3, none⟩ (.slice ol ly.length cl)).heap[w2.heap.size]? = some (.cells #[.int .i64 ow, .string nm, .string vr, .slice ol ly.length cl] 94 (0, 0)) ∧
      (Builtin.append_ #[22, 22] 22 #[pv, .slice (some ⟨w4.heap.size, 0, none⟩) 1 1]).run Try.prog ((w4.setCell ⟨w2.heap.size, 3, none⟩ (.slice ol ly.length cl)).alloc (.cells #[.int .i64 ow, .string nm, .string vr, .slice ol ly.length cl] 94)) = .ok (.slice op (rows.length + 1) cp) w6 ∧
      OwnRecs w6 base 94 4 (.slice op (rows.length + 1) cp) (rows ++ [[.int .i64 ow, .string nm, .string vr, .slice ol ly.length cl]]) ∧
      PkR w6 (fun b => w2.heap.size < b ∧ b < w6.heap.size ∧ (Value.slice op (rows.length + 1) cp).ownBlock ≠ some b) [.int .i64 ow, .string nm, .string vr, .slice ol ly.length cl] ∧
      Chg (fun k => some k = pv.ownBlock) w2 w6 ∧ w2.heap.size < w6.heap.size ∧
      ((Value.slice op (rows.length + 1) cp).ownBlock = pv.ownBlock ∨ ∃ b, (Value.slice op (rows.length + 1) cp).ownBlock = some b ∧ w2.heap.size < b) := by
  obtain ⟨i0, hi, hz, his, hib⟩ := info_parts info_pack
  obtain ⟨ol, cl, w4, hapA, hoA, hcA, hszA⟩ := refs_own W3 la lc ly (h.kept hch (fun _ _ h => h)) hr hl
  rw [hs] at hapA hoA hszA
  have hX4 := hcA.at hX id
  have hX5 := block_setCell (i := 3) (v := .slice ol ly.length cl) hX4
  have hc5 : Chg (fun _ => False) w2 (w4.setCell ⟨w2.heap.size, 3, none⟩ (.slice ol ly.length cl)) := (hch.trans' hcA).new (Chg.setCell (S := (· = w2.heap.size)) (Chg.refl _ _) (fun _ => rfl) _) (fun i e => by omega)
  have hc45 : Chg (· = w2.heap.size) w4 (w4.setCell ⟨w2.heap.size, 3, none⟩ (.slice ol ly.length cl)) := Chg.setCell (S := (· = w2.heap.size)) (Chg.refl _ _) (fun _ => rfl) _
  have hs5 : (w4.setCell ⟨w2.heap.size, 3, none⟩ (.slice ol ly.length cl)).heap.size = w4.heap.size := by simp [World.setCell]
  obtain ⟨op, cp, w6, hapB, hoB, hcB, hszB, hvn⟩ := own_push (P := Try.prog) Try.underlying22 hi hz his hib rfl (by decide) (hown.kept hc5 (fun _ _ h => h)) [.int .i64 ow, .string nm, .string vr, .slice ol ly.length cl] rfl
    (by intro x hx; simp only [List.mem_cons, List.not_mem_nil, or_false] at hx; rcases hx with rfl | rfl | rfl | rfl <;> rfl) (by omega) (by omega) (by omega)
  rw [hs5] at hapB hszB hvn
  have hlt : ∀ b, pv.ownBlock = some b → b < w2.heap.size := fun b hb => (hown.lt hb).2
  have hin : InF (fun b => w2.heap.size < b ∧ b < w4.heap.size) ol ly.length := in_of_own hoA (fun b h1 h2 => ⟨by omega, h2⟩)
  have hne : ∀ b, w2.heap.size < b → b < w4.heap.size → (Value.slice op (rows.length + 1) cp).ownBlock ≠ some b := fun b hb1 hb2 e => by
    rcases hvn with h1 | h1
    · have := hlt b (h1.symm.trans e); omega
    · have h2 := Option.some.inj (h1.symm.trans e); omega
  refine ⟨ol, cl, w4, op, cp, w6, hapA, hX4, hX5, hapB, hoB, ⟨ow, nm, vr, ol, ly, cl, rfl, h1, h2, ?_, hr, fun hn b off ho => ?_, hl⟩, (hc5.mono (fun _ _ h => h.elim)).trans' hcB, by omega, ?_⟩
  · refine rows_keptF (rows_keptF (rows_of_own hoA) hc45 hin (fun k hk e => by omega)) hcB hin (fun k hk e => ?_)
    have := hlt k e.symm
    omega
  · have h3 := hin hn b off ho
    exact ⟨h3.1, by omega, hne b h3.1 h3.2⟩
  · rcases hvn with h1 | h1
    · exact Or.inl h1
    · exact Or.inr ⟨_, h1, by omega⟩

end Go.Proofs.Ytogjjkbgagedpaa.coordg

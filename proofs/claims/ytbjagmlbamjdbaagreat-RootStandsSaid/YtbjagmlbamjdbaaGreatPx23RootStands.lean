/-
  rootdb: packages one by one put into a slice of the call's own; the laws' few.
-/
import Derived.Test.YtbjagmlbamjdbaaGreatPx1RootStands
import Derived.Test.YtbjagmlbamjdbaaGreatPx7RootStands
import Derived.Test.YtbjagmlbamjdbaaGreatPx15RootStands
import Derived.Test.YtbjagmlbamjdbaaGreatPx16RootStands
import Derived.Laws.AppendOwnNone
import Derived.Maps.AppendAt
import Derived.SliceStrings

section
set_option linter.unusedSimpArgs false
set_option linter.unusedVariables false
namespace Go.Proofs.YtbjagmlbamjdbaaGreat.roots
open Go.RowKit Go.Maps Go.My Go.ChangeMaps disks bufs wals kvs
set_option maxRecDepth 100000

variable {w w' : World}

theorem wpList_appR {P : Program} {ops : Array Oper} {rest : List Oper} {o : Oper} {a : Go.Act} {w w' : World} {Q : Exit → Go.Act → World → Prop} (hgd : o.guard = none) (s x : Operand) (t : TypeId)
    (ho : o.op = .call { callee := .builtin .append, args := #[s, x], argTypes := #[t, t] }) {v sv xv : Value} (hs : a.eval s = sv) (hx : a.eval x = xv)
    (hr : (Builtin.append_ #[t, t] o.type #[sv, xv]).run P w = .ok v w') (h : wpList P ops Q rest (a.put o.dst v) w') : wpList P ops Q (o :: rest) a w :=
  wpList_plain hgd fun _ hK => oper_append s x t ho hs hx hr (hK _ _ h)

theorem own_pushR {P : Program} {base : Nat} {t e : TypeId} {i : TypeInfo} {z : Value} {n bytes : Nat} (ht : P.underlying t = some (.slice e)) (hi : P.info? e = some i) (hz : i.zero = some z) (hs : i.size = n) (hb : i.bytes = bytes) (hzs : z.cells.size = n) (hn : 0 < n)
    {v : Value} {l : List (List Value)} (h : OwnRecs w base e n v l) (r : List Value) (hr : r.length = n) (h1 : ∀ u ∈ r, u.oneCell' = true) (hl : l.length ≤ 1000) (hby : bytes ≤ 1000) (hbase : base ≤ w.heap.size) :
    ∃ oa cap w', (Builtin.append_ #[t, t] t #[v, .slice (some ⟨w.heap.size, 0, none⟩) 1 1]).run P (w.alloc (.cells r.toArray e)) = .ok (.slice oa (l.length + 1) cap) w' ∧
      OwnRecs w' base e n (.slice oa (l.length + 1) cap) (l ++ [r]) ∧ Chg (fun k => some k = v.ownBlock) w w' ∧ w.heap.size < w'.heap.size ∧
      ((Value.slice oa (l.length + 1) cap).ownBlock = v.ownBlock ∨ (Value.slice oa (l.length + 1) cap).ownBlock = some (w.heap.size + 1)) := by
  have hca := (Chg.refl (fun _ => False) w).alloc (.cells r.toArray e)
  have hrow := (h.kept hca (fun _ _ h => h)).row
  obtain ⟨v', w4, hap, ho, hg, -, hvn⟩ := run_append_own_at (P := P) (w.alloc (.cells r.toArray e)) base t t e i z n bytes ht hi hz hs hb hzs hn v _ _ hrow ⟨w.heap.size, 0, none⟩ 1 1 r (by omega) (cells_new w r _) h1 (by unfold maxLen; omega)
    (by have : (l.length + 1) * bytes ≤ 1001 * 1000 := Nat.mul_le_mul (by omega) hby
        omega) (by rw [World.size_alloc]; omega)
  obtain ⟨oa, cap, rfl⟩ := own_slice ho
  have hcg := Chg.of_grown hg
  refine ⟨oa, cap, w4, hap, ⟨by simpa using ho, fun y hy => ?_⟩, (hca.mono (fun _ _ h => h.elim)).trans' hcg, by have := hcg.size; rw [World.size_alloc] at this; omega, by rwa [World.size_alloc] at hvn⟩
  rcases List.mem_append.1 hy with h2 | h2
  · exact h.each y h2
  · rw [List.mem_singleton.1 h2]; exact hr

theorem append_noneR {P : Program} (base : Nat) (t ty e : TypeId) (i : TypeInfo) (size : Nat) (ht : P.underlying t = some (.slice e)) (hi : P.info? e = some i)
    (v : Value) (n c : Nat) (xs : List Value) (hown : w.ownsRow base e size v n xs) :
    (Builtin.append_ #[t, t] ty #[v, .slice none 0 c]).run P w = .ok v w := by
  rcases hown.2 with ⟨rfl, rfl⟩ | ⟨g, cap, cur, rfl, _, _, hnc, _⟩
  · simp [Builtin.append_, run_underlying ht, sizeOf, typeInfo, hi, Builtin.lenOf, Builtin.firstCells]
  · simp [Builtin.append_, run_underlying ht, sizeOf, typeInfo, hi, Builtin.lenOf, Builtin.firstCells, hnc, storeCells]

/-- Packages in a slice of the call's own, each with layers of the call's own. -/
structure PkO (base : Nat) (w : World) (pv : Value) (L : List Pk) : Prop where
  ex : ∃ lv : List Value, OwnRecs w base 90 4 pv (List.zipWith pkC L lv) ∧ lv.length = L.length ∧ ∀ (i : Nat) (p : Pk) (u : Value), L[i]? = some p → lv[i]? = some u → LysAt w (fun b => base ≤ b ∧ b < w.heap.size ∧ pv.ownBlock ≠ some b) u p.man.layers
  txt : ∀ p ∈ L, p.man.name.length ≤ maxLen ∧ p.man.ver.length ≤ maxLen
theorem PkO.nil (base : Nat) (w : World) : PkO base w (.slice none 0 0) [] := ⟨⟨[], OwnRecs.nil _ _ _ _, rfl, by simp⟩, by simp⟩
theorem PkO.len {base : Nat} {pv : Value} {L : List Pk} (h : PkO base w pv L) : ∃ oa cap, pv = .slice oa L.length cap := by
  obtain ⟨lv, h1, h2, -⟩ := h.ex
  obtain ⟨oa, cap, e, -⟩ := h1.slice
  rw [List.length_zipWith, h2, Nat.min_self] at e
  exact ⟨oa, cap, e⟩
theorem PkO.lt {base : Nat} {pv : Value} {L : List Pk} (h : PkO base w pv L) {g : Nat} (hg : pv.ownBlock = some g) : base ≤ g ∧ g < w.heap.size := by
  obtain ⟨lv, h1, -⟩ := h.ex
  exact h1.lt hg
theorem PkO.fresh {base : Nat} {pv : Value} {L : List Pk} (h : PkO base w pv L) (hc : Chg (fun _ => False) w w') : PkO base w' pv L := by
  obtain ⟨lv, h1, h2, h3⟩ := h.ex
  exact ⟨⟨lv, h1.kept hc (fun _ _ h => h), h2, fun i p u hp hu => ((h3 i p u hp hu).fresh hc).wide (fun b hb => ⟨hb.1, Nat.lt_of_lt_of_le hb.2.1 hc.size, hb.2.2⟩)⟩, h.txt⟩
theorem PkO.at {base : Nat} {pv : Value} {L : List Pk} (h : PkO base w pv L) : PksAt w (fun b => base ≤ b ∧ b < w.heap.size) pv L := by
  obtain ⟨lv, h1, h2, h3⟩ := h.ex
  obtain ⟨oa, cap, e, g1, g2⟩ := h1.slice
  have hz : (List.zipWith pkC L lv).length = L.length := by rw [List.length_zipWith, h2, Nat.min_self]
  rw [hz] at e g1
  subst e
  exact ⟨⟨oa, cap, lv, rfl, h2, rows_of_own h1, in_of_own h1 hz (fun b hb1 hb2 => ⟨hb1, hb2⟩), fun i p u hp hu => (h3 i p u hp hu).wide (fun b hb => ⟨hb.1, hb.2.1⟩), g1, g2⟩, h.txt⟩

/-- One more package. -/
theorem PkO.push {base : Nat} {pv : Value} {L : List Pk} (h : PkO base w pv L) (p : Pk) (u : Value) (hly : LysAt w (fun b => base ≤ b ∧ b < w.heap.size ∧ pv.ownBlock ≠ some b) u p.man.layers) (ht : p.man.name.length ≤ maxLen ∧ p.man.ver.length ≤ maxLen) (hl : L.length ≤ 1000) (hb : base ≤ w.heap.size) :
    ∃ oa cap w', (Builtin.append_ #[22, 22] 22 #[pv, .slice (some ⟨w.heap.size, 0, none⟩) 1 1]).run Tryz.prog (w.alloc (.cells (pkC p u).toArray 90)) = .ok (.slice oa (L.length + 1) cap) w' ∧
      PkO base w' (.slice oa (L.length + 1) cap) (L ++ [p]) ∧ Chg (fun k => some k = pv.ownBlock) w w' ∧ w.heap.size < w'.heap.size := by
  obtain ⟨i0, hi, hz, his, hib⟩ := info_parts info_pack
  obtain ⟨lv, h1, h2, h3⟩ := h.ex
  have hzl : (List.zipWith pkC L lv).length = L.length := by rw [List.length_zipWith, h2, Nat.min_self]
  obtain ⟨ol, nl, cl, hu⟩ : ∃ ol nl cl, u = .slice ol nl cl := by obtain ⟨a, b, e, -⟩ := hly.is; exact ⟨_, _, _, e⟩
  obtain ⟨oa, cap, w', hap, ho, hc, hsz, hv⟩ := own_pushR (P := Tryz.prog) Tryz.underlying22 hi hz his hib rfl (by decide) h1 (pkC p u) rfl
    (by intro x hx; simp only [pkC, List.mem_cons, List.not_mem_nil, or_false] at hx; rcases hx with rfl | rfl | rfl | rfl <;> first | rfl | (subst hu; rfl)) (by rw [hzl]; omega) (by omega) hb
  rw [hzl] at hap ho hv
  refine ⟨oa, cap, w', hap, ⟨⟨lv ++ [u], ?_, by rw [List.length_append, List.length_append, h2]; rfl, fun i q x hq hx => ?_⟩, fun q hq => ?_⟩, hc, hsz⟩
  · rw [List.zipWith_append (by omega)]
    exact ho
  · have hw : ∀ b, (base ≤ b ∧ b < w.heap.size ∧ pv.ownBlock ≠ some b) → (base ≤ b ∧ b < w'.heap.size ∧ (Value.slice oa (L.length + 1) cap).ownBlock ≠ some b) := fun b hb => ⟨hb.1, by omega, fun e => by
      rcases hv with e2 | e2
      · exact hb.2.2 (e2.symm.trans e)
      · have := Option.some.inj (e2.symm.trans e); omega⟩
    by_cases hil : i < L.length
    · rw [List.getElem?_append_left hil] at hq
      rw [List.getElem?_append_left (by omega)] at hx
      exact ((h3 i q x hq hx).kept hc (fun b hb e => hb.2.2 e.symm)).wide hw
    · rw [List.getElem?_append_right (by omega)] at hq
      rw [List.getElem?_append_right (by omega)] at hx
      have : i - L.length = 0 := by
        have := (List.getElem?_eq_some_iff.1 hq).1
        simp at this
        omega
      rw [h2, this] at hx
      rw [this] at hq
      simp only [List.getElem?_cons_zero, Option.some.injEq] at hq hx
      subst hq; subst hx
      exact (hly.kept hc (fun b hb e => hb.2.2 e.symm)).wide hw
  · rcases List.mem_append.1 hq with hq | hq
    · exact h.txt q hq
    · rw [List.mem_singleton.1 hq]; exact ht

theorem refs_ownR (w3 : World) (la : Option Addr) (lc : Nat) (L : List Rf) (h : RowsAt w3 33 la (L.map rfC)) (hd : ∀ x ∈ L, x.sum.length = 32) (hl : L.length ≤ 20) :
    ∃ ol cl w4, (Builtin.append_ #[86, 86] 86 #[.slice (some ⟨w3.heap.size, 0, none⟩) 0 0, .slice la L.length lc]).run Tryz.prog (w3.alloc (.cells #[] 98)) = .ok (.slice ol L.length cl) w4 ∧
      LysAt w4 (fun b => w3.heap.size ≤ b ∧ b < w4.heap.size) (.slice ol L.length cl) L ∧ Chg (fun _ => False) w3 w4 ∧ w3.heap.size < w4.heap.size := by
  obtain ⟨i0, hi, hz, hs, hb⟩ := info_parts info_ref
  have hca := (Chg.refl (fun _ => False) w3).alloc (.cells #[] 98)
  have heach : ∀ r ∈ L.map rfC, r.length = 33 := fun r hr => by obtain ⟨i, hi⟩ := List.getElem?_of_mem hr; exact h.row i r hi
  cases la with
  | none =>
    have hl0 : L = [] := by
      cases L with
      | nil => rfl
      | cons a l => obtain ⟨b, off, e⟩ := h.spot (by simp); cases e
    subst hl0
    refine ⟨_, _, _, append_noneR (P := Tryz.prog) (w := w3.alloc (.cells #[] 98)) w3.heap.size 86 86 98 i0 33 Tryz.underlying86 hi _ 0 lc [] (own_no w3 _ _), ⟨⟨_, _, rfl, ⟨fun h => absurd rfl h, by simp, by simp⟩, fun h => absurd rfl h, Nat.le_refl _, by unfold maxLen; omega⟩, by simp⟩, hca, by rw [World.size_alloc]; omega⟩
  | some a =>
    obtain ⟨v', w4, hap, ho, hg, -, hvn⟩ := run_append_own_at (P := Tryz.prog) (w3.alloc (.cells #[] 98)) w3.heap.size 86 86 98 i0 _ 33 40 Tryz.underlying86 hi hz hs hb rfl (by decide) _ 0 [] (own_no w3 _ _) a L.length lc (L.map rfC).flatten (by rw [flat_length 33 _ heach, List.length_map])
      (fun j u hu => hca.cell (rows_flat h (by omega) rfl j u hu) id) (one_rf L) (by unfold maxLen; omega) (by omega) (by simp only [World.size_alloc]; omega)
    obtain ⟨oa, cap, rfl⟩ := own_slice ho
    have hcg := Chg.of_grown hg
    have hsz := hcg.size
    rw [World.size_alloc] at hsz
    rw [Nat.zero_add] at hap ho
    have hoR : OwnRecs w4 w3.heap.size 98 33 (.slice oa L.length cap) (L.map rfC) := ⟨by simpa using ho, heach⟩
    obtain ⟨oa', cap', e, g1, g2⟩ := hoR.slice
    rw [List.length_map] at e g1
    cases e
    exact ⟨oa, cap, w4, hap, ⟨⟨oa, cap, rfl, rows_of_own hoR, in_of_own hoR (List.length_map ..) (fun b h1 h2 => ⟨h1, h2⟩), g1, g2⟩, hd⟩, hca.new hcg (fun i e => by simp [Value.ownBlock] at e; omega), by omega⟩

/-! ### few -/
def fewP (p : Pk) : Pk := ⟨p.owner, ⟨p.man.name, p.man.ver, p.man.layers.take 20⟩⟩
def fewF (l : List Pk) : List Pk := (l.take 20).map fewP
theorem rows_takeR {n : Nat} {oa : Option Addr} {l : List (List Value)} (h : RowsAt w n oa l) (m : Nat) : RowsAt w n oa (l.take m) := by
  have hg : ∀ i r, (l.take m)[i]? = some r → l[i]? = some r := fun i r hr => by
    rw [List.getElem?_take] at hr
    split at hr
    · exact hr
    · cases hr
  exact ⟨fun hne => h.spot (by intro e; rw [e] at hne; simp at hne), fun i r hr => h.row i r (hg i r hr), fun b off ho i r j v hi hj => h.cell b off ho i r j v (hg i r hi) hj⟩

def fewF' (l : List Pk) (k : Nat) : List Pk := (l.take k).map fewP

set_option maxHeartbeats 4000000 in
theorem few_is (w : World) {F : Nat → Prop} {v : Value} {l : List Pk} (h : PksAt w F v l) :
    Calls Tryz.prog 9 #[v] w fun e w' => ∃ v', e = .returned v' ∧ PksAt w' (fun b => w.heap.size ≤ b ∧ b < w'.heap.size) v' (fewF l) ∧ Chg (fun _ => False) w w' := by
  obtain ⟨oa, cap, lv, rfl, hlv, hr, -, hly, hcap, hcm⟩ := h.is
  have HR := Lib.hid hr
  have HLy := Lib.hid hly
  have HTxt := Lib.hid h.txt
  clear h hr hly
  go_enter Tryz.func9, Tryz.ntmps9
  go_wp2_with fail
  go_loopw [3, 4] (fun out j wr => ∃ (k : Nat) (ov : Option Addr) (cv : Nat), j = .int .i64 k ∧ out = .slice ov k cv ∧ k ≤ l.length ∧ k ≤ 20 ∧ PkO w.heap.size wr (.slice ov k cv) (fewF' l k) ∧ Chg (fun _ => False) w wr) (fun _ j _ => 20 - (intOf j).toNat)
  · exact ⟨0, none, 0, rfl, rfl, Nat.zero_le _, Nat.zero_le _, PkO.nil _ _, Chg.refl _ _⟩
  obtain ⟨k, ov, cv, rfl, rfl, hk, hk20, hS, hC⟩ := hrel
  have HS := Lib.hid hS
  have HC := Lib.hid hC
  have HLk := Lib.hid (show (fewF' l k).length = k by unfold fewF'; rw [List.length_map, List.length_take]; omega)
  have HBase := Lib.hid hC.size
  clear hS hC
  by_cases hlt : k < l.length
  · have hki : (k : Int) < (l.length : Int) := by omega
    by_cases h20 : k < 20
    · have hk1 : (k : Int) < 20 := by omega
      obtain ⟨p, hp⟩ : ∃ p, l[k]? = some p := ⟨l[k], List.getElem?_eq_getElem hlt⟩
      obtain ⟨u, hu⟩ : ∃ u, lv[k]? = some u := ⟨lv[k]'(by omega), List.getElem?_eq_getElem _⟩
      obtain ⟨b, off, rfl⟩ := HR.out.spot (by intro e; have e2 := congrArg List.length e; rw [List.length_zipWith, List.length_nil] at e2; omega)
      obtain ⟨d0, d1, d2, d3⟩ := pk_cells (HR.out.kept HC.out (fun _ _ h => h)) hp hu
      have hlyk := (HLy.out k p u hp hu).fresh HC.out
      have HTx := Lib.hid (HTxt.out p (List.mem_of_getElem? hp))
      have HP := Lib.hid hp
      obtain ⟨la, lc, rfl, hrr, -, hlc, hlm⟩ := hlyk.is
      have HDg := Lib.hid (show ∀ x ∈ p.man.layers.take 20, x.sum.length = 32 from fun x hx => hlyk.dig x (List.mem_of_mem_take hx))
      have hrt := rows_takeR hrr 20
      rw [← List.map_take] at hrt
      obtain ⟨nm, hnm⟩ : ∃ s, strV p.man.name = .string s := ⟨_, rfl⟩
      obtain ⟨vr, hvr⟩ : ∃ s, strV p.man.ver = .string s := ⟨_, rfl⟩
      rw [hnm] at d1
      rw [hvr] at d2
      have HN1 := Lib.hid hnm
      have HN2 := Lib.hid hvr
      clear hp hu hlyk hnm hvr
      by_cases h3 : 20 < p.man.layers.length
      · have h3i : (20 : Int) < (p.man.layers.length : Int) := by omega
        have hlen : (p.man.layers.take 20).length = 20 := by rw [List.length_take]; omega
        have hNs := block_alloc_new wr (.cells #[.int .i64 p.owner, .string nm, .string vr, .slice la 20 lc] 90)
        have hca := (Chg.refl (fun _ => False) wr).alloc (.cells #[.int .i64 p.owner, .string nm, .string vr, .slice la 20 lc] 90)
        have hrt2 := hrt.kept hca (fun _ _ h => h)
        obtain ⟨ol, cl, w4, hapA, hlyA, hcA, hszA⟩ := refs_ownR (wr.alloc (.cells #[.int .i64 p.owner, .string nm, .string vr, .slice la 20 lc] 90)) la lc (p.man.layers.take 20) hrt2 HDg.out (by rw [List.length_take]; omega)
        rw [hlen] at hapA hlyA
        rw [World.size_alloc] at hapA
        have hX4 := hcA.at hNs id
        have hX5 := block_setCell (i := 3) (v := .slice ol 20 cl) hX4
        have hs5 : (w4.setCell ⟨wr.heap.size, 3, none⟩ (.slice ol 20 cl)).heap.size = w4.heap.size := by simp [World.setCell]
        have hc45 : Chg (· = wr.heap.size) w4 (w4.setCell ⟨wr.heap.size, 3, none⟩ (.slice ol 20 cl)) := Chg.setCell (S := (· = wr.heap.size)) (Chg.refl _ _) (fun _ => rfl) _
        have hc5 : Chg (fun _ => False) wr (w4.setCell ⟨wr.heap.size, 3, none⟩ (.slice ol 20 cl)) := (hca.trans' hcA).new hc45 (fun i e => by omega)
        have hs3 : ((wr.alloc (.cells #[.int .i64 p.owner, .string nm, .string vr, .slice la 20 lc] 90))).heap.size = wr.heap.size + 1 := World.size_alloc _ _
        have hbase := HBase.out
        have hown : ∀ b, (Value.slice ov k cv).ownBlock = some b → w.heap.size ≤ b ∧ b < wr.heap.size := fun b hb => HS.out.lt hb
        obtain ⟨o6, c6, w6, hapB, hoB, hcB, hszB⟩ := (HS.out.fresh hc5).push (fewP p) (.slice ol 20 cl) ((hlyA.kept hc45 (fun b hb e => by have := hb.1; omega)).wide (fun b hb => ⟨by have := hb.1; omega, by have := hb.2; omega, fun e => by have := hown b e; have := hb.1; omega⟩)) (HTx.out) (by rw [HLk.out]; omega) (by have := hc5.size; omega)
        rw [HLk.out, hs5] at hapB
        rw [HLk.out] at hoB
        have hrowB : (pkC (fewP p) (.slice ol 20 cl)).toArray = #[.int .i64 p.owner, .string nm, .string vr, .slice ol 20 cl] := by
          unfold pkC fewP; simp only; rw [HN1.out, HN2.out]
        rw [hrowB] at hapB
        have y3 : w4.cell? ⟨wr.heap.size, 3, none⟩ = some (.slice la 20 lc) := cell_of_block hX4 rfl
        have yz : w4.frozen? ⟨wr.heap.size, 3, none⟩ = false := free_of_block hX4
        have v0 : (w4.setCell ⟨wr.heap.size, 3, none⟩ (.slice ol 20 cl)).cell? ⟨wr.heap.size, 0, none⟩ = some (.int .i64 p.owner) := cell_of_block hX5 rfl
        have v1 : (w4.setCell ⟨wr.heap.size, 3, none⟩ (.slice ol 20 cl)).cell? ⟨wr.heap.size, 1, none⟩ = some (.string nm) := cell_of_block hX5 rfl
        have v2 : (w4.setCell ⟨wr.heap.size, 3, none⟩ (.slice ol 20 cl)).cell? ⟨wr.heap.size, 2, none⟩ = some (.string vr) := cell_of_block hX5 rfl
        have v3 : (w4.setCell ⟨wr.heap.size, 3, none⟩ (.slice ol 20 cl)).cell? ⟨wr.heap.size, 3, none⟩ = some (.slice ol 20 cl) := cell_of_block hX5 rfl
        have HOB := Lib.hid hoB
        have HCB := Lib.hid ((hc5.mono (fun _ _ h => h.elim) : Chg (fun b => some b = (Value.slice ov k cv).ownBlock) wr _).trans' hcB)
        have HOwn := Lib.hid hown
        clear hX4 hX5 hoB hcB hs5 hc45 hc5 hs3 hown hrowB hlyA hcA hszA
        go_wp2_with (first
          | (at_builtin; refine wpList_appR rfl _ _ _ rfl rfl rfl hapA ?_)
          | (at_builtin; refine wpList_appR rfl _ _ _ rfl rfl rfl hapB ?_))
        clear hapA hapB y3 yz v0 v1 v2 v3
        have htk : fewF' l (k + 1) = fewF' l k ++ [fewP p] := by
          unfold fewF'
          rw [List.take_add_one, HP.out, Option.toList_some, List.map_append]; rfl
        refine ⟨⟨k + 1, _, _, by go_num, rfl, hlt, h20, by rw [htk]; exact HOB.out, HC.out.new HCB.out (fun b e => (HOwn.out b e.symm).1)⟩, by simp [intOf]; omega⟩
      · have h3i : ¬ (20 : Int) < (p.man.layers.length : Int) := by omega
        have hlen : (p.man.layers.take 20).length = p.man.layers.length := by rw [List.length_take]; omega
        have hNs := block_alloc_new wr (.cells #[.int .i64 p.owner, .string nm, .string vr, .slice la p.man.layers.length lc] 90)
        have hca := (Chg.refl (fun _ => False) wr).alloc (.cells #[.int .i64 p.owner, .string nm, .string vr, .slice la p.man.layers.length lc] 90)
        have hrt2 := hrt.kept hca (fun _ _ h => h)
        obtain ⟨ol, cl, w4, hapA, hlyA, hcA, hszA⟩ := refs_ownR (wr.alloc (.cells #[.int .i64 p.owner, .string nm, .string vr, .slice la p.man.layers.length lc] 90)) la lc (p.man.layers.take 20) hrt2 HDg.out (by rw [List.length_take]; omega)
        rw [hlen] at hapA hlyA
        rw [World.size_alloc] at hapA
        have hX4 := hcA.at hNs id
        have hX5 := block_setCell (i := 3) (v := .slice ol p.man.layers.length cl) hX4
        have hs5 : (w4.setCell ⟨wr.heap.size, 3, none⟩ (.slice ol p.man.layers.length cl)).heap.size = w4.heap.size := by simp [World.setCell]
        have hc45 : Chg (· = wr.heap.size) w4 (w4.setCell ⟨wr.heap.size, 3, none⟩ (.slice ol p.man.layers.length cl)) := Chg.setCell (S := (· = wr.heap.size)) (Chg.refl _ _) (fun _ => rfl) _
        have hc5 : Chg (fun _ => False) wr (w4.setCell ⟨wr.heap.size, 3, none⟩ (.slice ol p.man.layers.length cl)) := (hca.trans' hcA).new hc45 (fun i e => by omega)
        have hs3 : ((wr.alloc (.cells #[.int .i64 p.owner, .string nm, .string vr, .slice la p.man.layers.length lc] 90))).heap.size = wr.heap.size + 1 := World.size_alloc _ _
        have hbase := HBase.out
        have hown : ∀ b, (Value.slice ov k cv).ownBlock = some b → w.heap.size ≤ b ∧ b < wr.heap.size := fun b hb => HS.out.lt hb
        obtain ⟨o6, c6, w6, hapB, hoB, hcB, hszB⟩ := (HS.out.fresh hc5).push (fewP p) (.slice ol p.man.layers.length cl) ((hlyA.kept hc45 (fun b hb e => by have := hb.1; omega)).wide (fun b hb => ⟨by have := hb.1; omega, by have := hb.2; omega, fun e => by have := hown b e; have := hb.1; omega⟩)) (HTx.out) (by rw [HLk.out]; omega) (by have := hc5.size; omega)
        rw [HLk.out, hs5] at hapB
        rw [HLk.out] at hoB
        have hrowB : (pkC (fewP p) (.slice ol p.man.layers.length cl)).toArray = #[.int .i64 p.owner, .string nm, .string vr, .slice ol p.man.layers.length cl] := by
          unfold pkC fewP; simp only; rw [HN1.out, HN2.out]
        rw [hrowB] at hapB
        have y3 : w4.cell? ⟨wr.heap.size, 3, none⟩ = some (.slice la p.man.layers.length lc) := cell_of_block hX4 rfl
        have yz : w4.frozen? ⟨wr.heap.size, 3, none⟩ = false := free_of_block hX4
        have v0 : (w4.setCell ⟨wr.heap.size, 3, none⟩ (.slice ol p.man.layers.length cl)).cell? ⟨wr.heap.size, 0, none⟩ = some (.int .i64 p.owner) := cell_of_block hX5 rfl
        have v1 : (w4.setCell ⟨wr.heap.size, 3, none⟩ (.slice ol p.man.layers.length cl)).cell? ⟨wr.heap.size, 1, none⟩ = some (.string nm) := cell_of_block hX5 rfl
        have v2 : (w4.setCell ⟨wr.heap.size, 3, none⟩ (.slice ol p.man.layers.length cl)).cell? ⟨wr.heap.size, 2, none⟩ = some (.string vr) := cell_of_block hX5 rfl
        have v3 : (w4.setCell ⟨wr.heap.size, 3, none⟩ (.slice ol p.man.layers.length cl)).cell? ⟨wr.heap.size, 3, none⟩ = some (.slice ol p.man.layers.length cl) := cell_of_block hX5 rfl
        have HOB := Lib.hid hoB
        have HCB := Lib.hid ((hc5.mono (fun _ _ h => h.elim) : Chg (fun b => some b = (Value.slice ov k cv).ownBlock) wr _).trans' hcB)
        have HOwn := Lib.hid hown
        clear hX4 hX5 hoB hcB hs5 hc45 hc5 hs3 hown hrowB hlyA hcA hszA
        go_wp2_with (first
          | (at_builtin; refine wpList_appR rfl _ _ _ rfl rfl rfl hapA ?_)
          | (at_builtin; refine wpList_appR rfl _ _ _ rfl rfl rfl hapB ?_))
        clear hapA hapB y3 yz v0 v1 v2 v3
        have htk : fewF' l (k + 1) = fewF' l k ++ [fewP p] := by
          unfold fewF'
          rw [List.take_add_one, HP.out, Option.toList_some, List.map_append]; rfl
        refine ⟨⟨k + 1, _, _, by go_num, rfl, hlt, h20, by rw [htk]; exact HOB.out, HC.out.new HCB.out (fun b e => (HOwn.out b e.symm).1)⟩, by simp [intOf]; omega⟩
    · have hk1 : ¬ (k : Int) < 20 := by omega
      have HK := Lib.hid (show fewF' l k = fewF l by unfold fewF' fewF; rw [show k = 20 by omega])
      go_wp2_with fail
      go_ret
      exact ⟨_, rfl, by rw [← HK.out]; exact HS.out.at, HC.out⟩
  · have hki : ¬ (k : Int) < (l.length : Int) := by omega
    have HK := Lib.hid (show fewF' l k = fewF l by unfold fewF' fewF; rw [List.take_of_length_le (by omega), List.take_of_length_le (by omega)])
    go_wp2_with fail
    go_ret
    exact ⟨_, rfl, by rw [← HK.out]; exact HS.out.at, HC.out⟩

end Go.Proofs.YtbjagmlbamjdbaaGreat.roots
end

/-
  GENERAL: arguments that are slices of records, opened with the form's own reach: what each slice within takes.
-/
section
set_option linter.unusedSimpArgs false
set_option linter.unusedVariables false
namespace Go.My
open Go.ChangeShapes Go.WideShapes Go.RowKit Go.Deep

section
variable {H : Type} {enc : TypeId × Value → H} {P : Program}

end
end Go.My
end

/-
  wal: texts as arguments.
-/
section
set_option linter.unusedSimpArgs false
set_option linter.unusedVariables false
namespace Go.Proofs.YtbjagmlbamjdbaaGreat.wals
open Go.ChangeShapes Go.WideShapes Go.RowKit Go.My Go.Deep disks

theorem strV_of (s : ByteArray) : Value.string s = strV s.data.toList := by cases s; simp [strV]

end Go.Proofs.YtbjagmlbamjdbaaGreat.wals
end

/-
  rootdb's laws: stacks and acts as arguments.
-/
section
set_option linter.unusedSimpArgs false
set_option linter.unusedVariables false
namespace Go.Proofs.YtbjagmlbamjdbaaGreat.roots
open Go.ChangeShapes Go.WideShapes Go.RowKit Go.Maps Go.My Go.ChangeMaps Go.Deep disks bufs wals kvs
set_option maxRecDepth 100000

variable {w w' : World}

theorem cellsA_dig : Tryz.prog.cellsOf 96 = 32 := by kernel_rfl
theorem cellsA_ref : Tryz.prog.cellsOf 98 = 33 := by kernel_rfl
theorem cellsA_u8 : Tryz.prog.cellsOf 5 = 1 := by kernel_rfl
theorem cellsA_pack : Tryz.prog.cellsOf 90 = 4 := by kernel_rfl
theorem cellsA_int : Tryz.prog.cellsOf 3 = 1 := by kernel_rfl
theorem cellsA_packs : Tryz.prog.cellsOf 22 = 1 := by kernel_rfl
theorem cellsA_ints : Tryz.prog.cellsOf 35 = 1 := by kernel_rfl
theorem cellsA_act : Tryz.prog.cellsOf 57 = 5 := by kernel_rfl

theorem bytes_of_ints : ∀ (zs : List Int), (∀ z ∈ zs, (Lit.int .u8 z).wf = true) → ∃ b : Txt, zs.map (Value.int .u8) = cellsB b ∧ b.length = zs.length
  | [], _ => ⟨[], rfl, rfl⟩
  | z :: zs, h => by
    obtain ⟨b, h1, h2⟩ := bytes_of_ints zs (fun y hy => h y (by simp [hy]))
    have hz := h z (by simp)
    have hr : 0 ≤ z ∧ z < 256 := by
      have hz' : (decide ((0 : Int) ≤ z) && decide (z ≤ 255)) = true := hz
      simp only [Bool.and_eq_true, decide_eq_true_eq] at hz'
      omega
    refine ⟨UInt8.ofNat z.toNat :: b, ?_, by rw [List.length_cons, List.length_cons, h2]⟩
    unfold cellsB at h1 ⊢
    rw [List.map_cons, List.map_cons, h1, toNat_ofNat_lt (by omega), Int.toNat_of_nonneg hr.1]

section
variable {H : Type} {enc : TypeId × Value → H} {W : World}

theorem ints_of_array {base : Nat} {sp : Nat → Bool} {held : Bool} {e t n fuel : Nat} {q : IntKind} {cs : List Value} {y : DataW H × List MemPlace} (he : Tryz.prog.underlying e = some (.array n t)) (ht : Tryz.prog.underlying t = some (.int q)) (hc : Tryz.prog.cellsOf t = 1) (hn : Tryz.prog.cellsOf e = n)
    (h : DataW.trod enc Tryz.prog W base sp held fuel e cs = some y) : ∃ zs : List Int, cs = zs.map (.int q) ∧ zs.length = n ∧ ∀ z ∈ zs, (Lit.int q z).wf = true := by
  obtain ⟨xs, k, _, _, hlen, hxs, hx⟩ := DataW.trod_array he h
  rw [hn] at hlen
  have one : ∀ i, i < n → ∃ z, cs[i]? = some (.int q z) ∧ (Lit.int q z).wf = true := by
    intro i hi
    have h4 := hx i hi
    rw [List.getElem?_eq_getElem (by omega)] at h4
    obtain ⟨z, h5, _, h6⟩ := DataW.trod_int ht h4
    refine ⟨z, ?_, h6⟩
    rw [hc, Nat.mul_one] at h5
    have : ((cs.drop i).take 1)[0]? = some (.int q z) := by rw [h5]; rfl
    rwa [List.getElem?_take_of_lt (by omega), List.getElem?_drop, Nat.add_zero] at this
  obtain ⟨Z, hZ⟩ := choose_lt (α := Int) one
  refine ⟨(List.range n).map Z, ?_, by simp, ?_⟩
  · apply List.ext_getElem?
    intro i
    by_cases hi : i < n
    · rw [(hZ i hi).1]; simp [hi]
    · rw [List.getElem?_eq_none (l := cs) (by omega), List.getElem?_eq_none (by simp; omega)]
  · intro z hz
    simp only [List.mem_map, List.mem_range] at hz
    obtain ⟨i, hi, rfl⟩ := hz
    exact (hZ i hi).2

theorem rf_of_trod {base : Nat} {sp : Nat → Bool} {held : Bool} {fuel : Nat} {cs : List Value} {y : DataW H × List MemPlace} (h : DataW.trod enc Tryz.prog W base sp held fuel 98 cs = some y) : ∃ x : Rf, cs = rfC x ∧ x.sum.length = 32 := by
  obtain ⟨xs, k, _, _, hlen, hxs, hx⟩ := DataW.trod_struct Tryz.underlying98 h
  rw [cellsA_ref] at hlen
  have h0 := hx 0 _ rfl
  have h1 := hx 1 _ rfl
  have hsz : xs.length = 2 := hxs
  rw [show xs[0]? = some (xs[0]'(by omega)) from List.getElem?_eq_getElem _] at h0
  rw [show xs[1]? = some (xs[1]'(by omega)) from List.getElem?_eq_getElem _] at h1
  have h0 : DataW.trod enc Tryz.prog W base sp held k 96 (cs.take 32) = some xs[0] := h0
  have h1 : DataW.trod enc Tryz.prog W base sp held k 3 ((cs.drop 32).take 1) = some xs[1] := h1
  obtain ⟨zs, hz, hzl, hzw⟩ := ints_of_array Tryz.underlying96 Tryz.underlying5 cellsA_u8 cellsA_dig h0
  obtain ⟨n, hn, _, _⟩ := DataW.trod_int Tryz.underlying3 h1
  obtain ⟨b, hb, hbl⟩ := bytes_of_ints zs hzw
  refine ⟨⟨b, n⟩, ?_, by rw [← hzl]; exact hbl⟩
  unfold rfC
  simp only
  rw [← hb, ← hz, ← hn]
  have : (cs.drop 32).take 1 = cs.drop 32 := List.take_of_length_le (by rw [List.length_drop]; omega)
  rw [this, List.take_append_drop]

theorem list_of {α : Type} {R : α → Prop} {f : α → List Value} : ∀ {l : List (List Value)}, (∀ x ∈ l, ∃ a, x = f a ∧ R a) → ∃ L : List α, l = L.map f ∧ ∀ a ∈ L, R a
  | [], _ => ⟨[], rfl, by simp⟩
  | x :: l, h => by
    obtain ⟨L, rfl, hL⟩ := list_of (R := R) (f := f) (l := l) (fun y hy => h y (by simp [hy]))
    obtain ⟨a, rfl, ha⟩ := h x (by simp)
    refine ⟨a :: L, rfl, fun b hb => ?_⟩
    rcases List.mem_cons.1 hb with rfl | hb
    · exact ha
    · exact hL b hb

theorem inF_old {n m : Nat} {oa : Option Addr} {l : List (List Value)} (h : RowsAt W n oa l) (hn : 0 < n) (hm : l.length = m) : InF (fun b => b < W.heap.size) oa m := by
  intro hne b off ho
  exact h.lt hn ho (by intro e; rw [e] at hm; simp at hm; omega)

theorem pk_of_trod {base : Nat} {sp : Nat → Bool} {held : Bool} {fuel : Nat} {cs : List Value} {y : DataW H × List MemPlace} (h : DataW.trod enc Tryz.prog W base sp held fuel 90 cs = some y) :
    ∃ (pu : Pk × Value), cs = pkC pu.1 pu.2 ∧ (LysAt W (fun b => b < W.heap.size) pu.2 pu.1.man.layers ∧ pu.1.man.name.length ≤ maxLen ∧ pu.1.man.ver.length ≤ maxLen) := by
  obtain ⟨xs, k, _, _, hlen, hxs, hx⟩ := DataW.trod_struct Tryz.underlying90 h
  rw [cellsA_pack] at hlen
  have h0 := hx 0 _ rfl
  have h1 := hx 1 _ rfl
  have hsz : xs.length = 2 := hxs
  rw [show xs[0]? = some (xs[0]'(by omega)) from List.getElem?_eq_getElem _] at h0
  rw [show xs[1]? = some (xs[1]'(by omega)) from List.getElem?_eq_getElem _] at h1
  match cs, hlen with
  | [a0, a1, a2, a3], _ =>
    have h0 : DataW.trod enc Tryz.prog W base sp held k 3 [a0] = some xs[0] := h0
    have h1 : DataW.trod enc Tryz.prog W base sp held k 88 [a1, a2, a3] = some xs[1] := h1
    obtain ⟨ow, e0, _, _⟩ := DataW.trod_int Tryz.underlying3 h0
    obtain ⟨ys, k', _, _, _, hys, hy⟩ := DataW.trod_struct Tryz.underlying88 h1
    have g0 := hy 0 _ rfl
    have g1 := hy 1 _ rfl
    have g2 := hy 2 _ rfl
    have hsy : ys.length = 3 := hys
    rw [show ys[0]? = some (ys[0]'(by omega)) from List.getElem?_eq_getElem _] at g0
    rw [show ys[1]? = some (ys[1]'(by omega)) from List.getElem?_eq_getElem _] at g1
    rw [show ys[2]? = some (ys[2]'(by omega)) from List.getElem?_eq_getElem _] at g2
    have g0 : DataW.trod enc Tryz.prog W base sp held k' 9 [a1] = some ys[0] := g0
    have g1 : DataW.trod enc Tryz.prog W base sp held k' 9 [a2] = some ys[1] := g1
    have g2 : DataW.trod enc Tryz.prog W base sp held k' 86 [a3] = some ys[2] := g2
    obtain ⟨s1, e1, _, z1⟩ := DataW.trod_string Tryz.underlying9 g0
    obtain ⟨s2, e2, _, z2⟩ := DataW.trod_string Tryz.underlying9 g1
    obtain ⟨oa, l, cap, e3, c1, c2, hr, hel⟩ := open_rows_trod Tryz.underlying86 cellsA_ref (by omega) g2
    simp only [List.cons.injEq, and_true] at e0 e1 e2 e3
    subst e0; subst e1; subst e2; subst e3
    obtain ⟨L, rfl, hL⟩ := list_of (R := fun x : Rf => x.sum.length = 32) (f := rfC) (fun x hx' => by obtain ⟨_, _, hy'⟩ := hel x hx'; exact rf_of_trod hy')
    rw [List.length_map] at c1 ⊢
    refine ⟨(⟨ow, ⟨s1.data.toList, s2.data.toList, L⟩⟩, .slice oa L.length cap), ?_, ⟨⟨oa, cap, rfl, hr, inF_old hr (by omega) (List.length_map ..), c1, c2⟩, hL⟩, z1, z2⟩
    simp only [pkC, ← strV_of]

theorem zip_pairs : ∀ (L : List (Pk × Value)), L.map (fun pu => pkC pu.1 pu.2) = List.zipWith pkC (L.map (·.1)) (L.map (·.2))
  | [] => rfl
  | _ :: L => by rw [List.map_cons, List.map_cons, List.map_cons, List.zipWith_cons_cons, zip_pairs L]

theorem pks_of_rows {oa : Option Addr} {l : List (List Value)} {cap : Nat} (c1 : l.length ≤ cap) (c2 : cap ≤ maxLen) (hr : RowsAt W 4 oa l) (hel : ∀ x ∈ l, ∃ fuel y, DataW.trod enc Tryz.prog W 0 (fun _ => true) true fuel 90 x = some y) :
    ∃ L : List Pk, PksAt W (fun b => b < W.heap.size) (.slice oa l.length cap) L := by
  obtain ⟨L, rfl, hL⟩ := list_of (R := fun pu : Pk × Value => LysAt W (fun b => b < W.heap.size) pu.2 pu.1.man.layers ∧ pu.1.man.name.length ≤ maxLen ∧ pu.1.man.ver.length ≤ maxLen) (f := fun pu => pkC pu.1 pu.2) (fun x hx' => by obtain ⟨_, _, hy'⟩ := hel x hx'; exact pk_of_trod hy')
  rw [List.length_map] at c1 ⊢
  refine ⟨L.map (·.1), ⟨oa, cap, L.map (·.2), by rw [List.length_map], by rw [List.length_map, List.length_map], by rw [← zip_pairs]; exact hr, ?_, fun i p u hp hu => ?_, by rw [List.length_map]; exact c1, c2⟩, fun p hp => ?_⟩
  · rw [List.length_map]; exact inF_old hr (by omega) (List.length_map ..)
  · rw [List.getElem?_map] at hp hu
    cases hLi : L[i]? with
    | none => rw [hLi] at hp; simp at hp
    | some pu =>
      rw [hLi] at hp hu
      simp only [Option.map_some, Option.some.injEq] at hp hu
      subst hp; subst hu
      exact (hL pu (List.mem_of_getElem? hLi)).1
  · obtain ⟨pu, hpu, rfl⟩ := List.mem_map.1 hp
    exact (hL pu hpu).2

/-- An act of the laws. -/
structure RAct where
  kind : Int
  tx : Int
  n : Int
  pv : Value
  packs : List Pk
  kv : Value
def RAct.row (a : RAct) : List Value := [.int .i64 a.kind, .int .i64 a.tx, .int .i64 a.n, a.pv, a.kv]
structure RAct.ok (W : World) (a : RAct) : Prop where
  pv : PksAt W (fun b => b < W.heap.size) a.pv a.packs
  kv : ∃ oa n cap, a.kv = .slice oa n cap

theorem act_of_trod {fuel : Nat} {cs : List Value} {y : DataW H × List MemPlace} (h : DataW.trod enc Tryz.prog W 0 (fun _ => true) true fuel 57 cs = some y) : ∃ a : RAct, cs = a.row ∧ a.ok W := by
  obtain ⟨hl, k, hf⟩ := trod_fields Tryz.underlying57 cellsA_act rfl (by
    intro i f hf
    match i, hf with
    | 0, hf => cases hf; exact ⟨rfl, cellsA_int⟩
    | 1, hf => cases hf; exact ⟨rfl, cellsA_int⟩
    | 2, hf => cases hf; exact ⟨rfl, cellsA_int⟩
    | 3, hf => cases hf; exact ⟨rfl, cellsA_packs⟩
    | 4, hf => cases hf; exact ⟨rfl, cellsA_ints⟩
    | i + 5, hf => simp at hf) h
  match cs, hl with
  | [a0, a1, a2, a3, a4], _ =>
    obtain ⟨_, h0⟩ := hf 0 _ _ rfl rfl
    obtain ⟨_, h1⟩ := hf 1 _ _ rfl rfl
    obtain ⟨_, h2⟩ := hf 2 _ _ rfl rfl
    obtain ⟨_, h3⟩ := hf 3 _ _ rfl rfl
    obtain ⟨_, h4⟩ := hf 4 _ _ rfl rfl
    obtain ⟨z0, e0, _, _⟩ := DataW.trod_int Tryz.underlying3 h0
    obtain ⟨z1, e1, _, _⟩ := DataW.trod_int Tryz.underlying3 h1
    obtain ⟨z2, e2, _, _⟩ := DataW.trod_int Tryz.underlying3 h2
    obtain ⟨oa, l, cap, e3, c1, c2, hr, hel⟩ := open_rows_trod Tryz.underlying22 cellsA_pack (by omega) h3
    obtain ⟨ob, l2, cap2, e4, -, -, -, -⟩ := open_rows_trod Tryz.underlying35 cellsA_int (by omega) h4
    simp only [List.cons.injEq, and_true] at e0 e1 e2 e3 e4
    subst e0; subst e1; subst e2; subst e3; subst e4
    obtain ⟨L, hL⟩ := pks_of_rows c1 c2 hr hel
    exact ⟨⟨z0, z1, z2, _, L, _⟩, rfl, hL, _, _, _, rfl⟩

theorem open_acts13 {v : Value} {d : DataW H} {ps : List MemPlace} {r : Reach} {b0 : Nat}
    (hv : Value.okWide Tryz.prog W r b0 53 v) (h : DataW.Trod enc Tryz.prog W 0 (fun _ => true) true 53 v d ps) :
    ∃ (oa : Option Addr) (l : List RAct) (cap : Nat), v = .slice oa l.length cap ∧ l.length ≤ cap ∧ cap ≤ maxLen ∧ RowsAt W 5 oa (l.map RAct.row) ∧ ∀ a ∈ l, a.ok W := by
  obtain ⟨oa, l, cap, rfl, h1, h2, h3, h4⟩ := open_rows Tryz.underlying53 cellsA_act (by omega) hv h
  obtain ⟨L, rfl, hL⟩ := list_of (R := fun a : RAct => a.ok W) (f := RAct.row) (fun x hx' => by obtain ⟨_, _, hy'⟩ := h4 x hx'; exact act_of_trod hy')
  exact ⟨oa, L, cap, by rw [List.length_map], by simpa using h1, h2, h3, hL⟩
end

end Go.Proofs.YtbjagmlbamjdbaaGreat.roots
end

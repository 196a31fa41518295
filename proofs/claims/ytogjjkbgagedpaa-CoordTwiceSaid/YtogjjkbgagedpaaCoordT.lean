/-
  coord's laws: a tick of CoordTicks, in one contract for all rounds.
-/
import Derived.Test.YtogjjkbgagedpaaCoordS
namespace Go.Proofs.Ytogjjkbgagedpaa.coords
open Go.RowKit Go.Maps Go.My Go.ChangeMaps
set_option maxRecDepth 100000

variable {w w' : World} {c q : Nat} {Fc : Nat → Prop}

def rowOf (p : Int × Int × Int) : List Value := msgC p.1 0 p.2.1 p.2.2 false
def cnt (k : Int) (P : List (Int × Int × Int)) : Nat := (P.filter (fun p => p.1 == k)).length
def tag (k t : Int) (l : List Int) : List (Int × Int × Int) := l.map (fun r => (k, r, t))

theorem cnt_append (k : Int) (P Q : List (Int × Int × Int)) : cnt k (P ++ Q) = cnt k P + cnt k Q := by simp [cnt]
theorem cnt_tag (k k' t : Int) (l : List Int) : cnt k (tag k' t l) = if k' = k then l.length else 0 := by
  induction l with
  | nil => simp [cnt, tag]
  | cons a l ih =>
    have e : cnt k (tag k' t (a :: l)) = (if k' = k then 1 else 0) + cnt k (tag k' t l) := by
      simp only [cnt, tag, List.map_cons, List.filter_cons]
      by_cases h : k' = k
      · simp [h]; omega
      · simp [h]
    rw [e, ih]
    split <;> simp <;> omega
theorem cnt_succ (k : Int) (P : List (Int × Int × Int)) {i : Nat} {p : Int × Int × Int} (h : P[i]? = some p) : cnt k (P.take (i + 1)) = cnt k (P.take i) + if p.1 = k then 1 else 0 := by
  rw [List.take_add_one, h, cnt_append, Option.toList_some]
  congr 1
  by_cases e : p.1 = k
  · simp [cnt, e]
  · simp [cnt, e]
theorem cnt_le (k : Int) (P : List (Int × Int × Int)) : cnt k P ≤ P.length := List.length_filter_le _ _

theorem rows_tag (k t : Int) (l : List Int) : (tag k t l).map rowOf = l.map (fun r => msgC k 0 r t false) := by
  unfold tag; rw [List.map_map]; rfl

/-- The rounds of CoordTicks: i of them are done. -/
structure Rnd (w : World) (c q : Nat) (Fc : Nat → Prop) (x1 x2 qa1 qa2 : Nat) (F1 F2 : Nat → Prop) (pv1 pv2 : Value) (L M : Nat) (ans : List (Int × Bool)) (i : Nat) : Prop where
  young : i < L → CoIs w c Fc L [(1, x1), (2, x2)] q ∧ EntIs w x1 F1 ⟨1, i, upto M, ans⟩ pv1 qa1
  old : L ≤ i → CoIs w c Fc L [(2, x2)] q
  two : EntIs w x2 F2 ⟨3, 0, upto M, ans⟩ pv2 qa2

theorem Rnd.fresh {w w' : World} {c q : Nat} {Fc : Nat → Prop} {x1 x2 qa1 qa2 : Nat} {F1 F2 : Nat → Prop} {pv1 pv2 : Value} {L M : Nat} {ans : List (Int × Bool)} {i : Nat} (h : Rnd w c q Fc x1 x2 qa1 qa2 F1 F2 pv1 pv2 L M ans i) (hc : Chg (fun _ => False) w w') : Rnd w' c q Fc x1 x2 qa1 qa2 F1 F2 pv1 pv2 L M ans i :=
  ⟨fun hy => ⟨(h.young hy).1.fresh hc, (h.young hy).2.fresh hc⟩, fun ho => (h.old ho).fresh hc, h.two.fresh hc⟩

structure Tells (L M lack i : Nat) (P : List (Int × Int × Int)) (gl : List Int) : Prop where
  len : P.length ≤ 12
  co : cnt 3 P = lack
  y : i + 1 < L → cnt 1 P = lack ∧ cnt 4 P = 0 ∧ gl = []
  e : i + 1 = L → cnt 1 P = 0 ∧ cnt 4 P = M ∧ gl = [1]
  o : L < i + 1 → cnt 1 P = 0 ∧ cnt 4 P = 0 ∧ gl = []

theorem tick_case (w : World) {x1 x2 qa1 qa2 : Nat} {F1 F2 : Nat → Prop} {pv1 pv2 : Value} {L M lack i : Nat} {ans : List (Int × Bool)} (h : Rnd w c q Fc x1 x2 qa1 qa2 F1 F2 pv1 pv2 L M ans i) (hM : M ≤ 6) (hL : L ≤ 1000)
    (hl : (lacksOf ⟨3, 0, upto M, ans⟩ (upto M).length).length = lack) (a1 : ∀ k, F1 k → ¬ Fc k) (a2 : ∀ k, F2 k → ¬ F1 k ∧ ¬ Fc k) :
    Calls Try.prog 22 #[ptrV c] w fun e w' => ∃ v g P gl, e = .returned (.tuple #[v, g]) ∧ OwnRecs w' w.heap.size 24 6 v (P.map rowOf) ∧ w'.ownsRow w.heap.size 3 1 g gl.length (gl.map (Value.int .i64)) ∧ Tells L M lack i P gl ∧ Rnd w' c q Fc x1 x2 qa1 qa2 F1 F2 pv1 pv2 L M ans (i + 1) ∧ Chg (fun k => F1 k ∨ Fc k) w w' := by
  have hlle : lack ≤ 6 := by
    rw [← hl]
    exact Nat.le_trans (lacks_le ⟨3, 0, upto M, ans⟩) (by rw [show (EV.mk 3 0 (upto M) ans).ps = upto M from rfl, upto_len]; exact hM)
  by_cases hy : i < L
  · obtain ⟨hC, hE1⟩ := h.young hy
    have ht := tick_two w hC hE1 h.two rfl rfl (by constructor <;> simp <;> omega) a1 a2
    have hag : EV.aged ⟨1, i, upto M, ans⟩ = ⟨1, ((i + 1 : Nat) : Int), upto M, ans⟩ := by simp [EV.aged]
    rw [hag] at ht
    by_cases hL' : (L : Int) ≤ (i : Int) + 1
    · have hiL : i + 1 = L := by omega
      rw [if_pos hL', if_pos hL', if_pos hL', if_pos hL'] at ht
      refine ht.mono ?_
      rintro e w' ⟨v, g, rfl, ho, hg, hC', hE1', hE2', hc⟩
      refine ⟨v, g, tag 4 1 (upto M) ++ tag 3 2 (lacksOf ⟨3, 0, upto M, ans⟩ (upto M).length), [1], rfl, ?_, hg, ⟨?_, ?_, fun h => by omega, fun _ => ⟨?_, ?_, rfl⟩, fun h => by omega⟩, ⟨fun h => by omega, fun _ => hC', hE2'⟩, hc⟩
      · rw [List.map_append, rows_tag, rows_tag]; exact ho
      · simp only [List.length_append, tag, List.length_map, upto_len]
        have := hl; rw [upto_len] at this; omega
      · rw [cnt_append, cnt_tag, cnt_tag, if_neg (by decide), if_pos rfl, hl]; omega
      · rw [cnt_append, cnt_tag, cnt_tag, if_neg (by decide), if_neg (by decide)]
      · rw [cnt_append, cnt_tag, cnt_tag, if_pos rfl, if_neg (by decide), upto_len]; omega
    · rw [if_neg hL', if_neg hL', if_neg hL', if_neg hL'] at ht
      refine ht.mono ?_
      rintro e w' ⟨v, g, rfl, ho, hg, hC', hE1', hE2', hc⟩
      refine ⟨v, g, tag 1 1 (lacksOf ⟨3, 0, upto M, ans⟩ (upto M).length) ++ tag 3 2 (lacksOf ⟨3, 0, upto M, ans⟩ (upto M).length), [], rfl, ?_, hg, ⟨?_, ?_, fun _ => ⟨?_, ?_, rfl⟩, fun h => by omega, fun h => by omega⟩, ⟨fun h => ⟨hC', hE1'⟩, fun h => by omega, hE2'⟩, hc⟩
      · rw [List.map_append, rows_tag, rows_tag]; exact ho
      · simp only [List.length_append, tag, List.length_map]
        omega
      · rw [cnt_append, cnt_tag, cnt_tag, if_neg (by decide), if_pos rfl, hl]; omega
      · rw [cnt_append, cnt_tag, cnt_tag, if_pos rfl, if_neg (by decide), hl]; omega
      · rw [cnt_append, cnt_tag, cnt_tag, if_neg (by decide), if_neg (by decide)]
  · refine (tick_last w (h.old (by omega)) h.two rfl).mono ?_
    rintro e w' ⟨v, rfl, ho, hc⟩
    refine ⟨v, .slice none 0 0, tag 3 2 (lacksOf ⟨3, 0, upto M, ans⟩ (upto M).length), [], rfl, by rw [rows_tag]; exact ho, World.ownsRow_nil _ _ _ _, ⟨?_, ?_, fun h => by omega, fun h => by omega, fun _ => ⟨?_, ?_, rfl⟩⟩, ⟨fun h => by omega, fun h' => (h.old (by omega)).fresh hc, h.two.fresh hc⟩, hc.mono (fun _ _ h => h.elim)⟩
    · simp only [tag, List.length_map]; omega
    · rw [cnt_tag, if_pos rfl, hl]
    · rw [cnt_tag, if_neg (by decide)]
    · rw [cnt_tag, if_neg (by decide)]

theorem lacks_all (M : Nat) : (lacksOf ⟨3, 0, upto M, []⟩ (upto M).length).length = 0 + (M - 0) := by
  unfold lacksOf
  rw [List.take_length, List.filter_eq_self.2 (by simp [mget]), upto_len]
  omega

theorem slat_new (w : World) (a : Int) : SlAt (w.alloc (.cells #[.int .i64 a] 3)) (.slice (some ⟨w.heap.size, 0, none⟩) 1 1) ([a].map (Value.int .i64)) := by
  refine ⟨_, _, rfl, fun _ => ⟨_, _, rfl⟩, fun b off ho i x hx => ?_⟩
  cases ho
  cases i with
  | zero =>
    have : x = .int .i64 a := by simpa using hx.symm
    subst this
    exact cell_of_block (block_alloc_new _ _) rfl
  | succ i => simp at hx

theorem mod_lim (z : Int) : ∃ L : Nat, 1 ≤ L ∧ L ≤ 30 ∧ wrap64 (z.tmod 30 + 30) = z.tmod 30 + 30 ∧ wrap64 (1 + (z.tmod 30 + 30).tmod 30) = (L : Int) := by
  obtain ⟨R, h1, h2, h3⟩ := mod_twice z 30 (by omega) (by omega)
  have h2 : wrap64 (z.tmod 30 + 30) = z.tmod 30 + 30 := h2
  have h3 : (z.tmod 30 + 30).tmod 30 = (R : Int) := h3
  exact ⟨R + 1, by omega, by omega, h2, by rw [h3, IntWalk.wrap64_in _ (by omega)]; omega⟩

theorem mod_more (z : Int) : ∃ K : Nat, K ≤ 39 ∧ wrap64 (z.tmod 40 + 40) = z.tmod 40 + 40 ∧ (z.tmod 40 + 40).tmod 40 = (K : Int) := by
  obtain ⟨R, h1, h2, h3⟩ := mod_twice z 40 (by omega) (by omega)
  exact ⟨R, by omega, h2, h3⟩

end Go.Proofs.Ytogjjkbgagedpaa.coords

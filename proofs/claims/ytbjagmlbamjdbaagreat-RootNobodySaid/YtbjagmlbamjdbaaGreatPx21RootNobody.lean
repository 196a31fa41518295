/-
  rootdb's laws: the chapter's example.
-/
import Derived.Test.YtbjagmlbamjdbaaGreatPx1RootNobody
import Derived.Test.YtbjagmlbamjdbaaGreatPx6RootNobody
import Derived.Test.YtbjagmlbamjdbaaGreatPx14RootNobody
import Derived.Test.YtbjagmlbamjdbaaGreatPx20RootNobody
import Derived.SliceStrings

section
set_option linter.unusedSimpArgs false
set_option linter.unusedVariables false
namespace Go.Proofs.YtbjagmlbamjdbaaGreat.roots
open Go.RowKit Go.Maps Go.My Go.ChangeMaps disks bufs wals kvs
set_option maxRecDepth 100000

variable {W w w' : World} {P Q : Nat → Prop} {r d s a : Nat} {X : DV} {m : List KV} {recs : List Txt} {S : RS}

def zer32 : Dg := List.replicate 32 0
def lpk : Pk := ⟨1, ⟨[97], [49], [⟨zer32, 5⟩]⟩⟩
def exS1 : RS := stageS nilS 7 [lpk]
def exS2 : RS := commitS exS1 7
theorem ex_e1 : stageE nilS 7 [lpk] = none := by decide
theorem ex_e2 : stageE exS1 8 [] = some 10 := by decide
theorem ex_e3 : commitE exS1 8 = some 11 := by decide
theorem ex_e4 : commitE exS1 7 = none := by decide
theorem ex_e5 : commitE exS2 7 = some 0 := by decide
theorem ex_e6 : abortE exS2 7 = some 11 := by decide
theorem ex_size : sizeF 1 [lpk] = 5 := by decide
theorem lpk_dig : ∀ p ∈ [lpk], p.dig := by
  intro p hp x hx
  rw [List.mem_singleton] at hp
  subst hp
  simp only [lpk, List.mem_singleton] at hx
  subst hx
  rfl

/-- The example's packages, as they are laid. -/
theorem lpk_at (w : World) {g h : Nat} (h1 : w.heap[g]? = some (.cells (rfC ⟨zer32, 5⟩).toArray 98 (0, 0))) (h2 : w.heap[h]? = some (.cells #[.int .i64 1, .string ⟨#[97]⟩, .string ⟨#[49]⟩, .slice (some ⟨g, 0, none⟩) 1 1] 90 (0, 0))) :
    PksAt w (fun b => b = g ∨ b = h) (.slice (some ⟨h, 0, none⟩) 1 1) [lpk] := by
  have hl : LysAt w (fun b => b = g ∨ b = h) (.slice (some ⟨g, 0, none⟩) 1 1) lpk.man.layers := by
    refine ⟨⟨some ⟨g, 0, none⟩, 1, rfl, ⟨fun _ => ⟨g, 0, rfl⟩, fun i r hr => ?_, fun b off ho i r j v hi hj => ?_⟩, fun _ b off ho => ?_, Nat.le_refl _, by unfold maxLen; omega⟩, fun x hx => ?_⟩
    · cases i with
      | zero => simp only [lpk, List.map_cons, List.map_nil, List.getElem?_cons_zero, Option.some.injEq] at hr; subst hr; rfl
      | succ i => simp [lpk] at hr
    · cases ho
      cases i with
      | zero =>
        simp only [lpk, List.map_cons, List.map_nil, List.getElem?_cons_zero, Option.some.injEq] at hi
        subst hi
        rw [show 0 + 0 * 33 + j = j by omega]
        exact cell_of_block h1 (by simpa using hj)
      | succ i => simp [lpk] at hi
    · cases ho; exact Or.inl rfl
    · simp only [lpk, List.mem_singleton] at hx; subst hx; rfl
  refine ⟨⟨some ⟨h, 0, none⟩, 1, [.slice (some ⟨g, 0, none⟩) 1 1], rfl, rfl, ⟨fun _ => ⟨h, 0, rfl⟩, fun i r hr => ?_, fun b off ho i r j v hi hj => ?_⟩, fun _ b off ho => ?_, fun i p u hp hu => ?_, Nat.le_refl _, by unfold maxLen; omega⟩, fun p hp => ?_⟩
  · cases i with
    | zero => simp only [List.zipWith_cons_cons, List.zipWith_nil_left, List.getElem?_cons_zero, Option.some.injEq] at hr; subst hr; rfl
    | succ i => simp at hr
  · cases ho
    cases i with
    | zero =>
      simp only [List.zipWith_cons_cons, List.zipWith_nil_left, List.getElem?_cons_zero, Option.some.injEq] at hi
      subst hi
      rw [show 0 + 0 * 4 + j = j by omega]
      exact cell_of_block h2 (by simpa [pkC, lpk, strV] using hj)
    | succ i => simp at hi
  · cases ho; exact Or.inr rfl
  · cases i with
    | zero =>
      simp only [List.getElem?_cons_zero, Option.some.injEq] at hp hu
      subst hp; subst hu
      exact hl
    | succ i => simp at hp
  · rw [List.mem_singleton] at hp
    subst hp
    simp [lpk, maxLen]

set_option maxHeartbeats 4000000 in
theorem works_any (w : World) : Calls Tryz.prog 17 #[] w fun e w' => e = .returned (.bool true) ∧ Chg (fun _ => False) w w' := by
  have HB := Lib.hid (Blank.new 60 (by omega) (by omega))
  have HNew := Lib.hid (ds_new w w (Chg.refl _ _) 60 (by omega) (by omega))
  go_enter Tryz.func17, Tryz.ntmps17
  go_wp2_with (first
    | (go_at_call 25; fail))
  refine HNew.out.mono ?_
  rintro e w1 ⟨d, rfl, P, hd⟩
  have HO := Lib.hid (open_blank w1 hd HB.out rfl)
  have HW1 := Lib.hid hd.chg
  have HP1 := Lib.hid hd.lt
  clear hd HNew
  dsimp only
  go_wp2_with (first
    | (go_at_call 24; fail))
  refine HO.out.mono ?_
  rintro e w2 ⟨r, rfl, Q, X, recs, a, m, hR, hlen, -, -⟩
  have hX : areaN X.B.length = 29 := by rw [hlen, DV.new_len]; rfl
  have HR := Lib.hid hR
  have HX := Lib.hid hX
  clear hR hX hlen HO
  dsimp only
  go_wp2_with (first
    | (go_at_call 19; fail))
  obtain ⟨w3, hw3⟩ : ∃ w3, (w2.alloc (.cells (rfC ⟨zer32, 5⟩).toArray 98)).alloc (.cells #[.int .i64 1, .string ⟨#[97]⟩, .string ⟨#[49]⟩, .slice (some ⟨w2.heap.size, 0, none⟩) 1 1] 90) = w3 := ⟨_, rfl⟩
  have hc3 : Chg (fun _ => False) w2 w3 := by rw [← hw3]; exact ((Chg.refl _ _).alloc _).alloc _
  have hg3 : w3.heap[w2.heap.size]? = some (.cells (rfC ⟨zer32, 5⟩).toArray 98 (0, 0)) := by rw [← hw3]; exact ((Chg.refl (fun _ => False) _).alloc _).at (block_alloc_new w2 _) id
  have hh3 : w3.heap[w2.heap.size + 1]? = some (.cells #[.int .i64 1, .string ⟨#[97]⟩, .string ⟨#[49]⟩, .slice (some ⟨w2.heap.size, 0, none⟩) 1 1] 90 (0, 0)) := by
    rw [← hw3]
    have := block_alloc_new (w2.alloc (.cells (rfC ⟨zer32, 5⟩).toArray 98)) (.cells #[.int .i64 1, .string ⟨#[97]⟩, .string ⟨#[49]⟩, .slice (some ⟨w2.heap.size, 0, none⟩) 1 1] 90)
    rw [World.size_alloc] at this
    exact this
  have hp3 := lpk_at w3 hg3 hh3
  have hlt3 := lt_of_block hh3
  have hst := rl_stage w3 (HR.out.fresh hc3) (by omega) 7 hp3 (fun b hb => ⟨fun hq => by have := HR.out.rt.lt b hq; omega, by omega⟩)
  rw [← hw3] at hst
  refine hst.mono ?_
  rw [hw3]
  rintro e w4 ⟨z, rfl, S', ⟨⟨Q4, X4, recs4, s4, a4, m4, hR4, hl4, hs4, ho4⟩, hc4⟩, ht4⟩
  obtain ⟨rfl, rfl⟩ := Told.done (ex_e1 ▸ ht4) (HR.out.room_stage ex_e1 lpk_dig (by decide) (by rw [HX.out]; exact of_decide_eq_true (by decide)))
  have hp4 : PksAt w4 (fun b => b = w2.heap.size ∨ b = w2.heap.size + 1) (.slice (some ⟨w2.heap.size + 1, 0, none⟩) 1 1) [lpk] := hp3.kept hc4 (fun b hb hq => by have := HR.out.rt.lt b hq; omega)
  have hoff4 : ∀ b, b = w2.heap.size ∨ b = w2.heap.size + 1 → ¬ Q4 b := fun b hb => ho4 b (by omega) (fun hq => by have := HR.out.rt.lt b hq; omega)
  obtain ⟨g, hg⟩ : ∃ g, w2.heap.size = g := ⟨_, rfl⟩
  have hlt4 : ∀ b, b = w2.heap.size ∨ b = w2.heap.size + 1 → b < w4.heap.size := fun b hb => by have := hc4.size; omega
  rw [hg] at hp4 hoff4 hlt4 ⊢
  have HLt4 := Lib.hid hlt4
  have HR4 := Lib.hid (show RL Q4 w w4 r d X4 recs4 s4 a4 m4 exS1 from hR4)
  have HX4 := Lib.hid (show areaN X4.B.length = 29 ∧ s4 ≤ 2 from ⟨by rw [hl4, HX.out], hs4⟩)
  have HP4 := Lib.hid hp4
  have HOff4 := Lib.hid hoff4
  clear hw3 hc3 hg3 hh3 hp3 hlt3 hst hR4 hl4 hs4 ho4 hc4 ht4 hp4 hoff4 hlt4 hg HR HX
  dsimp only
  go_wp2_with (first
    | (go_at_call 19; fail))
  have hst := rl_stage w4 HR4.out (by have := HX4.out.2; omega) 8 (PksAt.nil w4 (fun _ => False)) (fun b hb => hb.elim)
  refine hst.mono ?_
  clear hst
  rintro e w5 ⟨z, rfl, S', ⟨⟨Q5, X5, recs5, s5, a5, m5, hR5, hl5, hs5, ho5⟩, hc5⟩, ht5⟩
  obtain ⟨hz, rfl⟩ := ht5.early ex_e2
  obtain rfl : z = 10 := hz
  have HR5 := Lib.hid (show RL Q5 w w5 r d X5 recs5 s5 a5 m5 exS1 from hR5)
  have HX5 := Lib.hid (show areaN X5.B.length = 29 ∧ s5 ≤ 3 from ⟨by rw [hl5, HX4.out.1], by have := HX4.out.2; omega⟩)
  have HP5 := Lib.hid (HP4.out.kept hc5 (fun b hb hq => HOff4.out b hb hq))
  have HOff5 := Lib.hid (show ∀ b, b = g ∨ b = g + 1 → ¬ Q5 b from fun b hb => ho5 b (HLt4.out b hb) (HOff4.out b hb))
  have HLt5 := Lib.hid (show ∀ b, b = g ∨ b = g + 1 → b < w5.heap.size from fun b hb => Nat.lt_of_lt_of_le (HLt4.out b hb) hc5.size)
  clear hR5 hl5 hs5 ho5 hc5 ht5
  dsimp only
  go_wp2_with (first
    | (go_at_call 20; fail))
  have hst := rl_commit w5 HR5.out (by have := HX5.out.2; omega) (by decide) 8
  refine hst.mono ?_
  clear hst
  rintro e w6 ⟨z, rfl, S', ⟨⟨Q6, X6, recs6, s6, a6, m6, hR6, hl6, hs6, ho6⟩, hc6⟩, ht6⟩
  obtain ⟨hz, rfl⟩ := ht6.early ex_e3
  obtain rfl : z = 11 := hz
  have HR6 := Lib.hid (show RL Q6 w w6 r d X6 recs6 s6 a6 m6 exS1 from hR6)
  have HX6 := Lib.hid (show areaN X6.B.length = 29 ∧ s6 ≤ 4 from ⟨by rw [hl6, HX5.out.1], by have := HX5.out.2; omega⟩)
  have HP6 := Lib.hid (HP5.out.kept hc6 (fun b hb hq => HOff5.out b hb hq))
  have HOff6 := Lib.hid (show ∀ b, b = g ∨ b = g + 1 → ¬ Q6 b from fun b hb => ho6 b (HLt5.out b hb) (HOff5.out b hb))
  have HLt6 := Lib.hid (show ∀ b, b = g ∨ b = g + 1 → b < w6.heap.size from fun b hb => Nat.lt_of_lt_of_le (HLt5.out b hb) hc6.size)
  clear hR6 hl6 hs6 ho6 hc6 ht6
  dsimp only
  go_wp2_with (first
    | (go_at_call 20; fail))
  have hst := rl_commit w6 HR6.out (by have := HX6.out.2; omega) (by decide) 7
  refine hst.mono ?_
  clear hst
  rintro e w7 ⟨z, rfl, S', ⟨⟨Q7, X7, recs7, s7, a7, m7, hR7, hl7, hs7, ho7⟩, hc7⟩, ht7⟩
  obtain ⟨rfl, rfl⟩ := Told.done (ex_e4 ▸ ht7) (HR6.out.room_commit ex_e4 (by decide) (by rw [HX6.out.1]; exact of_decide_eq_true (by decide)))
  have HR7 := Lib.hid (show RL Q7 w w7 r d X7 recs7 s7 a7 m7 exS2 from hR7)
  have HX7 := Lib.hid (show areaN X7.B.length = 29 ∧ s7 ≤ 5 from ⟨by rw [hl7, HX6.out.1], by have := HX6.out.2; omega⟩)
  have HP7 := Lib.hid (HP6.out.kept hc7 (fun b hb hq => HOff6.out b hb hq))
  have HOff7 := Lib.hid (show ∀ b, b = g ∨ b = g + 1 → ¬ Q7 b from fun b hb => ho7 b (HLt6.out b hb) (HOff6.out b hb))
  have HLt7 := Lib.hid (show ∀ b, b = g ∨ b = g + 1 → b < w7.heap.size from fun b hb => Nat.lt_of_lt_of_le (HLt6.out b hb) hc7.size)
  clear hR7 hl7 hs7 ho7 hc7 ht7
  dsimp only
  go_wp2_with (first
    | (go_at_call 20; fail))
  have hst := rl_commit w7 HR7.out (by have := HX7.out.2; omega) (by decide) 7
  refine hst.mono ?_
  clear hst
  rintro e w8 ⟨z, rfl, S', ⟨⟨Q8, X8, recs8, s8, a8, m8, hR8, hl8, hs8, ho8⟩, hc8⟩, ht8⟩
  obtain ⟨hz, rfl⟩ := ht8.early ex_e5
  obtain rfl : z = 0 := hz
  have HR8 := Lib.hid (show RL Q8 w w8 r d X8 recs8 s8 a8 m8 exS2 from hR8)
  have HX8 := Lib.hid (show areaN X8.B.length = 29 ∧ s8 ≤ 6 from ⟨by rw [hl8, HX7.out.1], by have := HX7.out.2; omega⟩)
  have HP8 := Lib.hid (HP7.out.kept hc8 (fun b hb hq => HOff7.out b hb hq))
  have HOff8 := Lib.hid (show ∀ b, b = g ∨ b = g + 1 → ¬ Q8 b from fun b hb => ho8 b (HLt7.out b hb) (HOff7.out b hb))
  have HLt8 := Lib.hid (show ∀ b, b = g ∨ b = g + 1 → b < w8.heap.size from fun b hb => Nat.lt_of_lt_of_le (HLt7.out b hb) hc8.size)
  clear hR8 hl8 hs8 ho8 hc8 ht8
  dsimp only
  go_wp2_with (first
    | (go_at_call 21; fail))
  have hst := rl_abort w8 HR8.out (by have := HX8.out.2; omega) 7
  refine hst.mono ?_
  clear hst
  rintro e w9 ⟨z, rfl, S', ⟨⟨Q9, X9, recs9, s9, a9, m9, hR9, hl9, hs9, ho9⟩, hc9⟩, ht9⟩
  obtain ⟨hz, rfl⟩ := ht9.early ex_e6
  obtain rfl : z = 11 := hz
  have HR9 := Lib.hid (show RL Q9 w w9 r d X9 recs9 s9 a9 m9 exS2 from hR9)
  have HX9 := Lib.hid (show areaN X9.B.length = 29 ∧ s9 ≤ 7 from ⟨by rw [hl9, HX8.out.1], by have := HX8.out.2; omega⟩)
  have HP9 := Lib.hid (HP8.out.kept hc9 (fun b hb hq => HOff8.out b hb hq))
  have HOff9 := Lib.hid (show ∀ b, b = g ∨ b = g + 1 → ¬ Q9 b from fun b hb => ho9 b (HLt8.out b hb) (HOff8.out b hb))
  have HLt9 := Lib.hid (show ∀ b, b = g ∨ b = g + 1 → b < w9.heap.size from fun b hb => Nat.lt_of_lt_of_le (HLt8.out b hb) hc9.size)
  clear hR9 hl9 hs9 ho9 hc9 ht9
  dsimp only
  go_wp2_with (first
    | (go_at_call 22; fail))
  obtain ⟨P9, kb, l, q, F9, sv, wv, dv, hrks, -⟩ := HR9.out.rt.ex
  refine (stack_of w9 hrks.rt).mono ?_
  rintro e wA ⟨vA, rfl, hpA, hcA⟩
  have hsm := rsame_is wA hpA (HP9.out.fresh hcA)
  have hone : decide (exS2.stack = [lpk]) = true := by decide
  rw [hone] at hsm
  obtain ⟨oA, cA, lA, hvA, -⟩ := id hpA.is
  have hlA : exS2.stack.length = 1 := rfl
  rw [hlA] at hvA
  subst hvA
  have HSm := Lib.hid hsm
  have HSz := Lib.hid (fun (W : World) (hW : Chg (fun _ => False) w9 W) => size_is W (HP9.out.fresh hW) (by decide) 1)
  rw [ex_size] at HSz
  have HCA := Lib.hid hcA
  have HC9 := Lib.hid HR9.out.rt.chg
  clear hpA hcA hsm hone hrks hlA
  dsimp only
  go_wp2_with (first
    | (go_at_call 28; refine HSm.out.mono ?_; rintro e wB ⟨rfl, hcB⟩; have HCB := Lib.hid (HCA.out.trans' hcB); clear hcB)
    | (go_at_call 15; refine (HSz.out wB HCB.out).mono ?_; rintro e wC ⟨rfl, hcC⟩; have HCC := Lib.hid (HCB.out.trans' hcC); clear hcC))
  go_ret
  exact ⟨rfl, HC9.out.trans' HCC.out⟩

end Go.Proofs.YtbjagmlbamjdbaaGreat.roots
end

/-
  GENERAL: arguments that are slices of records, opened with the form's own reach: what each slice within takes.
-/
section
set_option linter.unusedSimpArgs false
set_option linter.unusedVariables false
namespace Go.My
open Go.ChangeShapes Go.WideShapes Go.RowKit Go.Deep

section
variable {H : Type} {enc : TypeId × Value → H} {P : Program}

end
end Go.My
end

/-
  wal: texts as arguments.
-/
section
set_option linter.unusedSimpArgs false
set_option linter.unusedVariables false
namespace Go.Proofs.YtbjagmlbamjdbaaGreat.wals
open Go.ChangeShapes Go.WideShapes Go.RowKit Go.My Go.Deep disks

end Go.Proofs.YtbjagmlbamjdbaaGreat.wals
end

/-
  rootdb's laws: stacks and acts as arguments.
-/
section
set_option linter.unusedSimpArgs false
set_option linter.unusedVariables false
namespace Go.Proofs.YtbjagmlbamjdbaaGreat.roots
open Go.ChangeShapes Go.WideShapes Go.RowKit Go.Maps Go.My Go.ChangeMaps Go.Deep disks bufs wals kvs
set_option maxRecDepth 100000

variable {w w' : World}

section
variable {H : Type} {enc : TypeId × Value → H} {W : World}

/-- An act of the laws. -/
structure RAct where
  kind : Int
  tx : Int
  n : Int
  pv : Value
  packs : List Pk
  kv : Value
def RAct.row (a : RAct) : List Value := [.int .i64 a.kind, .int .i64 a.tx, .int .i64 a.n, a.pv, a.kv]
structure RAct.ok (W : World) (a : RAct) : Prop where
  pv : PksAt W (fun b => b < W.heap.size) a.pv a.packs
  kv : ∃ oa n cap, a.kv = .slice oa n cap

end

end Go.Proofs.YtbjagmlbamjdbaaGreat.roots
end

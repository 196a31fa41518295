/- . -/
import Derived.Test.YtbjagmlbamjdbaaGreatPx1RootOnce
import Derived.Test.YtbjagmlbamjdbaaGreatPx6RootOnce
import Derived.Test.YtbjagmlbamjdbaaGreatPx18RootOnce
import Derived.Test.YtbjagmlbamjdbaaGreatPx23RootOnce
import Derived.Test.YtbjagmlbamjdbaaGreatPx24RootOnce
import Derived.Test.YtbjagmlbamjdbaaGreatPx27RootOnce
import Derived.SliceStrings

set_option linter.unusedSimpArgs false
set_option linter.unusedVariables false
section
namespace Go.Proofs.YtbjagmlbamjdbaaGreat.roots
open Go.RowKit Go.Maps Go.My Go.ChangeMaps disks bufs wals kvs
set_option maxRecDepth 100000

variable {W w w' : World} {P Q : Nat → Prop} {r d s a : Nat} {X : DV} {m : List KV} {recs : List Txt} {S : RS}

def zer32 : Dg := List.replicate 32 0
def lpk : Pk := ⟨1, ⟨[97], [49], [⟨zer32, 5⟩]⟩⟩
def exS1 : RS := stageS nilS 7 [lpk]
def exS2 : RS := commitS exS1 7
theorem ex_e1 : stageE nilS 7 [lpk] = none := by decide
theorem ex_e2 : stageE exS1 8 [] = some 10 := by decide
theorem ex_e3 : commitE exS1 8 = some 11 := by decide
theorem ex_e4 : commitE exS1 7 = none := by decide
theorem ex_e5 : commitE exS2 7 = some 0 := by decide
theorem ex_e6 : abortE exS2 7 = some 11 := by decide
theorem ex_size : sizeF 1 [lpk] = 5 := by decide
theorem lpk_dig : ∀ p ∈ [lpk], p.dig := by
  intro p hp x hx
  rw [List.mem_singleton] at hp
  subst hp
  simp only [lpk, List.mem_singleton] at hx
  subst hx
  rfl

theorem lpk_at (w : World) {g h : Nat} (h1 : w.heap[g]? = some (.cells (rfC ⟨zer32, 5⟩).toArray 98 (0, 0))) (h2 : w.heap[h]? = some (.cells #[.int .i64 1, .string ⟨#[97]⟩, .string ⟨#[49]⟩, .slice (some ⟨g, 0, none⟩) 1 1] 90 (0, 0))) :
    PksAt w (fun b => b = g ∨ b = h) (.slice (some ⟨h, 0, none⟩) 1 1) [lpk] := by
  have hl : LysAt w (fun b => b = g ∨ b = h) (.slice (some ⟨g, 0, none⟩) 1 1) lpk.man.layers := by
    refine ⟨⟨some ⟨g, 0, none⟩, 1, rfl, ⟨fun _ => ⟨g, 0, rfl⟩, fun i r hr => ?_, fun b off ho i r j v hi hj => ?_⟩, fun _ b off ho => ?_, Nat.le_refl _, by unfold maxLen; omega⟩, fun x hx => ?_⟩
    · cases i with
      | zero => simp only [lpk, List.map_cons, List.map_nil, List.getElem?_cons_zero, Option.some.injEq] at hr; subst hr; rfl
      | succ i => simp [lpk] at hr
    · cases ho
      cases i with
      | zero =>
        simp only [lpk, List.map_cons, List.map_nil, List.getElem?_cons_zero, Option.some.injEq] at hi
        subst hi
        rw [show 0 + 0 * 33 + j = j by omega]
        exact cell_of_block h1 (by simpa using hj)
      | succ i => simp [lpk] at hi
    · cases ho; exact Or.inl rfl
    · simp only [lpk, List.mem_singleton] at hx; subst hx; rfl
  refine ⟨⟨some ⟨h, 0, none⟩, 1, [.slice (some ⟨g, 0, none⟩) 1 1], rfl, rfl, ⟨fun _ => ⟨h, 0, rfl⟩, fun i r hr => ?_, fun b off ho i r j v hi hj => ?_⟩, fun _ b off ho => ?_, fun i p u hp hu => ?_, Nat.le_refl _, by unfold maxLen; omega⟩, fun p hp => ?_⟩
  · cases i with
    | zero => simp only [List.zipWith_cons_cons, List.zipWith_nil_left, List.getElem?_cons_zero, Option.some.injEq] at hr; subst hr; rfl
    | succ i => simp at hr
  · cases ho
    cases i with
    | zero =>
      simp only [List.zipWith_cons_cons, List.zipWith_nil_left, List.getElem?_cons_zero, Option.some.injEq] at hi
      subst hi
      rw [show 0 + 0 * 4 + j = j by omega]
      exact cell_of_block h2 (by simpa [pkC, lpk, strV] using hj)
    | succ i => simp at hi
  · cases ho; exact Or.inr rfl
  · cases i with
    | zero =>
      simp only [List.getElem?_cons_zero, Option.some.injEq] at hp hu
      subst hp; subst hu
      exact hl
    | succ i => simp at hp
  · rw [List.mem_singleton] at hp
    subst hp
    simp [lpk, maxLen]

set_option maxHeartbeats 4000000 in
theorem works_any (w : World) : Calls Tryz.prog 17 #[] w fun e w' => e = .returned (.bool true) ∧ Chg (fun _ => False) w w' := by
  have HB := Lib.hid (Blank.new 60 (by omega) (by omega))
  have HNew := Lib.hid (ds_new w w (Chg.refl _ _) 60 (by omega) (by omega))
  go_enter Tryz.func17, Tryz.ntmps17
  go_wp2_with (first
    | (go_at_call 25; fail))
  refine HNew.out.mono ?_
  rintro e w1 ⟨d, rfl, P, hd⟩
  have HO := Lib.hid (open_blank w1 hd HB.out rfl)
  have HW1 := Lib.hid hd.chg
  have HP1 := Lib.hid hd.lt
  clear hd HNew
  dsimp only
  go_wp2_with (first
    | (go_at_call 24; fail))
  refine HO.out.mono ?_
  rintro e w2 ⟨r, rfl, Q, X, recs, a, m, hR, hlen, -, -⟩
  have hX : areaN X.B.length = 29 := by rw [hlen, DV.new_len]; rfl
  have HR := Lib.hid hR
  have HX := Lib.hid hX
  clear hR hX hlen HO
  dsimp only
  go_wp2_with (first
    | (go_at_call 19; fail))
  obtain ⟨w3, hw3⟩ : ∃ w3, (w2.alloc (.cells (rfC ⟨zer32, 5⟩).toArray 98)).alloc (.cells #[.int .i64 1, .string ⟨#[97]⟩, .string ⟨#[49]⟩, .slice (some ⟨w2.heap.size, 0, none⟩) 1 1] 90) = w3 := ⟨_, rfl⟩
  have hc3 : Chg (fun _ => False) w2 w3 := by rw [← hw3]; exact ((Chg.refl _ _).alloc _).alloc _
  have hg3 : w3.heap[w2.heap.size]? = some (.cells (rfC ⟨zer32, 5⟩).toArray 98 (0, 0)) := by rw [← hw3]; exact ((Chg.refl (fun _ => False) _).alloc _).at (block_alloc_new w2 _) id
  have hh3 : w3.heap[w2.heap.size + 1]? = some (.cells #[.int .i64 1, .string ⟨#[97]⟩, .string ⟨#[49]⟩, .slice (some ⟨w2.heap.size, 0, none⟩) 1 1] 90 (0, 0)) := by
    rw [← hw3]
    have := block_alloc_new (w2.alloc (.cells (rfC ⟨zer32, 5⟩).toArray 98)) (.cells #[.int .i64 1, .string ⟨#[97]⟩, .string ⟨#[49]⟩, .slice (some ⟨w2.heap.size, 0, none⟩) 1 1] 90)
    rw [World.size_alloc] at this
    exact this
  have hp3 := lpk_at w3 hg3 hh3
  have hlt3 := lt_of_block hh3
  have hst := rl_stage w3 (HR.out.fresh hc3) (by omega) 7 hp3 (fun b hb => ⟨fun hq => by have := HR.out.rt.lt b hq; omega, by omega⟩)
  rw [← hw3] at hst
  refine hst.mono ?_
  rw [hw3]
  rintro e w4 ⟨z, rfl, S', ⟨⟨Q4, X4, recs4, s4, a4, m4, hR4, hl4, hs4, ho4⟩, hc4⟩, ht4⟩
  obtain ⟨rfl, rfl⟩ := Told.done (ex_e1 ▸ ht4) (HR.out.room_stage ex_e1 lpk_dig (by decide) (by rw [HX.out]; exact of_decide_eq_true (by decide)))
  have hp4 : PksAt w4 (fun b => b = w2.heap.size ∨ b = w2.heap.size + 1) (.slice (some ⟨w2.heap.size + 1, 0, none⟩) 1 1) [lpk] := hp3.kept hc4 (fun b hb hq => by have := HR.out.rt.lt b hq; omega)
  have hoff4 : ∀ b, b = w2.heap.size ∨ b = w2.heap.size + 1 → ¬ Q4 b := fun b hb => ho4 b (by omega) (fun hq => by have := HR.out.rt.lt b hq; omega)
  obtain ⟨g, hg⟩ : ∃ g, w2.heap.size = g := ⟨_, rfl⟩
  have hlt4 : ∀ b, b = w2.heap.size ∨ b = w2.heap.size + 1 → b < w4.heap.size := fun b hb => by have := hc4.size; omega
  rw [hg] at hp4 hoff4 hlt4 ⊢
  have HLt4 := Lib.hid hlt4
  have HR4 := Lib.hid (show RL Q4 w w4 r d X4 recs4 s4 a4 m4 exS1 from hR4)
  have HX4 := Lib.hid (show areaN X4.B.length = 29 ∧ s4 ≤ 2 from ⟨by rw [hl4, HX.out], hs4⟩)
  have HP4 := Lib.hid hp4
  have HOff4 := Lib.hid hoff4
  clear hw3 hc3 hg3 hh3 hp3 hlt3 hst hR4 hl4 hs4 ho4 hc4 ht4 hp4 hoff4 hlt4 hg HR HX
  dsimp only
  go_wp2_with (first
    | (go_at_call 19; fail))
  have hst := rl_stage w4 HR4.out (by have := HX4.out.2; omega) 8 (PksAt.nil w4 (fun _ => False)) (fun b hb => hb.elim)
  refine hst.mono ?_
  clear hst
  rintro e w5 ⟨z, rfl, S', ⟨⟨Q5, X5, recs5, s5, a5, m5, hR5, hl5, hs5, ho5⟩, hc5⟩, ht5⟩
  obtain ⟨hz, rfl⟩ := ht5.early ex_e2
  obtain rfl : z = 10 := hz
  have HR5 := Lib.hid (show RL Q5 w w5 r d X5 recs5 s5 a5 m5 exS1 from hR5)
  have HX5 := Lib.hid (show areaN X5.B.length = 29 ∧ s5 ≤ 3 from ⟨by rw [hl5, HX4.out.1], by have := HX4.out.2; omega⟩)
  have HP5 := Lib.hid (HP4.out.kept hc5 (fun b hb hq => HOff4.out b hb hq))
  have HOff5 := Lib.hid (show ∀ b, b = g ∨ b = g + 1 → ¬ Q5 b from fun b hb => ho5 b (HLt4.out b hb) (HOff4.out b hb))
  have HLt5 := Lib.hid (show ∀ b, b = g ∨ b = g + 1 → b < w5.heap.size from fun b hb => Nat.lt_of_lt_of_le (HLt4.out b hb) hc5.size)
  clear hR5 hl5 hs5 ho5 hc5 ht5
  dsimp only
  go_wp2_with (first
    | (go_at_call 20; fail))
  have hst := rl_commit w5 HR5.out (by have := HX5.out.2; omega) (by decide) 8
  refine hst.mono ?_
  clear hst
  rintro e w6 ⟨z, rfl, S', ⟨⟨Q6, X6, recs6, s6, a6, m6, hR6, hl6, hs6, ho6⟩, hc6⟩, ht6⟩
  obtain ⟨hz, rfl⟩ := ht6.early ex_e3
  obtain rfl : z = 11 := hz
  have HR6 := Lib.hid (show RL Q6 w w6 r d X6 recs6 s6 a6 m6 exS1 from hR6)
  have HX6 := Lib.hid (show areaN X6.B.length = 29 ∧ s6 ≤ 4 from ⟨by rw [hl6, HX5.out.1], by have := HX5.out.2; omega⟩)
  have HP6 := Lib.hid (HP5.out.kept hc6 (fun b hb hq => HOff5.out b hb hq))
  have HOff6 := Lib.hid (show ∀ b, b = g ∨ b = g + 1 → ¬ Q6 b from fun b hb => ho6 b (HLt5.out b hb) (HOff5.out b hb))
  have HLt6 := Lib.hid (show ∀ b, b = g ∨ b = g + 1 → b < w6.heap.size from fun b hb => Nat.lt_of_lt_of_le (HLt5.out b hb) hc6.size)
  clear hR6 hl6 hs6 ho6 hc6 ht6
  dsimp only
  go_wp2_with (first
    | (go_at_call 20; fail))
  have hst := rl_commit w6 HR6.out (by have := HX6.out.2; omega) (by decide) 7
  refine hst.mono ?_
  clear hst
  rintro e w7 ⟨z, rfl, S', ⟨⟨Q7, X7, recs7, s7, a7, m7, hR7, hl7, hs7, ho7⟩, hc7⟩, ht7⟩
  obtain ⟨rfl, rfl⟩ := Told.done (ex_e4 ▸ ht7) (HR6.out.room_commit ex_e4 (by decide) (by rw [HX6.out.1]; exact of_decide_eq_true (by decide)))
  have HR7 := Lib.hid (show RL Q7 w w7 r d X7 recs7 s7 a7 m7 exS2 from hR7)
  have HX7 := Lib.hid (show areaN X7.B.length = 29 ∧ s7 ≤ 5 from ⟨by rw [hl7, HX6.out.1], by have := HX6.out.2; omega⟩)
  have HP7 := Lib.hid (HP6.out.kept hc7 (fun b hb hq => HOff6.out b hb hq))
  have HOff7 := Lib.hid (show ∀ b, b = g ∨ b = g + 1 → ¬ Q7 b from fun b hb => ho7 b (HLt6.out b hb) (HOff6.out b hb))
  have HLt7 := Lib.hid (show ∀ b, b = g ∨ b = g + 1 → b < w7.heap.size from fun b hb => Nat.lt_of_lt_of_le (HLt6.out b hb) hc7.size)
  clear hR7 hl7 hs7 ho7 hc7 ht7
  dsimp only
  go_wp2_with (first
    | (go_at_call 20; fail))
  have hst := rl_commit w7 HR7.out (by have := HX7.out.2; omega) (by decide) 7
  refine hst.mono ?_
  clear hst
  rintro e w8 ⟨z, rfl, S', ⟨⟨Q8, X8, recs8, s8, a8, m8, hR8, hl8, hs8, ho8⟩, hc8⟩, ht8⟩
  obtain ⟨hz, rfl⟩ := ht8.early ex_e5
  obtain rfl : z = 0 := hz
  have HR8 := Lib.hid (show RL Q8 w w8 r d X8 recs8 s8 a8 m8 exS2 from hR8)
  have HX8 := Lib.hid (show areaN X8.B.length = 29 ∧ s8 ≤ 6 from ⟨by rw [hl8, HX7.out.1], by have := HX7.out.2; omega⟩)
  have HP8 := Lib.hid (HP7.out.kept hc8 (fun b hb hq => HOff7.out b hb hq))
  have HOff8 := Lib.hid (show ∀ b, b = g ∨ b = g + 1 → ¬ Q8 b from fun b hb => ho8 b (HLt7.out b hb) (HOff7.out b hb))
  have HLt8 := Lib.hid (show ∀ b, b = g ∨ b = g + 1 → b < w8.heap.size from fun b hb => Nat.lt_of_lt_of_le (HLt7.out b hb) hc8.size)
  clear hR8 hl8 hs8 ho8 hc8 ht8
  dsimp only
  go_wp2_with (first
    | (go_at_call 21; fail))
  have hst := rl_abort w8 HR8.out (by have := HX8.out.2; omega) 7
  refine hst.mono ?_
  clear hst
  rintro e w9 ⟨z, rfl, S', ⟨⟨Q9, X9, recs9, s9, a9, m9, hR9, hl9, hs9, ho9⟩, hc9⟩, ht9⟩
  obtain ⟨hz, rfl⟩ := ht9.early ex_e6
  obtain rfl : z = 11 := hz
  have HR9 := Lib.hid (show RL Q9 w w9 r d X9 recs9 s9 a9 m9 exS2 from hR9)
  have HX9 := Lib.hid (show areaN X9.B.length = 29 ∧ s9 ≤ 7 from ⟨by rw [hl9, HX8.out.1], by have := HX8.out.2; omega⟩)
  have HP9 := Lib.hid (HP8.out.kept hc9 (fun b hb hq => HOff8.out b hb hq))
  have HOff9 := Lib.hid (show ∀ b, b = g ∨ b = g + 1 → ¬ Q9 b from fun b hb => ho9 b (HLt8.out b hb) (HOff8.out b hb))
  have HLt9 := Lib.hid (show ∀ b, b = g ∨ b = g + 1 → b < w9.heap.size from fun b hb => Nat.lt_of_lt_of_le (HLt8.out b hb) hc9.size)
  clear hR9 hl9 hs9 ho9 hc9 ht9
  dsimp only
  go_wp2_with (first
    | (go_at_call 22; fail))
  obtain ⟨P9, kb, l, q, F9, sv, wv, dv, hrks, -⟩ := HR9.out.rt.ex
  refine (stack_of w9 hrks.rt).mono ?_
  rintro e wA ⟨vA, rfl, hpA, hcA⟩
  have hsm := rsame_is wA hpA (HP9.out.fresh hcA)
  have hone : decide (exS2.stack = [lpk]) = true := by decide
  rw [hone] at hsm
  obtain ⟨oA, cA, lA, hvA, -⟩ := id hpA.is
  have hlA : exS2.stack.length = 1 := rfl
  rw [hlA] at hvA
  subst hvA
  have HSm := Lib.hid hsm
  have HSz := Lib.hid (fun (W : World) (hW : Chg (fun _ => False) w9 W) => size_is W (HP9.out.fresh hW) (by decide) 1)
  rw [ex_size] at HSz
  have HCA := Lib.hid hcA
  have HC9 := Lib.hid HR9.out.rt.chg
  clear hpA hcA hsm hone hrks hlA
  dsimp only
  go_wp2_with (first
    | (go_at_call 28; refine HSm.out.mono ?_; rintro e wB ⟨rfl, hcB⟩; have HCB := Lib.hid (HCA.out.trans' hcB); clear hcB)
    | (go_at_call 15; refine (HSz.out wB HCB.out).mono ?_; rintro e wC ⟨rfl, hcC⟩; have HCC := Lib.hid (HCB.out.trans' hcC); clear hcC))
  go_ret
  exact ⟨rfl, HC9.out.trans' HCC.out⟩

end Go.Proofs.YtbjagmlbamjdbaaGreat.roots
end

section
namespace Go.My
open Go.ChangeShapes Go.WideShapes Go.RowKit Go.Deep

section
variable {H : Type} {enc : TypeId × Value → H} {P : Program}

end
end Go.My
end

section
namespace Go.Proofs.YtbjagmlbamjdbaaGreat.wals
open Go.ChangeShapes Go.WideShapes Go.RowKit Go.My Go.Deep disks

theorem strV_of (s : ByteArray) : Value.string s = strV s.data.toList := by cases s; simp [strV]

end Go.Proofs.YtbjagmlbamjdbaaGreat.wals
end

section
namespace Go.Proofs.YtbjagmlbamjdbaaGreat.roots
open Go.ChangeShapes Go.WideShapes Go.RowKit Go.Maps Go.My Go.ChangeMaps Go.Deep disks bufs wals kvs
set_option maxRecDepth 100000

variable {w w' : World}

theorem cellsA_dig : Tryz.prog.cellsOf 96 = 32 := by kernel_rfl
theorem cellsA_ref : Tryz.prog.cellsOf 98 = 33 := by kernel_rfl
theorem cellsA_u8 : Tryz.prog.cellsOf 5 = 1 := by kernel_rfl
theorem cellsA_pack : Tryz.prog.cellsOf 90 = 4 := by kernel_rfl
theorem cellsA_int : Tryz.prog.cellsOf 3 = 1 := by kernel_rfl
theorem cellsA_packs : Tryz.prog.cellsOf 22 = 1 := by kernel_rfl
theorem cellsA_ints : Tryz.prog.cellsOf 35 = 1 := by kernel_rfl
theorem cellsA_act : Tryz.prog.cellsOf 57 = 5 := by kernel_rfl

theorem bytes_of_ints : ∀ (zs : List Int), (∀ z ∈ zs, (Lit.int .u8 z).wf = true) → ∃ b : Txt, zs.map (Value.int .u8) = cellsB b ∧ b.length = zs.length
  | [], _ => ⟨[], rfl, rfl⟩
  | z :: zs, h => by
    obtain ⟨b, h1, h2⟩ := bytes_of_ints zs (fun y hy => h y (by simp [hy]))
    have hz := h z (by simp)
    have hr : 0 ≤ z ∧ z < 256 := by
      have hz' : (decide ((0 : Int) ≤ z) && decide (z ≤ 255)) = true := hz
      simp only [Bool.and_eq_true, decide_eq_true_eq] at hz'
      omega
    refine ⟨UInt8.ofNat z.toNat :: b, ?_, by rw [List.length_cons, List.length_cons, h2]⟩
    unfold cellsB at h1 ⊢
    rw [List.map_cons, List.map_cons, h1, toNat_ofNat_lt (by omega), Int.toNat_of_nonneg hr.1]

section
variable {H : Type} {enc : TypeId × Value → H} {W : World}

theorem ints_of_array {base : Nat} {sp : Nat → Bool} {held : Bool} {e t n fuel : Nat} {q : IntKind} {cs : List Value} {y : DataW H × List MemPlace} (he : Tryz.prog.underlying e = some (.array n t)) (ht : Tryz.prog.underlying t = some (.int q)) (hc : Tryz.prog.cellsOf t = 1) (hn : Tryz.prog.cellsOf e = n)
    (h : DataW.trod enc Tryz.prog W base sp held fuel e cs = some y) : ∃ zs : List Int, cs = zs.map (.int q) ∧ zs.length = n ∧ ∀ z ∈ zs, (Lit.int q z).wf = true := by
  obtain ⟨xs, k, _, _, hlen, hxs, hx⟩ := DataW.trod_array he h
  rw [hn] at hlen
  have one : ∀ i, i < n → ∃ z, cs[i]? = some (.int q z) ∧ (Lit.int q z).wf = true := by
    intro i hi
    have h4 := hx i hi
    rw [List.getElem?_eq_getElem (by omega)] at h4
    obtain ⟨z, h5, _, h6⟩ := DataW.trod_int ht h4
    refine ⟨z, ?_, h6⟩
    rw [hc, Nat.mul_one] at h5
    have : ((cs.drop i).take 1)[0]? = some (.int q z) := by rw [h5]; rfl
    rwa [List.getElem?_take_of_lt (by omega), List.getElem?_drop, Nat.add_zero] at this
  obtain ⟨Z, hZ⟩ := choose_lt (α := Int) one
  refine ⟨(List.range n).map Z, ?_, by simp, ?_⟩
  · apply List.ext_getElem?
    intro i
    by_cases hi : i < n
    · rw [(hZ i hi).1]; simp [hi]
    · rw [List.getElem?_eq_none (l := cs) (by omega), List.getElem?_eq_none (by simp; omega)]
  · intro z hz
    simp only [List.mem_map, List.mem_range] at hz
    obtain ⟨i, hi, rfl⟩ := hz
    exact (hZ i hi).2

theorem rf_of_trod {base : Nat} {sp : Nat → Bool} {held : Bool} {fuel : Nat} {cs : List Value} {y : DataW H × List MemPlace} (h : DataW.trod enc Tryz.prog W base sp held fuel 98 cs = some y) : ∃ x : Rf, cs = rfC x ∧ x.sum.length = 32 := by
  obtain ⟨xs, k, _, _, hlen, hxs, hx⟩ := DataW.trod_struct Tryz.underlying98 h
  rw [cellsA_ref] at hlen
  have h0 := hx 0 _ rfl
  have h1 := hx 1 _ rfl
  have hsz : xs.length = 2 := hxs
  rw [show xs[0]? = some (xs[0]'(by omega)) from List.getElem?_eq_getElem _] at h0
  rw [show xs[1]? = some (xs[1]'(by omega)) from List.getElem?_eq_getElem _] at h1
  have h0 : DataW.trod enc Tryz.prog W base sp held k 96 (cs.take 32) = some xs[0] := h0
  have h1 : DataW.trod enc Tryz.prog W base sp held k 3 ((cs.drop 32).take 1) = some xs[1] := h1
  obtain ⟨zs, hz, hzl, hzw⟩ := ints_of_array Tryz.underlying96 Tryz.underlying5 cellsA_u8 cellsA_dig h0
  obtain ⟨n, hn, _, _⟩ := DataW.trod_int Tryz.underlying3 h1
  obtain ⟨b, hb, hbl⟩ := bytes_of_ints zs hzw
  refine ⟨⟨b, n⟩, ?_, by rw [← hzl]; exact hbl⟩
  unfold rfC
  simp only
  rw [← hb, ← hz, ← hn]
  have : (cs.drop 32).take 1 = cs.drop 32 := List.take_of_length_le (by rw [List.length_drop]; omega)
  rw [this, List.take_append_drop]

theorem list_of {α : Type} {R : α → Prop} {f : α → List Value} : ∀ {l : List (List Value)}, (∀ x ∈ l, ∃ a, x = f a ∧ R a) → ∃ L : List α, l = L.map f ∧ ∀ a ∈ L, R a
  | [], _ => ⟨[], rfl, by simp⟩
  | x :: l, h => by
    obtain ⟨L, rfl, hL⟩ := list_of (R := R) (f := f) (l := l) (fun y hy => h y (by simp [hy]))
    obtain ⟨a, rfl, ha⟩ := h x (by simp)
    refine ⟨a :: L, rfl, fun b hb => ?_⟩
    rcases List.mem_cons.1 hb with rfl | hb
    · exact ha
    · exact hL b hb

theorem inF_old {n m : Nat} {oa : Option Addr} {l : List (List Value)} (h : RowsAt W n oa l) (hn : 0 < n) (hm : l.length = m) : InF (fun b => b < W.heap.size) oa m := by
  intro hne b off ho
  exact h.lt hn ho (by intro e; rw [e] at hm; simp at hm; omega)

theorem pk_of_trod {base : Nat} {sp : Nat → Bool} {held : Bool} {fuel : Nat} {cs : List Value} {y : DataW H × List MemPlace} (h : DataW.trod enc Tryz.prog W base sp held fuel 90 cs = some y) :
    ∃ (pu : Pk × Value), cs = pkC pu.1 pu.2 ∧ (LysAt W (fun b => b < W.heap.size) pu.2 pu.1.man.layers ∧ pu.1.man.name.length ≤ maxLen ∧ pu.1.man.ver.length ≤ maxLen) := by
  obtain ⟨xs, k, _, _, hlen, hxs, hx⟩ := DataW.trod_struct Tryz.underlying90 h
  rw [cellsA_pack] at hlen
  have h0 := hx 0 _ rfl
  have h1 := hx 1 _ rfl
  have hsz : xs.length = 2 := hxs
  rw [show xs[0]? = some (xs[0]'(by omega)) from List.getElem?_eq_getElem _] at h0
  rw [show xs[1]? = some (xs[1]'(by omega)) from List.getElem?_eq_getElem _] at h1
  match cs, hlen with
  | [a0, a1, a2, a3], _ =>
    have h0 : DataW.trod enc Tryz.prog W base sp held k 3 [a0] = some xs[0] := h0
    have h1 : DataW.trod enc Tryz.prog W base sp held k 88 [a1, a2, a3] = some xs[1] := h1
    obtain ⟨ow, e0, _, _⟩ := DataW.trod_int Tryz.underlying3 h0
    obtain ⟨ys, k', _, _, _, hys, hy⟩ := DataW.trod_struct Tryz.underlying88 h1
    have g0 := hy 0 _ rfl
    have g1 := hy 1 _ rfl
    have g2 := hy 2 _ rfl
    have hsy : ys.length = 3 := hys
    rw [show ys[0]? = some (ys[0]'(by omega)) from List.getElem?_eq_getElem _] at g0
    rw [show ys[1]? = some (ys[1]'(by omega)) from List.getElem?_eq_getElem _] at g1
    rw [show ys[2]? = some (ys[2]'(by omega)) from List.getElem?_eq_getElem _] at g2
    have g0 : DataW.trod enc Tryz.prog W base sp held k' 9 [a1] = some ys[0] := g0
    have g1 : DataW.trod enc Tryz.prog W base sp held k' 9 [a2] = some ys[1] := g1
    have g2 : DataW.trod enc Tryz.prog W base sp held k' 86 [a3] = some ys[2] := g2
    obtain ⟨s1, e1, _, z1⟩ := DataW.trod_string Tryz.underlying9 g0
    obtain ⟨s2, e2, _, z2⟩ := DataW.trod_string Tryz.underlying9 g1
    obtain ⟨oa, l, cap, e3, c1, c2, hr, hel⟩ := open_rows_trod Tryz.underlying86 cellsA_ref (by omega) g2
    simp only [List.cons.injEq, and_true] at e0 e1 e2 e3
    subst e0; subst e1; subst e2; subst e3
    obtain ⟨L, rfl, hL⟩ := list_of (R := fun x : Rf => x.sum.length = 32) (f := rfC) (fun x hx' => by obtain ⟨_, _, hy'⟩ := hel x hx'; exact rf_of_trod hy')
    rw [List.length_map] at c1 ⊢
    refine ⟨(⟨ow, ⟨s1.data.toList, s2.data.toList, L⟩⟩, .slice oa L.length cap), ?_, ⟨⟨oa, cap, rfl, hr, inF_old hr (by omega) (List.length_map ..), c1, c2⟩, hL⟩, z1, z2⟩
    simp only [pkC, ← strV_of]

theorem zip_pairs : ∀ (L : List (Pk × Value)), L.map (fun pu => pkC pu.1 pu.2) = List.zipWith pkC (L.map (·.1)) (L.map (·.2))
  | [] => rfl
  | _ :: L => by rw [List.map_cons, List.map_cons, List.map_cons, List.zipWith_cons_cons, zip_pairs L]

theorem pks_of_rows {oa : Option Addr} {l : List (List Value)} {cap : Nat} (c1 : l.length ≤ cap) (c2 : cap ≤ maxLen) (hr : RowsAt W 4 oa l) (hel : ∀ x ∈ l, ∃ fuel y, DataW.trod enc Tryz.prog W 0 (fun _ => true) true fuel 90 x = some y) :
    ∃ L : List Pk, PksAt W (fun b => b < W.heap.size) (.slice oa l.length cap) L := by
  obtain ⟨L, rfl, hL⟩ := list_of (R := fun pu : Pk × Value => LysAt W (fun b => b < W.heap.size) pu.2 pu.1.man.layers ∧ pu.1.man.name.length ≤ maxLen ∧ pu.1.man.ver.length ≤ maxLen) (f := fun pu => pkC pu.1 pu.2) (fun x hx' => by obtain ⟨_, _, hy'⟩ := hel x hx'; exact pk_of_trod hy')
  rw [List.length_map] at c1 ⊢
  refine ⟨L.map (·.1), ⟨oa, cap, L.map (·.2), by rw [List.length_map], by rw [List.length_map, List.length_map], by rw [← zip_pairs]; exact hr, ?_, fun i p u hp hu => ?_, by rw [List.length_map]; exact c1, c2⟩, fun p hp => ?_⟩
  · rw [List.length_map]; exact inF_old hr (by omega) (List.length_map ..)
  · rw [List.getElem?_map] at hp hu
    cases hLi : L[i]? with
    | none => rw [hLi] at hp; simp at hp
    | some pu =>
      rw [hLi] at hp hu
      simp only [Option.map_some, Option.some.injEq] at hp hu
      subst hp; subst hu
      exact (hL pu (List.mem_of_getElem? hLi)).1
  · obtain ⟨pu, hpu, rfl⟩ := List.mem_map.1 hp
    exact (hL pu hpu).2

theorem open_packs {v : Value} {d : DataW H} {ps : List MemPlace} {r : Reach} {b0 : Nat}
    (hv : Value.okWide Tryz.prog W r b0 22 v) (h : DataW.Trod enc Tryz.prog W 0 (fun _ => true) true 22 v d ps) :
    ∃ L : List Pk, PksAt W (fun b => b < W.heap.size) v L := by
  obtain ⟨oa, l, cap, rfl, h1, h2, h3, h4⟩ := open_rows Tryz.underlying22 cellsA_pack (by omega) hv h
  exact pks_of_rows h1 h2 h3 h4

structure RAct where
  kind : Int
  tx : Int
  n : Int
  pv : Value
  packs : List Pk
  kv : Value
def RAct.row (a : RAct) : List Value := [.int .i64 a.kind, .int .i64 a.tx, .int .i64 a.n, a.pv, a.kv]
structure RAct.ok (W : World) (a : RAct) : Prop where
  pv : PksAt W (fun b => b < W.heap.size) a.pv a.packs
  kv : ∃ oa n cap, a.kv = .slice oa n cap

theorem act_of_trod {fuel : Nat} {cs : List Value} {y : DataW H × List MemPlace} (h : DataW.trod enc Tryz.prog W 0 (fun _ => true) true fuel 57 cs = some y) : ∃ a : RAct, cs = a.row ∧ a.ok W := by
  obtain ⟨hl, k, hf⟩ := trod_fields Tryz.underlying57 cellsA_act rfl (by
    intro i f hf
    match i, hf with
    | 0, hf => cases hf; exact ⟨rfl, cellsA_int⟩
    | 1, hf => cases hf; exact ⟨rfl, cellsA_int⟩
    | 2, hf => cases hf; exact ⟨rfl, cellsA_int⟩
    | 3, hf => cases hf; exact ⟨rfl, cellsA_packs⟩
    | 4, hf => cases hf; exact ⟨rfl, cellsA_ints⟩
    | i + 5, hf => simp at hf) h
  match cs, hl with
  | [a0, a1, a2, a3, a4], _ =>
    obtain ⟨_, h0⟩ := hf 0 _ _ rfl rfl
    obtain ⟨_, h1⟩ := hf 1 _ _ rfl rfl
    obtain ⟨_, h2⟩ := hf 2 _ _ rfl rfl
    obtain ⟨_, h3⟩ := hf 3 _ _ rfl rfl
    obtain ⟨_, h4⟩ := hf 4 _ _ rfl rfl
    obtain ⟨z0, e0, _, _⟩ := DataW.trod_int Tryz.underlying3 h0
    obtain ⟨z1, e1, _, _⟩ := DataW.trod_int Tryz.underlying3 h1
    obtain ⟨z2, e2, _, _⟩ := DataW.trod_int Tryz.underlying3 h2
    obtain ⟨oa, l, cap, e3, c1, c2, hr, hel⟩ := open_rows_trod Tryz.underlying22 cellsA_pack (by omega) h3
    obtain ⟨ob, l2, cap2, e4, -, -, -, -⟩ := open_rows_trod Tryz.underlying35 cellsA_int (by omega) h4
    simp only [List.cons.injEq, and_true] at e0 e1 e2 e3 e4
    subst e0; subst e1; subst e2; subst e3; subst e4
    obtain ⟨L, hL⟩ := pks_of_rows c1 c2 hr hel
    exact ⟨⟨z0, z1, z2, _, L, _⟩, rfl, hL, _, _, _, rfl⟩

theorem open_acts13 {v : Value} {d : DataW H} {ps : List MemPlace} {r : Reach} {b0 : Nat}
    (hv : Value.okWide Tryz.prog W r b0 53 v) (h : DataW.Trod enc Tryz.prog W 0 (fun _ => true) true 53 v d ps) :
    ∃ (oa : Option Addr) (l : List RAct) (cap : Nat), v = .slice oa l.length cap ∧ l.length ≤ cap ∧ cap ≤ maxLen ∧ RowsAt W 5 oa (l.map RAct.row) ∧ ∀ a ∈ l, a.ok W := by
  obtain ⟨oa, l, cap, rfl, h1, h2, h3, h4⟩ := open_rows Tryz.underlying53 cellsA_act (by omega) hv h
  obtain ⟨L, rfl, hL⟩ := list_of (R := fun a : RAct => a.ok W) (f := RAct.row) (fun x hx' => by obtain ⟨_, _, hy'⟩ := h4 x hx'; exact act_of_trod hy')
  exact ⟨oa, L, cap, by rw [List.length_map], by simpa using h1, h2, h3, hL⟩
end

end Go.Proofs.YtbjagmlbamjdbaaGreat.roots
end

section
namespace Go.Proofs.YtbjagmlbamjdbaaGreat.wals
open Go.RowKit Go.My disks

theorem mod_twice (z : Int) (n : Nat) (h1 : 1 ≤ n) (hn : n ≤ 1000) : ∃ R : Nat, R < n ∧ wrap64 (z.tmod n + n) = z.tmod n + n ∧ (z.tmod n + n).tmod n = (R : Int) := by
  have h2 := Int.tmod_lt_of_pos z (b := (n : Int)) (by omega)
  have h3 := Int.lt_tmod_of_pos z (b := (n : Int)) (by omega)
  have h4 : 0 ≤ (z.tmod n + n).tmod n := Int.tmod_nonneg _ (by omega)
  have h5 := Int.tmod_lt_of_pos (z.tmod n + n) (b := (n : Int)) (by omega)
  exact ⟨((z.tmod n + n).tmod n).toNat, by omega, IntWalk.wrap64_in _ (by omega), by omega⟩
end Go.Proofs.YtbjagmlbamjdbaaGreat.wals
end

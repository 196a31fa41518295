/-
  rootdb: a root whose disk has no fuse: what each act is told, and what it leaves.
-/
import Derived.Test.YtbjagmlbamjdbaaGreatPx5RootStands
import Derived.Test.YtbjagmlbamjdbaaGreatPx16RootStands
import Derived.Test.YtbjagmlbamjdbaaGreatPx18RootStands
import Derived.Test.YtbjagmlbamjdbaaGreatPx19RootStands
import Derived.Test.YtbjagmlbamjdbaaGreatPx20RootStands
import Derived.Laws.StructEq

section
set_option linter.unusedSimpArgs false
set_option linter.unusedVariables false
namespace Go.Proofs.YtbjagmlbamjdbaaGreat.roots
open Go.RowKit Go.Maps Go.My Go.ChangeMaps disks bufs wals kvs
set_option maxRecDepth 100000

variable {W w w' : World} {Q G : Nat → Prop} {r d s a : Nat} {X : DV} {m : List KV} {recs : List Txt} {S : RS}

structure RL (Q : Nat → Prop) (W w : World) (r d : Nat) (X : DV) (recs : List Txt) (s a : Nat) (m : List KV) (S : RS) : Prop where
  rt : RT Q W w r d X (lvW recs s a []) m S
  st : Stands X recs s a
  rep : Rep recs m
  fuse : X.fuse = -1
theorem RL.fresh (h : RL Q W w r d X recs s a m S) (hc : Chg (fun _ => False) w w') : RL Q W w' r d X recs s a m S := ⟨h.rt.fresh hc, h.st, h.rep, h.fuse⟩

/-- What an act is told: early, or done, or there is no room. -/
def Told (E : Option Nat) (S S2 : RS) (full : Prop) (z : Int) (S' : RS) : Prop := (∃ y : Nat, E = some y ∧ z = y ∧ S' = S) ∨ (E = none ∧ z = 0 ∧ S' = S2) ∨ (E = none ∧ z = 7 ∧ S' = S ∧ full)

/-- What an act leaves. -/
structure RNext (Q : Nat → Prop) (W w w' : World) (r d : Nat) (X : DV) (s : Nat) (S' : RS) : Prop where
  ex : ∃ Q' X' recs' s' a' m', RL Q' W w' r d X' recs' s' a' m' S' ∧ X'.B.length = X.B.length ∧ s' ≤ s + 1 ∧ ∀ g, g < w.heap.size → ¬ Q g → ¬ Q' g
  chg : Chg Q w w'

theorem RL.stay (h : RL Q W w r d X recs s a m S) (hc : Chg (fun _ => False) w w') : RNext Q W w w' r d X s S :=
  ⟨⟨Q, X, recs, s, a, m, h.fresh hc, rfl, Nat.le_succ _, fun _ _ h => h⟩, hc.mono (fun _ _ e => e.elim)⟩
theorem RL.out (h : RL Q W w r d X recs s a m S) {X' : DV} {V' : LV} {m' mm : List KV} {S' : RS} {ps : List PV} {z : Int} (hg : RGo Q W w w' r d X' V' m' S') (ho : Out X recs s a m mm (DoWhy X m ps) z X' V' m') (hf : Fits ps) {S2 : RS} (h0 : z = 0 → S' = S2) (h1 : z ≠ 0 → S' = S) :
    RNext Q W w w' r d X s S' ∧ Told none S S2 (DoWhy X m ps 7) z S' := by
  obtain ⟨recs', s', a', hV, k1, k2, k3, k4, k5, k6, k7⟩ := ho.free h.fuse h.st h.rep
  subst hV
  refine ⟨⟨⟨_, X', recs', s', a', m', ⟨hg.rt, k3, k4, k5⟩, k6, k2, fun g hl hn => More.off hn hl⟩, hg.chg⟩, ?_⟩
  rcases k7 with ⟨e, -⟩ | ⟨e1, e2, -⟩
  · exact Or.inr (Or.inl ⟨rfl, e, h0 e⟩)
  · have he : (encF ps).2 = 0 := by rw [hf.enc.1]
    have hz : z = 7 := by
      rcases e1 with ⟨-, e⟩ | ⟨e, -⟩
      · exact absurd he e
      · exact e
    subst hz
    exact Or.inr (Or.inr ⟨rfl, rfl, h1 (by decide), e1⟩)

theorem rl_abort (w : World) (h : RL Q W w r d X recs s a m S) (h60 : s ≤ 1152921504606846976) (t : Int) :
    Calls Tryz.prog 21 #[.pointer (some ⟨r, 0, none⟩), .int .i64 t] w fun e w' => ∃ z : Int, e = .returned (.int .i64 z) ∧ ∃ S', RNext Q W w w' r d X s S' ∧ Told (abortE S t) S (abortS S) (DoWhy X m (abortB S) 7) z S' := by
  obtain ⟨P, kb, l, q, F, sv, wv, dv, h1, h2⟩ := h.rt.ex
  cases hz : abortE S t with
  | some z =>
    refine (abort_early w h1.rt t z hz).mono ?_
    rintro e w' ⟨rfl, rfl⟩
    exact ⟨z, rfl, S, h.stay (Chg.refl _ _), Or.inl ⟨z, rfl, rfl, rfl⟩⟩
  | none =>
    refine (abort_go w h1 h2 h.rt.lt h.rt.new h.rt.good h.rt.is h.st h60 h.rep (by rw [h.fuse]; omega) t hz).mono ?_
    rintro e w' ⟨z, rfl, X', V', m', S', hg, e1, e2, ho⟩
    obtain ⟨k1, k2⟩ := h.out hg ho (abort_fits h.rt.good.wnt.few) e1 e2
    exact ⟨z, rfl, S', k1, k2⟩
theorem rl_commit (w : World) (h : RL Q W w r d X recs s a m S) (h60 : s ≤ 1152921504606846976) (hd : S.done.length < 1000) (t : Int) :
    Calls Tryz.prog 20 #[.pointer (some ⟨r, 0, none⟩), .int .i64 t] w fun e w' => ∃ z : Int, e = .returned (.int .i64 z) ∧ ∃ S', RNext Q W w w' r d X s S' ∧ Told (commitE S t) S (commitS S t.toNat) (DoWhy X m (commitB S t.toNat) 7) z S' := by
  obtain ⟨P, kb, l, q, F, sv, wv, dv, h1, h2⟩ := h.rt.ex
  cases hz : commitE S t with
  | some z =>
    refine (commit_early w h1.rt t z hz).mono ?_
    rintro e w' ⟨rfl, rfl⟩
    exact ⟨z, rfl, S, h.stay (Chg.refl _ _), Or.inl ⟨z, rfl, rfl, rfl⟩⟩
  | none =>
    refine (commit_go w h1 h2 h.rt.lt h.rt.new h.rt.good h.rt.is h.st h60 h.rep (by rw [h.fuse]; omega) hd t hz).mono ?_
    rintro e w' ⟨z, rfl, X', V', m', S', hg, e1, e2, ho⟩
    obtain ⟨k1, k2⟩ := h.out hg ho (commit_fits h.rt.good.wnt h.rt.good.wdig h.rt.good.stk.few) e1 e2
    exact ⟨z, rfl, S', k1, k2⟩
theorem rl_stage (w : World) (h : RL Q W w r d X recs s a m S) (h60 : s ≤ 1152921504606846976) (t : Int) {v : Value} {ps : List Pk} (hp : PksAt w G v ps) (hG : ∀ b, G b → ¬ Q b ∧ b < w.heap.size) :
    Calls Tryz.prog 19 #[.pointer (some ⟨r, 0, none⟩), .int .i64 t, v] w fun e w' => ∃ z : Int, e = .returned (.int .i64 z) ∧ ∃ S', RNext Q W w w' r d X s S' ∧ Told (stageE S t ps) S (stageS S t.toNat ps) (DoWhy X m (stageB t.toNat ps) 7) z S' := by
  obtain ⟨P, kb, l, q, F, sv, wv, dv, h1, h2⟩ := h.rt.ex
  cases hz : stageE S t ps with
  | some z =>
    refine (stage_early w h1.rt t hp z hz).mono ?_
    rintro e w' ⟨rfl, hc⟩
    exact ⟨z, rfl, S, h.stay hc, Or.inl ⟨z, rfl, rfl, rfl⟩⟩
  | none =>
    refine (stage_go w h1 h2 h.rt.lt h.rt.new h.rt.good h.rt.is h.st h60 h.rep (by rw [h.fuse]; omega) t hp hG hz).mono ?_
    rintro e w' ⟨z, rfl, X', V', m', S', hg, e1, e2, ho⟩
    obtain ⟨k1, k2⟩ := h.out hg ho (stage_fits (SOk.of (stage_told hz).2.1) (pks_dig hp)) e1 e2
    exact ⟨z, rfl, S', k1, k2⟩

end Go.Proofs.YtbjagmlbamjdbaaGreat.roots
end

/-
  rootdb: Open of a disk on which nothing was laid.
-/
section
set_option linter.unusedSimpArgs false
set_option linter.unusedVariables false
namespace Go.Proofs.YtbjagmlbamjdbaaGreat.roots
open Go.RowKit Go.Maps Go.My Go.ChangeMaps disks bufs wals kvs
set_option maxRecDepth 100000

variable {W w w' : World} {P Q : Nat → Prop} {r kb l q d s a : Nat} {X : DV} {V : LV} {m : List KV} {recs : List Txt} {S : RS}

def nilS : RS := ⟨[], 0, [], []⟩

theorem str_app1 (c d : UInt8) (s : ByteArray) (h : strV [c] = .string s) : strV [c, d] = .string (s ++ (⟨#[d]⟩ : ByteArray)) := by
  unfold strV at h ⊢
  simp only [Value.string.injEq] at h ⊢
  subst h
  apply ByteArray.ext
  rw [ByteArray.data_append]
  simp

set_option maxHeartbeats 1000000 in
theorem read_nil (w : World) (h : KAt P w kb l q d X V []) (c0 : w.cell? ⟨r, 0, none⟩ = some (.pointer (some ⟨kb, 0, none⟩))) (c : UInt8) (sc : ByteArray) (hsc : strV [c] = .string sc) :
    Calls Tryz.prog 96 #[.pointer (some ⟨r, 0, none⟩), .string sc] w fun e w' => e = .returned (.tuple #[.slice none 0 0, .bool true]) ∧ Chg (fun _ => False) w w' := by
  have hse : scanF [] [c] [c, 255] = [] := by simp [scanF, sortF]
  have hs := kat_scan h (by simp) [c] [c, 255]
  rw [hse, str_app1 c 255 sc hsc, hsc] at hs
  have HS := Lib.hid hs
  have hsz : sc.size = 1 := str_size _ sc hsc
  have hfit : ¬ 9223372036854775807 < sc.size + 1 := by omega
  have HK := Lib.hid (fun W : World => check_is W (PksAt.nil W (fun _ => False)))
  clear h hs hse hsc hsz
  go_enter Tryz.func96, Tryz.ntmps96
  go_wp2_with (first
    | (go_at_call 97; refine HS.out.mono ?_; rintro e w1 ⟨v1, rfl, hp1, hc1⟩
       obtain ⟨o1, p1, hv1, -⟩ := hp1.slice
       have HC1 := Lib.hid hc1
       simp only [List.map_nil, List.length_nil] at hv1
       subst hv1
       clear hp1 hc1))
  go_loopw [6, 20] (fun u j wr => u = .slice none 0 0 ∧ j = .int .i64 0 ∧ w1 = wr) (fun _ _ _ => 0)
  · exact ⟨rfl, rfl, rfl⟩
  obtain ⟨rfl, rfl, rfl⟩ := hrel
  go_wp2_with (first
    | (go_at_call 10; refine (HK.out _).mono ?_; rintro e w2 ⟨rfl, hc2⟩; have HC2 := Lib.hid hc2; clear hc2))
  go_ret2
  exact ⟨rfl, HC1.out.trans' HC2.out⟩

def headN (kb : Nat) : Array Value := #[.pointer (some ⟨kb, 0, none⟩), .slice none 0 0, .int .i64 0, .slice none 0 0, .slice none 0 0]

set_option maxHeartbeats 2000000 in
theorem load_nil (w : World) (h : KS P W w kb l q d X V []) (hb : w.heap[r]? = some (.cells (headN kb) 37 (0, 0))) (hr : Beside P q w r) (hn : W.heap.size ≤ r) :
    Calls Tryz.prog 56 #[.pointer (some ⟨r, 0, none⟩)] w fun e w' => e = .returned (.bool true) ∧ KS P W w' kb l q d X V [] ∧ w'.heap[r]? = some (.cells (headN kb) 37 (0, 0)) ∧ Chg (· = r) w w' := by
  have HB := Lib.hid hb
  have HK := Lib.hid h
  have hne : r ≠ kb := by
    intro e
    have h1 := hb
    rw [e, h.at'.db.head] at h1
    simp [headN] at h1
  have HNe := Lib.hid (And.intro hne (And.intro hr hn))
  have z1 : w.frozen? ⟨r, 1, none⟩ = false := free_of_block hb
  have c0 : w.cell? ⟨r, 0, none⟩ = some (.pointer (some ⟨kb, 0, none⟩)) := cell_of_block hb rfl
  have HRp := Lib.hid (read_nil w h.at' c0 112 ⟨#[112]⟩ rfl)
  clear h hb hr hn hne z1 c0
  go_enter Tryz.func56, Tryz.ntmps56
  go_wp2_with (first
    | (go_at_call 96; fail))
  refine HRp.out.mono ?_
  rintro e w1 ⟨rfl, hc1⟩
  have hb1 := hc1.at HB.out id
  have z1 : w1.frozen? ⟨r, 1, none⟩ = false := free_of_block hb1
  have y1 : w1.cell? ⟨r, 1, none⟩ = some (.slice none 0 0) := cell_of_block hb1 rfl
  have hb2 : (w1.setCell ⟨r, 1, none⟩ (.slice none 0 0)).heap[r]? = some (.cells (headN kb) 37 (0, 0)) := by simpa [headN] using block_setCell (i := 1) (v := .slice none 0 0) hb1
  have hc2 : Chg (· = r) w (w1.setCell ⟨r, 1, none⟩ (.slice none 0 0)) := (hc1.mono (fun _ _ e => e.elim)).trans' (Chg.setCell (S := (· = r)) (Chg.refl _ _) (fun _ => rfl) _)
  have hside : ∀ w', Chg (· = r) w w' → KS P W w' kb l q d X V [] := fun w' hc => ks_aside HK.out hc (fun k hk e => HNe.out.2.1.1 (e ▸ hk)) (fun e => HNe.out.2.1.2.1 e.symm) (fun e => HNe.out.1 e.symm) (fun k e => e ▸ HNe.out.2.2)
  have HSide := Lib.hid hside
  have HC2 := Lib.hid hc2
  have HB2 := Lib.hid hb2
  have HRq := Lib.hid (read_nil (r := r) (w1.setCell ⟨r, 1, none⟩ (.slice none 0 0)) (hside _ hc2).at' (cell_of_block hb2 rfl) 113 ⟨#[113]⟩ rfl)
  clear hc1 hb1 hb2 hc2 hside HRp
  dsimp only
  go_wp2_with (first
    | (go_at_call 96; fail))
  refine HRq.out.mono ?_
  rintro e w3 ⟨rfl, hc3⟩
  clear z1 y1
  have hb3 := hc3.at HB2.out id
  have z3 : w3.frozen? ⟨r, 3, none⟩ = false := free_of_block hb3
  have y3 : w3.cell? ⟨r, 3, none⟩ = some (.slice none 0 0) := cell_of_block hb3 rfl
  obtain ⟨w4, hw4⟩ : ∃ w4, w3.setCell ⟨r, 3, none⟩ (.slice none 0 0) = w4 := ⟨_, rfl⟩
  have hb4 : w4.heap[r]? = some (.cells (headN kb) 37 (0, 0)) := by rw [← hw4]; simpa [headN] using block_setCell (i := 3) (v := .slice none 0 0) hb3
  have hc4 : Chg (· = r) w w4 := by
    rw [← hw4]
    exact (HC2.out.trans' (hc3.mono (fun _ _ e => e.elim))).trans' (Chg.setCell (S := (· = r)) (Chg.refl _ _) (fun _ => rfl) _)
  have HC4 := Lib.hid hc4
  have HB4 := Lib.hid hb4
  clear hc3 hb3 hb4 hc4 HRq
  dsimp only
  go_wp2_with fail
  try rw [hw4]
  clear hw4 z3 y3
  have HD := Lib.hid (show Chg (· = r) w w4.drew from HC4.out.drew)
  have d1 : w4.cell? ⟨r, 1, none⟩ = some (.slice none 0 0) := cell_of_block HB4.out rfl
  have d3 : w4.cell? ⟨r, 3, none⟩ = some (.slice none 0 0) := cell_of_block HB4.out rfl
  refine wp_region_noPanic ?_
  refine wp_region_held_drew (S := (fun w' => w'.cell? ⟨r, 1, none⟩ = some (.slice none 0 0) ∧ w'.cell? ⟨r, 3, none⟩ = some (.slice none 0 0))) (by kernel_rfl) (⟨d1, d3⟩) (fun hHeld => ?_)
  refine take_list (i := 0) (v := ?_) rfl (by kernel_rfl) (by kernel_rfl) (by kernel_rfl) (fun _ _ _ h => h) (Or.inl ⟨by rfl, fun w hSw => ?_⟩) hHeld ?_
  rotate_left
  · (obtain ⟨hSw1, hSw2⟩ := hSw; go_simp)
    try with_reducible rfl
  simp only [Act.put, List.setIfInBounds_toArray, List.set_cons_zero, List.set_cons_succ]
  refine take_list (i := 1) (v := ?_) rfl (by kernel_rfl) (by kernel_rfl) (by kernel_rfl) (fun _ _ _ h => h) (Or.inl ⟨by rfl, fun w hSw => ?_⟩) hHeld ?_
  rotate_left
  · (obtain ⟨hSw1, hSw2⟩ := hSw; go_simp)
    try with_reducible rfl
  simp only [Act.put, List.setIfInBounds_toArray, List.set_cons_zero, List.set_cons_succ]
  refine take_list (i := 2) (v := ?_) rfl (by kernel_rfl) (by kernel_rfl) (by kernel_rfl) (fun _ _ _ h => h) (Or.inl ⟨by rfl, fun w hSw => ?_⟩) hHeld ?_
  rotate_left
  · (obtain ⟨hSw1, hSw2⟩ := hSw; go_simp)
    try with_reducible rfl
  simp only [Act.put, List.setIfInBounds_toArray, List.set_cons_zero, List.set_cons_succ]
  refine take_list (i := 3) (v := ?_) rfl (by kernel_rfl) (by kernel_rfl) (by kernel_rfl) (fun _ _ _ h => h) (Or.inl ⟨by rfl, fun w hSw => ?_⟩) hHeld ?_
  rotate_left
  · (obtain ⟨hSw1, hSw2⟩ := hSw; go_simp)
    try with_reducible rfl
  simp only [Act.put, List.setIfInBounds_toArray, List.set_cons_zero, List.set_cons_succ]
  refine take_list (i := 4) (v := ?_) rfl (by kernel_rfl) (by kernel_rfl) (by kernel_rfl) (fun _ _ _ h => h) (Or.inl ⟨by rfl, fun w hSw => ?_⟩) hHeld ?_
  rotate_left
  · (obtain ⟨hSw1, hSw2⟩ := hSw; go_simp)
    try with_reducible rfl
  simp only [Act.put, List.setIfInBounds_toArray, List.set_cons_zero, List.set_cons_succ]
  refine take_list (i := 5) (v := ?_) rfl (by kernel_rfl) (by kernel_rfl) (by kernel_rfl) (fun _ _ _ h => h) (Or.inl ⟨by rfl, fun w hSw => ?_⟩) hHeld ?_
  rotate_left
  · (obtain ⟨hSw1, hSw2⟩ := hSw; go_simp)
    try with_reducible rfl
  simp only [Act.put, List.setIfInBounds_toArray, List.set_cons_zero, List.set_cons_succ]
  refine take_list (i := 6) (v := ?_) rfl (by kernel_rfl) (by kernel_rfl) (by kernel_rfl) (fun _ _ _ h => h) (Or.inl ⟨by rfl, fun w hSw => ?_⟩) hHeld ?_
  rotate_left
  · (obtain ⟨hSw1, hSw2⟩ := hSw; go_simp)
    try with_reducible rfl
  simp only [Act.put, List.setIfInBounds_toArray, List.set_cons_zero, List.set_cons_succ]
  refine take_list (i := 7) (v := ?_) rfl (by kernel_rfl) (by kernel_rfl) (by kernel_rfl) (fun _ _ _ h => h) (Or.inl ⟨by rfl, fun w hSw => ?_⟩) hHeld ?_
  rotate_left
  · (obtain ⟨hSw1, hSw2⟩ := hSw; go_simp)
    try with_reducible rfl
  simp only [Act.put, List.setIfInBounds_toArray, List.set_cons_zero, List.set_cons_succ]
  refine take_list (i := 8) (v := ?_) rfl (by kernel_rfl) (by kernel_rfl) (by kernel_rfl) (fun _ _ _ h => h) (Or.inl ⟨by rfl, fun w hSw => ?_⟩) hHeld ?_
  rotate_left
  · (obtain ⟨hSw1, hSw2⟩ := hSw; go_simp)
    try with_reducible rfl
  simp only [Act.put, List.setIfInBounds_toArray, List.set_cons_zero, List.set_cons_succ]
  refine take_list (i := 9) (v := ?_) rfl (by kernel_rfl) (by kernel_rfl) (by kernel_rfl) (fun _ _ _ h => h) (Or.inl ⟨by rfl, fun w hSw => ?_⟩) hHeld ?_
  rotate_left
  · (obtain ⟨hSw1, hSw2⟩ := hSw; go_simp)
    try with_reducible rfl
  simp only [Act.put, List.setIfInBounds_toArray, List.set_cons_zero, List.set_cons_succ]
  refine take_list (i := 10) (v := ?_) rfl (by kernel_rfl) (by kernel_rfl) (by kernel_rfl) (fun _ _ _ h => h) (Or.inl ⟨by rfl, fun w hSw => ?_⟩) hHeld ?_
  rotate_left
  · (obtain ⟨hSw1, hSw2⟩ := hSw; go_simp)
    try with_reducible rfl
  simp only [Act.put, List.setIfInBounds_toArray, List.set_cons_zero, List.set_cons_succ]
  refine take_list (i := 11) (v := ?_) rfl (by kernel_rfl) (by kernel_rfl) (by kernel_rfl) (fun _ _ _ h => h) (Or.inl ⟨by rfl, fun w hSw => ?_⟩) hHeld ?_
  rotate_left
  · (obtain ⟨hSw1, hSw2⟩ := hSw; go_simp)
    try with_reducible rfl
  simp only [Act.put, List.setIfInBounds_toArray, List.set_cons_zero, List.set_cons_succ]
  refine wpAnyH_done (by kernel_rfl) ?_ _
  refine NoPanic.normal ?_
  clear hHeld d1 d3
  have hb5 : w4.drew.heap[r]? = some (.cells (headN kb) 37 (0, 0)) := HB4.out
  obtain ⟨w5, hw5⟩ : ∃ w5, w4.drew = w5 := ⟨_, rfl⟩
  rw [hw5] at hb5 HD ⊢
  clear hw5
  have hk5 := HSide.out w5 HD.out
  have d0 : w5.cell? ⟨r, 0, none⟩ = some (.pointer (some ⟨kb, 0, none⟩)) := cell_of_block hb5 rfl
  have hsc : scanF [] [99] [100] = [] := by simp [scanF, sortF]
  have hs5 := kat_scan hk5.at' (by simp) [99] [100]
  rw [hsc] at hs5
  have HS5 := Lib.hid (show Calls Tryz.prog 97 #[.pointer (some ⟨kb, 0, none⟩), .string ⟨#[99]⟩, .string ⟨#[100]⟩] w5 fun e w' => ∃ v, e = .returned v ∧ Puts w' w5.heap.size v [] ∧ Chg (fun _ => False) w5 w' from hs5)
  have HB5 := Lib.hid hb5
  clear hb5 hk5 hsc hs5
  go_wp2_with (first
    | (go_at_call 97; refine HS5.out.mono ?_; rintro e w6 ⟨v6, rfl, hp6, hc6⟩
       obtain ⟨o6, p6, hv6, -⟩ := hp6.slice
       have HC6 := Lib.hid hc6
       simp only [List.map_nil, List.length_nil] at hv6
       subst hv6
       clear hp6 hc6))
  go_loopw [5, 53] (fun u j wr => u = .int .i64 0 ∧ j = .int .i64 0 ∧ w6 = wr) (fun _ _ _ => 0)
  · exact ⟨rfl, rfl, rfl⟩
  obtain ⟨rfl, rfl, rfl⟩ := hrel
  have hc6 := HD.out.trans' (HC6.out.mono (fun _ _ e => e.elim) : Chg (· = r) w5 w6)
  have hk6 := HSide.out w6 hc6
  have hb6 := HC6.out.at HB5.out id
  have e0 : w6.cell? ⟨r, 0, none⟩ = some (.pointer (some ⟨kb, 0, none⟩)) := cell_of_block hb6 rfl
  have e3 : w6.cell? ⟨r, 3, none⟩ = some (.slice none 0 0) := cell_of_block hb6 rfl
  have HGe := Lib.hid (show Calls Tryz.prog 99 #[.pointer (some ⟨kb, 0, none⟩), .string ⟨#[116]⟩] w6 fun e w' => e = .returned (.tuple #[.string ⟨#[]⟩, .bool false]) ∧ w6 = w' from kat_get hk6.at' [116] (by decide))
  have HLe := Lib.hid (show Calls Tryz.prog 100 #[.pointer (some ⟨kb, 0, none⟩)] w6 fun e w' => e = .returned (.int .i64 0) ∧ w6 = w' from kat_len hk6.at')
  have HB6 := Lib.hid hb6
  have HC6' := Lib.hid hc6
  have HK6 := Lib.hid hk6
  clear hc6 hk6 hb6 d0
  go_wp2_with (first
    | (go_at_call 99; refine HGe.out.mono ?_; rintro e w' ⟨rfl, rfl⟩)
    | (go_at_call 100; refine HLe.out.mono ?_; rintro e w' ⟨rfl, rfl⟩))
  go_ret
  exact ⟨rfl, HK6.out, HB6.out, HC6'.out⟩

/-- Open of a disk on which nothing was laid. -/
theorem open_blank (w : World) (hd : DS P W w d X) (hb : Blank X) (hf : X.fuse = -1) :
    Calls Tryz.prog 24 #[.pointer (some ⟨d, 0, none⟩)] w fun e w' => ∃ r, e = .returned (.tuple #[.pointer (some ⟨r, 0, none⟩), .int .i64 0]) ∧ ∃ Q X' recs a m, RL Q W w' r d X' recs 1 a m nilS ∧ X'.B.length = X.B.length ∧ (∀ g, g < w.heap.size → ¬ P g → ¬ Q g) ∧ Chg P w w' := by
  have HO := Lib.hid (ks_open_new w hd hb hf)
  have HD := Lib.hid hd
  clear hd hb hf
  go_enter Tryz.func24, Tryz.ntmps24
  go_wp2_with (first
    | (go_at_call 31; fail))
  refine HO.out.mono ?_
  rintro e w2 ⟨b, rfl, l, q, m, X', recs, s, a, P2, hk2, rfl, rfl, hst, hf, hlen⟩
  obtain rfl := rep_nil hk2.rep
  obtain ⟨w3, hw3⟩ : ∃ w3, w2.alloc (.cells #[.pointer (some ⟨b, 0, none⟩), .slice none 0 0, .int .i64 0, .slice none 0 0, .slice none 0 0] 37) = w3 := ⟨_, rfl⟩
  have hca : Chg (fun _ => False) w2 w3 := by rw [← hw3]; exact (Chg.refl _ _).alloc _
  have hba : w3.heap[w2.heap.size]? = some (.cells (headN b) 37 (0, 0)) := by rw [← hw3]; exact block_alloc_new w2 _
  have hks := hk2.ks.fresh hca
  have hbe := hk2.ks.made (w' := w3) (Nat.le_refl w2.heap.size) (lt_of_block hba)
  have HL := Lib.hid (load_nil w3 hks hba hbe hk2.ks.chg.size)
  have HBe := Lib.hid (And.intro hbe hba)
  have HK2 := Lib.hid hk2
  have HSt := Lib.hid (And.intro hst (And.intro hf hlen))
  have HCa := Lib.hid hca
  clear hca hba hks hbe hk2 hst hf hlen HO
  dsimp only
  go_wp2_with (first
    | (go_at_call 56; fail))
  try rw [hw3]
  clear hw3
  refine HL.out.mono ?_
  rintro e w4 ⟨rfl, hk4, hb4, hc4⟩
  have HB4 := Lib.hid hb4
  have HK4 := Lib.hid hk4
  have HC4 := Lib.hid hc4
  obtain ⟨r, hr⟩ : ∃ r, w2.heap.size = r := ⟨_, rfl⟩
  rw [hr] at HBe HB4 HC4 ⊢
  have HR := Lib.hid hr
  clear hb4 hk4 hc4 HL hr
  dsimp only
  go_wp2_with fail
  go_ret2
  have hs2 := HK2.out.chg.size
  have hwW := HD.out.chg
  have hrl : r < w3.heap.size := lt_of_block HBe.out.2
  have hs4 := HC4.out.size
  have hks := HK4.out
  have hrks : RKS P2 W w4 r b l q d X' (lvW [] 1 a []) [] (fun _ => False) nilS (.slice none 0 0) (.slice none 0 0) (.slice none 0 0) := ⟨hks, ⟨by simpa [headN, nilS] using HB4.out, PksAt.nil _ _, PksAt.nil _ _, ⟨by simp [nilS], Or.inl ⟨rfl, by simp [nilS]⟩⟩, by simp [nilS], by simp [nilS]⟩, Beside.more HBe.out.1 hs4, fun k hk => hk.elim, fun g hg => by simp [Value.ownBlock] at hg, by rw [← HR.out]; exact HK2.out.ks.chg.size, fun k hk => hk.elim, id, fun g hg => by simp [Value.ownBlock] at hg⟩
  have hsort : sortF [] = rootL nilS := by simp [sortF, rootL, nilS, dlst, lst, tlst]
  refine ⟨r, rfl, fun g => P2 g ∨ g = q ∨ g = r, X', [], a, [], ⟨⟨⟨P2, b, l, q, (fun _ => False), _, _, _, hrks, fun g hg => ?_⟩, fun g hg => ?_, fun g hg => ?_, RGood.nil, hsort⟩, HSt.out.1, HK2.out.rep, HSt.out.2.1⟩, HSt.out.2.2, fun g hg hp e => ?_, ?_⟩
  · rcases hg with e | e | e | e | e
    · exact Or.inl e
    · exact Or.inr (Or.inl e)
    · exact Or.inr (Or.inr e)
    · exact e.elim
    · simp [Value.ownBlock] at e
  · rcases hg with e | e | e
    · exact hks.at'.lt g e
    · rw [e]; exact hks.at'.db.ltq
    · rw [e]; omega
  · rcases hg with e | e | e
    · exact hks.new g e
    · rw [e]; exact hks.nq
    · rw [e]; exact hrks.nr
  · have h1 := HK2.out.off g hg hp
    rcases e with e | e | e
    · exact h1.1 e
    · exact h1.2.1 e
    · have := HR.out; have := HK2.out.chg.size; omega
  · have hc24 : Chg (· = r) w2 w4 := (HCa.out.mono (fun _ _ e => e.elim)).trans' HC4.out
    exact HK2.out.chg.trans hc24 (fun i hi e => by have := HR.out; have := HK2.out.chg.size; omega)

end Go.Proofs.YtbjagmlbamjdbaaGreat.roots
end

/-
  rootdb: the plain law: acts of a small root have room.
-/
section
set_option linter.unusedSimpArgs false
set_option linter.unusedVariables false
namespace Go.Proofs.YtbjagmlbamjdbaaGreat.roots
open Go.RowKit Go.Maps Go.My Go.ChangeMaps disks bufs wals kvs
set_option maxRecDepth 100000

variable {W w w' : World} {Q : Nat → Prop} {r d s a : Nat} {X : DV} {m : List KV} {recs : List Txt} {S : RS}

theorem rootN_le (h : RGood S) (h31 : S.done.length ≤ 31) : rootN S ≤ 3745 := by
  have h1 := h.stk.few
  have h2 := h.stk.lays
  have h3 := h.wnt.few
  have h4 := h.wnt.lays
  unfold rootN
  omega
theorem RL.sorted (h : RL Q W w r d X recs s a m S) : NoDup (sortF m) ∧ sortF (sortF m) = rootL S := ⟨(sortF_asc h.rt.nd).nodup, by rw [sort_sort h.rt.nd, h.rt.is]⟩
theorem RL.small (h : RL Q W w r d X recs s a m S) : S.stack.length ≤ 16 ∧ S.wants.length ≤ 16 := ⟨h.rt.good.stk.few, h.rt.good.wnt.few⟩

theorem RL.room_stage (h : RL Q W w r d X recs s a m S) {t : Int} {ps : List Pk} (he : stageE S t ps = none) (hd : ∀ p ∈ ps, p.dig) (h31 : S.done.length ≤ 31) (hX : rootN (stageS S t.toNat ps) + 9 ≤ 64 * areaN X.B.length) : ¬ DoWhy X m (stageB t.toNat ps) 7 := by
  obtain ⟨-, hc, h0, n, rfl, n1, n2, hn⟩ := stage_told he
  rw [Int.toNat_natCast] at hX ⊢
  obtain ⟨k1, k2⟩ := h.sorted
  have hs := h.small
  have hg := h.rt.good.stage n2 n1 hn hc hd
  have hf := (SOk.of hc).few
  exact no_full (stage_fits (SOk.of hc) hd) (stage_is k1 k2 h0 (h.rt.good.none h0) (by omega) (by omega) (by omega) (by omega)) hg h31 hX (Nat.le_trans (rootN_le hg h31) (by omega))
theorem RL.room_commit (h : RL Q W w r d X recs s a m S) {t : Int} (he : commitE S t = none) (h31 : S.done.length ≤ 30) (hX : rootN (commitS S t.toNat) + 9 ≤ 64 * areaN X.B.length) : ¬ DoWhy X m (commitB S t.toNat) 7 := by
  obtain ⟨-, n, rfl, n1, n2, hn, -⟩ := commit_told he
  rw [Int.toNat_natCast] at hX ⊢
  obtain ⟨k1, k2⟩ := h.sorted
  have hs := h.small
  have hg := h.rt.good.commit n1 n2 hn
  have hl : (commitS S n).done.length ≤ 31 := by simp only [commitS, List.length_append, List.length_cons, List.length_nil]; omega
  exact no_full (commit_fits h.rt.good.wnt h.rt.good.wdig hs.1) (commit_is k1 k2 (by omega) (by omega) (by omega)) hg hl hX (Nat.le_trans (rootN_le hg hl) (by omega))
/-- An act that is done. -/
theorem Told.done {S2 S' : RS} {full : Prop} {z : Int} (h : Told none S S2 full z S') (hf : ¬ full) : z = 0 ∧ S' = S2 := by
  rcases h with ⟨y, e, -, -⟩ | ⟨-, h1, h2⟩ | ⟨-, -, -, h⟩
  · cases e
  · exact ⟨h1, h2⟩
  · exact absurd h hf
theorem Told.early {E : Option Nat} {S2 S' : RS} {full : Prop} {z : Int} {y : Nat} (h : Told E S S2 full z S') (he : E = some y) : z = y ∧ S' = S := by
  subst he
  rcases h with ⟨y', e, h1, h2⟩ | ⟨e, -, -⟩ | ⟨e, -⟩
  · cases e; exact ⟨h1, h2⟩
  · cases e
  · cases e

end Go.Proofs.YtbjagmlbamjdbaaGreat.roots
end

/-
  rootdb's laws: two layers compared.
-/
section
set_option linter.unusedSimpArgs false
set_option linter.unusedVariables false
namespace Go.Proofs.YtbjagmlbamjdbaaGreat.roots
open Go.RowKit Go.Maps Go.My Go.ChangeMaps disks bufs wals kvs
set_option maxRecDepth 100000

variable {w w' : World}

theorem rf_ext (z : Rf) (hz : z.sum.length = 32) : (rfC z).toArray.extract 0 (0 + 32) = (cellsB z.sum).toArray := by
  unfold rfC
  have hl : (cellsB z.sum).length = 32 := by unfold cellsB; rw [List.length_map, hz]
  simp [hl]
theorem size_run (w : World) : (sizeOf 96).run Tryz.prog w = .ok 32 w := by kernel_rfl
theorem part_dig (w : World) (z : Rf) (hz : z.sum.length = 32) : (part 96 (rfC z).toArray 0).run Tryz.prog w = .ok (.agg (cellsB z.sum).toArray) w := by
  have h1 := size_run w
  have h2 := rf_ext z hz
  unfold part
  rw [Sem.run_bind, Tryz.isAgg96]
  simp only [Result.andThen_ok, if_true, Sem.run_bind]
  rw [h1]
  simp only [Result.andThen_ok, Sem.run_pure, h2]
theorem part_int (w : World) (z : Rf) (hz : z.sum.length = 32) : (part 3 (rfC z).toArray 32).run Tryz.prog w = .ok (.int .i64 z.size) w := by
  unfold part
  rw [Sem.run_bind, Tryz.isAgg3]
  have : (rfC z).toArray[32]? = some (.int .i64 z.size) := by
    have hl : (cellsB z.sum).length = 32 := by unfold cellsB; rw [List.length_map, hz]
    unfold rfC
    simp [hl]
  simp only [Result.andThen_ok, Bool.false_eq_true, if_false, this, Sem.run_pure]
theorem ref_fields0 : (Tryz.prog.fieldsOf 98).toList.map (fun f => (decide (f.name ≠ "_"), f.type, f.offset)) = [(true, 96, 0), (true, 3, 32)] := by
  unfold Program.fieldsOf
  rw [Tryz.underlying98]
  rfl
theorem two_of {α β : Type} {g : α → β} {l : List α} {x y : β} (h : l.map g = [x, y]) : ∃ a b, l = [a, b] ∧ g a = x ∧ g b = y := by
  match l, h with
  | [a, b], h =>
    simp only [List.map_cons, List.map_nil, List.cons.injEq, and_true] at h
    exact ⟨a, b, rfl, h.1, h.2⟩
theorem ref_fields : ∃ f0 f1, (Tryz.prog.fieldsOf 98).toList = [f0, f1] ∧ f0.name ≠ "_" ∧ f0.type = 96 ∧ f0.offset = 0 ∧ f1.name ≠ "_" ∧ f1.type = 3 ∧ f1.offset = 32 := by
  obtain ⟨a, b, e, h1, h2⟩ := two_of ref_fields0
  simp only [Prod.mk.injEq, decide_eq_true_eq] at h1 h2
  exact ⟨a, b, e, h1.1, h1.2.1, h1.2.2, h2.1, h2.2.1, h2.2.2⟩
theorem eq_dig (w : World) (d : Nat) (x y : Txt) (hx : x.length = 32) (hy : y.length = 32) : (Op.equalIn (d + 3) 96 (.agg (cellsB x).toArray) (.agg (cellsB y).toArray)).run Tryz.prog w = .ok (decide (x = y)) w := by
  obtain ⟨i, hi, hz, hsz, hby⟩ := u8_parts
  have hc : Tryz.prog.cellsOf 5 = 1 := by kernel_rfl
  rw [run_equalIn_array w (d + 2) _ _ Tryz.underlying96 hi, hc, List.range_eq_range', run_eqItems_bytes w (d + 1) x y (by omega) 32 0 (by omega)]
  simp

theorem eqFields_two {P : Program} (w : World) (d : Nat) (xs ys : Array Value) (f0 f1 : Field) (a b a' b' : Value) (r0 r1 : Bool) (n0 : f0.name ≠ "_") (n1 : f1.name ≠ "_")
    (p1 : (part f0.type xs f0.offset).run P w = .ok a w) (p2 : (part f0.type ys f0.offset).run P w = .ok b w) (p3 : (Op.equalIn d f0.type a b).run P w = .ok r0 w)
    (q1 : (part f1.type xs f1.offset).run P w = .ok a' w) (q2 : (part f1.type ys f1.offset).run P w = .ok b' w) (q3 : (Op.equalIn d f1.type a' b').run P w = .ok r1 w) :
    (Op.eqFields d xs ys [f0, f1]).run P w = .ok (r0 && r1) w := by
  unfold Op.eqFields
  rw [if_pos n0]
  simp only [Sem.run_bind, p1, p2, p3, Result.andThen_ok]
  cases r0
  · simp
  · simp only [Bool.not_true, Bool.false_eq_true, if_false, Bool.true_and]
    unfold Op.eqFields
    rw [if_pos n1]
    simp only [Sem.run_bind, q1, q2, q3, Result.andThen_ok]
    cases r1
    · simp
    · simp [Op.eqFields]

theorem eq_ref (w : World) (d : Nat) (x y : Rf) (hx : x.sum.length = 32) (hy : y.sum.length = 32) :
    (Op.equalIn (d + 4) 98 (.agg (rfC x).toArray) (.agg (rfC y).toArray)).run Tryz.prog w = .ok (decide (x = y)) w := by
  obtain ⟨f0, f1, e, a1, a2, a3, b1, b2, b3⟩ := ref_fields
  have hst : Tryz.prog.stoodInHeld 98 = false := by kernel_rfl
  have hun : Tryz.prog.underlying 98 = some (.struct (Tryz.prog.fieldsOf 98)) := by
    unfold Program.fieldsOf
    rw [Tryz.underlying98]
  have h1 := part_dig w x hx
  have h2 := part_dig w y hy
  have h3 := part_int w x hx
  have h4 := part_int w y hy
  have h5 := eq_dig w d x.sum y.sum hx hy
  have h6 := run_equalIn_int (P := Tryz.prog) w (d + 2) 3 .i64 .i64 x.size y.size Tryz.underlying3
  rw [run_equalIn_struct w (d + 3) _ _ _ hun hst, e]
  have ex : x = y ↔ x.sum = y.sum ∧ x.size = y.size := by cases x; cases y; simp
  have hz := eqFields_two w (d + 3) (rfC x).toArray (rfC y).toArray f0 f1 _ _ _ _ _ _ a1 b1 (by rw [a2, a3]; exact h1) (by rw [a2, a3]; exact h2) (by rw [a2]; exact h5) (by rw [b2, b3]; exact h3) (by rw [b2, b3]; exact h4) (by rw [b2]; exact h6)
  rw [hz]
  congr 1
  rw [Bool.eq_iff_iff, Bool.and_eq_true, decide_eq_true_eq, decide_eq_true_eq, ex, beq_iff_eq]

theorem run_equal_ref (w : World) (x y : Rf) (hx : x.sum.length = 32) (hy : y.sum.length = 32) :
    (Op.equal 98 (.agg (rfC x).toArray) (.agg (rfC y).toArray)).run Tryz.prog w = .ok (decide (x = y)) w := by
  have h := eq_ref w 9996 x y hx hy
  unfold Op.equal
  rw [show Op.maxDepth = 9996 + 4 from rfl]
  exact h

theorem yieldsIf_neq_ref {ops : Array Oper} {S : World → Prop} {op : Oper} {a : Act} (hw : Region.wanted op (yielded ops a.tmps) = true) (p q : Operand) (ho : op.op = .binOp .neq 98 p q 98) (x y : Rf)
    (hp : a.eval p = .agg (rfC x).toArray) (hq : a.eval q = .agg (rfC y).toArray) (hx : x.sum.length = 32) (hy : y.sum.length = 32) :
    YieldsIf Tryz.prog ops S op (.bool (!decide (x = y))) a :=
  .inl ⟨hw, fun w' _ => by
    have he := run_equal_ref w' x y hx hy
    have hg : Tryz.prog.eqGuardType Tryz.prog.depth 98 = false := by kernel_rfl
    unfold execOp
    simp [ho, hp, hq, eqGuard, binOp, hg, he]⟩

end Go.Proofs.YtbjagmlbamjdbaaGreat.roots
end

/-
  rootdb's laws: manifests compared.
-/
section
set_option linter.unusedSimpArgs false
set_option linter.unusedVariables false
namespace Go.Proofs.YtbjagmlbamjdbaaGreat.roots
open Go.RowKit Go.Maps Go.My Go.ChangeMaps disks bufs wals kvs
set_option maxRecDepth 100000

variable {w w' : World}

theorem rf_range {L : List Rf} {b off k : Nat} {x : Rf} (h : RowsAt w 33 (some ⟨b, off, none⟩) (L.map rfC)) (hx : L[k]? = some x) : w.rangeAt b (off + k * 33) (rfC x) := fun j u hj => by
  have hk : (L.map rfC)[k]? = some (rfC x) := by rw [List.getElem?_map, hx]; rfl
  exact h.cell b off rfl k (rfC x) j u hk hj
theorem rfC_len {x : Rf} (h : x.sum.length = 32) : (rfC x).length = 33 := by unfold rfC cellsB; rw [List.length_append, List.length_map, h]; rfl

set_option maxHeartbeats 2000000 in
theorem msame_is (w : World) (m m' : Mf) {F F' : Nat → Prop} {v v' : Value} (h : LysAt w F v m.layers) (h' : LysAt w F' v' m'.layers) :
    Calls Tryz.prog 57 #[.agg #[strV m.name, strV m.ver, v], .agg #[strV m'.name, strV m'.ver, v']] w fun e w' => e = .returned (.bool (decide (m = m'))) ∧ Chg (fun _ => False) w w' := by
  obtain ⟨nm, vr, L⟩ := m
  obtain ⟨nm', vr', L'⟩ := m'
  simp only at h h' ⊢
  obtain ⟨oa, cap, rfl, hr, -, hcap, hcm⟩ := h.is
  obtain ⟨oa', cap', rfl, hr', -, hcap', hcm'⟩ := h'.is
  have HD := Lib.hid h.dig
  have HD' := Lib.hid h'.dig
  obtain ⟨s1, hs1⟩ : ∃ s, strV nm = .string s := ⟨_, rfl⟩
  obtain ⟨s2, hs2⟩ : ∃ s, strV vr = .string s := ⟨_, rfl⟩
  obtain ⟨t1, ht1⟩ : ∃ s, strV nm' = .string s := ⟨_, rfl⟩
  obtain ⟨t2, ht2⟩ : ∃ s, strV vr' = .string s := ⟨_, rfl⟩
  have q1 := str_same hs1 ht1
  have q2 := str_same hs2 ht2
  obtain ⟨R, hR⟩ : ∃ R, decide ((⟨nm, vr, L⟩ : Mf) = ⟨nm', vr', L'⟩) = R := ⟨_, rfl⟩
  rw [hR]
  have HR := Lib.hid hR
  rw [hs1, hs2, ht1, ht2]
  have hcx := ((Chg.refl (fun _ => False) w).alloc (.cells #[.string s1, .string s2, .slice oa L.length cap] 88)).alloc (.cells #[.string t1, .string t2, .slice oa' L'.length cap'] 88)
  have HCx := Lib.hid hcx
  have H := Lib.hid (hr.kept hcx (fun _ _ h => h))
  have H' := Lib.hid (hr'.kept hcx (fun _ _ h => h))
  clear h h' hr hr' hs1 hs2 ht1 ht2 hR hcx
  by_cases e1 : nm = nm'
  · rw [decide_eq_true e1] at q1
    by_cases e2 : vr = vr'
    · rw [decide_eq_true e2] at q2
      by_cases e3 : L.length = L'.length
      · have e3i : ((L.length : Int) != (L'.length : Int)) = false := by simp [e3]
        have HE := Lib.hid (And.intro e1 (And.intro e2 e3))
        have hx1 := block_alloc_new w (.cells #[.string s1, .string s2, .slice oa L.length cap] 88)
        have hx2 := block_alloc_new (w.alloc (.cells #[.string s1, .string s2, .slice oa L.length cap] 88)) (.cells #[.string t1, .string t2, .slice oa' L'.length cap'] 88)
        obtain ⟨wb, hwb⟩ : ∃ wb, (w.alloc (.cells #[.string s1, .string s2, .slice oa L.length cap] 88)).alloc (.cells #[.string t1, .string t2, .slice oa' L'.length cap'] 88) = wb := ⟨_, rfl⟩
        have hx1 : wb.heap[w.heap.size]? = some (.cells #[.string s1, .string s2, .slice oa L.length cap] 88 (0, 0)) := by rw [← hwb]; exact ((Chg.refl (fun _ => False) _).alloc _).at hx1 id
        rw [World.size_alloc, hwb] at hx2
        rw [hwb] at HCx H H'
        have c1 : wb.cell? ⟨w.heap.size, 2, none⟩ = some (.slice oa L.length cap) := cell_of_block hx1 rfl
        have c2 : wb.cell? ⟨w.heap.size + 1, 2, none⟩ = some (.slice oa' L'.length cap') := cell_of_block hx2 rfl
        clear e1 e2 e3
        have HX1 := Lib.hid c1
        have HX2 := Lib.hid c2
        have HY1 := Lib.hid hx1
        have HY2 := Lib.hid hx2
        clear c1 c2 hx1 hx2
        obtain ⟨gx, hgx⟩ : ∃ g, w.heap.size + 1 = g := ⟨_, rfl⟩
        rw [hgx] at HX2
        have c1 := HX1.out
        have c2 := HX2.out
        have a1 : wb.cell? ⟨w.heap.size, 0, none⟩ = some (.string s1) := cell_of_block HY1.out rfl
        have a2 : wb.cell? ⟨w.heap.size, 1, none⟩ = some (.string s2) := cell_of_block HY1.out rfl
        have b1 : wb.cell? ⟨gx, 0, none⟩ = some (.string t1) := by rw [← hgx]; exact cell_of_block HY2.out rfl
        have b2 : wb.cell? ⟨gx, 1, none⟩ = some (.string t2) := by rw [← hgx]; exact cell_of_block HY2.out rfl
        go_enter Tryz.func57, Tryz.ntmps57
        go_wp2_with fail
        clear a1 a2 b1 b2
        try rw [hwb]
        try rw [hgx]
        clear hwb hgx
        go_loopw [5] (fun j wr => ∃ k : Nat, j = .int .i64 k ∧ k ≤ L.length ∧ L.take k = L'.take k ∧ Chg (fun _ => False) wb wr) (fun j _ => L.length - (intOf j).toNat)
        · exact ⟨0, rfl, Nat.zero_le _, rfl, Chg.refl _ _⟩
        clear c1 c2
        obtain ⟨k, rfl, hk, he, hc⟩ := hrel
        have HE2 := Lib.hid he
        have HC := Lib.hid hc
        have c1 := hc.cell HX1.out id
        have c2 := hc.cell HX2.out id
        clear he hc
        by_cases hlt : k < L.length
        · have hki : (k : Int) < (L.length : Int) := by omega
          have hki2 : (k : Int) < (L'.length : Int) := by have := HE.out.2.2; omega
          have hkb : (L.length : Int) ≤ 9223372036854775807 := by have h1 := hcap; have h2 := hcm; unfold maxLen at h2; omega
          obtain ⟨x, hx⟩ : ∃ x, L[k]? = some x := ⟨L[k], List.getElem?_eq_getElem hlt⟩
          obtain ⟨y, hy⟩ : ∃ y, L'[k]? = some y := ⟨L'[k]'(by have := HE.out.2.2; omega), List.getElem?_eq_getElem _⟩
          obtain ⟨b, off, rfl⟩ := H.out.spot (by intro e; rw [List.map_eq_nil_iff] at e; rw [e] at hlt; simp at hlt)
          obtain ⟨b', off', rfl⟩ := H'.out.spot (by intro e; rw [List.map_eq_nil_iff] at e; have h2 := HE.out.2.2; rw [e] at h2; simp only [List.length_nil] at h2; omega)
          have hx32 := HD.out x (List.mem_of_getElem? hx)
          have hy32 := HD'.out y (List.mem_of_getElem? hy)
          have hrx := rf_range (H.out.kept HC.out (fun _ _ h => h)) hx
          have hry := rf_range (H'.out.kept HC.out (fun _ _ h => h)) hy
          have HXY := Lib.hid (And.intro hx hy)
          have HRx := Lib.hid (And.intro hrx hry)
          clear hx hy hrx hry
          go_wp2_with fail
          refine wp_region_noPanic ?_
          refine wp_region_held_drew (S := (fun w' => w'.cell? ⟨w.heap.size, 2, none⟩ = some (.slice (some ⟨b, off, none⟩) L.length cap) ∧ w'.cell? ⟨gx, 2, none⟩ = some (.slice (some ⟨b', off', none⟩) L'.length cap') ∧ w'.rangeAt b (off + k * 33) (rfC x) ∧ w'.rangeAt b' (off' + k * 33) (rfC y))) (by kernel_rfl) (⟨c1, c2, HRx.out.1, HRx.out.2⟩) (fun hHeld => ?_)
          refine take_list (i := 0) (v := ?_) rfl (by kernel_rfl) (by kernel_rfl) (by kernel_rfl) (fun _ _ _ h => h) (Or.inl ⟨by rfl, fun w hSw => ?_⟩) hHeld ?_
          rotate_left
          · (obtain ⟨hSw1, hSw2, -, -⟩ := hSw; go_simp)
            try with_reducible rfl
          simp only [Act.put, List.setIfInBounds_toArray, List.set_cons_zero, List.set_cons_succ]
          refine take_list (i := 1) (v := ?_) rfl (by kernel_rfl) (by kernel_rfl) (by kernel_rfl) (fun _ _ _ h => h) (Or.inl ⟨by rfl, fun w hSw => ?_⟩) hHeld ?_
          rotate_left
          · (obtain ⟨hSw1, hSw2, -, -⟩ := hSw; go_simp)
            try with_reducible rfl
          simp only [Act.put, List.setIfInBounds_toArray, List.set_cons_zero, List.set_cons_succ]
          refine take_list (i := 2) (v := ?_) rfl (by kernel_rfl) (by kernel_rfl) (by kernel_rfl) (fun _ _ _ h => h) (Or.inl ⟨by rfl, fun w hSw => ?_⟩) hHeld ?_
          rotate_left
          · (obtain ⟨hSw1, hSw2, -, -⟩ := hSw; go_simp)
            try with_reducible rfl
          simp only [Act.put, List.setIfInBounds_toArray, List.set_cons_zero, List.set_cons_succ]
          refine take_list (i := 3) (v := ?_) rfl (by kernel_rfl) (by kernel_rfl) (by kernel_rfl) (fun _ _ _ h => h) (Or.inl ⟨by rfl, fun w hSw => ?_⟩) hHeld ?_
          rotate_left
          · (obtain ⟨hSw1, hSw2, -, -⟩ := hSw; go_simp)
            try with_reducible rfl
          simp only [Act.put, List.setIfInBounds_toArray, List.set_cons_zero, List.set_cons_succ]
          refine take_list (i := 5) (v := ?_) rfl (by kernel_rfl) (by kernel_rfl) (by kernel_rfl) (fun _ _ _ h => h) (Or.inl ⟨by rfl, fun w hSw => ?_⟩) hHeld ?_
          rotate_left
          · (obtain ⟨hSw1, hSw2, -, -⟩ := hSw; go_simp)
            try with_reducible rfl
          simp only [Act.put, List.setIfInBounds_toArray, List.set_cons_zero, List.set_cons_succ]
          refine take_list (i := 6) (v := ?_) rfl (by kernel_rfl) (by kernel_rfl) (by kernel_rfl) (fun _ _ _ h => h) (Or.inl ⟨by rfl, fun w hSw => ?_⟩) hHeld ?_
          rotate_left
          · (obtain ⟨hSw1, hSw2, -, -⟩ := hSw; go_simp)
            try with_reducible rfl
          simp only [Act.put, List.setIfInBounds_toArray, List.set_cons_zero, List.set_cons_succ]
          refine take_list (i := 7) (v := ?_) rfl (by kernel_rfl) (by kernel_rfl) (by kernel_rfl) (fun _ _ _ h => h) (Or.inl ⟨by rfl, fun w hSw => ?_⟩) hHeld ?_
          rotate_left
          · (obtain ⟨hSw1, hSw2, -, -⟩ := hSw; go_simp)
            try with_reducible rfl
          simp only [Act.put, List.setIfInBounds_toArray, List.set_cons_zero, List.set_cons_succ]
          refine take_list (i := 8) (v := ?_) rfl (by kernel_rfl) (by kernel_rfl) (by kernel_rfl) (fun _ _ _ h => h) (Or.inl ⟨by rfl, fun w hSw => ?_⟩) hHeld ?_
          rotate_left
          · (obtain ⟨hSw1, hSw2, -, -⟩ := hSw; go_simp)
            try with_reducible rfl
          simp only [Act.put, List.setIfInBounds_toArray, List.set_cons_zero, List.set_cons_succ]
          refine take_list (i := 4) rfl (by kernel_rfl) (by kernel_rfl) (by kernel_rfl) (fun _ _ _ h => h) (yieldsIf_load_mid (by rfl) 98 _ rfl b (off + k * 33) rfl (rfC x) _ (fun w h => h.2.2.1) Tryz.underlying98 rfl (size_ref.trans (by rw [rfC_len hx32]))) hHeld ?_
          simp only [Act.put, List.setIfInBounds_toArray, List.set_cons_zero, List.set_cons_succ]
          refine take_list (i := 9) rfl (by kernel_rfl) (by kernel_rfl) (by kernel_rfl) (fun _ _ _ h => h) (yieldsIf_load_mid (by rfl) 98 _ rfl b' (off' + k * 33) rfl (rfC y) _ (fun w h => h.2.2.2) Tryz.underlying98 rfl (size_ref.trans (by rw [rfC_len hy32]))) hHeld ?_
          simp only [Act.put, List.setIfInBounds_toArray, List.set_cons_zero, List.set_cons_succ]
          refine take_list (i := 10) rfl (by kernel_rfl) (by kernel_rfl) (by kernel_rfl) (fun _ _ _ h => h) (yieldsIf_neq_ref (by rfl) _ _ rfl x y rfl rfl hx32 hy32) hHeld ?_
          simp only [Act.put, List.setIfInBounds_toArray, List.set_cons_zero, List.set_cons_succ]
          refine wpAnyH_done (by kernel_rfl) ?_ _
          refine NoPanic.normal ?_
          clear hHeld c1 c2
          by_cases hxy : x = y
          · have hd : decide (x = y) = true := decide_eq_true hxy
            rw [hd]
            have HXe := Lib.hid hxy
            clear hxy hd
            go_wp2_with fail
            refine ⟨⟨k + 1, by go_num, hlt, ?_, HC.out.drew⟩, meas_step hlt⟩
            rw [List.take_add_one, List.take_add_one, HXY.out.1, HXY.out.2, HE2.out, HXe.out]
          · have hd : decide (x = y) = false := decide_eq_false hxy
            rw [hd]
            obtain rfl : R = false := by
              rw [← HR.out, decide_eq_false_iff_not]
              rintro e
              cases e
              rw [HXY.out.1] at HXY
              exact hxy (Option.some.inj HXY.out.2)
            clear hxy hd
            go_wp2_with fail
            go_ret
            exact ⟨rfl, HCx.out.trans' HC.out.drew⟩
        · have hki : ¬ (k : Int) < (L.length : Int) := by omega
          obtain rfl : R = true := by
            rw [← HR.out, decide_eq_true_eq]
            have h1 : L = L' := by
              rw [← List.take_of_length_le (l := L) (i := k) (by omega), HE2.out, List.take_of_length_le (by have := HE.out.2.2; omega)]
            rw [HE.out.1, HE.out.2.1, h1]
          go_wp2_with fail
          go_ret
          exact ⟨rfl, HCx.out.trans' HC.out⟩
      · have e3i : ((L.length : Int) != (L'.length : Int)) = true := by simp; omega
        obtain rfl : R = false := by rw [← HR.out, decide_eq_false_iff_not]; rintro e; cases e; exact e3 rfl
        clear e1 e2 e3
        go_enter Tryz.func57, Tryz.ntmps57
        go_wp2_with fail
        go_ret
        exact ⟨rfl, HCx.out⟩
    · rw [decide_eq_false e2] at q2
      obtain rfl : R = false := by rw [← HR.out, decide_eq_false_iff_not]; rintro e; cases e; exact e2 rfl
      clear e1 e2
      go_enter Tryz.func57, Tryz.ntmps57
      go_wp2_with fail
      go_ret
      exact ⟨rfl, HCx.out⟩
  · rw [decide_eq_false e1] at q1
    obtain rfl : R = false := by rw [← HR.out, decide_eq_false_iff_not]; rintro e; cases e; exact e1 rfl
    clear e1
    go_enter Tryz.func57, Tryz.ntmps57
    go_wp2_with fail
    go_ret
    exact ⟨rfl, HCx.out⟩

end Go.Proofs.YtbjagmlbamjdbaaGreat.roots
end

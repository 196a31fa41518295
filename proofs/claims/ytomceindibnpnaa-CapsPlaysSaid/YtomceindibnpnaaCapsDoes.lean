/-
  caps: a call on both sides ('does').
-/
import Derived.Test.YtomceindibnpnaaCapsPure
import Derived.Deep.RegionHeld3
namespace Go.Proofs.Ytomceindibnpnaa
open Go.My Go.RowKit

theorem ne_blocks {w : World} {b c : Nat} {x y : Array Value} {t u : TypeId} {f k : Nat × Nat} (hb : w.heap[b]? = some (.cells x t f)) (hc : w.heap[c]? = some (.cells y u k)) (h : t ≠ u) : b ≠ c := by
  intro e; subst e; rw [hb] at hc; cases hc; exact h rfl

theorem ne_map {P : Program} {kt : TypeId} {K V : Type} {E : KeyEnc P kt K} {ev : V → Value} {w : World} {b c : Nat} {m : List (K × V)} {x : Array Value} {t : TypeId} {f : Nat × Nat} (hc : w.heap[c]? = some (.cells x t f)) (h : MapIs E ev w b m) : c ≠ b := by
  intro e; subst e; obtain ⟨es, k, hb, _⟩ := h; rw [hb] at hc; cases hc

theorem own_block {w : World} {base : Nat} {e : TypeId} {n : Nat} {v : Value} {l : List (List Value)} (h : OwnRecs w base e n v l) {k : Nat} (hk : v.ownBlock = some k) : ∃ cur, w.heap[k]? = some (.cells cur e (0, 0)) := by
  rcases h.row.2 with ⟨rfl, _⟩ | ⟨g, cap, cur, rfl, _, hg, _⟩
  · cases hk
  · cases hk; exact ⟨cur, hg⟩

theorem RefAt.cells {w : World} {R : Nat} {v : Value} {L : List RT} (h : RefAt w R v L) {k : Nat} (hk : refBlocks R v k) : ∃ x t, w.heap[k]? = some (.cells x t (0, 0)) ∧ (t = 47 ∨ t = 128) := by
  rcases hk with rfl | hk
  · exact ⟨_, _, h.tab, Or.inl rfl⟩
  · obtain ⟨cur, hc⟩ := own_block h.recs hk
    exact ⟨_, _, hc, Or.inr rfl⟩

theorem RefAt.not {w : World} {R : Nat} {v : Value} {L : List RT} (h : RefAt w R v L) {b : Nat} {x : Array Value} {t : TypeId} {f : Nat × Nat} (hb : w.heap[b]? = some (.cells x t f)) (h1 : t ≠ 47) (h2 : t ≠ 128) : ¬ refBlocks R v b := by
  intro hk
  obtain ⟨y, u, hc, hu⟩ := h.cells hk
  exact ne_blocks hb hc (by rcases hu with rfl | rfl; exact h1; exact h2) rfl

theorem RefAt.notMap {P : Program} {kt : TypeId} {K V : Type} {E : KeyEnc P kt K} {ev : V → Value} {w : World} {R : Nat} {v : Value} {L : List RT} (h : RefAt w R v L) {b : Nat} {m : List (K × V)} (hm : MapIs E ev w b m) : ¬ refBlocks R v b := by
  intro hk
  obtain ⟨y, u, hc, _⟩ := h.cells hk
  exact ne_map hc hm rfl

theorem RefAt.kept {w w' : World} {R : Nat} {v : Value} {L : List RT} (h : RefAt w R v L) {S : Nat → Prop} (hc : Chg S w w') (hn : ∀ k, refBlocks R v k → ¬ S k) : RefAt w' R v L :=
  ⟨hc.at h.tab (hn R (Or.inl rfl)), h.recs.kept hc (fun k hk => hn k (Or.inr hk)), h.len⟩

end Go.Proofs.Ytomceindibnpnaa
namespace Go.Proofs.Ytomceindibnpnaa.capsPlays
open Go.My Go.RowKit

structure DSt (w : World) (T B q g R A : Nat) (v : Value) (Q : List (Int × Int)) (G : List ((Int × Int) × Bool)) (L : List RT) (a : Act) : Prop where
  tab : TabAt w T B q g Q G
  ref : RefAt w R v L
  act : w.heap[A]? = some (.cells #[.int .i64 a.kind, .int .i64 a.id, .int .i64 a.root, .int .i64 a.quota, .int .i64 a.used, .int .i64 a.more] 34 (0, 0))

variable {w w' : World} {T B q g R A : Nat} {v : Value} {Q : List (Int × Int)} {G : List ((Int × Int) × Bool)} {L : List RT} {a : Act}

theorem DSt.caps (h : DSt w T B q g R A v Q G L a) {S : Nat → Prop} (hc : Chg S w w') (hS : ∀ k, S k → k = q ∨ k = g) {Q' G'} (ht : TabAt w' T B q g Q' G') : DSt w' T B q g R A v Q' G' L a := by
  refine ⟨ht, h.ref.kept hc (fun k hk hs => ?_), hc.at h.act (fun hs => ?_)⟩
  · obtain ⟨y, u, hb, _⟩ := h.ref.cells hk
    rcases hS k hs with rfl | rfl
    · exact ne_map hb h.tab.quotas rfl
    · exact ne_map hb h.tab.grants rfl
  · rcases hS A hs with rfl | rfl
    · exact ne_map h.act h.tab.quotas rfl
    · exact ne_map h.act h.tab.grants rfl

theorem DSt.refs (h : DSt w T B q g R A v Q G L a) (hc : Chg (refBlocks R v) w w') {v' L'} (hr : RefAt w' R v' L') : DSt w' T B q g R A v' Q G L' a :=
  ⟨h.tab.kept hc (h.ref.not h.tab.tab (by decide) (by decide)) (h.ref.not h.tab.book (by decide) (by decide)) (h.ref.notMap h.tab.quotas) (h.ref.notMap h.tab.grants), hr, hc.at h.act (h.ref.not h.act (by decide) (by decide))⟩

theorem DSt.drew (h : DSt w T B q g R A v Q G L a) : DSt w.drew T B q g R A v Q G L a :=
  ⟨h.tab.kept (S := fun _ => False) (Chg.refl _ _).drew (fun h => h) (fun h => h) (fun h => h) (fun h => h), h.ref.fresh (Chg.refl _ _).drew, h.act⟩

theorem chg_two {w w0 w1 w2 w3 : World} {S S1 S2 : Nat → Prop} (h0 : Chg (fun _ => False) w w0) (h1 : Chg S1 w0.drew w1) (h2 : Chg S2 w1 w2) (i1 : ∀ k, S1 k → S k) (i2 : ∀ k, S2 k → S k) (he : w2 = w3 ∨ w2.drew = w3) : Chg S w w3 := by
  have h3 : Chg S w w2 := ((h0.drew.mono (fun _ _ h => h.elim)).trans h1 (fun k _ h => i1 k h)).trans h2 (fun k _ h => i2 k h)
  rcases he with rfl | rfl
  · exact h3
  · exact h3.drew

def doesBlocks (q g R : Nat) (v : Value) (k : Nat) : Prop := (k = q ∨ k = g) ∨ refBlocks R v k

set_option maxRecDepth 100000 in
set_option maxHeartbeats 1000000 in
theorem does_0 (w : World) (h1 : TabAt w T B q g Q G) (h2 : RefAt w R v L) (hs : SameT Q G L) (hL : L.length ≤ 1000) (hok : a.ok) (hk : a.kind = 0) :
    Calls Try.prog 26 #[.pointer (some ⟨T, 0, none⟩), .pointer (some ⟨R, 0, none⟩), .agg #[.int .i64 a.kind, .int .i64 a.id, .int .i64 a.root, .int .i64 a.quota, .int .i64 a.used, .int .i64 a.more]] w fun e w' => e = .returned (.bool true) ∧
      ∃ v', TabAt w' T B q g (stepQ a Q) (stepG a Q G) ∧ RefAt w' R v' (stepL a L) ∧ Chg (doesBlocks q g R v) w w' ∧ (∀ k, v'.ownBlock = some k → v.ownBlock = some k ∨ w.heap.size ≤ k) := by
  have hcode := hs.codeT a.id a.quota
  have hkb : (a.kind == 0) = true := by simp [hk]
  have H1 := Lib.hid h1
  have H2 := Lib.hid h2
  have Hk := Lib.hid hk
  have Hcode := Lib.hid hcode
  clear h1 h2 hs hk hcode
  go_enter Try.func26, Try.ntmps26
  go_wp2_with fail
  obtain ⟨w0, hw0⟩ : ∃ w0, w.alloc (.cells #[.int .i64 a.kind, .int .i64 a.id, .int .i64 a.root, .int .i64 a.quota, .int .i64 a.used, .int .i64 a.more] 34) = w0 := ⟨_, rfl⟩
  rw [hw0]
  have hc0 : Chg (fun _ => False) w w0 := by subst hw0; exact (Chg.refl _ _).alloc _
  have hd0 : DSt w0 T B q g R w.heap.size v Q G L a := ⟨H1.out.kept hc0 (fun h => h) (fun h => h) (fun h => h) (fun h => h), H2.out.fresh hc0, by subst hw0; exact block_alloc_new _ _⟩
  have a1 := cell_of_block hd0.act (i := 1) rfl
  have a3 := cell_of_block hd0.act (i := 3) rfl
  have D0 := Lib.hid hd0
  have Hc0 := Lib.hid hc0
  clear hd0 hc0 hw0
  go_region_held3 (fun w' => w'.cell? ⟨w.heap.size, 1, none⟩ = some (.int .i64 a.id) ∧ w'.cell? ⟨w.heap.size, 3, none⟩ = some (.int .i64 a.quota)) (go_keep)
    (first
    | (go_at_call 16; refine (tenant_any _ _ _ _ _ _ _ DR.out.tab _ _ (inR_wf hok.id)).mono ?_; rintro e w2 ⟨rfl, ht2, hc2⟩; have b1 := cell_of_block (DR.out.caps hc2 (fun k hk => Or.inl hk) ht2).act (i := 1) rfl; have b3 := cell_of_block (DR.out.caps hc2 (fun k hk => Or.inl hk) ht2).act (i := 3) rfl; have D2 := Lib.hid (DR.out.caps hc2 (fun k hk => Or.inl hk) ht2); have Hc2 := Lib.hid hc2; clear ht2 hc2)
    | (go_at_call 16; refine (tenant_any _ _ _ _ _ _ _ D0.out.drew.tab _ _ (inR_wf hok.id)).mono ?_; rintro e w2 ⟨rfl, ht2, hc2⟩; have b1 := cell_of_block (D0.out.drew.caps hc2 (fun k hk => Or.inl hk) ht2).act (i := 1) rfl; have b3 := cell_of_block (D0.out.drew.caps hc2 (fun k hk => Or.inl hk) ht2).act (i := 3) rfl; have DC := Lib.hid (D0.out.drew.caps hc2 (fun k hk => Or.inl hk) ht2); have Hc2 := Lib.hid hc2; clear ht2 hc2)
    | (go_at_call 54; refine (tenant_ref _ _ _ _ DC.out.ref _ _ hL).mono ?_; rintro e w3 ⟨rfl, v3, hr3, hc3, hl3⟩; have b1' := cell_of_block (DC.out.refs hc3 hr3).act (i := 1) rfl; have b3' := cell_of_block (DC.out.refs hc3 hr3).act (i := 3) rfl; have D3 := Lib.hid (DC.out.refs hc3 hr3); have Hc3 := Lib.hid hc3; have Hl3 := Lib.hid hl3; clear hr3 hc3 hl3)
    | (go_at_call 54; refine (tenant_ref _ _ _ _ D0.out.drew.ref _ _ hL).mono ?_; rintro e w3 ⟨rfl, v3, hr3, hc3, hl3⟩; have b1' := cell_of_block (D0.out.drew.refs hc3 hr3).act (i := 1) rfl; have b3' := cell_of_block (D0.out.drew.refs hc3 hr3).act (i := 3) rfl; have DR := Lib.hid (D0.out.drew.refs hc3 hr3); have Hc3 := Lib.hid hc3; have Hl3 := Lib.hid hl3; clear hr3 hc3 hl3))
  all_goals go_wp2_with fail
  all_goals go_ret
  all_goals first
    | exact ⟨by simp [Hcode.out], v3, by simpa [stepQ, stepG, Hk.out] using D3.out.tab, by simpa [stepL, Hk.out] using D3.out.ref,
        chg_two Hc0.out Hc2.out Hc3.out (fun k h => Or.inl (Or.inl h)) (fun k h => Or.inr h) (Or.inl rfl), fun k hk => (Hl3.out k hk).imp (fun h => h) (fun h => by have := Hc0.out.size; have := Hc2.out.size; simp at this; omega)⟩
    | exact ⟨by simp [Hcode.out], v3, by simpa [stepQ, stepG, Hk.out] using D2.out.tab, by simpa [stepL, Hk.out] using D2.out.ref,
        chg_two Hc0.out Hc3.out Hc2.out (fun k h => Or.inr h) (fun k h => Or.inl (Or.inl h)) (Or.inl rfl), fun k hk => (Hl3.out k hk).imp (fun h => h) (fun h => by have := Hc0.out.size; simp at h; omega)⟩

set_option maxRecDepth 100000 in
set_option maxHeartbeats 1000000 in
theorem does_1 (w : World) (h1 : TabAt w T B q g Q G) (h2 : RefAt w R v L) (hs : SameT Q G L) (hL : L.length ≤ 1000) (hok : a.ok) (hk : a.kind = 1) :
    Calls Try.prog 26 #[.pointer (some ⟨T, 0, none⟩), .pointer (some ⟨R, 0, none⟩), .agg #[.int .i64 a.kind, .int .i64 a.id, .int .i64 a.root, .int .i64 a.quota, .int .i64 a.used, .int .i64 a.more]] w fun e w' => e = .returned (.bool true) ∧
      ∃ v', TabAt w' T B q g (stepQ a Q) (stepG a Q G) ∧ RefAt w' R v' (stepL a L) ∧ Chg (doesBlocks q g R v) w w' ∧ (∀ k, v'.ownBlock = some k → v.ownBlock = some k ∨ w.heap.size ≤ k) := by
  have hcode := hs.codeS a.id a.root
  have hkb : (a.kind == 0) = false := by simp [hk]
  have hkc : (a.kind == 1) = true := by simp [hk]
  have H1 := Lib.hid h1
  have H2 := Lib.hid h2
  have Hk := Lib.hid hk
  have Hcode := Lib.hid hcode
  clear h1 h2 hs hk hcode
  go_enter Try.func26, Try.ntmps26
  go_wp2_with fail
  obtain ⟨w0, hw0⟩ : ∃ w0, w.alloc (.cells #[.int .i64 a.kind, .int .i64 a.id, .int .i64 a.root, .int .i64 a.quota, .int .i64 a.used, .int .i64 a.more] 34) = w0 := ⟨_, rfl⟩
  rw [hw0]
  have hc0 : Chg (fun _ => False) w w0 := by subst hw0; exact (Chg.refl _ _).alloc _
  have hd0 : DSt w0 T B q g R w.heap.size v Q G L a := ⟨H1.out.kept hc0 (fun h => h) (fun h => h) (fun h => h) (fun h => h), H2.out.fresh hc0, by subst hw0; exact block_alloc_new _ _⟩
  have a1 := cell_of_block hd0.act (i := 1) rfl
  have a2 := cell_of_block hd0.act (i := 2) rfl
  have D0 := Lib.hid hd0
  have Hc0 := Lib.hid hc0
  clear hd0 hc0 hw0
  go_region_held3 (fun w' => w'.cell? ⟨w.heap.size, 1, none⟩ = some (.int .i64 a.id) ∧ w'.cell? ⟨w.heap.size, 2, none⟩ = some (.int .i64 a.root)) (go_keep)
    (first
    | (go_at_call 19; refine (grant_any _ _ _ _ _ _ _ DR.out.tab _ _ (inR_wf hok.id) (inR_wf hok.root)).mono ?_; rintro e w2 ⟨rfl, ht2, hc2⟩; have b1 := cell_of_block (DR.out.caps hc2 (fun k hk => Or.inr hk) ht2).act (i := 1) rfl; have b3 := cell_of_block (DR.out.caps hc2 (fun k hk => Or.inr hk) ht2).act (i := 2) rfl; have D2 := Lib.hid (DR.out.caps hc2 (fun k hk => Or.inr hk) ht2); have Hc2 := Lib.hid hc2; clear ht2 hc2)
    | (go_at_call 19; refine (grant_any _ _ _ _ _ _ _ D0.out.drew.tab _ _ (inR_wf hok.id) (inR_wf hok.root)).mono ?_; rintro e w2 ⟨rfl, ht2, hc2⟩; have b1 := cell_of_block (D0.out.drew.caps hc2 (fun k hk => Or.inr hk) ht2).act (i := 1) rfl; have b3 := cell_of_block (D0.out.drew.caps hc2 (fun k hk => Or.inr hk) ht2).act (i := 2) rfl; have DC := Lib.hid (D0.out.drew.caps hc2 (fun k hk => Or.inr hk) ht2); have Hc2 := Lib.hid hc2; clear ht2 hc2)
    | (go_at_call 55; refine (set_ref _ _ _ _ DC.out.ref _ _ _ hL).mono ?_; rintro e w3 ⟨rfl, hr3, hc3⟩; have b1' := cell_of_block (DC.out.refs hc3 hr3).act (i := 1) rfl; have b3' := cell_of_block (DC.out.refs hc3 hr3).act (i := 2) rfl; have D3 := Lib.hid (DC.out.refs hc3 hr3); have Hc3 := Lib.hid hc3; clear hr3 hc3)
    | (go_at_call 55; refine (set_ref _ _ _ _ D0.out.drew.ref _ _ _ hL).mono ?_; rintro e w3 ⟨rfl, hr3, hc3⟩; have b1' := cell_of_block (D0.out.drew.refs hc3 hr3).act (i := 1) rfl; have b3' := cell_of_block (D0.out.drew.refs hc3 hr3).act (i := 2) rfl; have DR := Lib.hid (D0.out.drew.refs hc3 hr3); have Hc3 := Lib.hid hc3; clear hr3 hc3))
  all_goals go_wp2_with fail
  all_goals go_ret
  all_goals first
    | exact ⟨by simp [Hcode.out], v, by simpa [stepQ, stepG, Hk.out] using D3.out.tab, by simpa [stepL, Hk.out] using D3.out.ref,
        chg_two Hc0.out Hc2.out Hc3.out (fun k h => Or.inl (Or.inr h)) (fun k h => Or.inr h) (Or.inl rfl), fun k hk => Or.inl hk⟩
    | exact ⟨by simp [Hcode.out], v, by simpa [stepQ, stepG, Hk.out] using D2.out.tab, by simpa [stepL, Hk.out] using D2.out.ref,
        chg_two Hc0.out Hc3.out Hc2.out (fun k h => Or.inr h) (fun k h => Or.inl (Or.inr h)) (Or.inl rfl), fun k hk => Or.inl hk⟩


set_option maxRecDepth 100000 in
set_option maxHeartbeats 1000000 in
theorem does_2 (w : World) (h1 : TabAt w T B q g Q G) (h2 : RefAt w R v L) (hs : SameT Q G L) (hL : L.length ≤ 1000) (hok : a.ok) (hk : a.kind = 2) :
    Calls Try.prog 26 #[.pointer (some ⟨T, 0, none⟩), .pointer (some ⟨R, 0, none⟩), .agg #[.int .i64 a.kind, .int .i64 a.id, .int .i64 a.root, .int .i64 a.quota, .int .i64 a.used, .int .i64 a.more]] w fun e w' => e = .returned (.bool true) ∧
      ∃ v', TabAt w' T B q g (stepQ a Q) (stepG a Q G) ∧ RefAt w' R v' (stepL a L) ∧ Chg (doesBlocks q g R v) w w' ∧ (∀ k, v'.ownBlock = some k → v.ownBlock = some k ∨ w.heap.size ≤ k) := by
  have hcode := hs.codeS a.id a.root
  have hkb : (a.kind == 0) = false := by simp [hk]
  have hkc : (a.kind == 1) = false := by simp [hk]
  have hkd : (a.kind == 2) = true := by simp [hk]
  have H1 := Lib.hid h1
  have H2 := Lib.hid h2
  have Hk := Lib.hid hk
  have Hcode := Lib.hid hcode
  clear h1 h2 hs hk hcode
  go_enter Try.func26, Try.ntmps26
  go_wp2_with fail
  obtain ⟨w0, hw0⟩ : ∃ w0, w.alloc (.cells #[.int .i64 a.kind, .int .i64 a.id, .int .i64 a.root, .int .i64 a.quota, .int .i64 a.used, .int .i64 a.more] 34) = w0 := ⟨_, rfl⟩
  rw [hw0]
  have hc0 : Chg (fun _ => False) w w0 := by subst hw0; exact (Chg.refl _ _).alloc _
  have hd0 : DSt w0 T B q g R w.heap.size v Q G L a := ⟨H1.out.kept hc0 (fun h => h) (fun h => h) (fun h => h) (fun h => h), H2.out.fresh hc0, by subst hw0; exact block_alloc_new _ _⟩
  have a1 := cell_of_block hd0.act (i := 1) rfl
  have a2 := cell_of_block hd0.act (i := 2) rfl
  have D0 := Lib.hid hd0
  have Hc0 := Lib.hid hc0
  clear hd0 hc0 hw0
  go_region_held3 (fun w' => w'.cell? ⟨w.heap.size, 1, none⟩ = some (.int .i64 a.id) ∧ w'.cell? ⟨w.heap.size, 2, none⟩ = some (.int .i64 a.root)) (go_keep)
    (first
    | (go_at_call 20; refine (revoke_any _ _ _ _ _ _ _ DR.out.tab _ _ (inR_wf hok.id) (inR_wf hok.root)).mono ?_; rintro e w2 ⟨rfl, ht2, hc2⟩; have b1 := cell_of_block (DR.out.caps hc2 (fun k hk => Or.inr hk) ht2).act (i := 1) rfl; have b3 := cell_of_block (DR.out.caps hc2 (fun k hk => Or.inr hk) ht2).act (i := 2) rfl; have D2 := Lib.hid (DR.out.caps hc2 (fun k hk => Or.inr hk) ht2); have Hc2 := Lib.hid hc2; clear ht2 hc2)
    | (go_at_call 20; refine (revoke_any _ _ _ _ _ _ _ D0.out.drew.tab _ _ (inR_wf hok.id) (inR_wf hok.root)).mono ?_; rintro e w2 ⟨rfl, ht2, hc2⟩; have b1 := cell_of_block (D0.out.drew.caps hc2 (fun k hk => Or.inr hk) ht2).act (i := 1) rfl; have b3 := cell_of_block (D0.out.drew.caps hc2 (fun k hk => Or.inr hk) ht2).act (i := 2) rfl; have DC := Lib.hid (D0.out.drew.caps hc2 (fun k hk => Or.inr hk) ht2); have Hc2 := Lib.hid hc2; clear ht2 hc2)
    | (go_at_call 55; refine (set_ref _ _ _ _ DC.out.ref _ _ _ hL).mono ?_; rintro e w3 ⟨rfl, hr3, hc3⟩; have b1' := cell_of_block (DC.out.refs hc3 hr3).act (i := 1) rfl; have b3' := cell_of_block (DC.out.refs hc3 hr3).act (i := 2) rfl; have D3 := Lib.hid (DC.out.refs hc3 hr3); have Hc3 := Lib.hid hc3; clear hr3 hc3)
    | (go_at_call 55; refine (set_ref _ _ _ _ D0.out.drew.ref _ _ _ hL).mono ?_; rintro e w3 ⟨rfl, hr3, hc3⟩; have b1' := cell_of_block (D0.out.drew.refs hc3 hr3).act (i := 1) rfl; have b3' := cell_of_block (D0.out.drew.refs hc3 hr3).act (i := 2) rfl; have DR := Lib.hid (D0.out.drew.refs hc3 hr3); have Hc3 := Lib.hid hc3; clear hr3 hc3))
  all_goals go_wp2_with fail
  all_goals go_ret
  all_goals first
    | exact ⟨by simp [Hcode.out], v, by simpa [stepQ, stepG, Hk.out] using D3.out.tab, by simpa [stepL, Hk.out] using D3.out.ref,
        chg_two Hc0.out Hc2.out Hc3.out (fun k h => Or.inl (Or.inr h)) (fun k h => Or.inr h) (Or.inl rfl), fun k hk => Or.inl hk⟩
    | exact ⟨by simp [Hcode.out], v, by simpa [stepQ, stepG, Hk.out] using D2.out.tab, by simpa [stepL, Hk.out] using D2.out.ref,
        chg_two Hc0.out Hc3.out Hc2.out (fun k h => Or.inr h) (fun k h => Or.inl (Or.inr h)) (Or.inl rfl), fun k hk => Or.inl hk⟩


set_option maxRecDepth 100000 in
set_option maxHeartbeats 1000000 in
theorem does_3 (w : World) (h1 : TabAt w T B q g Q G) (h2 : RefAt w R v L) (h3 : a.kind ≠ 0 ∧ a.kind ≠ 1 ∧ a.kind ≠ 2) :
    Calls Try.prog 26 #[.pointer (some ⟨T, 0, none⟩), .pointer (some ⟨R, 0, none⟩), .agg #[.int .i64 a.kind, .int .i64 a.id, .int .i64 a.root, .int .i64 a.quota, .int .i64 a.used, .int .i64 a.more]] w fun e w' => e = .returned (.bool true) ∧
      ∃ v', TabAt w' T B q g (stepQ a Q) (stepG a Q G) ∧ RefAt w' R v' (stepL a L) ∧ Chg (doesBlocks q g R v) w w' ∧ (∀ k, v'.ownBlock = some k → v.ownBlock = some k ∨ w.heap.size ≤ k) := by
  have k0 : (a.kind == 0) = false := by simp [h3.1]
  have k1 : (a.kind == 1) = false := by simp [h3.2.1]
  have k2 : (a.kind == 2) = false := by simp [h3.2.2]
  have H1 := Lib.hid h1
  have H2 := Lib.hid h2
  have H3 := Lib.hid h3
  clear h1 h2 h3
  go_enter Try.func26, Try.ntmps26
  go_wp2_with fail
  go_ret
  have hc : Chg (fun _ => False) w (w.alloc (.cells #[.int .i64 a.kind, .int .i64 a.id, .int .i64 a.root, .int .i64 a.quota, .int .i64 a.used, .int .i64 a.more] 34)) := (Chg.refl _ _).alloc _
  exact ⟨rfl, v, by simpa [stepQ, stepG, H3.out.1, H3.out.2.1, H3.out.2.2] using H1.out.kept hc (fun h => h) (fun h => h) (fun h => h) (fun h => h), by simpa [stepL, H3.out.1, H3.out.2.1, H3.out.2.2] using H2.out.fresh hc, hc.mono (fun _ _ h => h.elim), fun k hk => Or.inl hk⟩

theorem does_any (w : World) (h1 : TabAt w T B q g Q G) (h2 : RefAt w R v L) (hs : SameT Q G L) (hL : L.length ≤ 1000) (hok : a.ok) :
    Calls Try.prog 26 #[.pointer (some ⟨T, 0, none⟩), .pointer (some ⟨R, 0, none⟩), .agg #[.int .i64 a.kind, .int .i64 a.id, .int .i64 a.root, .int .i64 a.quota, .int .i64 a.used, .int .i64 a.more]] w fun e w' => e = .returned (.bool true) ∧
      ∃ v', TabAt w' T B q g (stepQ a Q) (stepG a Q G) ∧ RefAt w' R v' (stepL a L) ∧ Chg (doesBlocks q g R v) w w' ∧ (∀ k, v'.ownBlock = some k → v.ownBlock = some k ∨ w.heap.size ≤ k) := by
  by_cases h0 : a.kind = 0
  · exact does_0 w h1 h2 hs hL hok h0
  · by_cases k1 : a.kind = 1
    · exact does_1 w h1 h2 hs hL hok k1
    · by_cases k2 : a.kind = 2
      · exact does_2 w h1 h2 hs hL hok k2
      · exact does_3 w h1 h2 ⟨h0, k1, k2⟩

end Go.Proofs.Ytomceindibnpnaa.capsPlays

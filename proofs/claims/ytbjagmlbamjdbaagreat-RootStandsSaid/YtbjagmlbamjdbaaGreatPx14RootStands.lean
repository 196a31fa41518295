/-
  kv: a database with its log, its map and its disk in the memory.
-/
import Derived.Test.YtbjagmlbamjdbaaGreatPx1RootStands
import Derived.Test.YtbjagmlbamjdbaaGreatPx10RootStands
import Derived.Test.YtbjagmlbamjdbaaGreatPx11RootStands
import Derived.Test.YtbjagmlbamjdbaaGreatPx13RootStands
import Derived.WideKeyEntry

section
set_option linter.unusedSimpArgs false
set_option linter.unusedVariables false
namespace Go.Proofs.YtbjagmlbamjdbaaGreat.kvs
open Go.RowKit Go.Maps Go.My Go.ChangeMaps disks bufs wals
set_option maxRecDepth 100000

variable {w w' : World} {P : Nat → Prop} {b l q d : Nat} {X X' : DV} {V V' : LV} {m m' : List KV}

theorem wat_again (h : WAt P w w l d X V) (hc : Chg (fun _ => False) w w') : WAt P w' w' l d X V := by
  obtain ⟨⟨F, Fd, h1, h2⟩, -⟩ := h
  exact ⟨⟨F, Fd, h1.fresh hc, fun k hk => (h2 k hk).elim Or.inl (fun h => by have := h1.lt k hk; omega)⟩, Chg.refl _ _⟩
theorem wat_aside {S : Nat → Prop} (h : WAt P w w l d X V) (hc : Chg S w w') (hS : ∀ k, P k → ¬ S k) : WAt P w' w' l d X V := by
  obtain ⟨⟨F, Fd, h1, h2⟩, -⟩ := h
  have h3 : ∀ k, F k ∨ Fd k → P k := fun k hk => (h2 k hk).elim id (fun h' => by have := h1.lt k hk; omega)
  exact ⟨⟨F, Fd, h1.kept hc (fun k hk => hS k (h3 k hk)), fun k hk => Or.inl (h3 k hk)⟩, Chg.refl _ _⟩

/-- A database: its log with the log's disk (of the blocks P), its two words, its map. -/
structure KAt (P : Nat → Prop) (w : World) (b l q d : Nat) (X : DV) (V : LV) (m : List KV) : Prop where
  log : WAt P w w l d X V
  db : DbIs w b l q m
  nb : ¬ P b
  nq : ¬ P q
  lt : ∀ k, P k → k < w.heap.size
theorem DbIs.ne (h : DbIs w b l q m) : ¬ b = q := by
  intro e
  obtain ⟨es, clock, hm, -⟩ := h.map
  have := h.head
  rw [e, hm] at this
  cases this
theorem DbIs.ltb (h : DbIs w b l q m) : b < w.heap.size := lt_of_block h.head
theorem DbIs.ltq (h : DbIs w b l q m) : q < w.heap.size := h.map.lt
theorem KAt.fresh (h : KAt P w b l q d X V m) (hc : Chg (fun _ => False) w w') : KAt P w' b l q d X V m := ⟨wat_again h.log hc, h.db.fresh hc, h.nb, h.nq, fun k hk => Nat.lt_of_lt_of_le (h.lt k hk) hc.size⟩
/-- A call of the log's. -/
theorem KAt.step (h : KAt P w b l q d X V m) (k : WAt P w w' l d X' V') : KAt (NowP P w w') w' b l q d X' V' m where
  log := k.now
  db := h.db.kept k.chg h.nb h.nq
  nb := fun hp => hp.1.elim h.nb (fun e => by have := h.db.ltb; omega)
  nq := fun hp => hp.1.elim h.nq (fun e => by have := h.db.ltq; omega)
  lt := fun k hk => hk.2
/-- The map is another one. -/
theorem KAt.put (h : KAt P w b l q d X V m) (hc : Chg (· = q) w w') (hm : MapAt w' q m') : KAt P w' b l q d X V m' where
  log := wat_aside h.log hc (fun k hk e => h.nq (by rw [← e]; exact hk))
  db := ⟨hc.at h.db.head h.db.ne, hm⟩
  nb := h.nb
  nq := h.nq
  lt := fun k hk => Nat.lt_of_lt_of_le (h.lt k hk) hc.size
/-- What is asked of a call's end: the database is there, of P's blocks and new ones; of all else nothing has changed but the map. -/
structure KPost (P : Nat → Prop) (w w' : World) (b l q d : Nat) (X : DV) (V : LV) (m : List KV) : Prop where
  at' : ∃ P', KAt P' w' b l q d X V m ∧ ∀ k, P' k → P k ∨ w.heap.size ≤ k
  chg : Chg (fun k => P k ∨ k = q) w w'
theorem KAt.same (h : KAt P w b l q d X V m) (hc : Chg (fun _ => False) w w') : KPost P w w' b l q d X V m := ⟨⟨P, h.fresh hc, fun _ h => Or.inl h⟩, hc.mono (fun _ _ h => h.elim)⟩
theorem KAt.post (h : KAt P w b l q d X V m) (k : WAt P w w' l d X' V') : KPost P w w' b l q d X' V' m := ⟨⟨_, h.step k, fun _ hk => hk.1⟩, k.chg.mono (fun _ _ h => Or.inl h)⟩
theorem KPost.trans {w1 : World} {X1 : DV} {V1 : LV} {m1 : List KV} (h : KPost P w w1 b l q d X1 V1 m1) (k : ∀ P', KAt P' w1 b l q d X1 V1 m1 → KPost P' w1 w' b l q d X V m) : KPost P w w' b l q d X V m := by
  obtain ⟨⟨P1, h1, h2⟩, h3⟩ := h
  obtain ⟨⟨P2, k1, k2⟩, k3⟩ := k P1 h1
  refine ⟨⟨P2, k1, fun j hj => (k2 j hj).elim (h2 j) (fun e => Or.inr (Nat.le_trans h3.size e))⟩, h3.trans k3 (fun j hj hs => ?_)⟩
  rcases hs with e | e
  · exact (h2 j e).elim Or.inl (fun h => by omega)
  · exact Or.inr e

theorem KPost.since {w1 : World} (h : KPost P w1 w' b l q d X V m) (hc : Chg (fun _ => False) w w1) : KPost P w w' b l q d X V m := by
  obtain ⟨⟨P1, h1, h2⟩, h3⟩ := h
  exact ⟨⟨P1, h1, fun j hj => (h2 j hj).imp id (fun e => Nat.le_trans hc.size e)⟩, (hc.mono (S' := fun k => P k ∨ k = q) (fun _ _ e => e.elim)).trans h3 (fun _ _ e => e)⟩

/-- What the reading calls tell. -/
theorem kat_len (h : KAt P w b l q d X V m) : Calls Tryz.prog 100 #[.pointer (some ⟨b, 0, none⟩)] w fun e w' => e = .returned (.int .i64 (m.length : Int)) ∧ w = w' := len_any w h.db
theorem kat_get (h : KAt P w b l q d X V m) (k : Txt) (hk : k.length ≤ maxLen) : Calls Tryz.prog 99 #[.pointer (some ⟨b, 0, none⟩), strV k] w fun e w' => e = .returned (.tuple #[strV ((mget m k).getD []), .bool (mget m k).isSome]) ∧ w = w' := get_any w h.db k hk
theorem kat_scan (h : KAt P w b l q d X V m) (hn : m.length ≤ 1000000) (fr to : Txt) : Calls Tryz.prog 97 #[.pointer (some ⟨b, 0, none⟩), strV fr, strV to] w fun e w' => ∃ v, e = .returned v ∧ Puts w' w.heap.size v ((scanF m fr to).map ofKV) ∧ Chg (fun _ => False) w w' := scan_any w h.db hn fr to

theorem snapF_len (m : List KV) : (snapF m).length ≤ m.length + 1 := by
  have h1 := snap_out_len ((sortF m).map ofKV) ⟨[], [], 0⟩
  have h2 : ∀ x : Sn, x.close.out.length ≤ x.out.length + 1 := fun x => by
    unfold Sn.close
    split
    · exact Nat.le_succ _
    · simp
  have h3 := h2 (snapL ((sortF m).map ofKV))
  rw [List.length_map, sortF_len] at h1
  show (snapL ((sortF m).map ofKV)).close.out.length ≤ _
  unfold snapL at h3 ⊢
  simp only [List.length_nil] at h1
  omega

end Go.Proofs.YtbjagmlbamjdbaaGreat.kvs
end

/-
  kv: Do: a batch that may not be; a log that is lost.
-/
section
set_option linter.unusedSimpArgs false
set_option linter.unusedVariables false
namespace Go.Proofs.YtbjagmlbamjdbaaGreat.kvs
open Go.RowKit Go.Maps Go.My Go.ChangeMaps disks bufs wals
set_option maxRecDepth 100000

variable {w w' : World} {P : Nat → Prop} {b l q d : Nat} {X X' : DV} {V V' : LV} {m m' : List KV}

set_option maxHeartbeats 1000000 in
theorem do_refuse (w : World) (h : KAt P w b l q d X V m) {B : Nat} {v : Value} {ps : List PV} (hp : Puts w B v ps) (hl : ps.length ≤ 1000000) (he : (encF ps).2 ≠ 0) :
    Calls Tryz.prog 33 #[.pointer (some ⟨b, 0, none⟩), v] w fun e w' => e = .returned (.int .i64 ((encF ps).2 : Int)) ∧ KPost P w w' b l q d X V m := by
  have HNo := Lib.hid (db_no w h.db)
  have HEnc := Lib.hid (encode_any w hp hl)
  have H := Lib.hid h
  obtain ⟨E, hE⟩ : ∃ E, encF ps = E := ⟨_, rfl⟩
  rw [hE] at HEnc he ⊢
  obtain ⟨t, n⟩ := E
  simp only at HEnc he ⊢
  have hei : ¬ (n : Int) = 0 := by omega
  clear h hp hE
  go_enter Tryz.func33, Tryz.ntmps33
  go_wp2_with (first
    | (go_at_call 65; refine HNo.out.mono ?_; rintro e w' ⟨rfl, rfl⟩)
    | (go_at_call 66; refine HEnc.out.mono ?_; rintro e w1 ⟨rfl, hc1⟩; have HC1 := Lib.hid hc1; clear hc1))
  go_ret
  exact ⟨rfl, H.out.same HC1.out⟩

/-- What a call's argument must be: of no block of the database's. -/
def Far (P : Nat → Prop) (w : World) (q : Nat) (v : Value) : Prop := ∀ g, v.ownBlock = some g → ¬ P g ∧ g ≠ q

set_option maxHeartbeats 2000000 in
/-- A log that takes the batch: it is synced; done to the map, if that goes well. -/
theorem do_add (w : World) (h : KAt P w b l q d X V m) (hV : V.Ok X.B.length) (hf : X.fuse ≤ 9223372036854775807) (hL : ∀ j, (X.L j).length < 500000) {B : Nat} {v : Value} {ps : List PV} (hp : Puts w B v ps) (hl : ps.length ≤ 1000000) (hv : Far P w q v) {t : Txt} (he : encF ps = (t, 0))
    (hadd : addF X.B.length V t = (0, V')) (hV' : V'.Ok X.B.length) :
    Calls Tryz.prog 33 #[.pointer (some ⟨b, 0, none⟩), v] w fun e w' => e = .returned (.int .i64 (syncF X V').1) ∧ KPost P w w' b l q d (syncF X V').2.1 (syncF X V').2.2 (if (syncF X V').1 = 0 then applyF m ps else m) := by
  have HNo := Lib.hid (db_no w h.db)
  have HEnc := Lib.hid (encode_any w hp hl)
  rw [he] at HEnc
  have H := Lib.hid h
  have HP := Lib.hid hp
  have hok := encF_ok he
  have ha : ∀ w1, Chg (fun _ => False) w w1 → Calls Tryz.prog 67 #[.pointer (some ⟨l, 0, none⟩), strV t] w1 fun e w' => e = .returned (.int .i64 0) ∧ WAt P w1 w' l d X V' := fun w1 hc => by
    have := wat_add (wat_again h.log hc) hV t (by have := hok.2.2.2.2; omega)
    rw [hadd] at this
    exact this
  obtain ⟨S, hS⟩ : ∃ S, syncF X V' = S := ⟨_, rfl⟩
  have hsy : ∀ w1 w2, WAt P w1 w2 l d X V' → Calls Tryz.prog 68 #[.pointer (some ⟨l, 0, none⟩)] w2 fun e w' => e = .returned (.int .i64 S.1) ∧ WAt P w1 w' l d S.2.1 S.2.2 := fun w1 w2 hw => by
    have := wat_sync hw hV' hf hL
    rw [hS] at this
    exact this
  rw [hS]
  have HAdd := Lib.hid ha
  have HSy := Lib.hid hsy
  have HFar := Lib.hid hv
  have HKey := Lib.hid (show ∀ p ∈ ps, p.key.length ≤ maxLen from fun p hp => by have := (may_key (hok.2.1 p hp)).2.1; unfold maxLen; omega)
  have c0 : ∀ w1, Chg P w w1 → w1.cell? ⟨b, 0, none⟩ = some (.pointer (some ⟨l, 0, none⟩)) ∧ w1.cell? ⟨b, 1, none⟩ = some (.map (some q)) := fun w1 hc => ⟨hc.cell (cell_of_block h.db.head rfl) h.nb, hc.cell (cell_of_block h.db.head rfl) h.nb⟩
  have HC0 := Lib.hid c0
  clear h hp ha hsy hV hV' hf hL hadd he hok hS hv c0
  obtain ⟨z, X3, V3⟩ := S
  simp only at HSy ⊢
  by_cases hz : z = 0
  · subst hz
    rw [if_pos rfl]
    go_enter Tryz.func33, Tryz.ntmps33
    go_wp2_with (first
      | (go_at_call 65; refine HNo.out.mono ?_; rintro e w' ⟨rfl, rfl⟩)
      | (go_at_call 66; refine HEnc.out.mono ?_; rintro e w1 ⟨rfl, hc1⟩; obtain ⟨k0, -⟩ := HC0.out _ (hc1.mono (fun _ _ e => e.elim)); have HC1 := Lib.hid hc1; clear hc1)
      | (go_at_call 67; refine (HAdd.out _ HC1.out).mono ?_; rintro e w2 ⟨rfl, hw2⟩; obtain ⟨k1, -⟩ := HC0.out _ ((HC1.out.mono (fun _ _ e => e.elim)).trans hw2.chg (fun _ _ e => e)); have HW2 := Lib.hid hw2; clear hw2)
      | (go_at_call 68; refine (HSy.out _ _ HW2.out).mono ?_; rintro e w3 ⟨rfl, hw3⟩; obtain ⟨-, k2⟩ := HC0.out _ ((HC1.out.mono (fun _ _ e => e.elim)).trans hw3.chg (fun _ _ e => e)); have HW3 := Lib.hid hw3; clear hw3)
      | (go_at_call 61; refine (apply_any _ ((H.out.fresh HC1.out).step HW3.out).db.map ((HP.out.kept HC1.out (fun _ _ e => e)).kept HW3.out.chg (fun g hg => (HFar.out g hg).1)) HKey.out (by omega)).mono ?_; rintro e w4 ⟨rfl, hm4, hc4⟩; have HM4 := Lib.hid hm4; have HC4 := Lib.hid hc4; clear hm4 hc4))
    go_ret
    refine ⟨rfl, KPost.since ?_ HC1.out⟩
    have hk := ((H.out.fresh HC1.out).step HW3.out).put HC4.out HM4.out
    exact ⟨⟨_, hk, fun _ hj => hj.1⟩, (HW3.out.chg.mono (S' := fun k => P k ∨ k = q) (fun _ _ e => Or.inl e)).trans HC4.out (fun _ _ e => Or.inr e)⟩
  · rw [if_neg hz]
    go_enter Tryz.func33, Tryz.ntmps33
    go_wp2_with (first
      | (go_at_call 65; refine HNo.out.mono ?_; rintro e w' ⟨rfl, rfl⟩)
      | (go_at_call 66; refine HEnc.out.mono ?_; rintro e w1 ⟨rfl, hc1⟩; obtain ⟨k0, -⟩ := HC0.out _ (hc1.mono (fun _ _ e => e.elim)); have HC1 := Lib.hid hc1; clear hc1)
      | (go_at_call 67; refine (HAdd.out _ HC1.out).mono ?_; rintro e w2 ⟨rfl, hw2⟩; obtain ⟨k1, -⟩ := HC0.out _ ((HC1.out.mono (fun _ _ e => e.elim)).trans hw2.chg (fun _ _ e => e)); have HW2 := Lib.hid hw2; clear hw2)
      | (go_at_call 68; refine (HSy.out _ _ HW2.out).mono ?_; rintro e w3 ⟨rfl, hw3⟩; have HW3 := Lib.hid hw3; clear hw3))
    go_ret
    exact ⟨rfl, ((H.out.fresh HC1.out).post HW3.out).since HC1.out⟩

end Go.Proofs.YtbjagmlbamjdbaaGreat.kvs
end

/-
  kv: Do, where the log is full: it is made anew of what would be.
-/
section
set_option linter.unusedSimpArgs false
set_option linter.unusedVariables false
namespace Go.Proofs.YtbjagmlbamjdbaaGreat.kvs
open Go.RowKit Go.Maps Go.My Go.ChangeMaps disks bufs wals
set_option maxRecDepth 100000

variable {w w' : World} {P : Nat → Prop} {b l q d : Nat} {X X' : DV} {V V' : LV} {m m' : List KV}

theorem applyF_len : ∀ (l : List PV) (m : List KV), (applyF m l).length ≤ m.length + l.length := by
  intro l
  induction l with
  | nil => intro m; simp [applyF]
  | cons p l ih =>
    intro m
    have h5 : (doneF m p).length ≤ m.length + 1 := by
      unfold doneF mdel mput
      split
      · exact Nat.le_succ_of_le (List.length_filter_le _ m)
      · split <;> simp
    have := ih (doneF m p)
    show (applyF (doneF m p) l).length ≤ _
    simp only [List.length_cons]
    omega
theorem again_is {m : List KV} (hn : NoDup m) : applyF [] ((sortF m).map ofKV) = sortF m := by
  rw [apply_puts _ _ (by simp) (sortF_asc hn).nodup, List.nil_append]

/-- Something beside the database's blocks changes. -/
theorem KAt.aside {S : Nat → Prop} (h : KAt P w b l q d X V m) (hc : Chg S w w') (hS : ∀ k, k < w.heap.size → ¬ S k) : KAt P w' b l q d X V m :=
  h.fresh (hc.mono (fun k hk hs => hS k hk hs))

set_option maxHeartbeats 2000000 in
theorem do_full (w : World) (h : KAt P w b l q d X V m) (hV : V.Ok X.B.length) (hf : X.fuse ≤ 9223372036854775807) (hL : ∀ j, (X.L j).length < 500000) (hm : Mays m) (hn : m.length ≤ 90000) {B : Nat} {v : Value} {ps : List PV} (hp : Puts w B v ps) (hl : ps.length ≤ 1000000) (hv : Far P w q v) {t : Txt} (he : encF ps = (t, 0))
    (hadd : addF X.B.length V t = (7, V)) :
    Calls Tryz.prog 33 #[.pointer (some ⟨b, 0, none⟩), v] w fun e w' => e = .returned (.int .i64 (resetF X V (snapF (applyF (sortF m) ps))).1) ∧ KPost P w w' b l q d (resetF X V (snapF (applyF (sortF m) ps))).2.1 (resetF X V (snapF (applyF (sortF m) ps))).2.2 (if (resetF X V (snapF (applyF (sortF m) ps))).1 = 0 then applyF m ps else m) := by
  have HNo := Lib.hid (db_no w h.db)
  have HEnc := Lib.hid (encode_any w hp hl)
  rw [he] at HEnc
  have H := Lib.hid h
  have HP := Lib.hid hp
  have hok := encF_ok he
  have hnd : NoDup m := h.db.map.nodup
  have ha : ∀ w1, Chg (fun _ => False) w w1 → Calls Tryz.prog 67 #[.pointer (some ⟨l, 0, none⟩), strV t] w1 fun e w' => e = .returned (.int .i64 7) ∧ WAt P w1 w' l d X V := fun w1 hc => by
    have := wat_add (wat_again h.log hc) hV t (by have := hok.2.2.2.2; omega)
    rw [hadd] at this
    exact this
  have hmn : Mays (applyF (sortF m) ps) := mays_apply (hm.perm (sortF_perm m).symm) ps hok.2.1
  have hln : (applyF (sortF m) ps).length ≤ 100000 := by have h1 := applyF_len ps (sortF m); rw [sortF_len] at h1; have := hok.2.2.1; omega
  have HAdd := Lib.hid ha
  have HFar := Lib.hid hv
  have HMn := Lib.hid hmn
  have HLn := Lib.hid hln
  have HNd := Lib.hid hnd
  have HKey := Lib.hid (show ∀ p ∈ ps, p.key.length ≤ maxLen from fun p hp => by have := (may_key (hok.2.1 p hp)).2.1; unfold maxLen; omega)
  have HKeyM := Lib.hid (show ∀ p ∈ (sortF m).map ofKV, p.key.length ≤ maxLen from fun p hp => by
    obtain ⟨x, hx, rfl⟩ := List.mem_map.1 hp
    have := (may_key (hm x ((sortF_perm m).mem_iff.1 hx))).2.1
    show x.1.length ≤ maxLen
    have h2 : (ofKV x).key.length = x.1.length := rfl
    unfold maxLen
    omega)
  have HFL := Lib.hid (And.intro hV (And.intro hf hL))
  have HMl := Lib.hid hn
  have c0 : ∀ w1, Chg P w w1 → w1.cell? ⟨b, 0, none⟩ = some (.pointer (some ⟨l, 0, none⟩)) ∧ w1.cell? ⟨b, 1, none⟩ = some (.map (some q)) := fun w1 hc => ⟨hc.cell (cell_of_block h.db.head rfl) h.nb, hc.cell (cell_of_block h.db.head rfl) h.nb⟩
  have HC0 := Lib.hid c0
  clear h hp ha hV hf hL hadd he hok hv c0 hmn hln hnd hm hn
  obtain ⟨R, hR⟩ : ∃ R, resetF X V (snapF (applyF (sortF m) ps)) = R := ⟨_, rfl⟩
  rw [hR]
  have HR := Lib.hid hR
  obtain ⟨z, X3, V3⟩ := R
  simp only
  clear hR
  have hmm := @run_makeMap Tryz.prog
  go_enter Tryz.func33, Tryz.ntmps33
  go_wp2_with (first
    | (go_at_call 65; refine HNo.out.mono ?_; rintro e w' ⟨rfl, rfl⟩)
    | (go_at_call 66; refine HEnc.out.mono ?_; rintro e w1 ⟨rfl, hc1⟩; obtain ⟨k0, -⟩ := HC0.out _ (hc1.mono (fun _ _ e => e.elim)); have HC1 := Lib.hid hc1; clear hc1)
    | (go_at_call 67; refine (HAdd.out _ HC1.out).mono ?_; rintro e w2 ⟨rfl, hw2⟩
       have hc3 : Chg (fun _ => False) w2 (w2.alloc (.map #[] 0)) := (Chg.refl _ _).alloc _
       obtain ⟨-, k1⟩ := HC0.out _ (((HC1.out.mono (fun _ _ e => e.elim)).trans hw2.chg (fun _ _ e => e)).trans (hc3.mono (S' := P) (fun _ _ e => e.elim)) (fun _ _ e => e))
       have HK2 := Lib.hid (((H.out.fresh HC1.out).step hw2))
       have HW2 := Lib.hid hw2
       have HC3 := Lib.hid hc3
       have hnm : MapAt (w2.alloc (.map #[] 0)) w2.heap.size [] := MapIs.made sKey strV (block_alloc_new _ _)
       have HNm := Lib.hid hnm
       clear hw2 hc3 hnm)
    | (go_at_call 69; refine (sorted_any _ (HK2.out.db.map.kept HC3.out id) (by have := HMl.out; omega)).mono ?_; rintro e w4 ⟨lv, rfl, hp4, hc4⟩; have HP4 := Lib.hid hp4; have HC4 := Lib.hid hc4; clear hp4 hc4)
    | (go_at_call 61; refine (apply_any _ (HNm.out.kept HC4.out id) HP4.out HKeyM.out (by rw [List.length_map, sortF_len]; have := HMl.out; omega)).mono ?_; rintro e w5 ⟨rfl, hm5, hc5⟩; rw [again_is HNd.out] at hm5
       have hpv := ((((HP.out.kept HC1.out (fun _ _ e => e)).kept HW2.out.chg (fun g hg => (HFar.out g hg).1)).kept HC3.out (fun _ _ e => e)).kept HC4.out (fun _ _ e => e)).kept hc5 (fun g hg e => by have := (HP.out.lt hg).2; have := HC1.out.size; have := HW2.out.chg.size; omega)
       have HPv := Lib.hid hpv
       have hk5 := ((HK2.out.fresh HC3.out).fresh HC4.out)
       have hc25 : Chg (fun k => w2.heap.size ≤ k) w2 w5 := ((HC3.out.mono (fun _ _ e => e.elim)).trans (HC4.out.mono (S' := fun k => w2.heap.size ≤ k) (fun _ _ e => e.elim)) (fun _ _ e => e)).trans (hc5.mono (S' := fun k => w2.heap.size ≤ k) (fun k _ e => Nat.le_of_eq e.symm)) (fun _ _ e => e)
       have HC25 := Lib.hid hc25
       have HM5 := Lib.hid hm5; have HC5 := Lib.hid hc5; clear HNm hm5 hc5 hpv hk5 hc25)
    | (go_at_call 61; refine (apply_any _ HM5.out HPv.out HKey.out (by omega)).mono ?_; rintro e w6 ⟨rfl, hm6, hc6⟩
       have hc26 : Chg (fun k => w2.heap.size ≤ k) w2 w6 := HC25.out.trans (hc6.mono (S' := fun k => w2.heap.size ≤ k) (fun k _ e => Nat.le_of_eq e.symm)) (fun _ _ e => e)
       have hk6 := HK2.out.aside hc26 (fun k hk hs => by omega)
       have n0 := cell_of_block (i := 0) hk6.db.head rfl
       have HK6 := Lib.hid hk6
       have HC26 := Lib.hid hc26
       have HM6 := Lib.hid hm6
       clear hm6 hc6 hk6 hc26))
  have hd : Chg (fun _ => False) w6 w6.drew := (Chg.refl _ _).drew
  have HSnap := Lib.hid (snapshot_any w6.drew (HM6.out.kept hd id) HMn.out HLn.out)
  have HD := Lib.hid hd
  have hrs : ∀ (w7 : World) (u : Value), w7.ownsRow w6.drew.heap.size 9 1 u (snapF (applyF (sortF m) ps)).length ((snapF (applyF (sortF m) ps)).map strV) → Chg (fun _ => False) w6.drew w7 →
      Calls Tryz.prog 70 #[.pointer (some ⟨l, 0, none⟩), u] w7 fun e w' => e = .returned (.int .i64 z) ∧ WAt (NowP P w1 w2) w7 w' l d X3 V3 := fun w7 u ho hc => by
    have := wat_reset (wat_again HK6.out.log (hd.trans' hc)) HFL.out.1 HFL.out.2.1 HFL.out.2.2 (snapF (applyF (sortF m) ps)) u (SlAt.of_own ho) (fun g hg => ⟨fun hp => by have h1 := HK6.out.lt g hp; have h2 := (ho.lt g hg).1; have : w6.drew.heap.size = w6.heap.size := rfl; omega, (ho.lt g hg).2⟩) (by have := snapF_len (applyF (sortF m) ps); have := HLn.out; omega) (fun r hr => by have := snap_short HM6.out.nodup HMn.out r hr; omega)
    rw [HR.out] at this
    exact this
  have HRs := Lib.hid hrs
  clear hd hrs
  go_region_held3 (fun w' => w'.cell? ⟨b, 0, none⟩ = some (.pointer (some ⟨l, 0, none⟩))) (go_keep)
    (first
    | (go_at_call 71; refine HSnap.out.mono ?_; rintro e w7 ⟨v7, rfl, ho7, hc7⟩; have e0 := hc7.cell (show w6.drew.cell? ⟨b, 0, none⟩ = _ from n0) id; have HO7 := Lib.hid ho7; have HC7 := Lib.hid hc7; clear ho7 hc7)
    | (go_at_call 70; refine (HRs.out _ _ HO7.out HC7.out).mono ?_; rintro e w8 ⟨rfl, hw8⟩; have f0 := hw8.chg.cell e0 HK6.out.nb; have HW8 := Lib.hid hw8; clear hw8))
  have hk7 := HK6.out.fresh (HD.out.trans' HC7.out)
  have hk8 := hk7.step HW8.out
  have hc12 : Chg (fun k => P k ∨ k = q) w1 w2 := HW2.out.chg.mono (fun _ _ e => Or.inl e)
  have hc16 : Chg (fun k => P k ∨ k = q) w1 w6 := hc12.trans HC26.out (fun k hk hs => by have := hc12.size; omega)
  have hc18 : Chg (fun k => P k ∨ k = q) w1 w8 := (hc16.trans' ((HD.out.trans' HC7.out).mono (fun _ _ e => e.elim))).trans HW8.out.chg (fun k hk hs => (hs.1).elim Or.inl (fun e => by omega))
  have m1 := cell_of_block (i := 1) hk8.db.head rfl
  have HK8 := Lib.hid hk8
  have HC18 := Lib.hid hc18
  clear hk7 hk8 hc12 hc16 hc18
  have hs17 : w1.heap.size ≤ w7.heap.size := Nat.le_trans HW2.out.chg.size (Nat.le_trans HC26.out.size (HD.out.trans' HC7.out).size)
  have hin : ∀ j, NowP (NowP P w1 w2) w7 w8 j → P j ∨ w1.heap.size ≤ j := fun j hj => hj.1.elim (fun e => e.1) (fun e => Or.inr (Nat.le_trans hs17 e))
  have hp8 := (HP.out.kept HC1.out (fun _ _ e => e)).kept HC18.out (fun g hg hs => hs.elim (HFar.out g hg).1 (HFar.out g hg).2)
  have HIn := Lib.hid hin
  have HP8 := Lib.hid hp8
  clear hs17 hin hp8
  by_cases hz : z = 0
  · subst hz
    go_wp2_with (first
      | (go_at_call 61; refine (apply_any _ HK8.out.db.map HP8.out HKey.out (by omega)).mono ?_; rintro e w9 ⟨rfl, hm9, hc9⟩; have HM9 := Lib.hid hm9; have HC9 := Lib.hid hc9; clear hm9 hc9))
    go_ret
    exact ⟨rfl, KPost.since ⟨⟨_, HK8.out.put HC9.out HM9.out, HIn.out⟩, HC18.out.trans HC9.out (fun _ _ e => Or.inr e)⟩ HC1.out⟩
  · go_wp2_with fail
    go_ret
    exact ⟨rfl, KPost.since ⟨⟨_, HK8.out, HIn.out⟩, HC18.out⟩ HC1.out⟩

end Go.Proofs.YtbjagmlbamjdbaaGreat.kvs
end

/-
  rootdb: the plain model: what is scanned; what the batches of Stage, Commit, Abort make.
-/
section
set_option linter.unusedSimpArgs false
set_option linter.unusedVariables false
namespace Go.Proofs.YtbjagmlbamjdbaaGreat.roots
open Go.My kvs

/-! ### scans -/
/-! ### batches -/
def delP (k : Txt) : PV := ⟨k, [], true⟩
theorem puts_get : ∀ (B m : List KV) (k : Txt), NoDup B → mget (applyF m (B.map ofKV)) k = (mget B k).or (mget m k)
  | [], m, k, _ => by simp [applyF]; rfl
  | p :: B, m, k, h => by
    unfold NoDup at h
    rw [List.map_cons, List.nodup_cons] at h
    show mget (applyF (doneF m (ofKV p)) (B.map ofKV)) k = _
    rw [puts_get B _ k h.2, doneF_get, mget_cons]
    show (mget B k).or (if k = p.1 then some p.2 else mget m k) = _
    by_cases hk : p.1 = k
    · have hn : mget B k = none := by
        cases hb : mget B k with
        | none => rfl
        | some v => exact absurd (List.mem_map.2 ⟨(k, v), mget_mem hb, by simp [hk]⟩) h.1
      rw [if_pos hk.symm, if_pos hk, hn]; rfl
    · rw [if_neg (fun e => hk e.symm), if_neg hk]
theorem dels_get : ∀ (ks : List Txt) (m : List KV) (k : Txt), mget (applyF m (ks.map delP)) k = if k ∈ ks then none else mget m k
  | [], m, k => by simp [applyF]
  | d :: ks, m, k => by
    show mget (applyF (doneF m (delP d)) (ks.map delP)) k = _
    rw [dels_get ks _ k, doneF_get]
    show (if k ∈ ks then none else if k = d then none else mget m k) = _
    by_cases h1 : k ∈ ks
    · rw [if_pos h1, if_pos (by simp [h1])]
    · rw [if_neg h1]
      by_cases h2 : k = d
      · rw [if_pos h2, if_pos (by simp [h2])]
      · rw [if_neg h2, if_neg (by simp [h1, h2])]
theorem mget_append : ∀ (a b : List KV) (k : Txt), mget (a ++ b) k = (mget a k).or (mget b k)
  | [], b, k => by simp; rfl
  | p :: a, b, k => by
    rw [List.cons_append, mget_cons, mget_cons, mget_append a b k]
    split <;> simp
theorem mget_none {l : List KV} {k : Txt} (h : ∀ v, (k, v) ∉ l) : mget l k = none := by
  cases hg : mget l k with
  | none => rfl
  | some v => exact absurd (mget_mem hg) (h v)
theorem sort_is {m : List KV} {S : RS} (hn : NoDup m) (h1 : S.stack.length ≤ 256) (h2 : S.wants.length ≤ 256) (h3 : S.done.length ≤ 1000000) (h : ∀ k, mget m k = mget (rootL S) k) : sortF m = rootL S :=
  asc_unique (sortF_asc hn) (root_asc h1 h2 h3) ((sortF_perm m).trans (perm_of_get hn (root_asc h1 h2 h3).nodup h))
theorem get_is {m : List KV} {S : RS} (hn : NoDup m) (h : sortF m = rootL S) (k : Txt) : mget m k = mget (rootL S) k := by rw [← h, sortF_get hn]

/-- The keys of packages from a place on. -/
def lkeys (c : UInt8) (i n : Nat) : List Txt := (List.range' i n).map (fun j => [c, UInt8.ofNat j])
theorem mget_lst_key {c : UInt8} : ∀ {l : List Pk} {i : Nat} {k : Txt}, (mget (lst c i l) k).isSome = true ↔ k ∈ lkeys c i l.length
  | [], i, k => by simp [lst, lkeys]; rfl
  | p :: l, i, k => by
    have ih := mget_lst_key (c := c) (l := l) (i := i + 1) (k := k)
    rw [lst, mget_cons]
    have e : lkeys c i (p :: l).length = [c, UInt8.ofNat i] :: lkeys c (i + 1) l.length := by
      unfold lkeys
      rw [List.length_cons, List.range'_succ, List.map_cons]
    rw [e, List.mem_cons]
    simp only
    by_cases h : [c, UInt8.ofNat i] = k
    · rw [if_pos h]
      exact ⟨fun _ => Or.inl h.symm, fun _ => rfl⟩
    · rw [if_neg h, ih]
      exact ⟨Or.inr, fun h' => h'.resolve_left (fun e => h e.symm)⟩

/-- Stage: one more is staged. -/
def stageB (n : Nat) (l : List Pk) : List PV := ofKV ([116], eight n ++ [UInt8.ofNat l.length]) :: (lst 113 0 l).map ofKV
theorem stage_is {m : List KV} {S : RS} {n : Nat} {l : List Pk} (hn : NoDup m) (h : sortF m = rootL S) (h0 : S.staged = 0) (hw : S.wants = []) (hn0 : n ≠ 0) (h1 : S.stack.length ≤ 200) (h2 : l.length ≤ 200) (h3 : S.done.length ≤ 1000) :
    sortF (applyF m (stageB n l)) = rootL ⟨S.stack, n, l, S.done⟩ := by
  refine sort_is (applyF_nodup hn _) (by show S.stack.length ≤ 256; omega) (by show l.length ≤ 256; omega) (by show S.done.length ≤ 1000000; omega) (fun k => ?_)
  have hB : NoDup (([116], eight n ++ [UInt8.ofNat l.length]) :: lst 113 0 l) := by
    have ha := (lst_asc (c := 113) (l := l) (i := 0) (by omega)).nodup
    unfold NoDup at ha ⊢
    rw [List.map_cons, List.nodup_cons]
    refine ⟨fun hm => ?_, ha⟩
    obtain ⟨⟨k, v⟩, hk, e⟩ := List.mem_map.1 hm
    obtain ⟨j, -, -, rfl⟩ := lst_keys hk
    simp at e
  have e1 : stageB n l = (([116], eight n ++ [UInt8.ofNat l.length]) :: lst 113 0 l).map ofKV := rfl
  rw [e1, puts_get _ _ _ hB, get_is hn h]
  unfold rootL tlst tval
  rw [hw, h0, if_pos rfl]
  simp only
  rw [if_neg hn0]
  simp only [mget_append, mget_cons]
  have hnil : mget ([] : List KV) k = none := rfl
  simp only [lst, hnil]
  by_cases ht : [116] = k
  · rw [if_pos ht, if_pos ht]
    have d1 : mget (dlst 0 S.done) k = none := mget_none (fun v hv => by obtain ⟨j, -, -, e⟩ := dlst_keys hv; rw [← ht] at e; simp at e)
    have d2 : mget (lst 112 0 S.stack) k = none := mget_none (fun v hv => by obtain ⟨j, -, -, e⟩ := lst_keys hv; rw [← ht] at e; simp at e)
    have d3 : mget (lst 113 0 l) k = none := mget_none (fun v hv => by obtain ⟨j, -, -, e⟩ := lst_keys hv; rw [← ht] at e; simp at e)
    rw [d1, d2, d3]; rfl
  · rw [if_neg ht, if_neg ht]
    cases hq : mget (lst 113 0 l) k with
    | none => cases mget (dlst 0 S.done) k <;> cases mget (lst 112 0 S.stack) k <;> rfl
    | some v =>
      obtain ⟨j, -, -, e⟩ := lst_keys (mget_mem hq)
      have d1 : mget (dlst 0 S.done) k = none := mget_none (fun v hv => by obtain ⟨j', -, -, e'⟩ := dlst_keys hv; rw [e] at e'; simp at e')
      have d2 : mget (lst 112 0 S.stack) k = none := mget_none (fun v hv => by obtain ⟨j', -, -, e'⟩ := lst_keys hv; rw [e] at e'; simp at e')
      rw [d1, d2]; rfl

end Go.Proofs.YtbjagmlbamjdbaaGreat.roots
end

/-
  rootdb: the plain model: what the batches of Abort and Commit make; each batch may be.
-/
section
set_option linter.unusedSimpArgs false
set_option linter.unusedVariables false
namespace Go.Proofs.YtbjagmlbamjdbaaGreat.roots
open Go.My kvs

theorem mem_lkeys {c : UInt8} {i n : Nat} {k : Txt} : k ∈ lkeys c i n ↔ ∃ j, i ≤ j ∧ j < i + n ∧ k = [c, UInt8.ofNat j] := by
  unfold lkeys
  rw [List.mem_map]
  constructor
  · rintro ⟨j, hj, rfl⟩
    rw [List.mem_range'_1] at hj
    exact ⟨j, hj.1, hj.2, rfl⟩
  · rintro ⟨j, h1, h2, rfl⟩
    exact ⟨j, by rw [List.mem_range'_1]; exact ⟨h1, h2⟩, rfl⟩
theorem lst_none {c : UInt8} {l : List Pk} {i : Nat} {k : Txt} (h : k ∉ lkeys c i l.length) : mget (lst c i l) k = none := by
  cases hg : mget (lst c i l) k with
  | none => rfl
  | some v => exact absurd (mget_lst_key.1 (by rw [hg]; rfl)) h
theorem tlst_none {S : RS} {k : Txt} (h : k ≠ [116]) : mget (tlst S) k = none := mget_none (fun v hv => h (tlst_keys hv))
theorem dlst_none {l : List Nat} {i : Nat} {k : Txt} (h : ∀ e, k ≠ 99 :: e) : mget (dlst i l) k = none := mget_none (fun v hv => by obtain ⟨j, -, -, e⟩ := dlst_keys hv; exact h _ e)
theorem dl_none {l : List Nat} {i : Nat} {c : UInt8} {t : Txt} (h : c ≠ 99) : mget (dlst i l) (c :: t) = none := dlst_none (fun e he => by rw [List.cons.injEq] at he; exact h he.1)
theorem dlst_push : ∀ (l : List Nat) (i n : Nat), dlst i (l ++ [n]) = dlst i l ++ [(99 :: eight (i + l.length), eight n)]
  | [], i, n => rfl
  | x :: l, i, n => by
    rw [List.cons_append, dlst, dlst, dlst_push l (i + 1) n, List.cons_append, List.length_cons, show i + 1 + l.length = i + (l.length + 1) by omega]
theorem get_root (S : RS) (k : Txt) : mget (rootL S) k = (mget (dlst 0 S.done) k).or ((mget (lst 112 0 S.stack) k).or ((mget (lst 113 0 S.wants) k).or (mget (tlst S) k))) := by
  unfold rootL
  rw [mget_append, mget_append, mget_append]

def abortB (S : RS) : List PV := ([116] :: lkeys 113 0 S.wants.length).map delP
theorem abort_is {m : List KV} {S : RS} (hn : NoDup m) (h : sortF m = rootL S) (h1 : S.stack.length ≤ 200) (h3 : S.done.length ≤ 1000) :
    sortF (applyF m (abortB S)) = rootL ⟨S.stack, 0, [], S.done⟩ := by
  refine sort_is (applyF_nodup hn _) (by show S.stack.length ≤ 256; omega) (by simp) (by show S.done.length ≤ 1000000; omega) (fun k => ?_)
  unfold abortB
  rw [dels_get, get_is hn h, get_root, get_root]
  simp only
  have e1 : mget (lst 113 0 []) k = none := rfl
  have e2 : mget (tlst ⟨S.stack, 0, [], S.done⟩) k = none := rfl
  rw [e1, e2]
  by_cases hk : k ∈ [116] :: lkeys 113 0 S.wants.length
  · rw [if_pos hk]
    rcases List.mem_cons.1 hk with rfl | hk
    · rw [dl_none (by decide), lst_none (by rw [mem_lkeys]; rintro ⟨j, -, -, e⟩; simp at e)]; rfl
    · obtain ⟨j, -, -, rfl⟩ := mem_lkeys.1 hk
      rw [dl_none (by decide), lst_none (by rw [mem_lkeys]; rintro ⟨j', -, -, e⟩; simp at e)]; rfl
  · rw [if_neg hk]
    rw [List.mem_cons, not_or] at hk
    rw [lst_none (c := 113) (by simpa using hk.2), tlst_none hk.1]

def commitB (S : RS) (n : Nat) : List PV := delP [116] :: ofKV (99 :: eight S.done.length, eight n) :: ((lkeys 113 0 S.wants.length).map delP ++ ((lkeys 112 S.wants.length (S.stack.length - S.wants.length)).map delP ++ (lst 112 0 S.wants).map ofKV))
theorem commit_is {m : List KV} {S : RS} {n : Nat} (hn : NoDup m) (h : sortF m = rootL S) (h1 : S.stack.length ≤ 200) (h2 : S.wants.length ≤ 200) (h3 : S.done.length ≤ 1000) :
    sortF (applyF m (commitB S n)) = rootL ⟨S.wants, 0, [], S.done ++ [n]⟩ := by
  refine sort_is (applyF_nodup hn _) (by show S.wants.length ≤ 256; omega) (by simp) (by show (S.done ++ [n]).length ≤ 1000000; rw [List.length_append, List.length_singleton]; omega) (fun k => ?_)
  have hW : NoDup (lst 112 0 S.wants) := (lst_asc (by omega)).nodup
  have e0 : applyF m (commitB S n) = applyF (applyF (applyF (doneF (doneF m (delP [116])) (ofKV (99 :: eight S.done.length, eight n))) ((lkeys 113 0 S.wants.length).map delP)) ((lkeys 112 S.wants.length (S.stack.length - S.wants.length)).map delP)) ((lst 112 0 S.wants).map ofKV) := by
    unfold commitB
    rw [← applyF_append, ← applyF_append]
    rfl
  rw [e0, puts_get _ _ _ hW, dels_get, dels_get, doneF_get, doneF_get, get_is hn h, get_root, get_root]
  simp only
  have e1 : mget (lst 113 0 []) k = none := rfl
  have e2 : mget (tlst ⟨S.wants, 0, [], S.done ++ [n]⟩) k = none := rfl
  rw [e1, e2, dlst_push, mget_append, mget_cons, Nat.zero_add]
  have e3 : mget ([] : List KV) k = none := rfl
  rw [e3]
  show (mget (lst 112 0 S.wants) k).or (if k ∈ lkeys 112 S.wants.length (S.stack.length - S.wants.length) then none else if k ∈ lkeys 113 0 S.wants.length then none else if k = 99 :: eight S.done.length then some (eight n) else if k = [116] then none else _) = ((mget (dlst 0 S.done) k).or (if 99 :: eight S.done.length = k then some (eight n) else none)).or _
  by_cases hw : k ∈ lkeys 112 0 S.wants.length
  · obtain ⟨v, hv⟩ : ∃ v, mget (lst 112 0 S.wants) k = some v := Option.isSome_iff_exists.1 (mget_lst_key.2 hw)
    obtain ⟨j, -, -, rfl⟩ := mem_lkeys.1 hw
    rw [hv, dl_none (by decide), if_neg (show ¬ (99 :: eight S.done.length = [112, UInt8.ofNat j]) by simp)]
    rfl
  · rw [lst_none hw]
    by_cases k1 : k ∈ lkeys 112 S.wants.length (S.stack.length - S.wants.length)
    · rw [if_pos k1]
      obtain ⟨j, -, -, rfl⟩ := mem_lkeys.1 k1
      rw [dl_none (by decide), if_neg (show ¬ (99 :: eight S.done.length = [112, UInt8.ofNat j]) by simp)]; rfl
    · rw [if_neg k1]
      by_cases k2 : k ∈ lkeys 113 0 S.wants.length
      · rw [if_pos k2]
        obtain ⟨j, -, -, rfl⟩ := mem_lkeys.1 k2
        rw [dl_none (by decide), if_neg (show ¬ (99 :: eight S.done.length = [113, UInt8.ofNat j]) by simp)]; rfl
      · rw [if_neg k2]
        by_cases k3 : k = 99 :: eight S.done.length
        · rw [if_pos k3, if_pos k3.symm]
          have : mget (dlst 0 S.done) k = none := mget_none (fun v hv => by
            obtain ⟨j, -, j2, e⟩ := dlst_keys hv
            rw [k3] at e
            rw [List.cons.injEq] at e
            have := eight_inj (by omega) (by omega) e.2
            omega)
          rw [this]; rfl
        · have k3' : ¬ 99 :: eight S.done.length = k := fun e => k3 e.symm
          rw [if_neg k3, if_neg k3']
          by_cases k4 : k = [116]
          · rw [if_pos k4, k4, dl_none (by decide)]; rfl
          · rw [if_neg k4, tlst_none k4, lst_none k2]
            have hp : k ∉ lkeys 112 0 S.stack.length := by
              intro hk
              obtain ⟨j, j1, j2, e⟩ := mem_lkeys.1 hk
              by_cases hj : j < S.wants.length
              · exact hw (mem_lkeys.2 ⟨j, by omega, by omega, e⟩)
              · exact k1 (mem_lkeys.2 ⟨j, by omega, by omega, e⟩)
            rw [lst_none hp]
            cases mget (dlst 0 S.done) k <;> rfl

/-! ### the batches may be -/
theorem may_of {k v : Txt} (h1 : 1 ≤ k.length) (h2 : k.length ≤ 9) (h3 : v.length ≤ 1024) : (ofKV (k, v)).may = true := by
  unfold PV.may ofKV
  simp only [Bool.and_eq_true, decide_eq_true_eq, Bool.not_eq_true', Bool.false_and, and_true]
  omega
theorem may_del {k : Txt} (h1 : 1 ≤ k.length) (h2 : k.length ≤ 9) : (delP k).may = true := by
  unfold PV.may delP
  simp only [Bool.and_eq_true, decide_eq_true_eq, Bool.not_eq_true', List.length_nil]
  refine ⟨⟨⟨by omega, by omega⟩, by omega⟩, by simp⟩
theorem varB_small {n : Nat} (h : n < 16384) : (varB n).length ≤ 2 := by
  by_cases h1 : n < 128
  · rw [varB_one h1]; simp
  · rw [varB_two (by omega) h]; simp
theorem bytes_of {k v : Txt} (h2 : k.length ≤ 9) (h3 : v.length ≤ 1024) : (ofKV (k, v)).bytes.length ≤ 13 + 1 + v.length := by
  have h5 := varB_small (n := v.length) (by omega)
  unfold PV.bytes ofKV textB
  simp only [Bool.false_eq_true, if_false, List.length_cons, List.length_append]
  rw [varB_one (n := k.length) (by omega)]
  simp only [List.length_cons, List.length_nil]
  omega
theorem bytes_del {k : Txt} (h2 : k.length ≤ 9) : (delP k).bytes.length ≤ 11 := by
  unfold PV.bytes delP textB
  simp only [if_true, List.length_cons, List.length_append]
  rw [varB_one (n := k.length) (by omega)]
  simp only [List.length_cons, List.length_nil]
  omega
theorem allB_dels : ∀ (ks : List Txt), (∀ k ∈ ks, k.length ≤ 9) → (allB (ks.map delP)).length ≤ 11 * ks.length
  | [], _ => by simp [allB]
  | k :: ks, h => by
    have e : allB ((k :: ks).map delP) = (delP k).bytes ++ allB (ks.map delP) := by simp [allB]
    have h1 := bytes_del (h k (by simp))
    have h2 := allB_dels ks (fun q hq => h q (by simp [hq]))
    rw [e, List.length_append, List.length_cons]
    omega
theorem lkeys_len (c : UInt8) (i n : Nat) : (lkeys c i n).length = n := by unfold lkeys; rw [List.length_map, List.length_range']
theorem lst_len (c : UInt8) : ∀ (l : List Pk) (i : Nat), (lst c i l).length = l.length
  | [], _ => rfl
  | p :: l, i => by rw [lst, List.length_cons, List.length_cons, lst_len c l]
/-- Packages as puts take few bytes. -/
theorem allB_lst (c : UInt8) : ∀ (l : List Pk) (i : Nat), (∀ p ∈ l, p.dig ∧ mchkF p.man = 0) → (allB ((lst c i l).map ofKV)).length ≤ 53 * l.length + 42 * nlay l ∧ ∀ q ∈ (lst c i l).map ofKV, q.may = true
  | [], _, _ => ⟨by simp [lst, allB], fun q hq => by cases hq⟩
  | p :: l, i, h => by
    obtain ⟨h1, h2⟩ := allB_lst c l (i + 1) (fun q hq => h q (by simp [hq]))
    obtain ⟨d1, d2⟩ := h p (by simp)
    obtain ⟨l1, l2⟩ := pencF_len d1 d2
    have hf := (mchkF_ok d2).few
    have e : allB ((lst c i (p :: l)).map ofKV) = (ofKV ([c, UInt8.ofNat i], pencF p)).bytes ++ allB ((lst c (i + 1) l).map ofKV) := by simp [lst, allB]
    have e2 : nlay (p :: l) = p.man.layers.length + nlay l := by simp [nlay]
    have h3 := bytes_of (k := [c, UInt8.ofNat i]) (v := pencF p) (by simp) (by omega)
    constructor
    · rw [e, List.length_append, List.length_cons, e2]
      omega
    · intro q hq
      rw [lst, List.map_cons] at hq
      rcases List.mem_cons.1 hq with rfl | hq
      · exact may_of (by simp) (by simp) (by omega)
      · exact h2 q hq

theorem stage_fits {n : Nat} {l : List Pk} (h : SOk l) (hd : ∀ p ∈ l, p.dig) : Fits (stageB n l) := by
  obtain ⟨h1, h2⟩ := allB_lst 113 l 0 (fun p hp => ⟨hd p hp, (h.each p hp).2.2⟩)
  have h3 := h.lays
  have h4 := h.few
  have hv : (eight n ++ [UInt8.ofNat l.length]).length = 9 := by rw [List.length_append, eight_length]; rfl
  have h5 := bytes_of (k := [116]) (v := eight n ++ [UInt8.ofNat l.length]) (by simp) (by omega)
  have e : allB (stageB n l) = (ofKV ([116], eight n ++ [UInt8.ofNat l.length])).bytes ++ allB ((lst 113 0 l).map ofKV) := by simp [stageB, allB]
  refine ⟨by simp [stageB], fun q hq => ?_, ?_, ?_⟩
  · rcases List.mem_cons.1 hq with rfl | hq
    · exact may_of (by simp) (by simp) (by omega)
    · exact h2 q hq
  · unfold stageB
    rw [List.length_cons, List.length_map, lst_len]
    omega
  · rw [e, List.length_append]
    omega
theorem abort_fits {S : RS} (h : S.wants.length ≤ 16) : Fits (abortB S) := by
  have hk : ∀ k ∈ [116] :: lkeys 113 0 S.wants.length, 1 ≤ k.length ∧ k.length ≤ 9 := by
    intro k hk
    rcases List.mem_cons.1 hk with rfl | hk
    · simp
    · obtain ⟨j, -, -, rfl⟩ := mem_lkeys.1 hk; simp
  have h1 := allB_dels ([116] :: lkeys 113 0 S.wants.length) (fun k hk' => (hk k hk').2)
  have hl : ([116] :: lkeys 113 0 S.wants.length).length = S.wants.length + 1 := by rw [List.length_cons, lkeys_len]
  refine ⟨by simp [abortB], fun q hq => ?_, ?_, ?_⟩
  · obtain ⟨k, hk', rfl⟩ := List.mem_map.1 hq
    exact may_del (hk k hk').1 (hk k hk').2
  · unfold abortB
    rw [List.length_map]
    omega
  · unfold abortB
    omega
theorem commit_fits {S : RS} {n : Nat} (hw : SOk S.wants) (hd : ∀ p ∈ S.wants, p.dig) (hs : S.stack.length ≤ 16) : Fits (commitB S n) := by
  obtain ⟨h1, h2⟩ := allB_lst 112 S.wants 0 (fun p hp => ⟨hd p hp, (hw.each p hp).2.2⟩)
  have h3 := hw.lays
  have h4 := hw.few
  have hk : ∀ c i j, ∀ k ∈ lkeys c i j, 1 ≤ k.length ∧ k.length ≤ 9 := by
    intro c i j k hk
    obtain ⟨j, -, -, rfl⟩ := mem_lkeys.1 hk; simp
  have hv : (eight n).length = 8 := eight_length n
  have hc : (99 :: eight S.done.length).length = 9 := by rw [List.length_cons, eight_length]
  have h5 := bytes_of (k := 99 :: eight S.done.length) (v := eight n) (by omega) (by omega)
  have h6 := bytes_del (k := [116]) (by simp)
  have h7 := allB_dels (lkeys 113 0 S.wants.length) (fun k hk' => (hk _ _ _ k hk').2)
  have h8 := allB_dels (lkeys 112 S.wants.length (S.stack.length - S.wants.length)) (fun k hk' => (hk _ _ _ k hk').2)
  rw [lkeys_len] at h7 h8
  have e : allB (commitB S n) = (delP [116]).bytes ++ ((ofKV (99 :: eight S.done.length, eight n)).bytes ++ (allB ((lkeys 113 0 S.wants.length).map delP) ++ (allB ((lkeys 112 S.wants.length (S.stack.length - S.wants.length)).map delP) ++ allB ((lst 112 0 S.wants).map ofKV)))) := by
    unfold commitB
    rw [← allB_append, ← allB_append]
    simp [allB]
  refine ⟨by simp [commitB], fun q hq => ?_, ?_, ?_⟩
  · unfold commitB at hq
    rcases List.mem_cons.1 hq with rfl | hq
    · exact may_del (by simp) (by simp)
    · rcases List.mem_cons.1 hq with rfl | hq
      · exact may_of (by omega) (by omega) (by omega)
      · rcases List.mem_append.1 hq with hq | hq
        · obtain ⟨k, hk', rfl⟩ := List.mem_map.1 hq
          exact may_del (hk _ _ _ k hk').1 (hk _ _ _ k hk').2
        · rcases List.mem_append.1 hq with hq | hq
          · obtain ⟨k, hk', rfl⟩ := List.mem_map.1 hq
            exact may_del (hk _ _ _ k hk').1 (hk _ _ _ k hk').2
          · exact h2 q hq
  · unfold commitB
    simp only [List.length_cons, List.length_append, List.length_map, lkeys_len, lst_len]
    omega
  · rw [e]
    simp only [List.length_append]
    omega

end Go.Proofs.YtbjagmlbamjdbaaGreat.roots
end

/-
  rootdb: num.Var of any number below 2^63; eight, key.
-/
section
set_option linter.unusedSimpArgs false
set_option linter.unusedVariables false
namespace Go.Proofs.YtbjagmlbamjdbaaGreat.roots
open Go.RowKit Go.Maps Go.My Go.ChangeMaps disks bufs wals kvs
set_option maxRecDepth 100000

variable {w w' : World}

theorem fixB_be : ∀ (k n : Nat), fixB k n = be k n
  | 0, _ => rfl
  | k + 1, n => by
    rw [fixB, be, fixB_be k]
    congr 2
    apply UInt8.toNat_inj.1
    simp only [UInt8.toNat_ofNat']
    omega
theorem eight_be (n : Nat) : eight n = be 8 n := fixB_be 8 n

set_option maxHeartbeats 1000000 in
theorem var_big (w : World) (n : Nat) (hn : n < 9223372036854775808) :
    Calls Tryz.prog 121 #[.int .u64 (n : Int)] w fun e w' => ∃ v, e = .returned v ∧ w'.ownsRow w.heap.size 5 1 v (varB n).length (cellsB (varB n)) ∧ Chg (fun _ => False) w w' := by
  go_enter Tryz.func121, Tryz.ntmps121
  go_wp2_with fail
  go_loopw [0, 3] (fun v out wr => ∃ (k m : Nat) (done : Txt), v = .int .u64 (m : Int) ∧ k ≤ 9 ∧ m < 128 ^ k ∧ varB n = done ++ varN k m ∧ wr.ownsRow w.heap.size 5 1 out done.length (cellsB done) ∧ Chg (fun _ => False) w wr) (fun v _ _ => (intOf v).toNat)
  · exact ⟨9, n, [], rfl, by omega, by have : (128 : Nat) ^ 9 = 9223372036854775808 := (by decide); omega, rfl, World.ownsRow_nil _ _ _ _, Chg.refl _ _⟩
  obtain ⟨k, m, done, rfl, hk9, hm, hvar, ho, hc⟩ := hrel
  obtain ⟨oa, cap, rfl⟩ := own_slice ho
  have hdl : done.length ≤ 10 := by
    have h1 := (varB_length n).1
    have h2 := congrArg List.length hvar
    rw [List.length_append] at h2
    omega
  have hm64 : m < 9223372036854775808 := by
    have h1 : (128 : Nat) ^ k ≤ 128 ^ 9 := Nat.pow_le_pow_right (by omega) hk9
    have h2 : (128 : Nat) ^ 9 = 9223372036854775808 := by decide
    omega
  have h0 : (0 : Int) ≤ (m : Int) := by omega
  have h1 : (m : Int) < 9223372036854775808 := by omega
  by_cases hlt : m < 128
  · have hlti : ¬ (128 : Int) ≤ (m : Int) := by omega
    have hv1 : varN k m = [UInt8.ofNat m] := by
      cases k with
      | zero => rfl
      | succ k => rw [varN, if_neg (by omega)]
    rw [hv1] at hvar
    have hmod : (m : Int) % 256 = (m : Int) := by omega
    have hca : Chg (fun _ => False) wr (wr.alloc (.cells #[.int .u8 (m : Int)] 5)) := (Chg.refl _ _).alloc _
    have hs2 : SlAt (wr.alloc (.cells #[.int .u8 (m : Int)] 5)) (.slice (some ⟨wr.heap.size, 0, none⟩) 1 1) (cellsB [UInt8.ofNat (m)]) := by
      have := SlAt.of_own (own_of_block (w := wr.alloc (.cells #[.int .u8 (m : Int)] 5)) (base := 0) (n := 1) at1 (Nat.zero_le _) rfl (by unfold maxLen; omega))
      simp only [cellsB, List.map_cons, List.map_nil, toNat_ofNat_lt (show m < 256 by omega)]
      skip
      exact this
    have hsz := hc.size
    obtain ⟨v3, w3, hr3, ho3, hg3⟩ := append_step (own_kept ho hca) hs2 (Nat.le_trans hsz hca.size) (by simp; omega) 101
    have hc3 : Chg (fun _ => False) w w3 := (hc.trans' hca).new hg3 (fun _ h => h)
    rw [← hvar] at ho3
    have HR3 := Lib.hid hr3
    have HO3 := Lib.hid ho3
    have HC3 := Lib.hid hc3
    clear hca hs2 hr3 ho3 hg3 hc3 ho hc hvar hm hv1 hsz
    go_wp2_with (first
      | (at_builtin; refine Lib.wpList_append_run _ rfl _ _ _ _ rfl _ _ rfl rfl _ _ HR3.out ?_))
    go_ret
    exact ⟨_, rfl, HO3.out, HC3.out⟩
  · have hlti : (128 : Int) ≤ (m : Int) := by omega
    obtain ⟨k, rfl⟩ : ∃ j, k = j + 1 := by
      cases k with
      | zero => simp at hm; omega
      | succ k => exact ⟨k, rfl⟩
    rw [varN, if_pos (by omega)] at hvar
    rw [Nat.pow_succ] at hm
    obtain ⟨X, hX⟩ : ∃ X : Int, bits .or .u8 ((m : Int) % 256) 128 = X := ⟨_, rfl⟩
    have hXv : X = ((m % 128 + 128 : Nat) : Int) := by
      rw [← hX]
      exact or128 m
    have hca : Chg (fun _ => False) wr (wr.alloc (.cells #[.int .u8 (X : Int)] 5)) := (Chg.refl _ _).alloc _
    have hs2 : SlAt (wr.alloc (.cells #[.int .u8 (X : Int)] 5)) (.slice (some ⟨wr.heap.size, 0, none⟩) 1 1) (cellsB [UInt8.ofNat (m % 128 + 128)]) := by
      have := SlAt.of_own (own_of_block (w := wr.alloc (.cells #[.int .u8 (X : Int)] 5)) (base := 0) (n := 1) at1 (Nat.zero_le _) rfl (by unfold maxLen; omega))
      simp only [cellsB, List.map_cons, List.map_nil, toNat_ofNat_lt (show m % 128 + 128 < 256 by omega)]
      rw [← hXv]
      exact this
    have hsz := hc.size
    obtain ⟨v3, w3, hr3, ho3, hg3⟩ := append_step (own_kept ho hca) hs2 (Nat.le_trans hsz hca.size) (by simp; omega) 101
    have hc3 : Chg (fun _ => False) w w3 := (hc.trans' hca).new hg3 (fun _ h => h)
    have hvar2 : varB n = (done ++ [UInt8.ofNat (m % 128 + 128)]) ++ varN k (m / 128) := by rw [hvar, List.append_assoc]; rfl
    have HR3 := Lib.hid hr3
    have HO3 := Lib.hid ho3
    have HC3 := Lib.hid hc3
    have HV2 := Lib.hid hvar2
    have HM := Lib.hid hm
    clear hca hs2 hr3 ho3 hg3 hc3 ho hc hvar hvar2 hm hXv hsz
    go_wp2_with (first
      | (at_builtin; refine Lib.wpList_append_run _ rfl _ _ _ _ rfl _ _ rfl rfl _ _ HR3.out ?_))
    exact ⟨⟨k, m / 128, _, congrArg (Value.int .u64) (by omega), by omega, by have := HM.out; omega, HV2.out, HO3.out, HC3.out⟩, by simp [intOf]; omega⟩

/-! ### eight, key -/
theorem eight_any (w : World) (n : Nat) (hn : n < 9223372036854775808) :
    Calls Tryz.prog 51 #[.int .i64 (n : Int)] w fun e w' => e = .returned (strV (eight n)) ∧ Chg (fun _ => False) w w' := by
  have h0 : (0 : Int) ≤ (n : Int) := by omega
  have h1 : (n : Int) < 9223372036854775808 := by omega
  have hm : (n : Int) % 18446744073709551616 = (n : Int) := by omega
  have HF := Lib.hid (fixed_any w 8 n (Or.inr rfl) (by have : (256 : Nat) ^ 8 = 18446744073709551616 := (by decide); omega))
  rw [eight_be]
  obtain ⟨s, hs⟩ : ∃ s, strV (be 8 n) = .string s := ⟨_, rfl⟩
  rw [hs]
  have HS := Lib.hid hs
  clear hs
  go_enter Tryz.func51, Tryz.ntmps51
  go_wp2_with (first
    | (go_at_call 92; try rw [hm]
       refine HF.out.mono ?_; rintro e w1 ⟨v, rfl, ho, hc⟩
       have hcv : (convert 101 9 v).run Tryz.prog w1 = .ok (.string s) w1 := by
         rw [← HS.out]; exact conv_own ho
       obtain ⟨oa, cap, rfl⟩ := own_slice ho
       have HC := Lib.hid hc
       clear ho hc))
  go_ret
  exact ⟨rfl, HC.out⟩

theorem key_any (w : World) (c : UInt8) (i : Nat) (hi : i < 9223372036854775808) :
    Calls Tryz.prog 94 #[strV [c], .int .i64 (i : Int)] w fun e w' => e = .returned (strV [c, UInt8.ofNat i]) ∧ Chg (fun _ => False) w w' := by
  have h0 : (0 : Int) ≤ (i : Int) := by omega
  have h1 : (i : Int) < 9223372036854775808 := by omega
  have hca : Chg (fun _ => False) w (w.alloc (.cells #[.int .u8 ((i : Int) % 256)] 5)) := (Chg.refl _ _).alloc _
  have hcv : (convert 101 9 (.slice (some ⟨w.heap.size, 0, none⟩) 1 1)).run Tryz.prog (w.alloc (.cells #[.int .u8 ((i : Int) % 256)] 5)) = .ok (strV [UInt8.ofNat i]) (w.alloc (.cells #[.int .u8 ((i : Int) % 256)] 5)) := by
    refine conv_own (b := [UInt8.ofNat i]) (n := 1) (base := 0) ?_
    have := own_of_block (w := w.alloc (.cells #[.int .u8 ((i : Int) % 256)] 5)) (base := 0) (n := 1) at1 (Nat.zero_le _) rfl (by unfold maxLen; omega)
    have e : (i : Int) % 256 = ((UInt8.ofNat i).toNat : Int) := by rw [UInt8.toNat_ofNat']; omega
    rw [e] at this ⊢
    exact this
  have hadd : ∀ s t, strV [c] = .string s → strV [UInt8.ofNat i] = .string t → strV [c, UInt8.ofNat i] = .string (s ++ t) := by
    intro s t hs ht
    have hs' := strV_string [c] s hs
    have ht' := strV_string _ t ht
    subst hs'; subst ht'
    rw [str_append]
    rfl
  obtain ⟨s, hs⟩ : ∃ s, strV [c] = .string s := ⟨_, rfl⟩
  obtain ⟨t, ht⟩ : ∃ t, strV [UInt8.ofNat i] = .string t := ⟨_, rfl⟩
  rw [hadd s t hs ht]
  have hsz : s.size = 1 := str_size [c] s hs
  have htz : t.size = 1 := str_size _ t ht
  rw [ht] at hcv
  rw [hs]
  have HCa := Lib.hid hca
  clear hadd hs ht hca
  go_enter Tryz.func94, Tryz.ntmps94
  go_wp2_with fail
  go_ret
  exact ⟨rfl, HCa.out⟩

end Go.Proofs.YtbjagmlbamjdbaaGreat.roots
end

/-
  GENERAL LEMMAS OF MY OWN: 'm[k] op= v' of a map: the entry is made, then stored.
-/
section
set_option linter.unusedSimpArgs false
set_option linter.unusedVariables false
namespace Go.My
open Go.RowKit Go.Maps Go.MapKept Go.ChangeMaps

section
variable {P : Program} {kt : TypeId} {K V : Type} [DecidableEq K] {E : KeyEnc P kt K} {ev : V → Value} {w : World} {b : Nat} {m : List (K × V)} {t e : TypeId}

theorem MapIs.entry (h : MapIs E ev w b m) (L : WideMaps.KeyLaw P kt) (ht : P.underlying t = some (.map kt e)) (z : V) (hz : ∀ u : World, (zeroValue e).run P u = .ok (ev z) u) (hm : m.length ≤ maxLen) (k : K) (hk : E.ok k) :
    ∃ (v0 : Value) (st : Nat) (ob : Obj) (m1 : List (K × V)), (Instr.mapEntry t (.map (some b)) (E.enc k)).run P w = .ok (.tuple #[v0, goInt st]) (setBlock w b ob) ∧ MapIs E ev (setBlock w b ob) b m1 ∧ (mget m1 k).getD z = (mget m k).getD z ∧
      ∀ (w2 : World) (v : V), w2.heap[b]? = some ob → ∃ ob2, (Instr.entryStore t (.map (some b)) (goInt st) (ev v)).run P w2 = .ok () (setBlock w2 b ob2) ∧ MapIs E ev (setBlock w2 b ob2) b (mput m k v) := by
  have h' := h
  obtain ⟨es, clock, hb, hp, hok, hst⟩ := h
  obtain ⟨l, hl⟩ := E.reads k hk
  have hsz : es.size = m.length := by have := congrArg List.length hp; simpa using this
  have F : WideElems.Fit (H := Unit) P kt (fun _ => some (.nil, [])) es clock := ⟨by omega, hst, fun x hx => by
    obtain ⟨j, hj⟩ := List.getElem?_of_mem hx
    obtain ⟨p, hpj, hkey, -⟩ := pair_at hp hj
    obtain ⟨l', hl'⟩ := E.reads p.1 (hok p (List.mem_of_getElem? hpj))
    exact ⟨_, by unfold WideElems.rd; rw [hkey, hl']; rfl⟩⟩
  obtain ⟨v0, st, es1, clock1, hrun, -, hstore⟩ := WideElems.entry_then_store L ht hz hb F hl
  have hmid : ∃ ob m1 x0, (Instr.mapEntry t (.map (some b)) (E.enc k)).run P w = .ok x0 (setBlock w b ob) ∧ MapIs E ev (setBlock w b ob) b m1 ∧ (mget m1 k).getD z = (mget m k).getD z := by
    rcases MapIs.find w hp hok hst.2.2 k hk with ⟨h1, h2, h3⟩ | ⟨j, e0, v1, h1, h3, h4, h5, h6⟩
    · obtain ⟨o, hu, hM⟩ := h'.put ht k hk z
      refine ⟨o, mput m k z, .tuple #[ev z, goInt clock], ?_, hM, ?_⟩
      · have hu2 : (Instr.mapUpdate t (.map (some b)) (E.enc k) (ev z)).run P w = .ok () (setBlock w b (.map (es.push ⟨E.enc k, ev z, clock⟩) (clock + 1))) := by
          simp [Instr.mapUpdate, run_underlying ht, MapKept.run_getObj_map hb, E.keyed.check w false hl, h1, MapKept.run_setObj_map _ hb, Result.andThen, setBlock]
        rw [hu] at hu2
        have hw : setBlock w b o = setBlock w b (.map (es.push ⟨E.enc k, ev z, clock⟩) (clock + 1)) := by injection hu2
        rw [hw]
        simp [Instr.mapEntry, run_underlying ht, MapKept.run_getObj_map hb, E.keyed.check w false hl, h1, hz, MapKept.run_setObj_map _ hb, Result.andThen, setBlock]
      · rw [mget_mput, if_pos rfl, h2]; rfl
    · have hj : es[j]? = some e0 := by simpa using h3
      have hsame : es.modify j (fun e => { e with key := E.enc k }) = es := by
        apply Array.ext'
        rw [Array.toList_modify, modify_eq_set _ _ _ _ h3]
        have : ({ e0 with key := E.enc k } : MapEntry) = e0 := by rw [← h4]
        rw [this]
        exact WideElems.set_self _ _ _ h3
      refine ⟨.map es clock, m, .tuple #[ev v1, goInt e0.born], ?_, h'.of_eq (by rw [heap_setBlock_same hb, hb]), rfl⟩
      simp [Instr.mapEntry, run_underlying ht, MapKept.run_getObj_map hb, E.keyed.check w false hl, h1, hj, h4, E.keyed.stays w hl, hsame, MapKept.run_setObj_map _ hb, Result.andThen, setBlock]
  obtain ⟨ob, m1, x0, hr1, hM1, hg⟩ := hmid
  rw [hrun] at hr1
  have hw1 : setBlock w b (.map es1 clock1) = setBlock w b ob := by injection hr1
  refine ⟨v0, st, .map es1 clock1, m1, hrun, by rw [hw1]; exact hM1, hg, fun w2 v hw2 => ?_⟩
  obtain ⟨es', clock', hs1, hs2⟩ := hstore w2 (ev v) hw2
  obtain ⟨o, hu, hM⟩ := h'.put ht k hk v
  rw [hu] at hs2
  have hw : setBlock w b o = setBlock w b (.map es' clock') := by injection hs2
  rw [hw] at hM
  exact ⟨.map es' clock', hs1, hM.of_eq (by rw [heap_setBlock_same hw2, heap_setBlock_same hb])⟩

end
end Go.My
end

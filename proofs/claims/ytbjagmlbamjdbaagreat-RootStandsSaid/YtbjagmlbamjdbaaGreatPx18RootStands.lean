/-
  rootdb: Stage that is told without the database.
-/
import Derived.Test.YtbjagmlbamjdbaaGreatPx14RootStands
import Derived.Test.YtbjagmlbamjdbaaGreatPx17RootStands

section
set_option linter.unusedSimpArgs false
set_option linter.unusedVariables false
namespace Go.Proofs.YtbjagmlbamjdbaaGreat.roots
open Go.RowKit Go.Maps Go.My Go.ChangeMaps disks bufs wals kvs
set_option maxRecDepth 100000

variable {w w' : World} {B r kb : Nat} {F : Nat → Prop} {S : RS} {sv wv dv : Value}

def stageE (S : RS) (t : Int) (l : List Pk) : Option Nat := if askF t ≠ 0 then some (askF t) else if rchkF l ≠ 0 then some (rchkF l) else if ∃ n ∈ S.done, (n : Int) = t then some 11 else if (S.staged : Int) = t then some 0 else if S.staged ≠ 0 then some 10 else none

set_option maxHeartbeats 1000000 in
theorem stage_early (w : World) (h : RtIs w B r kb F S sv wv dv) (t : Int) {G : Nat → Prop} {v : Value} {l : List Pk} (hl : PksAt w G v l) (z : Nat) (hz : stageE S t l = some z) :
    Calls Tryz.prog 19 #[.pointer (some ⟨r, 0, none⟩), .int .i64 t, v] w fun e w' => e = .returned (.int .i64 (z : Int)) ∧ Chg (fun _ => False) w w' := by
  have hmf : ∀ (fn : Fn) (first cap : Array Value) (w : World), (Instr.makeFunc fn first cap).run Tryz.prog w = .ok (.func fn first cap) w := fun _ _ _ _ => rfl
  have HA := Lib.hid (asked_is w h t)
  have HK := Lib.hid (check_is w hl)
  obtain ⟨ol, cl, ll, rfl, -⟩ := id hl.is
  obtain ⟨od, cd, rfl, -⟩ := rows_nums h.done
  have HRt := Lib.hid h
  clear h hl
  unfold stageE at hz
  obtain ⟨A, hA⟩ : ∃ A, askF t = A := ⟨_, rfl⟩
  obtain ⟨R, hR⟩ : ∃ R, rchkF l = R := ⟨_, rfl⟩
  obtain ⟨N, hN⟩ : ∃ N, l.length = N := ⟨_, rfl⟩
  rw [hA, hR] at hz
  rw [hA] at HA
  rw [hR, hN] at HK
  rw [hN]
  clear hA hR hN
  by_cases a0 : A = 0
  · subst a0
    rw [if_neg (by simp)] at hz
    by_cases r0 : R = 0
    · subst r0
      rw [if_neg (by simp)] at hz
      by_cases hd : ∃ n ∈ S.done, (n : Int) = t
      · rw [if_pos hd] at hz
        cases hz
        have HDec := Lib.hid (decide_eq_true hd)
        clear hd
        go_enter Tryz.func19, Tryz.ntmps19
        go_wp2_with (first
          | (go_at_call 49; refine HA.out.mono ?_; rintro e w' ⟨rfl, rfl⟩)
          | (go_at_call 10; refine HK.out.mono ?_; rintro e w1 ⟨rfl, hc1⟩
             have HR1 := Lib.hid (HRt.out.fresh hc1)
             have HC1 := Lib.hid hc1
             have c2 : w1.cell? ⟨r, 2, none⟩ = some (.int .i64 (S.staged : Int)) := cell_of_block HR1.out.head rfl
             have c4 : w1.cell? ⟨r, 4, none⟩ = some (.slice od S.done.length cd) := cell_of_block HR1.out.head rfl
             clear hc1)
          | (go_at_call 50; refine (has_is _ (SlAt.of_own HR1.out.done : NumsAt _ _ S.done) (by have := HR1.out.few.2.2; omega) t).mono ?_; rw [HDec.out]; rintro e w' ⟨rfl, rfl⟩))
        go_ret
        exact ⟨rfl, HC1.out⟩
      · rw [if_neg hd] at hz
        have HDec := Lib.hid (decide_eq_false hd)
        clear hd
        by_cases hs : (S.staged : Int) = t
        · rw [if_pos hs] at hz
          cases hz
          have hsb : ((S.staged : Int) == t) = true := by simpa using hs
          go_enter Tryz.func19, Tryz.ntmps19
          go_wp2_with (first
            | (go_at_call 49; refine HA.out.mono ?_; rintro e w' ⟨rfl, rfl⟩)
            | (go_at_call 10; refine HK.out.mono ?_; rintro e w1 ⟨rfl, hc1⟩
               have HR1 := Lib.hid (HRt.out.fresh hc1)
               have HC1 := Lib.hid hc1
               have c2 : w1.cell? ⟨r, 2, none⟩ = some (.int .i64 (S.staged : Int)) := cell_of_block HR1.out.head rfl
               have c4 : w1.cell? ⟨r, 4, none⟩ = some (.slice od S.done.length cd) := cell_of_block HR1.out.head rfl
               clear hc1)
            | (go_at_call 50; refine (has_is _ (SlAt.of_own HR1.out.done : NumsAt _ _ S.done) (by have := HR1.out.few.2.2; omega) t).mono ?_; rw [HDec.out]; rintro e w' ⟨rfl, rfl⟩))
          go_ret
          exact ⟨rfl, HC1.out⟩
        · rw [if_neg hs] at hz
          have hsb : ((S.staged : Int) == t) = false := by simpa using hs
          by_cases h0 : S.staged = 0
          · rw [if_neg (by simpa using h0)] at hz
            cases hz
          · rw [if_pos h0] at hz
            cases hz
            have h0b : ((S.staged : Int) != 0) = true := by simpa using h0
            go_enter Tryz.func19, Tryz.ntmps19
            go_wp2_with (first
              | (go_at_call 49; refine HA.out.mono ?_; rintro e w' ⟨rfl, rfl⟩)
              | (go_at_call 10; refine HK.out.mono ?_; rintro e w1 ⟨rfl, hc1⟩
                 have HR1 := Lib.hid (HRt.out.fresh hc1)
                 have HC1 := Lib.hid hc1
                 have c2 : w1.cell? ⟨r, 2, none⟩ = some (.int .i64 (S.staged : Int)) := cell_of_block HR1.out.head rfl
                 have c4 : w1.cell? ⟨r, 4, none⟩ = some (.slice od S.done.length cd) := cell_of_block HR1.out.head rfl
                 clear hc1)
              | (go_at_call 50; refine (has_is _ (SlAt.of_own HR1.out.done : NumsAt _ _ S.done) (by have := HR1.out.few.2.2; omega) t).mono ?_; rw [HDec.out]; rintro e w' ⟨rfl, rfl⟩))
            go_ret
            exact ⟨rfl, HC1.out⟩
    · rw [if_pos r0] at hz
      have a1 : ((R : Int) != 0) = true := by simpa using r0
      have a2 : ¬ (R : Int) = 0 := by omega
      cases hz
      have HDec := Lib.hid (show (true : Bool) = true from rfl)
      go_enter Tryz.func19, Tryz.ntmps19
      go_wp2_with (first
        | (go_at_call 49; refine HA.out.mono ?_; rintro e w' ⟨rfl, rfl⟩)
        | (go_at_call 10; refine HK.out.mono ?_; rintro e w1 ⟨rfl, hc1⟩
           have HR1 := Lib.hid (HRt.out.fresh hc1)
           have HC1 := Lib.hid hc1
           have c2 : w1.cell? ⟨r, 2, none⟩ = some (.int .i64 (S.staged : Int)) := cell_of_block HR1.out.head rfl
           have c4 : w1.cell? ⟨r, 4, none⟩ = some (.slice od S.done.length cd) := cell_of_block HR1.out.head rfl
           clear hc1)
        | (go_at_call 50; refine (has_is _ (SlAt.of_own HR1.out.done : NumsAt _ _ S.done) (by have := HR1.out.few.2.2; omega) t).mono ?_; rw [HDec.out]; rintro e w' ⟨rfl, rfl⟩))
      go_ret
      exact ⟨rfl, HC1.out⟩
  · rw [if_pos a0] at hz
    have a1 : ((A : Int) != 0) = true := by simpa using a0
    have a2 : ¬ (A : Int) = 0 := by omega
    cases hz
    have HDec := Lib.hid (show (true : Bool) = true from rfl)
    go_enter Tryz.func19, Tryz.ntmps19
    go_wp2_with (first
      | (go_at_call 49; refine HA.out.mono ?_; rintro e w' ⟨rfl, rfl⟩)
      | (go_at_call 10; refine HK.out.mono ?_; rintro e w1 ⟨rfl, hc1⟩
         have HR1 := Lib.hid (HRt.out.fresh hc1)
         have HC1 := Lib.hid hc1
         have c2 : w1.cell? ⟨r, 2, none⟩ = some (.int .i64 (S.staged : Int)) := cell_of_block HR1.out.head rfl
         have c4 : w1.cell? ⟨r, 4, none⟩ = some (.slice od S.done.length cd) := cell_of_block HR1.out.head rfl
         clear hc1)
      | (go_at_call 50; refine (has_is _ (SlAt.of_own HR1.out.done : NumsAt _ _ S.done) (by have := HR1.out.few.2.2; omega) t).mono ?_; rw [HDec.out]; rintro e w' ⟨rfl, rfl⟩))
    go_ret
    exact ⟨rfl, Chg.refl _ _⟩

end Go.Proofs.YtbjagmlbamjdbaaGreat.roots
end

/-
  kv: Do, Compact over a disk on which records stand.
-/
section
set_option linter.unusedSimpArgs false
set_option linter.unusedVariables false
namespace Go.Proofs.YtbjagmlbamjdbaaGreat.kvs
open Go.RowKit Go.Maps Go.My Go.ChangeMaps disks bufs wals
set_option maxRecDepth 100000

variable {w w' : World} {P : Nat → Prop} {b l q d s a : Nat} {X X' : DV} {V V' : LV} {m m' mm : List KV} {recs : List Txt}

theorem allB_two : ∀ (l : List PV), (∀ p ∈ l, p.may = true) → 2 * l.length ≤ (allB l).length
  | [], _ => Nat.zero_le _
  | p :: l, h => by
    have h1 := (bytes_length p (h p (by simp))).1
    have h2 := allB_two l (fun q hq => h q (by simp [hq]))
    have e : allB (p :: l) = p.bytes ++ allB l := by simp [allB]
    rw [e, List.length_append, List.length_cons]
    omega

/-- A map that records tell is small. -/
theorem Rep.len2 (h : Rep recs m) : 2 * m.length ≤ sizeB recs := by
  obtain ⟨bs, h1, h2, h3⟩ := h.bs
  have hp := perm_of_get (applyF_nodup nodup_nil bs.flatten) h.nd h3
  have h4 := applyF_len bs.flatten []
  rw [hp.length_eq] at h4
  have h5 : ∀ bs : List (List PV), (∀ b ∈ bs, Fits b) → 2 * bs.flatten.length ≤ sizeB (bs.map (fun b => (encF b).1)) := by
    intro bs
    induction bs with
    | nil => intro _; exact Nat.zero_le _
    | cons b bs ih =>
      intro h2
      have hb := h2 b (by simp)
      have e2 := allB_two b hb.may
      have e3 := ih (fun c hc => h2 c (by simp [hc]))
      have e4 : sizeB ((b :: bs).map (fun b => (encF b).1)) = ((encF b).1.length + 8) + sizeB (bs.map (fun b => (encF b).1)) := by simp [sizeB]
      have e5 : (encF b).1.length = 1 + (allB b).length := by rw [hb.enc.1]; exact hb.enc.2
      rw [e4, e5, List.flatten_cons, List.length_append]
      omega
  have h6 := h5 bs h2
  rw [h1]
  simp only [List.length_nil] at h4
  omega
theorem Stands.small {X : DV} (h : Stands X recs s a) : sizeB recs ≤ 131008 := by
  have h1 := h.fits
  rw [framesB_length] at h1
  have := areaN_le h.idle.le
  omega
theorem Rep.few (h : Rep recs m) (hs : Stands X recs s a) : m.length ≤ 65504 := by have := h.len2; have := Stands.small hs; omega

/-- What a call that writes leaves: done, refused, or cut off. -/
inductive Out (X : DV) (recs : List Txt) (s a : Nat) (m mm : List KV) (why : Int → Prop) : Int → DV → LV → List KV → Prop
  | done {X' : DV} {recs' : List Txt} {s' a' : Nat} (h1 : s ≤ s') (h2 : s' ≤ s + 1) (h3 : Stands X' recs' s' a') (h4 : Rep recs' mm) (h5 : Goes X X') (h6 : X'.B.length = X.B.length) : Out X recs s a m mm why 0 X' (lvW recs' s' a' []) mm
  | refused {z : Int} (h1 : why z) (h2 : z = 2 ∨ z = 3 ∨ z = 7) : Out X recs s a m mm why z X (lvW recs s a []) m
  | cut {X' : DV} {V' : LV} (h1 : X.fuse ≠ -1) (h2 : X'.down = true) (h3 : Goes X X') (h4 : X'.B.length = X.B.length) (h5 : ∀ j, (X'.L j).length ≤ 1) (h6 : V'.lost = true) (h7 : V'.Ok X'.B.length)
      (h8 : ∀ keep, ∃ recs' s' a', s ≤ s' ∧ s' ≤ s + 1 ∧ Stands (X'.crash keep) recs' s' a' ∧ (Rep recs' m ∨ Rep recs' mm)) : Out X recs s a m mm why 15 X' V' m

theorem Out.free {why : Int → Prop} {z : Int} (h : Out X recs s a m mm why z X' V' m') (hf : X.fuse = -1) (hs : Stands X recs s a) (hr : Rep recs m) :
    ∃ recs' s' a', V' = lvW recs' s' a' [] ∧ s ≤ s' ∧ s' ≤ s + 1 ∧ Stands X' recs' s' a' ∧ Rep recs' m' ∧ X'.fuse = -1 ∧ X'.B.length = X.B.length ∧ ((z = 0 ∧ m' = mm) ∨ (why z ∧ (z = 2 ∨ z = 3 ∨ z = 7) ∧ m' = m)) := by
  cases h with
  | done h1 h2 h3 h4 h5 h6 => exact ⟨_, _, _, rfl, h1, h2, h3, h4, h5.free hf, h6, Or.inl ⟨rfl, rfl⟩⟩
  | refused h1 h2 => exact ⟨_, _, _, rfl, Nat.le_refl _, Nat.le_succ _, hs, hr, hf, rfl, Or.inr ⟨h1, h2, rfl⟩⟩
  | cut h1 => exact absurd hf h1

theorem lost_ok {n : Nat} {V : LV} (h : V.Ok n) : ({ V with lost := true } : LV).Ok n := ⟨h.ge, h.le, h.seq, h.area, h.fit, h.used, h.more, h.tail, h.short⟩

/-- Reset to what tells the map mm. -/
theorem reset_out {m1 : List KV} {k : Nat} (hs : Stands X recs s a) (h60 : s ≤ 1152921504606846976) {recs2 : List Txt} (hr2 : Rep recs2 mm) (hsh : ∀ r ∈ recs2, r.length ≤ 4096) {why : Int → Prop} (hw : 64 * areaN X.B.length < sizeB recs2 → why 7) (hr : Rep recs m) (hk : (resetF X (lvW recs s a []) recs2).1 = 0 → m1 = mm) (hk' : (resetF X (lvW recs s a []) recs2).1 ≠ 0 → m1 = m) (_ : k = 0) :
    Out X recs s a m mm why (resetF X (lvW recs s a []) recs2).1 (resetF X (lvW recs s a []) recs2).2.1 (resetF X (lvW recs s a []) recs2).2.2 m1 := by
  have hfit := hs.fits
  rcases reset_lv hs (recs2 := recs2) (wait := []) _ rfl with ⟨h1, -⟩ | ⟨-, ⟨r, h1, h2⟩, -⟩ | ⟨-, -, h0, h1⟩ | ⟨-, -, -, g, hl, h1⟩
  · exact absurd rfl h1
  · have := hsh r h1; omega
  · rw [h1] at hk' ⊢
    rw [hk' (show (7 : Int) ≠ 0 by decide)]
    exact Out.refused (hw h0) (by omega)
  · rcases h1 with ⟨e1, e2, e3⟩ | ⟨e1, e2, e3, e4, e5, e6⟩
    · rw [hk e1, e1, e3]
      exact Out.done (by omega) (Nat.le_refl _) e2 hr2 g hl
    · rw [hk' (by rw [e1]; decide), e1]
      refine Out.cut e2 e3 g hl e4 (by rw [e5]) (by rw [e5, hl]; exact lost_ok (lvW_ok hs h60 (by simp) (by show _ + 0 ≤ _; omega))) (fun keep => ?_)
      rcases e6 keep with h | h
      · exact ⟨_, _, _, Nat.le_refl _, Nat.le_succ _, h, Or.inl hr⟩
      · exact ⟨_, _, _, Nat.le_succ _, Nat.le_refl _, h, Or.inr hr2⟩

/-- Why Do refuses. -/
def DoWhy (X : DV) (m : List KV) (ps : List PV) (z : Int) : Prop := (z = (encF ps).2 ∧ (encF ps).2 ≠ 0) ∨ (z = 7 ∧ (encF ps).2 = 0 ∧ 64 * areaN X.B.length < sizeB (snapF (applyF (sortF m) ps)))

theorem encF_err (ps : List PV) : (encF ps).2 = 0 ∨ (encF ps).2 = 2 ∨ (encF ps).2 = 3 := by
  unfold encF
  split
  · exact Or.inr (Or.inl rfl)
  · split
    · exact Or.inr (Or.inr rfl)
    · split
      · exact Or.inr (Or.inr rfl)
      · exact Or.inl rfl

theorem do_lv (w : World) (h : KAt P w b l q d X (lvW recs s a []) m) (hs : Stands X recs s a) (h60 : s ≤ 1152921504606846976) (hr : Rep recs m) (hf : X.fuse ≤ 9223372036854775807) {B : Nat} {v : Value} {ps : List PV} (hp : Puts w B v ps) (hl : ps.length ≤ 1000000) (hv : Far P w q v) :
    Calls Tryz.prog 33 #[.pointer (some ⟨b, 0, none⟩), v] w fun e w' => ∃ z X' V' m', e = .returned (.int .i64 z) ∧ KPost P w w' b l q d X' V' m' ∧ Out X recs s a m (applyF m ps) (DoWhy X m ps) z X' V' m' := by
  have hfit := hs.fits
  have hok := lvW_ok hs h60 (wait := []) (by simp) (by show _ + 0 ≤ _; omega)
  have hL : ∀ j, (X.L j).length < 500000 := fun j => by rw [hs.idle.L]; simp
  have hm := hr.few hs
  have hnd : NoDup m := h.db.map.nodup
  by_cases he : (encF ps).2 = 0
  · obtain ⟨t, ht⟩ : ∃ t, encF ps = (t, 0) := ⟨(encF ps).1, by rw [← he]⟩
    have hft := Fits.of ht
    have htl := (encF_ok ht).2.2.2.2
    have hadd := add_lv (n := X.B.length) (recs := recs) (wait := []) (s := s) (a := a) t
    rw [if_neg (by omega)] at hadd
    by_cases hroom : roomF X.B.length (lvW recs s a []) < (t.length : Int) + 8
    · rw [if_pos hroom] at hadd
      refine (do_full w h hok hf hL hr.may (by omega) hp hl hv ht hadd).mono ?_
      rintro e w' ⟨rfl, hk⟩
      have hns : NoDup (sortF m) := (sortF_asc hnd).nodup
      have hna : NoDup (applyF (sortF m) ps) := applyF_nodup hns ps
      have hma : Mays (applyF (sortF m) ps) := mays_apply (hr.may.perm (sortF_perm m).symm) ps hft.may
      refine ⟨_, _, _, _, rfl, hk, reset_out hs h60 ((Rep.snap hna hma).same (applyF_nodup hnd ps) (applyF_get (sortF_get hnd) ps)) (snap_short hna hma) (fun h => Or.inr ⟨rfl, he, h⟩) hr (fun h => if_pos h) (fun h => if_neg h) rfl⟩
    · rw [if_neg hroom] at hadd
      have hfit2 : (framesB recs).length + sizeB ([] ++ [t]) ≤ 64 * areaN X.B.length := by
        have e1 : sizeB ([] ++ [t]) = t.length + 8 := by simp [sizeB]
        rw [e1]
        have e2 : roomF X.B.length (lvW recs s a []) = 64 * (areaN X.B.length : Int) - ((framesB recs).length : Nat) - (0 : Nat) := rfl
        rw [e2] at hroom
        omega
      refine (do_add w h hok hf hL hp hl hv ht hadd (lvW_ok hs h60 (by simpa using htl) hfit2)).mono ?_
      rintro e w' ⟨rfl, hk⟩
      have hpush := hr.push hft
      rw [ht] at hpush
      obtain ⟨g, hbl, hsy⟩ := sync_lv hs (by simpa using htl) hfit2 _ rfl
      refine ⟨_, _, _, _, rfl, hk, ?_⟩
      rcases hsy with ⟨e1, s', h1, h2, h3, h4⟩ | ⟨e1, h2, h3, h4, h5, h6⟩
      · rw [if_pos e1, e1, h4]
        exact Out.done h1 h2 h3 hpush g hbl
      · rw [if_neg (by rw [e1]; decide), e1]
        refine Out.cut h2 h3 g hbl h4 (by rw [h5]) (by rw [h5, hbl]; exact lost_ok (lvW_ok hs h60 (by simpa using htl) hfit2)) (fun keep => ?_)
        rcases h6 keep with h | h
        · exact ⟨_, _, _, Nat.le_refl _, Nat.le_succ _, h, Or.inl hr⟩
        · exact ⟨_, _, _, Nat.le_succ _, Nat.le_refl _, h, Or.inr hpush⟩
  · refine (do_refuse w h hp hl he).mono ?_
    rintro e w' ⟨rfl, hk⟩
    have := encF_err ps
    exact ⟨_, _, _, _, rfl, hk, Out.refused (Or.inl ⟨rfl, he⟩) (by omega)⟩

end Go.Proofs.YtbjagmlbamjdbaaGreat.kvs
end

/-
  kv: Open of a disk on which records stand.
-/
section
set_option linter.unusedSimpArgs false
set_option linter.unusedVariables false
namespace Go.Proofs.YtbjagmlbamjdbaaGreat.kvs
open Go.RowKit Go.Maps Go.My Go.ChangeMaps disks bufs wals
set_option maxRecDepth 100000

variable {w w' : World} {P : Nat → Prop} {b l q d s a : Nat} {X X' : DV} {V V' : LV} {m m' mm : List KV} {recs : List Txt}

/-- Records tell one map. -/
theorem Rep.unique (h : Rep recs m) (h' : Rep recs m') : ∀ k, mget m k = mget m' k := by
  obtain ⟨bs, h1, h2, h3⟩ := h.bs
  obtain ⟨cs, k1, k2, k3⟩ := h'.bs
  have e : bs = cs := by
    rw [h1] at k1
    clear h h' h1 h3 k3
    induction bs generalizing cs with
    | nil => cases cs with
      | nil => rfl
      | cons c cs => simp at k1
    | cons b bs ih => cases cs with
      | nil => simp at k1
      | cons c cs =>
        rw [List.map_cons, List.map_cons, List.cons.injEq] at k1
        have e1 := dec_enc (h2 b (by simp)).enc.1
        have e2 := dec_enc (k2 c (by simp)).enc.1
        have e3 : varB b.length ++ allB b = varB c.length ++ allB c := by
          have h1 := (h2 b (by simp)).enc.1
          have h2 := (k2 c (by simp)).enc.1
          rw [h1, h2] at k1
          exact k1.1
        rw [e3, e2] at e1
        rw [Option.some.injEq] at e1
        rw [e1, ih (fun x hx => h2 x (by simp [hx])) cs k1.2 (fun x hx => k2 x (by simp [hx]))]
  subst e
  exact fun k => (h3 k).symm.trans (k3 k)

/-- What each record is read as. -/
theorem Rep.reads (h : Rep recs m) : ∃ bs : List (List PV), recs.length = bs.length ∧ (∀ (i : Nat) r, recs[i]? = some r → ∃ b, bs[i]? = some b ∧ decF r = some b ∧ Fits b ∧ r.length ≤ 4096) ∧ NoDup (applyF [] bs.flatten) ∧ ∀ k, mget (applyF [] bs.flatten) k = mget m k := by
  obtain ⟨bs, h1, h2, h3⟩ := h.bs
  refine ⟨bs, by rw [h1, List.length_map], fun i r hr => ?_, applyF_nodup nodup_nil _, h3⟩
  rw [h1, List.getElem?_map] at hr
  cases hb : bs[i]? with
  | none => rw [hb] at hr; cases hr
  | some b =>
    rw [hb] at hr
    cases hr
    have hf := h2 b (List.mem_of_getElem? hb)
    refine ⟨b, rfl, ?_, hf, ?_⟩
    · show decF (encF b).1 = some b
      rw [hf.enc.1]
      exact dec_enc hf.enc.1
    · show (encF b).1.length ≤ 4096
      rw [hf.enc.1]
      have := hf.short
      have := hf.enc.2
      simp only
      omega

/-- What Open hands back. -/
structure Opened (P : Nat → Prop) (w w' : World) (b d : Nat) (Q : DV → List Txt → Nat → Nat → Prop) : Prop where
  at' : ∃ l q m X recs s a P', KAt P' w' b l q d X (lvW recs s a []) m ∧ Rep recs m ∧ Q X recs s a ∧ (∀ k, P' k → P k ∨ w.heap.size ≤ k) ∧ w.heap.size ≤ q
  new : w.heap.size ≤ b
  chg : Chg P w w'

theorem flat_take {bs : List (List PV)} {k : Nat} {b : List PV} (h : bs[k]? = some b) : applyF (applyF [] (bs.take k).flatten) b = applyF [] (bs.take (k + 1)).flatten := by
  rw [List.take_add_one, h, Option.toList_some, List.flatten_append, applyF_append]
  simp

set_option maxHeartbeats 2000000 in
theorem open_kv (w : World) (hP : ∀ k, P k → k < w.heap.size) {Q : DV → List Txt → Nat → Nat → Prop}
    (ho : Calls Tryz.prog 58 #[.pointer (some ⟨d, 0, none⟩)] w fun e w' => ∃ l X' recs s a, e = .returned (.tuple #[.pointer (some ⟨l, 0, none⟩), .int .i64 0]) ∧ WAt P w w' l d X' (lvW recs s a []) ∧ Q X' recs s a)
    (hq : ∀ X' recs s a, Q X' recs s a → Stands X' recs s a ∧ ∃ m, Rep recs m) :
    Calls Tryz.prog 31 #[.pointer (some ⟨d, 0, none⟩)] w fun e w' => ∃ b, e = .returned (.tuple #[.pointer (some ⟨b, 0, none⟩), .int .i64 0]) ∧ Opened P w w' b d Q := by
  have HO := Lib.hid ho
  have HQ := Lib.hid hq
  have HPl := Lib.hid hP
  clear ho hq hP
  have hmm := @run_makeMap Tryz.prog
  go_enter Tryz.func31, Tryz.ntmps31
  go_wp2_with (first
    | (go_at_call 58; fail))
  refine HO.out.mono ?_
  rintro e w1 ⟨l, X', recs, s, a, rfl, hw1, hQ⟩
  obtain ⟨hst, m, hrep⟩ := HQ.out _ _ _ _ hQ
  have hsm : recs.length ≤ 131008 := by have := Stands.small hst; have := sizeB_ge recs; omega
  obtain ⟨bs, b1, b2, b3, b4⟩ := hrep.reads
  obtain ⟨w2, hw2⟩ : ∃ w2, (w1.alloc (.map #[] 0)).alloc (.cells #[.pointer (some ⟨l, 0, none⟩), .map (some w1.heap.size)] 118) = w2 := ⟨_, rfl⟩
  have hc2 : Chg (fun _ => False) w1 w2 := by rw [← hw2]; exact ((Chg.refl _ _).alloc _).alloc _
  have hsz2 : w2.heap.size = w1.heap.size + 1 + 1 := by rw [← hw2, World.size_alloc, World.size_alloc]
  have hdb : DbIs w2 (w1.heap.size + 1) l w1.heap.size [] := by
    have e1 : (w1.alloc (.map #[] 0)).heap.size = w1.heap.size + 1 := World.size_alloc _ _
    refine ⟨?_, ?_⟩
    · rw [← hw2, ← e1]
      exact block_alloc_new _ _
    · rw [← hw2]
      exact (MapIs.made sKey strV (block_alloc_new _ _) : MapAt (w1.alloc (.map #[] 0)) w1.heap.size []).kept ((Chg.refl (fun _ => False) _).alloc _) id
  have hk2 : KAt (NowP P w w1) w2 (w1.heap.size + 1) l w1.heap.size d X' (lvW recs s a []) [] :=
    ⟨wat_again hw1.now hc2, hdb, fun h => by have := h.2; omega, fun h => by have := h.2; omega, fun k hk => by have := hk.2; omega⟩
  have hcw : Chg P w w2 := hw1.chg.trans' (hc2.mono (fun _ _ e => e.elim))
  have HK2 := Lib.hid hk2
  have HCw := Lib.hid hcw
  have HSz := Lib.hid (And.intro hsz2 hw1.chg.size)
  have HW2 := Lib.hid hw2
  have HRp := Lib.hid (And.intro hrep hQ)
  have HB := Lib.hid (And.intro b1 (And.intro b2 (And.intro b3 b4)))
  have HSm := Lib.hid hsm
  have HRec := Lib.hid (show Calls Tryz.prog 59 #[.pointer (some ⟨l, 0, none⟩)] w2 fun e w' => ∃ v, e = .returned v ∧ w'.ownsRow w2.heap.size 9 1 v recs.length (recs.map strV) ∧ Chg (fun _ => False) w2 w' from wat_records hk2.log hsm)
  clear hw1 hQ hst hrep hsm b1 b2 b3 b4 hc2 hdb hk2 hcw hsz2 hw2 HO
  dsimp only
  go_wp2_with (first
    | (go_at_call 59; fail))
  rw [HW2.out]
  refine HRec.out.mono ?_
  rintro e w3 ⟨v3, rfl, ho3, hc3⟩
  obtain ⟨oa3, cap3, rfl⟩ := own_slice ho3
  obtain ⟨b, hb⟩ : ∃ b, w1.heap.size + 1 = b := ⟨_, rfl⟩
  obtain ⟨q, hq⟩ : ∃ q, w1.heap.size = q := ⟨_, rfl⟩
  have hk3 := HK2.out.fresh hc3
  rw [hb, hq] at hk3
  have HK3 := Lib.hid hk3
  have HO3 := Lib.hid ho3
  have HC3 := Lib.hid hc3
  have HQ2 := Lib.hid (show q < w2.heap.size by rw [← hq]; have := HSz.out.1; omega)
  have HBq := Lib.hid (show w.heap.size ≤ b ∧ w.heap.size ≤ q ∧ w.heap.size ≤ w3.heap.size by rw [← hq, ← hb]; have := HSz.out.1; have := HSz.out.2; have := hc3.size; exact ⟨by omega, by omega, by omega⟩)
  have hsmi : (recs.length : Int) ≤ 131008 := by have := HSm.out; omega
  rw [hb, hq]
  clear hc3 ho3 hk3 HRec HK2 HW2 hb hq HSz
  dsimp only
  go_wp2_with fail
  go_loopw [26] (fun j wr => ∃ k : Nat, j = .int .i64 k ∧ k ≤ recs.length ∧ KAt (NowP P w w1) wr b l q d X' (lvW recs s a []) (applyF [] (bs.take k).flatten) ∧ Chg (· = q) w3 wr) (fun j _ => recs.length - (intOf j).toNat)
  · exact ⟨0, rfl, Nat.zero_le _, HK3.out, Chg.refl _ _⟩
  obtain ⟨k, rfl, hk, hkat, hc⟩ := hrel
  have HKr := Lib.hid hkat
  have HCr := Lib.hid hc
  clear hkat hc
  by_cases hlt : k < recs.length
  · have hki : (k : Int) < (recs.length : Int) := by omega
    obtain ⟨r, hr⟩ : ∃ r, recs[k]? = some r := ⟨recs[k], List.getElem?_eq_getElem hlt⟩
    obtain ⟨bt, hb1, hb2, hb3, hb4⟩ := HB.out.2.1 k r hr
    obtain ⟨g, rfl, hg1, hg2, hcell⟩ := row_cell HO3.out hr
    have d0 := hcell (· = q) wr HCr.out (fun e => by have := HQ2.out; have e : g = q := e; omega)
    have hdec := decode_any wr r (by omega)
    rw [hb2] at hdec
    obtain ⟨sr, hsr⟩ : ∃ s : ByteArray, strV r = .string s := ⟨_, rfl⟩
    rw [hsr] at d0 hdec
    have HDec := Lib.hid hdec
    have HBt := Lib.hid (And.intro hb1 hb3)
    clear hdec hsr hb1 hb2 hb3 hb4 hcell hr hg1 hg2
    go_wp2_with (first
      | (go_at_call 60; refine HDec.out.mono ?_; rintro e w4 ⟨v4, er, rfl, ⟨hp4, rfl⟩, hc4⟩
         have hk4 := HKr.out.fresh hc4
         have c1 := cell_of_block (i := 1) hk4.db.head rfl
         have HK4 := Lib.hid hk4
         have HP4 := Lib.hid hp4
         have HC4 := Lib.hid hc4
         clear hk4 hp4 hc4)
      | (go_at_call 61; refine (apply_any _ HK4.out.db.map HP4.out (fun p hp => by have := (may_key (HBt.out.2.may p hp)).2.1; unfold maxLen; omega) (by have := HBt.out.2.few; omega)).mono ?_; rintro e w5 ⟨rfl, hm5, hc5⟩
         have HM5 := Lib.hid hm5
         have HC5 := Lib.hid hc5
         clear hm5 hc5))
    refine ⟨⟨k + 1, by go_num, hlt, ?_, (HCr.out.trans' (HC4.out.mono (fun _ _ e => e.elim))).trans' HC5.out⟩, by simp [intOf]; omega⟩
    have := HM5.out
    rw [flat_take HBt.out.1] at this
    exact HK4.out.put HC5.out this
  · have hki : ¬ (k : Int) < (recs.length : Int) := by omega
    obtain rfl : k = recs.length := by omega
    have hkr := HKr.out
    rw [List.take_of_length_le (Nat.le_of_eq HB.out.1.symm)] at hkr
    have HKe := Lib.hid hkr
    clear hkr
    go_wp2_with fail
    go_ret2
    refine ⟨_, rfl, ⟨l, q, _, X', recs, s, a, _, HKe.out, HRp.out.1.same HB.out.2.2.1 (fun k => (HB.out.2.2.2 k).symm), HRp.out.2, fun k hk => hk.1, ?_⟩, ?_, ?_⟩
    · exact HBq.out.2.1
    · exact HBq.out.1
    · refine (HCw.out.trans' (HC3.out.mono (fun _ _ e => e.elim))).trans HCr.out (fun i hi e => ?_)
      have := HBq.out.2.1
      have e : i = q := e
      omega

end Go.Proofs.YtbjagmlbamjdbaaGreat.kvs
end

/-
  kv: a law's database: all of it new since the law began.
-/
section
set_option linter.unusedSimpArgs false
set_option linter.unusedVariables false
namespace Go.Proofs.YtbjagmlbamjdbaaGreat.kvs
open Go.RowKit Go.Maps Go.My Go.ChangeMaps disks bufs wals
set_option maxRecDepth 100000

variable {W w w' : World} {P : Nat → Prop} {b l q d s a : Nat} {X X' : DV} {V V' : LV} {m m' mm : List KV} {recs : List Txt}

/-- A law's database: its blocks are new since W; nothing older has changed. -/
structure KS (P : Nat → Prop) (W w : World) (b l q d : Nat) (X : DV) (V : LV) (m : List KV) : Prop where
  at' : KAt P w b l q d X V m
  new : ∀ k, P k → W.heap.size ≤ k
  nb : W.heap.size ≤ b
  nq : W.heap.size ≤ q
  chg : Chg (fun _ => False) W w
/-- A block beside the database's. -/
def Beside (P : Nat → Prop) (q : Nat) (w : World) (g : Nat) : Prop := ¬ P g ∧ g ≠ q ∧ g < w.heap.size

theorem Beside.fresh {g : Nat} (h : Beside P q w g) (hc : Chg (fun _ => False) w w') : Beside P q w' g := ⟨h.1, h.2.1, Nat.lt_of_lt_of_le h.2.2 hc.size⟩
theorem KS.fresh (h : KS P W w b l q d X V m) (hc : Chg (fun _ => False) w w') : KS P W w' b l q d X V m := ⟨h.at'.fresh hc, h.new, h.nb, h.nq, h.chg.trans' hc⟩
/-- A block that is made is beside it. -/
theorem KS.made (h : KS P W w b l q d X V m) {g : Nat} (hg : w.heap.size ≤ g) (hw : g < w'.heap.size) : Beside P q w' g := ⟨fun hp => by have := h.at'.lt g hp; omega, fun e => by have := h.at'.db.ltq; omega, hw⟩
theorem KS.old (h : KS P W w b l q d X V m) {g : Nat} (hg : g < W.heap.size) : Beside P q w g := ⟨fun hp => by have := h.new g hp; omega, fun e => by have := h.nq; omega, Nat.lt_of_lt_of_le hg h.chg.size⟩

/-- Behind a call. -/
structure KNext (P : Nat → Prop) (W w w' : World) (b l q d : Nat) (X : DV) (V : LV) (m : List KV) (P' : Nat → Prop) : Prop where
  ks : KS P' W w' b l q d X V m
  off : ∀ g, Beside P q w g → Beside P' q w' g
  chg : Chg (fun k => P k ∨ k = q) w w'
theorem KS.post (h : KS P W w b l q d X V m) (k : KPost P w w' b l q d X' V' m') : ∃ P', KNext P W w w' b l q d X' V' m' P' := by
  obtain ⟨⟨P', h1, h2⟩, h3⟩ := k
  refine ⟨P', ⟨h1, fun j hj => (h2 j hj).elim (h.new j) (fun e => Nat.le_trans h.chg.size e), h.nb, h.nq, h.chg.new h3 (fun j hj => hj.elim (h.new j) (fun e => by rw [e]; exact h.nq))⟩, fun g hg => ⟨fun hp => (h2 g hp).elim hg.1 (fun e => by have := hg.2.2; omega), hg.2.1, Nat.lt_of_lt_of_le hg.2.2 h3.size⟩, h3⟩
theorem KNext.keep {P' : Nat → Prop} (h : KNext P W w w' b l q d X V m P') {g2 : Nat} {m2 : List KV} (hb : Beside P q w g2) (hm : MapAt w g2 m2) : MapAt w' g2 m2 := hm.kept h.chg (fun e => e.elim hb.1 hb.2.1)
theorem KNext.puts {P' : Nat → Prop} (h : KNext P W w w' b l q d X V m P') {B : Nat} {v : Value} {ps : List PV} (hb : ∀ g, v.ownBlock = some g → Beside P q w g) (hp : Puts w B v ps) : Puts w' B v ps := hp.kept h.chg (fun g hg e => e.elim (hb g hg).1 (hb g hg).2.1)

theorem ks_do (w : World) (h : KS P W w b l q d X (lvW recs s a []) m) (hs : Stands X recs s a) (h60 : s ≤ 1152921504606846976) (hr : Rep recs m) (hf : X.fuse ≤ 9223372036854775807) {B : Nat} {v : Value} {ps : List PV} (hp : Puts w B v ps) (hl : ps.length ≤ 1000000) (hv : ∀ g, v.ownBlock = some g → Beside P q w g) :
    Calls Tryz.prog 33 #[.pointer (some ⟨b, 0, none⟩), v] w fun e w' => ∃ z, e = .returned (.int .i64 z) ∧ ∃ X' V' m' P', KNext P W w w' b l q d X' V' m' P' ∧ Out X recs s a m (applyF m ps) (DoWhy X m ps) z X' V' m' := by
  refine (do_lv w h.at' hs h60 hr hf hp hl (fun g hg => ⟨(hv g hg).1, (hv g hg).2.1⟩)).mono ?_
  rintro e w' ⟨z, X', V', m', rfl, hk, ho⟩
  obtain ⟨P', hn⟩ := h.post hk
  exact ⟨z, rfl, X', V', m', P', hn, ho⟩
/-- A law's disk. -/
structure DS (P : Nat → Prop) (W w : World) (d : Nat) (X : DV) : Prop where
  at' : DAt P w w d X
  new : ∀ k, P k → W.heap.size ≤ k
  lt : ∀ k, P k → k < w.heap.size
  chg : Chg (fun _ => False) W w
theorem KS.disk (h : KS P W w b l q d X V m) : DS P W w d X := ⟨h.at'.log.disk, h.new, h.at'.lt, h.chg⟩
theorem DS.fresh (h : DS P W w d X) (hc : Chg (fun _ => False) w w') : DS P W w' d X := by
  refine ⟨?_, h.new, fun k hk => Nat.lt_of_lt_of_le (h.lt k hk) hc.size, h.chg.trans' hc⟩
  obtain ⟨⟨Fd, h1, h2⟩, -⟩ := h.at'
  exact ⟨⟨Fd, h1.fresh hc, fun k hk => (h2 k hk).elim Or.inl (fun h' => by have := h1.lt k hk; omega)⟩, Chg.refl _ _⟩
theorem ds_new (W : World) (w : World) (hc : Chg (fun _ => False) W w) (n : Nat) (h1 : 1 ≤ n) (hn : n ≤ 4096) : Calls Tryz.prog 25 #[.int .i64 (n : Int)] w fun e w' => ∃ d, e = .returned (.tuple #[.pointer (some ⟨d, 0, none⟩), .int .i64 0]) ∧ ∃ P, DS P W w' d (DV.new n) := by
  refine (dat_new w n h1 hn).mono ?_
  rintro e w' ⟨d, rfl, hd⟩
  refine ⟨d, rfl, NowP (fun _ => False) w w', hd.rest (Chg.refl _ _), fun k hk => hk.1.elim (fun h => h.elim) (fun e => Nat.le_trans hc.size e), fun k hk => hk.2, hc.trans' hd.chg⟩

/-- What is opened, as a law sees it. -/
structure KOpen (P : Nat → Prop) (W w w' : World) (b l q d : Nat) (X : DV) (recs : List Txt) (s a : Nat) (m : List KV) (P' : Nat → Prop) : Prop where
  ks : KS P' W w' b l q d X (lvW recs s a []) m
  rep : Rep recs m
  off : ∀ g, g < w.heap.size → ¬ P g → Beside P' q w' g
  chg : Chg P w w'
theorem Opened.ks {Q : DV → List Txt → Nat → Nat → Prop} (h : Opened P w w' b d Q) (hd : DS P W w d X) : ∃ l q m X' recs s a P', KOpen P W w w' b l q d X' recs s a m P' ∧ Q X' recs s a := by
  obtain ⟨l, q, m, X', recs, s, a, P', k1, k2, k3, k4, k5⟩ := h.at'
  refine ⟨l, q, m, X', recs, s, a, P', ⟨⟨k1, fun k hk => (k4 k hk).elim (hd.new k) (fun e => Nat.le_trans hd.chg.size e), Nat.le_trans hd.chg.size h.new, Nat.le_trans hd.chg.size k5, hd.chg.new h.chg hd.new⟩, k2, fun g hg hp => ⟨fun hp' => (k4 g hp').elim hp (fun e => by omega), fun e => by omega, Nat.lt_of_lt_of_le hg h.chg.size⟩, h.chg⟩, k3⟩

/-- Open of a disk on which nothing was laid. -/
theorem ks_open_new (w : World) (hd : DS P W w d X) (hb : Blank X) (hf : X.fuse = -1) :
    Calls Tryz.prog 31 #[.pointer (some ⟨d, 0, none⟩)] w fun e w' => ∃ b, e = .returned (.tuple #[.pointer (some ⟨b, 0, none⟩), .int .i64 0]) ∧ ∃ l q m X' recs s a P', KOpen P W w w' b l q d X' recs s a m P' ∧ (recs = [] ∧ s = 1 ∧ Stands X' recs s a ∧ X'.fuse = -1 ∧ X'.B.length = X.B.length) := by
  refine (open_kv w hd.lt (Q := fun X' recs s a => recs = [] ∧ s = 1 ∧ Stands X' recs s a ∧ X'.fuse = -1 ∧ X'.B.length = X.B.length) ((wat_open_new hd.at' hb hf).mono ?_) ?_).mono ?_
  · rintro e w' ⟨l, X', rfl, h1, h2, h3, h4⟩
    exact ⟨l, X', [], 1, 0, rfl, h1, rfl, rfl, h2, h3, h4⟩
  · rintro X' recs s a ⟨rfl, rfl, h, -, -⟩
    exact ⟨h, [], Rep.nil⟩
  · rintro e w' ⟨b, rfl, h⟩
    exact ⟨b, rfl, h.ks hd⟩
/-- A batch in a block of its own. -/
theorem puts_block {g : Nat} {ps : List PV} {rows : List Value} (hb : w.heap[g]? = some (.cells rows.toArray 103 (0, 0))) (hr : rows = (ps.map PV.row).flatten) (hl : ps.length ≤ 1000) : Puts w g (.slice (some ⟨g, 0, none⟩) ps.length ps.length) ps := by
  subst hr
  have h3 : ∀ r ∈ ps.map PV.row, r.length = 3 := fun r hr => by obtain ⟨p, -, rfl⟩ := List.mem_map.1 hr; rfl
  have h4 : (ps.map PV.row).flatten.length = ps.length * 3 := by rw [flat_length 3 _ h3, List.length_map]
  refine ⟨?_, h3⟩
  rw [List.length_map]
  exact ⟨h4, .inr ⟨g, ps.length, _, rfl, Nat.le_refl _, hb, Nat.le_refl _, by unfold maxLen; omega, by simpa using h4, by rw [List.take_of_length_le (by simpa using Nat.le_of_eq h4)]⟩⟩

end Go.Proofs.YtbjagmlbamjdbaaGreat.kvs
end

/-
  rootdb: a root over its database, as a law sees it: what stays through a call of the database's.
-/
section
set_option linter.unusedSimpArgs false
set_option linter.unusedVariables false
namespace Go.Proofs.YtbjagmlbamjdbaaGreat.roots
open Go.RowKit Go.Maps Go.My Go.ChangeMaps disks bufs wals kvs
set_option maxRecDepth 100000

variable {W w w' : World} {P P' F : Nat → Prop} {r kb l q d s a : Nat} {X X' : DV} {V V' : LV} {m m' : List KV} {S : RS} {sv wv dv : Value}

theorem own_keptS {base n : Nat} {e : TypeId} {v : Value} {xs : List Value} {Sx : Nat → Prop} (h : w.ownsRow base e 1 v n xs) (hc : Chg Sx w w') (hs : ∀ g, v.ownBlock = some g → ¬ Sx g) : w'.ownsRow base e 1 v n xs := by
  obtain ⟨h1, h2⟩ := h
  refine ⟨h1, ?_⟩
  rcases h2 with h2 | ⟨g, cap, cur, hv, a1, a2, a3⟩
  · exact Or.inl h2
  · exact Or.inr ⟨g, cap, cur, hv, a1, hc.at a2 (hs g (by rw [hv]; rfl)), a3⟩

/-- A root whose blocks lie beside the database's. -/
structure RKS (P : Nat → Prop) (W w : World) (r kb l q d : Nat) (X : DV) (V : LV) (m : List KV) (F : Nat → Prop) (S : RS) (sv wv dv : Value) : Prop where
  ks : KS P W w kb l q d X V m
  rt : RtIs w W.heap.size r kb F S sv wv dv
  br : Beside P q w r
  bf : ∀ k, F k → Beside P q w k
  bd : ∀ g, dv.ownBlock = some g → Beside P q w g
  nr : W.heap.size ≤ r
  nf : ∀ k, F k → W.heap.size ≤ k
  fr : ¬ F r
  fd : ∀ g, dv.ownBlock = some g → ¬ F g
theorem RKS.fresh (h : RKS P W w r kb l q d X V m F S sv wv dv) (hc : Chg (fun _ => False) w w') : RKS P W w' r kb l q d X V m F S sv wv dv :=
  ⟨h.ks.fresh hc, h.rt.fresh hc, h.br.fresh hc, fun k hk => (h.bf k hk).fresh hc, fun g hg => (h.bd g hg).fresh hc, h.nr, h.nf, h.fr, h.fd⟩
/-- A call of the database's leaves the root's own words as they are. -/
theorem RKS.next (h : RKS P W w r kb l q d X V m F S sv wv dv) (k : KNext P W w w' kb l q d X' V' m' P') : RKS P' W w' r kb l q d X' V' m' F S sv wv dv where
  ks := k.ks
  rt := by
    have hn : ∀ g, Beside P q w g → ¬ (P g ∨ g = q) := fun g hg e => e.elim hg.1 hg.2.1
    refine ⟨k.chg.at h.rt.head (hn r h.br), h.rt.stack.kept k.chg (fun j hj => hn j (h.bf j hj)), h.rt.wants.kept k.chg (fun j hj => hn j (h.bf j hj)), ?_, h.rt.few, h.rt.lays⟩
    obtain ⟨h1, h2⟩ := h.rt.done
    refine ⟨h1, ?_⟩
    rcases h2 with h2 | ⟨g, cap, cur, hv, a1, a2, a3⟩
    · exact Or.inl h2
    · exact Or.inr ⟨g, cap, cur, hv, a1, k.chg.at a2 (hn g (h.bd g (by rw [hv]; rfl))), a3⟩
  br := k.off r h.br
  bf := fun j hj => k.off j (h.bf j hj)
  bd := fun g hg => k.off g (h.bd g hg)
  nr := h.nr
  nf := h.nf
  fr := h.fr
  fd := h.fd

end Go.Proofs.YtbjagmlbamjdbaaGreat.roots
end

/-
  rootdb: a good root; what stays through the acts that its database is asked for.
-/
section
set_option linter.unusedSimpArgs false
set_option linter.unusedVariables false
namespace Go.Proofs.YtbjagmlbamjdbaaGreat.roots
open Go.RowKit Go.Maps Go.My Go.ChangeMaps disks bufs wals kvs
set_option maxRecDepth 100000

variable {W w w' : World} {P P' F : Nat → Prop} {r kb l q d s a : Nat} {X X' : DV} {V V' : LV} {m m' : List KV} {recs : List Txt} {S : RS} {sv wv dv : Value}

/-- A root that calls made. -/
structure RGood (S : RS) : Prop where
  stk : SOk S.stack
  wnt : SOk S.wants
  sdig : ∀ p ∈ S.stack, p.dig
  wdig : ∀ p ∈ S.wants, p.dig
  none : S.staged = 0 → S.wants = []
  max : S.staged ≤ 1099511627776
  nums : ∀ n ∈ S.done, 1 ≤ n ∧ n ≤ 1099511627776
  nodup : S.done.Nodup
  off : S.staged ∉ S.done

def abortS (S : RS) : RS := ⟨S.stack, 0, [], S.done⟩
def commitS (S : RS) (n : Nat) : RS := ⟨S.wants, 0, [], S.done ++ [n]⟩
def stageS (S : RS) (n : Nat) (l : List Pk) : RS := ⟨S.stack, n, l, S.done⟩
theorem RGood.nil : RGood ⟨[], 0, [], []⟩ := ⟨SOk.nil, SOk.nil, by simp, by simp, fun _ => rfl, by simp, by simp, by simp, by simp⟩
theorem RGood.abort (h : RGood S) : RGood (abortS S) := ⟨h.stk, SOk.nil, h.sdig, by simp [abortS], fun _ => rfl, by simp [abortS], h.nums, h.nodup, fun e => by have := (h.nums _ e).1; simp [abortS] at this⟩
theorem RGood.commit (h : RGood S) {n : Nat} (h1 : 1 ≤ n) (h2 : n ≤ 1099511627776) (hn : n ∉ S.done) : RGood (commitS S n) := by
  refine ⟨h.wnt, SOk.nil, h.wdig, by simp [commitS], fun _ => rfl, by simp [commitS], fun k hk => ?_, ?_, fun e => ?_⟩
  · rcases List.mem_append.1 hk with hk | hk
    · exact h.nums k hk
    · rw [List.mem_singleton] at hk; subst hk; exact ⟨h1, h2⟩
  · show (S.done ++ [n]).Nodup
    rw [List.nodup_append]
    refine ⟨h.nodup, by simp, fun x hx y hy => ?_⟩
    rw [List.mem_singleton] at hy
    subst hy
    exact fun e => hn (e ▸ hx)
  · rcases List.mem_append.1 e with e | e
    · have := (h.nums _ e).1; simp [commitS] at this
    · rw [List.mem_singleton] at e; simp only [commitS] at e; omega
theorem RGood.stage (h : RGood S) {n : Nat} {l : List Pk} (h2 : n ≤ 1099511627776) (h1 : 1 ≤ n) (hn : n ∉ S.done) (hl : rchkF l = 0) (hd : ∀ p ∈ l, p.dig) : RGood (stageS S n l) :=
  ⟨h.stk, SOk.of hl, h.sdig, hd, fun e => by simp only [stageS] at e; omega, h2, h.nums, h.nodup, hn⟩

/-- What is not told early. -/
theorem askF_zero {t : Int} (h : askF t = 0) : 1 ≤ t ∧ t ≤ 1099511627776 := by
  unfold askF at h
  split at h
  · cases h
  · omega
theorem num_of {t : Int} (h : askF t = 0) : ∃ n : Nat, t = (n : Int) ∧ 1 ≤ n ∧ n ≤ 1099511627776 := by
  obtain ⟨h1, h2⟩ := askF_zero h
  exact ⟨t.toNat, by omega, by omega, by omega⟩
theorem abort_told {t : Int} (h : abortE S t = none) : askF t = 0 ∧ ∃ n : Nat, t = (n : Int) ∧ 1 ≤ n ∧ n ≤ 1099511627776 ∧ n ∉ S.done ∧ S.staged = n := by
  unfold abortE at h
  by_cases h0 : askF t = 0
  · obtain ⟨n, rfl, h1, h2⟩ := num_of h0
    rw [if_neg (by simpa using h0)] at h
    by_cases hd : ∃ k ∈ S.done, (k : Int) = (n : Int)
    · rw [if_pos hd] at h; cases h
    · rw [if_neg hd] at h
      by_cases hs : (S.staged : Int) = (n : Int)
      · exact ⟨h0, n, rfl, h1, h2, fun e => hd ⟨n, e, rfl⟩, by omega⟩
      · rw [if_pos hs] at h; cases h
  · rw [if_pos h0] at h; cases h
theorem commit_told {t : Int} (h : commitE S t = none) : askF t = 0 ∧ ∃ n : Nat, t = (n : Int) ∧ 1 ≤ n ∧ n ≤ 1099511627776 ∧ n ∉ S.done ∧ S.staged = n := by
  unfold commitE at h
  by_cases h0 : askF t = 0
  · obtain ⟨n, rfl, h1, h2⟩ := num_of h0
    rw [if_neg (by simpa using h0)] at h
    by_cases hd : ∃ k ∈ S.done, (k : Int) = (n : Int)
    · rw [if_pos hd] at h; cases h
    · rw [if_neg hd] at h
      by_cases hs : (S.staged : Int) = (n : Int)
      · exact ⟨h0, n, rfl, h1, h2, fun e => hd ⟨n, e, rfl⟩, by omega⟩
      · rw [if_pos hs] at h; cases h
  · rw [if_pos h0] at h; cases h
theorem stage_told {t : Int} {ps : List Pk} (h : stageE S t ps = none) : askF t = 0 ∧ rchkF ps = 0 ∧ S.staged = 0 ∧ ∃ n : Nat, t = (n : Int) ∧ 1 ≤ n ∧ n ≤ 1099511627776 ∧ n ∉ S.done := by
  unfold stageE at h
  by_cases h0 : askF t = 0
  · obtain ⟨n, rfl, h1, h2⟩ := num_of h0
    rw [if_neg (by simpa using h0)] at h
    by_cases hc : rchkF ps = 0
    · rw [if_neg (by simpa using hc)] at h
      by_cases hd : ∃ k ∈ S.done, (k : Int) = (n : Int)
      · rw [if_pos hd] at h; cases h
      · rw [if_neg hd] at h
        by_cases hs : (S.staged : Int) = (n : Int)
        · rw [if_pos hs] at h; cases h
        · rw [if_neg hs] at h
          by_cases hz : S.staged = 0
          · exact ⟨h0, hc, hz, n, rfl, h1, h2, fun e => hd ⟨n, e, rfl⟩⟩
          · rw [if_pos hz] at h; cases h
    · rw [if_pos hc] at h; cases h
  · rw [if_pos h0] at h; cases h

/-- A root and all its blocks Q. -/
structure RT (Q : Nat → Prop) (W w : World) (r d : Nat) (X : DV) (V : LV) (m : List KV) (S : RS) : Prop where
  ex : ∃ P kb l q F sv wv dv, RKS P W w r kb l q d X V m F S sv wv dv ∧ (∀ g, P g ∨ g = q ∨ g = r ∨ F g ∨ dv.ownBlock = some g → Q g)
  lt : ∀ g, Q g → g < w.heap.size
  new : ∀ g, Q g → W.heap.size ≤ g
  good : RGood S
  is : sortF m = rootL S
/-- The blocks and those that were made. -/
def More (Q : Nat → Prop) (w w' : World) (g : Nat) : Prop := Q g ∨ (w.heap.size ≤ g ∧ g < w'.heap.size)
theorem More.off {Q : Nat → Prop} {g : Nat} (h : ¬ Q g) (hg : g < w.heap.size) : ¬ More Q w w' g := fun e => e.elim h (fun e => by omega)
/-- Behind an act. -/
structure RGo (Q : Nat → Prop) (W w w' : World) (r d : Nat) (X : DV) (V : LV) (m : List KV) (S : RS) : Prop where
  rt : RT (More Q w w') W w' r d X V m S
  chg : Chg Q w w'
theorem RT.fresh {Q : Nat → Prop} (h : RT Q W w r d X V m S) (hc : Chg (fun _ => False) w w') : RT Q W w' r d X V m S := by
  obtain ⟨P, kb, l, q, F, sv, wv, dv, h1, h2⟩ := h.ex
  exact ⟨⟨P, kb, l, q, F, sv, wv, dv, h1.fresh hc, h2⟩, fun g hg => Nat.lt_of_lt_of_le (h.lt g hg) hc.size, h.new, h.good, h.is⟩
theorem RT.chg {Q : Nat → Prop} (h : RT Q W w r d X V m S) : Chg (fun _ => False) W w := by
  obtain ⟨P, kb, l, q, F, sv, wv, dv, h1, -⟩ := h.ex
  exact h1.ks.chg
theorem RT.nd {Q : Nat → Prop} (h : RT Q W w r d X V m S) : NoDup m := by
  obtain ⟨P, kb, l, q, F, sv, wv, dv, h1, -⟩ := h.ex
  exact h1.ks.at'.db.map.nodup
theorem RT.disk {Q : Nat → Prop} (h : RT Q W w r d X V m S) : ∃ P, DS P W w d X ∧ ∀ g, P g → Q g := by
  obtain ⟨P, kb, l, q, F, sv, wv, dv, h1, h2⟩ := h.ex
  exact ⟨P, h1.ks.disk, fun g hg => h2 g (Or.inl hg)⟩
theorem RT.head {Q : Nat → Prop} (h : RT Q W w r d X V m S) : Q r := by
  obtain ⟨P, kb, l, q, F, sv, wv, dv, h1, h2⟩ := h.ex
  exact h2 r (Or.inr (Or.inr (Or.inl rfl)))
/-- What a call of the database's leaves, when the root's words are as they were. -/
theorem RKS.go {Q : Nat → Prop} (h : RKS P W w r kb l q d X V m F S sv wv dv) (k : KNext P W w w' kb l q d X' V' m' P') (hQ : ∀ g, P g ∨ g = q ∨ g = r ∨ F g ∨ dv.ownBlock = some g → Q g) (hlt : ∀ g, Q g → g < w.heap.size) (hnew : ∀ g, Q g → W.heap.size ≤ g) (hg : RGood S) (hi : sortF m' = rootL S) : RGo Q W w w' r d X' V' m' S where
  rt := by
    refine ⟨⟨P', kb, l, q, F, sv, wv, dv, h.next k, fun g hg => ?_⟩, fun g hg => hg.elim (fun e => Nat.lt_of_lt_of_le (hlt g e) k.chg.size) (fun e => e.2), fun g hg => hg.elim (hnew g) (fun e => Nat.le_trans h.ks.chg.size e.1), hg, hi⟩
    by_cases hs : g < w.heap.size
    · refine Or.inl (hQ g ?_)
      rcases hg with hg | hg
      · by_cases hp : P g
        · exact Or.inl hp
        · by_cases hq : g = q
          · exact Or.inr (Or.inl hq)
          · exact absurd hg (k.off g ⟨hp, hq, hs⟩).1
      · exact Or.inr hg
    · refine Or.inr ⟨by omega, ?_⟩
      rcases hg with hg | hg | hg | hg | hg
      · exact k.ks.at'.lt g hg
      · exact Nat.lt_of_lt_of_le (hlt g (hQ g (Or.inr (Or.inl hg)))) k.chg.size
      · exact Nat.lt_of_lt_of_le (hlt g (hQ g (Or.inr (Or.inr (Or.inl hg))))) k.chg.size
      · exact Nat.lt_of_lt_of_le (hlt g (hQ g (Or.inr (Or.inr (Or.inr (Or.inl hg)))))) k.chg.size
      · exact Nat.lt_of_lt_of_le (hlt g (hQ g (Or.inr (Or.inr (Or.inr (Or.inr hg)))))) k.chg.size
  chg := k.chg.mono (fun g _ hg => hQ g (hg.elim Or.inl (fun e => Or.inr (Or.inl e))))

theorem next_foot (k : KNext P W w w' kb l q d X V m P') (g : Nat) (hg : P' g) : P g ∨ g = q ∨ (w.heap.size ≤ g ∧ g < w'.heap.size) := by
  by_cases hs : g < w.heap.size
  · by_cases hp : P g
    · exact Or.inl hp
    · by_cases hq : g = q
      · exact Or.inr (Or.inl hq)
      · exact absurd hg (k.off g ⟨hp, hq, hs⟩).1
  · exact Or.inr (Or.inr ⟨by omega, k.ks.at'.lt g hg⟩)
/-- What changes beside the database. -/
theorem ks_aside {Sx : Nat → Prop} (h : KS P W w kb l q d X V m) (hc : Chg Sx w w') (h1 : ∀ k, P k → ¬ Sx k) (h2 : ¬ Sx q) (h3 : ¬ Sx kb) (h4 : ∀ k, Sx k → W.heap.size ≤ k) : KS P W w' kb l q d X V m :=
  ⟨⟨wat_aside h.at'.log hc h1, h.at'.db.kept hc h3 h2, h.at'.nb, h.at'.nq, fun k hk => Nat.lt_of_lt_of_le (h.at'.lt k hk) hc.size⟩, h.new, h.nb, h.nq, h.chg.new hc h4⟩
theorem rks_ne (h : RKS P W w r kb l q d X V m F S sv wv dv) : r ≠ kb := by
  intro e
  have h1 := h.rt.head
  rw [e, h.ks.at'.db.head] at h1
  simp at h1
/-- The root's words are others. -/
theorem RKS.set {F' : Nat → Prop} {S' : RS} {sv' wv' dv' : Value} (h : RKS P W w r kb l q d X V m F S sv wv dv) (hc : Chg (fun k => k = r ∨ some k = dv.ownBlock) w w') (rt : RtIs w' W.heap.size r kb F' S' sv' wv' dv') (bf : ∀ k, F' k → Beside P q w' k) (bd : ∀ g, dv'.ownBlock = some g → Beside P q w' g) (nf : ∀ k, F' k → W.heap.size ≤ k) (fr : ¬ F' r) (fd : ∀ g, dv'.ownBlock = some g → ¬ F' g) : RKS P W w' r kb l q d X V m F' S' sv' wv' dv' where
  ks := by
    have hn : ∀ g, Beside P q w g → g ≠ q := fun g hg => hg.2.1
    refine ks_aside h.ks hc (fun k hk e => ?_) (fun e => ?_) (fun e => ?_) (fun k e => ?_)
    · rcases e with e | e
      · exact h.br.1 (e ▸ hk)
      · exact (h.bd k e.symm).1 hk
    · rcases e with e | e
      · exact h.br.2.1 e.symm
      · exact (h.bd q e.symm).2.1 rfl
    · rcases e with e | e
      · exact rks_ne h e.symm
      · exact own_ne h.rt.done h.ks.at'.db.head (by decide) kb e.symm rfl
    · rcases e with e | e
      · exact e ▸ h.nr
      · exact (h.rt.done.lt k e.symm).1
  rt := rt
  br := ⟨h.br.1, h.br.2.1, Nat.lt_of_lt_of_le h.br.2.2 hc.size⟩
  bf := bf
  bd := bd
  nr := h.nr
  nf := nf
  fr := fr
  fd := fd
theorem Beside.more {g : Nat} (h : Beside P q w g) (hs : w.heap.size ≤ w'.heap.size) : Beside P q w' g := ⟨h.1, h.2.1, Nat.lt_of_lt_of_le h.2.2 hs⟩

/-- Behind an act that changed the root's words. -/
theorem RGo.of {Q : Nat → Prop} {w3 w4 w5 : World} {F' : Nat → Prop} {S' : RS} {sv' wv' dv' : Value} (hW : Chg (fun _ => False) W w) (h3 : Chg (fun _ => False) w w3) (k : KNext P W w3 w4 kb l q d X' V' m' P') (h5 : Chg (fun k => k = r ∨ some k = dv.ownBlock) w4 w5) (h : RKS P' W w5 r kb l q d X' V' m' F' S' sv' wv' dv')
    (hQ : ∀ g, P g ∨ g = q ∨ g = r ∨ F g ∨ dv.ownBlock = some g → Q g) (hlt : ∀ g, Q g → g < w.heap.size) (hnew : ∀ g, Q g → W.heap.size ≤ g)
    (hF : ∀ g, F' g → F g ∨ (w.heap.size ≤ g ∧ g < w5.heap.size)) (hD : ∀ g, dv'.ownBlock = some g → dv.ownBlock = some g ∨ (w.heap.size ≤ g ∧ g < w5.heap.size)) (hg : RGood S') (hi : sortF m' = rootL S') : RGo Q W w w5 r d X' V' m' S' where
  rt := by
    have s3 := h3.size
    have s4 := k.chg.size
    have s5 := h5.size
    refine ⟨⟨P', kb, l, q, F', sv', wv', dv', h, fun g hg => ?_⟩, fun g hg => hg.elim (fun e => by have := hlt g e; omega) (fun e => e.2), fun g hg => hg.elim (hnew g) (fun e => Nat.le_trans hW.size e.1), hg, hi⟩
    rcases hg with hg | hg | hg | hg | hg
    · rcases next_foot k g hg with e | e | e
      · exact Or.inl (hQ g (Or.inl e))
      · exact Or.inl (hQ g (Or.inr (Or.inl e)))
      · exact Or.inr ⟨by omega, by omega⟩
    · exact Or.inl (hQ g (Or.inr (Or.inl hg)))
    · exact Or.inl (hQ g (Or.inr (Or.inr (Or.inl hg))))
    · exact (hF g hg).elim (fun e => Or.inl (hQ g (Or.inr (Or.inr (Or.inr (Or.inl e)))))) Or.inr
    · exact (hD g hg).elim (fun e => Or.inl (hQ g (Or.inr (Or.inr (Or.inr (Or.inr e)))))) Or.inr
  chg := by
    have h1 := h3.mono (S' := Q) (fun _ _ e => e.elim)
    refine (h1.trans' (k.chg.mono (fun g _ hg => hQ g (hg.elim Or.inl (fun e => Or.inr (Or.inl e)))))).trans' (h5.mono (fun g _ hg => hQ g ?_))
    exact hg.elim (fun e => Or.inr (Or.inr (Or.inl e))) (fun e => Or.inr (Or.inr (Or.inr (Or.inr e.symm))))

/-- Begun earlier. -/
theorem RGo.from {Q : Nat → Prop} {w3 : World} (h : RGo Q W w3 w' r d X V m S) (hc : Chg (fun _ => False) w w3) (hW : W.heap.size ≤ w.heap.size) : RGo Q W w w' r d X V m S where
  rt := by
    obtain ⟨P, kb, l, q, F, sv, wv, dv, h1, h2⟩ := h.rt.ex
    have hs := hc.size
    have hw : ∀ g, More Q w3 w' g → More Q w w' g := fun g hg => hg.elim Or.inl (fun e => Or.inr ⟨by omega, e.2⟩)
    have hle := h.chg.size
    refine ⟨⟨P, kb, l, q, F, sv, wv, dv, h1, fun g hg => hw g (h2 g hg)⟩, fun g hg => ?_, fun g hg => ?_, h.rt.good, h.rt.is⟩
    · rcases hg with e | e
      · exact h.rt.lt g (Or.inl e)
      · exact e.2
    · rcases hg with e | e
      · exact h.rt.new g (Or.inl e)
      · exact Nat.le_trans hW e.1
  chg := (hc.mono (fun _ _ e => e.elim)).trans' h.chg

end Go.Proofs.YtbjagmlbamjdbaaGreat.roots
end

/-
  kv: a batch that was done is there when the disk is opened again.
-/
section
set_option linter.unusedSimpArgs false
set_option linter.unusedVariables false
namespace Go.Proofs.YtbjagmlbamjdbaaGreat.kvs
open Go.RowKit Go.Maps Go.My Go.ChangeMaps disks bufs wals
set_option maxRecDepth 100000

variable {W w w' : World} {P : Nat → Prop} {b l q d s a : Nat} {X X' : DV} {V V' : LV} {m m' mm : List KV} {recs : List Txt}

/-! ### a snapshot of a small map is one batch -/
theorem snapL_small : ∀ (l : List PV) (x : Sn), x.now.length + l.length ≤ 64 → 1 + x.size + (allB l).length ≤ 4096 → l.foldl Sn.step x = ⟨x.out, x.now ++ l, x.size + (allB l).length⟩
  | [], x, _, _ => by simp [allB]
  | p :: l, x, h1, h2 => by
    have e : allB (p :: l) = p.bytes ++ allB l := by simp [allB]
    rw [e, List.length_append] at h2 ⊢
    rw [List.length_cons] at h1
    have hr : x.room p.bytes.length = x := by
      unfold Sn.room
      rw [if_neg (by omega)]
    have hs : x.step p = ⟨x.out, x.now ++ [p], x.size + p.bytes.length⟩ := by unfold Sn.step; rw [hr]
    rw [List.foldl_cons, hs, snapL_small l _ (by simp only [List.length_append, List.length_cons, List.length_nil]; omega) (by simp only; omega)]
    simp only [List.append_assoc, List.cons_append, List.nil_append, Nat.add_assoc]
theorem rep_nil {m : List KV} (h : Rep [] m) : m = [] := by
  cases m with
  | nil => rfl
  | cons p m =>
    have := Rep.nil.unique h p.1
    rw [mget_cons, if_pos rfl] at this
    cases this

end Go.Proofs.YtbjagmlbamjdbaaGreat.kvs
end

/-
  rootdb: the plain law: a small root's database has room.
-/
section
set_option linter.unusedSimpArgs false
set_option linter.unusedVariables false
namespace Go.Proofs.YtbjagmlbamjdbaaGreat.roots
open Go.RowKit Go.Maps Go.My Go.ChangeMaps disks bufs wals kvs
set_option maxRecDepth 100000

variable {X : DV} {m : List KV} {S : RS}

theorem allB_dlst : ∀ (l : List Nat) (i : Nat), (allB ((dlst i l).map ofKV)).length ≤ 22 * l.length ∧ ∀ q ∈ (dlst i l).map ofKV, q.may = true
  | [], _ => ⟨by simp [dlst, allB], fun q hq => by cases hq⟩
  | n :: l, i => by
    obtain ⟨h1, h2⟩ := allB_dlst l (i + 1)
    have hk : (99 :: eight i).length = 9 := by rw [List.length_cons, eight_length]
    have hv : (eight n).length = 8 := eight_length n
    have h3 := bytes_of (k := 99 :: eight i) (v := eight n) (by omega) (by omega)
    have e : allB ((dlst i (n :: l)).map ofKV) = (ofKV (99 :: eight i, eight n)).bytes ++ allB ((dlst (i + 1) l).map ofKV) := by simp [dlst, allB]
    constructor
    · rw [e, List.length_append, List.length_cons]; omega
    · intro q hq
      rw [dlst, List.map_cons] at hq
      rcases List.mem_cons.1 hq with rfl | hq
      · exact may_of (by omega) (by omega) (by omega)
      · exact h2 q hq
theorem dlst_len : ∀ (l : List Nat) (i : Nat), (dlst i l).length = l.length
  | [], _ => rfl
  | n :: l, i => by rw [dlst, List.length_cons, List.length_cons, dlst_len l]
def rootN (S : RS) : Nat := 22 * S.done.length + (53 * S.stack.length + 42 * nlay S.stack + (53 * S.wants.length + 42 * nlay S.wants + 23))
theorem allB_root (h : RGood S) : (allB ((rootL S).map ofKV)).length ≤ rootN S ∧ ∀ q ∈ (rootL S).map ofKV, q.may = true := by
  obtain ⟨d1, d2⟩ := allB_dlst S.done 0
  obtain ⟨s1, s2⟩ := allB_lst 112 S.stack 0 (fun p hp => ⟨h.sdig p hp, (h.stk.each p hp).2.2⟩)
  obtain ⟨q1, q2⟩ := allB_lst 113 S.wants 0 (fun p hp => ⟨h.wdig p hp, (h.wnt.each p hp).2.2⟩)
  have ht : (allB ((tlst S).map ofKV)).length ≤ 23 ∧ ∀ q ∈ (tlst S).map ofKV, q.may = true := by
    unfold tlst
    split
    · exact ⟨by simp [allB], fun q hq => by cases hq⟩
    · have hv : (tval S).length = 9 := by unfold tval; rw [List.length_append, eight_length]; rfl
      have h3 := bytes_of (k := [116]) (v := tval S) (by simp) (by omega)
      refine ⟨?_, fun q hq => ?_⟩
      · have e : allB (([([116], tval S)] : List KV).map ofKV) = (ofKV ([116], tval S)).bytes := by simp [allB]
        rw [e]; omega
      · rw [List.map_cons, List.map_nil, List.mem_singleton] at hq
        subst hq
        exact may_of (by simp) (by simp) (by omega)
  unfold rootL
  rw [List.map_append, List.map_append, List.map_append]
  constructor
  · rw [allB_append, allB_append, allB_append]
    simp only [List.length_append]
    unfold rootN
    have := ht.1
    omega
  · intro q hq
    rcases List.mem_append.1 hq with hq | hq
    · exact d2 q hq
    · rcases List.mem_append.1 hq with hq | hq
      · exact s2 q hq
      · rcases List.mem_append.1 hq with hq | hq
        · exact q2 q hq
        · exact ht.2 q hq
theorem root_len (h : RGood S) : (rootL S).length ≤ S.done.length + 33 := by
  have h1 := h.stk.few
  have h2 := h.wnt.few
  have h3 : (tlst S).length ≤ 1 := by unfold tlst; split <;> simp
  unfold rootL
  rw [List.length_append, List.length_append, List.length_append, dlst_len, lst_len, lst_len]
  omega

theorem snap_root (h : sortF m = rootL S) (hg : RGood S) (h31 : S.done.length ≤ 31) {B : Nat} (hB : rootN S ≤ B) (h4 : B ≤ 4095) : sizeB (snapF m) ≤ 9 + B := by
  obtain ⟨ha, hm⟩ := allB_root hg
  have hl : ((rootL S).map ofKV).length ≤ 64 := by rw [List.length_map]; have := root_len hg; omega
  have hsn : snapL ((sortF m).map ofKV) = ⟨[], (rootL S).map ofKV, 0 + (allB ((rootL S).map ofKV)).length⟩ := by
    rw [h]
    unfold snapL
    rw [snapL_small _ _ (by simp only [List.length_nil]; omega) (by simp only; omega)]
    rfl
  unfold snapF
  rw [hsn]
  unfold Sn.close
  simp only
  by_cases h0 : (rootL S).map ofKV = []
  · rw [if_pos h0]
    simp [sizeB]
  · rw [if_neg h0]
    have hf : Fits ((rootL S).map ofKV) := ⟨h0, hm, by omega, by omega⟩
    have e1 : (encF ((rootL S).map ofKV)).1.length = 1 + (allB ((rootL S).map ofKV)).length := by rw [hf.enc.1]; exact hf.enc.2
    have e2 : sizeB ([] ++ [(encF ((rootL S).map ofKV)).1]) = (encF ((rootL S).map ofKV)).1.length + 8 := by simp [sizeB]
    rw [e2, e1]
    omega

theorem sort_sort {m : List KV} (hn : NoDup m) : sortF (sortF m) = sortF m := by
  have h1 := sortF_asc hn
  exact asc_unique (sortF_asc h1.nodup) h1 (sortF_perm (sortF m))

/-- Do has room. -/
theorem no_full {ps : List PV} {z : Int} (hf : Fits ps) (h : sortF (applyF (sortF m) ps) = rootL S) (hg : RGood S) (h31 : S.done.length ≤ 31) (hX : rootN S + 9 ≤ 64 * areaN X.B.length) (h4 : rootN S ≤ 4095) : ¬ DoWhy X m ps z := by
  have he : (encF ps).2 = 0 := by rw [hf.enc.1]
  rintro (⟨-, h1⟩ | ⟨-, -, h1⟩)
  · exact h1 he
  · have := snap_root h hg h31 (Nat.le_refl _) h4
    omega

end Go.Proofs.YtbjagmlbamjdbaaGreat.roots
end

/-
  wal: a log in memory; its small calls.
-/
import Derived.Test.YtbjagmlbamjdbaaGreatPx3RootStands
import Derived.Test.YtbjagmlbamjdbaaGreatPx5RootStands
import Derived.Test.YtbjagmlbamjdbaaGreatPx6RootStands

section
set_option linter.unusedSimpArgs false
set_option linter.unusedVariables false
namespace Go.Proofs.YtbjagmlbamjdbaaGreat.wals
open Go.RowKit Go.My disks bufs
set_option maxRecDepth 100000

def strV (b : Blk) : Value := .string ⟨b.toArray⟩
theorem one_strs (l : List Blk) : ∀ v ∈ l.map strV, v.oneCell' = true := fun v hv => by obtain ⟨b, -, rfl⟩ := List.mem_map.1 hv; rfl

/-- The numbers of a log on a disk of n blocks. -/
structure LV.Ok (n : Nat) (V : LV) : Prop where
  ge : 6 ≤ n
  le : n ≤ 4096
  seq : V.seq ≤ 1152921504606846976
  area : V.area ≤ 1
  fit : V.used + V.more ≤ 64 * areaN n
  used : V.used = sizeB V.recs
  more : V.more = sizeB V.wait
  tail : V.tail.length = V.used % 64
  short : ∀ r ∈ V.wait, r.length ≤ 4096

theorem LV.Ok.small {n : Nat} {V : LV} (h : V.Ok n) : V.used ≤ 131008 ∧ V.more ≤ 131008 ∧ V.recs.length ≤ 131008 ∧ V.wait.length ≤ 131008 ∧ areaN n ≤ 2047 := by
  have h1 := areaN_le h.le
  have h2 := h.fit
  have h3 := sizeB_ge V.recs
  have h4 := sizeB_ge V.wait
  have h5 := h.used
  have h6 := h.more
  omega

def logC (d : Nat) (V : LV) (rv tv wv : Value) : List Value := [.pointer (some ⟨d, 0, none⟩), .int .i64 V.seq, .int .i64 V.area, .int .i64 V.used, rv, tv, wv, .int .i64 V.more, .bool V.lost]

structure LogIs (w : World) (l d : Nat) (F : Nat → Prop) (V : LV) (rv tv wv : Value) : Prop where
  head : Arr w l 177 (logC d V rv tv wv)
  recs : w.ownsRow 0 9 1 rv V.recs.length (V.recs.map strV)
  tail : w.ownsRow 0 5 1 tv V.tail.length (cellsB V.tail)
  wait : w.ownsRow 0 9 1 wv V.wait.length (V.wait.map strV)
  rw : ∀ g, rv.ownBlock = some g → wv.ownBlock ≠ some g
  fl : F l
  fr : ∀ g, rv.ownBlock = some g → F g
  ft : ∀ g, tv.ownBlock = some g → F g
  fw : ∀ g, wv.ownBlock = some g → F g
  lt : ∀ k, F k → k < w.heap.size

/-- A log, and its disk. -/
structure LogAt (w : World) (l d : Nat) (F Fd : Nat → Prop) (X : DV) (V : LV) : Prop where
  log : ∃ rv tv wv, LogIs w l d F V rv tv wv
  disk : DiskAt w d Fd X
  off : ∀ k, F k → ¬ Fd k

variable {w w' : World} {l d : Nat} {F Fd : Nat → Prop} {X : DV} {V : LV} {rv tv wv : Value}

theorem LogIs.kept (h : LogIs w l d F V rv tv wv) {S : Nat → Prop} (hc : Chg S w w') (hs : ∀ k, F k → ¬ S k) : LogIs w' l d F V rv tv wv :=
  ⟨hc.at h.head (hs _ h.fl), row_kept h.recs hc (fun g hg => hs _ (h.fr g hg)), row_kept h.tail hc (fun g hg => hs _ (h.ft g hg)), row_kept h.wait hc (fun g hg => hs _ (h.fw g hg)), h.rw, h.fl, h.fr, h.ft, h.fw, fun k hk => Nat.lt_of_lt_of_le (h.lt k hk) hc.size⟩

theorem LogAt.kept (h : LogAt w l d F Fd X V) {S : Nat → Prop} (hc : Chg S w w') (hs : ∀ k, F k ∨ Fd k → ¬ S k) : LogAt w' l d F Fd X V := by
  obtain ⟨⟨rv, tv, wv, hl⟩, hd, ho⟩ := h
  exact ⟨⟨rv, tv, wv, hl.kept hc (fun k hk => hs k (Or.inl hk))⟩, hd.kept hc (fun k hk => hs k (Or.inr hk)), ho⟩

theorem LogAt.fresh (h : LogAt w l d F Fd X V) (hc : Chg (fun _ => False) w w') : LogAt w' l d F Fd X V := h.kept hc (fun _ _ h => h)

theorem LogAt.lt (h : LogAt w l d F Fd X V) : ∀ k, F k ∨ Fd k → k < w.heap.size := by
  obtain ⟨⟨rv, tv, wv, hl⟩, hd, ho⟩ := h
  intro k hk
  rcases hk with hk | hk
  · exact hl.lt k hk
  · exact hd.lt k hk

theorem log_no (w : World) (h : LogAt w l d F Fd X V) : Calls Tryz.prog 107 #[.pointer (some ⟨l, 0, none⟩)] w fun e w' => e = .returned (.bool false) ∧ w = w' := by
  obtain ⟨⟨rv, tv, wv, hl⟩, -, -⟩ := h
  have c0 := hl.head.cell (i := 0) rfl
  clear hl
  go_enter Tryz.func107, Tryz.ntmps107
  go_wp2
  go_ret
  exact ⟨rfl, rfl⟩

theorem area_any (w : World) (h : LogAt w l d F Fd X V) (h2 : 2 ≤ X.B.length) (hle : X.B.length ≤ 4096) : Calls Tryz.prog 104 #[.pointer (some ⟨l, 0, none⟩)] w fun e w' => e = .returned (.int .i64 (areaN X.B.length : Int)) ∧ w = w' := by
  have HD := Lib.hid h.disk
  obtain ⟨⟨rv, tv, wv, hl⟩, -, -⟩ := h
  have c0 := hl.head.cell (i := 0) rfl
  obtain ⟨n, hn⟩ : ∃ n, X.B.length = n := ⟨_, rfl⟩
  have HN := Lib.hid hn
  have i1 : (2 : Int) ≤ n := by omega
  have i2 : (n : Int) ≤ 4096 := by omega
  clear hl h2 hle hn
  go_enter Tryz.func104, Tryz.ntmps104
  go_wp2_with (go_at_call 102; refine (blocks_any _ HD.out).mono ?_; rw [HN.out]; rintro e w' ⟨rfl, rfl⟩)
  go_ret
  refine ⟨?_, rfl⟩
  rw [HN.out]
  unfold areaN
  rw [show (((n - 2) / 2 : Nat) : Int) = ((n : Int) - 2) / 2 by omega]
  rfl

/-- In a drawn region: 'area' in any world with more blocks. -/
theorem area_fresh (w : World) (h : LogAt w l d F Fd X V) (h2 : 2 ≤ X.B.length) (hle : X.B.length ≤ 4096) (m : FreshW w) :
    Calls Tryz.prog 104 #[.pointer (some ⟨l, 0, none⟩)] m.val fun e w'' => e = .returned (.int .i64 (areaN X.B.length : Int)) ∧ ∃ m' : FreshW w, w'' = m'.val :=
  fresh_call ((area_any _ (h.fresh m.chg) h2 hle).mono (fun e w' hh => ⟨hh.1, hh.2 ▸ Chg.refl _ _⟩))

theorem first_any (w : World) (h : LogAt w l d F Fd X V) (h2 : 2 ≤ X.B.length) (hle : X.B.length ≤ 4096) (a : Nat) (ha : a ≤ 1) : Calls Tryz.prog 153 #[.pointer (some ⟨l, 0, none⟩), .int .i64 a] w fun e w' => e = .returned (.int .i64 (firstN X.B.length a : Int)) ∧ w = w' := by
  have HA := Lib.hid (area_any w h h2 hle)
  obtain ⟨n, hn⟩ : ∃ n, areaN X.B.length = n := ⟨_, rfl⟩
  have HN := Lib.hid hn
  have i2 : (n : Int) ≤ 2047 := by have := areaN_le hle; omega
  have HF := Lib.hid (show firstN X.B.length a = 2 + a * n by unfold firstN; rw [hn])
  have ha' : a = 0 ∨ a = 1 := by omega
  clear h h2 hle hn ha
  rcases ha' with rfl | rfl
  all_goals go_enter Tryz.func153, Tryz.ntmps153
  all_goals go_wp2_with (go_at_call 104; refine HA.out.mono ?_; rw [HN.out]; rintro e w' ⟨rfl, rfl⟩)
  all_goals go_ret
  all_goals refine ⟨?_, rfl⟩
  all_goals rw [HF.out]
  all_goals simp

theorem framed_any (w : World) (b : Blk) (hb : b.length ≤ 1000000000000) : Calls Tryz.prog 126 #[strV b] w fun e w' => e = .returned (.tuple #[.int .i64 ((b.length : Int) + 8), .bool (decide (b.length ≤ 4096))]) ∧ w = w' := by
  have hsz : (⟨b.toArray⟩ : ByteArray).size = b.length := by simp [ByteArray.size]
  unfold strV
  obtain ⟨s, hs⟩ : ∃ s : ByteArray, ⟨b.toArray⟩ = s := ⟨_, rfl⟩
  rw [hs] at hsz ⊢
  have HS := Lib.hid hsz
  have i1 : (s.size : Int) ≤ 1000000000000 := by omega
  clear hsz hb
  go_enter Tryz.func126, Tryz.ntmps126
  go_wp2_with fail
  go_ret2
  refine ⟨?_, rfl⟩
  rw [← HS.out]
  have hd : decide ((s.size : Int) ≤ 4096) = decide (s.size ≤ 4096) := by rw [decide_eq_decide]; omega
  rw [← hd]
  rfl

theorem room_any (w : World) (h : LogAt w l d F Fd X V) (hV : V.Ok X.B.length) : Calls Tryz.prog 127 #[.pointer (some ⟨l, 0, none⟩)] w fun e w' => e = .returned (.int .i64 (roomF X.B.length V)) ∧ Chg (fun _ => False) w w' := by
  have HNo := Lib.hid (log_no w h)
  have har := area_fresh w h (by have := hV.ge; omega) hV.le
  have hs := hV.small
  have H := Lib.hid h
  have HV := Lib.hid hV
  obtain ⟨⟨rv, tv, wv, hl⟩, -, -⟩ := h
  have q3 : ∀ n : FreshW w, n.val.cell? ⟨l, 3, none⟩ = some (.int .i64 V.used) := fun n => n.chg.cell (hl.head.cell (i := 3) rfl) id
  have q7 : ∀ n : FreshW w, n.val.cell? ⟨l, 7, none⟩ = some (.int .i64 V.more) := fun n => n.chg.cell (hl.head.cell (i := 7) rfl) id
  obtain ⟨n, hn⟩ : ∃ n, areaN X.B.length = n := ⟨_, rfl⟩
  have HN := Lib.hid hn
  rw [hn] at har
  have HAr := Lib.hid har
  have i1 : (n : Int) ≤ 2047 := by omega
  have i2 : (V.used : Int) ≤ 131008 := by omega
  have i3 : (V.more : Int) ≤ 131008 := by omega
  have i5 : 0 ≤ (64 : Int) * n := by omega
  clear hl hs hV hn har
  go_enter Tryz.func127, Tryz.ntmps127
  go_wp2_with (first
    | (go_at_call 107; refine HNo.out.mono ?_; rintro e w' ⟨rfl, rfl⟩))
  refine wp_region_fresh (by kernel_rfl) (by kernel_rfl) ?_
  repeat (go_big_quiet_step ((go_at_call 104; exact HAr.out _)))
  refine wpQuiet_nil ?_
  rintro _ ⟨n10, rfl⟩
  go_wp2_with fail
  go_ret
  refine ⟨?_, n10.chg⟩
  unfold roomF
  rw [HN.out]
  rfl

theorem records_any (w : World) (h : LogAt w l d F Fd X V) (hr : V.recs.length ≤ 131008) : Calls Tryz.prog 59 #[.pointer (some ⟨l, 0, none⟩)] w fun e w' => ∃ v, e = .returned v ∧ w'.ownsRow w.heap.size 9 1 v V.recs.length (V.recs.map strV) ∧ Chg (fun _ => False) w w' := by
  have HNo := Lib.hid (log_no w h)
  obtain ⟨⟨rv, tv, wv, hl⟩, -, -⟩ := h
  obtain ⟨oa, cap, rfl⟩ := own_slice hl.recs
  have hc1 : Chg (fun _ => False) w (w.alloc (.cells #[] 9)) := (Chg.refl _ _).alloc _
  have c4 : (w.alloc (.cells #[] 9)).cell? ⟨l, 4, none⟩ = some (.slice oa V.recs.length cap) := hc1.cell (hl.head.cell rfl) id
  have ho : (w.alloc (.cells #[] 9)).ownsRow w.heap.size 9 1 (.slice (some ⟨w.heap.size, 0, none⟩) 0 0) 0 [] := own_of_block (n := 0) at1 (Nat.le_refl _) rfl (by unfold maxLen; omega)
  obtain ⟨v2, w2, hr2, ho2, hg2, -⟩ := append_strs ho (SlAt.of_own (own_kept hl.recs hc1)) (one_strs _) (by simp) (by simp only [List.length_map, List.length_nil]; omega) 109
  simp only [List.nil_append, List.length_map] at ho2
  have HR2 := Lib.hid hr2
  have HO2 := Lib.hid ho2
  have HC2 := Lib.hid (show Chg (fun _ => False) w w2 from hc1.append ho (Chg.refl _ _) hg2)
  clear hl hr2 ho2 hg2 ho hc1
  go_enter Tryz.func59, Tryz.ntmps59
  go_wp2_with (first
    | (go_at_call 107; refine HNo.out.mono ?_; rintro e w' ⟨rfl, rfl⟩)
    | (at_builtin; refine Lib.wpList_append_run _ rfl _ _ _ _ rfl _ _ rfl rfl _ _ HR2.out ?_))
  go_ret
  exact ⟨_, rfl, HO2.out, HC2.out⟩

end Go.Proofs.YtbjagmlbamjdbaaGreat.wals
end

/-
  wal: Add.
-/
section
set_option linter.unusedSimpArgs false
set_option linter.unusedVariables false
namespace Go.Proofs.YtbjagmlbamjdbaaGreat.wals
open Go.RowKit Go.My disks bufs
set_option maxRecDepth 100000

variable {w w' : World} {l d : Nat} {F Fd : Nat → Prop} {X : DV} {V : LV} {rv tv wv : Value}

theorem row_apart {w : World} {base base' : Nat} {e e' : TypeId} {x y : Value} {n m : Nat} {xs ys : List Value} (h : w.ownsRow base e 1 x n xs) (k : w.ownsRow base' e' 1 y m ys) (hne : e ≠ e') : ∀ g, x.ownBlock = some g → y.ownBlock ≠ some g := by
  intro g hg hk
  obtain ⟨c1, h1⟩ := row_obj h hg
  obtain ⟨c2, h2⟩ := row_obj k hk
  rw [h1] at h2
  simp only [Option.some.injEq, Obj.cells.injEq] at h2
  exact hne h2.2.1

theorem row_head {w : World} {base n b : Nat} {e t : TypeId} {x : Value} {xs cs : List Value} (h : w.ownsRow base e 1 x n xs) (k : Arr w b t cs) (hne : e ≠ t) : ∀ g, x.ownBlock = some g → g ≠ b := by
  intro g hg e1
  obtain ⟨c1, h1⟩ := row_obj h hg
  rw [e1] at h1
  have h2 : w.heap[b]? = some (.cells cs.toArray t (0, 0)) := k
  rw [h2] at h1
  simp only [Option.some.injEq, Obj.cells.injEq] at h1
  exact hne h1.2.1.symm

/-- The list that waits is another own slice, which the old one may have grown to. -/
theorem LogIs.growWait {w1 w3 : World} (h : LogIs w l d F V rv tv wv) (hc1 : Chg (fun _ => False) w w1) {v3 : Value} {rs : List Blk} {n3 : Nat} (hn3 : rs.length = n3) (ho : w3.ownsRow 0 9 1 v3 n3 (rs.map strV)) (hg : w1.grownBy w3 wv.ownBlock) (h4 : v3.ownBlock = wv.ownBlock ∨ v3.ownBlock = some w1.heap.size) :
    LogIs (w3.setCell ⟨l, 6, none⟩ v3) l d (fun k => F k ∨ v3.ownBlock = some k) { V with wait := rs } rv tv v3 ∧ Chg F w (w3.setCell ⟨l, 6, none⟩ v3) := by
  subst hn3
  have h1 := h.kept hc1 (fun _ _ h => h)
  have hc3 := Chg.of_grown hg
  have n1 : ¬ some l = wv.ownBlock := fun e => row_head h1.wait h1.head (by decide) l e.symm rfl
  have n2 : ∀ g, rv.ownBlock = some g → ¬ some g = wv.ownBlock := fun g hg e => h.rw g hg e.symm
  have n3 : ∀ g, tv.ownBlock = some g → ¬ some g = wv.ownBlock := fun g hg e => row_apart h1.tail h1.wait (by decide) g hg e.symm
  have a3 := hc3.at h1.head n1
  have r3 := row_kept h1.recs hc3 n2
  have t3 := row_kept h1.tail hc3 n3
  have hc : Chg (· = l) w3 (w3.setCell ⟨l, 6, none⟩ v3) := Chg.setCell (S := (· = l)) (Chg.refl _ _) (fun _ => rfl) _
  refine ⟨⟨Arr.set a3 6 v3, row_kept r3 hc (row_head r3 a3 (by decide)), row_kept t3 hc (row_head t3 a3 (by decide)), row_kept ho hc (row_head ho a3 (by decide)), fun g hg e => ?_, Or.inl h.fl, fun g hg => Or.inl (h.fr g hg), fun g hg => Or.inl (h.ft g hg), fun g hg => Or.inr hg, fun k hk => ?_⟩, ((hc1.mono (fun _ _ h => h.elim)).trans hc3 (fun i hi e => h.fw i e.symm)).trans hc (fun i hi e => by have e : i = l := e; rw [e]; exact h.fl)⟩
  · rcases h4 with h4 | h4
    · exact h.rw g hg (h4 ▸ e)
    · rw [h4] at e
      have := (h1.recs.lt g hg).2
      cases e
      omega
  · have := hc.size
    have := hc3.size
    rcases hk with hk | hk
    · have := h1.lt k hk; omega
    · have := (ho.lt k hk).2; omega

/-- The log's number of bytes that wait. -/
theorem LogIs.setMore (h : LogIs w l d F V rv tv wv) (m : Nat) : LogIs (w.setCell ⟨l, 7, none⟩ (.int .i64 m)) l d F { V with more := m } rv tv wv ∧ Chg F w (w.setCell ⟨l, 7, none⟩ (.int .i64 m)) := by
  have hc : Chg (· = l) w (w.setCell ⟨l, 7, none⟩ (.int .i64 m)) := Chg.setCell (S := (· = l)) (Chg.refl _ _) (fun _ => rfl) _
  exact ⟨⟨h.head.set 7 _, row_kept h.recs hc (row_head h.recs h.head (by decide)), row_kept h.tail hc (row_head h.tail h.head (by decide)), row_kept h.wait hc (row_head h.wait h.head (by decide)), h.rw, h.fl, h.fr, h.ft, h.fw, fun k hk => Nat.lt_of_lt_of_le (h.lt k hk) hc.size⟩, hc.mono (fun i _ e => by have e : i = l := e; rw [e]; exact h.fl)⟩

/-- What Add leaves. -/
def AddPost (w : World) (l d : Nat) (F Fd : Nat → Prop) (X : DV) (R : Nat × LV) (e : Ending) (w' : World) : Prop :=
  e = .returned (.int .i64 (R.1 : Int)) ∧ ∃ F', LogAt w' l d F' Fd X R.2 ∧ (∀ k, F' k → F k ∨ w.heap.size ≤ k) ∧ Chg F w w'

set_option maxHeartbeats 1000000 in
theorem add_any (w : World) (h : LogAt w l d F Fd X V) (hV : V.Ok X.B.length) (r : Blk) (hr : r.length ≤ 1000000000000) :
    Calls Tryz.prog 67 #[.pointer (some ⟨l, 0, none⟩), strV r] w (AddPost w l d F Fd X (addF X.B.length V r)) := by
  have HNo := Lib.hid (log_no w h)
  have HFr := Lib.hid (framed_any w r hr)
  have HRo := Lib.hid (room_any w h hV)
  have H := Lib.hid h
  have HV := Lib.hid hV
  obtain ⟨⟨rv, tv, wv, hl⟩, -, -⟩ := h
  have HL := Lib.hid hl
  obtain ⟨R, hR⟩ : ∃ R, addF X.B.length V r = R := ⟨_, rfl⟩
  rw [hR]
  have HR := Lib.hid hR
  have c8 : w.cell? ⟨l, 8, none⟩ = some (.bool V.lost) := hl.head.cell rfl
  obtain ⟨sr, hsr⟩ : ∃ sr : ByteArray, strV r = .string sr := ⟨_, rfl⟩
  have HSr := Lib.hid hsr
  have i1 : (r.length : Int) ≤ 1000000000000 := by omega
  rw [hsr] at HFr ⊢
  clear hl hR hsr hV
  rcases Bool.eq_false_or_eq_true V.lost with hlo | hlo
  · rw [hlo] at c8
    have HLo := Lib.hid hlo
    clear hlo
    go_enter Tryz.func67, Tryz.ntmps67
    go_wp2_with (first
      | (go_at_call 107; refine HNo.out.mono ?_; rintro e w' ⟨rfl, rfl⟩)
      | (go_at_call 126; refine HFr.out.mono ?_; rintro e w' ⟨rfl, rfl⟩))
    go_ret
    have hRe : R = (15, V) := by rw [← HR.out]; unfold addF; rw [if_pos HLo.out]
    rw [hRe]
    exact ⟨rfl, F, H.out, fun k hk => Or.inl hk, Chg.refl _ _⟩
  · rw [hlo] at c8
    have HLo := Lib.hid hlo
    clear hlo
    by_cases hb : r.length ≤ 4096
    · have hd : decide (r.length ≤ 4096) = true := by simp [hb]
      rw [hd] at HFr
      have HB := Lib.hid hb
      obtain ⟨ρ, hρ⟩ : ∃ ρ, roomF X.B.length V = ρ := ⟨_, rfl⟩
      rw [hρ] at HRo
      have HRh := Lib.hid hρ
      clear hd hρ
      by_cases hf : ρ < (r.length : Int) + 8
      · go_enter Tryz.func67, Tryz.ntmps67
        go_wp2_with (first
          | (go_at_call 107; refine HNo.out.mono ?_; rintro e w' ⟨rfl, rfl⟩)
          | (go_at_call 126; refine HFr.out.mono ?_; rintro e w' ⟨rfl, rfl⟩)
          | (go_at_call 127; fail))
        refine HRo.out.mono ?_
        rintro e w1 ⟨rfl, hc1⟩
        have HC1 := Lib.hid hc1
        clear hc1
        dsimp only
        go_wp2_with fail
        go_ret
        have hRe : R = (7, V) := by
          rw [← HR.out]
          unfold addF
          rw [if_neg (by rw [HLo.out]; decide), if_neg (by omega), HRh.out, if_pos hf]
        rw [hRe]
        exact ⟨rfl, F, H.out.fresh HC1.out, fun k hk => Or.inl hk, HC1.out.mono (fun _ _ h => h.elim)⟩
      · go_enter Tryz.func67, Tryz.ntmps67
        go_wp2_with (first
          | (go_at_call 107; refine HNo.out.mono ?_; rintro e w' ⟨rfl, rfl⟩)
          | (go_at_call 126; refine HFr.out.mono ?_; rintro e w' ⟨rfl, rfl⟩)
          | (go_at_call 127; fail))
        refine HRo.out.mono ?_
        rintro e w1 ⟨rfl, hc1⟩
        have hRe : R = (0, { V with wait := V.wait ++ [r], more := V.more + (r.length + 8) }) := by
          rw [← HR.out]
          unfold addF
          rw [if_neg (by rw [HLo.out]; decide), if_neg (by omega), HRh.out, if_neg (by omega)]
        have HRe := Lib.hid hRe
        have hs := HV.out.small
        have hl1 := HL.out.kept hc1 (fun _ _ h => h)
        obtain ⟨oaw, capw, rfl⟩ := own_slice hl1.wait
        have hc2 : Chg (fun _ => False) w1 (w1.alloc (.cells #[.string sr] 9)) := (Chg.refl _ _).alloc _
        have hl2 := hl1.kept hc2 (fun _ _ h => h)
        have hs2 : SlAt (w1.alloc (.cells #[.string sr] 9)) (.slice (some ⟨w1.heap.size, 0, none⟩) 1 1) [strV r] := by
          rw [HSr.out]
          exact SlAt.of_own (own_of_block (base := 0) (n := 1) (show (w1.alloc (.cells #[.string sr] 9)).heap[w1.heap.size]? = _ from at1) (Nat.zero_le _) rfl (by unfold maxLen; omega))
        obtain ⟨v3, w3, hr3, ho3, hg3, h43⟩ := append_strs hl2.wait hs2 (fun y hy => one_strs [r] y (by simpa using hy)) (Nat.zero_le _) (by simp; omega) 109
        rw [show (V.wait.map strV ++ [strV r]) = (V.wait ++ [r]).map strV by simp, List.length_map] at ho3
        obtain ⟨n3, hn3⟩ : ∃ n3, (V.wait ++ [r]).length = n3 := ⟨_, rfl⟩
        rw [hn3] at ho3
        obtain ⟨oa3, cap3, rfl⟩ := own_slice ho3
        obtain ⟨hl4, hc4⟩ := hl2.growWait (Chg.refl _ _) hn3 ho3 hg3 h43
        obtain ⟨hl5, hc5⟩ := hl4.setMore (V.more + (r.length + 8))
        have hc3 := Chg.of_grown hg3
        have hl3h : Arr w3 l 177 (logC d V rv tv (.slice oaw V.wait.length capw)) := hc3.at hl2.head (fun e => row_head hl2.wait hl2.head (by decide) l e.symm rfl)
        have k1 : w1.cell? ⟨l, 6, none⟩ = some (.slice oaw V.wait.length capw) := hl1.head.cell rfl
        have k2 : (w1.alloc (.cells #[.string sr] 9)).cell? ⟨l, 6, none⟩ = some (.slice oaw V.wait.length capw) := hl2.head.cell rfl
        have k3 : w3.cell? ⟨l, 6, none⟩ = some (.slice oaw V.wait.length capw) := hl3h.cell rfl
        have z3 : w3.frozen? ⟨l, 6, none⟩ = false := hl3h.free
        obtain ⟨w4, hw4⟩ : ∃ w4, w3.setCell ⟨l, 6, none⟩ (.slice oa3 n3 cap3) = w4 := ⟨_, rfl⟩
        rw [hw4] at hl4 hc4 hl5 hc5
        have k7 : (w3.setCell ⟨l, 6, none⟩ (.slice oa3 n3 cap3)).cell? ⟨l, 7, none⟩ = some (.int .i64 V.more) := by rw [hw4]; exact hl4.head.cell rfl
        have z7 : (w3.setCell ⟨l, 6, none⟩ (.slice oa3 n3 cap3)).frozen? ⟨l, 7, none⟩ = false := by rw [hw4]; exact hl4.head.free
        have i2 : (V.more : Int) ≤ 131008 := by omega
        have HW4 := Lib.hid hw4
        have HR3 := Lib.hid hr3
        have HL5 := Lib.hid hl5
        have hnew : ∀ k, (Value.slice oa3 n3 cap3).ownBlock = some k → F k ∨ w.heap.size ≤ k := fun k hk => by
          rcases h43 with e | e
          · exact Or.inl (HL.out.fw k (e ▸ hk))
          · rw [e] at hk
            cases hk
            exact Or.inr (hc1.trans' hc2).size
        have HNw := Lib.hid hnew
        have HC5 : Hid (Chg F w (w4.setCell ⟨l, 7, none⟩ (.int .i64 ((V.more + (r.length + 8) : Nat) : Int)))) := Lib.hid ((((hc1.trans' hc2).mono (fun _ _ h => h.elim)).trans' hc4).trans hc5 (fun k hk h => h.elim id (fun h => (hnew k h).resolve_right (by omega))))
        have HSz := Lib.hid ((hc1.trans' hc2).size)
        clear hnew
        clear hc1 hc2 hc3 hl1 hl2 hs2 hr3 ho3 hg3 h43 hl4 hc4 hl5 hc5 hl3h hw4 hs hRe hn3
        dsimp only
        go_wp2_with (first
          | (at_builtin; refine Lib.wpList_append_run _ rfl _ _ _ _ rfl _ _ rfl rfl _ _ HR3.out ?_))
        go_ret
        have h5 := HL5.out
        have c5 := HC5.out
        rw [show ((V.more + (r.length + 8) : Nat) : Int) = (V.more : Int) + ((r.length : Int) + 8) by omega] at h5 c5
        rw [HW4.out, HRe.out]
        refine ⟨rfl, _, ⟨⟨rv, tv, _, h5⟩, H.out.disk.kept c5 (fun k hk hF => H.out.off k hF hk), fun k hk hF => ?_⟩, fun k hk => hk.elim Or.inl (HNw.out k), c5⟩
        rcases hk with hk | hk
        · exact H.out.off k hk hF
        · rcases HNw.out k hk with h1 | h1
          · exact H.out.off k h1 hF
          · have := H.out.disk.lt k hF
            omega
    · have hd : decide (r.length ≤ 4096) = false := by simp [hb]
      rw [hd] at HFr
      have HB := Lib.hid hb
      clear hd
      go_enter Tryz.func67, Tryz.ntmps67
      go_wp2_with (first
        | (go_at_call 107; refine HNo.out.mono ?_; rintro e w' ⟨rfl, rfl⟩)
        | (go_at_call 126; refine HFr.out.mono ?_; rintro e w' ⟨rfl, rfl⟩))
      go_ret
      have hRe : R = (3, V) := by rw [← HR.out]; unfold addF; rw [if_neg (by rw [HLo.out]; decide), if_pos (by have := HB.out; omega)]
      rw [hRe]
      exact ⟨rfl, F, H.out, fun k hk => Or.inl hk, Chg.refl _ _⟩

end Go.Proofs.YtbjagmlbamjdbaaGreat.wals
end

/-
  wal: put: a head is written, and made the log's.
-/
section
set_option linter.unusedSimpArgs false
set_option linter.unusedVariables false
namespace Go.Proofs.YtbjagmlbamjdbaaGreat.wals
open Go.RowKit Go.My disks bufs
set_option maxRecDepth 100000

variable {w w' : World} {l d : Nat} {F Fd : Nat → Prop} {X : DV} {V : LV} {rv tv wv : Value}

theorem goes_write (X : DV) (i : Int) (b : Blk) : Goes X (X.write i b) := by
  unfold DV.write
  split
  · exact Goes.refl X
  · split
    · exact goes_burn X
    · exact ⟨(goes_burn X).fuse, (goes_burn X).free⟩
theorem goes_flush (X : DV) : Goes X X.flush := by
  unfold DV.flush
  split
  · exact Goes.refl X
  · split
    · exact goes_burn X
    · exact ⟨(goes_burn X).fuse, (goes_burn X).free⟩

theorem write_sl (w : World) (h : DiskAt w d Fd X) (i : Int) (hi : inR i) (hf : X.fuse ≤ 9223372036854775807) {v : Value} {b : Blk} (hb : SlAt w v (cellsB b)) (hbf : ∀ g, v.ownBlock = some g → ¬ Fd g) (hL : ∀ j, (X.L j).length < 1000000) :
    Calls Tryz.prog 166 #[.pointer (some ⟨d, 0, none⟩), .int .i64 i, v] w fun e w' => e = .returned (.int .i64 (writeC X i b.length)) ∧ DiskAt w' d (grow Fd w w') (X.write i b) ∧ Chg Fd w w' := by
  obtain ⟨bv, q, m, h⟩ := h
  obtain ⟨oa, cap, rfl, h2, h3⟩ := hb
  rw [cellsB_length] at *
  exact write_any w h i hi hf oa _ cap b ⟨oa, cap, by rw [cellsB_length], h2, h3⟩ (fun a ha => by subst ha; exact hbf _ rfl) hL

/-- The log's head, three cells of its block, is set. -/
theorem LogIs.setHead (h : LogIs w l d F V rv tv wv) (s a u : Nat) : LogIs (w.setCells l 1 [.int .i64 s, .int .i64 a, .int .i64 u]) l d F { V with seq := s, area := a, used := u } rv tv wv ∧ Chg (· = l) w (w.setCells l 1 [.int .i64 s, .int .i64 a, .int .i64 u]) := by
  have hc := chg_setCells l [.int .i64 s, .int .i64 a, .int .i64 u] 1 w
  have hne : ∀ {base n : Nat} {e : TypeId} {v : Value} {xs : List Value}, w.ownsRow base e 1 v n xs → e ≠ 177 → ∀ g, v.ownBlock = some g → g ≠ l := by
    intro base n e v xs ho hne g hg e1
    obtain ⟨cur, hcur⟩ := row_obj ho hg
    rw [e1, h.head] at hcur
    simp only [Option.some.injEq, Obj.cells.injEq] at hcur
    exact hne hcur.2.1.symm
  refine ⟨⟨arr_setCells [.int .i64 s, .int .i64 a, .int .i64 u] 1 w _ h.head (by simp [logC]), row_kept h.recs hc (hne h.recs (by decide)), row_kept h.tail hc (hne h.tail (by decide)), row_kept h.wait hc (hne h.wait (by decide)), h.rw, h.fl, h.fr, h.ft, h.fw, fun k hk => Nat.lt_of_lt_of_le (h.lt k hk) hc.size⟩, hc⟩

/-- What a call that writes leaves: an error's number, the disk, the log. -/
def LogPost (w : World) (l d : Nat) (F Fd : Nat → Prop) (n : Int) (X' : DV) (V' : LV) (e : Ending) (w' : World) : Prop :=
  e = .returned (.int .i64 n) ∧ ∃ F' Fd', LogAt w' l d F' Fd' X' V' ∧ (∀ k, F' k → F k ∨ w.heap.size ≤ k) ∧ (∀ k, Fd' k → Fd k ∨ w.heap.size ≤ k) ∧ Chg (fun k => F k ∨ Fd k) w w'

/-- The log behind a head that was put, or not. -/
def putV (V : LV) (n : Int) (s a u : Nat) : LV := if n = 0 then { V with seq := s, area := a, used := u } else V

set_option maxHeartbeats 2000000 in
theorem put_any (w : World) (h : LogAt w l d F Fd X V) (s a u : Nat) (hs : s < 9223372036854775808) (ha : a < 256) (hu : u < 4294967296) (hf : X.fuse ≤ 9223372036854775807) (hL : ∀ j, (X.L j).length < 1000000) :
    Calls Tryz.prog 151 #[.pointer (some ⟨l, 0, none⟩), .agg #[.int .i64 s, .int .i64 a, .int .i64 u]] w (LogPost w l d F Fd (putH X s a u).1 (putH X s a u).2 (putV V (putH X s a u).1 s a u)) := by
  have HBy := fun w' => Lib.hid (bytes_any w' s a u hs ha hu)
  obtain ⟨hd, hhd⟩ : ∃ hd, headB s a u = hd := ⟨_, rfl⟩
  have hl64 : hd.length = 64 := by rw [← hhd]; exact headB_length _ _ _
  simp only [hhd] at HBy
  obtain ⟨p, hp⟩ : ∃ p, s % 2 = p := ⟨_, rfl⟩
  have hp2 : p < 2 := by omega
  have hm1 : (s : Int).tmod 2 = (p : Int) := by rw [Int.tmod_eq_emod_of_nonneg (by omega)]; omega
  have hm2 : (s : Int) % 2 = (p : Int) := by omega
  have hput : putH X s a u = if writeC X (p : Int) 64 ≠ 0 then (writeC X (p : Int) 64, X.write (p : Int) hd) else if flushC (X.write (p : Int) hd) ≠ 0 then (flushC (X.write (p : Int) hd), (X.write (p : Int) hd).flush) else (0, (X.write (p : Int) hd).flush) := by
    unfold putH; rw [hhd, hp]
  obtain ⟨R, hR⟩ : ∃ R, putH X s a u = R := ⟨_, rfl⟩
  rw [hR] at hput ⊢
  have HPut := Lib.hid hput
  clear hput hp hR
  have H := Lib.hid h
  have HF := Lib.hid hf
  have HL := Lib.hid hL
  have HHd := Lib.hid hhd
  have H64 := Lib.hid hl64
  have i1 : (0 : Int) ≤ s := by omega
  have i2 : (s : Int) < 9223372036854775808 := by omega
  have HI := Lib.hid (And.intro i1 (And.intro hm1 hm2))
  clear h hf hL hhd hl64 ha hu hs i1 i2 hm1 hm2
  go_enter Tryz.func151, Tryz.ntmps151
  go_wp2_with (first
    | (go_at_call 152; fail))
  refine (HBy _).out.mono ?_
  rintro e w1 ⟨rfl, hc1⟩
  have HA1 := Lib.hid (show Arr w1 w.heap.size 175 [.int .i64 s, .int .i64 a, .int .i64 u] from hc1.at at1 id)
  have HC1 := Lib.hid (show Chg (fun _ => False) w w1 from ((Chg.refl _ _).alloc _).trans' hc1)
  have HSzB : Hid ((cellsB hd).toArray.size = 64) := Lib.hid (by simp [cellsB_length, H64.out])
  clear hc1 HBy
  dsimp only
  go_wp2_with (first
    | (refine wpList_store_new rfl 178 _ _ rfl (cellsB hd).toArray rfl rfl (size_wblock.trans (by rw [HSzB.out])) (by rw [HSzB.out]; rfl) (all_oneCell_toArray (one_cellsB _)) ?_))
  obtain ⟨w2, hw2⟩ : ∃ w2, w1.alloc (.cells (cellsB hd).toArray 178) = w2 := ⟨_, rfl⟩
  have hc2 : Chg (fun _ => False) w1 w2 := by rw [← hw2]; exact (Chg.refl _ _).alloc _
  have hB2 : Arr w2 w1.heap.size 178 (cellsB hd) := by rw [← hw2]; exact at1
  have HB2 := Lib.hid hB2
  have HA2 := Lib.hid (show Arr w2 w.heap.size 175 [.int .i64 s, .int .i64 a, .int .i64 u] from hc2.at HA1.out id)
  have HC2 := Lib.hid (HC1.out.trans' hc2)
  have HL2 := Lib.hid (H.out.fresh (HC1.out.trans' hc2))
  have HSl := Lib.hid (show SlAt w2 (.slice (some ⟨w1.heap.size, 0, none⟩) 64 64) (cellsB hd) from by
    have := blk_sub hB2 0 64 64 (by rw [H64.out]; omega) (by omega)
    rwa [List.drop_zero, List.take_of_length_le (by rw [H64.out]; omega)] at this)
  have HS1 := Lib.hid (show w.heap.size < w1.heap.size from lt_of_block HA1.out)
  rw [hw2]
  clear hw2 hc2 hB2 HA1 HC1 HSzB
  obtain ⟨i1, hm1, hm2⟩ := HI.out
  have hcd : w2.cell? ⟨l, 0, none⟩ = some (.pointer (some ⟨d, 0, none⟩)) := by
    obtain ⟨⟨rv, tv, wv, hl⟩, -, -⟩ := HL2.out
    exact hl.head.cell rfl
  have hcs : w2.cell? ⟨w.heap.size, 0, none⟩ = some (.int .i64 s) := HA2.out.cell rfl
  refine wp_region_noPanic ?_
  refine wp_region_held_drew (S := (fun w' => w'.cell? ⟨l, 0, none⟩ = some (.pointer (some ⟨d, 0, none⟩)) ∧ w'.cell? ⟨w.heap.size, 0, none⟩ = some (.int .i64 s))) (by kernel_rfl) (⟨hcd, hcs⟩) (fun hHeld => ?_)
  refine take_list (i := 0) (v := ?_) rfl (by kernel_rfl) (by kernel_rfl) (by kernel_rfl) (fun _ _ _ h => h) (Or.inl ⟨by rfl, fun w hSw => ?_⟩) hHeld ?_
  rotate_left
  · (obtain ⟨hSw1, hSw2⟩ := hSw; go_simp)
    try with_reducible rfl
  simp only [Act.put, List.setIfInBounds_toArray, List.set_cons_zero, List.set_cons_succ]
  refine take_list (i := 1) (v := ?_) rfl (by kernel_rfl) (by kernel_rfl) (by kernel_rfl) (fun _ _ _ h => h) (Or.inl ⟨by rfl, fun w hSw => ?_⟩) hHeld ?_
  rotate_left
  · (obtain ⟨hSw1, hSw2⟩ := hSw; go_simp)
    try with_reducible rfl
  simp only [Act.put, List.setIfInBounds_toArray, List.set_cons_zero, List.set_cons_succ]
  refine take_list (i := 2) (v := ?_) rfl (by kernel_rfl) (by kernel_rfl) (by kernel_rfl) (fun _ _ _ h => h) (Or.inl ⟨by rfl, fun w hSw => ?_⟩) hHeld ?_
  rotate_left
  · (obtain ⟨hSw1, hSw2⟩ := hSw; go_simp)
    try with_reducible rfl
  simp only [Act.put, List.setIfInBounds_toArray, List.set_cons_zero, List.set_cons_succ]
  refine take_list (i := 3) (v := ?_) rfl (by kernel_rfl) (by kernel_rfl) (by kernel_rfl) (fun _ _ _ h => h) (Or.inl ⟨by rfl, fun w hSw => ?_⟩) hHeld ?_
  rotate_left
  · (obtain ⟨hSw1, hSw2⟩ := hSw; go_simp)
    try with_reducible rfl
  simp only [Act.put, List.setIfInBounds_toArray, List.set_cons_zero, List.set_cons_succ]
  refine take_list (i := 4) (v := ?_) rfl (by kernel_rfl) (by kernel_rfl) (by kernel_rfl) (fun _ _ _ h => h) (Or.inl ⟨by rfl, fun w hSw => ?_⟩) hHeld ?_
  rotate_left
  · (obtain ⟨hSw1, hSw2⟩ := hSw; go_simp)
    try with_reducible rfl
  simp only [Act.put, List.setIfInBounds_toArray, List.set_cons_zero, List.set_cons_succ]
  refine take_list (i := 5) (v := ?_) rfl (by kernel_rfl) (by kernel_rfl) (by kernel_rfl) (fun _ _ _ h => h) (Or.inl ⟨by rfl, fun w hSw => ?_⟩) hHeld ?_
  rotate_left
  · (obtain ⟨hSw1, hSw2⟩ := hSw; go_simp)
    try with_reducible rfl
  simp only [Act.put, List.setIfInBounds_toArray, List.set_cons_zero, List.set_cons_succ]
  refine take_list (i := 6) (v := ?_) rfl (by kernel_rfl) (by kernel_rfl) (by kernel_rfl) (fun _ _ _ h => h) (Or.inl ⟨by rfl, fun w hSw => ?_⟩) hHeld ?_
  rotate_left
  · (obtain ⟨hSw1, hSw2⟩ := hSw; go_simp)
    try with_reducible rfl
  simp only [Act.put, List.setIfInBounds_toArray, List.set_cons_zero, List.set_cons_succ]
  refine take_list (i := 7) (v := ?_) rfl (by kernel_rfl) (by kernel_rfl) (by kernel_rfl) (fun _ _ _ h => h) (Or.inl ⟨by rfl, fun w hSw => ?_⟩) hHeld ?_
  rotate_left
  · (obtain ⟨hSw1, hSw2⟩ := hSw; go_simp)
    try with_reducible rfl
  simp only [Act.put, List.setIfInBounds_toArray, List.set_cons_zero, List.set_cons_succ]
  refine wpAnyH_ready (rs := [8]) (by kernel_rfl) (by simp) (one_list (i := 8) rfl (by rfl) (fun K hK => ?_) AllReadyH.nil)
  go_simp
  refine (write_sl _ (HL2.out.disk.fresh (Chg.refl _ _).drew) (p : Int) ⟨by omega, by omega⟩ HF.out (HSl.out.kept (Chg.refl _ _).drew) (fun g hg hF => ?_) HL.out).mono ?_
  · simp only [Value.ownBlock, Option.some.injEq] at hg
    have := H.out.disk.lt g hF
    have := HS1.out
    omega
  rintro e w3 ⟨rfl, hd3, hc3⟩
  rw [H64.out]
  have hFd : ∀ k, Fd k → k < w.heap.size := H.out.disk.lt
  have hc23 : Chg Fd w2 w3 := (Chg.refl _ w2).drew.trans' hc3
  have hA3 : Arr w3 w.heap.size 175 [.int .i64 s, .int .i64 a, .int .i64 u] := hc23.at HA2.out (fun hF => by have := hFd _ hF; omega)
  have hL3 : LogAt w3 l d F (grow Fd w2 w3) (X.write (p : Int) hd) V := by
    obtain ⟨hl, -, ho⟩ := HL2.out
    obtain ⟨rv, tv, wv, hl⟩ := hl
    refine ⟨⟨rv, tv, wv, hl.kept hc23 (fun k hk hF => ho k hk hF)⟩, hd3, fun k hk hg => ?_⟩
    rcases hg with hg | hg
    · exact ho k hk hg
    · have := hl.lt k hk
      omega
  have hcd3 : w3.cell? ⟨l, 0, none⟩ = some (.pointer (some ⟨d, 0, none⟩)) := by
    obtain ⟨⟨rv, tv, wv, hl⟩, -, -⟩ := hL3
    exact hl.head.cell rfl
  have HL3 := Lib.hid hL3
  have HA3 := Lib.hid hA3
  have HC3 := Lib.hid (show Chg Fd w w3 from (HC2.out.mono (fun _ _ h => h.elim)).trans' hc23)
  have HGr := Lib.hid (show ∀ k, grow Fd w2 w3 k → Fd k ∨ w.heap.size ≤ k from fun k hk => by
    rcases hk with hk | hk
    · exact Or.inl hk
    · have := HC2.out.size
      exact Or.inr (by omega))
  have HSq := Lib.hid (show w.heap.size < w2.heap.size from Nat.lt_trans HS1.out (lt_of_block HB2.out))
  have HFl := Lib.hid (show (X.write (p : Int) hd).fuse ≤ 9223372036854775807 from Int.le_trans (goes_write X _ hd).fuse HF.out)
  clear hFd hc23 hL3 hd3 hc3
  dsimp only
  refine hK _ _ (⟨hcd3, hA3.cell rfl⟩) (fun hHeld2 => ?_)
  try simp only [Act.put, List.setIfInBounds_toArray, List.set_cons_zero, List.set_cons_succ]
  clear hA3
  refine take_list (i := 9) (v := ?_) rfl (by kernel_rfl) (by kernel_rfl) (by kernel_rfl) (fun _ _ _ h => h) (Or.inl ⟨by rfl, fun w hSw => ?_⟩) hHeld2 ?_
  rotate_left
  · (skip; go_simp)
    try with_reducible rfl
  simp only [Act.put, List.setIfInBounds_toArray, List.set_cons_zero, List.set_cons_succ]
  refine wpAnyH_done (by kernel_rfl) ?_ _
  refine NoPanic.normal ?_
  clear hHeld hHeld2 hcd hcs HA2 HL2 HSl HS1 i1 hm1 hm2
  by_cases h1 : writeC X (p : Int) 64 = 0
  · have hb1 : (writeC X (p : Int) 64 != 0) = false := by simp [h1]
    have HZ1 := Lib.hid h1
    clear h1
    have cd4 := hcd3
    clear hcd3
    go_wp2_with (first
      | (go_at_call 167; fail))
    refine (flush_at _ HL3.out.disk HFl.out).mono ?_
    rintro e w4 ⟨rfl, hd4, hc4⟩
    have hL4 : LogAt w4 l d F (grow Fd w2 w3) (X.write (p : Int) hd).flush V := by
      obtain ⟨⟨rv, tv, wv, hl⟩, -, ho⟩ := HL3.out
      exact ⟨⟨rv, tv, wv, hl.kept hc4 (fun k hk hF => ho k hk hF)⟩, hd4, ho⟩
    have hC4 : Chg Fd w w4 := HC3.out.trans hc4 (fun i hi hg => by
      rcases HGr.out i hg with h | h
      · exact h
      · omega)
    have hA4 : Arr w4 w.heap.size 175 [.int .i64 s, .int .i64 a, .int .i64 u] := hc4.at HA3.out (fun hg => by
      rcases hg with h | h
      · have := H.out.disk.lt _ h; omega
      · have := lt_of_block HB2.out
        have := HSq.out
        omega)
    have HL4 := Lib.hid hL4
    have HC4 := Lib.hid hC4
    have HA4 := Lib.hid hA4
    clear hL4 hC4 hA4 hd4 hc4 cd4
    dsimp only
    by_cases h2 : flushC (X.write (p : Int) hd) = 0
    · have hb2 : (flushC (X.write (p : Int) hd) != 0) = false := by simp [h2]
      have HZ2 := Lib.hid h2
      clear h2
      have hth : w4.there l 1 3 := by
        obtain ⟨⟨rv, tv, wv, hl⟩, -, -⟩ := HL4.out
        intro j hj
        have := hl.head.there (1 + j) (by simp [logC]; omega)
        simpa using this
      have HTh := Lib.hid hth
      clear hth
      go_wp2_with (first
        | (refine wpList_load_mid rfl 175 _ rfl w.heap.size 0 rfl [.int .i64 s, .int .i64 a, .int .i64 u] _ HA4.out.range Tryz.underlying175 rfl size_head ?_)
        | (refine wpList_store_mid rfl 175 _ _ rfl l 1 #[.int .i64 s, .int .i64 a, .int .i64 u] rfl rfl HTh.out size_head (head_ones _ _ _) ?_))
      go_ret
      obtain ⟨⟨rv, tv, wv, hl⟩, hdk, ho⟩ := HL4.out
      obtain ⟨hl2, hc5⟩ := hl.setHead s a u
      rw [show R = (0, (X.write (p : Int) hd).flush) by rw [HPut.out, if_neg (fun h => h HZ1.out), if_neg (fun h => h HZ2.out)]]
      exact ⟨rfl, F, grow Fd w2 w3, ⟨⟨rv, tv, wv, hl2⟩, hdk.kept hc5 (fun k hk e => ho l hl.fl (e ▸ hk)), ho⟩, fun k hk => Or.inl hk, HGr.out, (HC4.out.mono (fun k _ hk => Or.inr hk)).trans' (hc5.mono (fun k _ e => Or.inl (e ▸ hl.fl)))⟩
    · have hb2 : (flushC (X.write (p : Int) hd) != 0) = true := by simp [h2]
      have HZ2 := Lib.hid h2
      clear h2
      go_wp2_with fail
      go_ret
      rw [show R = (flushC (X.write (p : Int) hd), (X.write (p : Int) hd).flush) by rw [HPut.out, if_neg (fun h => h HZ1.out), if_pos HZ2.out]]
      exact ⟨rfl, F, grow Fd w2 w3, by unfold putV; rw [if_neg HZ2.out]; exact HL4.out, fun k hk => Or.inl hk, HGr.out, HC4.out.mono (fun k _ hk => Or.inr hk)⟩
  · have hb1 : (writeC X (p : Int) 64 != 0) = true := by simp [h1]
    have HZ1 := Lib.hid h1
    clear h1
    go_wp2_with fail
    go_ret
    rw [show R = (writeC X (p : Int) 64, X.write (p : Int) hd) by rw [HPut.out, if_pos HZ1.out]]
    exact ⟨rfl, F, grow Fd w2 w3, by unfold putV; rw [if_neg HZ1.out]; exact HL3.out, fun k hk => Or.inl hk, HGr.out, HC3.out.mono (fun k _ hk => Or.inr hk)⟩

end Go.Proofs.YtbjagmlbamjdbaaGreat.wals
end

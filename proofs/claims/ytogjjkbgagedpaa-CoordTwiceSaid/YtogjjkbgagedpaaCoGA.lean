/-
  coord, of any plans: the entries with whatever packages their plans have; has, lacks.
-/
import Derived.Test.YtogjjkbgagedpaaCoordZ
import Derived.Test.YtogjjkbgagedpaaCoordT
namespace Go.Proofs.Ytogjjkbgagedpaa.coordg
open Go.RowKit Go.Maps Go.My Go.ChangeMaps coords
set_option maxRecDepth 100000

/-- Rows whose block lies in F. -/
def InF (F : Nat → Prop) (oa : Option Addr) (n : Nat) : Prop := n ≠ 0 → ∀ b off, oa = some ⟨b, off, none⟩ → F b

/-- A package that an entry, or a plan, has. -/
structure PkR (w : World) (F : Nat → Prop) (r : List Value) : Prop where
  is : ∃ (ow : Int) (nm vr : ByteArray) (oa : Option Addr) (rows : List (List Value)) (cap : Nat), r = [.int .i64 ow, .string nm, .string vr, .slice oa rows.length cap] ∧ nm.size ≤ maxLen ∧ vr.size ≤ maxLen ∧ RowsAt w 33 oa rows ∧ (∀ x ∈ rows, RefOk x) ∧ InF F oa rows.length ∧ rows.length ≤ 20

/-- The packages of a plan, as a slice. -/
structure PkOk (w : World) (F : Nat → Prop) (p : Value) : Prop where
  is : ∃ (oa : Option Addr) (cap : Nat) (rows : List (List Value)), p = .slice oa rows.length cap ∧ RowsAt w 4 oa rows ∧ (∀ r ∈ rows, PkR w F r) ∧ InF F oa rows.length ∧ rows.length ≤ 20 ∧ rows.length ≤ cap ∧ cap ≤ maxLen

theorem rows_keptF {w w' : World} {n : Nat} {oa : Option Addr} {l : List (List Value)} (h : RowsAt w n oa l) {S F : Nat → Prop} (hc : Chg S w w') (hF : InF F oa l.length) (hs : ∀ k, F k → ¬ S k) : RowsAt w' n oa l :=
  ⟨h.spot, h.row, fun b off ho i r j v hi hj => by
    have h1 := h.cell b off ho i r j v hi hj
    refine hc.cell h1 (hs _ (hF ?_ b off ho))
    intro e
    have := (List.getElem?_eq_some_iff.1 hi).1
    omega⟩

theorem PkR.kept {w w' : World} {F S : Nat → Prop} {r : List Value} (h : PkR w F r) (hc : Chg S w w') (hs : ∀ k, F k → ¬ S k) : PkR w' F r := by
  obtain ⟨ow, nm, vr, oa, rows, cap, h1, h2, h3, h4, h5, h6, h7⟩ := h.is
  exact ⟨ow, nm, vr, oa, rows, cap, h1, h2, h3, rows_keptF h4 hc h6 hs, h5, h6, h7⟩

theorem PkOk.kept {w w' : World} {F S : Nat → Prop} {p : Value} (h : PkOk w F p) (hc : Chg S w w') (hs : ∀ k, F k → ¬ S k) : PkOk w' F p := by
  obtain ⟨oa, cap, rows, h1, h2, h3, h4, h5⟩ := h.is
  exact ⟨oa, cap, rows, h1, rows_keptF h2 hc h4 hs, fun r hr => (h3 r hr).kept hc hs, h4, h5⟩

theorem PkR.wide {w : World} {F F' : Nat → Prop} {r : List Value} (h : PkR w F r) (hs : ∀ k, F k → F' k) : PkR w F' r := by
  obtain ⟨ow, nm, vr, oa, rows, cap, h1, h2, h3, h4, h5, h6, h7⟩ := h.is
  exact ⟨ow, nm, vr, oa, rows, cap, h1, h2, h3, h4, h5, fun hn b off ho => hs _ (h6 hn b off ho), h7⟩

theorem PkOk.wide {w : World} {F F' : Nat → Prop} {p : Value} (h : PkOk w F p) (hs : ∀ k, F k → F' k) : PkOk w F' p := by
  obtain ⟨oa, cap, rows, h1, h2, h3, h4, h5⟩ := h.is
  exact ⟨oa, cap, rows, h1, h2, fun r hr => (h3 r hr).wide hs, fun hn b off ho => hs _ (h4 hn b off ho), h5⟩

theorem PkOk.none (w : World) (F : Nat → Prop) : PkOk w F (.slice Option.none 0 0) :=
  ⟨Option.none, 0, [], rfl, ⟨fun h => absurd rfl h, by simp, by simp⟩, by simp, fun h => absurd rfl h, by simp, by simp, by unfold maxLen; omega⟩

def planG (r : Int) (p : Value) : List Value := [.int .i64 r, p]

structure EV where
  state : Int
  age : Int
  ps : List Int
  pk : List Value
  ans : List (Int × Bool)

def EV.rows (E : EV) : List (List Value) := List.zipWith planG E.ps E.pk

structure EntIs (w : World) (x : Nat) (F : Nat → Prop) (E : EV) (pv : Value) (qa : Nat) : Prop where
  head : w.heap[x]? = some (.cells #[.int .i64 E.state, .int .i64 E.age, pv, .map (some qa)] 86 (0, 0))
  plans : OwnRecs w 0 33 2 pv E.rows
  ans : MapIs iKey Value.bool w qa E.ans
  fr : F x
  fq : F qa
  fp : ∀ g, pv.ownBlock = some g → F g
  lt : ∀ k, F k → k < w.heap.size
  ok : ∀ r ∈ E.ps, 1 ≤ r ∧ r ≤ 6
  len : E.ps.length ≤ 6
  pkl : E.pk.length = E.ps.length
  pks : ∀ p ∈ E.pk, PkOk w (fun k => F k ∧ k ≠ x ∧ k ≠ qa) p

variable {w w' : World} {c q x qa : Nat} {F F' Fc : Nat → Prop} {lim : Int} {m : List (Int × Nat)} {E : EV} {pv : Value}

theorem EntIs.rowsLen (h : EntIs w x F E pv qa) : E.rows.length = E.ps.length := by
  unfold EV.rows; rw [List.length_zipWith, h.pkl]; omega

theorem EntIs.kept (h : EntIs w x F E pv qa) {S : Nat → Prop} (hc : Chg S w w') (hs : ∀ k, F k → ¬ S k) : EntIs w' x F E pv qa :=
  ⟨hc.at h.head (hs _ h.fr), h.plans.kept hc (fun g hg => hs g (h.fp g hg)), h.ans.kept hc (hs _ h.fq), h.fr, h.fq, h.fp, fun k hk => Nat.lt_of_lt_of_le (h.lt k hk) hc.size, h.ok, h.len, h.pkl, fun p hp => (h.pks p hp).kept hc (fun k hk => hs k hk.1)⟩
theorem EntIs.fresh (h : EntIs w x F E pv qa) (hc : Chg (fun _ => False) w w') : EntIs w' x F E pv qa := h.kept hc (fun _ _ h => h)

def Slices (l : List Value) : Prop := ∀ p ∈ l, ∃ oa n c, p = .slice oa n c
theorem EntIs.slices (h : EntIs w x F E pv qa) : Slices E.pk := fun p hp => by
  obtain ⟨oa, cap, rows, h1, -⟩ := (h.pks p hp).is
  exact ⟨oa, rows.length, cap, h1⟩

/-- The cells of the k-th plan. -/
theorem plan_cells (h : OwnRecs w 0 33 2 pv E.rows) (hl : E.pk.length = E.ps.length) (hs : Slices E.pk) {k : Nat} (hk : k < E.ps.length) :
    ∃ g cap r op np cp, pv = .slice (some ⟨g, 0, none⟩) E.ps.length cap ∧ E.ps[k]? = some r ∧ E.pk[k]? = some (.slice op np cp) ∧ w.cell? ⟨g, k * 2, none⟩ = some (.int .i64 r) ∧ w.cell? ⟨g, k * 2 + 1, none⟩ = some (.slice op np cp) := by
  have hrl : E.rows.length = E.ps.length := by unfold EV.rows; rw [List.length_zipWith, hl]; omega
  obtain ⟨g, cap, e, -, -, -, hc, -⟩ := h.cell (k := k) (by omega)
  rw [hrl] at e
  have hr : E.rows[k]'(by omega) = planG (E.ps[k]) (E.pk[k]'(by omega)) := by unfold EV.rows; rw [List.getElem_zipWith]
  rw [hr] at hc
  obtain ⟨op, np, cp, hp⟩ := hs (E.pk[k]'(by omega)) (List.getElem_mem _)
  rw [hp] at hc
  exact ⟨g, cap, E.ps[k], op, np, cp, e, List.getElem?_eq_getElem hk, by rw [← hp]; exact List.getElem?_eq_getElem (by omega), hc 0 _ rfl, hc 1 _ rfl⟩

theorem index_no (w : World) {pv : Value} {E : EV} (h : OwnRecs w 0 33 2 pv E.rows) (hpk : E.pk.length = E.ps.length) (hsl : Slices E.pk) (hl : E.ps.length ≤ 6) (f : Int) (g : Nat) (hg : w.cell? ⟨g, 0, none⟩ = some (.int .i64 f)) :
    Calls Try.prog 77 #[pv, .func (.func 59) #[] #[.pointer (some ⟨g, 0, none⟩)]] w fun e w' => ∃ k : Int, e = .returned (.int .i64 k) ∧ (f ∈ E.ps → 0 ≤ k) ∧ (f ∉ E.ps → k = -1) ∧ Chg (fun _ => False) w w' := by
  have hrl : E.rows.length = E.ps.length := by unfold EV.rows; rw [List.length_zipWith, hpk]; omega
  obtain ⟨oa, cap, rfl, -⟩ := h.slice
  rw [hrl] at h ⊢
  have H := Lib.hid h
  have HG := Lib.hid hg
  clear h hg
  go_enter Try.func77, Try.ntmps77
  go_wp2_with fail
  go_loopw [8] (fun j wr => ∃ k : Nat, j = .int .i64 k ∧ k ≤ E.ps.length ∧ (∀ i r, i < k → E.ps[i]? = some r → r ≠ f) ∧ Chg (fun _ => False) w wr) (fun j _ => E.ps.length - (intOf j).toNat)
  · exact ⟨0, rfl, Nat.zero_le _, by intro i r h; omega, Chg.refl _ _⟩
  obtain ⟨k, rfl, hk, hno, hc⟩ := hrel
  have HC := Lib.hid hc
  have HNo := Lib.hid hno
  clear hc hno
  by_cases hlt : k < E.ps.length
  · have hki : (k : Int) < (E.ps.length : Int) := by omega
    obtain ⟨g', cap', r, op, np, cp, e1, hr, -, d0, d1⟩ := plan_cells (H.out.kept HC.out (fun _ _ h => h)) hpk hsl hlt
    simp only [Value.slice.injEq] at e1
    obtain ⟨rfl, -, -⟩ := e1
    have Hr := Lib.hid hr
    clear hr
    by_cases he : r = f
    · have heb : (r == f) = true := by simp [he]
      have HMem := Lib.hid (show f ∈ E.ps from he ▸ List.mem_of_getElem? Hr.out)
      clear he
      go_wp2_with (first
        | (go_at_call 59; refine (has_closure _ r f g (HC.out.cell HG.out id) _).mono ?_; rw [heb]; rintro e w1 ⟨rfl, hc1⟩; have HC1 := Lib.hid hc1; clear hc1))
      go_ret
      exact ⟨k, rfl, fun _ => by omega, fun hn => absurd HMem.out hn, HC.out.trans' HC1.out⟩
    · have heb : (r == f) = false := by simp [he]
      have HNe := Lib.hid he
      clear he
      go_wp2_with (first
        | (go_at_call 59; refine (has_closure _ r f g (HC.out.cell HG.out id) _).mono ?_; rw [heb]; rintro e w1 ⟨rfl, hc1⟩; have HC1 := Lib.hid hc1; clear hc1))
      refine ⟨⟨k + 1, by go_num, hlt, fun i r' hi hr' => ?_, HC.out.trans' HC1.out⟩, meas_step hlt⟩
      rcases Nat.lt_or_ge i k with h | h
      · exact HNo.out i r' h hr'
      · have : i = k := by omega
        subst this
        rw [Hr.out] at hr'
        cases hr'; exact HNe.out
  · have hki : ¬ (k : Int) < (E.ps.length : Int) := by omega
    go_wp2_with fail
    go_ret
    refine ⟨-1, rfl, fun hm => ?_, fun _ => rfl, HC.out⟩
    obtain ⟨i, hi⟩ := List.getElem?_of_mem hm
    exact absurd rfl (HNo.out i f (by have := (List.getElem?_eq_some_iff.1 hi).1; omega) hi)

theorem contains_any (w : World) {pv : Value} {E : EV} (h : OwnRecs w 0 33 2 pv E.rows) (hpk : E.pk.length = E.ps.length) (hsl : Slices E.pk) (hl : E.ps.length ≤ 6) (f : Int) (g : Nat) (hg : w.cell? ⟨g, 0, none⟩ = some (.int .i64 f)) :
    Calls Try.prog 58 #[pv, .func (.func 59) #[] #[.pointer (some ⟨g, 0, none⟩)]] w fun e w' => e = .returned (.bool (decide (f ∈ E.ps))) ∧ Chg (fun _ => False) w w' := by
  have HI := Lib.hid (index_no w h hpk hsl hl f g hg)
  clear h hg
  by_cases hf : f ∈ E.ps
  · rw [decide_eq_true hf]
    have HF := Lib.hid hf
    clear hf
    go_enter Try.func58, Try.ntmps58
    go_wp2_with (go_at_call 77; refine HI.out.mono ?_; rintro e w1 ⟨k, rfl, h1, h2, hc1⟩; have HC1 := Lib.hid hc1; have hk0 : (0 : Int) ≤ k := h1 HF.out
                 clear hc1 h1 h2)
    go_ret
    exact ⟨rfl, HC1.out⟩
  · rw [decide_eq_false hf]
    have HF := Lib.hid hf
    clear hf
    go_enter Try.func58, Try.ntmps58
    go_wp2_with (go_at_call 77; refine HI.out.mono ?_; rintro e w1 ⟨k, rfl, h1, h2, hc1⟩; have HC1 := Lib.hid hc1; obtain rfl := h2 HF.out
                 clear hc1 h1 h2)
    go_ret
    exact ⟨rfl, HC1.out⟩

theorem has_any (w : World) (h : EntIs w x F E pv qa) (f : Int) : Calls Try.prog 36 #[ptrV x, .int .i64 f] w fun e w' => e = .returned (.bool (decide (f ∈ E.ps))) ∧ Chg (fun _ => False) w w' := by
  have hmf : ∀ (fn : Fn) (first cap : Array Value) (w : World), (Instr.makeFunc fn first cap).run Try.prog w = .ok (.func fn first cap) w := fun _ _ _ _ => rfl
  have hca := (Chg.refl (fun _ => False) w).alloc (.cells #[.int .i64 f] 3)
  have c2 : (w.alloc (.cells #[.int .i64 f] 3)).cell? ⟨x, 2, none⟩ = some pv := cell_of_block (hca.at h.head id) rfl
  have c2' : w.cell? ⟨x, 2, none⟩ = some pv := cell_of_block h.head rfl
  have hg : (w.alloc (.cells #[.int .i64 f] 3)).cell? ⟨w.heap.size, 0, none⟩ = some (.int .i64 f) := cell_of_block (block_alloc_new _ _) rfl
  have HH := Lib.hid (contains_any _ (h.plans.kept hca (fun _ _ h => h)) h.pkl h.slices h.len f w.heap.size hg)
  have HCa := Lib.hid hca
  clear h hca hg
  unfold ptrV
  go_enter Try.func36, Try.ntmps36
  go_wp2_with (go_at_call 58; refine HH.out.mono ?_; rintro e w1 ⟨rfl, hc1⟩; have HC1 := Lib.hid hc1; clear hc1)
  go_ret
  exact ⟨rfl, HCa.out.trans' HC1.out⟩

def lacksOf (E : EV) (k : Nat) : List Int := (E.ps.take k).filter (fun r => !(mget E.ans r).getD false)

theorem lacksOf_succ (E : EV) {k : Nat} {r : Int} (hr : E.ps[k]? = some r) : lacksOf E (k + 1) = lacksOf E k ++ if (mget E.ans r).getD false = true then [] else [r] := by
  rw [lacksOf, List.take_add_one, hr, Option.toList_some, List.filter_append]
  congr 1
  cases h : (mget E.ans r).getD false <;> simp [h]

set_option maxHeartbeats 1000000 in
theorem lacks_any (w : World) (h : EntIs w x F E pv qa) :
    Calls Try.prog 44 #[ptrV x] w fun e w' => ∃ v, e = .returned v ∧ w'.ownsRow w.heap.size 3 1 v (lacksOf E E.ps.length).length ((lacksOf E E.ps.length).map (Value.int .i64)) ∧ Chg (fun _ => False) w w' := by
  obtain ⟨oa, cap, rfl, -⟩ := h.plans.slice
  rw [h.rowsLen] at h
  have c2 : w.cell? ⟨x, 2, none⟩ = some (.slice oa E.ps.length cap) := cell_of_block h.head rfl
  obtain ⟨i0, hI0⟩ := info_parts info_int
  have HI0 := Lib.hid hI0
  have H := Lib.hid h
  have hl6 := h.len
  clear h hI0
  unfold ptrV
  go_enter Try.func44, Try.ntmps44
  go_wp2_with fail
  go_loopw [3, 11] (fun u j wr => ∃ k : Nat, j = .int .i64 k ∧ k ≤ E.ps.length ∧ wr.ownsRow w.heap.size 3 1 u (lacksOf E k).length ((lacksOf E k).map (Value.int .i64)) ∧ Chg (fun _ => False) w wr) (fun _ j _ => E.ps.length - (intOf j).toNat)
  · exact ⟨0, rfl, Nat.zero_le _, by simpa [lacksOf] using World.ownsRow_nil w w.heap.size 3 1, Chg.refl _ _⟩
  obtain ⟨k, rfl, hk, ho, hc⟩ := hrel
  have HO := Lib.hid ho
  have HC := Lib.hid hc
  clear ho hc
  by_cases hlt : k < E.ps.length
  · have hki : (k : Int) < (E.ps.length : Int) := by omega
    have hE := H.out.fresh HC.out
    obtain ⟨g, cap', r, op, np, cp, e1, hr, -, d0, d1⟩ := plan_cells hE.plans hE.pkl hE.slices hlt
    simp only [Value.slice.injEq] at e1
    obtain ⟨rfl, -, -⟩ := e1
    have hrok := hE.ok r (List.mem_of_getElem? hr)
    have Hr := Lib.hid hr
    have HE := Lib.hid hE
    have hll : (lacksOf E k).length ≤ 6 := by
      have : (lacksOf E k).length ≤ k := by unfold lacksOf; exact Nat.le_trans (List.length_filter_le _ _) (by rw [List.length_take]; omega)
      omega
    obtain ⟨n, hn⟩ : ∃ n, (lacksOf E k).length = n := ⟨_, rfl⟩
    rw [hn] at HO hll
    have HN := Lib.hid hn
    clear hr hE hn
    go_wp2_with fail
    obtain ⟨wb, hwb⟩ : ∃ wb, wr.alloc (.cells #[.int .i64 r, .slice op np cp] 33) = wb := ⟨_, rfl⟩
    rw [hwb]
    have hbx : wb.heap[wr.heap.size]? = some (.cells #[.int .i64 r, .slice op np cp] 33 (0, 0)) := by rw [← hwb]; exact block_alloc_new _ _
    have hcb : Chg (fun _ => False) wr wb := by rw [← hwb]; exact (Chg.refl _ _).alloc _
    have e0 : wb.cell? ⟨wr.heap.size, 0, none⟩ = some (.int .i64 r) := cell_of_block hbx rfl
    have e3 : wb.cell? ⟨x, 3, none⟩ = some (.map (some qa)) := cell_of_block (hcb.at HE.out.head id) rfl
    have hlk := (HE.out.ans.kept (hcb.drew) id).look Try.underlying84 (zero_bool _) false r (WalkArith.wf_i64 (by omega))
    rw [lookRes_bool1] at hlk
    obtain ⟨bb, hbb⟩ : ∃ bb, (mget E.ans r).getD false = bb := ⟨_, rfl⟩
    rw [hbb] at hlk
    have hlk : (Instr.lookup 84 (.map (some qa)) (.int .i64 r) false).run Try.prog wb.drew = .ok (.bool bb) wb.drew := hlk
    have hsucc := lacksOf_succ E Hr.out
    rw [hbb] at hsucc
    have HCb := Lib.hid hcb
    have HLk := Lib.hid hlk
    have HSu := Lib.hid hsucc
    clear hwb hbx hcb hlk hbb hsucc
    refine wp_region_noPanic ?_
    refine wp_region_held_drew (S := (fun w' => w'.cell? ⟨x, 3, none⟩ = some (.map (some qa)) ∧ w'.cell? ⟨wr.heap.size, 0, none⟩ = some (.int .i64 r) ∧ (Instr.lookup 84 (.map (some qa)) (.int .i64 r) false).run Try.prog w' = .ok (.bool bb) w')) (by kernel_rfl) (⟨e3, e0, HLk.out⟩) (fun hHeld => ?_)
    refine take_list (i := 0) (v := ?_) rfl (by kernel_rfl) (by kernel_rfl) (by kernel_rfl) (fun _ _ _ h => h) (Or.inl ⟨by rfl, fun w hSw => ?_⟩) hHeld ?_
    rotate_left
    · (obtain ⟨hSw1, hSw2, hSw3⟩ := hSw; go_simp)
      try with_reducible rfl
    simp only [Act.put, List.setIfInBounds_toArray, List.set_cons_zero, List.set_cons_succ]
    refine take_list (i := 1) (v := ?_) rfl (by kernel_rfl) (by kernel_rfl) (by kernel_rfl) (fun _ _ _ h => h) (Or.inl ⟨by rfl, fun w hSw => ?_⟩) hHeld ?_
    rotate_left
    · (obtain ⟨hSw1, hSw2, hSw3⟩ := hSw; go_simp)
      try with_reducible rfl
    simp only [Act.put, List.setIfInBounds_toArray, List.set_cons_zero, List.set_cons_succ]
    refine take_list (i := 2) (v := ?_) rfl (by kernel_rfl) (by kernel_rfl) (by kernel_rfl) (fun _ _ _ h => h) (Or.inl ⟨by rfl, fun w hSw => ?_⟩) hHeld ?_
    rotate_left
    · (obtain ⟨hSw1, hSw2, hSw3⟩ := hSw; go_simp)
      try with_reducible rfl
    simp only [Act.put, List.setIfInBounds_toArray, List.set_cons_zero, List.set_cons_succ]
    refine take_list (i := 3) (v := ?_) rfl (by kernel_rfl) (by kernel_rfl) (by kernel_rfl) (fun _ _ _ h => h) (Or.inl ⟨by rfl, fun w hSw => ?_⟩) hHeld ?_
    rotate_left
    · (obtain ⟨hSw1, hSw2, hSw3⟩ := hSw; go_simp)
      try with_reducible rfl
    simp only [Act.put, List.setIfInBounds_toArray, List.set_cons_zero, List.set_cons_succ]
    refine take_list (i := 4) (v := ?_) rfl (by kernel_rfl) (by kernel_rfl) (by kernel_rfl) (fun _ _ _ h => h) (Or.inl ⟨by rfl, fun w hSw => ?_⟩) hHeld ?_
    rotate_left
    · (obtain ⟨hSw1, hSw2, hSw3⟩ := hSw; go_simp)
      try with_reducible rfl
    simp only [Act.put, List.setIfInBounds_toArray, List.set_cons_zero, List.set_cons_succ]
    refine take_list (i := 5) (v := ?_) rfl (by kernel_rfl) (by kernel_rfl) (by kernel_rfl) (fun _ _ _ h => h) (Or.inl ⟨by rfl, fun w hSw => ?_⟩) hHeld ?_
    rotate_left
    · (obtain ⟨hSw1, hSw2, hSw3⟩ := hSw; go_simp)
      try with_reducible rfl
    simp only [Act.put, List.setIfInBounds_toArray, List.set_cons_zero, List.set_cons_succ]
    refine take_list (i := 6) (v := ?_) rfl (by kernel_rfl) (by kernel_rfl) (by kernel_rfl) (fun _ _ _ h => h) (Or.inl ⟨by rfl, fun w hSw => ?_⟩) hHeld ?_
    rotate_left
    · (obtain ⟨hSw1, hSw2, hSw3⟩ := hSw; go_simp)
      try with_reducible rfl
    simp only [Act.put, List.setIfInBounds_toArray, List.set_cons_zero, List.set_cons_succ]
    refine take_list (i := 7) (v := ?_) rfl (by kernel_rfl) (by kernel_rfl) (by kernel_rfl) (fun _ _ _ h => h) (Or.inl ⟨by rfl, fun w hSw => ?_⟩) hHeld ?_
    rotate_left
    · (obtain ⟨hSw1, hSw2, hSw3⟩ := hSw; go_simp)
      try with_reducible rfl
    simp only [Act.put, List.setIfInBounds_toArray, List.set_cons_zero, List.set_cons_succ]
    refine wpAnyH_done (by kernel_rfl) ?_ _
    refine NoPanic.normal ?_
    clear hHeld
    cases bb with
    | true =>
      go_wp2_with fail
      refine ⟨⟨k + 1, by go_num, hlt, ?_, HC.out.trans' HCb.out.drew⟩, meas_step hlt⟩
      rw [HSu.out, if_pos rfl, List.append_nil, HN.out]
      exact row_kept HO.out HCb.out.drew (fun _ _ h => h)
    | false =>
      have hca := HCb.out.drew.alloc (.cells #[.int .i64 r] 3)
      have HRow := Lib.hid (row_kept HO.out hca (fun _ _ h => h))
      have HCa := Lib.hid hca
      clear hca
      go_wp2_with (first
        | (at_builtin; refine wpList_append_own_at _ rfl _ _ 41 rfl w.heap.size 3 i0 (.int .i64 0) 1 8 Try.underlying41 HI0.out.1 HI0.out.2.1 HI0.out.2.2.1 HI0.out.2.2.2 rfl (by decide) _ n _ rfl HRow.out ⟨wb.heap.size, 0, none⟩ 1 1 [.int .i64 r] rfl rfl (cells_new wb.drew [.int .i64 r] _) (by intro x hx; rw [List.mem_singleton.1 hx]; rfl) (by unfold maxLen; omega) (by omega) (Nat.le_trans HC.out.size HCa.out.size) ?_; intro v6 w6 ho6 hg6 hx1 hx2; have HO6 := Lib.hid ho6; have HG6 := Lib.hid hg6; clear ho6 hg6 hx1 hx2))
      refine ⟨⟨k + 1, by go_num, hlt, ?_, (HC.out.trans' HCa.out).new (Chg.of_grown HG6.out) (fun j e => (HO.out.lt j e.symm).1)⟩, meas_step hlt⟩
      rw [HSu.out, if_neg (by simp), List.length_append, HN.out, List.map_append]
      exact HO6.out
  · have hki : ¬ (k : Int) < (E.ps.length : Int) := by omega
    have hkl : k = E.ps.length := by omega
    rw [hkl] at HO
    clear hkl
    go_wp2_with fail
    go_ret
    exact ⟨_, rfl, HO.out, HC.out⟩

end Go.Proofs.Ytogjjkbgagedpaa.coordg

/-
  disk: Crash, the walk.
-/
import Derived.Test.YtbkefhoapnaciaaGreatPkAc

section
set_option linter.unusedSimpArgs false
set_option linter.unusedVariables false
namespace Go.Proofs.YtbkefhoapnaciaaGreat.disks
open Go.RowKit Go.Maps Go.My Go.ChangeMaps
set_option maxRecDepth 100000

variable {w w' : World} {d q : Nat} {F F' : Nat → Prop} {X X' : DV} {bv : Value} {m : List (Int × (Value × List Blk))}

/-- How many of the waiting writes of the k-th block that has some are kept. -/
def keepAt (keep : List Int) (k N : Nat) : Nat := match keep[k]? with | some z => if 0 ≤ z then z.toNat % (N + 1) else 0 | none => 0

def DV.crashN (X : DV) (keep : List Int) : Nat → DV
  | 0 => X
  | k + 1 => match (waitsOf X)[k]? with
    | some p => { X.crashN keep k with B := if 0 < keepAt keep k p.2 then (X.crashN keep k).B.set p.1 (((X.L p.1)[keepAt keep k p.2 - 1]?).getD []) else (X.crashN keep k).B, L := fun t => if t = p.1 then [] else (X.crashN keep k).L t }
    | none => X.crashN keep k

def DV.crash (X : DV) (keep : List Int) : DV := { X.crashN keep (waitsOf X).length with fuse := -1, down := false }

theorem crashN_succ (X : DV) (keep : List Int) {k i N : Nat} (h : (waitsOf X)[k]? = some (i, N)) : X.crashN keep (k + 1) =
    { X.crashN keep k with B := if 0 < keepAt keep k N then (X.crashN keep k).B.set i (((X.L i)[keepAt keep k N - 1]?).getD []) else (X.crashN keep k).B, L := fun t => if t = i then [] else (X.crashN keep k).L t } := by
  rw [DV.crashN, h]

theorem crashN_len (X : DV) (keep : List Int) (k : Nat) : (X.crashN keep k).B.length = X.B.length := by
  induction k with
  | zero => rfl
  | succ k ih =>
    rw [DV.crashN]
    split
    · simp only
      split
      · rw [List.length_set, ih]
      · exact ih
    · exact ih

theorem waitsOf_at {X : DV} {k i N : Nat} (h : (waitsOf X)[k]? = some (i, N)) : i < X.B.length ∧ N = (X.L i).length ∧ 0 < N := by
  have := List.mem_of_getElem? h
  simp only [waitsOf, List.mem_map, List.mem_filter, List.mem_range, Prod.mk.injEq] at this
  obtain ⟨j, ⟨h1, h2⟩, rfl, rfl⟩ := this
  refine ⟨h1, rfl, ?_⟩
  cases hL : X.L j with
  | nil => rw [hL] at h2; simp at h2
  | cons a l => simp

theorem waitsOf_len (X : DV) : (waitsOf X).length ≤ X.B.length := by
  unfold waitsOf
  rw [List.length_map]
  exact Nat.le_trans (List.length_filter_le _ _) (by simp)

/-- The blocks that have not come up yet have what waits. -/
theorem crashN_L (X : DV) (keep : List Int) (k t : Nat) (h : ∀ (j : Nat) (p : Nat × Nat), j < k → (waitsOf X)[j]? = some p → p.1 ≠ t) : (X.crashN keep k).L t = X.L t := by
  induction k with
  | zero => rfl
  | succ k ih =>
    rw [DV.crashN]
    split
    · rename_i p hp
      simp only
      rw [if_neg (fun e => h k p (Nat.lt_succ_self k) hp e.symm)]
      exact ih (fun j p hj hp => h j p (by omega) hp)
    · exact ih (fun j p hj hp => h j p (by omega) hp)

theorem crashN_L_at (X : DV) (keep : List Int) {k i N : Nat} (h : (waitsOf X)[k]? = some (i, N)) : (X.crashN keep k).L i = X.L i := by
  refine crashN_L X keep k i (fun j p hj hp e => ?_)
  have h1 := waits_pairwise X
  rw [List.pairwise_iff_getElem] at h1
  obtain ⟨hjl, rfl⟩ := List.getElem?_eq_some_iff.1 hp
  obtain ⟨hkl, hk⟩ := List.getElem?_eq_some_iff.1 h
  have := h1 j k hjl hkl hj
  rw [hk] at this
  simp only at this
  omega

theorem mem_mdel {K V : Type} [DecidableEq K] {m : List (K × V)} {k : K} {p : K × V} (h : p ∈ mdel m k) : p ∈ m ∧ p.1 ≠ k := by
  unfold mdel at h
  rw [List.mem_filter] at h
  exact ⟨h.1, by simpa using h.2⟩

/-- What waits of block i is gone. -/
theorem DiskIs.delL (h : DiskIs w d F X bv q m) (i : Nat) (hm : MapIs iKey Prod.fst w' q (mdel m (i : Int))) (hc : Chg (· = q) w w') : DiskIs w' d F { X with L := fun t => if t = i then [] else X.L t } bv q (mdel m (i : Int)) := by
  refine ⟨hc.at h.head h.d_ne_q, h.rows.kept hc (fun j hj e => row_ne_q h h.rows (e ▸ hj)), h.any, hm, fun p hp => ⟨(h.lists p (mem_mdel hp).1).1.kept hc (fun j hj e => row_ne_q h (h.lists p (mem_mdel hp).1).1 (e ▸ hj)), (h.lists p (mem_mdel hp).1).2⟩,
    fun t => ?_, fun p hp => h.off p (mem_mdel hp).1, fun p hp p' hp' hne => h.apart p (mem_mdel hp).1 p' (mem_mdel hp').1 hne, h.fd, h.fq, h.fb, fun p hp => h.fm p (mem_mdel hp).1, fun j hj => Nat.lt_of_lt_of_le (h.lt j hj) hc.size, h.size⟩
  rw [mget_mdel]
  by_cases ht : t = i
  · subst ht; simp
  · have : ¬ (t : Int) = (i : Int) := by omega
    simp only [if_neg ht, if_neg this]
    exact h.waits t

theorem slat_chg {v : Value} {xs : List Value} {S : Nat → Prop} (h : SlAt w v xs) (hc : Chg S w w') (hs : ∀ g, v.ownBlock = some g → ¬ S g) : SlAt w' v xs := by
  obtain ⟨oa, cap, rfl, h2, h3⟩ := h
  refine ⟨oa, cap, rfl, h2, fun b off ho i x hx => hc.cell (h3 b off ho i x hx) ?_⟩
  subst ho
  exact hs b rfl

theorem ne_succ (n : Nat) : ¬ (n : Int) + 1 = 0 := by omega
theorem tmod_keep (z : Int) (hz : 0 ≤ z) (N : Nat) : z.tmod ((N : Int) + 1) = ((z.toNat % (N + 1) : Nat) : Int) := by
  obtain ⟨y, rfl⟩ : ∃ y : Nat, z = (y : Int) := ⟨z.toNat, by omega⟩
  rw [Int.toNat_natCast, Int.natCast_emod, Int.natCast_add]
  exact Int.tmod_eq_emod_of_nonneg (by omega)
theorem wrap_succ (n : Nat) (h : n < 1000000) : wrap64 ((n : Int) + 1) = (n : Int) + 1 := IntWalk.wrap64_in _ (by omega)

theorem wrap_nat (n : Nat) (h : n < 1000000) : wrap64 (n : Int) = (n : Int) := IntWalk.wrap64_in _ (by omega)
theorem meas_step {a k : Nat} (h : k < a) : a - (intOf (.int .i64 ((k : Int) + 1))).toNat < a - (intOf (.int .i64 (k : Int))).toNat := by simp [intOf]; omega

theorem oper_delete {P : Program} {o : Oper} {a : Go.Act} {w w' : World} {K : Go.Act → World → Prop} {Q : Exit → Go.Act → World → Prop} (s x : Operand) (t u : TypeId)
    (ho : o.op = .call { callee := .builtin .delete, args := #[s, x], argTypes := #[t, u] }) {v sv xv : Value} (hs : a.eval s = sv) (hx : a.eval x = xv)
    (hr : (Builtin.delete_ #[t, u] o.type #[sv, xv]).run P w = .ok v w') (h : K (a.put o.dst v) w') : Oper.wp P o a w K Q := by
  unfold Oper.wp execOp
  simp only [ho, resolve, invoke, builtin, Sem.run_bind, Sem.run_pure, Result.andThen_ok, List.map_toArray, List.map_cons, List.map_nil, hs, hx, hr]
  exact h

theorem DiskIs.gone (h : DiskIs w d F X bv q m) (i : Nat) (hi : inR i) : ∃ ob, (∀ ty, (Builtin.delete_ #[60, 3] ty #[.map (some q), .int .i64 (i : Int)]).run Tryz.prog w = .ok (.tuple #[]) (setBlock w q ob)) ∧
    DiskIs (setBlock w q ob) d F { X with L := fun t => if t = i then [] else X.L t } bv q (mdel m (i : Int)) ∧ Chg (· = q) w (setBlock w q ob) := by
  obtain ⟨ob, h1, h2⟩ := h.wmap.del Tryz.underlying60 (i : Int) (inR_wf hi) 0
  have hc : Chg (· = q) w (setBlock w q ob) := Chg.setBlock (S := (· = q)) (Chg.refl _ _) (fun _ => rfl) _
  exact ⟨ob, fun ty => h1, h.delL i h2 hc, hc⟩


set_option maxHeartbeats 4000000 in
theorem crash_any (w : World) (h : DiskAt w d F X) (oa : Option Addr) (n cap : Nat) (keep : List Int) (hk : SlAt w (.slice oa n cap) (keep.map (Value.int .i64))) (hkf : keep ≠ [] → ∀ a, oa = some a → ¬ F a.block) (hin : ∀ z ∈ keep, inR z) (hL : ∀ j, (X.L j).length < 1000000) :
    Calls Tryz.prog 28 #[.pointer (some ⟨d, 0, none⟩), .slice oa n cap] w fun e w' => e = .returned (.int .i64 0) ∧ DiskAt w' d F (X.crash keep) ∧ Chg F w w' := by
  obtain rfl : n = keep.length := by
    obtain ⟨_, _, h1, _⟩ := hk
    simp only [Value.slice.injEq] at h1
    rw [h1.2.1, List.length_map]
  have H := Lib.hid h
  have HK := Lib.hid hk
  have HKF := Lib.hid hkf
  have HIn := Lib.hid hin
  have HLL := Lib.hid hL
  obtain ⟨bv0, q0, m0, h0⟩ := h
  have H0 := Lib.hid h0
  clear h0 hk hkf hin hL
  go_enter Tryz.func28, Tryz.ntmps28
  go_wp2_with (first
    | (go_at_call 55; refine (none_no _ H.out).mono ?_; rintro e w' ⟨rfl, rfl⟩)
    | (go_at_call 56; refine (waiting_any _ H0.out).mono ?_; rintro e w1 ⟨v, rfl, hv, hc1⟩; obtain ⟨oaW, capW, rfl, -⟩ := hv.slice; rw [List.length_map] at hv; have HV := Lib.hid hv; have HC1 := Lib.hid hc1; clear hv hc1; rw [List.length_map]))
  go_loopw [13] (fun j wr => ∃ k : Nat, j = .int .i64 k ∧ k ≤ (waitsOf X).length ∧ DiskAt wr d F (X.crashN keep k) ∧ OwnRecs wr w.heap.size 105 2 (.slice oaW (waitsOf X).length capW) ((waitsOf X).map encW) ∧ Chg F w wr) (fun j _ => (waitsOf X).length - (intOf j).toNat)
  · exact ⟨0, rfl, Nat.zero_le _, H.out.fresh HC1.out, HV.out, HC1.out.mono (fun _ _ h => h.elim)⟩
  clear HV HC1
  obtain ⟨k, rfl, hkl, hD, hV, hC⟩ := hrel
  have HD := Lib.hid hD
  have HV := Lib.hid hV
  have HC := Lib.hid hC
  clear hD hV hC
  by_cases hlt : k < (waitsOf X).length
  · obtain ⟨i, N, hp⟩ : ∃ i N, (waitsOf X)[k]? = some (i, N) := ⟨(waitsOf X)[k].1, (waitsOf X)[k].2, List.getElem?_eq_getElem hlt⟩
    obtain ⟨hiB, hN, hNpos⟩ := waitsOf_at hp
    have hB := H0.out.size
    have hLk := crashN_L_at X keep hp
    obtain ⟨gW, hoaW, -, hgW, hcells, -⟩ := HV.out.cell' (k := k) (by simpa using hlt)
    subst hoaW
    have hrec : ((waitsOf X).map encW)[k]'(by simpa using hlt) = [.int .i64 (i : Int), .int .i64 (N : Int)] := by
      obtain ⟨h1, h2⟩ := List.getElem?_eq_some_iff.1 hp
      rw [List.getElem_map, h2, encW, Nat.mod_eq_of_lt (by omega)]
    rw [hrec] at hcells
    have w0 : wr.cell? ⟨gW, k * 2, none⟩ = some (.int .i64 (i : Int)) := hcells 0 _ rfl
    have w1' : wr.cell? ⟨gW, k * 2 + 1, none⟩ = some (.int .i64 (N : Int)) := hcells 1 _ rfl
    have hk' : (k : Int) < ((waitsOf X).length : Int) := by omega
    have hlW : (waitsOf X).length ≤ 4096 := Nat.le_trans (waitsOf_len X) hB
    have HP := Lib.hid hp
    have HL := Lib.hid hLk
    clear hcells hrec hp hLk
    subst hN
    have hiR : inR (i : Int) := by constructor <;> omega
    have hib : (i : Int) < (X.B.length : Int) := by omega
    obtain ⟨bv, q, m, hD⟩ := HD.out
    obtain ⟨gb, capB, rfl, -⟩ := hD.sl
    have HD1 := Lib.hid hD
    clear hD
    have hca : Chg F wr (wr.alloc (.cells #[.int .i64 (i : Int), .int .i64 ((X.L i).length : Int)] 105)).drew := ((Chg.refl _ _).alloc _).drew
    have hIa : DiskIs (wr.alloc (.cells #[.int .i64 (i : Int), .int .i64 ((X.L i).length : Int)] 105)).drew d F (X.crashN keep k) (.slice (some ⟨gb, 0, none⟩) (X.crashN keep k).B.length capB) q m := HD1.out.kept (((Chg.refl (fun _ => False) wr).alloc _).drew) (fun _ _ h => h)
    have hxa : (wr.alloc (.cells #[.int .i64 (i : Int), .int .i64 ((X.L i).length : Int)] 105)).cell? ⟨wr.heap.size, 0, none⟩ = some (.int .i64 (i : Int)) := cell_of_block (block_alloc_new _ _) rfl
    have HCa := Lib.hid hca
    have HIa := Lib.hid hIa
    have HXa := Lib.hid hxa
    clear hca hIa hxa
    cases hz : keep[k]? with
    | none =>
      have hkn : ¬ (k : Int) < (keep.length : Int) := by have := List.getElem?_eq_none_iff.1 hz; omega
      have hm0 : keepAt keep k (X.L i).length = 0 := by simp [keepAt, hz]
      have HM := Lib.hid hm0
      clear hm0 hz
      go_wp2_with fail
      obtain ⟨ob, hdel, hI2, hc2⟩ := DiskIs.gone HIa.out i hiR
      have kd := cell_of_block (i := 1) (HIa.out).head rfl
      have kx : ((wr.alloc (.cells #[.int .i64 (i : Int), .int .i64 ((X.L i).length : Int)] 105)).drew).cell? ⟨wr.heap.size, 0, none⟩ = some (.int .i64 (i : Int)) := HXa.out
      have kd2 := hc2.cell kd (fun e => (HIa.out).d_ne_q e)
      have hqx : wr.heap.size ≠ q := Nat.ne_of_gt (HD1.out.lt q HD1.out.fq)
      have kx2 := hc2.cell kx (fun e => hqx e)
      have HI2 := Lib.hid hI2
      have HC2 := Lib.hid hc2
      clear hI2 hc2
      refine wp_region_noPanic ?_
      refine wp_region_held_drew (S := (fun w' => w'.cell? ⟨d, 1, none⟩ = some (.map (some q)) ∧ w'.cell? ⟨wr.heap.size, 0, none⟩ = some (.int .i64 (i : Int)))) (by kernel_rfl) (⟨kd, kx⟩) (fun hHeld => ?_)
      refine take_list (i := 0) (v := ?_) rfl (by kernel_rfl) (by kernel_rfl) (by kernel_rfl) (fun _ _ _ h => h) (Or.inl ⟨by rfl, fun w hSw => ?_⟩) hHeld ?_
      rotate_left
      · (obtain ⟨hSw1, hSw2⟩ := hSw; go_simp)
        try with_reducible rfl
      simp only [Act.put, List.setIfInBounds_toArray, List.set_cons_zero, List.set_cons_succ]
      refine take_list (i := 1) (v := ?_) rfl (by kernel_rfl) (by kernel_rfl) (by kernel_rfl) (fun _ _ _ h => h) (Or.inl ⟨by rfl, fun w hSw => ?_⟩) hHeld ?_
      rotate_left
      · (obtain ⟨hSw1, hSw2⟩ := hSw; go_simp)
        try with_reducible rfl
      simp only [Act.put, List.setIfInBounds_toArray, List.set_cons_zero, List.set_cons_succ]
      refine take_list (i := 2) (v := ?_) rfl (by kernel_rfl) (by kernel_rfl) (by kernel_rfl) (fun _ _ _ h => h) (Or.inl ⟨by rfl, fun w hSw => ?_⟩) hHeld ?_
      rotate_left
      · (obtain ⟨hSw1, hSw2⟩ := hSw; go_simp)
        try with_reducible rfl
      simp only [Act.put, List.setIfInBounds_toArray, List.set_cons_zero, List.set_cons_succ]
      refine take_list (i := 3) (v := ?_) rfl (by kernel_rfl) (by kernel_rfl) (by kernel_rfl) (fun _ _ _ h => h) (Or.inl ⟨by rfl, fun w hSw => ?_⟩) hHeld ?_
      rotate_left
      · (obtain ⟨hSw1, hSw2⟩ := hSw; go_simp)
        try with_reducible rfl
      simp only [Act.put, List.setIfInBounds_toArray, List.set_cons_zero, List.set_cons_succ]
      refine take_list (i := 4) (v := ?_) rfl (by kernel_rfl) (by kernel_rfl) (by kernel_rfl) (fun _ _ _ h => h) (Or.inl ⟨by rfl, fun w hSw => ?_⟩) hHeld ?_
      rotate_left
      · (obtain ⟨hSw1, hSw2⟩ := hSw; go_simp)
        try with_reducible rfl
      simp only [Act.put, List.setIfInBounds_toArray, List.set_cons_zero, List.set_cons_succ]
      refine take_list (i := 5) (v := ?_) rfl (by kernel_rfl) (by kernel_rfl) (by kernel_rfl) (fun _ _ _ h => h) (Or.inl ⟨by rfl, fun w hSw => ?_⟩) hHeld ?_
      rotate_left
      · (obtain ⟨hSw1, hSw2⟩ := hSw; go_simp)
        try with_reducible rfl
      simp only [Act.put, List.setIfInBounds_toArray, List.set_cons_zero, List.set_cons_succ]
      refine wpAnyH_ready (rs := [6]) (by kernel_rfl) (by simp) (one_list (i := 6) rfl (by rfl) (fun K hK => ?_) AllReadyH.nil)
      refine oper_delete _ _ _ _ rfl rfl rfl (hdel _) ?_
      refine hK _ _ (⟨kd2, kx2⟩) (fun hHeld2 => ?_)
      try simp only [Act.put, List.setIfInBounds_toArray, List.set_cons_zero, List.set_cons_succ]
      refine wpAnyH_done (by kernel_rfl) ?_ _
      refine NoPanic.normal ?_
      go_wp2_with fail
      have hcw := (HCa.out).trans' (HC2.out.mono (fun j _ e => by rw [e]; exact HD1.out.fq))
      refine ⟨⟨k + 1, by go_num, hlt, ?_, HV.out.kept hcw (fun j hj hF => ?_), HC.out.trans' hcw⟩, meas_step hlt⟩
      · rw [show X.crashN keep (k + 1) = { X.crashN keep k with L := fun t => if t = i then [] else (X.crashN keep k).L t } from by rw [crashN_succ X keep HP.out, if_neg (by rw [HM.out]; exact Nat.lt_irrefl 0)]]
        exact ⟨_, _, _, HI2.out⟩
      · exact Nat.not_lt.2 (HV.out.lt hj).1 (H0.out.lt j hF)
    | some z =>
      obtain ⟨hkn', hkz⟩ := List.getElem?_eq_some_iff.1 hz
      have hkn : (k : Int) < (keep.length : Int) := by omega
      have hzr : inR z := HIn.out z (List.mem_of_getElem? hz)
      have hNL := HLL.out i
      obtain ⟨gk, ok, hoa, -, hck⟩ := HK.out.cell (k := k) (by simpa using hkn')
      simp only [List.getElem_map, hkz] at hck
      subst hoa
      have hgk : ¬ F gk := HKF.out (List.ne_nil_of_mem (List.mem_of_getElem? hz)) _ rfl
      have hck1 := HC.out.cell hck hgk
      have hck2 : (wr.alloc (.cells #[.int .i64 (i : Int), .int .i64 ((X.L i).length : Int)] 105)).cell? ⟨gk, ok + k, none⟩ = some (.int .i64 z) := ((Chg.refl (fun _ => False) wr).alloc _).cell hck1 id
      have hx1 : (wr.alloc (.cells #[.int .i64 (i : Int), .int .i64 ((X.L i).length : Int)] 105)).cell? ⟨wr.heap.size, 1, none⟩ = some (.int .i64 ((X.L i).length : Int)) := cell_of_block (block_alloc_new _ _) rfl
      clear hck hck1
      by_cases hz0 : 0 ≤ z
      · have hm0 : keepAt keep k (X.L i).length = z.toNat % ((X.L i).length + 1) := by simp [keepAt, hz, hz0]
        have hlt1 : z.toNat % ((X.L i).length + 1) < (X.L i).length + 1 := Nat.mod_lt _ (by omega)
        have hrem : z.tmod (((X.L i).length : Int) + 1) = ((z.toNat % ((X.L i).length + 1) : Nat) : Int) := tmod_keep z hz0 _
        have hlw : wrap64 (((X.L i).length : Int) + 1) = ((X.L i).length : Int) + 1 := wrap_succ _ hNL
        have hlw2 : IntKind.i64.wrap (((X.L i).length : Int) + 1) = ((X.L i).length : Int) + 1 := (IntWalk.i64_left _).trans hlw
        have hne1 : ¬ ((X.L i).length : Int) + 1 = 0 := ne_succ _
        obtain ⟨mm, hmm⟩ : ∃ mm, z.toNat % ((X.L i).length + 1) = mm := ⟨_, rfl⟩
        rw [hmm] at hm0 hlt1 hrem
        have HM := Lib.hid hm0
        clear hm0 hmm hz
        have hIb : DiskIs (wr.alloc (.cells #[.int .i64 (i : Int), .int .i64 ((X.L i).length : Int)] 105)).drew.drew d F (X.crashN keep k) (.slice (some ⟨gb, 0, none⟩) (X.crashN keep k).B.length capB) q m := HIa.out.kept ((Chg.refl (fun _ => False) _).drew) (fun _ _ h => h)
        have HIb := Lib.hid hIb
        rcases Nat.eq_zero_or_pos mm with rfl | hmpos
        · clear hIb
          go_wp2_with fail
          refine wp_region_noPanic ?_
          refine wp_region_held_drew (S := (fun w' => w'.cell? ⟨gk, ok + k, none⟩ = some (.int .i64 z) ∧ w'.cell? ⟨wr.heap.size, 1, none⟩ = some (.int .i64 ((X.L i).length : Int)))) (by kernel_rfl) (⟨hck2, hx1⟩) (fun hHeld => ?_)
          refine take_list (i := 0) (v := ?_) rfl (by kernel_rfl) (by kernel_rfl) (by kernel_rfl) (fun _ _ _ h => h) (Or.inl ⟨by rfl, fun w hSw => ?_⟩) hHeld ?_
          rotate_left
          · (obtain ⟨hSw1, hSw2⟩ := hSw; go_simp)
            try with_reducible rfl
          simp only [Act.put, List.setIfInBounds_toArray, List.set_cons_zero, List.set_cons_succ]
          refine take_list (i := 1) (v := ?_) rfl (by kernel_rfl) (by kernel_rfl) (by kernel_rfl) (fun _ _ _ h => h) (Or.inl ⟨by rfl, fun w hSw => ?_⟩) hHeld ?_
          rotate_left
          · (obtain ⟨hSw1, hSw2⟩ := hSw; go_simp)
            try with_reducible rfl
          simp only [Act.put, List.setIfInBounds_toArray, List.set_cons_zero, List.set_cons_succ]
          refine take_list (i := 2) (v := ?_) rfl (by kernel_rfl) (by kernel_rfl) (by kernel_rfl) (fun _ _ _ h => h) (Or.inl ⟨by rfl, fun w hSw => ?_⟩) hHeld ?_
          rotate_left
          · (obtain ⟨hSw1, hSw2⟩ := hSw; go_simp)
            try with_reducible rfl
          simp only [Act.put, List.setIfInBounds_toArray, List.set_cons_zero, List.set_cons_succ]
          refine take_list (i := 3) (v := ?_) rfl (by kernel_rfl) (by kernel_rfl) (by kernel_rfl) (fun _ _ _ h => h) (Or.inl ⟨by rfl, fun w hSw => ?_⟩) hHeld ?_
          rotate_left
          · (obtain ⟨hSw1, hSw2⟩ := hSw; go_simp)
            try with_reducible rfl
          simp only [Act.put, List.setIfInBounds_toArray, List.set_cons_zero, List.set_cons_succ]
          refine take_list (i := 4) (v := ?_) rfl (by kernel_rfl) (by kernel_rfl) (by kernel_rfl) (fun _ _ _ h => h) (Or.inl ⟨by rfl, fun w hSw => ?_⟩) hHeld ?_
          rotate_left
          · (obtain ⟨hSw1, hSw2⟩ := hSw; go_simp)
            try with_reducible rfl
          simp only [Act.put, List.setIfInBounds_toArray, List.set_cons_zero, List.set_cons_succ]
          refine take_list (i := 5) (v := ?_) rfl (by kernel_rfl) (by kernel_rfl) (by kernel_rfl) (fun _ _ _ h => h) (Or.inl ⟨by rfl, fun w hSw => ?_⟩) hHeld ?_
          rotate_left
          · (obtain ⟨hSw1, hSw2⟩ := hSw; go_simp)
            try with_reducible rfl
          simp only [Act.put, List.setIfInBounds_toArray, List.set_cons_zero, List.set_cons_succ]
          refine take_list (i := 6) (v := ?_) rfl (by kernel_rfl) (by kernel_rfl) (by kernel_rfl) (fun _ _ _ h => h) (Or.inl ⟨by rfl, fun w hSw => ?_⟩) hHeld ?_
          rotate_left
          · (obtain ⟨hSw1, hSw2⟩ := hSw; go_simp)
            try with_reducible rfl
          simp only [Act.put, List.setIfInBounds_toArray, List.set_cons_zero, List.set_cons_succ]
          refine take_list (i := 7) (v := ?_) rfl (by kernel_rfl) (by kernel_rfl) (by kernel_rfl) (fun _ _ _ h => h) (Or.inl ⟨by rfl, fun w hSw => ?_⟩) hHeld ?_
          rotate_left
          · (obtain ⟨hSw1, hSw2⟩ := hSw; go_simp)
            try with_reducible rfl
          simp only [Act.put, List.setIfInBounds_toArray, List.set_cons_zero, List.set_cons_succ]
          refine take_list (i := 8) (v := ?_) rfl (by kernel_rfl) (by kernel_rfl) (by kernel_rfl) (fun _ _ _ h => h) (Or.inl ⟨by rfl, fun w hSw => ?_⟩) hHeld ?_
          rotate_left
          · (obtain ⟨hSw1, hSw2⟩ := hSw; go_simp)
            try with_reducible rfl
          simp only [Act.put, List.setIfInBounds_toArray, List.set_cons_zero, List.set_cons_succ]
          refine wpAnyH_done (by kernel_rfl) ?_ _
          refine NoPanic.normal ?_
          go_wp2_with fail
          obtain ⟨ob, hdel, hI2, hc2⟩ := DiskIs.gone HIb.out i hiR
          have kd := cell_of_block (i := 1) (HIb.out).head rfl
          have kx : ((wr.alloc (.cells #[.int .i64 (i : Int), .int .i64 ((X.L i).length : Int)] 105)).drew.drew).cell? ⟨wr.heap.size, 0, none⟩ = some (.int .i64 (i : Int)) := HXa.out
          have kd2 := hc2.cell kd (fun e => (HIb.out).d_ne_q e)
          have hqx : wr.heap.size ≠ q := Nat.ne_of_gt (HD1.out.lt q HD1.out.fq)
          have kx2 := hc2.cell kx (fun e => hqx e)
          have HI2 := Lib.hid hI2
          have HC2 := Lib.hid hc2
          clear hI2 hc2
          refine wp_region_noPanic ?_
          refine wp_region_held_drew (S := (fun w' => w'.cell? ⟨d, 1, none⟩ = some (.map (some q)) ∧ w'.cell? ⟨wr.heap.size, 0, none⟩ = some (.int .i64 (i : Int)))) (by kernel_rfl) (⟨kd, kx⟩) (fun hHeld => ?_)
          refine take_list (i := 0) (v := ?_) rfl (by kernel_rfl) (by kernel_rfl) (by kernel_rfl) (fun _ _ _ h => h) (Or.inl ⟨by rfl, fun w hSw => ?_⟩) hHeld ?_
          rotate_left
          · (obtain ⟨hSw1, hSw2⟩ := hSw; go_simp)
            try with_reducible rfl
          simp only [Act.put, List.setIfInBounds_toArray, List.set_cons_zero, List.set_cons_succ]
          refine take_list (i := 1) (v := ?_) rfl (by kernel_rfl) (by kernel_rfl) (by kernel_rfl) (fun _ _ _ h => h) (Or.inl ⟨by rfl, fun w hSw => ?_⟩) hHeld ?_
          rotate_left
          · (obtain ⟨hSw1, hSw2⟩ := hSw; go_simp)
            try with_reducible rfl
          simp only [Act.put, List.setIfInBounds_toArray, List.set_cons_zero, List.set_cons_succ]
          refine take_list (i := 2) (v := ?_) rfl (by kernel_rfl) (by kernel_rfl) (by kernel_rfl) (fun _ _ _ h => h) (Or.inl ⟨by rfl, fun w hSw => ?_⟩) hHeld ?_
          rotate_left
          · (obtain ⟨hSw1, hSw2⟩ := hSw; go_simp)
            try with_reducible rfl
          simp only [Act.put, List.setIfInBounds_toArray, List.set_cons_zero, List.set_cons_succ]
          refine take_list (i := 3) (v := ?_) rfl (by kernel_rfl) (by kernel_rfl) (by kernel_rfl) (fun _ _ _ h => h) (Or.inl ⟨by rfl, fun w hSw => ?_⟩) hHeld ?_
          rotate_left
          · (obtain ⟨hSw1, hSw2⟩ := hSw; go_simp)
            try with_reducible rfl
          simp only [Act.put, List.setIfInBounds_toArray, List.set_cons_zero, List.set_cons_succ]
          refine take_list (i := 4) (v := ?_) rfl (by kernel_rfl) (by kernel_rfl) (by kernel_rfl) (fun _ _ _ h => h) (Or.inl ⟨by rfl, fun w hSw => ?_⟩) hHeld ?_
          rotate_left
          · (obtain ⟨hSw1, hSw2⟩ := hSw; go_simp)
            try with_reducible rfl
          simp only [Act.put, List.setIfInBounds_toArray, List.set_cons_zero, List.set_cons_succ]
          refine take_list (i := 5) (v := ?_) rfl (by kernel_rfl) (by kernel_rfl) (by kernel_rfl) (fun _ _ _ h => h) (Or.inl ⟨by rfl, fun w hSw => ?_⟩) hHeld ?_
          rotate_left
          · (obtain ⟨hSw1, hSw2⟩ := hSw; go_simp)
            try with_reducible rfl
          simp only [Act.put, List.setIfInBounds_toArray, List.set_cons_zero, List.set_cons_succ]
          refine wpAnyH_ready (rs := [6]) (by kernel_rfl) (by simp) (one_list (i := 6) rfl (by rfl) (fun K hK => ?_) AllReadyH.nil)
          refine oper_delete _ _ _ _ rfl rfl rfl (hdel _) ?_
          refine hK _ _ (⟨kd2, kx2⟩) (fun hHeld2 => ?_)
          try simp only [Act.put, List.setIfInBounds_toArray, List.set_cons_zero, List.set_cons_succ]
          refine wpAnyH_done (by kernel_rfl) ?_ _
          refine NoPanic.normal ?_
          go_wp2_with fail
          have hcw := (HCa.out.drew).trans' (HC2.out.mono (fun j _ e => by rw [e]; exact HD1.out.fq))
          refine ⟨⟨k + 1, by go_num, hlt, ?_, HV.out.kept hcw (fun j hj hF => ?_), HC.out.trans' hcw⟩, meas_step hlt⟩
          · rw [show X.crashN keep (k + 1) = { X.crashN keep k with L := fun t => if t = i then [] else (X.crashN keep k).L t } from by rw [crashN_succ X keep HP.out, if_neg (by rw [HM.out]; exact Nat.lt_irrefl 0)]]
            exact ⟨_, _, _, HI2.out⟩
          · exact Nat.not_lt.2 (HV.out.lt hj).1 (H0.out.lt j hF)
        · obtain ⟨mp, rfl⟩ : ∃ mp, mm = mp + 1 := ⟨mm - 1, (Nat.succ_pred_eq_of_pos hmpos).symm⟩
          have hmp : mp < (X.L i).length := Nat.lt_of_succ_lt_succ hlt1
          obtain ⟨u, hu, hou, hum⟩ := hIb.looked' i
          rw [HL.out] at hou hum
          obtain ⟨g2, cap2, rfl, hg2, hr2, -⟩ := rows_range hou hmp
          obtain ⟨b, hb⟩ : ∃ b, b = (X.L i)[mp] := ⟨_, rfl⟩
          rw [← hb] at hr2
          have hb64 : b.length = 64 := by
            have := hou.each (cellsB b) (by rw [hb]; exact List.mem_map_of_mem (List.getElem_mem _))
            rwa [cellsB_length] at this
          have hbg : ((X.L i)[mp]?).getD [] = b := by rw [List.getElem?_eq_getElem hmp, ← hb]; rfl
          have hg2b : g2 ≠ gb := by
            rcases hum with h | h
            · cases h
            · intro e; exact hIb.off _ h (by rw [e]; rfl)
          have hlk : (Instr.lookup 60 (.map (some q)) (.int .i64 (i : Int)) false).run Tryz.prog (wr.alloc (.cells #[.int .i64 (i : Int), .int .i64 ((X.L i).length : Int)] 105)).drew.drew = .ok (.slice (some ⟨g2, 0, none⟩) (X.L i).length cap2) (wr.alloc (.cells #[.int .i64 (i : Int), .int .i64 ((X.L i).length : Int)] 105)).drew.drew := by
            have := hIb.wmap.look Tryz.underlying60 (zero_blocks _) false (i : Int) (inR_wf hiR)
            rw [hu] at this; exact this
          have c0 : (wr.alloc (.cells #[.int .i64 (i : Int), .int .i64 ((X.L i).length : Int)] 105)).cell? ⟨d, 0, none⟩ = some (.slice (some ⟨gb, 0, none⟩) X.B.length capB) := by
            have := cell_of_block (i := 0) hIb.head rfl
            rw [crashN_len] at this; exact this
          have c1 : (wr.alloc (.cells #[.int .i64 (i : Int), .int .i64 ((X.L i).length : Int)] 105)).cell? ⟨d, 1, none⟩ = some (.map (some q)) := cell_of_block (i := 1) hIb.head rfl
          have hI5 := hIb.setB i b hb64
          have hd5 : d ≠ gb := fun e => row_ne_d hIb hIb.rows (by rw [e]; rfl)
          have hx5 : wr.heap.size ≠ gb := Nat.ne_of_gt (HD1.out.lt gb (HD1.out.fb gb rfl))
          have hmpi : (mp : Int) < ((X.L i).length : Int) := Int.ofNat_lt.2 hmp
          have hmpw : wrap64 (mp : Int) = (mp : Int) := wrap_nat _ (Nat.lt_trans hmp hNL)
          have hmpw2 : IntKind.i64.wrap (mp : Int) = (mp : Int) := (IntWalk.i64_left _).trans hmpw
          have hlk5 : (Instr.lookup 60 (.map (some q)) (.int .i64 (i : Int)) false).run Tryz.prog ((wr.alloc (.cells #[.int .i64 (i : Int), .int .i64 ((X.L i).length : Int)] 105)).drew.drew.setCells gb (i * 64) (cellsB b)) = .ok (.slice (some ⟨g2, 0, none⟩) (X.L i).length cap2) ((wr.alloc (.cells #[.int .i64 (i : Int), .int .i64 ((X.L i).length : Int)] 105)).drew.drew.setCells gb (i * 64) (cellsB b)) := by
            have := hI5.1.wmap.look Tryz.underlying60 (zero_blocks _) false (i : Int) (inR_wf hiR)
            rw [hu] at this; exact this
          have hth : (wr.alloc (.cells #[.int .i64 (i : Int), .int .i64 ((X.L i).length : Int)] 105)).drew.drew.there gb (i * 64) 64 := rows_there hIb.rows (by rw [crashN_len]; exact hiB)
          have HTh := Lib.hid hth
          have HI5 := Lib.hid hI5
          have HLk := Lib.hid hlk
          have HLk5 := Lib.hid hlk5
          have HR2 := Lib.hid hr2
          clear hIb hu hou hum hI5 hlk hlk5 hr2 hth hb
          go_wp2_with fail
          refine wp_region_noPanic ?_
          refine wp_region_held_drew (S := (fun w' => w'.cell? ⟨gk, ok + k, none⟩ = some (.int .i64 z) ∧ w'.cell? ⟨wr.heap.size, 1, none⟩ = some (.int .i64 ((X.L i).length : Int)))) (by kernel_rfl) (⟨hck2, hx1⟩) (fun hHeld => ?_)
          refine take_list (i := 0) (v := ?_) rfl (by kernel_rfl) (by kernel_rfl) (by kernel_rfl) (fun _ _ _ h => h) (Or.inl ⟨by rfl, fun w hSw => ?_⟩) hHeld ?_
          rotate_left
          · (obtain ⟨hSw1, hSw2⟩ := hSw; go_simp)
            try with_reducible rfl
          simp only [Act.put, List.setIfInBounds_toArray, List.set_cons_zero, List.set_cons_succ]
          refine take_list (i := 1) (v := ?_) rfl (by kernel_rfl) (by kernel_rfl) (by kernel_rfl) (fun _ _ _ h => h) (Or.inl ⟨by rfl, fun w hSw => ?_⟩) hHeld ?_
          rotate_left
          · (obtain ⟨hSw1, hSw2⟩ := hSw; go_simp)
            try with_reducible rfl
          simp only [Act.put, List.setIfInBounds_toArray, List.set_cons_zero, List.set_cons_succ]
          refine take_list (i := 2) (v := ?_) rfl (by kernel_rfl) (by kernel_rfl) (by kernel_rfl) (fun _ _ _ h => h) (Or.inl ⟨by rfl, fun w hSw => ?_⟩) hHeld ?_
          rotate_left
          · (obtain ⟨hSw1, hSw2⟩ := hSw; go_simp)
            try with_reducible rfl
          simp only [Act.put, List.setIfInBounds_toArray, List.set_cons_zero, List.set_cons_succ]
          refine take_list (i := 3) (v := ?_) rfl (by kernel_rfl) (by kernel_rfl) (by kernel_rfl) (fun _ _ _ h => h) (Or.inl ⟨by rfl, fun w hSw => ?_⟩) hHeld ?_
          rotate_left
          · (obtain ⟨hSw1, hSw2⟩ := hSw; go_simp)
            try with_reducible rfl
          simp only [Act.put, List.setIfInBounds_toArray, List.set_cons_zero, List.set_cons_succ]
          refine take_list (i := 4) (v := ?_) rfl (by kernel_rfl) (by kernel_rfl) (by kernel_rfl) (fun _ _ _ h => h) (Or.inl ⟨by rfl, fun w hSw => ?_⟩) hHeld ?_
          rotate_left
          · (obtain ⟨hSw1, hSw2⟩ := hSw; go_simp)
            try with_reducible rfl
          simp only [Act.put, List.setIfInBounds_toArray, List.set_cons_zero, List.set_cons_succ]
          refine take_list (i := 5) (v := ?_) rfl (by kernel_rfl) (by kernel_rfl) (by kernel_rfl) (fun _ _ _ h => h) (Or.inl ⟨by rfl, fun w hSw => ?_⟩) hHeld ?_
          rotate_left
          · (obtain ⟨hSw1, hSw2⟩ := hSw; go_simp)
            try with_reducible rfl
          simp only [Act.put, List.setIfInBounds_toArray, List.set_cons_zero, List.set_cons_succ]
          refine take_list (i := 6) (v := ?_) rfl (by kernel_rfl) (by kernel_rfl) (by kernel_rfl) (fun _ _ _ h => h) (Or.inl ⟨by rfl, fun w hSw => ?_⟩) hHeld ?_
          rotate_left
          · (obtain ⟨hSw1, hSw2⟩ := hSw; go_simp)
            try with_reducible rfl
          simp only [Act.put, List.setIfInBounds_toArray, List.set_cons_zero, List.set_cons_succ]
          refine take_list (i := 7) (v := ?_) rfl (by kernel_rfl) (by kernel_rfl) (by kernel_rfl) (fun _ _ _ h => h) (Or.inl ⟨by rfl, fun w hSw => ?_⟩) hHeld ?_
          rotate_left
          · (obtain ⟨hSw1, hSw2⟩ := hSw; go_simp)
            try with_reducible rfl
          simp only [Act.put, List.setIfInBounds_toArray, List.set_cons_zero, List.set_cons_succ]
          refine take_list (i := 8) (v := ?_) rfl (by kernel_rfl) (by kernel_rfl) (by kernel_rfl) (fun _ _ _ h => h) (Or.inl ⟨by rfl, fun w hSw => ?_⟩) hHeld ?_
          rotate_left
          · (obtain ⟨hSw1, hSw2⟩ := hSw; go_simp)
            try with_reducible rfl
          simp only [Act.put, List.setIfInBounds_toArray, List.set_cons_zero, List.set_cons_succ]
          refine wpAnyH_done (by kernel_rfl) ?_ _
          refine NoPanic.normal ?_
          go_wp2_with fail
          have hty := Tryz.underlying107
          have hsz : (Tryz.prog.info? 107).map (·.size) = some (cellsB b).length := by rw [cellsB_length, hb64]; exact size_block
          refine wp_region_noPanic ?_
          refine wp_region_held_drew (S := (fun w' => w'.cell? ⟨d, 0, none⟩ = some (.slice (some ⟨gb, 0, none⟩) X.B.length capB) ∧ w'.cell? ⟨d, 1, none⟩ = some (.map (some q)) ∧ w'.cell? ⟨wr.heap.size, 0, none⟩ = some (.int .i64 (i : Int)) ∧ (Instr.lookup 60 (.map (some q)) (.int .i64 (i : Int)) false).run Tryz.prog w' = .ok (.slice (some ⟨g2, 0, none⟩) (X.L i).length cap2) w' ∧ w'.rangeAt g2 (mp * 64) (cellsB b))) (by kernel_rfl) (⟨c0, c1, HXa.out, HLk.out, HR2.out⟩) (fun hHeld5 => ?_)
          refine take_list (i := 0) (v := ?_) rfl (by kernel_rfl) (by kernel_rfl) (by kernel_rfl) (fun _ _ _ h => h) (Or.inl ⟨by rfl, fun w hSw => ?_⟩) hHeld5 ?_
          rotate_left
          · (obtain ⟨hSw1, hSw2, hSw3, hSw4, hSw5⟩ := hSw; go_simp)
            try with_reducible rfl
          simp only [Act.put, List.setIfInBounds_toArray, List.set_cons_zero, List.set_cons_succ]
          refine take_list (i := 1) (v := ?_) rfl (by kernel_rfl) (by kernel_rfl) (by kernel_rfl) (fun _ _ _ h => h) (Or.inl ⟨by rfl, fun w hSw => ?_⟩) hHeld5 ?_
          rotate_left
          · (obtain ⟨hSw1, hSw2, hSw3, hSw4, hSw5⟩ := hSw; go_simp)
            try with_reducible rfl
          simp only [Act.put, List.setIfInBounds_toArray, List.set_cons_zero, List.set_cons_succ]
          refine take_list (i := 2) (v := ?_) rfl (by kernel_rfl) (by kernel_rfl) (by kernel_rfl) (fun _ _ _ h => h) (Or.inl ⟨by rfl, fun w hSw => ?_⟩) hHeld5 ?_
          rotate_left
          · (obtain ⟨hSw1, hSw2, hSw3, hSw4, hSw5⟩ := hSw; go_simp)
            try with_reducible rfl
          simp only [Act.put, List.setIfInBounds_toArray, List.set_cons_zero, List.set_cons_succ]
          refine take_list (i := 3) (v := ?_) rfl (by kernel_rfl) (by kernel_rfl) (by kernel_rfl) (fun _ _ _ h => h) (Or.inl ⟨by rfl, fun w hSw => ?_⟩) hHeld5 ?_
          rotate_left
          · (obtain ⟨hSw1, hSw2, hSw3, hSw4, hSw5⟩ := hSw; go_simp)
            try with_reducible rfl
          simp only [Act.put, List.setIfInBounds_toArray, List.set_cons_zero, List.set_cons_succ]
          refine take_list (i := 4) (v := ?_) rfl (by kernel_rfl) (by kernel_rfl) (by kernel_rfl) (fun _ _ _ h => h) (Or.inl ⟨by rfl, fun w hSw => ?_⟩) hHeld5 ?_
          rotate_left
          · (obtain ⟨hSw1, hSw2, hSw3, hSw4, hSw5⟩ := hSw; go_simp)
            try with_reducible rfl
          simp only [Act.put, List.setIfInBounds_toArray, List.set_cons_zero, List.set_cons_succ]
          refine take_list (i := 5) (v := ?_) rfl (by kernel_rfl) (by kernel_rfl) (by kernel_rfl) (fun _ _ _ h => h) (Or.inl ⟨by rfl, fun w hSw => ?_⟩) hHeld5 ?_
          rotate_left
          · (obtain ⟨hSw1, hSw2, hSw3, hSw4, hSw5⟩ := hSw; go_simp)
            try with_reducible rfl
          simp only [Act.put, List.setIfInBounds_toArray, List.set_cons_zero, List.set_cons_succ]
          refine take_list (i := 6) (v := ?_) rfl (by kernel_rfl) (by kernel_rfl) (by kernel_rfl) (fun _ _ _ h => h) (Or.inl ⟨by rfl, fun w hSw => ?_⟩) hHeld5 ?_
          rotate_left
          · (obtain ⟨hSw1, hSw2, hSw3, hSw4, hSw5⟩ := hSw; go_simp)
            try with_reducible rfl
          simp only [Act.put, List.setIfInBounds_toArray, List.set_cons_zero, List.set_cons_succ]
          refine take_list (i := 7) (v := ?_) rfl (by kernel_rfl) (by kernel_rfl) (by kernel_rfl) (fun _ _ _ h => h) (Or.inl ⟨by rfl, fun w hSw => ?_⟩) hHeld5 ?_
          rotate_left
          · (obtain ⟨hSw1, hSw2, hSw3, hSw4, hSw5⟩ := hSw; go_simp)
            try with_reducible rfl
          simp only [Act.put, List.setIfInBounds_toArray, List.set_cons_zero, List.set_cons_succ]
          refine take_list (i := 8) (v := ?_) rfl (by kernel_rfl) (by kernel_rfl) (by kernel_rfl) (fun _ _ _ h => h) (Or.inl ⟨by rfl, fun w hSw => ?_⟩) hHeld5 ?_
          rotate_left
          · (obtain ⟨hSw1, hSw2, hSw3, hSw4, hSw5⟩ := hSw; go_simp)
            try with_reducible rfl
          simp only [Act.put, List.setIfInBounds_toArray, List.set_cons_zero, List.set_cons_succ]
          refine take_list (i := 9) (v := ?_) rfl (by kernel_rfl) (by kernel_rfl) (by kernel_rfl) (fun _ _ _ h => h) (Or.inl ⟨by rfl, fun w hSw => ?_⟩) hHeld5 ?_
          rotate_left
          · (obtain ⟨hSw1, hSw2, hSw3, hSw4, hSw5⟩ := hSw; go_simp)
            try with_reducible rfl
          simp only [Act.put, List.setIfInBounds_toArray, List.set_cons_zero, List.set_cons_succ]
          refine take_list (i := 10) (v := ?_) rfl (by kernel_rfl) (by kernel_rfl) (by kernel_rfl) (fun _ _ _ h => h) (Or.inl ⟨by rfl, fun w hSw => ?_⟩) hHeld5 ?_
          rotate_left
          · (obtain ⟨hSw1, hSw2, hSw3, hSw4, hSw5⟩ := hSw; go_simp)
            try with_reducible rfl
          simp only [Act.put, List.setIfInBounds_toArray, List.set_cons_zero, List.set_cons_succ]
          refine take_list (i := 11) (v := ?_) rfl (by kernel_rfl) (by kernel_rfl) (by kernel_rfl) (fun _ _ _ h => h) (Or.inl ⟨by rfl, fun w hSw => ?_⟩) hHeld5 ?_
          rotate_left
          · (obtain ⟨hSw1, hSw2, hSw3, hSw4, hSw5⟩ := hSw; go_simp)
            try with_reducible rfl
          simp only [Act.put, List.setIfInBounds_toArray, List.set_cons_zero, List.set_cons_succ]
          refine take_list (i := 12) (v := ?_) rfl (by kernel_rfl) (by kernel_rfl) (by kernel_rfl) (fun _ _ _ h => h) (Or.inl ⟨by rfl, fun w hSw => ?_⟩) hHeld5 ?_
          rotate_left
          · (obtain ⟨hSw1, hSw2, hSw3, hSw4, hSw5⟩ := hSw; go_simp)
            try with_reducible rfl
          simp only [Act.put, List.setIfInBounds_toArray, List.set_cons_zero, List.set_cons_succ]
          refine take_list (i := 13) (v := ?_) rfl (by kernel_rfl) (by kernel_rfl) (by kernel_rfl) (fun _ _ _ h => h) (Or.inl ⟨by rfl, fun w hSw => ?_⟩) hHeld5 ?_
          rotate_left
          · (obtain ⟨hSw1, hSw2, hSw3, hSw4, hSw5⟩ := hSw; go_simp)
            try with_reducible rfl
          simp only [Act.put, List.setIfInBounds_toArray, List.set_cons_zero, List.set_cons_succ]
          refine take_list (i := 14) (v := ?_) rfl (by kernel_rfl) (by kernel_rfl) (by kernel_rfl) (fun _ _ _ h => h) (Or.inl ⟨by rfl, fun w hSw => ?_⟩) hHeld5 ?_
          rotate_left
          · (obtain ⟨hSw1, hSw2, hSw3, hSw4, hSw5⟩ := hSw; go_simp)
            try with_reducible rfl
          simp only [Act.put, List.setIfInBounds_toArray, List.set_cons_zero, List.set_cons_succ]
          refine take_list (i := 15) (v := ?_) rfl (by kernel_rfl) (by kernel_rfl) (by kernel_rfl) (fun _ _ _ h => h) (Or.inl ⟨by rfl, fun w hSw => ?_⟩) hHeld5 ?_
          rotate_left
          · (obtain ⟨hSw1, hSw2, hSw3, hSw4, hSw5⟩ := hSw; go_simp)
            try with_reducible rfl
          simp only [Act.put, List.setIfInBounds_toArray, List.set_cons_zero, List.set_cons_succ]
          refine take_list (i := 16) rfl (by kernel_rfl) (by kernel_rfl) (by kernel_rfl) (fun _ _ _ h => h) ((yieldsIf_load_mid (by rfl) _ _ rfl _ _ rfl (cellsB b) _ (fun w h => h.2.2.2.2) hty rfl hsz)) hHeld5 ?_
          simp only [Act.put, List.setIfInBounds_toArray, List.set_cons_zero, List.set_cons_succ]
          refine take_list (i := 17) (v := ?_) rfl (by kernel_rfl) (by kernel_rfl) (by kernel_rfl) (fun _ _ _ h => h) (Or.inl ⟨by rfl, fun w hSw => ?_⟩) hHeld5 ?_
          rotate_left
          · (obtain ⟨hSw1, hSw2, hSw3, hSw4, hSw5⟩ := hSw; go_simp)
            try with_reducible rfl
          simp only [Act.put, List.setIfInBounds_toArray, List.set_cons_zero, List.set_cons_succ]
          refine wpAnyH_ready (rs := [18]) (by kernel_rfl) (by simp) (one_list (i := 18) rfl (by rfl) (fun K hK => ?_) AllReadyH.nil)
          refine wp_store_mid _ _ _ rfl gb (i * 64) (cellsB b).toArray rfl rfl ?_ ?_ ?_ ?_
          · rw [List.size_toArray, cellsB_length, hb64]
            exact HTh.out
          · simpa using hsz
          · exact all_oneCell_toArray (one_cellsB _)
          rw [List.toList_toArray]
          refine hK _ _ (⟨HI5.out.2.cell c0 hd5, HI5.out.2.cell c1 hd5, HI5.out.2.cell HXa.out hx5, HLk5.out, fun j x hx => HI5.out.2.cell (HR2.out j x hx) hg2b⟩) (fun hHeld6 => ?_)
          try simp only [Act.put, List.setIfInBounds_toArray, List.set_cons_zero, List.set_cons_succ]
          refine wpAnyH_done (by kernel_rfl) ?_ _
          refine NoPanic.normal ?_
          go_wp2_with fail
          have hI6 : DiskIs ((wr.alloc (.cells #[.int .i64 (i : Int), .int .i64 ((X.L i).length : Int)] 105)).drew.drew.setCells gb (i * 64) (cellsB b)).drew d F { X.crashN keep k with B := (X.crashN keep k).B.set i b } (.slice (some ⟨gb, 0, none⟩) (X.crashN keep k).B.length capB) q m := HI5.out.1.kept ((Chg.refl (fun _ => False) _).drew) (fun _ _ h => h)
          have HI6 := Lib.hid hI6
          clear hI6
          have hc6 : Chg F wr ((wr.alloc (.cells #[.int .i64 (i : Int), .int .i64 ((X.L i).length : Int)] 105)).drew.drew.setCells gb (i * 64) (cellsB b)).drew := (HCa.out.drew.trans' (HI5.out.2.mono (fun j _ e => by rw [e]; exact HD1.out.fb gb rfl))).drew
          have HC6 := Lib.hid hc6
          clear hc6
          obtain ⟨ob, hdel, hI2, hc2⟩ := DiskIs.gone HI6.out i hiR
          have kd := cell_of_block (i := 1) (HI6.out).head rfl
          have kx : (((wr.alloc (.cells #[.int .i64 (i : Int), .int .i64 ((X.L i).length : Int)] 105)).drew.drew.setCells gb (i * 64) (cellsB b)).drew).cell? ⟨wr.heap.size, 0, none⟩ = some (.int .i64 (i : Int)) := (HI5.out.2.drew).cell HXa.out hx5
          have kd2 := hc2.cell kd (fun e => (HI6.out).d_ne_q e)
          have hqx : wr.heap.size ≠ q := Nat.ne_of_gt (HD1.out.lt q HD1.out.fq)
          have kx2 := hc2.cell kx (fun e => hqx e)
          have HI2 := Lib.hid hI2
          have HC2 := Lib.hid hc2
          clear hI2 hc2
          refine wp_region_noPanic ?_
          refine wp_region_held_drew (S := (fun w' => w'.cell? ⟨d, 1, none⟩ = some (.map (some q)) ∧ w'.cell? ⟨wr.heap.size, 0, none⟩ = some (.int .i64 (i : Int)))) (by kernel_rfl) (⟨kd, kx⟩) (fun hHeld => ?_)
          refine take_list (i := 0) (v := ?_) rfl (by kernel_rfl) (by kernel_rfl) (by kernel_rfl) (fun _ _ _ h => h) (Or.inl ⟨by rfl, fun w hSw => ?_⟩) hHeld ?_
          rotate_left
          · (obtain ⟨hSw1, hSw2⟩ := hSw; go_simp)
            try with_reducible rfl
          simp only [Act.put, List.setIfInBounds_toArray, List.set_cons_zero, List.set_cons_succ]
          refine take_list (i := 1) (v := ?_) rfl (by kernel_rfl) (by kernel_rfl) (by kernel_rfl) (fun _ _ _ h => h) (Or.inl ⟨by rfl, fun w hSw => ?_⟩) hHeld ?_
          rotate_left
          · (obtain ⟨hSw1, hSw2⟩ := hSw; go_simp)
            try with_reducible rfl
          simp only [Act.put, List.setIfInBounds_toArray, List.set_cons_zero, List.set_cons_succ]
          refine take_list (i := 2) (v := ?_) rfl (by kernel_rfl) (by kernel_rfl) (by kernel_rfl) (fun _ _ _ h => h) (Or.inl ⟨by rfl, fun w hSw => ?_⟩) hHeld ?_
          rotate_left
          · (obtain ⟨hSw1, hSw2⟩ := hSw; go_simp)
            try with_reducible rfl
          simp only [Act.put, List.setIfInBounds_toArray, List.set_cons_zero, List.set_cons_succ]
          refine take_list (i := 3) (v := ?_) rfl (by kernel_rfl) (by kernel_rfl) (by kernel_rfl) (fun _ _ _ h => h) (Or.inl ⟨by rfl, fun w hSw => ?_⟩) hHeld ?_
          rotate_left
          · (obtain ⟨hSw1, hSw2⟩ := hSw; go_simp)
            try with_reducible rfl
          simp only [Act.put, List.setIfInBounds_toArray, List.set_cons_zero, List.set_cons_succ]
          refine take_list (i := 4) (v := ?_) rfl (by kernel_rfl) (by kernel_rfl) (by kernel_rfl) (fun _ _ _ h => h) (Or.inl ⟨by rfl, fun w hSw => ?_⟩) hHeld ?_
          rotate_left
          · (obtain ⟨hSw1, hSw2⟩ := hSw; go_simp)
            try with_reducible rfl
          simp only [Act.put, List.setIfInBounds_toArray, List.set_cons_zero, List.set_cons_succ]
          refine take_list (i := 5) (v := ?_) rfl (by kernel_rfl) (by kernel_rfl) (by kernel_rfl) (fun _ _ _ h => h) (Or.inl ⟨by rfl, fun w hSw => ?_⟩) hHeld ?_
          rotate_left
          · (obtain ⟨hSw1, hSw2⟩ := hSw; go_simp)
            try with_reducible rfl
          simp only [Act.put, List.setIfInBounds_toArray, List.set_cons_zero, List.set_cons_succ]
          refine wpAnyH_ready (rs := [6]) (by kernel_rfl) (by simp) (one_list (i := 6) rfl (by rfl) (fun K hK => ?_) AllReadyH.nil)
          refine oper_delete _ _ _ _ rfl rfl rfl (hdel _) ?_
          refine hK _ _ (⟨kd2, kx2⟩) (fun hHeld2 => ?_)
          try simp only [Act.put, List.setIfInBounds_toArray, List.set_cons_zero, List.set_cons_succ]
          refine wpAnyH_done (by kernel_rfl) ?_ _
          refine NoPanic.normal ?_
          go_wp2_with fail
          have hcw := (HC6.out).trans' (HC2.out.mono (fun j _ e => by rw [e]; exact HD1.out.fq))
          refine ⟨⟨k + 1, by go_num, hlt, ?_, HV.out.kept hcw (fun j hj hF => ?_), HC.out.trans' hcw⟩, meas_step hlt⟩
          · rw [show X.crashN keep (k + 1) = { X.crashN keep k with B := (X.crashN keep k).B.set i b, L := fun t => if t = i then [] else (X.crashN keep k).L t } from by rw [crashN_succ X keep HP.out, if_pos (by rw [HM.out]; exact Nat.succ_pos _), HM.out, Nat.add_sub_cancel, hbg]]
            exact ⟨_, _, _, HI2.out⟩
          · exact Nat.not_lt.2 (HV.out.lt hj).1 (H0.out.lt j hF)
      · have hm0 : keepAt keep k (X.L i).length = 0 := by simp [keepAt, hz, hz0]
        have HM := Lib.hid hm0
        clear hm0 hz
        go_wp2_with fail
        obtain ⟨ob, hdel, hI2, hc2⟩ := DiskIs.gone HIa.out i hiR
        have kd := cell_of_block (i := 1) (HIa.out).head rfl
        have kx : ((wr.alloc (.cells #[.int .i64 (i : Int), .int .i64 ((X.L i).length : Int)] 105)).drew).cell? ⟨wr.heap.size, 0, none⟩ = some (.int .i64 (i : Int)) := HXa.out
        have kd2 := hc2.cell kd (fun e => (HIa.out).d_ne_q e)
        have hqx : wr.heap.size ≠ q := Nat.ne_of_gt (HD1.out.lt q HD1.out.fq)
        have kx2 := hc2.cell kx (fun e => hqx e)
        have HI2 := Lib.hid hI2
        have HC2 := Lib.hid hc2
        clear hI2 hc2
        refine wp_region_noPanic ?_
        refine wp_region_held_drew (S := (fun w' => w'.cell? ⟨d, 1, none⟩ = some (.map (some q)) ∧ w'.cell? ⟨wr.heap.size, 0, none⟩ = some (.int .i64 (i : Int)))) (by kernel_rfl) (⟨kd, kx⟩) (fun hHeld => ?_)
        refine take_list (i := 0) (v := ?_) rfl (by kernel_rfl) (by kernel_rfl) (by kernel_rfl) (fun _ _ _ h => h) (Or.inl ⟨by rfl, fun w hSw => ?_⟩) hHeld ?_
        rotate_left
        · (obtain ⟨hSw1, hSw2⟩ := hSw; go_simp)
          try with_reducible rfl
        simp only [Act.put, List.setIfInBounds_toArray, List.set_cons_zero, List.set_cons_succ]
        refine take_list (i := 1) (v := ?_) rfl (by kernel_rfl) (by kernel_rfl) (by kernel_rfl) (fun _ _ _ h => h) (Or.inl ⟨by rfl, fun w hSw => ?_⟩) hHeld ?_
        rotate_left
        · (obtain ⟨hSw1, hSw2⟩ := hSw; go_simp)
          try with_reducible rfl
        simp only [Act.put, List.setIfInBounds_toArray, List.set_cons_zero, List.set_cons_succ]
        refine take_list (i := 2) (v := ?_) rfl (by kernel_rfl) (by kernel_rfl) (by kernel_rfl) (fun _ _ _ h => h) (Or.inl ⟨by rfl, fun w hSw => ?_⟩) hHeld ?_
        rotate_left
        · (obtain ⟨hSw1, hSw2⟩ := hSw; go_simp)
          try with_reducible rfl
        simp only [Act.put, List.setIfInBounds_toArray, List.set_cons_zero, List.set_cons_succ]
        refine take_list (i := 3) (v := ?_) rfl (by kernel_rfl) (by kernel_rfl) (by kernel_rfl) (fun _ _ _ h => h) (Or.inl ⟨by rfl, fun w hSw => ?_⟩) hHeld ?_
        rotate_left
        · (obtain ⟨hSw1, hSw2⟩ := hSw; go_simp)
          try with_reducible rfl
        simp only [Act.put, List.setIfInBounds_toArray, List.set_cons_zero, List.set_cons_succ]
        refine take_list (i := 4) (v := ?_) rfl (by kernel_rfl) (by kernel_rfl) (by kernel_rfl) (fun _ _ _ h => h) (Or.inl ⟨by rfl, fun w hSw => ?_⟩) hHeld ?_
        rotate_left
        · (obtain ⟨hSw1, hSw2⟩ := hSw; go_simp)
          try with_reducible rfl
        simp only [Act.put, List.setIfInBounds_toArray, List.set_cons_zero, List.set_cons_succ]
        refine take_list (i := 5) (v := ?_) rfl (by kernel_rfl) (by kernel_rfl) (by kernel_rfl) (fun _ _ _ h => h) (Or.inl ⟨by rfl, fun w hSw => ?_⟩) hHeld ?_
        rotate_left
        · (obtain ⟨hSw1, hSw2⟩ := hSw; go_simp)
          try with_reducible rfl
        simp only [Act.put, List.setIfInBounds_toArray, List.set_cons_zero, List.set_cons_succ]
        refine wpAnyH_ready (rs := [6]) (by kernel_rfl) (by simp) (one_list (i := 6) rfl (by rfl) (fun K hK => ?_) AllReadyH.nil)
        refine oper_delete _ _ _ _ rfl rfl rfl (hdel _) ?_
        refine hK _ _ (⟨kd2, kx2⟩) (fun hHeld2 => ?_)
        try simp only [Act.put, List.setIfInBounds_toArray, List.set_cons_zero, List.set_cons_succ]
        refine wpAnyH_done (by kernel_rfl) ?_ _
        refine NoPanic.normal ?_
        go_wp2_with fail
        have hcw := (HCa.out).trans' (HC2.out.mono (fun j _ e => by rw [e]; exact HD1.out.fq))
        refine ⟨⟨k + 1, by go_num, hlt, ?_, HV.out.kept hcw (fun j hj hF => ?_), HC.out.trans' hcw⟩, meas_step hlt⟩
        · rw [show X.crashN keep (k + 1) = { X.crashN keep k with L := fun t => if t = i then [] else (X.crashN keep k).L t } from by rw [crashN_succ X keep HP.out, if_neg (by rw [HM.out]; exact Nat.lt_irrefl 0)]]
          exact ⟨_, _, _, HI2.out⟩
        · exact Nat.not_lt.2 (HV.out.lt hj).1 (H0.out.lt j hF)
  · have hk' : ¬ (k : Int) < ((waitsOf X).length : Int) := by omega
    obtain ⟨bv, q, m, hD⟩ := HD.out
    have HD1 := Lib.hid hD
    have c3 : wr.cell? ⟨d, 3, none⟩ = some (.bool (X.crashN keep k).down) := cell_of_block hD.head rfl
    have z3 : wr.frozen? ⟨d, 3, none⟩ = false := free_of_block hD.head
    obtain ⟨hs3, hD3⟩ := setD3 hD false
    have c2 : (wr.setCell ⟨d, 3, none⟩ (.bool false)).cell? ⟨d, 2, none⟩ = some (.int .i64 (X.crashN keep k).fuse) := cell_of_block hD3.head rfl
    have z2 : (wr.setCell ⟨d, 3, none⟩ (.bool false)).frozen? ⟨d, 2, none⟩ = false := free_of_block hD3.head
    obtain ⟨hs2, hD2⟩ := setD2 hD3 (-1)
    have HD2 := Lib.hid hD2
    have HS3 := Lib.hid hs3
    have HS2 := Lib.hid hs2
    clear hD hD3 hs3 hD2 hs2
    go_wp2_with fail
    go_ret
    refine ⟨rfl, ?_, (HC.out.trans' (HS3.out.mono (fun j _ e => by rw [e]; exact HD1.out.fd))).trans' (HS2.out.mono (fun j _ e => by rw [e]; exact HD1.out.fd))⟩
    have e : X.crash keep = { X.crashN keep k with down := false, fuse := -1 } := by
      rw [DV.crash, show (waitsOf X).length = k by omega]
    rw [e]
    exact ⟨_, _, _, HD2.out⟩

end Go.Proofs.YtbkefhoapnaciaaGreat.disks
end

/-
  disk: the contracts over DiskAt that sort: Waiting, Crash.
-/
section
set_option linter.unusedSimpArgs false
set_option linter.unusedVariables false
namespace Go.Proofs.YtbkefhoapnaciaaGreat.disks
open Go.RowKit Go.Maps Go.My Go.ChangeMaps
set_option maxRecDepth 100000

variable {W w w' : World} {d q : Nat} {F F' : Nat → Prop} {X X' Y : DV} {bv : Value} {m : List (Int × (Value × List Blk))}

theorem waiting_at (w : World) (h : DiskAt w d F X) :
    Calls Tryz.prog 56 #[.pointer (some ⟨d, 0, none⟩)] w fun e w' => ∃ v, e = .returned v ∧ OwnRecs w' w.heap.size 105 2 v ((waitsOf X).map encW) ∧ Chg (fun _ => False) w w' := by
  obtain ⟨bv, q, m, h⟩ := h
  exact waiting_any w h

theorem crash_at (w : World) (h : DiskAt w d F X) {v : Value} {keep : List Int} (hk : SlAt w v (keep.map (Value.int .i64))) (hkf : keep ≠ [] → ∀ g, v.ownBlock = some g → ¬ F g) (hin : ∀ z ∈ keep, inR z) (hL : ∀ j, (X.L j).length < 1000000) :
    Calls Tryz.prog 28 #[.pointer (some ⟨d, 0, none⟩), v] w fun e w' => e = .returned (.int .i64 0) ∧ DiskAt w' d F (X.crash keep) ∧ Chg F w w' := by
  obtain ⟨oa, cap, rfl, h2, h3⟩ := hk
  exact crash_any w h oa _ cap keep ⟨oa, cap, rfl, h2, h3⟩ (fun hne a ha => by subst ha; exact hkf hne _ rfl) hin hL

theorem crashN_L_le (X : DV) (keep : List Int) (k j : Nat) : ((X.crashN keep k).L j).length ≤ (X.L j).length := by
  induction k with
  | zero => exact Nat.le_refl _
  | succ k ih =>
    rw [DV.crashN]
    split
    · simp only
      split
      · simp
      · exact ih
    · exact ih

theorem crash_L_le (X : DV) (keep : List Int) (j : Nat) : ((X.crash keep).L j).length ≤ (X.L j).length := crashN_L_le X keep _ j

end Go.Proofs.YtbkefhoapnaciaaGreat.disks
end

/-
  disk: the plain law: what a crash leaves in each block.
-/
section
set_option linter.unusedSimpArgs false
set_option linter.unusedVariables false
namespace Go.Proofs.YtbkefhoapnaciaaGreat.disks
open Go.RowKit Go.Maps Go.My Go.ChangeMaps
set_option maxRecDepth 100000

/-- How many blocks ahead of i have something that waits. -/
def placeOf (X : DV) (i : Nat) : Nat := ((List.range i).filter (fun j => !(X.L j).isEmpty)).length

theorem placeOf_le (X : DV) (i : Nat) : placeOf X i ≤ i := by
  have := List.length_filter_le (fun j => !(X.L j).isEmpty) (List.range i)
  simpa [placeOf] using this

theorem placeOf_succ (X : DV) (i : Nat) : placeOf X (i + 1) = placeOf X i + if X.L i = [] then 0 else 1 := by
  unfold placeOf
  rw [List.range_succ, List.filter_append, List.length_append]
  by_cases h : X.L i = []
  · simp [h]
  · simp [h]

theorem ws_at {X : DV} {i : Nat} (h : X.L i ≠ []) (hi : i < X.B.length) : (waitsOf X)[placeOf X i]? = some (i, (X.L i).length) := by
  have e : List.range X.B.length = List.range i ++ (i :: List.range' (i + 1) (X.B.length - (i + 1))) := by
    have h1 : List.range X.B.length = List.range i ++ List.range' i (X.B.length - i) := by
      rw [List.range_eq_range', List.range_eq_range']
      have := List.range'_append_1 (s := 0) (m := i) (n := X.B.length - i)
      rw [Nat.zero_add] at this
      rw [this]
      congr 1; omega
    rw [h1, show X.B.length - i = (X.B.length - (i + 1)) + 1 by omega, List.range'_succ]
  unfold waitsOf
  rw [e, List.filter_append, List.filter_cons, if_pos (by simpa using h), List.map_append, List.map_cons]
  rw [List.getElem?_append_right (by simp [placeOf]), List.length_map]
  simp [placeOf]

theorem ws_unique {X : DV} {j k t N M : Nat} (h1 : (waitsOf X)[j]? = some (t, N)) (h2 : (waitsOf X)[k]? = some (t, M)) : j = k := by
  have h := waits_pairwise X
  rw [List.pairwise_iff_getElem] at h
  obtain ⟨hj, e1⟩ := List.getElem?_eq_some_iff.1 h1
  obtain ⟨hk, e2⟩ := List.getElem?_eq_some_iff.1 h2
  rcases Nat.lt_trichotomy j k with hl | hl | hl
  · have := h j k hj hk hl
    rw [e1, e2] at this; simp at this
  · exact hl
  · have := h k j hk hj hl
    rw [e1, e2] at this; simp at this

theorem crashN_B_none (X : DV) (keep : List Int) (k t : Nat) (h : ∀ (j : Nat) (p : Nat × Nat), j < k → (waitsOf X)[j]? = some p → p.1 ≠ t) : (X.crashN keep k).B[t]? = X.B[t]? := by
  induction k with
  | zero => rfl
  | succ k ih =>
    have ih := ih (fun j p hj hp => h j p (by omega) hp)
    rw [DV.crashN]
    split
    · rename_i p hp
      simp only
      split
      · rw [List.getElem?_set_ne (h k p (by omega) hp)]; exact ih
      · exact ih
    · exact ih

theorem crashN_at (X : DV) (keep : List Int) {j t N : Nat} (hj : (waitsOf X)[j]? = some (t, N)) (k : Nat) (hk : j < k) :
    (X.crashN keep k).B[t]? = (if 0 < keepAt keep j N then some (((X.L t)[keepAt keep j N - 1]?).getD []) else X.B[t]?) ∧ (X.crashN keep k).L t = [] := by
  induction k with
  | zero => omega
  | succ k ih =>
    by_cases hjk : j = k
    · subst hjk
      have hno := crashN_B_none X keep j t (fun i p hi hp e => by
        obtain ⟨p1, p2⟩ := p
        simp only at e
        subst e
        have := ws_unique hp hj
        omega)
      have htl := (waitsOf_at hj).1
      rw [crashN_succ X keep hj]
      simp only [if_true, and_true]
      split
      · rw [List.getElem?_set_self (by rw [crashN_len]; exact htl)]
      · exact hno
    · obtain ⟨h1, h2⟩ := ih (by omega)
      rw [DV.crashN]
      split
      · rename_i p hp
        have hpt : p.1 ≠ t := fun e => by
          obtain ⟨p1, p2⟩ := p
          simp only at e
          subst e
          exact hjk (ws_unique hj hp)
        have hL : (if t = p.1 then [] else (X.crashN keep k).L t) = [] := by rw [if_neg (fun e => hpt e.symm)]; exact h2
        refine ⟨?_, hL⟩
        rw [← h1]
        by_cases hc : 0 < keepAt keep k p.2
        · simp only [if_pos hc]
          rw [List.getElem?_set_ne hpt]
        · simp only [if_neg hc]
      · exact ⟨h1, h2⟩

/-- What a crash leaves: in a block with nothing that waits, what was durable; else the last of the writes that are kept. -/
theorem crash_keeps (X : DV) (keep : List Int) {i : Nat} (hi : i < X.B.length) :
    (X.crash keep).L i = [] ∧ (X.L i = [] → (X.crash keep).B[i]? = X.B[i]?) ∧
      (X.L i ≠ [] → (X.crash keep).B[i]? = if 0 < keepAt keep (placeOf X i) (X.L i).length then some (((X.L i)[keepAt keep (placeOf X i) (X.L i).length - 1]?).getD []) else X.B[i]?) := by
  by_cases h : X.L i = []
  · have hno : ∀ (j : Nat) (p : Nat × Nat), j < (waitsOf X).length → (waitsOf X)[j]? = some p → p.1 ≠ i := fun j p _ hp e => by
      obtain ⟨p1, p2⟩ := p
      simp only at e
      subst e
      have := waitsOf_at hp
      rw [h] at this
      simp at this
      omega
    refine ⟨?_, fun _ => crashN_B_none X keep _ i hno, fun hn => absurd h hn⟩
    show (X.crashN keep (waitsOf X).length).L i = []
    rw [crashN_L X keep _ i hno, h]
  · have hw := ws_at h hi
    have hlt : placeOf X i < (waitsOf X).length := (List.getElem?_eq_some_iff.1 hw).1
    obtain ⟨h1, h2⟩ := crashN_at X keep hw (waitsOf X).length hlt
    exact ⟨h2, fun hn => absurd hn h, fun _ => h1⟩

end Go.Proofs.YtbkefhoapnaciaaGreat.disks
end

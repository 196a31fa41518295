/-
  coord's laws: rootdb.Check of any packages: some number, and nothing that was there is changed.
-/
import Derived.Test.YtogjjkbgagedpaaCoordO
import Derived.Test.YtogjjkbgagedpaaCoordL
import Derived.Test.YtogjjkbgagedpaaMapEnt
import Derived.WideKeyArr2
namespace Go.Proofs.Ytogjjkbgagedpaa.coords
open Go.RowKit Go.Maps Go.My Go.ChangeMaps
set_option maxRecDepth 100000

variable {w w' : World}

def SomeBool (e : Ending) : Prop := ∃ b, e = .returned (.bool b)
def SomeInt (e : Ending) : Prop := ∃ n, e = .returned (.int .i64 n)

theorem name_any (w : World) (s : ByteArray) (hs : s.size ≤ maxLen) : Calls Try.prog 93 #[.string s] w fun e w' => SomeBool e ∧ w = w' := by
  have HS := Lib.hid hs
  clear hs
  go_enter Try.func93, Try.ntmps93
  go_wp2_with fail
  have hstr : Try.prog.underlying 9 = some .string := Try.underlying9
  go_loopw [7] (fun j wr => ∃ k : Nat, j = .int .i64 k ∧ k ≤ s.size ∧ w = wr) (fun j _ => s.size - (intOf j).toNat)
  · exact ⟨0, rfl, Nat.zero_le _, rfl⟩
  obtain ⟨k, rfl, hk, rfl⟩ := hrel
  have hmx := HS.out
  unfold maxLen at hmx
  by_cases hlt : k < s.size
  · have hki : (k : Int) < (s.size : Int) := by omega
    obtain ⟨c, hc⟩ : ∃ c : Int, (Instr.index 9 (.string s) (.int .i64 k)).run Try.prog w = .ok (.int .u8 c) w := ⟨_, by rw [run_index_string _ _ _ _ _ hstr, dif_pos ⟨by omega, hki⟩]⟩
    clear hstr
    go_wp2_with fail
    all_goals first
      | (go_ret; exact ⟨⟨_, rfl⟩, rfl⟩)
      | exact ⟨⟨k + 1, by go_num, hlt, trivial⟩, meas_step hlt⟩
  · have hki : ¬ (k : Int) < (s.size : Int) := by omega
    clear hstr
    go_wp2_with fail
    all_goals (go_ret; exact ⟨⟨_, rfl⟩, rfl⟩)

theorem arrD : WideMaps.ArrKey Try.prog 125 5 32 := ⟨Try.underlying125, by kernel_rfl, by kernel_rfl, by kernel_rfl⟩

def digC (bs : List Int) : List Value := bs.map (Value.int .u8)
def refC (bs : List Int) (n : Int) : List Value := digC bs ++ [.int .i64 n]

def dKey : KeyEnc Try.prog 125 (List Int) where
  enc bs := .agg (digC bs).toArray
  ok bs := ∃ l, keyOf Try.prog 125 (.agg (digC bs).toArray) = some l
  keyed := Keyed.of_law arrD.law
  reads := fun _ h => h
  inj := fun k k' h => by
    have h1 : (digC k).toArray = (digC k').toArray := by injection h
    have h2 : digC k = digC k' := by simpa using congrArg Array.toList h1
    unfold digC at h2
    exact (List.map_inj_right (fun a b h => by injection h)).1 h2

structure RefOk (r : List Value) : Prop where
  is : ∃ bs n, r = refC bs n ∧ bs.length = 32 ∧ dKey.ok bs

theorem oper_look {P : Program} {o : Oper} {a : Go.Act} {w : World} {K : Go.Act → World → Prop} {Q : Exit → Go.Act → World → Prop} (t : TypeId) (x y : Operand)
    (ho : o.op = .lookup t x y false) {xv yv v : Value} (hx : a.eval x = xv) (hy : a.eval y = yv)
    (hr : (Instr.lookup t xv yv false).run P w = .ok v w) (h : K (a.put o.dst v) w) : Oper.wp P o a w K Q := by
  unfold Oper.wp
  simp only [execOp, ho, hx, hy]
  simp [hr, Result.andThen]
  exact h

theorem oper_entry {P : Program} {o : Oper} {a : Go.Act} {w w' : World} {K : Go.Act → World → Prop} {Q : Exit → Go.Act → World → Prop} (t : TypeId) (x y : Operand)
    (ho : o.op = .mapEntry t x y) {xv yv v : Value} (hx : a.eval x = xv) (hy : a.eval y = yv)
    (hr : (Instr.mapEntry t xv yv).run P w = .ok v w') (h : K (a.put o.dst v) w') : Oper.wp P o a w K Q := by
  unfold Oper.wp
  simp only [execOp, ho, hx, hy]
  simp [hr, Result.andThen]
  exact h

theorem oper_estore {P : Program} {o : Oper} {a : Go.Act} {w w' : World} {K : Go.Act → World → Prop} {Q : Exit → Go.Act → World → Prop} (t : TypeId) (x y u : Operand)
    (ho : o.op = .entryStore t x y u) {xv yv uv : Value} (hx : a.eval x = xv) (hy : a.eval y = yv) (hu : a.eval u = uv)
    (hr : (Instr.entryStore t xv yv uv).run P w = .ok () w') (h : K (a.put o.dst (.tuple #[])) w') : Oper.wp P o a w K Q := by
  unfold Oper.wp
  simp only [execOp, ho, hx, hy, hu]
  simp [hr, Result.andThen]
  exact h

theorem mput_len {K V : Type} [DecidableEq K] (m : List (K × V)) (k : K) (v : V) : (mput m k v).length ≤ m.length + 1 := by
  unfold mput
  split
  · simp
  · simp

theorem zero_int (w : World) : (zeroValue 3).run Try.prog w = .ok (.int .i64 0) w := by kernel_rfl
theorem size_ref : (Try.prog.info? 127).map (·.size) = some 33 := by kernel_rfl
theorem size_dig : (Try.prog.info? 125).map (·.size) = some 32 := by kernel_rfl


set_option maxHeartbeats 2000000 in
theorem mcheck_any (w : World) (nm vr : ByteArray) (h1 : nm.size ≤ maxLen) (h2 : vr.size ≤ maxLen) (oa : Option Addr) (cap : Nat) (rows : List (List Value)) (h : RowsAt w 33 oa rows) (hr : ∀ r ∈ rows, RefOk r) :
    Calls Try.prog 71 #[.agg #[.string nm, .string vr, .slice oa rows.length cap]] w fun e w' => SomeInt e ∧ Chg (fun _ => False) w w' := by
  have hmm := @run_makeMap Try.prog
  have H := Lib.hid h
  have HR := Lib.hid hr
  have H1 := Lib.hid h1
  have H2 := Lib.hid h2
  clear h hr h1 h2
  go_enter Try.func71, Try.ntmps71
  by_cases h0 : rows.length = 0
  · have h0i : ((rows.length : Int) == 0) = true := by simp [h0]
    clear h0
    go_wp2_with (go_at_call 93; refine (name_any _ _ (by first | exact H1.out | exact H2.out)).mono ?_; rintro e w1 ⟨⟨b1, rfl⟩, rfl⟩)
    all_goals (go_ret; exact ⟨⟨_, rfl⟩, (Chg.refl _ _).alloc _⟩)
  · have h0i : ((rows.length : Int) == 0) = false := by simpa using h0
    by_cases h8 : 8 < rows.length
    · have h8i : (8 : Int) < (rows.length : Int) := by omega
      clear h0 h8
      go_wp2_with (go_at_call 93; refine (name_any _ _ (by first | exact H1.out | exact H2.out)).mono ?_; rintro e w1 ⟨⟨b1, rfl⟩, rfl⟩)
      all_goals (go_ret; exact ⟨⟨_, rfl⟩, (Chg.refl _ _).alloc _⟩)
    · have h8i : ¬ (8 : Int) < (rows.length : Int) := by omega
      have HL := Lib.hid h8
      obtain ⟨b, off, rfl⟩ := H.out.spot (by intro e; rw [e] at h0; simp at h0)
      clear h0 h8
      go_wp2_with (go_at_call 93; refine (name_any _ _ (by first | exact H1.out | exact H2.out)).mono ?_; rintro e w1 ⟨⟨b1, rfl⟩, rfl⟩)
      all_goals try (go_ret; exact ⟨⟨_, rfl⟩, (Chg.refl _ _).alloc _⟩)
      have hb1 : b1 = true := by
        have h : (!b1) = false := by assumption
        cases b1 with
        | true => rfl
        | false => exact absurd h (by decide)
      subst hb1
      simp only [Bool.not_true]
      obtain ⟨w0, hw0⟩ : ∃ w0, (w.alloc (.cells #[.string nm, .string vr, .slice (some ⟨b, off, none⟩) rows.length cap] 92)).alloc (.map #[] 0) = w0 := ⟨_, rfl⟩
      rw [hw0]
      have hmp : MapIs dKey (Value.int .i64) w0 (w.heap.size + 1) [] := MapIs.made (clock := 0) _ _ (by subst hw0; simp only [heap_alloc_get, World.size_alloc]; rw [if_pos trivial])
      have hc0 : Chg (fun _ => False) w w0 := by subst hw0; exact ((Chg.refl _ _).alloc _).alloc _
      have HMp := Lib.hid hmp
      have HC0 := Lib.hid hc0
      clear hmp hc0 hw0
      go_loopw [31] (fun j wr => ∃ (k : Nat) (m : List (List Int × Int)), j = .int .i64 k ∧ k ≤ rows.length ∧ MapIs dKey (Value.int .i64) wr (w.heap.size + 1) m ∧ m.length ≤ k ∧ Chg (fun _ => False) w wr) (fun j _ => rows.length - (intOf j).toNat)
      · exact ⟨0, [], rfl, Nat.zero_le _, HMp.out, Nat.le_refl _, HC0.out⟩
      clear HMp HC0
      obtain ⟨k, m, rfl, hk, hM, hml, hc⟩ := hrel
      have HM := Lib.hid hM
      have HMl := Lib.hid hml
      have HC := Lib.hid hc
      clear hM hml hc
      by_cases hlt : k < rows.length
      · have hki : (k : Int) < (rows.length : Int) := by omega
        obtain ⟨r, hr⟩ : ∃ r, rows[k]? = some r := ⟨rows[k], List.getElem?_eq_getElem hlt⟩
        obtain ⟨bs, n, hrn, hb32, hbok⟩ := (HR.out r (List.mem_of_getElem? hr)).is
        have hlen : (refC bs n).length = 33 := by simp [refC, digC, hb32]
        have hrng : wr.rangeAt b (off + k * 33) (refC bs n) := fun j v hj => (H.out.kept HC.out (fun _ _ h => h)).cell b off rfl k r j v hr (by rw [hrn]; exact hj)
        have hone : ∀ v ∈ refC bs n, v.oneCell' = true := by
          intro v hv
          simp only [refC, digC, List.mem_append, List.mem_map, List.mem_singleton] at hv
          rcases hv with ⟨z, -, rfl⟩ | rfl <;> rfl
        have HRng := Lib.hid hrng
        have HOne := Lib.hid hone
        have HLen := Lib.hid hlen
        have HB32 := Lib.hid hb32
        have HBok := Lib.hid hbok
        obtain ⟨row, hrow⟩ : ∃ row, refC bs n = row := ⟨_, rfl⟩
        rw [hrow] at HRng HOne HLen
        have HRow := Lib.hid hrow
        clear hr hrn hb32 hbok hlen hrng hone hrow
        have hba := block_alloc_new wr (.cells row.toArray 127)
        have hca : Chg (fun _ => False) wr (wr.alloc (.cells row.toArray 127)) := (Chg.refl _ _).alloc _
        have hsA : (wr.alloc (.cells row.toArray 127)).heap.size = wr.heap.size + 1 := World.size_alloc _ _
        obtain ⟨wA, hwA⟩ : ∃ wA, wr.alloc (.cells row.toArray 127) = wA := ⟨_, rfl⟩
        rw [hwA] at hba hca hsA
        have hdl : (digC bs).length = 32 := by rw [digC, List.length_map]; exact HB32.out
        have a32 : wA.cell? ⟨wr.heap.size, 32, none⟩ = some (.int .i64 n) := cell_of_block hba (by rw [List.getElem?_toArray, ← HRow.out, refC, List.getElem?_append_right (by omega), hdl]; rfl)
        have hrd : wA.rangeAt wr.heap.size 0 (digC bs) := fun j v hj => by
          rw [Nat.zero_add]
          refine cell_of_block hba ?_
          rw [List.getElem?_toArray, ← HRow.out, refC, List.getElem?_append_left (List.getElem?_eq_some_iff.1 hj).1]
          exact hj
        have hMA := HM.out.kept hca id
        obtain ⟨v0, hv0⟩ : ∃ v0, (mget m bs).getD 0 = v0 := ⟨_, rfl⟩
        have hlr : ∀ o : Option Int, lookRes false (.int .i64 0) (Value.int .i64) o = .int .i64 (o.getD 0) := fun o => by cases o <;> rfl
        have hlk : (Instr.lookup 146 (.map (some (w.heap.size + 1))) (.agg (digC bs).toArray) false).run Try.prog wA = .ok (.int .i64 v0) wA := by
          have := hMA.look Try.underlying146 (zero_int _) false bs HBok.out
          rw [hlr, hv0] at this
          exact this
        have HRd := Lib.hid hrd
        have HMA := Lib.hid hMA
        have HCA := Lib.hid hca
        have HSA := Lib.hid hsA
        have HV0 := Lib.hid hv0
        have HDl := Lib.hid hdl
        have HLr := Lib.hid hlr
        clear hba hrd hMA hca hsA hv0 hdl hlr
        go_wp2_with (first
          | (refine wpList_load_mid rfl 127 _ rfl b (off + k * 33) rfl row _ HRng.out Try.underlying127 rfl (size_ref.trans (by rw [HLen.out])) ?_)
          | (refine wpList_store_new rfl 127 _ _ rfl row.toArray rfl rfl (size_ref.trans (by rw [List.size_toArray, HLen.out])) (by rw [show row.toArray.size = 33 from by rw [List.size_toArray, HLen.out]]; rfl) (all_oneCell_toArray HOne.out) ?_)
          | (refine wpList_load_mid rfl 125 _ rfl wr.heap.size 0 rfl (digC bs) _ HRd.out Try.underlying125 rfl (size_dig.trans (by rw [HDl.out])) ?_))
        all_goals try (go_ret; exact ⟨⟨_, rfl⟩, HC.out.trans' HCA.out⟩)
        have hql : w.heap.size + 1 < wr.heap.size := HM.out.lt
        have hdr : Chg (fun _ => False) wA wA.drew := (Chg.refl _ _).drew
        have hMd := HMA.out.kept hdr id
        have hlk1 : (Instr.lookup 146 (.map (some (w.heap.size + 1))) (.agg (digC bs).toArray) false).run Try.prog wA.drew = .ok (.int .i64 v0) wA.drew := by
          have := hMd.look Try.underlying146 (zero_int _) false bs HBok.out
          rw [HLr.out, HV0.out] at this
          exact this
        obtain ⟨x0, st, ob, m1, hent, hM1, hm1, hst⟩ := hMd.entry arrD.law Try.underlying146 0 zero_int (by have := HMl.out; have := HL.out; unfold maxLen; omega) bs HBok.out
        have hent : (Instr.mapEntry 146 (.map (some (w.heap.size + 1))) (.agg (digC bs).toArray)).run Try.prog wA.drew = .ok (.tuple #[x0, goInt st]) (setBlock wA.drew (w.heap.size + 1) ob) := hent
        have hc1 : Chg (· = w.heap.size + 1) wA.drew (setBlock wA.drew (w.heap.size + 1) ob) := Chg.setBlock (S := (· = w.heap.size + 1)) (Chg.refl _ _) (fun _ => rfl) _
        obtain ⟨w1, hw1⟩ : ∃ w1, setBlock wA.drew (w.heap.size + 1) ob = w1 := ⟨_, rfl⟩
        have hob : w1.heap[w.heap.size + 1]? = some ob := by
          rw [← hw1]
          obtain ⟨es, clock, hb, _⟩ := hMd
          exact heap_setBlock_same hb _
        rw [hw1] at hent hM1 hc1
        have hlk2 : (Instr.lookup 146 (.map (some (w.heap.size + 1))) (.agg (digC bs).toArray) false).run Try.prog w1 = .ok (.int .i64 v0) w1 := by
          have := hM1.look Try.underlying146 (zero_int _) false bs HBok.out
          rw [HLr.out, hm1, HV0.out] at this
          exact this
        obtain ⟨ob2, hst1, hM2⟩ := hst w1 (IntKind.i64.wrap (v0 + 1)) hob
        have hc2 : Chg (· = w.heap.size + 1) w1 (setBlock w1 (w.heap.size + 1) ob2) := Chg.setBlock (S := (· = w.heap.size + 1)) (Chg.refl _ _) (fun _ => rfl) _
        obtain ⟨w2, hw2⟩ : ∃ w2, setBlock w1 (w.heap.size + 1) ob2 = w2 := ⟨_, rfl⟩
        rw [hw2] at hst1 hM2 hc2
        have hne : ¬ wr.heap.size = w.heap.size + 1 := by omega
        have r1 : w1.rangeAt wr.heap.size 0 (digC bs) := fun j v hj => hc1.cell (hdr.cell (HRd.out j v hj) id) hne
        have r2 : w2.rangeAt wr.heap.size 0 (digC bs) := fun j v hj => hc2.cell (r1 j v hj) hne
        have HM2 := Lib.hid hM2
        have HC2 := Lib.hid (((HC.out.trans' HCA.out).trans' hdr).new (hc1.trans' hc2) (fun j e => by omega))
        clear hM2 hc1 hc2 hw1 hw2 hob hM1 hm1 hst hMd hdr
        refine wp_region_noPanic ?_
        refine wp_region_held_drew (S := (fun w' => w'.rangeAt wr.heap.size 0 (digC bs))) (by kernel_rfl) (HRd.out) (fun hHeld => ?_)
        refine take_list (i := 0) (v := ?_) rfl (by kernel_rfl) (by kernel_rfl) (by kernel_rfl) (fun _ _ _ h => h) (Or.inl ⟨by rfl, fun w hSw => ?_⟩) hHeld ?_
        rotate_left
        · (skip; go_simp)
          try with_reducible rfl
        simp only [Act.put, List.setIfInBounds_toArray, List.set_cons_zero, List.set_cons_succ]
        refine take_list (i := 1) (v := ?_) rfl (by kernel_rfl) (by kernel_rfl) (by kernel_rfl) (fun _ _ _ h => h) (Or.inl ⟨by rfl, fun w hSw => ?_⟩) hHeld ?_
        rotate_left
        · (skip; go_simp)
          try with_reducible rfl
        simp only [Act.put, List.setIfInBounds_toArray, List.set_cons_zero, List.set_cons_succ]
        refine take_list (i := 2) rfl (by kernel_rfl) (by kernel_rfl) (by kernel_rfl) (fun _ _ _ h => h) (yieldsIf_load_mid (by rfl) 125 _ rfl wr.heap.size 0 rfl (digC bs) _ (fun w h => h) Try.underlying125 rfl (size_dig.trans (by rw [HDl.out]))) hHeld ?_
        simp only [Act.put, List.setIfInBounds_toArray, List.set_cons_zero, List.set_cons_succ]
        refine wpAnyH_ready (rs := [3, 5]) (by kernel_rfl) (by simp) (one_list (i := 3) rfl (by rfl) (fun K hK => ?_) (one_list (i := 5) rfl (by rfl) (fun K hK => ?_) AllReadyH.nil))
        · refine oper_look _ _ _ rfl rfl rfl hlk1 ?_
          refine hK _ _ ((fun j v hj => (show Chg (fun _ => False) wA wA.drew from (Chg.refl _ _).drew).cell (HRd.out j v hj) id)) (fun hA1 => ?_)
          try simp only [Act.put, List.setIfInBounds_toArray, List.set_cons_zero, List.set_cons_succ]
          refine take_list (i := 4) (v := ?_) rfl (by kernel_rfl) (by kernel_rfl) (by kernel_rfl) (fun _ _ _ h => h) (Or.inl ⟨by rfl, fun w hSw => ?_⟩) hA1 ?_
          rotate_left
          · (skip; go_simp)
            try with_reducible rfl
          simp only [Act.put, List.setIfInBounds_toArray, List.set_cons_zero, List.set_cons_succ]
          refine wpAnyH_ready (rs := [5]) (by kernel_rfl) (by simp) (one_list (i := 5) rfl (by rfl) (fun K hK => ?_) AllReadyH.nil)
          refine oper_entry _ _ _ rfl rfl rfl hent ?_
          refine hK _ _ (r1) (fun hA2 => ?_)
          try simp only [Act.put, List.setIfInBounds_toArray, List.set_cons_zero, List.set_cons_succ]
          refine take_list (i := 6) (v := ?_) rfl (by kernel_rfl) (by kernel_rfl) (by kernel_rfl) (fun _ _ _ h => h) (Or.inl ⟨by rfl, fun w hSw => ?_⟩) hA2 ?_
          rotate_left
          · (skip; go_simp)
            try with_reducible rfl
          simp only [Act.put, List.setIfInBounds_toArray, List.set_cons_zero, List.set_cons_succ]
          refine wpAnyH_ready (rs := [7]) (by kernel_rfl) (by simp) (one_list (i := 7) rfl (by rfl) (fun K hK => ?_) AllReadyH.nil)
          refine oper_estore (xv := .map (some (w.heap.size + 1))) (yv := goInt st) (uv := .int .i64 (IntKind.i64.wrap (v0 + 1))) _ _ _ _ rfl rfl rfl rfl hst1 ?_
          refine hK _ _ r2 (fun hA3 => ?_)
          simp only [Act.put]
          refine wpAnyH_done (by kernel_rfl) ?_ _
          refine NoPanic.normal ?_
          go_wp2_with fail
          exact ⟨⟨k + 1, _, by go_num, hlt, HM2.out, by have := HMl.out; have := mput_len m bs (IntKind.i64.wrap (v0 + 1)); omega, HC2.out⟩, meas_step hlt⟩
        · refine oper_entry _ _ _ rfl rfl rfl hent ?_
          refine hK _ _ (r1) (fun hB1 => ?_)
          try simp only [Act.put, List.setIfInBounds_toArray, List.set_cons_zero, List.set_cons_succ]
          refine take_list (i := 6) (v := ?_) rfl (by kernel_rfl) (by kernel_rfl) (by kernel_rfl) (fun _ _ _ h => h) (Or.inl ⟨by rfl, fun w hSw => ?_⟩) hB1 ?_
          rotate_left
          · (skip; go_simp)
            try with_reducible rfl
          simp only [Act.put, List.setIfInBounds_toArray, List.set_cons_zero, List.set_cons_succ]
          refine wpAnyH_ready (rs := [3]) (by kernel_rfl) (by simp) (one_list (i := 3) rfl (by rfl) (fun K hK => ?_) AllReadyH.nil)
          refine oper_look _ _ _ rfl rfl rfl hlk2 ?_
          refine hK _ _ (r1) (fun hB2 => ?_)
          try simp only [Act.put, List.setIfInBounds_toArray, List.set_cons_zero, List.set_cons_succ]
          refine take_list (i := 4) (v := ?_) rfl (by kernel_rfl) (by kernel_rfl) (by kernel_rfl) (fun _ _ _ h => h) (Or.inl ⟨by rfl, fun w hSw => ?_⟩) hB2 ?_
          rotate_left
          · (skip; go_simp)
            try with_reducible rfl
          simp only [Act.put, List.setIfInBounds_toArray, List.set_cons_zero, List.set_cons_succ]
          refine wpAnyH_ready (rs := [7]) (by kernel_rfl) (by simp) (one_list (i := 7) rfl (by rfl) (fun K hK => ?_) AllReadyH.nil)
          refine oper_estore (xv := .map (some (w.heap.size + 1))) (yv := goInt st) (uv := .int .i64 (IntKind.i64.wrap (v0 + 1))) _ _ _ _ rfl rfl rfl rfl hst1 ?_
          refine hK _ _ r2 (fun hB3 => ?_)
          simp only [Act.put]
          refine wpAnyH_done (by kernel_rfl) ?_ _
          refine NoPanic.normal ?_
          go_wp2_with fail
          exact ⟨⟨k + 1, _, by go_num, hlt, HM2.out, by have := HMl.out; have := mput_len m bs (IntKind.i64.wrap (v0 + 1)); omega, HC2.out⟩, meas_step hlt⟩
      · have hki : ¬ (k : Int) < (rows.length : Int) := by omega
        go_wp2_with fail
        go_ret
        exact ⟨⟨_, rfl⟩, HC.out⟩

end Go.Proofs.Ytogjjkbgagedpaa.coords

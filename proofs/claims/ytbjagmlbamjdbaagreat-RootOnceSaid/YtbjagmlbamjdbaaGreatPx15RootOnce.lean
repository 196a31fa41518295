/- . -/
import Derived.Test.YtbjagmlbamjdbaaGreatPx1RootOnce
import Derived.Test.YtbjagmlbamjdbaaGreatPx2RootOnce
import Derived.Test.YtbjagmlbamjdbaaGreatPx5RootOnce
import Derived.Test.YtbjagmlbamjdbaaGreatPx6RootOnce
import Derived.Test.YtbjagmlbamjdbaaGreatPx14RootOnce
import Derived.Shelf.SlSortCmp.WholeK
import Derived.Shelf.SlSortCmp.NoneTotal
import Derived.StringKeys
import Derived.WalkLawsBesides
import Derived.BigQuiet
import Derived.Lib.LazyBuf
import Derived.Deep.QuietTactic
import Derived.Lib.Hide

set_option linter.unusedSimpArgs false
set_option linter.unusedVariables false
section
namespace Go.Proofs.YtbjagmlbamjdbaaGreat.kvs
open Go.Shelf

def sortP_ren : Go.Shelf.Ren := ⟨fun | 6 => 129 | 15 => 169 | 14 => 168 | 28 => 196 | 29 => 197 | 20 => 188 | 21 => 189 | 22 => 190 | 23 => 191 | 24 => 192 | 25 => 193 | 26 => 194 | 27 => 195 | 46 => 217 | 47 => 218 | 48 => 219 | 49 => 220 | 50 => 221 | 57 => 228 | n => n, fun | 22 => 66 | 24 => 103 | 25 => 210 | 3 => 3 | 39 => 217 | 0 => 0 | 53 => 254 | 55 => 162 | 4 => 4 | 46 => 269 | 45 => 268 | 50 => 169 | 5 => 5 | 9 => 9 | 66 => 292 | 70 => 295 | 76 => 299 | 77 => 300 | n => n, fun | n => n⟩

theorem sortP : Go.Proofs.SlLaysF0.n6 Tryz.prog sortP_ren := {
  mixed := by kernel_rfl,
  f6 := ⟨Tryz.f129.name, by decide, Tryz.func129.trans (congrArg some (by kernel_rfl))⟩,
  f14 := ⟨Tryz.f168.name, by decide, Tryz.func168.trans (congrArg some (by kernel_rfl))⟩,
  f15 := Tryz.func169.trans (congrArg some (by kernel_rfl)),
  f20 := ⟨Tryz.f188.name, by decide, Tryz.func188.trans (congrArg some (by kernel_rfl))⟩,
  f21 := ⟨Tryz.f189.name, by decide, Tryz.func189.trans (congrArg some (by kernel_rfl))⟩,
  f22 := ⟨Tryz.f190.name, by decide, Tryz.func190.trans (congrArg some (by kernel_rfl))⟩,
  f23 := ⟨Tryz.f191.name, by decide, Tryz.func191.trans (congrArg some (by kernel_rfl))⟩,
  f24 := ⟨Tryz.f192.name, by decide, Tryz.func192.trans (congrArg some (by kernel_rfl))⟩,
  f25 := ⟨Tryz.f193.name, by decide, Tryz.func193.trans (congrArg some (by kernel_rfl))⟩,
  f26 := ⟨Tryz.f194.name, by decide, Tryz.func194.trans (congrArg some (by kernel_rfl))⟩,
  f27 := ⟨Tryz.f195.name, by decide, Tryz.func195.trans (congrArg some (by kernel_rfl))⟩,
  f28 := Tryz.func196.trans (congrArg some (by kernel_rfl)),
  f29 := Tryz.func197.trans (congrArg some (by kernel_rfl)),
  f46 := ⟨Tryz.f217.name, by decide, Tryz.func217.trans (congrArg some (by kernel_rfl))⟩,
  f47 := Tryz.func218.trans (congrArg some (by kernel_rfl)),
  f48 := Tryz.func219.trans (congrArg some (by kernel_rfl)),
  f49 := ⟨Tryz.f220.name, by decide, Tryz.func220.trans (congrArg some (by kernel_rfl))⟩,
  f50 := ⟨Tryz.f221.name, by decide, Tryz.func221.trans (congrArg some (by kernel_rfl))⟩,
  f57 := ⟨Tryz.f228.name, by decide, Tryz.func228.trans (congrArg some (by kernel_rfl))⟩,
  t0 := Tryz.underlying0,
  a0 := Tryz.isAgg0,
  z0 := Tryz.sizeOf0,
  v0 := Tryz.zeroValue0,
  t3 := Tryz.underlying3,
  a3 := Tryz.isAgg3,
  z3 := Tryz.sizeOf3,
  v3 := Tryz.zeroValue3,
  t4 := Tryz.underlying4,
  a4 := Tryz.isAgg4,
  z4 := Tryz.sizeOf4,
  v4 := Tryz.zeroValue4,
  t5 := Tryz.underlying5,
  a5 := Tryz.isAgg5,
  z5 := Tryz.sizeOf5,
  v5 := Tryz.zeroValue5,
  t9 := Tryz.underlying9,
  a9 := Tryz.isAgg9,
  z9 := Tryz.sizeOf9,
  v9 := Tryz.zeroValue9,
  t22 := Tryz.underlying66,
  a22 := Tryz.isAgg66,
  z22 := Tryz.sizeOf66,
  v22 := Tryz.zeroValue66,
  t25 := Tryz.underlying210,
  a25 := Tryz.isAgg210,
  z25 := Tryz.sizeOf210,
  v25 := Tryz.zeroValue210,
  t39 := Tryz.underlying217,
  a39 := Tryz.isAgg217,
  z39 := Tryz.sizeOf217,
  v39 := Tryz.zeroValue217,
  t45 := Tryz.underlying268,
  a45 := Tryz.isAgg268,
  z45 := Tryz.sizeOf268,
  v45 := Tryz.zeroValue268,
  t46 := Tryz.underlying269,
  a46 := Tryz.isAgg269,
  z46 := Tryz.sizeOf269,
  v46 := Tryz.zeroValue269,
  t50 := Tryz.underlying169,
  a50 := Tryz.isAgg169,
  z50 := Tryz.sizeOf169,
  v50 := Tryz.zeroValue169,
  t53 := Tryz.underlying254,
  a53 := Tryz.isAgg254,
  z53 := Tryz.sizeOf254,
  v53 := Tryz.zeroValue254,
  t55 := Tryz.underlying162,
  a55 := Tryz.isAgg162,
  z55 := Tryz.sizeOf162,
  v55 := Tryz.zeroValue162,
  t66 := Tryz.underlying292,
  a66 := Tryz.isAgg292,
  z66 := Tryz.sizeOf292,
  v66 := Tryz.zeroValue292,
  t70 := Tryz.underlying295,
  a70 := Tryz.isAgg295,
  z70 := Tryz.sizeOf295,
  v70 := Tryz.zeroValue295,
  t76 := Tryz.underlying299,
  a76 := Tryz.isAgg299,
  z76 := Tryz.sizeOf299,
  v76 := Tryz.zeroValue299,
  t77 := Tryz.underlying300,
  a77 := Tryz.isAgg300,
  z77 := Tryz.sizeOf300,
  v77 := Tryz.zeroValue300 }

end Go.Proofs.YtbjagmlbamjdbaaGreat.kvs
end

section
namespace Go.Proofs.YtbjagmlbamjdbaaGreat.kvs
open Go.RowKit Go.Maps Go.My Go.ChangeMaps Go.Shelf Go.Lib Go.Sort disks bufs wals
set_option maxRecDepth 100000

instance : Inhabited PV := ⟨⟨[], [], false⟩⟩

set_option maxHeartbeats 1000000 in
theorem cmpstr_any (a b : ByteArray) (w : World) :
    Calls Tryz.prog 170 #[.string a, .string b] w fun e w' => e = .returned (.int .i64 (Lib.compareBytes a.data.toList b.data.toList)) ∧ w' = w := by
  go_enter Tryz.func170, Tryz.ntmps170
  go_wp2_with fail
  rw [run_callFunc_extern Tryz.func198 (by kernel_rfl) (by kernel_rfl) (by kernel_rfl) (e := Extern.BytealgCompare.compare) (by kernel_rfl), Lib.run_compareString]
  simp only [Result.andThen]
  rw [Oper.upon_value]
  go_wp2_with fail
  go_ret
  exact ⟨rfl, rfl⟩

set_option maxHeartbeats 1000000 in
theorem compare_any (a b : ByteArray) (w : World) :
    Calls Tryz.prog 131 #[.string a, .string b] w fun e w' => e = .returned (.int .i64 (Lib.compareBytes a.data.toList b.data.toList)) ∧ w' = w := by
  go_enter Tryz.func131, Tryz.ntmps131
  go_wp2_with (first | (go_at_call 170; refine (cmpstr_any _ _ _).mono ?_; rintro e w' ⟨rfl, rfl⟩))
  go_ret
  exact ⟨rfl, rfl⟩

def cfP (x y : PV) : Int := Lib.compareBytes x.key y.key

theorem ltP (x y : PV) : ltOf cfP x y = ltB x.key y.key := by
  unfold ltOf cfP
  rw [ltB_cmp]
  cases h : ltB x.key y.key
  · simp only [Bool.false_eq_true, if_false]
    split <;> rfl
  · rfl

theorem swoP : SWO (ltOf cfP) where
  irrefl x := by rw [ltP]; exact ltB_irrefl _
  trans x y z h1 h2 := by rw [ltP] at *; exact ltB_trans h1 h2
  ntrans x y z h1 h2 := by
    rw [ltP] at *
    cases h : ltB x.key z.key with
    | false => rfl
    | true =>
      rcases ltB_tri x.key y.key with h3 | h3 | h3
      · rw [h3] at h1; cases h1
      · rw [h3] at h; rw [h] at h2; cases h2
      · have := ltB_trans h3 h; rw [this] at h2; cases h2

set_option maxHeartbeats 1000000 in
theorem pclosure_any (x y : PV) (W : World) : Calls Tryz.prog 130 #[.agg x.row.toArray, .agg y.row.toArray] W fun e w' => e = .returned (.int .i64 (cfP x y)) ∧ ∃ q os', w' = Go.Sort.grow (W.drewN q) os' := by
  unfold PV.row cfP
  obtain ⟨xk, hxk⟩ : ∃ s : ByteArray, strV x.key = .string s := ⟨_, rfl⟩
  obtain ⟨xv, hxv⟩ : ∃ s : ByteArray, strV x.val = .string s := ⟨_, rfl⟩
  obtain ⟨yk, hyk⟩ : ∃ s : ByteArray, strV y.key = .string s := ⟨_, rfl⟩
  obtain ⟨yv, hyv⟩ : ∃ s : ByteArray, strV y.val = .string s := ⟨_, rfl⟩
  have h1 : x.key = xk.data.toList := by rw [strV_string _ _ hxk]
  have h2 : y.key = yk.data.toList := by rw [strV_string _ _ hyk]
  rw [hxk, hxv, hyk, hyv, h1, h2]
  clear hxk hxv hyk hyv h1 h2
  go_enter Tryz.func130, Tryz.ntmps130
  go_wp2_with (first | (go_at_call 131; refine (compare_any _ _ _).mono ?_; rintro e w' ⟨rfl, rfl⟩))
  go_ret
  exact ⟨rfl, 0, _, by rw [alloc_eq_grow, alloc_eq_grow, grow_grow]; rfl⟩

theorem cmpP (blk off size : Nat) (w : World) : CmpLays Tryz.prog 130 #[] PV.row 3 cfP blk off size w := fun _ _ _ _ x y => pclosure_any x y _

theorem size_put : ∀ w, (Go.sizeOf 103).run Tryz.prog w = .ok 3 w := Tryz.sizeOf103
theorem agg_put : ∀ w, (isAgg 103).run Tryz.prog w = .ok true w := Tryz.isAgg103

theorem psort_any (w : World) {base : Nat} {v : Value} {ws : List PV} (h : Puts w base v ws) (hn : ws.length ≤ 4000000) :
    Calls Tryz.prog 129 #[v, .func (.func 130) #[] #[]] w fun e w' => e = .returned (.tuple #[]) ∧
      ∃ ws' : List PV, ws'.Perm ws ∧ ws'.Pairwise (fun a b => ltB b.key a.key = false) ∧ Puts w' base v ws' ∧ Chg (fun j => some j = v.ownBlock) w w' := by
  obtain ⟨oa, cap, rfl, -⟩ := h.slice
  rw [List.length_map] at *
  rcases ws with _ | ⟨x0, ws0⟩
  · refine (AnyF.slices_SortFunc_none (P := Tryz.prog) (ρ := sortP_ren) { sortP with } oa cap (.func (.func 130) #[] #[]) w).mono ?_
    rintro e w' ⟨rfl, rfl⟩
    exact ⟨rfl, [], List.Perm.refl _, List.Pairwise.nil, h, Chg.refl _ _⟩
  · obtain ⟨ws, hws⟩ : ∃ ws, ws = x0 :: ws0 := ⟨_, rfl⟩
    rw [← hws] at h hn ⊢
    have hpos : 0 < (ws.map PV.row).length := by rw [hws]; simp
    obtain ⟨g, cap', e1, -, -, hg, -, -⟩ := h.cell hpos
    simp only [Value.slice.injEq] at e1
    obtain ⟨rfl, -, -⟩ := e1
    have eg : ∀ args w, (callFunc 130 args).run Tryz.prog w = .ok (.enter 130 args) w := enters_of Tryz.func130 (by kernel_rfl) rfl
    have hcon := AnyQ.slices_SortFunc (P := Tryz.prog) (ρ := sortP_ren) sortP 3 agg_put size_put PV.row (fun _ => rfl) (fun x v hv => row_oneCell x v hv) cfP swoP 130 #[] g 0 cap ws.toArray w eg (cmpP g 0 _ w)
      (recs_holds PV.row 3 (fun _ => rfl) h) hg (by rw [List.size_toArray]; omega)
    rw [List.size_toArray] at hcon
    refine hcon.mono ?_
    rintro e w' ⟨rfl, d', n, os, hp, hs, rfl⟩
    obtain ⟨h1, -, h2⟩ := hp
    have h1' : d'.size = ws.length := by simpa using h1
    have e2 : (d'.extract 0 ws.length).toList = d'.toList := by rw [← h1']; simp
    have e3 : (ws.toArray.extract 0 ws.length).toList = ws := by simp
    rw [e2, e3] at h2
    have hl : d'.toList.length = ws.length := h2.length_eq
    refine ⟨rfl, d'.toList, h2, ?_, ?_, (chg_sorted PV.row 3 w g n d' os).mono (fun j _ e => by rw [e]; rfl)⟩
    · rw [List.pairwise_iff_getElem]
      intro i j hi hj hij
      have := hs i j (Nat.zero_le _) hij (by rw [← h1']; simpa using hj)
      rw [ltP, getElem!_pos d' j (by simpa using hj), getElem!_pos d' i (by simpa using hi)] at this
      simpa using this
    · have := recs_sorted PV.row 3 (fun _ => rfl) (d' := d'.toList) h hl n os
      rw [hl] at this
      simpa using this

end Go.Proofs.YtbjagmlbamjdbaaGreat.kvs
end

section
namespace Go.Proofs.YtbjagmlbamjdbaaGreat.kvs
open Go.RowKit Go.Maps Go.My Go.ChangeMaps disks bufs wals
set_option maxRecDepth 100000

variable {w w' : World}

def sKey : KeyEnc Tryz.prog 9 Txt where
  enc := strV
  ok k := k.length ≤ maxLen
  keyed := string_keyed Tryz.underlying9
  reads k hk := ⟨_, WideMaps.keyOf_string_mk Tryz.underlying9 (by show (⟨k.toArray⟩ : ByteArray).size ≤ maxLen; simpa [ByteArray.size] using hk)⟩
  inj k k' h := by
    have : Value.string (⟨k.toArray⟩ : ByteArray) = .string ⟨k'.toArray⟩ := h
    simpa using this

abbrev MapAt (w : World) (b : Nat) (m : List KV) : Prop := MapIs sKey strV w b m

theorem puts_ne {B b : Nat} {v : Value} {l : List PV} {m : List KV} (h : Puts w B v l) (hm : MapAt w b m) : ∀ k, v.ownBlock = some k → ¬ k = b := by
  intro k hk e
  obtain ⟨es, clock, hb, -⟩ := hm
  rcases h.row.2 with ⟨rfl, -⟩ | ⟨g, cap, cur, rfl, -, hg, -⟩
  · cases hk
  · cases hk
    rw [show g = b from e, hb] at hg
    cases hg

theorem applyF_take {m : List KV} {l : List PV} {k : Nat} {p : PV} (h : l[k]? = some p) : applyF m (l.take (k + 1)) = doneF (applyF m (l.take k)) p := by
  rw [List.take_add_one, h, Option.toList_some, applyF_append]
  rfl

set_option maxHeartbeats 1000000 in
theorem apply_any (w : World) {b B : Nat} {v : Value} {m : List KV} {l : List PV} (h : MapAt w b m) (hp : Puts w B v l) (hk : ∀ p ∈ l, p.key.length ≤ maxLen) (hln : l.length ≤ 1000000000) :
    Calls Tryz.prog 61 #[.map (some b), v] w fun e w' => e = .returned (.tuple #[]) ∧ MapAt w' b (applyF m l) ∧ Chg (· = b) w w' := by
  have hne := puts_ne hp h
  obtain ⟨oa, cap, rfl, -⟩ := hp.slice
  rw [List.length_map] at *
  have HP := Lib.hid hp
  have HM := Lib.hid h
  have HK := Lib.hid hk
  have HNe := Lib.hid hne
  clear h hp hk hne
  go_enter Tryz.func61, Tryz.ntmps61
  go_wp2_with fail
  go_loopw [8] (fun j wr => ∃ k : Nat, j = .int .i64 k ∧ k ≤ l.length ∧ MapAt wr b (applyF m (l.take k)) ∧ Chg (· = b) w wr) (fun j _ => l.length - (intOf j).toNat)
  · exact ⟨0, rfl, Nat.zero_le _, HM.out, Chg.refl _ _⟩
  obtain ⟨k, rfl, hk, hm, hc⟩ := hrel
  have HC := Lib.hid hc
  have HMk := Lib.hid hm
  clear hc hm
  by_cases hlt : k < l.length
  · have hki : (k : Int) < (l.length : Int) := by omega
    obtain ⟨g', cap', p, e1, hr, d0, d1, d2⟩ := put_cells (HP.out.kept HC.out HNe.out) hlt
    simp only [Value.slice.injEq] at e1
    obtain ⟨rfl, -, -⟩ := e1
    have Hr := Lib.hid hr
    have HKp := Lib.hid (HK.out p (List.mem_of_getElem? hr))
    clear hr
    unfold strV at d0 d1
    have hca : Chg (fun _ => False) wr (wr.alloc (.cells #[.string ⟨p.key.toArray⟩, .string ⟨p.val.toArray⟩, .bool p.gone] 103)) := (Chg.refl _ _).alloc _
    have HMa := Lib.hid (HMk.out.kept hca id)
    have HCa := Lib.hid (HC.out.trans (hca.mono (S' := (· = b)) (fun _ _ h => h.elim)) (fun _ _ h => h))
    clear hca
    cases hg : p.gone
    · have Hg := Lib.hid hg
      rw [hg] at d2 HMa HCa
      clear hg
      go_wp2_with (first
        | (at_mapUpdate; refine wpList_put HMa.out rfl _ _ _ _ rfl _ Tryz.underlying116 rfl p.key rfl HKp.out p.val rfl ?_; intro w1 hm1 hc1; have HM1 := Lib.hid hm1; have HC1 := Lib.hid hc1; clear hm1 hc1))
      refine ⟨⟨k + 1, by go_num, hlt, ?_, HCa.out.trans HC1.out (fun _ _ h => h)⟩, puts_meas hlt⟩
      rw [applyF_take Hr.out]
      unfold doneF
      rw [Hg.out, if_neg (by simp)]
      exact HM1.out
    · have Hg := Lib.hid hg
      rw [hg] at d2 HMa HCa
      clear hg
      obtain ⟨ob, hdel, hm1⟩ := HMa.out.del Tryz.underlying116 p.key HKp.out 0
      have hc1 : Chg (· = b) (wr.alloc (.cells #[.string ⟨p.key.toArray⟩, .string ⟨p.val.toArray⟩, .bool true] 103)) (setBlock (wr.alloc (.cells #[.string ⟨p.key.toArray⟩, .string ⟨p.val.toArray⟩, .bool true] 103)) b ob) := Chg.setBlock (S := (· = b)) (Chg.refl _ _) (fun _ => rfl) _
      obtain ⟨w1, hw1⟩ : ∃ w1, setBlock (wr.alloc (.cells #[.string ⟨p.key.toArray⟩, .string ⟨p.val.toArray⟩, .bool true] 103)) b ob = w1 := ⟨_, rfl⟩
      rw [hw1] at hdel hm1 hc1
      have HM1 := Lib.hid hm1
      have HC1 := Lib.hid hc1
      have hdel2 : (Builtin.delete_ #[116, 9] 0 #[.map (some b), .string ⟨p.key.toArray⟩]).run Tryz.prog (wr.alloc (.cells #[.string ⟨p.key.toArray⟩, .string ⟨p.val.toArray⟩, .bool true] 103)) = .ok (.tuple #[]) w1 := hdel
      clear hm1 hc1 hdel hw1
      go_wp2_with fail
      refine ⟨⟨k + 1, by go_num, hlt, ?_, HCa.out.trans HC1.out (fun _ _ h => h)⟩, puts_meas hlt⟩
      rw [applyF_take Hr.out]
      unfold doneF
      rw [Hg.out, if_pos rfl]
      exact HM1.out
  · have hki : ¬ (k : Int) < (l.length : Int) := by omega
    obtain rfl : k = l.length := by omega
    go_wp2_with fail
    go_end0
    have := HMk.out
    rw [List.take_length] at this
    exact ⟨rfl, this, HC.out⟩

theorem sorted_is {m ds : List KV} (hn : NoDup m) (hp : ds.Perm m) {ws : List PV} (h1 : ws.Perm (ds.reverse.map ofKV)) (h2 : ws.Pairwise (fun a b => ltB b.key a.key = false)) : ws = (sortF m).map ofKV := by
  have hof : ∀ p ∈ ws, ofKV (p.key, p.val) = p := by
    intro p hpw
    obtain ⟨q, -, rfl⟩ := List.mem_map.1 (h1.mem_iff.1 hpw)
    rfl
  have e1 : (ws.map (fun p => (p.key, p.val))).map ofKV = ws := by
    rw [List.map_map]
    conv => rhs; rw [← List.map_id ws]
    exact List.map_congr_left (fun p hp => hof p hp)
  have hpm : (ws.map (fun p => (p.key, p.val))).Perm m := by
    have h3 := h1.map (fun p : PV => (p.key, p.val))
    rw [List.map_map] at h3
    have e2 : ds.reverse.map ((fun p : PV => (p.key, p.val)) ∘ ofKV) = ds.reverse := by
      conv => rhs; rw [← List.map_id ds.reverse]
      exact List.map_congr_left (fun p _ => rfl)
    rw [e2] at h3
    exact h3.trans ((List.reverse_perm ds).trans hp)
  have hnd : NoDup (ws.map (fun p => (p.key, p.val))) := (hpm.symm.map Prod.fst).nodup_iff.1 hn
  have hasc : Asc (ws.map (fun p => (p.key, p.val))) := by
    unfold Asc
    rw [List.pairwise_map]
    have h4 : ws.Pairwise (fun a b => a.key ≠ b.key) := by
      unfold NoDup at hnd
      rw [List.map_map, List.Nodup, List.pairwise_map] at hnd
      exact hnd
    refine (h2.and h4).imp ?_
    rintro a b ⟨h5, h6⟩
    rcases ltB_tri a.key b.key with h | h | h
    · exact h
    · exact absurd h h6
    · rw [h5] at h; cases h
  rw [← e1, asc_unique hasc (sortF_asc hn) (hpm.trans (sortF_perm m).symm)]

theorem append_putO {B : Nat} {v : Value} {l : List PV} {p : PV} {nb : Nat} (h : Puts w B v l) (hnb : ∀ (j : Nat) u, p.row[j]? = some u → w.cell? ⟨nb, j, none⟩ = some u) (hB : B ≤ w.heap.size) (hl : l.length ≤ 1000000) (ty : TypeId) :
    ∃ v' w', (Builtin.append_ #[66, 66] ty #[v, .slice (some ⟨nb, 0, none⟩) 1 1]).run Tryz.prog w = .ok v' w' ∧ Puts w' B v' (l ++ [p]) ∧ Chg (fun k => some k = v.ownBlock) w w' := by
  obtain ⟨i, hi, hz, hsz, hby⟩ := info_parts info_put
  have hadd : ∀ (j : Nat) u, p.row[j]? = some u → w.cell? ((⟨nb, 0, none⟩ : Addr).add j) = some u := by
    intro j u hu
    have : (⟨nb, 0, none⟩ : Addr).add j = ⟨nb, j, none⟩ := by unfold Addr.add; split <;> simp_all
    rw [this]; exact hnb j u hu
  obtain ⟨v', w', h1, h2, h3, -⟩ := run_append_own (P := Tryz.prog) w B 66 ty 103 i _ 3 40 Tryz.underlying66 hi hz hsz hby rfl (by decide) v _ _ h.row ⟨nb, 0, none⟩ 1 1 p.row rfl hadd (row_oneCell p) (by rw [List.length_map]; unfold maxLen; omega) (by rw [List.length_map]; omega) hB
  refine ⟨v', w', h1, ?_, Chg.of_grown h3⟩
  show OwnRecs w' B _ 3 v' ((l ++ [p]).map PV.row)
  rw [List.map_append]
  exact OwnRecs.append (m := [p.row]) (by simpa using h2) h.each (by simp [PV.row])

set_option maxHeartbeats 2000000 in
theorem sorted_any (w : World) {b : Nat} {m : List KV} (h : MapAt w b m) (hn : m.length ≤ 1000000) :
    Calls Tryz.prog 69 #[.map (some b)] w fun e w' => ∃ v, e = .returned v ∧ Puts w' w.heap.size v ((sortF m).map ofKV) ∧ Chg (fun _ => False) w w' := by
  have H := Lib.hid h
  clear h
  go_enter Tryz.func69, Tryz.ntmps69
  go_wp2_with (first
    | (at_range; refine wpList_rangeM H.out rfl _ 116 9 rfl Tryz.underlying116 rfl ?_; intro w2 cnt hr2 hc2 hs2))
  go_frame
  go_loopw [3] (fun u wr => ∃ (ds : List KV) (cnt : Nat), RngIs sKey strV wr b w.heap.size m (ds.map (·.1)) cnt ∧ Puts wr w.heap.size u (ds.reverse.map ofKV) ∧ Chg (fun _ => False) w wr ∧ (ds.map (·.1)).Nodup ∧ (∀ p ∈ ds, p ∈ m)) (fun _ wr => wr.rangeLeft b w.heap.size)
  · exact ⟨[], cnt, hr2, OwnRecs.nil _ _ _ _, hc2, List.nodup_nil, by simp⟩
  clear hr2 hc2 hs2
  obtain ⟨ds, cnt, hr, ho, hc, hnd, hin⟩ := hrel
  have HR := Lib.hid hr
  have HO := Lib.hid ho
  have HC := Lib.hid hc
  have HN := Lib.hid hnd
  have HIn := Lib.hid hin
  have hds : ds.Nodup := List.Pairwise.of_map _ (fun a b h e => h (by rw [e])) hnd
  have hlen : ds.length ≤ 1000000 := Nat.le_trans (hds.length_le_of_subset hin) hn
  have HDs := Lib.hid hds
  have HLen := Lib.hid hlen
  clear hr ho hc hnd hin hds hlen
  rcases HR.out.next 0 with ⟨hall, hrun⟩ | ⟨k, v, w', cnt', hm, hnn, hrun, hr', hlt, hcr, hsz, hen⟩
  · have hpm : ds.Perm m := by
      have hmn : m.Nodup := List.Pairwise.of_map _ (fun a b h e => h (by rw [e])) H.out.nodup
      rw [List.perm_ext_iff_of_nodup HDs.out hmn]
      intro p
      refine ⟨HIn.out p, fun hp => ?_⟩
      obtain ⟨q, hq, he⟩ := List.mem_map.1 (hall p hp)
      have h1 := mem_mget (show NoDup m from H.out.nodup) (HIn.out q hq)
      have h2 := mem_mget (show NoDup m from H.out.nodup) hp
      rw [he, h2] at h1
      have : q = p := Prod.ext he (by simpa using h1.symm)
      rw [← this]; exact hq
    have HPm := Lib.hid hpm
    clear hpm hall
    go_wp2_with (first
      | (go_at_call 129; refine (psort_any _ HO.out (by rw [List.length_map, List.length_reverse]; have := HLen.out; omega)).mono ?_; rintro e w' ⟨rfl, ws', hp', hs', ho', hc'⟩))
    go_ret
    rw [← sorted_is H.out.nodup HPm.out hp' hs']
    exact ⟨_, rfl, ho', HC.out.new hc' (fun i e => (HO.out.lt e.symm).1)⟩
  · have hen' : (Instr.entry (.pointer (some ⟨w.heap.size, 0, none⟩))).run Tryz.prog w' = .ok (.tuple #[.string ⟨k.toArray⟩, .string ⟨v.toArray⟩]) w' := hen
    have hrun' : (Instr.next (.pointer (some ⟨w.heap.size, 0, none⟩)) false 0).run Tryz.prog wr = .ok (.tuple #[.bool true, .string ⟨k.toArray⟩, .string ⟨v.toArray⟩]) w' := hrun
    have hca := (Chg.refl (fun _ => False) w').alloc (.cells #[.string ⟨k.toArray⟩, .string ⟨v.toArray⟩, .bool false] 103)
    have hnr : ∀ j, (_ : Value).ownBlock = some j → ¬ j = w.heap.size := fun j hj e => by
      obtain ⟨_, _, _, _, _, _, _, _, _, h5, _⟩ := HR.out
      obtain ⟨cur, hg⟩ := own_obj HO.out hj
      rw [e, h5] at hg
      cases hg
    have hnb := puts_ne HO.out HR.out.map
    have hou := HO.out.kept hcr hnr
    have hz : w.heap.size ≤ w'.heap.size := Nat.le_trans HC.out.size hcr.size
    obtain ⟨v8, w8, hr8, hp8, hg8⟩ := append_putO (p := ofKV (k, v)) (nb := w'.heap.size) (hou.kept hca (fun _ _ h => h)) (fun j u hu => cell_of_block (block_alloc_new _ _) (by simpa [ofKV, PV.row, strV] using hu)) (Nat.le_trans hz hca.size) (by rw [List.length_map, List.length_reverse]; exact HLen.out) 66
    have hrn := (hr'.kept hca id id).kept hg8 (fun e => hnb _ e.symm rfl) (fun e => hnr _ e.symm rfl)
    have hcn : Chg (fun _ => False) w w8 := ((HC.out.new hcr (fun i e => Nat.le_of_eq e.symm)).trans' hca).new hg8 (fun i e => (HO.out.lt e.symm).1)
    have HR8 := Lib.hid hr8
    have HP8 := Lib.hid hp8
    have HRn := Lib.hid hrn
    have HCn := Lib.hid hcn
    have HM := Lib.hid hm
    have HNn := Lib.hid hnn
    have HLt := Lib.hid hlt
    clear hsz hen hrun hr' hcr hca hnr hnb hou hz hr8 hp8 hg8 hrn hcn hm hnn hlt
    go_wp2_with (first
      | (at_builtin; refine Lib.wpList_append_run _ rfl _ _ _ _ rfl _ _ rfl rfl _ _ HR8.out ?_))
    refine ⟨⟨(k, v) :: ds, cnt', HRn.out, by rw [List.reverse_cons, List.map_append]; exact HP8.out, HCn.out, List.nodup_cons.2 ⟨HNn.out, HN.out⟩, fun p hp => ?_⟩, ?_⟩
    · rcases List.mem_cons.1 hp with rfl | hp
      · exact HM.out
      · exact HIn.out p hp
    · rw [HRn.out.left_eq, HR.out.left_eq]
      exact HLt.out

end Go.Proofs.YtbjagmlbamjdbaaGreat.kvs
end

section
namespace Go.Proofs.YtbjagmlbamjdbaaGreat.kvs
open Go.RowKit Go.Maps Go.My Go.ChangeMaps disks bufs wals
set_option maxRecDepth 100000

variable {w w' : World} {N O Z B : Nat} {x : Sn} {nv ov : Value}

structure SnAt (w : World) (N O Z B : Nat) (x : Sn) (nv ov : Value) : Prop where
  n : w.heap[N]? = some (.cells #[nv] 66 (0, 0))
  o : w.heap[O]? = some (.cells #[ov] 109 (0, 0))
  z : w.heap[Z]? = some (.cells #[.int .i64 (x.size : Int)] 3 (0, 0))
  now : Puts w B nv x.now
  out : w.ownsRow B 9 1 ov x.out.length (x.out.map strV)
  nB : N < B
  oB : O < B
  zB : Z < B
  no : ¬ N = O
  nz : ¬ N = Z
  oz : ¬ O = Z

theorem row_keptS {base : Nat} {e : TypeId} {size : Nat} {v : Value} {n : Nat} {xs : List Value} (h : w.ownsRow base e size v n xs) {S : Nat → Prop} (hc : Chg S w w') (hn : ∀ k, v.ownBlock = some k → ¬ S k) : w'.ownsRow base e size v n xs := by
  obtain ⟨h1, h2⟩ := h
  refine ⟨h1, ?_⟩
  rcases h2 with h2 | ⟨g, cap, cur, rfl, hb, hg, r⟩
  · exact Or.inl h2
  · exact Or.inr ⟨g, cap, cur, rfl, hb, hc.at hg (hn g rfl), r⟩
theorem SnAt.kept (h : SnAt w N O Z B x nv ov) (hc : Chg (fun _ => False) w w') : SnAt w' N O Z B x nv ov :=
  ⟨hc.at h.n id, hc.at h.o id, hc.at h.z id, h.now.kept hc (fun _ _ h => h), own_kept h.out hc, h.nB, h.oB, h.zB, h.no, h.nz, h.oz⟩
theorem SnAt.apart (h : SnAt w N O Z B x nv ov) : ∀ k, nv.ownBlock = some k → ¬ some k = ov.ownBlock := by
  intro k hk e
  obtain ⟨c1, h1⟩ := own_obj h.now hk
  rcases h.out.2 with ⟨rfl, -⟩ | ⟨g, cap, cur, rfl, -, hg, -⟩
  · cases e
  · have : k = g := by simpa [Value.ownBlock] using e
    subst this
    rw [h1] at hg
    simp only [Option.some.injEq, Obj.cells.injEq] at hg
    exact absurd hg.2.1 (by decide)

theorem SnAt.clear (h : SnAt w N O Z B x nv ov) : SnAt ((w.setCell ⟨N, 0, none⟩ (.slice none 0 0)).setCell ⟨Z, 0, none⟩ (.int .i64 0)) N O Z B ⟨x.out, [], 0⟩ (.slice none 0 0) ov := by
  have hc1 : Chg (fun k => k = N ∨ k = Z) w (w.setCell ⟨N, 0, none⟩ (.slice none 0 0)) := Chg.setCell (S := fun k => k = N ∨ k = Z) (Chg.refl _ _) (fun _ => Or.inl rfl) _
  have hc2 : Chg (fun k => k = N ∨ k = Z) w ((w.setCell ⟨N, 0, none⟩ (.slice none 0 0)).setCell ⟨Z, 0, none⟩ (.int .i64 0)) := hc1.setCell (fun _ => Or.inr rfl) _
  refine ⟨?_, hc2.at h.o (by rintro (e | e); exact h.no e.symm; exact h.oz e), ?_, OwnRecs.nil _ _ _ _, row_keptS h.out hc2 (fun k hk hs => by have h1 := (h.out.lt k hk).1; have := h.nB; have := h.zB; omega), h.nB, h.oB, h.zB, h.no, h.nz, h.oz⟩
  · rw [heap_setCell_get _ _ _ _ (show N ≠ Z from h.nz), block_setCell h.n]; rfl
  · rw [block_setCell (by rw [heap_setCell_get _ _ _ _ (show Z ≠ N from fun e => h.nz e.symm)]; exact h.z)]; rfl

theorem SnAt.lows (h : SnAt w N O Z B x nv ov) (hc : Chg (fun k => some k = ov.ownBlock) w w') : w'.heap[N]? = some (.cells #[nv] 66 (0, 0)) ∧ w'.heap[O]? = some (.cells #[ov] 109 (0, 0)) ∧ w'.heap[Z]? = some (.cells #[.int .i64 (x.size : Int)] 3 (0, 0)) := by
  have hl : ∀ k, k < B → ¬ some k = ov.ownBlock := fun k hk e => by have := (h.out.lt k e.symm).1; omega
  exact ⟨hc.at h.n (hl N h.nB), hc.at h.o (hl O h.oB), hc.at h.z (hl Z h.zB)⟩
theorem SnAt.push (h : SnAt w N O Z B x nv ov) (hc : Chg (fun k => some k = ov.ownBlock) w w') {ov2 : Value} {t : Txt} (ho : w'.ownsRow B 9 1 ov2 (x.out ++ [t]).length ((x.out ++ [t]).map strV)) : SnAt (w'.setCell ⟨O, 0, none⟩ ov2) N O Z B ⟨x.out ++ [t], x.now, x.size⟩ nv ov2 := by
  obtain ⟨h1, h2, h3⟩ := h.lows hc
  have hs : Chg (fun k => k = O) w' (w'.setCell ⟨O, 0, none⟩ ov2) := Chg.setCell (S := fun k => k = O) (Chg.refl _ _) (fun _ => rfl) _
  refine ⟨hs.at h1 h.no, by rw [block_setCell h2]; rfl, hs.at h3 (fun e => h.oz e.symm), (h.now.kept hc h.apart).kept hs (fun k hk e => by have := (h.now.lt hk).1; have := h.oB; omega), row_keptS ho hs (fun k hk e => by have := (ho.lt k hk).1; have := h.oB; omega), h.nB, h.oB, h.zB, h.no, h.nz, h.oz⟩

set_option maxHeartbeats 2000000 in
theorem close_any (w : World) (h : SnAt w N O Z B x nv ov) (hB : B ≤ w.heap.size) (hn : x.now.length ≤ 1000000) (ho : x.out.length ≤ 1000000) :
    Calls Tryz.prog 132 #[.pointer (some ⟨N, 0, none⟩), .pointer (some ⟨O, 0, none⟩), .pointer (some ⟨Z, 0, none⟩)] w fun e w' => e = .returned (.tuple #[]) ∧ (∃ nv' ov', SnAt w' N O Z B x.close nv' ov') ∧ Chg (fun k => k = N ∨ k = O ∨ k = Z ∨ some k = ov.ownBlock) w w' := by
  have H := Lib.hid h
  obtain ⟨oa, cap, rfl, -⟩ := h.now.slice
  rw [List.length_map] at *
  have c0 : w.cell? ⟨N, 0, none⟩ = some (.slice oa x.now.length cap) := cell_of_block h.n rfl
  have c1 : w.cell? ⟨O, 0, none⟩ = some ov := cell_of_block h.o rfl
  have z0 : w.frozen? ⟨N, 0, none⟩ = false := free_of_block h.n
  have z1 : w.frozen? ⟨Z, 0, none⟩ = false := free_of_block h.z
  have c2 : w.cell? ⟨Z, 0, none⟩ = some (.int .i64 (x.size : Int)) := cell_of_block h.z rfl
  have n1 := h.nz
  have n2 : ¬ Z = N := fun e => h.nz e.symm
  have n3 := h.no
  have n4 := h.oz
  by_cases h0 : x.now = []
  · have h0i : ¬ (0 : Int) < (x.now.length : Int) := by rw [h0]; simp
    have HE := Lib.hid h0
    clear h h0
    go_enter Tryz.func132, Tryz.ntmps132
    go_wp2_with fail
    go_end0
    refine ⟨rfl, ⟨_, _, by unfold Sn.close; rw [if_pos HE.out]; exact H.out.clear⟩, ?_⟩
    exact (Chg.setCell (S := fun k => k = N ∨ k = O ∨ k = Z ∨ some k = ov.ownBlock) (Chg.refl _ _) (fun _ => Or.inl rfl) _).setCell (fun _ => Or.inr (Or.inr (Or.inl rfl))) _
  · have h0i : (0 : Int) < (x.now.length : Int) := by have := List.length_pos_iff.2 h0; omega
    have HE := Lib.hid h0
    have HEnc := Lib.hid (encode_any w h.now hn)
    obtain ⟨s, hs⟩ : ∃ s : ByteArray, strV (encF x.now).1 = .string s := ⟨_, rfl⟩
    rw [hs] at HEnc
    have HS := Lib.hid hs
    have HB := Lib.hid hB
    have HOl := Lib.hid ho
    clear h h0 hs hB ho
    go_enter Tryz.func132, Tryz.ntmps132
    go_wp2_with (first
      | (go_at_call 66; refine HEnc.out.mono ?_; rintro e w1 ⟨rfl, hc1⟩
         have HC1 := Lib.hid hc1
         have h1 := H.out.kept hc1
         have hca : Chg (fun _ => False) w1 (w1.alloc (.cells #[.string s] 9)) := (Chg.refl _ _).alloc _
         obtain ⟨ov2, w2, hr2, ho2, hg2, -⟩ := append_strs (ys := [.string s]) (cap := 1) (own_kept h1.out hca) (SlAt.of_own (own_of_block (base := 0) (n := 1) at1 (Nat.zero_le _) rfl (by unfold maxLen; omega))) (by simp [Value.oneCell']) (Nat.le_trans HB.out (Nat.le_trans hc1.size hca.size)) (by rw [List.length_map]; have := HOl.out; simp; omega) 109
         obtain ⟨M2, hM2⟩ : ∃ M, (x.out.map strV ++ [Value.string s]).length = M := ⟨_, rfl⟩
         rw [hM2] at ho2
         obtain ⟨oa2, cap2, rfl⟩ := own_slice ho2
         have hM3 : M2 = (x.out ++ [(encF x.now).1]).length := by rw [← hM2]; simp
         have e2 : x.out.map strV ++ [Value.string s] = (x.out ++ [(encF x.now).1]).map strV := by rw [List.map_append, ← HS.out]; rfl
         rw [e2] at ho2
         have ho3 := ho2
         rw [hM3] at ho3
         have hcg := Chg.of_grown hg2
         obtain ⟨l1, l2, l3⟩ := (h1.kept hca).lows hcg
         have hpu := (h1.kept hca).push hcg ho3
         rw [← hM3] at hpu
         have g1 : w2.cell? ⟨O, 0, none⟩ = some ov := cell_of_block l2 rfl
         have y1 : w2.frozen? ⟨O, 0, none⟩ = false := free_of_block l2
         have g2 : (w2.setCell ⟨O, 0, none⟩ (.slice oa2 M2 cap2)).cell? ⟨N, 0, none⟩ = some (.slice oa x.now.length cap) := cell_of_block hpu.n rfl
         have y2 : (w2.setCell ⟨O, 0, none⟩ (.slice oa2 M2 cap2)).frozen? ⟨N, 0, none⟩ = false := free_of_block hpu.n
         have g3 : (w2.setCell ⟨O, 0, none⟩ (.slice oa2 M2 cap2)).cell? ⟨Z, 0, none⟩ = some (.int .i64 (x.size : Int)) := cell_of_block hpu.z rfl
         have y3 : (w2.setCell ⟨O, 0, none⟩ (.slice oa2 M2 cap2)).frozen? ⟨Z, 0, none⟩ = false := free_of_block hpu.z
         have HPu := Lib.hid hpu
         clear hM2 hM3 e2 ho3 hcg l1 l2 l3 hpu
         have HR2 := Lib.hid hr2
         have HG2 := Lib.hid (Chg.of_grown hg2)
         have H1 := Lib.hid h1
         have HCa := Lib.hid hca
         have d1 : w1.cell? ⟨O, 0, none⟩ = some ov := cell_of_block h1.o rfl
         clear hc1 h1 hca hr2 ho2 hg2)
      | (at_builtin; refine Lib.wpList_append_run _ rfl _ _ _ _ rfl _ _ rfl rfl _ _ HR2.out ?_))
    go_end0
    refine ⟨rfl, ⟨_, _, by unfold Sn.close; rw [if_neg HE.out]; exact HPu.out.clear⟩, ?_⟩
    have hq : Chg (fun k => k = N ∨ k = O ∨ k = Z ∨ some k = ov.ownBlock) w w2 := ((HC1.out.trans' HCa.out).mono (fun _ _ h => h.elim)).trans (HG2.out.mono (S' := fun k => k = N ∨ k = O ∨ k = Z ∨ some k = ov.ownBlock) (fun k _ e => Or.inr (Or.inr (Or.inr e)))) (fun _ _ h => h)
    exact ((hq.setCell (fun _ => Or.inr (Or.inl rfl)) _).setCell (fun _ => Or.inl rfl) _).setCell (fun _ => Or.inr (Or.inr (Or.inl rfl))) _

theorem SnAt.apart' (h : SnAt w N O Z B x nv ov) : ∀ k, ov.ownBlock = some k → ¬ some k = nv.ownBlock := fun k hk e => h.apart k e.symm hk.symm
theorem SnAt.lowsN (h : SnAt w N O Z B x nv ov) (hc : Chg (fun k => some k = nv.ownBlock) w w') : w'.heap[N]? = some (.cells #[nv] 66 (0, 0)) ∧ w'.heap[O]? = some (.cells #[ov] 109 (0, 0)) ∧ w'.heap[Z]? = some (.cells #[.int .i64 (x.size : Int)] 3 (0, 0)) := by
  have hl : ∀ k, k < B → ¬ some k = nv.ownBlock := fun k hk e => by have := (h.now.lt e.symm).1; omega
  exact ⟨hc.at h.n (hl N h.nB), hc.at h.o (hl O h.oB), hc.at h.z (hl Z h.zB)⟩
theorem SnAt.more (h : SnAt w N O Z B x nv ov) (hc : Chg (fun k => some k = nv.ownBlock) w w') {nv2 : Value} {p : PV} (hp : Puts w' B nv2 (x.now ++ [p])) : SnAt (w'.setCell ⟨N, 0, none⟩ nv2) N O Z B ⟨x.out, x.now ++ [p], x.size⟩ nv2 ov := by
  obtain ⟨h1, h2, h3⟩ := h.lowsN hc
  have hs : Chg (fun k => k = N) w' (w'.setCell ⟨N, 0, none⟩ nv2) := Chg.setCell (S := fun k => k = N) (Chg.refl _ _) (fun _ => rfl) _
  refine ⟨by rw [block_setCell h1]; rfl, hs.at h2 (fun e => h.no e.symm), hs.at h3 (fun e => h.nz e.symm), hp.kept hs (fun k hk e => by have := (hp.lt hk).1; have := h.nB; omega), row_keptS (row_keptS h.out hc h.apart') hs (fun k hk e => by have := (h.out.lt k hk).1; have := h.nB; omega), h.nB, h.oB, h.zB, h.no, h.nz, h.oz⟩
theorem SnAt.sized (h : SnAt w N O Z B x nv ov) (n : Nat) : SnAt (w.setCell ⟨Z, 0, none⟩ (.int .i64 (n : Int))) N O Z B ⟨x.out, x.now, n⟩ nv ov := by
  have hs : Chg (fun k => k = Z) w (w.setCell ⟨Z, 0, none⟩ (.int .i64 (n : Int))) := Chg.setCell (S := fun k => k = Z) (Chg.refl _ _) (fun _ => rfl) _
  exact ⟨hs.at h.n h.nz, hs.at h.o h.oz, by rw [block_setCell h.z]; rfl, h.now.kept hs (fun k hk e => by have := (h.now.lt hk).1; have := h.zB; omega), row_keptS h.out hs (fun k hk e => by have := (h.out.lt k hk).1; have := h.zB; omega), h.nB, h.oB, h.zB, h.no, h.nz, h.oz⟩

theorem snap_out_len : ∀ (l : List PV) (x : Sn), (l.foldl Sn.step x).out.length ≤ x.out.length + l.length
  | [], x => by simp
  | p :: l, x => by
    have h1 := snap_out_len l (x.step p)
    have h2 : (x.step p).out.length ≤ x.out.length + 1 := by
      show (x.room p.bytes.length).out.length ≤ _
      unfold Sn.room Sn.close
      split
      · split
        · exact Nat.le_succ _
        · simp
      · exact Nat.le_succ _
    simp only [List.foldl_cons, List.length_cons]
    omega

end Go.Proofs.YtbjagmlbamjdbaaGreat.kvs
end

section
namespace Go.Proofs.YtbjagmlbamjdbaaGreat.kvs
open Go.RowKit Go.Maps Go.My Go.ChangeMaps disks bufs wals
set_option maxRecDepth 100000

variable {w w' : World} {N O Z B : Nat} {x : Sn} {nv ov : Value}

theorem ok_nil : (Sn.mk [] [] 0).Ok [] := ⟨rfl, by simp, by simp, by simp, [], rfl, by simp, rfl⟩
theorem snap_take {L : List PV} {k : Nat} {p : PV} (h : L[k]? = some p) (x : Sn) : (L.take (k + 1)).foldl Sn.step x = ((L.take k).foldl Sn.step x).step p := by
  rw [List.take_add_one, h, Option.toList_some, List.foldl_append]
  rfl

def S4 (N O Z B k : Nat) : Prop := k = N ∨ k = O ∨ k = Z ∨ B ≤ k

set_option maxHeartbeats 2000000 in
theorem snapshot_any (w : World) {b : Nat} {m : List KV} (h : MapAt w b m) (hm : Mays m) (hn : m.length ≤ 100000) :
    Calls Tryz.prog 71 #[.map (some b)] w fun e w' => ∃ v, e = .returned v ∧ w'.ownsRow w.heap.size 9 1 v (snapF m).length ((snapF m).map strV) ∧ Chg (fun _ => False) w w' := by
  have hmf : ∀ (fn : Fn) (first cap : Array Value) (w : World), (Instr.makeFunc fn first cap).run Tryz.prog w = .ok (.func fn first cap) w := fun _ _ _ _ => rfl
  obtain ⟨w0, hw0⟩ : ∃ w0, ((w.alloc (.cells #[.slice none 0 0] 109)).alloc (.cells #[.slice none 0 0] 66)).alloc (.cells #[.int .i64 0] 3) = w0 := ⟨_, rfl⟩
  have hc0 : Chg (fun _ => False) w w0 := by rw [← hw0]; exact (((Chg.refl _ _).alloc _).alloc _).alloc _
  have hz0 : w0.heap.size = w.heap.size + 3 := by rw [← hw0]; simp only [World.size_alloc]
  have hO : w0.heap[w.heap.size]? = some (.cells #[.slice none 0 0] 109 (0, 0)) := by
    rw [← hw0]; simp only [heap_alloc_get, World.size_alloc]; rw [if_neg (by omega), if_neg (by omega), if_pos trivial]
  have hN : w0.heap[w.heap.size + 1]? = some (.cells #[.slice none 0 0] 66 (0, 0)) := by
    rw [← hw0]; simp only [heap_alloc_get, World.size_alloc]; rw [if_neg (by omega), if_pos trivial]
  have hZ : w0.heap[w.heap.size + 1 + 1]? = some (.cells #[.int .i64 0] 3 (0, 0)) := by
    rw [← hw0]; simp only [heap_alloc_get, World.size_alloc]; rw [if_pos trivial]
  have hso := sorted_any w0 (h.kept hc0 id) (by omega)
  have hmayL : ∀ p ∈ (sortF m).map ofKV, p.may = true := fun p hp => by
    obtain ⟨q, hq, rfl⟩ := List.mem_map.1 hp
    exact hm q ((sortF_perm m).mem_iff.1 hq)
  have hsF : snapF m = (((sortF m).map ofKV).foldl Sn.step ⟨[], [], 0⟩).close.out := rfl
  have hLl : ((sortF m).map ofKV).length ≤ 100000 := by rw [List.length_map, sortF_len]; exact hn
  obtain ⟨L, hL⟩ : ∃ L, (sortF m).map ofKV = L := ⟨_, rfl⟩
  rw [hL] at hso hmayL hsF hLl
  have HW0 := Lib.hid hw0
  have HC0 := Lib.hid hc0
  have HZ0 := Lib.hid hz0
  have HBk := Lib.hid (And.intro hO (And.intro hN hZ))
  have HSo := Lib.hid hso
  have HMay := Lib.hid hmayL
  have HSF := Lib.hid hsF
  have HLl := Lib.hid hLl
  clear h hm hn hw0 hc0 hz0 hO hN hZ hso hmayL hsF hLl hL
  go_enter Tryz.func71, Tryz.ntmps71
  go_wp2_with (first
    | (go_at_call 69; rw [HW0.out]; refine HSo.out.mono ?_; rintro e w1 ⟨lv, rfl, hp1, hc1⟩
       obtain ⟨oa, cap, rfl, -⟩ := hp1.slice
       rw [List.length_map] at hp1
       have hsn : SnAt w1 (w.heap.size + 1) w.heap.size (w.heap.size + 1 + 1) w1.heap.size ⟨[], [], 0⟩ (.slice none 0 0) (.slice none 0 0) := ⟨hc1.at HBk.out.2.1 id, hc1.at HBk.out.1 id, hc1.at HBk.out.2.2 id, OwnRecs.nil _ _ _ _, World.ownsRow_nil _ _ _ _, by have := hc1.size; have := HZ0.out; omega, by have := hc1.size; have := HZ0.out; omega, by have := hc1.size; have := HZ0.out; omega, by omega, by omega, by omega⟩
       have HSn := Lib.hid hsn
       have HP1 := Lib.hid hp1
       have HC1 := Lib.hid (HC0.out.trans' hc1)
       have HZ1 := Lib.hid (show w.heap.size + 3 ≤ w1.heap.size by have := hc1.size; have := HZ0.out; omega)
       rw [List.length_map]
       clear hp1 hc1 hsn))
  go_loopw [14] (fun j wr => ∃ (k : Nat) (nv ov : Value), j = .int .i64 k ∧ k ≤ L.length ∧ SnAt wr (w.heap.size + 1) w.heap.size (w.heap.size + 1 + 1) w1.heap.size ((L.take k).foldl Sn.step ⟨[], [], 0⟩) nv ov ∧ Chg (S4 (w.heap.size + 1) w.heap.size (w.heap.size + 1 + 1) w1.heap.size) w1 wr) (fun j _ => L.length - (intOf j).toNat)
  · exact ⟨0, _, _, rfl, Nat.zero_le _, HSn.out, Chg.refl _ _⟩
  obtain ⟨k, nv, ov, rfl, hk, hsn, hc⟩ := hrel
  have HS := Lib.hid hsn
  have HC := Lib.hid hc
  have hok := snapL_ok (L.take k) _ _ ok_nil (fun p hp => HMay.out p (List.mem_of_mem_take hp))
  rw [List.nil_append] at hok
  have hol := snap_out_len (L.take k) ⟨[], [], 0⟩
  have htk : (L.take k).length ≤ 100000 := by rw [List.length_take]; have := HLl.out; omega
  have hol2 : ((L.take k).foldl Sn.step ⟨[], [], 0⟩).out.length ≤ 100000 := Nat.le_trans hol (by simp only [List.length_nil]; omega)
  clear hsn hc hol htk
  by_cases hlt : k < L.length
  · have hki : (k : Int) < (L.length : Int) := by omega
    have hne : ∀ g, Value.ownBlock (.slice oa L.length cap) = some g → ¬ S4 (w.heap.size + 1) w.heap.size (w.heap.size + 1 + 1) w1.heap.size g := fun g hg hs => by
      have h1 := HP1.out.lt (v := .slice oa L.length cap) hg
      have h2 := HZ0.out
      rcases hs with e | e | e | e <;> omega
    obtain ⟨g', cap', p, e1, hr, d0, d1, d2⟩ := put_cells (HP1.out.kept HC.out hne) hlt
    clear hne
    simp only [Value.slice.injEq] at e1
    obtain ⟨rfl, -, -⟩ := e1
    have hpm := HMay.out p (List.mem_of_getElem? hr)
    have hpb := bytes_length p hpm
    obtain ⟨m1, m2, m3, m4⟩ := may_key hpm
    have HCh := Lib.hid (fun w => change_any w p (by omega) (by omega))
    have HPb := Lib.hid hpb
    have Hr := Lib.hid hr
    obtain ⟨sb, hsb⟩ : ∃ s : ByteArray, strV p.bytes = .string s := ⟨_, rfl⟩
    rw [hsb] at HCh
    have HSb := Lib.hid (str_size _ _ hsb)
    unfold PV.row strV at HCh
    unfold strV at d0 d1
    obtain ⟨X, hX⟩ : ∃ X, (L.take k).foldl Sn.step ⟨[], [], 0⟩ = X := ⟨_, rfl⟩
    have hok' : X.Ok (L.take k) := by rw [← hX]; exact hok
    rw [hX] at HS hol2
    have HX := Lib.hid hX
    have HOk := Lib.hid hok'
    have HLx := Lib.hid hok'.few
    have HSx := Lib.hid (show X.size ≤ 4096 by have := hok'.short; omega)
    have HOx := Lib.hid hol2
    have HSz := Lib.hid (show w1.heap.size ≤ (wr.alloc (.cells #[.string ⟨p.key.toArray⟩, .string ⟨p.val.toArray⟩, .bool p.gone] 103)).heap.size from Nat.le_trans HC.out.size (by rw [World.size_alloc]; omega))
    clear hr hpm hpb m1 m2 m3 m4 hsb hX hok hok' hol2
    have hs := HS.out
    obtain ⟨oaN, capN, rfl, -⟩ := hs.now.slice
    rw [List.length_map] at HS
    clear hs
    have HSa := Lib.hid (HS.out.kept ((Chg.refl _ _).alloc (.cells #[.string ⟨p.key.toArray⟩, .string ⟨p.val.toArray⟩, .bool p.gone] 103)))
    have HPa := Lib.hid (block_alloc_new wr (.cells #[.string ⟨p.key.toArray⟩, .string ⟨p.val.toArray⟩, .bool p.gone] 103))
    have i1 : (X.size : Int) ≤ 4096 := by have := HSx.out; omega
    have i2 : (sb.size : Int) ≤ 1111 := by have := HSb.out; have := HPb.out.2; omega
    have hLi : (L.length : Int) ≤ 100000 := by have := HLl.out; omega
    by_cases hA : X.now.length = 64
    · have hAi : (X.now.length : Int) = 64 := by omega
      go_wp2_with (first
        | (go_at_call 123; refine (HCh.out _).mono ?_; rintro e w4 ⟨rfl, hc4⟩
           have h4 := HSa.out.kept hc4
           have d4 := cell_of_block (i := 0) h4.n rfl
           have d5 := cell_of_block (i := 0) h4.z rfl
           have H4 := Lib.hid h4
           have HC4 := Lib.hid hc4
           clear h4 hc4)
        | (go_at_call 132; refine (close_any _ H4.out (Nat.le_trans HSz.out HC4.out.size) (by have := HLx.out; omega) (by have := HOx.out; omega)).mono ?_; rintro e w5 ⟨rfl, ⟨nv5, ov5, h5⟩, hc5⟩
           have hP5 := Lib.hid (hc5.at (HC4.out.at HPa.out id) (show ¬ (wr.heap.size = w.heap.size + 1 ∨ wr.heap.size = w.heap.size ∨ wr.heap.size = w.heap.size + 1 + 1 ∨ some wr.heap.size = ov.ownBlock) by have := HZ1.out; have := HC.out.size; rintro (e | e | e | e); omega; omega; omega; have := (HS.out.out.lt _ e.symm).2; omega))
           have HY5 := Lib.hid h5
           have HCW5 := Lib.hid ((((Chg.refl (S4 (w.heap.size + 1) w.heap.size (w.heap.size + 1 + 1) w1.heap.size) wr).alloc _).trans (HC4.out.mono (fun _ _ h => h.elim)) (fun _ _ h => h)).trans (hc5.mono (S' := S4 (w.heap.size + 1) w.heap.size (w.heap.size + 1 + 1) w1.heap.size) (fun j _ hj => by rcases hj with e | e | e | e; exact Or.inl e; exact Or.inr (Or.inl e); exact Or.inr (Or.inr (Or.inl e)); exact Or.inr (Or.inr (Or.inr (HS.out.out.lt j e.symm).1)))) (fun _ _ h => h))
           have hcl := Sn.Ok.close HOk.out
           have HLc := Lib.hid (show X.close.now.length ≤ 64 by rw [hcl.2]; simp)
           have HSc := Lib.hid (show X.close.size ≤ 4096 by have := hcl.1.short; omega)
           clear h5 hc5 hcl
           have hY := HY5.out
           obtain ⟨oaY, capY, rfl, -⟩ := hY.now.slice
           rw [List.length_map] at hY
           have hBW : w1.heap.size ≤ (w5).heap.size := Nat.le_trans HC.out.size HCW5.out.size
           have hcb : Chg (fun _ => False) w5 ((w5).alloc (.cells #[.string ⟨p.key.toArray⟩, .string ⟨p.val.toArray⟩, .bool p.gone] 103)) := (Chg.refl _ _).alloc _
           obtain ⟨v8, w8, hr8, hp8, hg8⟩ := append_putO (p := p) (nb := (w5).heap.size) (hY.now.kept hcb (fun _ _ h => h)) (fun j u hu => cell_of_block (block_alloc_new _ _) (by simpa [PV.row, strV] using hu)) (Nat.le_trans hBW hcb.size) (by have := HLc.out; omega) 66
           obtain ⟨oa8, cap8, rfl, -⟩ := hp8.slice
           obtain ⟨M8, hM8⟩ : ∃ M, (((X.close).now ++ [p]).map PV.row).length = M := ⟨_, rfl⟩
           rw [hM8] at hp8 hr8
           have hm := (hY.kept hcb).more hg8 hp8
           obtain ⟨l1, l2, l3⟩ := (hY.kept hcb).lowsN hg8
           have hm2 := hm.sized ((X.close).size + p.bytes.length)
           have hcast : (((X.close).size + p.bytes.length : Nat) : Int) = ((X.close).size : Int) + (sb.size : Int) := by have := HSb.out; omega
           rw [hcast] at hm2
           have a0 : (w5).cell? ⟨w.heap.size + 1, 0, none⟩ = some (.slice oaY (X.close).now.length capY) := cell_of_block hY.n rfl
           have a1 : (w5).cell? ⟨wr.heap.size, 0, none⟩ = some (.string ⟨p.key.toArray⟩) := cell_of_block hP5.out rfl
           have a2 : (w5).cell? ⟨wr.heap.size, 1, none⟩ = some (.string ⟨p.val.toArray⟩) := cell_of_block hP5.out rfl
           have a3 : (w5).cell? ⟨wr.heap.size, 2, none⟩ = some (.bool p.gone) := cell_of_block hP5.out rfl
           have b0 : w8.cell? ⟨w.heap.size + 1, 0, none⟩ = some (.slice oaY (X.close).now.length capY) := cell_of_block l1 rfl
           have b1 : w8.frozen? ⟨w.heap.size + 1, 0, none⟩ = false := free_of_block l1
           have b2 : (w8.setCell ⟨w.heap.size + 1, 0, none⟩ (.slice oa8 M8 cap8)).cell? ⟨w.heap.size + 1 + 1, 0, none⟩ = some (.int .i64 ((X.close).size : Int)) := cell_of_block hm.z rfl
           have b3 : (w8.setCell ⟨w.heap.size + 1, 0, none⟩ (.slice oa8 M8 cap8)).frozen? ⟨w.heap.size + 1 + 1, 0, none⟩ = false := free_of_block hm.z
           have hcA : Chg (S4 (w.heap.size + 1) w.heap.size (w.heap.size + 1 + 1) w1.heap.size) wr w8 := (HCW5.out.trans (hcb.mono (fun _ _ h => h.elim)) (fun _ _ h => h)).trans (hg8.mono (S' := S4 (w.heap.size + 1) w.heap.size (w.heap.size + 1 + 1) w1.heap.size) (fun j _ e => Or.inr (Or.inr (Or.inr (hY.now.lt e.symm).1)))) (fun _ _ h => h)
           have hcB := (hcA.setCell (p := ⟨w.heap.size + 1, 0, none⟩) (fun _ => Or.inl rfl) (.slice oa8 M8 cap8)).setCell (p := ⟨w.heap.size + 1 + 1, 0, none⟩) (fun _ => Or.inr (Or.inr (Or.inl rfl))) (.int .i64 (((X.close).size : Int) + (sb.size : Int)))
           have HM2 := Lib.hid hm2
           have HR8 := Lib.hid hr8
           have HCB := Lib.hid hcB
           have j1 : ((X.close).size : Int) ≤ 4096 := by have := HSc.out; omega
           have j2 : (sb.size : Int) ≤ 1111 := by have := HSb.out; have := HPb.out.2; omega
           clear hY hBW hcb hr8 hp8 hg8 hM8 hm l1 l2 l3 hm2 hcast hcA hcB
           skip)
        | (at_builtin; refine Lib.wpList_append_run _ rfl _ _ _ _ rfl _ _ rfl rfl _ _ HR8.out ?_))
      have hst : X.step p = ⟨(X.close).out, (X.close).now ++ [p], (X.close).size + p.bytes.length⟩ := by
        unfold Sn.step
        rw [show X.room p.bytes.length = X.close from (by unfold Sn.room; rw [if_pos (Or.inl hA)])]
      have hfold : (L.take (k + 1)).foldl Sn.step ⟨[], [], 0⟩ = ⟨(X.close).out, (X.close).now ++ [p], (X.close).size + p.bytes.length⟩ := by rw [snap_take Hr.out, HX.out, hst]
      refine ⟨⟨k + 1, _, _, by go_num, hlt, (congrArg (fun z => SnAt _ _ _ _ _ z _ _) hfold).mpr HM2.out, HC.out.trans HCB.out (fun _ _ h => h)⟩, puts_meas hlt⟩
    · have hAi : ¬ (X.now.length : Int) = 64 := by omega
      have hAb : ((X.now.length : Int) == 64) = false := beq_eq_false_iff_ne.2 hAi
      by_cases hBg : 4096 < 1 + X.size + p.bytes.length
      · have hBi : (4096 : Int) < 1 + (X.size : Int) + (sb.size : Int) := by have := HSb.out; omega
        go_wp2_with (first
          | (go_at_call 123; refine (HCh.out _).mono ?_; rintro e w4 ⟨rfl, hc4⟩
             have h4 := HSa.out.kept hc4
             have d4 := cell_of_block (i := 0) h4.n rfl
             have d5 := cell_of_block (i := 0) h4.z rfl
             have H4 := Lib.hid h4
             have HC4 := Lib.hid hc4
             clear h4 hc4)
          | (go_at_call 132; refine (close_any _ H4.out (Nat.le_trans HSz.out HC4.out.size) (by have := HLx.out; omega) (by have := HOx.out; omega)).mono ?_; rintro e w5 ⟨rfl, ⟨nv5, ov5, h5⟩, hc5⟩
             have hP5 := Lib.hid (hc5.at (HC4.out.at HPa.out id) (show ¬ (wr.heap.size = w.heap.size + 1 ∨ wr.heap.size = w.heap.size ∨ wr.heap.size = w.heap.size + 1 + 1 ∨ some wr.heap.size = ov.ownBlock) by have := HZ1.out; have := HC.out.size; rintro (e | e | e | e); omega; omega; omega; have := (HS.out.out.lt _ e.symm).2; omega))
             have HY5 := Lib.hid h5
             have HCW5 := Lib.hid ((((Chg.refl (S4 (w.heap.size + 1) w.heap.size (w.heap.size + 1 + 1) w1.heap.size) wr).alloc _).trans (HC4.out.mono (fun _ _ h => h.elim)) (fun _ _ h => h)).trans (hc5.mono (S' := S4 (w.heap.size + 1) w.heap.size (w.heap.size + 1 + 1) w1.heap.size) (fun j _ hj => by rcases hj with e | e | e | e; exact Or.inl e; exact Or.inr (Or.inl e); exact Or.inr (Or.inr (Or.inl e)); exact Or.inr (Or.inr (Or.inr (HS.out.out.lt j e.symm).1)))) (fun _ _ h => h))
             have hcl := Sn.Ok.close HOk.out
             have HLc := Lib.hid (show X.close.now.length ≤ 64 by rw [hcl.2]; simp)
             have HSc := Lib.hid (show X.close.size ≤ 4096 by have := hcl.1.short; omega)
             clear h5 hc5 hcl
             have hY := HY5.out
             obtain ⟨oaY, capY, rfl, -⟩ := hY.now.slice
             rw [List.length_map] at hY
             have hBW : w1.heap.size ≤ (w5).heap.size := Nat.le_trans HC.out.size HCW5.out.size
             have hcb : Chg (fun _ => False) w5 ((w5).alloc (.cells #[.string ⟨p.key.toArray⟩, .string ⟨p.val.toArray⟩, .bool p.gone] 103)) := (Chg.refl _ _).alloc _
             obtain ⟨v8, w8, hr8, hp8, hg8⟩ := append_putO (p := p) (nb := (w5).heap.size) (hY.now.kept hcb (fun _ _ h => h)) (fun j u hu => cell_of_block (block_alloc_new _ _) (by simpa [PV.row, strV] using hu)) (Nat.le_trans hBW hcb.size) (by have := HLc.out; omega) 66
             obtain ⟨oa8, cap8, rfl, -⟩ := hp8.slice
             obtain ⟨M8, hM8⟩ : ∃ M, (((X.close).now ++ [p]).map PV.row).length = M := ⟨_, rfl⟩
             rw [hM8] at hp8 hr8
             have hm := (hY.kept hcb).more hg8 hp8
             obtain ⟨l1, l2, l3⟩ := (hY.kept hcb).lowsN hg8
             have hm2 := hm.sized ((X.close).size + p.bytes.length)
             have hcast : (((X.close).size + p.bytes.length : Nat) : Int) = ((X.close).size : Int) + (sb.size : Int) := by have := HSb.out; omega
             rw [hcast] at hm2
             have a0 : (w5).cell? ⟨w.heap.size + 1, 0, none⟩ = some (.slice oaY (X.close).now.length capY) := cell_of_block hY.n rfl
             have a1 : (w5).cell? ⟨wr.heap.size, 0, none⟩ = some (.string ⟨p.key.toArray⟩) := cell_of_block hP5.out rfl
             have a2 : (w5).cell? ⟨wr.heap.size, 1, none⟩ = some (.string ⟨p.val.toArray⟩) := cell_of_block hP5.out rfl
             have a3 : (w5).cell? ⟨wr.heap.size, 2, none⟩ = some (.bool p.gone) := cell_of_block hP5.out rfl
             have b0 : w8.cell? ⟨w.heap.size + 1, 0, none⟩ = some (.slice oaY (X.close).now.length capY) := cell_of_block l1 rfl
             have b1 : w8.frozen? ⟨w.heap.size + 1, 0, none⟩ = false := free_of_block l1
             have b2 : (w8.setCell ⟨w.heap.size + 1, 0, none⟩ (.slice oa8 M8 cap8)).cell? ⟨w.heap.size + 1 + 1, 0, none⟩ = some (.int .i64 ((X.close).size : Int)) := cell_of_block hm.z rfl
             have b3 : (w8.setCell ⟨w.heap.size + 1, 0, none⟩ (.slice oa8 M8 cap8)).frozen? ⟨w.heap.size + 1 + 1, 0, none⟩ = false := free_of_block hm.z
             have hcA : Chg (S4 (w.heap.size + 1) w.heap.size (w.heap.size + 1 + 1) w1.heap.size) wr w8 := (HCW5.out.trans (hcb.mono (fun _ _ h => h.elim)) (fun _ _ h => h)).trans (hg8.mono (S' := S4 (w.heap.size + 1) w.heap.size (w.heap.size + 1 + 1) w1.heap.size) (fun j _ e => Or.inr (Or.inr (Or.inr (hY.now.lt e.symm).1)))) (fun _ _ h => h)
             have hcB := (hcA.setCell (p := ⟨w.heap.size + 1, 0, none⟩) (fun _ => Or.inl rfl) (.slice oa8 M8 cap8)).setCell (p := ⟨w.heap.size + 1 + 1, 0, none⟩) (fun _ => Or.inr (Or.inr (Or.inl rfl))) (.int .i64 (((X.close).size : Int) + (sb.size : Int)))
             have HM2 := Lib.hid hm2
             have HR8 := Lib.hid hr8
             have HCB := Lib.hid hcB
             have j1 : ((X.close).size : Int) ≤ 4096 := by have := HSc.out; omega
             have j2 : (sb.size : Int) ≤ 1111 := by have := HSb.out; have := HPb.out.2; omega
             clear hY hBW hcb hr8 hp8 hg8 hM8 hm l1 l2 l3 hm2 hcast hcA hcB
             skip)
          | (at_builtin; refine Lib.wpList_append_run _ rfl _ _ _ _ rfl _ _ rfl rfl _ _ HR8.out ?_))
        have hst : X.step p = ⟨(X.close).out, (X.close).now ++ [p], (X.close).size + p.bytes.length⟩ := by
          unfold Sn.step
          rw [show X.room p.bytes.length = X.close from (by unfold Sn.room; rw [if_pos (Or.inr hBg)])]
        have hfold : (L.take (k + 1)).foldl Sn.step ⟨[], [], 0⟩ = ⟨(X.close).out, (X.close).now ++ [p], (X.close).size + p.bytes.length⟩ := by rw [snap_take Hr.out, HX.out, hst]
        refine ⟨⟨k + 1, _, _, by go_num, hlt, (congrArg (fun z => SnAt _ _ _ _ _ z _ _) hfold).mpr HM2.out, HC.out.trans HCB.out (fun _ _ h => h)⟩, puts_meas hlt⟩
      · have hBi : ¬ (4096 : Int) < 1 + (X.size : Int) + (sb.size : Int) := by have := HSb.out; omega
        go_wp2_with (first
          | (go_at_call 123; refine (HCh.out _).mono ?_; rintro e w4 ⟨rfl, hc4⟩
             have d5 := cell_of_block (i := 0) (HSa.out.kept hc4).z rfl
             have HY4 := Lib.hid (HSa.out.kept hc4)
             have HP4 := Lib.hid (hc4.at HPa.out id)
             have HCW4 := Lib.hid (((Chg.refl (S4 (w.heap.size + 1) w.heap.size (w.heap.size + 1 + 1) w1.heap.size) wr).alloc (.cells #[.string ⟨p.key.toArray⟩, .string ⟨p.val.toArray⟩, .bool p.gone] 103)).trans (hc4.mono (fun _ _ h => h.elim)) (fun _ _ h => h))
             have hY := HY4.out
             skip
             skip
             have hBW : w1.heap.size ≤ (w4).heap.size := Nat.le_trans HC.out.size HCW4.out.size
             have hcb : Chg (fun _ => False) w4 ((w4).alloc (.cells #[.string ⟨p.key.toArray⟩, .string ⟨p.val.toArray⟩, .bool p.gone] 103)) := (Chg.refl _ _).alloc _
             obtain ⟨v8, w8, hr8, hp8, hg8⟩ := append_putO (p := p) (nb := (w4).heap.size) (hY.now.kept hcb (fun _ _ h => h)) (fun j u hu => cell_of_block (block_alloc_new _ _) (by simpa [PV.row, strV] using hu)) (Nat.le_trans hBW hcb.size) (by have := HLx.out; omega) 66
             obtain ⟨oa8, cap8, rfl, -⟩ := hp8.slice
             obtain ⟨M8, hM8⟩ : ∃ M, (((X).now ++ [p]).map PV.row).length = M := ⟨_, rfl⟩
             rw [hM8] at hp8 hr8
             have hm := (hY.kept hcb).more hg8 hp8
             obtain ⟨l1, l2, l3⟩ := (hY.kept hcb).lowsN hg8
             have hm2 := hm.sized ((X).size + p.bytes.length)
             have hcast : (((X).size + p.bytes.length : Nat) : Int) = ((X).size : Int) + (sb.size : Int) := by have := HSb.out; omega
             rw [hcast] at hm2
             have a0 : (w4).cell? ⟨w.heap.size + 1, 0, none⟩ = some (.slice oaN (X).now.length capN) := cell_of_block hY.n rfl
             have a1 : (w4).cell? ⟨wr.heap.size, 0, none⟩ = some (.string ⟨p.key.toArray⟩) := cell_of_block HP4.out rfl
             have a2 : (w4).cell? ⟨wr.heap.size, 1, none⟩ = some (.string ⟨p.val.toArray⟩) := cell_of_block HP4.out rfl
             have a3 : (w4).cell? ⟨wr.heap.size, 2, none⟩ = some (.bool p.gone) := cell_of_block HP4.out rfl
             have b0 : w8.cell? ⟨w.heap.size + 1, 0, none⟩ = some (.slice oaN (X).now.length capN) := cell_of_block l1 rfl
             have b1 : w8.frozen? ⟨w.heap.size + 1, 0, none⟩ = false := free_of_block l1
             have b2 : (w8.setCell ⟨w.heap.size + 1, 0, none⟩ (.slice oa8 M8 cap8)).cell? ⟨w.heap.size + 1 + 1, 0, none⟩ = some (.int .i64 ((X).size : Int)) := cell_of_block hm.z rfl
             have b3 : (w8.setCell ⟨w.heap.size + 1, 0, none⟩ (.slice oa8 M8 cap8)).frozen? ⟨w.heap.size + 1 + 1, 0, none⟩ = false := free_of_block hm.z
             have hcA : Chg (S4 (w.heap.size + 1) w.heap.size (w.heap.size + 1 + 1) w1.heap.size) wr w8 := (HCW4.out.trans (hcb.mono (fun _ _ h => h.elim)) (fun _ _ h => h)).trans (hg8.mono (S' := S4 (w.heap.size + 1) w.heap.size (w.heap.size + 1 + 1) w1.heap.size) (fun j _ e => Or.inr (Or.inr (Or.inr (hY.now.lt e.symm).1)))) (fun _ _ h => h)
             have hcB := (hcA.setCell (p := ⟨w.heap.size + 1, 0, none⟩) (fun _ => Or.inl rfl) (.slice oa8 M8 cap8)).setCell (p := ⟨w.heap.size + 1 + 1, 0, none⟩) (fun _ => Or.inr (Or.inr (Or.inl rfl))) (.int .i64 (((X).size : Int) + (sb.size : Int)))
             have HM2 := Lib.hid hm2
             have HR8 := Lib.hid hr8
             have HCB := Lib.hid hcB
             have j1 : ((X).size : Int) ≤ 4096 := by have := HSx.out; omega
             have j2 : (sb.size : Int) ≤ 1111 := by have := HSb.out; have := HPb.out.2; omega
             clear hY hBW hcb hr8 hp8 hg8 hM8 hm l1 l2 l3 hm2 hcast hcA hcB
             clear hc4)
          | (at_builtin; refine Lib.wpList_append_run _ rfl _ _ _ _ rfl _ _ rfl rfl _ _ HR8.out ?_))
        have hst : X.step p = ⟨(X).out, (X).now ++ [p], (X).size + p.bytes.length⟩ := by
          unfold Sn.step
          rw [show X.room p.bytes.length = X from (by unfold Sn.room; rw [if_neg (fun h => by rcases h with h | h; exact hA h; exact hBg h)])]
        have hfold : (L.take (k + 1)).foldl Sn.step ⟨[], [], 0⟩ = ⟨(X).out, (X).now ++ [p], (X).size + p.bytes.length⟩ := by rw [snap_take Hr.out, HX.out, hst]
        refine ⟨⟨k + 1, _, _, by go_num, hlt, (congrArg (fun z => SnAt _ _ _ _ _ z _ _) hfold).mpr HM2.out, HC.out.trans HCB.out (fun _ _ h => h)⟩, puts_meas hlt⟩
  · have hki : ¬ (k : Int) < (L.length : Int) := by omega
    obtain rfl : k = L.length := by omega
    rw [List.take_length] at HS hok hol2
    have HCl := Lib.hid (close_any wr HS.out HC.out.size (by have := hok.few; omega) (by omega))
    clear hok hol2
    go_wp2_with (first
      | (go_at_call 132; refine HCl.out.mono ?_; rintro e w5 ⟨rfl, ⟨nv5, ov5, h5⟩, hc5⟩
         have c5 : w5.cell? ⟨w.heap.size, 0, none⟩ = some ov5 := cell_of_block h5.o rfl
         have H5 := Lib.hid h5
         have HC5 := Lib.hid hc5
         clear h5 hc5))
    go_ret
    have hcS : Chg (S4 (w.heap.size + 1) w.heap.size (w.heap.size + 1 + 1) w1.heap.size) wr w5 := HC5.out.mono (fun j _ hj => by rcases hj with e | e | e | e; exact Or.inl e; exact Or.inr (Or.inl e); exact Or.inr (Or.inr (Or.inl e)); exact Or.inr (Or.inr (Or.inr (HS.out.out.lt j e.symm).1)))
    refine ⟨_, rfl, ?_, HC1.out.new (HC.out.trans hcS (fun _ _ h => h)) (fun i hi => by have := HZ1.out; rcases hi with e | e | e | e <;> omega)⟩
    rw [HSF.out]
    exact own_lower H5.out.out (by have := HZ1.out; omega)

end Go.Proofs.YtbjagmlbamjdbaaGreat.kvs
end

section
namespace Go.Proofs.YtbjagmlbamjdbaaGreat.disks
set_option maxRecDepth 100000
open Go.RowKit Go.My

set_option linter.unusedVariables false
end Go.Proofs.YtbjagmlbamjdbaaGreat.disks
end

section
namespace Go.Proofs.YtbjagmlbamjdbaaGreat.wals
set_option maxRecDepth 100000
open Go.RowKit Go.My disks

def NoLog (w : World) (p : Option Addr) : Prop := p = none ∨ ∃ T, p = some ⟨T, 0, none⟩ ∧ w.cell? ⟨T, 0, none⟩ = some (.pointer none)
theorem NoLog.kept {w w' : World} {p : Option Addr} (h : NoLog w p) (hc : Chg (fun _ => False) w w') : NoLog w' p := by
  rcases h with h | ⟨T, h1, h2⟩
  · exact Or.inl h
  · exact Or.inr ⟨T, h1, hc.cell h2 id⟩

set_option linter.unusedVariables false
end Go.Proofs.YtbjagmlbamjdbaaGreat.wals
end

/-
  rootdb: manifest.name; digests as keys of a map; layers in the memory.
-/
import Derived.Test.YtbjagmlbamjdbaaGreatPx1RootStands
import Derived.Test.YtbjagmlbamjdbaaGreatPx14RootStands
import Derived.WideKeyArr2

section
set_option linter.unusedSimpArgs false
set_option linter.unusedVariables false
namespace Go.Proofs.YtbjagmlbamjdbaaGreat.roots
open Go.RowKit Go.Maps Go.My Go.ChangeMaps disks bufs wals kvs
set_option maxRecDepth 100000

variable {w w' : World}

/-! ### name -/
theorem all_take_succ {x : Txt} {k : Nat} {c : UInt8} (h : x[k]? = some c) : (x.take (k + 1)).all sign = ((x.take k).all sign && sign c) := by
  rw [List.take_add_one, h, Option.toList_some, List.all_append]; simp
theorem nameB_bad {x : Txt} {k : Nat} {c : UInt8} (h : x[k]? = some c) (hs : sign c = false) : nameB x = false := by
  have : x.all sign = false := by
    rw [List.all_eq_false]
    exact ⟨c, List.mem_of_getElem? h, by rw [hs]; exact Bool.false_ne_true⟩
  unfold nameB
  rw [this]; rfl

set_option maxHeartbeats 1000000 in
theorem name_is (w : World) (x : Txt) (hx : x.length ≤ maxLen) : Calls Tryz.prog 86 #[strV x] w fun e w' => e = .returned (.bool (nameB x)) ∧ w = w' := by
  obtain ⟨s, hs⟩ : ∃ s : ByteArray, strV x = .string s := ⟨_, rfl⟩
  have hsz := str_size x s hs
  have hss := strV_string x s hs
  have hidx : ∀ (k : Nat) (hk : k < x.length), (Instr.index 9 (.string s) (.int .i64 k)).run Tryz.prog w = .ok (.int .u8 ((x[k].toNat : Nat) : Int)) w := by
    intro k hk
    subst hss
    rw [run_index_string _ _ _ _ _ Tryz.underlying9, dif_pos ⟨by omega, by omega⟩]
    rfl
  rw [hs]
  have HI := Lib.hid hidx
  have hmx := hx
  unfold maxLen at hmx
  clear hidx hs hss
  go_enter Tryz.func86, Tryz.ntmps86
  go_wp2_with fail
  go_loopw [7] (fun j wr => ∃ k : Nat, j = .int .i64 k ∧ k ≤ x.length ∧ (x.take k).all sign = true ∧ w = wr) (fun j _ => x.length - (intOf j).toNat)
  · exact ⟨0, rfl, Nat.zero_le _, by simp, rfl⟩
  obtain ⟨k, rfl, hk, hall, rfl⟩ := hrel
  have HA := Lib.hid hall
  clear hall
  by_cases hlt : k < x.length
  · have hki : (k : Int) < (s.size : Int) := by omega
    have hc := HI.out k hlt
    obtain ⟨b, hb⟩ : ∃ b, x[k] = b := ⟨_, rfl⟩
    have HB := Lib.hid (show x[k]? = some b by rw [List.getElem?_eq_getElem hlt, hb])
    rw [hb] at hc
    obtain ⟨c, hcn⟩ : ∃ c, b.toNat = c := ⟨_, rfl⟩
    rw [hcn] at hc
    have hc0 : (0 : Int) ≤ (c : Int) := by omega
    have hc1 : (c : Int) < 256 := by have := b.toNat_lt; omega
    have hsg : sign b = ((decide (97 ≤ c) && decide (c ≤ 122)) || (decide (48 ≤ c) && decide (c ≤ 57)) || decide (c = 45) || decide (c = 46)) := by unfold sign; rw [hcn]
    have HSg := Lib.hid hsg
    clear hb hsg hcn
    rcases (by omega : (97 ≤ c ∧ c ≤ 122) ∨ 122 < c ∨ (c < 97 ∧ 48 ≤ c ∧ c ≤ 57) ∨ (c < 97 ∧ 57 < c) ∨ c = 45 ∨ c = 46 ∨ (c < 48 ∧ c ≠ 45 ∧ c ≠ 46)) with hcc | hcc | hcc | hcc | hcc | hcc | hcc
    · have f1 : (97 : Int) ≤ (c : Int) := by omega
      have f2 : (c : Int) ≤ 122 := by omega
      go_wp2_with fail
      exact ⟨⟨k + 1, by go_num, hlt, by rw [all_take_succ HB.out, HA.out, HSg.out, Bool.true_and]; simp [show 97 ≤ c by omega, show c ≤ 122 by omega], trivial⟩, meas_step hlt⟩
    · have f1 : (97 : Int) ≤ (c : Int) := by omega
      have f2 : ¬ (c : Int) ≤ 122 := by omega
      have f3 : (48 : Int) ≤ (c : Int) := by omega
      have f4 : ¬ (c : Int) ≤ 57 := by omega
      have f5 : ((c : Int) == 45) = false := by simp; omega
      have f6 : ((c : Int) == 46) = false := by simp; omega
      go_wp2_with fail
      go_ret
      rw [nameB_bad HB.out (by rw [HSg.out]; simp; omega)]
      exact ⟨rfl, rfl⟩
    · have f1 : ¬ (97 : Int) ≤ (c : Int) := by omega
      have f3 : (48 : Int) ≤ (c : Int) := by omega
      have f4 : (c : Int) ≤ 57 := by omega
      go_wp2_with fail
      exact ⟨⟨k + 1, by go_num, hlt, by rw [all_take_succ HB.out, HA.out, HSg.out, Bool.true_and]; simp; omega, trivial⟩, meas_step hlt⟩
    · have f1 : ¬ (97 : Int) ≤ (c : Int) := by omega
      have f3 : (48 : Int) ≤ (c : Int) := by omega
      have f4 : ¬ (c : Int) ≤ 57 := by omega
      have f5 : ((c : Int) == 45) = false := by simp; omega
      have f6 : ((c : Int) == 46) = false := by simp; omega
      go_wp2_with fail
      go_ret
      rw [nameB_bad HB.out (by rw [HSg.out]; simp; omega)]
      exact ⟨rfl, rfl⟩
    · subst hcc
      go_wp2_with fail
      exact ⟨⟨k + 1, by go_num, hlt, by rw [all_take_succ HB.out, HA.out, HSg.out]; rfl, trivial⟩, meas_step hlt⟩
    · subst hcc
      go_wp2_with fail
      exact ⟨⟨k + 1, by go_num, hlt, by rw [all_take_succ HB.out, HA.out, HSg.out]; rfl, trivial⟩, meas_step hlt⟩
    · have f1 : ¬ (97 : Int) ≤ (c : Int) := by omega
      have f3 : ¬ (48 : Int) ≤ (c : Int) := by omega
      have f5 : ((c : Int) == 45) = false := by simp; omega
      have f6 : ((c : Int) == 46) = false := by simp; omega
      go_wp2_with fail
      go_ret
      rw [nameB_bad HB.out (by rw [HSg.out]; simp; omega)]
      exact ⟨rfl, rfl⟩
  · have hki : ¬ (k : Int) < (s.size : Int) := by omega
    obtain rfl : k = x.length := by omega
    have hA := HA.out
    rw [List.take_length] at hA
    have hnm : nameB x = (decide (0 < x.length) && decide (x.length ≤ 16)) := by unfold nameB; rw [hA, Bool.true_and]
    have HN := Lib.hid hnm
    clear hnm hA
    by_cases p1 : 0 < x.length
    · have q1 : (0 : Int) < (s.size : Int) := by omega
      by_cases p2 : x.length ≤ 16
      · have q2 : (s.size : Int) ≤ 16 := by omega
        go_wp2_with fail
        go_ret
        rw [HN.out, show (decide (0 < x.length) && decide (x.length ≤ 16)) = true by simp; omega]
        exact ⟨congrArg (fun b => Ending.returned (.bool b)) (show decide ((x.length : Int) ≤ 16) = true by simp; omega), rfl⟩
      · have q2 : ¬ (s.size : Int) ≤ 16 := by omega
        go_wp2_with fail
        go_ret
        rw [HN.out, show (decide (0 < x.length) && decide (x.length ≤ 16)) = false by simp; omega]
        exact ⟨congrArg (fun b => Ending.returned (.bool b)) (show decide ((x.length : Int) ≤ 16) = false by simp; omega), rfl⟩
    · have q1 : ¬ (0 : Int) < (s.size : Int) := by omega
      go_wp2_with fail
      go_ret
      rw [HN.out, show (decide (0 < x.length) && decide (x.length ≤ 16)) = false by simp; omega]
      exact ⟨rfl, rfl⟩

/-! ### digests as keys -/
theorem arrD : WideMaps.ArrKey Tryz.prog 96 5 32 := ⟨Tryz.underlying96, by kernel_rfl, by kernel_rfl, by kernel_rfl⟩
theorem types_some : ∃ m, Tryz.prog.types.size = m + 1 := ⟨Tryz.prog.types.size - 1, by decide +kernel⟩
theorem mapM_all {α β : Type} {f : α → Option β} {g : α → β} : ∀ (l : List α), (∀ x ∈ l, f x = some (g x)) → l.mapM f = some (l.map g)
  | [], _ => rfl
  | a :: l, h => by
    rw [List.mapM_cons, h a (by simp), mapM_all l (fun x hx => h x (by simp [hx]))]; rfl
theorem dig_reads (d : Dg) (h : d.length = 32) : ∃ l, keyOf Tryz.prog 96 (.agg (cellsB d).toArray) = some l := by
  have hcl : (cellsB d).length = 32 := by rw [cellsB_length, h]
  have hl : ∀ D, (List.range 32).mapM (fun i => Tryz.prog.keyLits (D + 1) 5 (((cellsB d).drop (i * 1)).take 1)) = some ((List.range 32).map (fun i => [Lit.int .u8 ((d.getD i 0).toNat : Int)])) := by
    intro D
    refine mapM_all _ (fun i hi => ?_)
    have hi : i < 32 := List.mem_range.1 hi
    have hg : ((cellsB d).drop (i * 1)).take 1 = [.int .u8 ((d.getD i 0).toNat : Int)] := by
      rw [Nat.mul_one]
      apply List.ext_getElem?
      intro j
      rw [List.getElem?_take]
      by_cases hj : j < 1
      · obtain rfl : j = 0 := by omega
        rw [if_pos (by omega), List.getElem?_drop, Nat.add_zero]
        simp only [cellsB, List.getElem?_map, List.getElem?_eq_getElem (show i < d.length by omega), List.getD, Option.map_some, Option.getD_some, List.getElem?_cons_zero]
      · rw [if_neg hj, List.getElem?_eq_none (by simp; omega)]
    rw [hg]
    unfold Program.keyLits
    rw [Tryz.underlying5]
    have hb := (d.getD i 0).toNat_lt
    have hwf : (Lit.int .u8 ((d.getD i 0).toNat : Int)).wf = true := by
      obtain ⟨n, hn⟩ : ∃ n, (d.getD i 0).toNat = n := ⟨_, rfl⟩
      rw [hn] at hb ⊢
      simp [Lit.wf, IntKind.min, IntKind.max, IntKind.signed, IntKind.bits]
      omega
    simp only [hwf, and_self, if_true]
  obtain ⟨m, hm⟩ := types_some
  unfold keyOf
  simp only [arrD.hu]
  rw [if_pos (by simp [arrD.keyType types_some, Value.formed, arrD.hu, arrD.size, hcl]), hm]
  unfold Program.keyLits
  simp only [arrD.hu, Value.cells]
  rw [if_pos (by rw [arrD.size]; simpa using hcl), show Tryz.prog.cellsOf 5 = 1 from arrD.one]
  rw [hl]
  exact ⟨_, rfl⟩

def dgK : KeyEnc Tryz.prog 96 Dg where
  enc d := .agg (cellsB d).toArray
  ok d := d.length = 32
  keyed := Keyed.of_law arrD.law
  reads := dig_reads
  inj := fun k k' h => by
    have h1 : (cellsB k).toArray = (cellsB k').toArray := by injection h
    have h2 : cellsB k = cellsB k' := by simpa using congrArg Array.toList h1
    unfold cellsB at h2
    exact (List.map_inj_right (fun a b h => by injection h with _ h; exact UInt8.toNat_inj.1 (by omega))).1 h2

end Go.Proofs.YtbjagmlbamjdbaaGreat.roots
end

/-
  rootdb: layers and packages in the memory; manifest.Check, exact.
-/
section
set_option linter.unusedSimpArgs false
set_option linter.unusedVariables false
namespace Go.Proofs.YtbjagmlbamjdbaaGreat.roots
open Go.RowKit Go.Maps Go.My Go.ChangeMaps disks bufs wals kvs
set_option maxRecDepth 100000

variable {w w' : World}

/-- Rows whose block lies in F. -/
def InF (F : Nat → Prop) (oa : Option Addr) (n : Nat) : Prop := n ≠ 0 → ∀ b off, oa = some ⟨b, off, none⟩ → F b
theorem rows_keptF {w w' : World} {n m : Nat} {oa : Option Addr} {l : List (List Value)} (h : RowsAt w n oa l) {S F : Nat → Prop} (hc : Chg S w w') (hF : InF F oa m) (hm : l.length = m) (hs : ∀ k, F k → ¬ S k) : RowsAt w' n oa l :=
  ⟨h.spot, h.row, fun b off ho i r j v hi hj => by
    have h1 := h.cell b off ho i r j v hi hj
    refine hc.cell h1 (hs _ (hF ?_ b off ho))
    intro e
    have := (List.getElem?_eq_some_iff.1 hi).1
    omega⟩

def rfC (x : Rf) : List Value := cellsB x.sum ++ [.int .i64 x.size]
/-- A manifest's layers, as a slice. -/
structure LysAt (w : World) (F : Nat → Prop) (v : Value) (l : List Rf) : Prop where
  is : ∃ oa cap, v = .slice oa l.length cap ∧ RowsAt w 33 oa (l.map rfC) ∧ InF F oa l.length ∧ l.length ≤ cap ∧ cap ≤ maxLen
  dig : ∀ x ∈ l, x.sum.length = 32
def pkC (p : Pk) (v : Value) : List Value := [.int .i64 p.owner, strV p.man.name, strV p.man.ver, v]
structure PksAt (w : World) (F : Nat → Prop) (v : Value) (l : List Pk) : Prop where
  is : ∃ oa cap, ∃ lv : List Value, v = .slice oa l.length cap ∧ lv.length = l.length ∧ RowsAt w 4 oa (List.zipWith pkC l lv) ∧ InF F oa l.length ∧ (∀ (i : Nat) (p : Pk) (u : Value), l[i]? = some p → lv[i]? = some u → LysAt w F u p.man.layers) ∧ l.length ≤ cap ∧ cap ≤ maxLen
  txt : ∀ p ∈ l, p.man.name.length ≤ maxLen ∧ p.man.ver.length ≤ maxLen

theorem LysAt.kept {F S : Nat → Prop} {v : Value} {l : List Rf} (h : LysAt w F v l) (hc : Chg S w w') (hs : ∀ k, F k → ¬ S k) : LysAt w' F v l := by
  obtain ⟨oa, cap, h1, h2, h3, h4⟩ := h.is
  exact ⟨⟨oa, cap, h1, rows_keptF h2 hc h3 (List.length_map ..) hs, h3, h4⟩, h.dig⟩
theorem LysAt.fresh {F : Nat → Prop} {v : Value} {l : List Rf} (h : LysAt w F v l) (hc : Chg (fun _ => False) w w') : LysAt w' F v l := h.kept hc (fun _ _ h => h)
theorem LysAt.wide {F F' : Nat → Prop} {v : Value} {l : List Rf} (h : LysAt w F v l) (hs : ∀ k, F k → F' k) : LysAt w F' v l := by
  obtain ⟨oa, cap, h1, h2, h3, h4⟩ := h.is
  exact ⟨⟨oa, cap, h1, h2, fun hn b off ho => hs _ (h3 hn b off ho), h4⟩, h.dig⟩
theorem PksAt.kept {F S : Nat → Prop} {v : Value} {l : List Pk} (h : PksAt w F v l) (hc : Chg S w w') (hs : ∀ k, F k → ¬ S k) : PksAt w' F v l := by
  obtain ⟨oa, cap, lv, h1, h2, h3, h4, h5, h6⟩ := h.is
  exact ⟨⟨oa, cap, lv, h1, h2, rows_keptF h3 hc h4 (by rw [List.length_zipWith]; omega) hs, h4, fun i p u hi hu => (h5 i p u hi hu).kept hc hs, h6⟩, h.txt⟩
theorem PksAt.fresh {F : Nat → Prop} {v : Value} {l : List Pk} (h : PksAt w F v l) (hc : Chg (fun _ => False) w w') : PksAt w' F v l := h.kept hc (fun _ _ h => h)
theorem PksAt.wide {F F' : Nat → Prop} {v : Value} {l : List Pk} (h : PksAt w F v l) (hs : ∀ k, F k → F' k) : PksAt w F' v l := by
  obtain ⟨oa, cap, lv, h1, h2, h3, h4, h5, h6⟩ := h.is
  exact ⟨⟨oa, cap, lv, h1, h2, h3, fun hn b off ho => hs _ (h4 hn b off ho), fun i p u hi hu => (h5 i p u hi hu).wide hs, h6⟩, h.txt⟩
theorem LysAt.nil (w : World) (F : Nat → Prop) : LysAt w F (.slice none 0 0) [] := ⟨⟨none, 0, rfl, ⟨fun h => absurd rfl h, by simp, by simp⟩, fun h => absurd rfl h, Nat.le_refl _, by unfold maxLen; omega⟩, by simp⟩
theorem PksAt.nil (w : World) (F : Nat → Prop) : PksAt w F (.slice none 0 0) [] :=
  ⟨⟨none, 0, [], rfl, rfl, ⟨fun h => absurd rfl h, by simp, by simp⟩, fun h => absurd rfl h, by simp, Nat.le_refl _, by unfold maxLen; omega⟩, by simp⟩

/-! ### manifest.Check -/
theorem oper_look {P : Program} {o : Oper} {a : Go.Act} {w : World} {K : Go.Act → World → Prop} {Q : Exit → Go.Act → World → Prop} (t : TypeId) (x y : Operand)
    (ho : o.op = .lookup t x y false) {xv yv v : Value} (hx : a.eval x = xv) (hy : a.eval y = yv)
    (hr : (Instr.lookup t xv yv false).run P w = .ok v w) (h : K (a.put o.dst v) w) : Oper.wp P o a w K Q := by
  unfold Oper.wp
  simp only [execOp, ho, hx, hy]
  simp [hr, Result.andThen]
  exact h
theorem oper_entry {P : Program} {o : Oper} {a : Go.Act} {w w' : World} {K : Go.Act → World → Prop} {Q : Exit → Go.Act → World → Prop} (t : TypeId) (x y : Operand)
    (ho : o.op = .mapEntry t x y) {xv yv v : Value} (hx : a.eval x = xv) (hy : a.eval y = yv)
    (hr : (Instr.mapEntry t xv yv).run P w = .ok v w') (h : K (a.put o.dst v) w') : Oper.wp P o a w K Q := by
  unfold Oper.wp
  simp only [execOp, ho, hx, hy]
  simp [hr, Result.andThen]
  exact h
theorem oper_estore {P : Program} {o : Oper} {a : Go.Act} {w w' : World} {K : Go.Act → World → Prop} {Q : Exit → Go.Act → World → Prop} (t : TypeId) (x y u : Operand)
    (ho : o.op = .entryStore t x y u) {xv yv uv : Value} (hx : a.eval x = xv) (hy : a.eval y = yv) (hu : a.eval u = uv)
    (hr : (Instr.entryStore t xv yv uv).run P w = .ok () w') (h : K (a.put o.dst (.tuple #[])) w') : Oper.wp P o a w K Q := by
  unfold Oper.wp
  simp only [execOp, ho, hx, hy, hu]
  simp [hr, Result.andThen]
  exact h
theorem mput_len {K V : Type} [DecidableEq K] (m : List (K × V)) (k : K) (v : V) : (mput m k v).length ≤ m.length + 1 := by
  unfold mput
  split
  · simp
  · simp
theorem zero_int (w : World) : (zeroValue 3).run Tryz.prog w = .ok (.int .i64 0) w := by kernel_rfl
theorem size_ref : (Tryz.prog.info? 98).map (·.size) = some 33 := by kernel_rfl
theorem size_dig : (Tryz.prog.info? 96).map (·.size) = some 32 := by kernel_rfl

theorem name_s (w : World) (s : ByteArray) (hs : s.size ≤ maxLen) : Calls Tryz.prog 86 #[.string s] w fun e w' => e = .returned (.bool (nameB s.data.toList)) ∧ w = w' := by
  have h := name_is w s.data.toList (show s.data.toList.length ≤ maxLen from hs)
  have e : strV s.data.toList = .string s := by
    show Value.string ⟨s.data.toList.toArray⟩ = .string s
    rw [Array.toArray_toList]
  rw [e] at h
  exact h

set_option maxHeartbeats 2000000 in
theorem mcheck_is (w : World) (m : Mf) {F : Nat → Prop} {v : Value} (h : LysAt w F v m.layers) (h1 : m.name.length ≤ maxLen) (h2 : m.ver.length ≤ maxLen) :
    Calls Tryz.prog 41 #[.agg #[strV m.name, strV m.ver, v]] w fun e w' => e = .returned (.int .i64 (mchkF m : Int)) ∧ Chg (fun _ => False) w w' := by
  have hmm := @run_makeMap Tryz.prog
  obtain ⟨nm, vr, L⟩ := m
  simp only at h h1 h2 ⊢
  obtain ⟨oa, cap, rfl, hr, -, -, -⟩ := h.is
  have HD := Lib.hid h.dig
  have H := Lib.hid hr
  obtain ⟨R, hR⟩ : ∃ R, mchkF ⟨nm, vr, L⟩ = R := ⟨_, rfl⟩
  rw [hR]
  have HR := Lib.hid hR
  have hchg := @Chg.refl (fun _ => False) w
  obtain ⟨sn, hsn⟩ : ∃ s, strV nm = .string s := ⟨_, rfl⟩
  obtain ⟨sv, hsv⟩ : ∃ s, strV vr = .string s := ⟨_, rfl⟩
  have hcx := hchg.alloc (.cells #[.string sn, .string sv, .slice oa L.length cap] 88)
  have hn1 : nameB sn.data.toList = nameB nm := by rw [strV_string nm sn hsn]
  have hn2 : nameB sv.data.toList = nameB vr := by rw [strV_string vr sv hsv]
  have HSs := Lib.hid (show ∀ s, s = sn ∨ s = sv → s.size ≤ maxLen from fun s h => by
    rcases h with rfl | rfl
    · rw [str_size nm s hsn]; exact h1
    · rw [str_size vr s hsv]; exact h2)
  rw [hsn, hsv]
  clear h hr hR h1 h2 hsn hsv hchg
  cases b1 : nameB nm with
  | false =>
    have hR : R = 2 := by rw [← HR.out]; unfold mchkF; rw [if_pos (Or.inl b1)]
    subst hR
    rw [b1] at hn1
    have HN1 := Lib.hid hn1
    have HN2 := Lib.hid hn2
    have HCx := Lib.hid hcx
    clear hn1 hn2 hcx HR b1
    go_enter Tryz.func41, Tryz.ntmps41
    go_wp2_with (go_at_call 86; refine (name_s _ _ (HSs.out _ (by simp))).mono ?_; first | rw [HN1.out] | rw [HN2.out]
                 rintro e w1 ⟨rfl, rfl⟩)
    go_ret
    exact ⟨rfl, HCx.out⟩
  | true =>
  cases b2 : nameB vr with
  | false =>
    have hR : R = 2 := by rw [← HR.out]; unfold mchkF; rw [if_pos (Or.inr b2)]
    subst hR
    rw [b1] at hn1
    rw [b2] at hn2
    have HN1 := Lib.hid hn1
    have HN2 := Lib.hid hn2
    have HCx := Lib.hid hcx
    clear hn1 hn2 hcx HR b1 b2
    go_enter Tryz.func41, Tryz.ntmps41
    go_wp2_with (go_at_call 86; refine (name_s _ _ (HSs.out _ (by simp))).mono ?_; first | rw [HN1.out] | rw [HN2.out]
                 rintro e w1 ⟨rfl, rfl⟩)
    go_ret
    exact ⟨rfl, HCx.out⟩
  | true =>
  have hR : R = if L.length = 0 then 9 else if 8 < L.length then 3 else layF [] L := by
    rw [← HR.out]; unfold mchkF; rw [if_neg (by simp [b1, b2])]
  rw [b1] at hn1
  rw [b2] at hn2
  have HN1 := Lib.hid hn1
  have HN2 := Lib.hid hn2
  have HCx := Lib.hid hcx
  clear hn1 hn2 hcx HR b1 b2
  by_cases h0 : L.length = 0
  · rw [if_pos h0] at hR
    subst hR
    have h0i : ((L.length : Int) == 0) = true := by simp [h0]
    clear h0
    go_enter Tryz.func41, Tryz.ntmps41
    go_wp2_with (go_at_call 86; refine (name_s _ _ (HSs.out _ (by simp))).mono ?_; first | rw [HN1.out] | rw [HN2.out]
                 rintro e w1 ⟨rfl, rfl⟩)
    go_ret
    exact ⟨rfl, HCx.out⟩
  rw [if_neg h0] at hR
  have h0i : ((L.length : Int) == 0) = false := by simpa using h0
  by_cases h8 : 8 < L.length
  · rw [if_pos h8] at hR
    subst hR
    have h8i : (8 : Int) < (L.length : Int) := by omega
    clear h0 h8
    go_enter Tryz.func41, Tryz.ntmps41
    go_wp2_with (go_at_call 86; refine (name_s _ _ (HSs.out _ (by simp))).mono ?_; first | rw [HN1.out] | rw [HN2.out]
                 rintro e w1 ⟨rfl, rfl⟩)
    go_ret
    exact ⟨rfl, HCx.out⟩
  rw [if_neg h8] at hR
  have h8i : ¬ (8 : Int) < (L.length : Int) := by omega
  have HL := Lib.hid h8
  have HR := Lib.hid hR
  obtain ⟨b, off, rfl⟩ := H.out.spot (by intro e; rw [List.map_eq_nil_iff] at e; rw [e] at h0; exact h0 rfl)
  clear h0 h8 hR
  go_enter Tryz.func41, Tryz.ntmps41
  go_wp2_with (go_at_call 86; refine (name_s _ _ (HSs.out _ (by simp))).mono ?_; first | rw [HN1.out] | rw [HN2.out]
               rintro e w1 ⟨rfl, rfl⟩)
  obtain ⟨w0, hw0⟩ : ∃ w0, (w.alloc (.cells #[.string sn, .string sv, .slice (some ⟨b, off, none⟩) L.length cap] 88)).alloc (.map #[] 0) = w0 := ⟨_, rfl⟩
  rw [hw0]
  have hmp : MapIs dgK (Value.int .i64) w0 (w.heap.size + 1) [] := MapIs.made (clock := 0) _ _ (by subst hw0; simp only [heap_alloc_get, World.size_alloc]; rw [if_pos trivial])
  have hc0 : Chg (fun _ => False) w w0 := by subst hw0; exact ((Chg.refl _ _).alloc _).alloc _
  have HMp := Lib.hid hmp
  have HC0 := Lib.hid hc0
  clear hmp hc0 hw0
  go_loopw [31] (fun j wr => ∃ (k : Nat) (mp : List (Dg × Int)) (seen : List Dg), j = .int .i64 k ∧ k ≤ L.length ∧ MapIs dgK (Value.int .i64) wr (w.heap.size + 1) mp ∧ mp.length ≤ k ∧ (∀ d, (mget mp d).getD 0 = if d ∈ seen then 1 else 0) ∧ R = layF seen (L.drop k) ∧ Chg (fun _ => False) w wr) (fun j _ => L.length - (intOf j).toNat)
  · exact ⟨0, [], [], rfl, Nat.zero_le _, HMp.out, Nat.le_refl _, fun d => by simp [mget], HR.out, HC0.out⟩
  clear HMp HC0 HR
  obtain ⟨k, mp, seen, rfl, hk, hM, hml, hsn, hlf, hc⟩ := hrel
  have HM := Lib.hid hM
  have HMl := Lib.hid hml
  have HSn := Lib.hid hsn
  have HLf := Lib.hid hlf
  have HC := Lib.hid hc
  clear hM hml hsn hlf hc
  by_cases hlt : k < L.length
  · have hki : (k : Int) < (L.length : Int) := by omega
    obtain ⟨x, hx⟩ : ∃ x, L[k]? = some x := ⟨L[k], List.getElem?_eq_getElem hlt⟩
    have hdr : L.drop k = x :: L.drop (k + 1) := by rw [List.drop_eq_getElem_cons hlt]; congr 1; exact (List.getElem?_eq_some_iff.1 hx).2
    have hlf := HLf.out
    rw [hdr, layF] at hlf
    have HLf1 := Lib.hid hlf
    have hok : dgK.ok x.sum := HD.out x (List.mem_of_getElem? hx)
    have hb32 : x.sum.length = 32 := hok
    have hlen : (rfC x).length = 33 := by simp [rfC, cellsB_length, hb32]
    have hrng : wr.rangeAt b (off + k * 33) (rfC x) := fun j v hj => (H.out.kept HC.out (fun _ _ h => h)).cell b off rfl k (rfC x) j v (by rw [List.getElem?_map, hx]; rfl) hj
    have hone : ∀ v ∈ rfC x, v.oneCell' = true := by
      intro v hv
      simp only [rfC, cellsB, List.mem_append, List.mem_map, List.mem_singleton] at hv
      rcases hv with ⟨z, -, rfl⟩ | rfl <;> rfl
    have HRng := Lib.hid hrng
    have HOne := Lib.hid hone
    have HLen := Lib.hid hlen
    have HOk := Lib.hid hok
    have HDl := Lib.hid (show (cellsB x.sum).length = 32 by rw [cellsB_length, hb32])
    obtain ⟨row, hrow⟩ : ∃ row, rfC x = row := ⟨_, rfl⟩
    rw [hrow] at HRng HOne HLen
    have HRow := Lib.hid hrow
    clear hx hb32 hok hlen hrng hone hrow hdr hlf HLf
    have hba := block_alloc_new wr (.cells row.toArray 98)
    have hca : Chg (fun _ => False) wr (wr.alloc (.cells row.toArray 98)) := (Chg.refl _ _).alloc _
    have hsA : (wr.alloc (.cells row.toArray 98)).heap.size = wr.heap.size + 1 := World.size_alloc _ _
    obtain ⟨wA, hwA⟩ : ∃ wA, wr.alloc (.cells row.toArray 98) = wA := ⟨_, rfl⟩
    rw [hwA] at hba hca hsA
    have a32 : wA.cell? ⟨wr.heap.size, 32, none⟩ = some (.int .i64 x.size) := cell_of_block hba (by rw [List.getElem?_toArray, ← HRow.out, rfC, List.getElem?_append_right (by rw [HDl.out]; exact Nat.le_refl _), HDl.out]; rfl)
    have hrd : wA.rangeAt wr.heap.size 0 (cellsB x.sum) := fun j v hj => by
      rw [Nat.zero_add]
      refine cell_of_block hba ?_
      rw [List.getElem?_toArray, ← HRow.out, rfC, List.getElem?_append_left (List.getElem?_eq_some_iff.1 hj).1]
      exact hj
    have hMA := HM.out.kept hca id
    have hlr : ∀ o : Option Int, lookRes false (.int .i64 0) (Value.int .i64) o = .int .i64 (o.getD 0) := fun o => by cases o <;> rfl
    have hlk : (Instr.lookup 156 (.map (some (w.heap.size + 1))) (.agg (cellsB x.sum).toArray) false).run Tryz.prog wA = .ok (.int .i64 (if x.sum ∈ seen then 1 else 0)) wA := by
      have := hMA.look Tryz.underlying156 (zero_int _) false x.sum HOk.out
      rw [hlr, HSn.out] at this
      exact this
    obtain ⟨z, hz⟩ : ∃ z, x.size = z := ⟨_, rfl⟩
    rw [hz] at a32 HLf1
    have HRd := Lib.hid hrd
    have HMA := Lib.hid hMA
    have HCA := Lib.hid hca
    have HSA := Lib.hid hsA
    have HLr := Lib.hid hlr
    have HLk := Lib.hid hlk
    clear hba hrd hMA hca hsA hlr hz hlk
    by_cases hz0 : z < 0
    · have hl := HLf1.out
      rw [if_pos (Or.inl hz0)] at hl
      subst hl
      go_wp2_with (first
        | (refine wpList_load_mid rfl 98 _ rfl b (off + k * 33) rfl row _ HRng.out Tryz.underlying98 rfl (size_ref.trans (by rw [HLen.out])) ?_)
        | (refine wpList_store_new rfl 98 _ _ rfl row.toArray rfl rfl (size_ref.trans (by rw [List.size_toArray, HLen.out])) (by rw [show row.toArray.size = 33 from by rw [List.size_toArray, HLen.out]]; rfl) (all_oneCell_toArray HOne.out) ?_))
      go_ret
      exact ⟨rfl, HC.out.trans' HCA.out⟩
    by_cases hz1 : 2147483647 < z
    · have hl := HLf1.out
      rw [if_pos (Or.inr hz1)] at hl
      subst hl
      go_wp2_with (first
        | (refine wpList_load_mid rfl 98 _ rfl b (off + k * 33) rfl row _ HRng.out Tryz.underlying98 rfl (size_ref.trans (by rw [HLen.out])) ?_)
        | (refine wpList_store_new rfl 98 _ _ rfl row.toArray rfl rfl (size_ref.trans (by rw [List.size_toArray, HLen.out])) (by rw [show row.toArray.size = 33 from by rw [List.size_toArray, HLen.out]]; rfl) (all_oneCell_toArray HOne.out) ?_))
      go_ret
      exact ⟨rfl, HC.out.trans' HCA.out⟩
    have hl := HLf1.out
    rw [if_neg (by omega)] at hl
    have hlk := HLk.out
    by_cases hse : x.sum ∈ seen
    · rw [if_pos hse] at hl hlk
      subst hl
      clear hse
      go_wp2_with (first
        | (refine wpList_load_mid rfl 98 _ rfl b (off + k * 33) rfl row _ HRng.out Tryz.underlying98 rfl (size_ref.trans (by rw [HLen.out])) ?_)
        | (refine wpList_store_new rfl 98 _ _ rfl row.toArray rfl rfl (size_ref.trans (by rw [List.size_toArray, HLen.out])) (by rw [show row.toArray.size = 33 from by rw [List.size_toArray, HLen.out]]; rfl) (all_oneCell_toArray HOne.out) ?_)
        | (refine wpList_load_mid rfl 96 _ rfl wr.heap.size 0 rfl (cellsB x.sum) _ HRd.out Tryz.underlying96 rfl (size_dig.trans (by rw [HDl.out])) ?_))
      go_ret
      exact ⟨rfl, HC.out.trans' HCA.out⟩
    rw [if_neg hse] at hl hlk
    have hg0 : (mget mp x.sum).getD 0 = 0 := by rw [HSn.out, if_neg hse]
    have HLf2 := Lib.hid hl
    have HG0 := Lib.hid hg0
    have HSn2 := Lib.hid (show ∀ d, (mget (mput mp x.sum (IntKind.i64.wrap (0 + 1))) d).getD 0 = if d ∈ x.sum :: seen then 1 else 0 from fun d => by
      rw [mget_mput]
      by_cases hd : d = x.sum
      · rw [if_pos hd, if_pos (by simp [hd])]; rfl
      · rw [if_neg hd, HSn.out]
        by_cases h' : d ∈ seen
        · rw [if_pos h', if_pos (by simp [h'])]
        · rw [if_neg h', if_neg (by simp [h', hd])])
    clear hl hg0 hse HLf1
    go_wp2_with (first
      | (refine wpList_load_mid rfl 98 _ rfl b (off + k * 33) rfl row _ HRng.out Tryz.underlying98 rfl (size_ref.trans (by rw [HLen.out])) ?_)
      | (refine wpList_store_new rfl 98 _ _ rfl row.toArray rfl rfl (size_ref.trans (by rw [List.size_toArray, HLen.out])) (by rw [show row.toArray.size = 33 from by rw [List.size_toArray, HLen.out]]; rfl) (all_oneCell_toArray HOne.out) ?_)
      | (refine wpList_load_mid rfl 96 _ rfl wr.heap.size 0 rfl (cellsB x.sum) _ HRd.out Tryz.underlying96 rfl (size_dig.trans (by rw [HDl.out])) ?_))
    have hql : w.heap.size + 1 < wr.heap.size := HM.out.lt
    have hdr : Chg (fun _ => False) wA wA.drew := (Chg.refl _ _).drew
    have hMd := HMA.out.kept hdr id
    have hlk1 : (Instr.lookup 156 (.map (some (w.heap.size + 1))) (.agg (cellsB x.sum).toArray) false).run Tryz.prog wA.drew = .ok (.int .i64 0) wA.drew := by
      have := hMd.look Tryz.underlying156 (zero_int _) false x.sum HOk.out
      rw [HLr.out, HG0.out] at this
      exact this
    obtain ⟨x0, st, ob, m1, hent, hM1, hm1, hst⟩ := hMd.entry arrD.law Tryz.underlying156 0 zero_int (by have := HMl.out; have := HL.out; unfold maxLen; omega) x.sum HOk.out
    have hent : (Instr.mapEntry 156 (.map (some (w.heap.size + 1))) (.agg (cellsB x.sum).toArray)).run Tryz.prog wA.drew = .ok (.tuple #[x0, goInt st]) (setBlock wA.drew (w.heap.size + 1) ob) := hent
    have hc1 : Chg (· = w.heap.size + 1) wA.drew (setBlock wA.drew (w.heap.size + 1) ob) := Chg.setBlock (S := (· = w.heap.size + 1)) (Chg.refl _ _) (fun _ => rfl) _
    obtain ⟨w1, hw1⟩ : ∃ w1, setBlock wA.drew (w.heap.size + 1) ob = w1 := ⟨_, rfl⟩
    have hob : w1.heap[w.heap.size + 1]? = some ob := by
      rw [← hw1]
      obtain ⟨es, clock, hb, _⟩ := hMd
      exact heap_setBlock_same hb _
    rw [hw1] at hent hM1 hc1
    have hlk2 : (Instr.lookup 156 (.map (some (w.heap.size + 1))) (.agg (cellsB x.sum).toArray) false).run Tryz.prog w1 = .ok (.int .i64 0) w1 := by
      have := hM1.look Tryz.underlying156 (zero_int _) false x.sum HOk.out
      rw [HLr.out, hm1, HG0.out] at this
      exact this
    obtain ⟨ob2, hst1, hM2⟩ := hst w1 (IntKind.i64.wrap (0 + 1)) hob
    have hc2 : Chg (· = w.heap.size + 1) w1 (setBlock w1 (w.heap.size + 1) ob2) := Chg.setBlock (S := (· = w.heap.size + 1)) (Chg.refl _ _) (fun _ => rfl) _
    obtain ⟨w2, hw2⟩ : ∃ w2, setBlock w1 (w.heap.size + 1) ob2 = w2 := ⟨_, rfl⟩
    rw [hw2] at hst1 hM2 hc2
    have hne : ¬ wr.heap.size = w.heap.size + 1 := by omega
    have r1 : w1.rangeAt wr.heap.size 0 (cellsB x.sum) := fun j v hj => hc1.cell (hdr.cell (HRd.out j v hj) id) hne
    have r2 : w2.rangeAt wr.heap.size 0 (cellsB x.sum) := fun j v hj => hc2.cell (r1 j v hj) hne
    have HM2 := Lib.hid hM2
    have HC2 := Lib.hid (((HC.out.trans' HCA.out).trans' hdr).new (hc1.trans' hc2) (fun j e => by omega))
    clear hM2 hc1 hc2 hw1 hw2 hob hM1 hm1 hst hMd hdr hlk
    refine wp_region_noPanic ?_
    refine wp_region_held_drew (S := (fun w' => w'.rangeAt wr.heap.size 0 (cellsB x.sum))) (by kernel_rfl) (HRd.out) (fun hHeld => ?_)
    refine take_list (i := 0) (v := ?_) rfl (by kernel_rfl) (by kernel_rfl) (by kernel_rfl) (fun _ _ _ h => h) (Or.inl ⟨by rfl, fun w hSw => ?_⟩) hHeld ?_
    rotate_left
    · (skip; go_simp)
      try with_reducible rfl
    simp only [Act.put, List.setIfInBounds_toArray, List.set_cons_zero, List.set_cons_succ]
    refine take_list (i := 1) (v := ?_) rfl (by kernel_rfl) (by kernel_rfl) (by kernel_rfl) (fun _ _ _ h => h) (Or.inl ⟨by rfl, fun w hSw => ?_⟩) hHeld ?_
    rotate_left
    · (skip; go_simp)
      try with_reducible rfl
    simp only [Act.put, List.setIfInBounds_toArray, List.set_cons_zero, List.set_cons_succ]
    refine take_list (i := 2) rfl (by kernel_rfl) (by kernel_rfl) (by kernel_rfl) (fun _ _ _ h => h) (yieldsIf_load_mid (by rfl) 96 _ rfl wr.heap.size 0 rfl (cellsB x.sum) _ (fun w h => h) Tryz.underlying96 rfl (size_dig.trans (by rw [HDl.out]))) hHeld ?_
    simp only [Act.put, List.setIfInBounds_toArray, List.set_cons_zero, List.set_cons_succ]
    refine wpAnyH_ready (rs := [3, 5]) (by kernel_rfl) (by simp) (one_list (i := 3) rfl (by rfl) (fun K hK => ?_) (one_list (i := 5) rfl (by rfl) (fun K hK => ?_) AllReadyH.nil))
    · refine oper_look _ _ _ rfl rfl rfl hlk1 ?_
      refine hK _ _ ((fun j v hj => (show Chg (fun _ => False) wA wA.drew from (Chg.refl _ _).drew).cell (HRd.out j v hj) id)) (fun hA1 => ?_)
      try simp only [Act.put, List.setIfInBounds_toArray, List.set_cons_zero, List.set_cons_succ]
      refine take_list (i := 4) (v := ?_) rfl (by kernel_rfl) (by kernel_rfl) (by kernel_rfl) (fun _ _ _ h => h) (Or.inl ⟨by rfl, fun w hSw => ?_⟩) hA1 ?_
      rotate_left
      · (skip; go_simp)
        try with_reducible rfl
      simp only [Act.put, List.setIfInBounds_toArray, List.set_cons_zero, List.set_cons_succ]
      refine wpAnyH_ready (rs := [5]) (by kernel_rfl) (by simp) (one_list (i := 5) rfl (by rfl) (fun K hK => ?_) AllReadyH.nil)
      refine oper_entry _ _ _ rfl rfl rfl hent ?_
      refine hK _ _ (r1) (fun hA2 => ?_)
      try simp only [Act.put, List.setIfInBounds_toArray, List.set_cons_zero, List.set_cons_succ]
      refine take_list (i := 6) (v := ?_) rfl (by kernel_rfl) (by kernel_rfl) (by kernel_rfl) (fun _ _ _ h => h) (Or.inl ⟨by rfl, fun w hSw => ?_⟩) hA2 ?_
      rotate_left
      · (skip; go_simp)
        try with_reducible rfl
      simp only [Act.put, List.setIfInBounds_toArray, List.set_cons_zero, List.set_cons_succ]
      refine wpAnyH_ready (rs := [7]) (by kernel_rfl) (by simp) (one_list (i := 7) rfl (by rfl) (fun K hK => ?_) AllReadyH.nil)
      refine oper_estore (xv := .map (some (w.heap.size + 1))) (yv := goInt st) (uv := .int .i64 (IntKind.i64.wrap (0 + 1))) _ _ _ _ rfl rfl rfl rfl hst1 ?_
      refine hK _ _ r2 (fun hA3 => ?_)
      simp only [Act.put]
      refine wpAnyH_done (by kernel_rfl) ?_ _
      refine NoPanic.normal ?_
      go_wp2_with fail
      exact ⟨⟨k + 1, _, _, by go_num, hlt, HM2.out, by have := HMl.out; have := mput_len mp x.sum (IntKind.i64.wrap (0 + 1)); omega, HSn2.out, HLf2.out, HC2.out⟩, meas_step hlt⟩
    · refine oper_entry _ _ _ rfl rfl rfl hent ?_
      refine hK _ _ (r1) (fun hB1 => ?_)
      try simp only [Act.put, List.setIfInBounds_toArray, List.set_cons_zero, List.set_cons_succ]
      refine take_list (i := 6) (v := ?_) rfl (by kernel_rfl) (by kernel_rfl) (by kernel_rfl) (fun _ _ _ h => h) (Or.inl ⟨by rfl, fun w hSw => ?_⟩) hB1 ?_
      rotate_left
      · (skip; go_simp)
        try with_reducible rfl
      simp only [Act.put, List.setIfInBounds_toArray, List.set_cons_zero, List.set_cons_succ]
      refine wpAnyH_ready (rs := [3]) (by kernel_rfl) (by simp) (one_list (i := 3) rfl (by rfl) (fun K hK => ?_) AllReadyH.nil)
      refine oper_look _ _ _ rfl rfl rfl hlk2 ?_
      refine hK _ _ (r1) (fun hB2 => ?_)
      try simp only [Act.put, List.setIfInBounds_toArray, List.set_cons_zero, List.set_cons_succ]
      refine take_list (i := 4) (v := ?_) rfl (by kernel_rfl) (by kernel_rfl) (by kernel_rfl) (fun _ _ _ h => h) (Or.inl ⟨by rfl, fun w hSw => ?_⟩) hB2 ?_
      rotate_left
      · (skip; go_simp)
        try with_reducible rfl
      simp only [Act.put, List.setIfInBounds_toArray, List.set_cons_zero, List.set_cons_succ]
      refine wpAnyH_ready (rs := [7]) (by kernel_rfl) (by simp) (one_list (i := 7) rfl (by rfl) (fun K hK => ?_) AllReadyH.nil)
      refine oper_estore (xv := .map (some (w.heap.size + 1))) (yv := goInt st) (uv := .int .i64 (IntKind.i64.wrap (0 + 1))) _ _ _ _ rfl rfl rfl rfl hst1 ?_
      refine hK _ _ r2 (fun hB3 => ?_)
      simp only [Act.put]
      refine wpAnyH_done (by kernel_rfl) ?_ _
      refine NoPanic.normal ?_
      go_wp2_with fail
      exact ⟨⟨k + 1, _, _, by go_num, hlt, HM2.out, by have := HMl.out; have := mput_len mp x.sum (IntKind.i64.wrap (0 + 1)); omega, HSn2.out, HLf2.out, HC2.out⟩, meas_step hlt⟩
  · have hki : ¬ (k : Int) < (L.length : Int) := by omega
    have hl := HLf.out
    rw [List.drop_eq_nil_of_le (by omega), layF] at hl
    subst hl
    go_wp2_with fail
    go_ret
    exact ⟨rfl, HC.out⟩

end Go.Proofs.YtbjagmlbamjdbaaGreat.roots
end

/-
  rootdb: Check, exact.
-/
section
set_option linter.unusedSimpArgs false
set_option linter.unusedVariables false
namespace Go.Proofs.YtbjagmlbamjdbaaGreat.roots
open Go.RowKit Go.Maps Go.My Go.ChangeMaps disks bufs wals kvs
set_option maxRecDepth 100000

variable {w w' : World}

theorem str_same {a b : Txt} {s t : ByteArray} (hs : strV a = .string s) (ht : strV b = .string t) : (s.toList == t.toList) = decide (a = b) := by
  rw [strV_string a s hs, strV_string b t ht, Lib.toList_data, Lib.toList_data]
  by_cases h : a = b
  · subst h; simp
  · simp [h]

/-- The cells of the k-th package. -/
theorem pk_cells {l : List Pk} {lv : List Value} {b off k : Nat} {p : Pk} {u : Value} (h : RowsAt w 4 (some ⟨b, off, none⟩) (List.zipWith pkC l lv)) (hp : l[k]? = some p) (hu : lv[k]? = some u) :
    w.cell? ⟨b, off + k * 4, none⟩ = some (.int .i64 p.owner) ∧ w.cell? ⟨b, off + k * 4 + 1, none⟩ = some (strV p.man.name) ∧ w.cell? ⟨b, off + k * 4 + 2, none⟩ = some (strV p.man.ver) ∧ w.cell? ⟨b, off + k * 4 + 3, none⟩ = some u := by
  have hk : (List.zipWith pkC l lv)[k]? = some (pkC p u) := by rw [List.getElem?_zipWith, hp, hu]
  exact ⟨h.cell b off rfl k _ 0 _ hk rfl, h.cell b off rfl k _ 1 _ hk rfl, h.cell b off rfl k _ 2 _ hk rfl, h.cell b off rfl k _ 3 _ hk rfl⟩

theorem same_name (w : World) (ow : Int) (nm vr : Txt) (ly : Value) (g : Nat) (nm' : Txt) (hg : w.cell? ⟨g, 1, none⟩ = some (strV nm')) (hly : ∃ oa n c, ly = .slice oa n c) :
    Calls Tryz.prog 43 #[.agg #[.int .i64 ow, strV nm, strV vr, ly], .pointer (some ⟨g, 0, none⟩)] w fun e w' => e = .returned (.bool (decide (nm = nm'))) ∧ Chg (fun _ => False) w w' := by
  obtain ⟨oa, n, c, rfl⟩ := hly
  obtain ⟨s, hs⟩ : ∃ s, strV nm = .string s := ⟨_, rfl⟩
  obtain ⟨t, ht⟩ : ∃ s, strV nm' = .string s := ⟨_, rfl⟩
  obtain ⟨v, hv⟩ : ∃ s, strV vr = .string s := ⟨_, rfl⟩
  have heq := str_same hs ht
  rw [hs, hv]
  rw [ht] at hg
  have HE := Lib.hid heq
  clear hs ht hv heq
  have g1 : (w.alloc (.cells #[.int .i64 ow, .string s, .string v, .slice oa n c] 90)).cell? ⟨g, 1, none⟩ = some (.string t) := ((Chg.refl (fun _ => False) w).alloc _).cell hg id
  go_enter Tryz.func43, Tryz.ntmps43
  go_wp2_with fail
  go_ret
  exact ⟨congrArg (fun b => Ending.returned (.bool b)) HE.out, (Chg.refl _ _).alloc _⟩

theorem pindex_is (w : World) {F : Nat → Prop} (oa : Option Addr) (cap : Nat) (l : List Pk) (lv : List Value) (hlv : lv.length = l.length) (n : Nat) (hn : n ≤ l.length) (h : RowsAt w 4 oa (List.zipWith pkC l lv)) (hr : ∀ (i : Nat) (p : Pk) (u : Value), l[i]? = some p → lv[i]? = some u → LysAt w F u p.man.layers) (hl : l.length ≤ maxLen) (g : Nat) (nm' : Txt) (hg : w.cell? ⟨g, 1, none⟩ = some (strV nm')) :
    Calls Tryz.prog 87 #[.slice oa n cap, .func (.func 43) #[] #[.pointer (some ⟨g, 0, none⟩)]] w fun e w' => ∃ k : Int, e = .returned (.int .i64 k) ∧ (nm' ∈ (l.take n).map (fun p => p.man.name) → 0 ≤ k) ∧ (nm' ∉ (l.take n).map (fun p => p.man.name) → k = -1) ∧ Chg (fun _ => False) w w' := by
  have H := Lib.hid h
  have HR := Lib.hid hr
  have HG := Lib.hid hg
  unfold maxLen at hl
  clear h hr hg
  go_enter Tryz.func87, Tryz.ntmps87
  go_wp2_with fail
  go_loopw [8] (fun j wr => ∃ k : Nat, j = .int .i64 k ∧ k ≤ n ∧ nm' ∉ (l.take k).map (fun p => p.man.name) ∧ Chg (fun _ => False) w wr) (fun j _ => n - (intOf j).toNat)
  · exact ⟨0, rfl, Nat.zero_le _, by simp, Chg.refl _ _⟩
  obtain ⟨k, rfl, hk, hno, hc⟩ := hrel
  have HC := Lib.hid hc
  have HNo := Lib.hid hno
  clear hc hno
  by_cases hlt : k < n
  · have hki : (k : Int) < (n : Int) := by omega
    obtain ⟨p, hp⟩ : ∃ p, l[k]? = some p := ⟨l[k]'(by omega), List.getElem?_eq_getElem _⟩
    obtain ⟨u, hu⟩ : ∃ u, lv[k]? = some u := ⟨lv[k]'(by omega), List.getElem?_eq_getElem _⟩
    obtain ⟨b, off, rfl⟩ := H.out.spot (by intro e; have e2 := congrArg List.length e; rw [List.length_zipWith, List.length_nil] at e2; omega)
    obtain ⟨d0, d1, d2, d3⟩ := pk_cells (H.out.kept HC.out (fun _ _ h => h)) hp hu
    obtain ⟨ou, cu, rfl, -⟩ := (HR.out k p u hp hu).is
    have htk : (l.take (k + 1)).map (fun p => p.man.name) = (l.take k).map (fun p => p.man.name) ++ [p.man.name] := by rw [List.take_add_one, hp, Option.toList_some, List.map_append]; rfl
    have HTk := Lib.hid htk
    obtain ⟨s1, hs1⟩ : ∃ s, strV p.man.name = .string s := ⟨_, rfl⟩
    obtain ⟨s2, hs2⟩ : ∃ s, strV p.man.ver = .string s := ⟨_, rfl⟩
    have hsm := fun w => same_name w p.owner p.man.name p.man.ver (.slice ou p.man.layers.length cu) g nm'
    rw [hs1, hs2] at hsm
    rw [hs1] at d1
    rw [hs2] at d2
    have HSm := Lib.hid hsm
    clear hp hu htk hs1 hs2 hsm
    by_cases he : p.man.name = nm'
    · rw [decide_eq_true he] at HSm
      have HMem := Lib.hid (show nm' ∈ (l.take n).map (fun p => p.man.name) from by
        have h1 : nm' ∈ (l.take (k + 1)).map (fun p => p.man.name) := by rw [HTk.out, he]; simp
        rw [← List.take_append_drop (k + 1) (l.take n), List.take_take, Nat.min_eq_left (by omega), List.map_append]
        exact List.mem_append_left _ h1)
      clear he
      go_wp2_with (go_at_call 43; refine (HSm.out _ (HC.out.cell HG.out id) ⟨_, _, _, rfl⟩).mono ?_; rintro e w1 ⟨rfl, hc1⟩; have HC1 := Lib.hid hc1; clear hc1)
      go_ret
      exact ⟨k, rfl, fun _ => by omega, fun h => absurd HMem.out h, HC.out.trans' HC1.out⟩
    · rw [decide_eq_false he] at HSm
      have HNe := Lib.hid he
      clear he
      go_wp2_with (go_at_call 43; refine (HSm.out _ (HC.out.cell HG.out id) ⟨_, _, _, rfl⟩).mono ?_; rintro e w1 ⟨rfl, hc1⟩; have HC1 := Lib.hid hc1; clear hc1)
      exact ⟨⟨k + 1, by go_num, hlt, by rw [HTk.out, List.mem_append, List.mem_singleton]; exact fun h => h.elim HNo.out (fun e => HNe.out e.symm), HC.out.trans' HC1.out⟩, meas_step hlt⟩
  · have hki : ¬ (k : Int) < (n : Int) := by omega
    obtain rfl : k = n := by omega
    go_wp2_with fail
    go_ret
    exact ⟨-1, rfl, fun h => by (first | exact absurd h HNo.out | (rw [← List.map_take] at h; exact absurd h HNo.out)), fun _ => rfl, HC.out⟩

theorem pcontains_is (w : World) {F : Nat → Prop} (oa : Option Addr) (cap : Nat) (l : List Pk) (lv : List Value) (hlv : lv.length = l.length) (n : Nat) (hn : n ≤ l.length) (h : RowsAt w 4 oa (List.zipWith pkC l lv)) (hr : ∀ (i : Nat) (p : Pk) (u : Value), l[i]? = some p → lv[i]? = some u → LysAt w F u p.man.layers) (hl : l.length ≤ maxLen) (g : Nat) (nm' : Txt) (hg : w.cell? ⟨g, 1, none⟩ = some (strV nm')) :
    Calls Tryz.prog 42 #[.slice oa n cap, .func (.func 43) #[] #[.pointer (some ⟨g, 0, none⟩)]] w fun e w' => e = .returned (.bool (decide (nm' ∈ (l.take n).map (fun p => p.man.name)))) ∧ Chg (fun _ => False) w w' := by
  have HI := Lib.hid (pindex_is w oa cap l lv hlv n hn h hr hl g nm' hg)
  clear hn h hr hl hg
  obtain ⟨P, hP⟩ : ∃ P, (nm' ∈ (l.take n).map (fun p => p.man.name)) = P := ⟨_, rfl⟩
  by_cases hm : nm' ∈ (l.take n).map (fun p => p.man.name)
  · have HM := Lib.hid hm
    rw [decide_eq_true hm]
    clear hm
    go_enter Tryz.func42, Tryz.ntmps42
    go_wp2_with (go_at_call 87; refine HI.out.mono ?_; rintro e w1 ⟨k, rfl, hk, -, hc1⟩; have hk := hk HM.out; have HC1 := Lib.hid hc1; clear hc1)
    go_ret
    exact ⟨rfl, HC1.out⟩
  · have HM := Lib.hid hm
    rw [decide_eq_false hm]
    clear hm
    go_enter Tryz.func42, Tryz.ntmps42
    go_wp2_with (go_at_call 87; refine HI.out.mono ?_; rintro e w1 ⟨k, rfl, -, hk, hc1⟩; obtain rfl := hk HM.out; have HC1 := Lib.hid hc1; clear hc1)
    go_ret
    exact ⟨rfl, HC1.out⟩

set_option maxHeartbeats 1000000 in
theorem check_is (w : World) {F : Nat → Prop} {v : Value} {l : List Pk} (h : PksAt w F v l) :
    Calls Tryz.prog 10 #[v] w fun e w' => e = .returned (.int .i64 (rchkF l : Int)) ∧ Chg (fun _ => False) w w' := by
  have hmf : ∀ (fn : Fn) (first cap : Array Value) (w : World), (Instr.makeFunc fn first cap).run Tryz.prog w = .ok (.func fn first cap) w := fun _ _ _ _ => rfl
  obtain ⟨oa, cap, lv, rfl, hlv, hr, -, hly, hcap, hcm⟩ := h.is
  have HTx := Lib.hid h.txt
  have H := Lib.hid hr
  have HLy := Lib.hid hly
  have HCm := Lib.hid (Nat.le_trans hcap hcm)
  unfold maxLen at hcm
  obtain ⟨R, hR⟩ : ∃ R, rchkF l = R := ⟨_, rfl⟩
  rw [hR]
  have HR := Lib.hid hR
  clear h hr hly hR
  go_enter Tryz.func10, Tryz.ntmps10
  go_wp2_with fail
  go_loopw [3, 9] (fun u j wr => ∃ (k n : Nat) (seen : List Txt), u = .int .i64 n ∧ j = .int .i64 k ∧ k ≤ l.length ∧ n ≤ 16 ∧ R = rchkL seen n (l.drop k) ∧ (∀ x, x ∈ seen ↔ x ∈ (l.take k).map (fun p => p.man.name)) ∧ Chg (fun _ => False) w wr) (fun _ j _ => l.length - (intOf j).toNat)
  · exact ⟨0, 0, [], rfl, rfl, Nat.zero_le _, by omega, HR.out.symm, by simp, Chg.refl _ _⟩
  obtain ⟨k, n, seen, rfl, rfl, hk, hn16, hRk, hsn, hc⟩ := hrel
  have HC := Lib.hid hc
  have HSn := Lib.hid hsn
  have HRk := Lib.hid hRk
  clear hc hsn hRk HR
  have hn16i : (n : Int) ≤ 16 := by omega
  have hn0i : (0 : Int) ≤ (n : Int) := by omega
  by_cases hlt : k < l.length
  · have hki : (k : Int) < (l.length : Int) := by omega
    have hkc : (k : Int) ≤ (cap : Int) := by omega
    obtain ⟨p, hp⟩ : ∃ p, l[k]? = some p := ⟨l[k]'(by omega), List.getElem?_eq_getElem _⟩
    obtain ⟨u, hu⟩ : ∃ u, lv[k]? = some u := ⟨lv[k]'(by omega), List.getElem?_eq_getElem _⟩
    obtain ⟨b, off, rfl⟩ := H.out.spot (by intro e; have e2 := congrArg List.length e; rw [List.length_zipWith, List.length_nil] at e2; omega)
    obtain ⟨d0, d1, d2, d3⟩ := pk_cells (H.out.kept HC.out (fun _ _ h => h)) hp hu
    have hlyk := HLy.out k p u hp hu
    obtain ⟨t1, t2⟩ := HTx.out p (List.mem_of_getElem? hp)
    have hdr : l.drop k = p :: l.drop (k + 1) := by rw [List.drop_eq_getElem_cons hlt]; congr 1; exact (List.getElem?_eq_some_iff.1 hp).2
    have hRk := HRk.out
    rw [hdr, rchkL] at hRk
    have htk : (l.take (k + 1)).map (fun p => p.man.name) = (l.take k).map (fun p => p.man.name) ++ [p.man.name] := by rw [List.take_add_one, hp, Option.toList_some, List.map_append]; rfl
    have HTk := Lib.hid htk
    obtain ⟨ou, cu, rfl, -⟩ := hlyk.is
    obtain ⟨ow, nm, vr, L⟩ := p
    simp only at hRk d0 d1 d2 d3 hlyk t1 t2 HTk
    obtain ⟨s1, hs1⟩ : ∃ s, strV nm = .string s := ⟨_, rfl⟩
    obtain ⟨s2, hs2⟩ : ∃ s, strV vr = .string s := ⟨_, rfl⟩
    rw [hs1] at d1
    rw [hs2] at d2
    have hcx : Chg (fun _ => False) w (wr.alloc (.cells #[.int .i64 ow, .string s1, .string s2, .slice ou L.length cu] 90)) := HC.out.alloc _
    have hmk := mcheck_is (wr.alloc (.cells #[.int .i64 ow, .string s1, .string s2, .slice ou L.length cu] 90)) ⟨nm, vr, L⟩ (hlyk.fresh hcx) t1 t2
    rw [hs1, hs2] at hmk
    have hba := block_alloc_new wr (.cells #[.int .i64 ow, .string s1, .string s2, .slice ou L.length cu] 90)
    have HBa := Lib.hid hba
    have HCa := Lib.hid hcx
    have HRk2 := Lib.hid hRk
    have HS1 := Lib.hid hs1
    obtain ⟨M, hM⟩ : ∃ M, mchkF ⟨nm, vr, L⟩ = M := ⟨_, rfl⟩
    rw [hM] at hmk HRk2
    have HMk := Lib.hid hmk
    have HMo := Lib.hid hM
    clear hp hu hlyk t1 t2 hdr hRk HRk htk hs1 hs2 hcx hmk hba hM
    by_cases o1 : ow < 1
    · have hR := HRk2.out
      rw [if_pos (Or.inl o1)] at hR
      subst hR
      go_wp2_with fail
      go_ret
      exact ⟨rfl, HCa.out⟩
    by_cases o2 : 8 < ow
    · have hR := HRk2.out
      rw [if_pos (Or.inr o2)] at hR
      subst hR
      go_wp2_with fail
      go_ret
      exact ⟨rfl, HCa.out⟩
    have hR := HRk2.out
    rw [if_neg (by omega)] at hR
    by_cases m0 : M = 0
    · subst m0
      rw [if_neg (by simp)] at hR
      have HL8 := Lib.hid (mchkF_ok HMo.out).few
      have hmem := HSn.out nm
      by_cases hin : nm ∈ seen
      · rw [if_pos hin] at hR
        subst hR
        have HIn := Lib.hid (decide_eq_true (hmem.1 hin))
        clear hin hmem HRk2
        go_wp2_with (first
          | (go_at_call 41; refine HMk.out.mono ?_; rintro e w1 ⟨rfl, hc1⟩
             have hb1 := hc1.at HBa.out id
             have HB1 := Lib.hid hb1
             have HC1 := Lib.hid (HCa.out.trans' hc1)
             have e1 : w1.cell? ⟨wr.heap.size, 1, none⟩ = some (.string s1) := cell_of_block hb1 rfl
             have HE1 := Lib.hid e1
             clear hb1 hc1 e1)
          | (go_at_call 42; refine (pcontains_is _ _ _ l lv hlv k (Nat.le_of_lt hlt) (H.out.kept HC1.out (fun _ _ h => h)) (fun i p u hi hu => (HLy.out i p u hi hu).fresh HC1.out) HCm.out wr.heap.size nm (by rw [HS1.out]; exact HE1.out)).mono ?_; rw [HIn.out]; rintro e w2 ⟨rfl, hc2⟩
             have HC2 := Lib.hid (HC1.out.trans' hc2)
             clear hc2))
        go_ret
        exact ⟨rfl, HC2.out⟩
      · rw [if_neg hin] at hR
        have HIn := Lib.hid (decide_eq_false (fun h => hin (hmem.2 h)))
        have HRk3 := Lib.hid hR
        have HSn2 := Lib.hid (show ∀ x, x ∈ nm :: seen ↔ x ∈ (l.take (k + 1)).map (fun p => p.man.name) from fun x => by
          rw [HTk.out, List.mem_append, List.mem_singleton, List.mem_cons, HSn.out x]
          exact ⟨fun h => h.elim Or.inr Or.inl, fun h => h.elim Or.inr Or.inl⟩)
        have hL8i : (L.length : Int) ≤ 8 := by have := HL8.out; simp only at this; omega
        have hL0i : (0 : Int) ≤ (L.length : Int) := by omega
        clear hin hmem HRk2 hR
        by_cases h16 : 16 < n + L.length
        · have hR := HRk3.out
          rw [if_pos h16] at hR
          subst hR
          have h16i : (16 : Int) < (n : Int) + (L.length : Int) := by omega
          go_wp2_with (first
            | (go_at_call 41; refine HMk.out.mono ?_; rintro e w1 ⟨rfl, hc1⟩
               have hb1 := hc1.at HBa.out id
               have HB1 := Lib.hid hb1
               have HC1 := Lib.hid (HCa.out.trans' hc1)
               have e1 : w1.cell? ⟨wr.heap.size, 1, none⟩ = some (.string s1) := cell_of_block hb1 rfl
               have HE1 := Lib.hid e1
               clear hb1 hc1 e1)
            | (go_at_call 42; refine (pcontains_is _ _ _ l lv hlv k (Nat.le_of_lt hlt) (H.out.kept HC1.out (fun _ _ h => h)) (fun i p u hi hu => (HLy.out i p u hi hu).fresh HC1.out) HCm.out wr.heap.size nm (by rw [HS1.out]; exact HE1.out)).mono ?_; rw [HIn.out]; rintro e w2 ⟨rfl, hc2⟩
               have e3 : w2.cell? ⟨wr.heap.size, 3, none⟩ = some (.slice ou L.length cu) := cell_of_block (hc2.at HB1.out id) rfl
               have HC2 := Lib.hid (HC1.out.trans' hc2)
               clear hc2))
          go_ret
          exact ⟨rfl, HC2.out⟩
        · have hR := HRk3.out
          rw [if_neg h16] at hR
          have HRk4 := Lib.hid hR
          have h16i : (n : Int) + (L.length : Int) ≤ 16 := by omega
          clear hR
          go_wp2_with (first
            | (go_at_call 41; refine HMk.out.mono ?_; rintro e w1 ⟨rfl, hc1⟩
               have hb1 := hc1.at HBa.out id
               have HB1 := Lib.hid hb1
               have HC1 := Lib.hid (HCa.out.trans' hc1)
               have e1 : w1.cell? ⟨wr.heap.size, 1, none⟩ = some (.string s1) := cell_of_block hb1 rfl
               have HE1 := Lib.hid e1
               clear hb1 hc1 e1)
            | (go_at_call 42; refine (pcontains_is _ _ _ l lv hlv k (Nat.le_of_lt hlt) (H.out.kept HC1.out (fun _ _ h => h)) (fun i p u hi hu => (HLy.out i p u hi hu).fresh HC1.out) HCm.out wr.heap.size nm (by rw [HS1.out]; exact HE1.out)).mono ?_; rw [HIn.out]; rintro e w2 ⟨rfl, hc2⟩
               have e3 : w2.cell? ⟨wr.heap.size, 3, none⟩ = some (.slice ou L.length cu) := cell_of_block (hc2.at HB1.out id) rfl
               have HC2 := Lib.hid (HC1.out.trans' hc2)
               clear hc2))
          exact ⟨⟨k + 1, n + L.length, nm :: seen, by go_num, by go_num, hlt, by omega, HRk4.out, HSn2.out, HC2.out⟩, meas_step hlt⟩
    · rw [if_pos m0] at hR
      subst hR
      have m0i : ¬ (R : Int) = 0 := by omega
      have m0b : ((R : Int) != 0) = true := by simpa using m0
      clear HRk2
      go_wp2_with (first
        | (go_at_call 41; refine HMk.out.mono ?_; rintro e w1 ⟨rfl, hc1⟩
           have HC1 := Lib.hid (HCa.out.trans' hc1)
           clear hc1))
      go_ret
      exact ⟨rfl, HC1.out⟩
  · have hki : ¬ (k : Int) < (l.length : Int) := by omega
    have hR := HRk.out
    rw [List.drop_eq_nil_of_le (by omega), rchkL] at hR
    subst hR
    go_wp2_with fail
    go_ret
    exact ⟨rfl, HC.out⟩

end Go.Proofs.YtbjagmlbamjdbaaGreat.roots
end

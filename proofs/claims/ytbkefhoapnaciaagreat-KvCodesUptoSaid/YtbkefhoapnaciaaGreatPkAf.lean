/-
  num: Fixed, ReadFixed: the walks.
-/
import Derived.Test.YtbkefhoapnaciaaGreatPkAe
import Derived.Laws.BitsAll
import Derived.Laws.ShiftsVar
import Derived.Laws.OwnMore
import Derived.Laws.ResultCell
import Derived.DeepKeys
import Derived.Deep.RegionHeld3
import Derived.Deep.MidRow

section
set_option linter.unusedSimpArgs false
set_option linter.unusedVariables false
namespace Go.Proofs.YtbkefhoapnaciaaGreat.wals
open Go.RowKit Go.My disks bufs
set_option maxRecDepth 100000

theorem made_bytes (w : World) (n : Nat) (hn : n < 100) : ∃ w', (Instr.makeSlice 76 (.int .i64 (n : Int)) (.int .i64 (n : Int))).run Tryz.prog w = .ok (.slice (some ⟨w.heap.size, 0, none⟩) n n) w' ∧
    w'.ownsRow w.heap.size 5 1 (.slice (some ⟨w.heap.size, 0, none⟩) n n) n (cellsB (zeros n)) ∧ Chg (fun _ => False) w w' := by
  obtain ⟨i, hi, hz, hsz, hby⟩ := u8_parts
  obtain ⟨w', h1, h2, h3⟩ := run_makeSlice_full (P := Tryz.prog) w w.heap.size 76 5 i (.int .u8 0) 1 Tryz.underlying76 hi hz hsz .i64 .i64 n (by omega) (by rw [hby]; omega) (by unfold maxLen; omega) (Nat.le_refl _)
  refine ⟨w', h1, ?_, (Chg.of_grown h3).mono (fun i _ h => by cases h)⟩
  have : (madeCells (Value.int .u8 0).cells (n * 1)).toList = cellsB (zeros n) := by
    rw [show (Value.int IntKind.u8 0).cells = #[.int .u8 0] from rfl, toList_madeCells_one]
    simp [cellsB, zeros]
  rwa [this] at h2

/-- What stands when the lowest i bytes are laid. -/
def fixL (k v i : Nat) : Blk := zeros (k - i) ++ (be k v).drop (k - i)
theorem fixL_zero (k v : Nat) : fixL k v 0 = zeros k := by
  unfold fixL
  rw [Nat.sub_zero, List.drop_eq_nil_of_le (by rw [be_length]; exact Nat.le_refl _), List.append_nil]
theorem fixL_all (k v : Nat) : fixL k v k = be k v := by unfold fixL; simp [zeros]
theorem fixL_length (k v i : Nat) : (fixL k v i).length = k := by
  unfold fixL
  rw [List.length_append, List.length_drop, be_length]
  simp only [zeros, List.length_replicate]
  omega
theorem fixL_set (k v i : Nat) (h : i < k) : (fixL k v i).set (k - 1 - i) (UInt8.ofNat (v / 256 ^ i)) = fixL k v (i + 1) := by
  apply List.ext_getElem?
  intro j
  rw [List.getElem?_set]
  unfold fixL
  by_cases hj : k - 1 - i = j
  · subst hj
    rw [if_pos rfl, if_pos (by simp [zeros, be_length]; omega), List.getElem?_append_right (by simp [zeros]; omega), List.getElem?_drop]
    have hb := be_get k v (k - 1 - i) (by omega)
    rw [show k - 1 - (k - 1 - i) = i by omega] at hb
    rw [← hb]
    congr 1
    simp [zeros]; omega
  · rw [if_neg hj]
    by_cases h1 : j < k - 1 - i
    · rw [List.getElem?_append_left (by simp [zeros]; omega), List.getElem?_append_left (by simp [zeros]; omega)]
      unfold zeros
      rw [List.getElem?_replicate, List.getElem?_replicate, if_pos (by omega), if_pos (by omega)]
    · rw [List.getElem?_append_right (by simp [zeros]; omega), List.getElem?_append_right (by simp [zeros]; omega), List.getElem?_drop, List.getElem?_drop]
      congr 1
      simp [zeros]; omega

theorem cellsB_set (l : Blk) (j : Nat) (x : UInt8) : (cellsB l).set j (.int .u8 (x.toNat : Int)) = cellsB (l.set j x) := by simp [cellsB, List.map_set]

theorem fix_store {w : World} {base g cap k v i : Nat} (h : w.ownsRow base 5 1 (.slice (some ⟨g, 0, none⟩) k cap) k (cellsB (fixL k v i))) (hi : i < k) (z : Int) (hz : z = ((v / 256 ^ i % 256 : Nat) : Int)) :
    (w.setCell ⟨g, k - 1 - i, none⟩ (.int .u8 z)).ownsRow base 5 1 (.slice (some ⟨g, 0, none⟩) k cap) k (cellsB (fixL k v (i + 1))) := by
  have h1 := (h.stored (k - 1 - i) (.int .u8 z)).1
  have e : z = ((UInt8.ofNat (v / 256 ^ i)).toNat : Int) := by rw [hz, UInt8.toNat_ofNat']
  rw [e, cellsB_set, fixL_set k v i hi] at h1
  rw [e]
  exact h1


set_option maxHeartbeats 1000000 in
theorem fixed_any (w : World) (k v : Nat) (hk : k = 4 ∨ k = 8) (hv : v < 256 ^ k) :
    Calls Tryz.prog 91 #[.int .u64 (v : Int), .int .i64 (k : Int)] w fun e w' => ∃ s, e = .returned (.tuple #[s, .int .i64 0]) ∧ w'.ownsRow w.heap.size 5 1 s k (cellsB (be k v)) ∧ Chg (fun _ => False) w w' := by
  have hv64 : v < 18446744073709551616 := by
    rcases hk with rfl | rfl
    · have : (256 : Nat) ^ 4 = 4294967296 := rfl
      omega
    · have : (256 : Nat) ^ 8 = 18446744073709551616 := rfl
      omega
  obtain ⟨w1, hm, ho, hc⟩ := made_bytes w k (by omega)
  have HM := Lib.hid hm
  have HO := Lib.hid ho
  have HC := Lib.hid hc
  have HV := Lib.hid hv
  have HK := Lib.hid hk
  clear hm ho hc hv
  rcases hk with rfl | rfl
  · have hv4 : ((v : Int) / 4294967296 != 0) = false := by
      have h1 := HV.out
      have h2 : (256 : Nat) ^ 4 = 4294967296 := rfl
      have : (v : Int) / 4294967296 = 0 := by omega
      rw [this]; rfl
    go_enter Tryz.func91, Tryz.ntmps91
    go_wp2_with fail
    rw [show (Instr.makeSlice 76 (.int .i64 4) (.int .i64 4)).run Tryz.prog w = .ok (.slice (some ⟨w.heap.size, 0, none⟩) 4 4) w1 from HM.out]
    simp only [Result.andThen]
    rw [Oper.upon_value]
    go_wp2_with fail
    go_loopw [27] (fun j w' => ∃ i : Nat, j = .int .i64 i ∧ i ≤ 4 ∧ w'.ownsRow w.heap.size 5 1 (.slice (some ⟨w.heap.size, 0, none⟩) 4 4) 4 (cellsB (fixL 4 v i)) ∧ Chg (fun _ => False) w w') (fun j _ => 4 - (intOf j).toNat)
    · exact ⟨0, rfl, by omega, by rw [fixL_zero]; exact HO.out, HC.out⟩
    obtain ⟨i, rfl, hi, ho, hc⟩ := hrel
    have HO1 := Lib.hid ho
    have HC1 := Lib.hid hc
    clear ho hc
    by_cases hlt : i < 4
    · obtain ⟨x0, c0, c1⟩ : ∃ x0, wr.cell? ⟨w.heap.size, 4 - 1 - i, none⟩ = some x0 ∧ wr.frozen? ⟨w.heap.size, 4 - 1 - i, none⟩ = false := by
        obtain ⟨hx, c0, c1, -, -⟩ := own_cell HO1.out (k := 4 - 1 - i) (by omega)
        exact ⟨_, c0, c1⟩
      have hall : i = 0 ∨ i = 1 ∨ i = 2 ∨ i = 3 := by omega
      rcases hall with rfl | rfl | rfl | rfl
      all_goals simp only [Nat.reduceSub, Nat.sub_zero] at c0 c1
      all_goals go_wp2_with fail
      all_goals exact ⟨⟨_, by go_num, by omega, fix_store HO1.out (by omega) _ (by simp; try omega), HC1.out.setCell (fun h => absurd h (Nat.lt_irrefl _)) _⟩, by simp [intOf]⟩
    · go_wp2_with fail
      go_ret2
      obtain rfl : i = 4 := by omega
      have h1 := HO1.out
      rw [fixL_all] at h1
      exact ⟨_, rfl, h1, HC1.out⟩
  · go_enter Tryz.func91, Tryz.ntmps91
    go_wp2_with fail
    rw [show (Instr.makeSlice 76 (.int .i64 8) (.int .i64 8)).run Tryz.prog w = .ok (.slice (some ⟨w.heap.size, 0, none⟩) 8 8) w1 from HM.out]
    simp only [Result.andThen]
    rw [Oper.upon_value]
    go_wp2_with fail
    go_loopw [27] (fun j w' => ∃ i : Nat, j = .int .i64 i ∧ i ≤ 8 ∧ w'.ownsRow w.heap.size 5 1 (.slice (some ⟨w.heap.size, 0, none⟩) 8 8) 8 (cellsB (fixL 8 v i)) ∧ Chg (fun _ => False) w w') (fun j _ => 8 - (intOf j).toNat)
    · exact ⟨0, rfl, by omega, by rw [fixL_zero]; exact HO.out, HC.out⟩
    obtain ⟨i, rfl, hi, ho, hc⟩ := hrel
    have HO1 := Lib.hid ho
    have HC1 := Lib.hid hc
    clear ho hc
    by_cases hlt : i < 8
    · obtain ⟨x0, c0, c1⟩ : ∃ x0, wr.cell? ⟨w.heap.size, 8 - 1 - i, none⟩ = some x0 ∧ wr.frozen? ⟨w.heap.size, 8 - 1 - i, none⟩ = false := by
        obtain ⟨hx, c0, c1, -, -⟩ := own_cell HO1.out (k := 8 - 1 - i) (by omega)
        exact ⟨_, c0, c1⟩
      have hall : i = 0 ∨ i = 1 ∨ i = 2 ∨ i = 3 ∨ i = 4 ∨ i = 5 ∨ i = 6 ∨ i = 7 := by omega
      rcases hall with rfl | rfl | rfl | rfl | rfl | rfl | rfl | rfl
      all_goals simp only [Nat.reduceSub, Nat.sub_zero] at c0 c1
      all_goals go_wp2_with fail
      all_goals exact ⟨⟨_, by go_num, by omega, fix_store HO1.out (by omega) _ (by simp; try omega), HC1.out.setCell (fun h => absurd h (Nat.lt_irrefl _)) _⟩, by simp [intOf]⟩
    · go_wp2_with fail
      go_ret2
      obtain rfl : i = 8 := by omega
      have h1 := HO1.out
      rw [fixL_all] at h1
      exact ⟨_, rfl, h1, HC1.out⟩

set_option maxHeartbeats 1000000 in
theorem readFixed_any (w : World) (k : Nat) (hk : k = 4 ∨ k = 8) (oa : Option Addr) (n cap : Nat) (bs : Blk) (h : SlAt w (.slice oa n cap) (cellsB bs)) (hn : bs.length = k) :
    Calls Tryz.prog 80 #[.slice oa n cap, .int .i64 (k : Int)] w fun e w' => e = .returned (.tuple #[.int .u64 (ofBe bs : Int), .int .i64 0]) ∧ w = w' := by
  obtain rfl := slat_len h
  have HS := Lib.hid h
  have HN := Lib.hid hn
  have HK := Lib.hid hk
  have hk8 : k ≤ 8 := by omega
  have hk1 : 1 ≤ k := by omega
  rw [hn]
  clear h hk
  go_enter Tryz.func80, Tryz.ntmps80
  go_wp2_with fail
  go_loop [6, 19] (fun v i => ∃ m : Nat, m ≤ k ∧ i = .int .i64 m ∧ v = .int .u64 (ofBe (bs.take m) : Int)) (fun _ i => k - (intOf i).toNat)
  case atStart => exact ⟨0, Nat.zero_le _, rfl, rfl⟩
  case round =>
    obtain ⟨m, hm, rfl, rfl⟩ := hrel
    by_cases hlt : m < k
    · have hlt' : (m : Int) < (k : Int) := by omega
      obtain ⟨x, hx⟩ : ∃ x, bs[m]? = some x := ⟨bs[m]'(by have := HN.out; omega), List.getElem?_eq_getElem _⟩
      obtain ⟨b, off, hoa, hcell⟩ : ∃ b off, oa = some ⟨b, off, none⟩ ∧ w.cell? ⟨b, off + m, none⟩ = some (.int .u8 (x.toNat : Int)) := by
        obtain ⟨b, off, rfl, -, hcell⟩ := HS.out.cell (k := m) (by rw [cellsB_length]; have := HN.out; omega)
        refine ⟨b, off, rfl, ?_⟩
        rw [hcell]
        have : (cellsB bs)[m]? = some (.int .u8 (x.toNat : Int)) := by simp [cellsB, hx]
        rwa [List.getElem?_eq_getElem (by rw [cellsB_length]; have := HN.out; omega)] at this
      subst hoa
      obtain ⟨v, hv⟩ : ∃ v, ofBe (bs.take m) = v := ⟨_, rfl⟩
      have htk : ofBe (bs.take (m + 1)) = v * 256 + x.toNat := by
        rw [List.take_add_one, hx, Option.toList_some, ofBe_snoc, hv]
      have hv7 : v < 72057594037927936 := by
        rw [← hv]
        have h1 := ofBe_lt (bs.take m)
        have h2 : (256 : Nat) ^ (bs.take m).length ≤ 256 ^ 7 := Nat.pow_le_pow_right (by omega) (by rw [List.length_take]; omega)
        have h3 : (256 : Nat) ^ 7 = 72057594037927936 := rfl
        omega
      have hxl := x.toNat_lt
      have hor : bits .or .u64 ((v : Int) * 256) (x.toNat : Int) = ((v * 256 + x.toNat : Nat) : Int) := by
        have h1 := u64_or_nat (v * 256) x.toNat (by omega) (by omega)
        rw [show ((v * 256 : Nat) : Int) = (v : Int) * 256 by omega] at h1
        rw [h1]
        have h2 := Nat.shiftLeft_add_eq_or_of_lt (i := 8) (show x.toNat < 2 ^ 8 by omega) v
        rw [Nat.shiftLeft_eq] at h2
        rw [← h2]
      have HTK := Lib.hid htk
      have HOR := Lib.hid hor
      rw [hv]
      clear hv htk hx hor
      go_wp2_with fail
      exact ⟨⟨m + 1, by omega, by go_num, by rw [HOR.out, HTK.out]⟩, by simp [intOf]; omega⟩
    · go_wp2_with fail
      go_ret2
      obtain rfl : m = k := by omega
      rw [List.take_of_length_le (by have := HN.out; omega)]
      exact ⟨rfl, rfl⟩

end Go.Proofs.YtbkefhoapnaciaaGreat.wals
end

/-
  blocks known whole: a row of values in a block of their own; read, written.
-/
section
set_option linter.unusedSimpArgs false
set_option linter.unusedVariables false
namespace Go.Proofs.YtbkefhoapnaciaaGreat.bufs
open Go.RowKit Go.My disks
set_option maxRecDepth 100000

variable {w w' : World}

def Arr (w : World) (b : Nat) (t : TypeId) (l : List Value) : Prop := w.heap[b]? = some (.cells l.toArray t (0, 0))

theorem Arr.kept {b : Nat} {t : TypeId} {l : List Value} (h : Arr w b t l) {S : Nat → Prop} (hc : Chg S w w') (hn : ¬ S b) : Arr w' b t l := hc.at h hn
theorem Arr.lt {b : Nat} {t : TypeId} {l : List Value} (h : Arr w b t l) : b < w.heap.size := lt_of_block h

theorem Arr.range {b : Nat} {t : TypeId} {l : List Value} (h : Arr w b t l) : w.rangeAt b 0 l := by
  intro j x hx
  rw [Nat.zero_add]
  exact cell_of_block h (by simpa using hx)

theorem Arr.there {b : Nat} {t : TypeId} {l : List Value} (h : Arr w b t l) : w.there b 0 l.length := by
  intro j hj
  refine ⟨?_, free_of_block h⟩
  rw [h.range j l[j] (List.getElem?_eq_getElem hj)]; rfl

theorem Arr.set {b : Nat} {t : TypeId} {l : List Value} (h : Arr w b t l) (k : Nat) (v : Value) : Arr (w.setCell ⟨b, k, none⟩ v) b t (l.set k v) := by
  have := block_setCell (i := k) (v := v) h
  simpa [Arr] using this

theorem arr_setCells {b : Nat} {t : TypeId} : ∀ (vs : List Value) (o : Nat) (w : World) (l : List Value), Arr w b t l → o + vs.length ≤ l.length → Arr (w.setCells b o vs) b t (l.take o ++ vs ++ l.drop (o + vs.length))
  | [], o, w, l, h, _ => by simpa [World.setCells] using h
  | v :: r, o, w, l, h, hl => by
    simp only [List.length_cons] at hl
    have h1 := arr_setCells r (o + 1) _ _ (h.set o v) (by rw [List.length_set]; omega)
    have e : (l.set o v).take (o + 1) ++ r ++ (l.set o v).drop (o + 1 + r.length) = l.take o ++ (v :: r) ++ l.drop (o + (v :: r).length) := by
      have e1 : (l.set o v).take (o + 1) = l.take o ++ [v] := by
        rw [List.take_set, List.take_add_one, List.getElem?_eq_getElem (by omega), Option.toList_some, List.set_append_right _ _ (by rw [List.length_take]; omega)]
        have : (l.take o).length = o := by rw [List.length_take]; omega
        rw [this, Nat.sub_self]; rfl
      rw [e1, List.drop_set_of_lt (by omega)]
      simp [Nat.add_assoc, Nat.add_comm 1]
    rw [e] at h1
    exact h1

theorem Arr.all {b : Nat} {t : TypeId} {l vs : List Value} (h : Arr w b t l) (hl : vs.length = l.length) : Arr (w.setCells b 0 vs) b t vs := by
  have h1 := arr_setCells vs 0 w l h (by omega)
  rw [Nat.zero_add, List.take_zero, List.nil_append, List.drop_eq_nil_of_le (by omega), List.append_nil] at h1
  exact h1


theorem Arr.cell {b i : Nat} {t : TypeId} {l : List Value} {v : Value} (h : Arr w b t l) (hv : l[i]? = some v) : w.cell? ⟨b, i, none⟩ = some v := cell_of_block h (by simpa using hv)
theorem Arr.free {b i : Nat} {t : TypeId} {l : List Value} (h : Arr w b t l) : w.frozen? ⟨b, i, none⟩ = false := free_of_block h
theorem Arr.new (w : World) (cs : Array Value) (t : TypeId) : Arr (w.alloc (.cells cs t)) w.heap.size t cs.toList := by unfold Arr; rw [block_alloc_new]

theorem result1 {P : Program} {fn : Func} {p : Tmp} {t : TypeId} (h : fn.results = #[.cell p t]) (tmps : Array Value) {g : Nat} (hp : tmps.getD p undef = .pointer (some ⟨g, 0, none⟩))
    {v : Value} (h1 : (loadVar t ⟨g, 0, none⟩).run P w = .ok v w) : (results fn tmps).run P w = .ok v w := by
  have hp' : tmps[p]?.getD undef = .pointer (some ⟨g, 0, none⟩) := by simpa using hp
  simp [results, h, hp', asAddr, h1]

theorem own_range {base n : Nat} {e : TypeId} {g cap : Nat} {xs : List Value} (h : w.ownsRow base e 1 (.slice (some ⟨g, 0, none⟩) n cap) n xs) : w.rangeAt g 0 xs := by
  intro j v hv
  have h1 := h.cells (g := g) rfl j v hv
  have : (⟨g, 0, none⟩ : Addr).add j = ⟨g, 0 + j, none⟩ := by unfold Addr.add; split <;> simp_all
  rwa [this] at h1

theorem own_nonnil {base n : Nat} {v : Value} {xs : Blk} (h : w.ownsRow base 5 1 v n (cellsB xs)) (hne : xs ≠ []) : ∃ g cap, v = .slice (some ⟨g, 0, none⟩) xs.length cap ∧ base ≤ g ∧ g < w.heap.size := by
  obtain rfl := own_len h
  rcases h.2 with ⟨rfl, h0⟩ | ⟨g, cap, cur, rfl, hb, hg, _⟩
  · exact absurd (List.eq_nil_of_length_eq_zero h0) hne
  · exact ⟨g, cap, rfl, hb, lt_of_block hg⟩

theorem at1 {A : Obj} : (w.alloc A).heap[w.heap.size]? = some A := block_alloc_new w A
theorem at2_0 {A B : Obj} : ((w.alloc A).alloc B).heap[w.heap.size]? = some A := (Below.heap_alloc _ _ _ (by rw [World.size_alloc]; omega)).trans at1
theorem at2_1 {A B : Obj} : ((w.alloc A).alloc B).heap[w.heap.size + 1]? = some B := by have := at1 (w := w.alloc A) (A := B); rwa [World.size_alloc] at this
theorem at3_0 {A B C : Obj} : (((w.alloc A).alloc B).alloc C).heap[w.heap.size]? = some A := (Below.heap_alloc _ _ _ (by rw [World.size_alloc, World.size_alloc]; omega)).trans at2_0
theorem at3_1 {A B C : Obj} : (((w.alloc A).alloc B).alloc C).heap[w.heap.size + 1]? = some B := (Below.heap_alloc _ _ _ (by rw [World.size_alloc, World.size_alloc]; omega)).trans at2_1
theorem at3_2 {A B C : Obj} : (((w.alloc A).alloc B).alloc C).heap[w.heap.size + 1 + 1]? = some C := by have := at1 (w := (w.alloc A).alloc B) (A := C); rwa [World.size_alloc, World.size_alloc] at this
theorem chg3 {A B C : Obj} : Chg (fun _ => False) w (((w.alloc A).alloc B).alloc C) := (((Chg.refl _ _).alloc _).alloc _).alloc _
theorem chg2 {A B : Obj} : Chg (fun _ => False) w ((w.alloc A).alloc B) := ((Chg.refl _ _).alloc _).alloc _

theorem own_of_block {base n g : Nat} {e : TypeId} {cur : Array Value} (hb : w.heap[g]? = some (.cells cur e (0, 0))) (hg : base ≤ g) (hn : cur.size = n) (hm : n ≤ maxLen) : w.ownsRow base e 1 (.slice (some ⟨g, 0, none⟩) n n) n cur.toList :=
  ⟨by simp [hn], .inr ⟨g, n, cur, rfl, hg, hb, Nat.le_refl _, hm, by omega, by rw [List.take_of_length_le (by simp [hn])]⟩⟩

theorem own_lower {base base' n : Nat} {v : Value} {e : TypeId} {xs : List Value} (h : w.ownsRow base e 1 v n xs) (hb : base' ≤ base) : w.ownsRow base' e 1 v n xs := by
  refine ⟨h.1, ?_⟩
  rcases h.2 with h2 | ⟨g, cap, cur, h1, h2, h3⟩
  · exact Or.inl h2
  · exact Or.inr ⟨g, cap, cur, h1, Nat.le_trans hb h2, h3⟩

/-- An append of bytes, and what it changes: blocks from the own slice's base on. -/
theorem append_step {base n : Nat} {v : Value} {xs ys : Blk} {oa : Option Addr} {m cap : Nat} (h : w.ownsRow base 5 1 v n (cellsB xs)) (hs : SlAt w (.slice oa m cap) (cellsB ys)) (hb : base ≤ w.heap.size) (hl : xs.length + ys.length ≤ 140737488355328) (ty : TypeId) :
    ∃ v' w', (Builtin.append_ #[76, 76] ty #[v, .slice oa m cap]).run Tryz.prog w = .ok v' w' ∧ w'.ownsRow base 5 1 v' (xs ++ ys).length (cellsB (xs ++ ys)) ∧ Chg (fun k => base ≤ k) w w' := by
  obtain ⟨v', w', h1, h2, h3, -⟩ := append_bytes h hs hb hl ty
  exact ⟨v', w', h1, h2, (Chg.of_grown h3).mono (fun k _ hk => (h.lt k hk.symm).1)⟩

theorem zeros_step {base n : Nat} {v : Value} {xs : Blk} {k : Nat} (h : w.ownsRow base 5 1 v n (cellsB xs)) (hne : xs ≠ []) (hb : base ≤ w.heap.size) (hk : 0 < k) (hl : xs.length + k ≤ 140737488355328) (ty : TypeId) :
    ∃ v' w', (Builtin.append_ #[76, 3] ty #[v, .int .i64 (k : Int)]).run Tryz.prog w = .ok v' w' ∧ w'.ownsRow base 5 1 v' (xs ++ List.replicate k 0).length (cellsB (xs ++ List.replicate k 0)) ∧ Chg (fun k => base ≤ k) w w' := by
  obtain ⟨v', w', h1, h2, h3, -⟩ := append_zeros h hne hb hk hl ty
  exact ⟨v', w', h1, h2, (Chg.of_grown h3).mono (fun k _ hk => (h.lt k hk.symm).1)⟩

theorem slat_but {v : Value} {xs : List Value} {S : Nat → Prop} (h : SlAt w v xs) (hc : Chg S w w') (hs : ∀ g, v.ownBlock = some g → ¬ S g) : SlAt w' v xs := by
  obtain ⟨oa, cap, rfl, h2, h3⟩ := h
  refine ⟨oa, cap, rfl, h2, fun b off ho i x hx => hc.cell (h3 b off ho i x hx) ?_⟩
  subst ho
  exact hs b rfl

theorem grown_chg {row : Option Nat} (h : w.grownBy w' row) {B : Nat} (hr : ∀ g, row = some g → B ≤ g) : Chg (fun k => B ≤ k) w w' := (Chg.of_grown h).mono (fun k _ e => hr k e.symm)

theorem result_cell_tmp {P : Program} {fn : Func} {p u : Tmp} {ty : TypeId} (h : fn.results = #[.cell p ty, .tmp u]) (tmps : Array Value) {g : Nat} (hp : tmps.getD p undef = .pointer (some ⟨g, 0, none⟩))
    {v x : Value} (hv : (loadVar ty ⟨g, 0, none⟩).run P w = .ok v w) (hx : tmps.getD u undef = x) : (results fn tmps).run P w = .ok (.tuple #[v, x]) w := by
  rw [results_cell_tmp h, hp, hx]
  simp [asAddr, hv, Result.andThen_ok]

/-- A value of many cells is stored into a block that holds nothing else. -/
structure Stored (w w' : World) (g : Nat) (t : TypeId) (vs : List Value) : Prop where
  arr : Arr w' g t vs
  chg : Chg (· = g) w w'

theorem Arr.store {b : Nat} {t : TypeId} {l vs : List Value} (h : Arr w b t l) (hl : vs.length = l.length) : Stored w (w.setCells b 0 vs) b t vs := ⟨h.all hl, chg_setCells b vs 0 w⟩

theorem Arr.load {P : Program} {b : Nat} {t : TypeId} {l : List Value} {d : TypeDesc} (h : Arr w b t l) (hu : P.underlying t = some d) (hd : d.isRow = true) (hi : (P.info? t).map (·.size) = some l.length) : (loadVar t ⟨b, 0, none⟩).run P w = .ok (.agg l.toArray) w :=
  run_loadVar_mid (P := P) w b 0 t l d h.range hu hd hi

/-- A new block's world under a name. -/
theorem wp_forget {P : Program} {c : Code} {Q : Exit → Act → World → Prop} {a : Act} (wr : World) (t : TypeId) (zs : List Value) (h : ∀ wz, Arr wz wr.heap.size t zs → Chg (fun _ => False) wr wz → Code.wp P c Q a wz) : Code.wp P c Q a (wr.alloc (.cells zs.toArray t)) :=
  h _ at1 ((Chg.refl _ _).alloc _)

theorem oper_copy {P : Program} {o : Oper} {a : Act} {w w' : World} {K : Act → World → Prop} {Q : Exit → Act → World → Prop} (s x : Operand) (t u : TypeId)
    (ho : o.op = .call { callee := .builtin .copy, args := #[s, x], argTypes := #[t, u] }) {v sv xv : Value} (hs : a.eval s = sv) (hx : a.eval x = xv)
    (hr : (Builtin.copy_ #[t, u] o.type #[sv, xv]).run P w = .ok v w') (h : K (a.put o.dst v) w') : Oper.wp P o a w K Q := by
  unfold Oper.wp execOp
  simp only [ho, resolve, invoke, builtin, Sem.run_bind, Sem.run_pure, Result.andThen_ok, List.map_toArray, List.map_cons, List.map_nil, hs, hx, hr]
  exact h

end Go.Proofs.YtbkefhoapnaciaaGreat.bufs
end

/-
  wal: a head's block; the walk.
-/
section
set_option linter.unusedSimpArgs false
set_option linter.unusedVariables false
namespace Go.Proofs.YtbkefhoapnaciaaGreat.wals
open Go.RowKit Go.My disks bufs
set_option maxRecDepth 100000

theorem size_wblock : (Tryz.prog.info? 120).map (·.size) = some 64 := by kernel_rfl

theorem headPre_eq (s a u : Nat) : headPre s a u = (([86, 72, UInt8.ofNat a, 0] ++ be 8 s) ++ be 4 u) ++ List.replicate 44 0 := rfl

set_option maxHeartbeats 2000000 in
theorem bytes_any (w : World) (s a u : Nat) (hs : s < 9223372036854775808) (ha : a < 256) (hu : u < 4294967296) :
    Calls Tryz.prog 81 #[.agg #[.int .i64 s, .int .i64 a, .int .i64 u]] w fun e w' => e = .returned (.agg (cellsB (headB s a u)).toArray) ∧ Chg (fun _ => False) w w' := by
  have HF1 := fun w' => Lib.hid (fixed_any w' 8 s (Or.inr rfl) (by have : (256 : Nat) ^ 8 = 18446744073709551616 := rfl; omega))
  have HF2 := fun w' => Lib.hid (fixed_any w' 4 u (Or.inl rfl) (by have : (256 : Nat) ^ 4 = 4294967296 := rfl; omega))
  have hs' : (s : Int) % 18446744073709551616 = (s : Int) := by omega
  have hu' : (u : Int) % 18446744073709551616 = (u : Int) := by omega
  have ha' : (a : Int) % 256 = (a : Int) := by omega
  have HAa := Lib.hid ha
  clear hs ha hu
  go_enter Tryz.func81, Tryz.ntmps81
  go_wp2_with (first
    | (go_at_call 91; fail))
  refine (HF1 _).out.mono ?_
  rintro e w1 ⟨s1, rfl, ho1, hc1⟩
  have HA := Lib.hid (show Arr w1 w.heap.size 117 [.int .i64 s, .int .i64 a, .int .i64 u] from hc1.at at3_0 id)
  obtain ⟨zs, hzs, hB⟩ : ∃ zs : List Value, zs.length = 64 ∧ Arr w1 (w.heap.size + 1) 120 zs := ⟨_, rfl, hc1.at at3_1 id⟩
  have hC := hc1.at at3_2 id
  have hO : w1.ownsRow (w.heap.size + 1 + 1) 5 1 (.slice (some ⟨w.heap.size + 1 + 1, 0, none⟩) 4 4) 4 (cellsB [86, 72, UInt8.ofNat a, 0]) := by
    have h1 := own_of_block (n := 4) hC (Nat.le_refl _) rfl (by unfold maxLen; omega)
    have h2 : cellsB [86, 72, UInt8.ofNat a, 0] = [.int .u8 86, .int .u8 72, .int .u8 (a : Int), .int .u8 0] := by
      simp only [cellsB, List.map_cons, List.map_nil, ofNat_toNat, ha']
      rfl
    rw [h2]; exact h1
  have HO := Lib.hid hO
  have HB := Lib.hid hB
  have HZ := Lib.hid hzs
  have HC1 := Lib.hid (show Chg (fun _ => False) w w1 from chg3.trans' hc1)
  have HO1 := Lib.hid (own_lower ho1 (Nat.zero_le _))
  have HSz := Lib.hid (show w.heap.size + 1 + 1 < w1.heap.size from lt_of_block hC)
  clear hC hO hB hzs ho1 hc1 HF1
  dsimp only
  have a2 := HA.out.cell (i := 2) rfl
  go_wp2_with (first
    | (go_at_call 91; fail))
  refine (HF2 _).out.mono ?_
  rintro e w2 ⟨s2, rfl, ho2, hc2⟩
  clear a2 HF2
  obtain ⟨oa1, cap1, rfl⟩ := own_slice HO1.out
  obtain ⟨oa2, cap2, rfl⟩ := own_slice ho2
  have hsz := HSz.out
  have hsz2 := hc2.size
  -- the first append
  obtain ⟨v3, w3, hr3, ho3, hg3, hv3⟩ := append_bytes (own_kept HO.out hc2) (SlAt.of_own (own_kept HO1.out hc2)) (by omega) (by rw [be_length]; simp) 76
  have hs2 : SlAt w3 (.slice oa2 4 cap2) (cellsB (be 4 u)) := slat_but (SlAt.of_own ho2) (Chg.of_grown hg3) (fun g hg e => by
    have h1 := (ho2.lt g hg).1
    simp only [Value.ownBlock, Option.some.injEq] at e
    omega)
  have hsz3 := hg3.size
  -- the second one
  obtain ⟨v4, w4, hr4, ho4, hg4, -⟩ := append_bytes ho3 hs2 (by omega) (by simp [be_length]) 76
  have hsz4 := hg4.size
  obtain ⟨v5, w5, hr5, ho5, hg5⟩ := zeros_step (k := 44) ho4 (by simp) (by omega) (by omega) (by simp [be_length]) 76
  rw [show ([86, 72, UInt8.ofNat a, 0] ++ be 8 s ++ be 4 u) ++ List.replicate 44 0 = headPre s a u from rfl] at ho5
  have hl4 : ([86, 72, UInt8.ofNat a, 0] ++ be 8 s ++ be 4 u).length = 16 := by simp [be_length]
  have h35 : Chg (fun k => w.heap.size + 1 + 1 ≤ k) w2 w5 := ((grown_chg hg3 (fun g hg => by simp only [Value.ownBlock, Option.some.injEq] at hg; omega)).trans' (grown_chg hg4 (fun g hg => (ho3.lt g hg).1))).trans' hg5
  have HA5 := Lib.hid (h35.at (hc2.at HA.out id) (by omega))
  have HB5 := Lib.hid (show Arr w5 (w.heap.size + 1) 120 zs from h35.at (hc2.at HB.out id) (by omega))
  have HC5 := Lib.hid (show Chg (fun _ => False) w w5 from (HC1.out.trans' hc2).new h35 (fun i hi => by omega))
  have HSz5 := Lib.hid (show w.heap.size + 1 + 1 < w5.heap.size from by have := h35.size; omega)
  obtain ⟨oa4, cap4, e4⟩ := own_slice ho4
  rw [hl4] at e4
  subst e4
  obtain ⟨g5, cap5, e5, hg5b, -⟩ := own_nonnil ho5 (by simp [headPre])
  rw [headPre_length] at e5 ho5
  subst e5
  have HR3 := Lib.hid hr3
  have HR4 := Lib.hid hr4
  have HR5 := Lib.hid (show (Builtin.append_ #[76, 3] 76 #[.slice oa4 16 cap4, .int .i64 44]).run Tryz.prog w4 = _ from hr5)
  have HO5 := Lib.hid ho5
  obtain ⟨c, hc⟩ : ∃ c, crcF (headPre s a u) = c := ⟨_, rfl⟩
  have hc32 : c < 4294967296 := by rw [← hc]; exact crcF_lt _
  have hsum := sum_any w5 _ _ _ (headPre s a u) (SlAt.of_own ho5) (by rw [headPre_length]; omega)
  rw [hc] at hsum
  have HSum := Lib.hid hsum
  have hhead : headB s a u = headPre s a u ++ le4 c := by unfold headB; rw [hc]
  have HHead := Lib.hid hhead
  -- the sum's four bytes, in a block of their own
  have e4 : cellsB (le4 c) = [.int .u8 ((c : Int) % 256), .int .u8 ((c : Int) / 256 % 256), .int .u8 ((c : Int) / 65536 % 256), .int .u8 ((c : Int) / 16777216 % 256)] := by
    simp only [le4, cellsB, List.map_cons, List.map_nil, ofNat_toNat, Int.natCast_ediv]
    rfl
  have h6 : Chg (fun _ => False) w5 (w5.alloc (.cells #[.int .u8 ((c : Int) % 256), .int .u8 ((c : Int) / 256 % 256), .int .u8 ((c : Int) / 65536 % 256), .int .u8 ((c : Int) / 16777216 % 256)] 5)) := (Chg.refl _ _).alloc _
  have hs6 : SlAt (w5.alloc (.cells #[.int .u8 ((c : Int) % 256), .int .u8 ((c : Int) / 256 % 256), .int .u8 ((c : Int) / 65536 % 256), .int .u8 ((c : Int) / 16777216 % 256)] 5)) (.slice (some ⟨w5.heap.size, 0, none⟩) 4 4) (cellsB (le4 c)) := by
    rw [e4]
    exact SlAt.of_own (own_of_block (base := 0) (n := 4) at1 (Nat.zero_le _) rfl (by unfold maxLen; omega))
  obtain ⟨v7, w7, hr7, ho7, hg7, -⟩ := append_bytes (own_kept ho5 h6) hs6 (by rw [World.size_alloc]; have := HSz5.out; omega) (by simp [headPre_length, le4_length]) 76
  rw [← hhead] at ho7
  obtain ⟨g7, cap7, e7, hg7b, -⟩ := own_nonnil ho7 (by intro e; have := congrArg List.length e; rw [headB_length] at this; simp at this)
  rw [headB_length] at e7 ho7
  subst e7
  have hcap7 : 64 ≤ cap7 := by
    rcases ho7.2 with ⟨h, _⟩ | ⟨_, _, _, h, _, _, h7, _⟩
    · cases h
    · cases h; exact h7
  have h57 : Chg (fun k => w.heap.size + 1 + 1 ≤ k) w5 w7 := (h6.mono (fun _ _ h => h.elim)).trans' (grown_chg hg7 (fun g hg => by simp only [Value.ownBlock, Option.some.injEq] at hg; omega))
  have hrng : w7.rangeAt g7 0 (cellsB (headB s a u)) := own_range ho7
  have hB7 : Arr w7 (w.heap.size + 1) 120 zs := h57.at HB5.out (by omega)
  have HR7 := Lib.hid hr7
  have HRng := Lib.hid hrng
  have HB7 := Lib.hid hB7
  have HC7 := Lib.hid (HC5.out.new h57 (fun i hi => by omega))
  have HThere : Hid (w7.there (w.heap.size + 1) 0 (cellsB (headB s a u)).toArray.size) := Lib.hid (by have := hB7.there; rwa [HZ.out, show 64 = (cellsB (headB s a u)).toArray.size by simp [cellsB_length, headB_length]] at this)
  have HSz7 : Hid ((Tryz.prog.info? 120).map (·.size) = some (cellsB (headB s a u)).toArray.size) := Lib.hid (by rw [size_wblock]; simp [cellsB_length, headB_length])
  have HSzl : Hid ((Tryz.prog.info? 120).map (·.size) = some (cellsB (headB s a u)).length) := Lib.hid (by rw [size_wblock]; simp [cellsB_length, headB_length])
  have hsa : ∀ w', (Instr.arrayAt 120 (.slice (some ⟨g7, 0, none⟩) 64 cap7)).run Tryz.prog w' = .ok (.pointer (some ⟨g7, 0, none⟩)) w' := fun w' => run_arrayAt _ _ _ 64 _ _ _ Tryz.underlying120 (by omega)
  clear hr3 hr4 hr5 ho3 ho4 ho5 hg3 hg4 hg5 h35 hs2 hsz hsz2 hsz3 hsz4 hc2 ho2 HO HO1 HA HB hv3 hl4 hc hsum hhead e4 h6 hs6 hr7 ho7 hg7 hrng hB7 h57 hg7b
  dsimp only
  go_wp2_with (first
    | (at_builtin; refine Lib.wpList_append_run _ rfl _ _ _ _ rfl _ _ rfl rfl _ _ HR3.out ?_)
    | (at_builtin; refine Lib.wpList_append_run _ rfl _ _ _ _ rfl _ _ rfl rfl _ _ HR4.out ?_)
    | (at_builtin; refine Lib.wpList_append_run _ rfl _ _ _ _ rfl _ _ rfl rfl _ _ HR5.out ?_)
    | (go_at_call 92; fail))
  refine HSum.out.mono ?_
  rintro e w6 ⟨rfl, rfl⟩
  clear HR3 HR4 HR5 HSum hc32
  dsimp only
  go_wp2_with (first
    | (at_builtin; refine Lib.wpList_append_run _ rfl _ _ _ _ rfl _ _ rfl rfl _ _ HR7.out ?_)
    | (refine wpList_load_mid rfl 120 _ rfl g7 0 rfl (cellsB (headB s a u)) _ HRng.out Tryz.underlying120 rfl HSzl.out ?_)
    | (refine wpList_store_mid rfl 120 _ _ rfl (w.heap.size + 1) 0 (cellsB (headB s a u)).toArray rfl rfl HThere.out HSz7.out (all_oneCell_toArray (one_cellsB _)) ?_; rw [List.toList_toArray]))
  have hth : w7.there (w.heap.size + 1) 0 (cellsB (headB s a u)).length := by have := HThere.out; simpa using this
  have hload := run_loadVar_mid (P := Tryz.prog) (w7.setCells (w.heap.size + 1) 0 (cellsB (headB s a u))) (w.heap.size + 1) 0 120 (cellsB (headB s a u)) _ (World.rangeAt_setCells_same w7 (w.heap.size + 1) 0 _ hth) Tryz.underlying120 rfl HSzl.out
  refine bodyPost_ret (result1 rfl _ rfl hload) rfl ⟨rfl, ?_⟩
  exact HC7.out.new (chg_setCells (w.heap.size + 1) (cellsB (headB s a u)) 0 w7) (fun i hi => by omega)

end Go.Proofs.YtbkefhoapnaciaaGreat.wals
end

/-
  two blocks of 64 bytes compared.
-/
section
set_option linter.unusedSimpArgs false
set_option linter.unusedVariables false
namespace Go.Proofs.YtbkefhoapnaciaaGreat.bufs
open Go.RowKit Go.My disks
set_option maxRecDepth 100000

theorem cellsB_at {x : Blk} {k : Nat} (hk : k < x.length) : (cellsB x).toArray[k]? = some (.int .u8 (x[k].toNat : Int)) := by simp [cellsB, hk]

theorem run_eqItems_bytes (w : World) (d : Nat) (x y : Blk) (hx : x.length = y.length) : ∀ (n k : Nat), k + n = x.length →
    (Op.eqItems (d + 1) 5 1 (cellsB x).toArray (cellsB y).toArray (List.range' k n)).run Tryz.prog w = .ok (decide (x.drop k = y.drop k)) w
  | 0, k, h => by
    rw [List.drop_eq_nil_of_le (by omega), List.drop_eq_nil_of_le (by omega)]
    simp [Op.eqItems]
  | n + 1, k, h => by
    have hk : k < x.length := by omega
    have hk2 : k < y.length := by omega
    have ih := run_eqItems_bytes w d x y hx n (k + 1) (by omega)
    have hpart : ∀ (z : Blk) (hz : k < z.length), (part 5 (cellsB z).toArray (k * 1)).run Tryz.prog w = .ok (.int .u8 (z[k].toNat : Int)) w := by
      intro z hz
      unfold part
      rw [Nat.mul_one, Sem.run_bind, Tryz.isAgg5]
      simp only [Result.andThen_ok, Bool.false_eq_true, if_false, cellsB_at hz, Sem.run_pure]
    rw [List.range'_succ]
    simp only [Op.eqItems, Sem.run_bind, hpart x hk, hpart y hk2, Result.andThen_ok]
    rw [run_equalIn_int (P := Tryz.prog) w d 5 .u8 .u8 _ _ Tryz.underlying5]
    simp only [Result.andThen_ok]
    have hdx : x.drop k = x[k] :: x.drop (k + 1) := List.drop_eq_getElem_cons hk
    have hdy : y.drop k = y[k] :: y.drop (k + 1) := List.drop_eq_getElem_cons hk2
    by_cases e : x[k] = y[k]
    · have : ((x[k].toNat : Int) == (y[k].toNat : Int)) = true := by rw [e]; simp
      rw [this]
      simp only [Bool.not_true, Bool.false_eq_true, if_false, ih]
      congr 1
      rw [decide_eq_decide, hdx, hdy, e]
      exact ⟨fun h => by rw [h], fun h => (List.cons.inj h).2⟩
    · have : ((x[k].toNat : Int) == (y[k].toNat : Int)) = false := by
        rw [beq_eq_false_iff_ne]
        intro h1
        exact e (UInt8.toNat_inj.1 (by omega))
      rw [this]
      simp only [Bool.not_false, if_true, Sem.run_pure]
      congr 1
      symm
      rw [decide_eq_false_iff_not, hdx, hdy]
      exact fun h => e (List.cons.inj h).1

theorem run_equal_block (w : World) (t : TypeId) (x y : Blk) (ht : Tryz.prog.underlying t = some (.array 64 5)) (hx : x.length = 64) (hy : y.length = 64) :
    (Op.equal t (.agg (cellsB x).toArray) (.agg (cellsB y).toArray)).run Tryz.prog w = .ok (decide (x = y)) w := by
  obtain ⟨i, hi, hz, hsz, hby⟩ := u8_parts
  have hc : Tryz.prog.cellsOf 5 = 1 := by kernel_rfl
  unfold Op.equal
  rw [show Op.maxDepth = 9999 + 1 from rfl, run_equalIn_array w 9999 _ _ ht hi, hc, List.range_eq_range', show (9999 : Nat) = 9998 + 1 from rfl,
    run_eqItems_bytes w 9998 x y (by omega) 64 0 (by omega)]
  simp

/-- The comparison of two blocks may be taken first. -/
theorem yieldsIf_eql_block {ops : Array Oper} {S : World → Prop} {op : Oper} {a : Act} (hw : Region.wanted op (yielded ops a.tmps) = true) (t : TypeId) (p q : Operand) (ho : op.op = .binOp .eql t p q t) (x y : Blk)
    (hp : a.eval p = .agg (cellsB x).toArray) (hq : a.eval q = .agg (cellsB y).toArray) (ht : Tryz.prog.underlying t = some (.array 64 5)) (hx : x.length = 64) (hy : y.length = 64) (hg : Tryz.prog.eqGuardType Tryz.prog.depth t = false) :
    YieldsIf Tryz.prog ops S op (.bool (decide (x = y))) a :=
  .inl ⟨hw, fun w' _ => by
    have he := run_equal_block w' t x y ht hx hy
    unfold execOp
    simp [ho, hp, hq, eqGuard, binOp, hg, he]⟩

end Go.Proofs.YtbkefhoapnaciaaGreat.bufs
end

/-
  slices of strings of a call's own: append.
-/
section
set_option linter.unusedSimpArgs false
set_option linter.unusedVariables false
namespace Go.Proofs.YtbkefhoapnaciaaGreat.bufs
open Go.RowKit Go.My disks
set_option maxRecDepth 100000

variable {w w' : World}

/-- An append to an own slice of elements of one cell, from any slice that reads. -/
theorem append_cells {t e : TypeId} {z : Value} {nb : Nat} {i : TypeInfo} (ht : Tryz.prog.underlying t = some (.slice e)) (hi : Tryz.prog.info? e = some i) (hz : i.zero = some z) (hsz : i.size = 1) (hby : i.bytes = nb) (hzs : z.cells.size = 1)
    {base n : Nat} {v : Value} {xs ys : List Value} {oa : Option Addr} {m cap : Nat} (h : w.ownsRow base e 1 v n xs) (hs : SlAt w (.slice oa m cap) ys) (h1 : ∀ y ∈ ys, y.oneCell' = true) (hb : base ≤ w.heap.size) (hl : xs.length + ys.length ≤ 140737488355328) (hlb : (xs.length + ys.length) * nb ≤ 140737488355328) (ty : TypeId) :
    ∃ v' w', (Builtin.append_ #[t, t] ty #[v, .slice oa m cap]).run Tryz.prog w = .ok v' w' ∧ w'.ownsRow base e 1 v' (xs ++ ys).length (xs ++ ys) ∧ w.grownBy w' v.ownBlock ∧ (v'.ownBlock = v.ownBlock ∨ v'.ownBlock = some w.heap.size) := by
  obtain rfl : n = xs.length := by have := h.1; omega
  obtain rfl : m = ys.length := by
    obtain ⟨_, _, h1, _⟩ := hs
    simp only [Value.slice.injEq] at h1
    exact h1.2.1
  rw [List.length_append]
  cases oa with
  | none =>
    have hy : ys = [] := by
      cases ys with
      | nil => rfl
      | cons y ys =>
        obtain ⟨oa', cap', h1, h2, _⟩ := hs
        obtain ⟨b, off, h3⟩ := h2 (by simp)
        simp only [Value.slice.injEq] at h1
        rw [← h1.1] at h3; cases h3
    subst hy
    refine ⟨v, w, ?_, by simpa using h, ⟨rfl, rfl, rfl, Nat.le_refl _, fun _ _ _ => rfl⟩, Or.inl rfl⟩
    rcases h.2 with ⟨rfl, h0⟩ | ⟨g, cap', cur, rfl, _, hg, hc, _⟩
    · simp [Builtin.append_, run_underlying ht, sizeOf, typeInfo, hi, Builtin.lenOf, Builtin.firstCells]
    · simp [Builtin.append_, run_underlying ht, sizeOf, typeInfo, hi, Builtin.lenOf, Builtin.firstCells, hc, storeCells]
  | some a =>
    have hcells : ∀ j u, ys[j]? = some u → w.cell? (a.add j) = some u := by
      intro j u hu
      obtain ⟨oa', cap', h1, h2, h3⟩ := hs
      simp only [Value.slice.injEq] at h1
      obtain ⟨b, off, h4⟩ := h2 (by intro e; rw [e] at hu; simp at hu)
      have h5 := h3 b off h4 j u hu
      rw [← h1.1] at h4
      cases h4
      have : (⟨b, off, none⟩ : Addr).add j = ⟨b, off + j, none⟩ := by unfold Addr.add; split <;> simp_all
      rw [this]; exact h5
    obtain ⟨v', w', h1, h2, h3, -, h4⟩ := run_append_own_at (P := Tryz.prog) w base t ty e i z 1 nb ht hi hz hsz hby hzs (by decide) v xs.length xs h a ys.length cap ys (by omega) hcells h1 (by unfold maxLen; omega) hlb hb
    exact ⟨v', w', h1, h2, h3, h4⟩

theorem info_string : (Tryz.prog.info? 9).map (fun i => (i.zero, i.size, i.bytes)) = some (some (.string ⟨#[]⟩), 1, 16) := by kernel_rfl

theorem append_strs {base n : Nat} {v : Value} {xs ys : List Value} {oa : Option Addr} {m cap : Nat} (h : w.ownsRow base 9 1 v n xs) (hs : SlAt w (.slice oa m cap) ys) (h1 : ∀ y ∈ ys, y.oneCell' = true) (hb : base ≤ w.heap.size) (hl : xs.length + ys.length ≤ 1099511627776) (ty : TypeId) :
    ∃ v' w', (Builtin.append_ #[36, 36] ty #[v, .slice oa m cap]).run Tryz.prog w = .ok v' w' ∧ w'.ownsRow base 9 1 v' (xs ++ ys).length (xs ++ ys) ∧ w.grownBy w' v.ownBlock ∧ (v'.ownBlock = v.ownBlock ∨ v'.ownBlock = some w.heap.size) := by
  obtain ⟨i, hi, hz, hsz, hby⟩ := info_parts info_string
  exact append_cells Tryz.underlying36 hi hz hsz hby rfl h hs h1 hb (by omega) (by omega) ty

end Go.Proofs.YtbkefhoapnaciaaGreat.bufs
end

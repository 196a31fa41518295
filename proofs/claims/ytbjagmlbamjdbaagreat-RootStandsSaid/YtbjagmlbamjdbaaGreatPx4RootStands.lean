/-
  blocks known whole: a row of values in a block of their own; read, written.
-/
import Derived.Test.YtbjagmlbamjdbaaGreatPx3RootStands
import Derived.Laws.ResultCell

section
set_option linter.unusedSimpArgs false
set_option linter.unusedVariables false
namespace Go.Proofs.YtbjagmlbamjdbaaGreat.bufs
open Go.RowKit Go.My disks
set_option maxRecDepth 100000

variable {w w' : World}

def Arr (w : World) (b : Nat) (t : TypeId) (l : List Value) : Prop := w.heap[b]? = some (.cells l.toArray t (0, 0))

theorem Arr.kept {b : Nat} {t : TypeId} {l : List Value} (h : Arr w b t l) {S : Nat → Prop} (hc : Chg S w w') (hn : ¬ S b) : Arr w' b t l := hc.at h hn
theorem Arr.lt {b : Nat} {t : TypeId} {l : List Value} (h : Arr w b t l) : b < w.heap.size := lt_of_block h

theorem Arr.range {b : Nat} {t : TypeId} {l : List Value} (h : Arr w b t l) : w.rangeAt b 0 l := by
  intro j x hx
  rw [Nat.zero_add]
  exact cell_of_block h (by simpa using hx)

theorem Arr.there {b : Nat} {t : TypeId} {l : List Value} (h : Arr w b t l) : w.there b 0 l.length := by
  intro j hj
  refine ⟨?_, free_of_block h⟩
  rw [h.range j l[j] (List.getElem?_eq_getElem hj)]; rfl

theorem Arr.set {b : Nat} {t : TypeId} {l : List Value} (h : Arr w b t l) (k : Nat) (v : Value) : Arr (w.setCell ⟨b, k, none⟩ v) b t (l.set k v) := by
  have := block_setCell (i := k) (v := v) h
  simpa [Arr] using this

theorem arr_setCells {b : Nat} {t : TypeId} : ∀ (vs : List Value) (o : Nat) (w : World) (l : List Value), Arr w b t l → o + vs.length ≤ l.length → Arr (w.setCells b o vs) b t (l.take o ++ vs ++ l.drop (o + vs.length))
  | [], o, w, l, h, _ => by simpa [World.setCells] using h
  | v :: r, o, w, l, h, hl => by
    simp only [List.length_cons] at hl
    have h1 := arr_setCells r (o + 1) _ _ (h.set o v) (by rw [List.length_set]; omega)
    have e : (l.set o v).take (o + 1) ++ r ++ (l.set o v).drop (o + 1 + r.length) = l.take o ++ (v :: r) ++ l.drop (o + (v :: r).length) := by
      have e1 : (l.set o v).take (o + 1) = l.take o ++ [v] := by
        rw [List.take_set, List.take_add_one, List.getElem?_eq_getElem (by omega), Option.toList_some, List.set_append_right _ _ (by rw [List.length_take]; omega)]
        have : (l.take o).length = o := by rw [List.length_take]; omega
        rw [this, Nat.sub_self]; rfl
      rw [e1, List.drop_set_of_lt (by omega)]
      simp [Nat.add_assoc, Nat.add_comm 1]
    rw [e] at h1
    exact h1

theorem Arr.all {b : Nat} {t : TypeId} {l vs : List Value} (h : Arr w b t l) (hl : vs.length = l.length) : Arr (w.setCells b 0 vs) b t vs := by
  have h1 := arr_setCells vs 0 w l h (by omega)
  rw [Nat.zero_add, List.take_zero, List.nil_append, List.drop_eq_nil_of_le (by omega), List.append_nil] at h1
  exact h1

theorem Arr.cell {b i : Nat} {t : TypeId} {l : List Value} {v : Value} (h : Arr w b t l) (hv : l[i]? = some v) : w.cell? ⟨b, i, none⟩ = some v := cell_of_block h (by simpa using hv)
theorem Arr.free {b i : Nat} {t : TypeId} {l : List Value} (h : Arr w b t l) : w.frozen? ⟨b, i, none⟩ = false := free_of_block h
theorem Arr.new (w : World) (cs : Array Value) (t : TypeId) : Arr (w.alloc (.cells cs t)) w.heap.size t cs.toList := by unfold Arr; rw [block_alloc_new]

theorem result1 {P : Program} {fn : Func} {p : Tmp} {t : TypeId} (h : fn.results = #[.cell p t]) (tmps : Array Value) {g : Nat} (hp : tmps.getD p undef = .pointer (some ⟨g, 0, none⟩))
    {v : Value} (h1 : (loadVar t ⟨g, 0, none⟩).run P w = .ok v w) : (results fn tmps).run P w = .ok v w := by
  have hp' : tmps[p]?.getD undef = .pointer (some ⟨g, 0, none⟩) := by simpa using hp
  simp [results, h, hp', asAddr, h1]

theorem own_range {base n : Nat} {e : TypeId} {g cap : Nat} {xs : List Value} (h : w.ownsRow base e 1 (.slice (some ⟨g, 0, none⟩) n cap) n xs) : w.rangeAt g 0 xs := by
  intro j v hv
  have h1 := h.cells (g := g) rfl j v hv
  have : (⟨g, 0, none⟩ : Addr).add j = ⟨g, 0 + j, none⟩ := by unfold Addr.add; split <;> simp_all
  rwa [this] at h1

theorem own_nonnil {base n : Nat} {v : Value} {xs : Blk} (h : w.ownsRow base 5 1 v n (cellsB xs)) (hne : xs ≠ []) : ∃ g cap, v = .slice (some ⟨g, 0, none⟩) xs.length cap ∧ base ≤ g ∧ g < w.heap.size := by
  obtain rfl := own_len h
  rcases h.2 with ⟨rfl, h0⟩ | ⟨g, cap, cur, rfl, hb, hg, _⟩
  · exact absurd (List.eq_nil_of_length_eq_zero h0) hne
  · exact ⟨g, cap, rfl, hb, lt_of_block hg⟩

theorem at1 {A : Obj} : (w.alloc A).heap[w.heap.size]? = some A := block_alloc_new w A
theorem at2_0 {A B : Obj} : ((w.alloc A).alloc B).heap[w.heap.size]? = some A := (Below.heap_alloc _ _ _ (by rw [World.size_alloc]; omega)).trans at1
theorem at2_1 {A B : Obj} : ((w.alloc A).alloc B).heap[w.heap.size + 1]? = some B := by have := at1 (w := w.alloc A) (A := B); rwa [World.size_alloc] at this
theorem at3_0 {A B C : Obj} : (((w.alloc A).alloc B).alloc C).heap[w.heap.size]? = some A := (Below.heap_alloc _ _ _ (by rw [World.size_alloc, World.size_alloc]; omega)).trans at2_0
theorem at3_1 {A B C : Obj} : (((w.alloc A).alloc B).alloc C).heap[w.heap.size + 1]? = some B := (Below.heap_alloc _ _ _ (by rw [World.size_alloc, World.size_alloc]; omega)).trans at2_1
theorem at3_2 {A B C : Obj} : (((w.alloc A).alloc B).alloc C).heap[w.heap.size + 1 + 1]? = some C := by have := at1 (w := (w.alloc A).alloc B) (A := C); rwa [World.size_alloc, World.size_alloc] at this
theorem chg3 {A B C : Obj} : Chg (fun _ => False) w (((w.alloc A).alloc B).alloc C) := (((Chg.refl _ _).alloc _).alloc _).alloc _
theorem chg2 {A B : Obj} : Chg (fun _ => False) w ((w.alloc A).alloc B) := ((Chg.refl _ _).alloc _).alloc _

theorem own_of_block {base n g : Nat} {e : TypeId} {cur : Array Value} (hb : w.heap[g]? = some (.cells cur e (0, 0))) (hg : base ≤ g) (hn : cur.size = n) (hm : n ≤ maxLen) : w.ownsRow base e 1 (.slice (some ⟨g, 0, none⟩) n n) n cur.toList :=
  ⟨by simp [hn], .inr ⟨g, n, cur, rfl, hg, hb, Nat.le_refl _, hm, by omega, by rw [List.take_of_length_le (by simp [hn])]⟩⟩

theorem own_lower {base base' n : Nat} {v : Value} {e : TypeId} {xs : List Value} (h : w.ownsRow base e 1 v n xs) (hb : base' ≤ base) : w.ownsRow base' e 1 v n xs := by
  refine ⟨h.1, ?_⟩
  rcases h.2 with h2 | ⟨g, cap, cur, h1, h2, h3⟩
  · exact Or.inl h2
  · exact Or.inr ⟨g, cap, cur, h1, Nat.le_trans hb h2, h3⟩

/-- An append of bytes, and what it changes: blocks from the own slice's base on. -/
theorem append_step {base n : Nat} {v : Value} {xs ys : Blk} {oa : Option Addr} {m cap : Nat} (h : w.ownsRow base 5 1 v n (cellsB xs)) (hs : SlAt w (.slice oa m cap) (cellsB ys)) (hb : base ≤ w.heap.size) (hl : xs.length + ys.length ≤ 140737488355328) (ty : TypeId) :
    ∃ v' w', (Builtin.append_ #[101, 101] ty #[v, .slice oa m cap]).run Tryz.prog w = .ok v' w' ∧ w'.ownsRow base 5 1 v' (xs ++ ys).length (cellsB (xs ++ ys)) ∧ Chg (fun k => base ≤ k) w w' := by
  obtain ⟨v', w', h1, h2, h3, -⟩ := append_bytes h hs hb hl ty
  exact ⟨v', w', h1, h2, (Chg.of_grown h3).mono (fun k _ hk => (h.lt k hk.symm).1)⟩

theorem zeros_step {base n : Nat} {v : Value} {xs : Blk} {k : Nat} (h : w.ownsRow base 5 1 v n (cellsB xs)) (hne : xs ≠ []) (hb : base ≤ w.heap.size) (hk : 0 < k) (hl : xs.length + k ≤ 140737488355328) (ty : TypeId) :
    ∃ v' w', (Builtin.append_ #[101, 3] ty #[v, .int .i64 (k : Int)]).run Tryz.prog w = .ok v' w' ∧ w'.ownsRow base 5 1 v' (xs ++ List.replicate k 0).length (cellsB (xs ++ List.replicate k 0)) ∧ Chg (fun k => base ≤ k) w w' := by
  obtain ⟨v', w', h1, h2, h3, -⟩ := append_zeros h hne hb hk hl ty
  exact ⟨v', w', h1, h2, (Chg.of_grown h3).mono (fun k _ hk => (h.lt k hk.symm).1)⟩

theorem slat_but {v : Value} {xs : List Value} {S : Nat → Prop} (h : SlAt w v xs) (hc : Chg S w w') (hs : ∀ g, v.ownBlock = some g → ¬ S g) : SlAt w' v xs := by
  obtain ⟨oa, cap, rfl, h2, h3⟩ := h
  refine ⟨oa, cap, rfl, h2, fun b off ho i x hx => hc.cell (h3 b off ho i x hx) ?_⟩
  subst ho
  exact hs b rfl

theorem grown_chg {row : Option Nat} (h : w.grownBy w' row) {B : Nat} (hr : ∀ g, row = some g → B ≤ g) : Chg (fun k => B ≤ k) w w' := (Chg.of_grown h).mono (fun k _ e => hr k e.symm)

theorem result_cell_tmp {P : Program} {fn : Func} {p u : Tmp} {ty : TypeId} (h : fn.results = #[.cell p ty, .tmp u]) (tmps : Array Value) {g : Nat} (hp : tmps.getD p undef = .pointer (some ⟨g, 0, none⟩))
    {v x : Value} (hv : (loadVar ty ⟨g, 0, none⟩).run P w = .ok v w) (hx : tmps.getD u undef = x) : (results fn tmps).run P w = .ok (.tuple #[v, x]) w := by
  rw [results_cell_tmp h, hp, hx]
  simp [asAddr, hv, Result.andThen_ok]

/-- A value of many cells is stored into a block that holds nothing else. -/
structure Stored (w w' : World) (g : Nat) (t : TypeId) (vs : List Value) : Prop where
  arr : Arr w' g t vs
  chg : Chg (· = g) w w'

theorem Arr.store {b : Nat} {t : TypeId} {l vs : List Value} (h : Arr w b t l) (hl : vs.length = l.length) : Stored w (w.setCells b 0 vs) b t vs := ⟨h.all hl, chg_setCells b vs 0 w⟩

theorem Arr.load {P : Program} {b : Nat} {t : TypeId} {l : List Value} {d : TypeDesc} (h : Arr w b t l) (hu : P.underlying t = some d) (hd : d.isRow = true) (hi : (P.info? t).map (·.size) = some l.length) : (loadVar t ⟨b, 0, none⟩).run P w = .ok (.agg l.toArray) w :=
  run_loadVar_mid (P := P) w b 0 t l d h.range hu hd hi

/-- A new block's world under a name. -/
theorem wp_forget {P : Program} {c : Code} {Q : Exit → Act → World → Prop} {a : Act} (wr : World) (t : TypeId) (zs : List Value) (h : ∀ wz, Arr wz wr.heap.size t zs → Chg (fun _ => False) wr wz → Code.wp P c Q a wz) : Code.wp P c Q a (wr.alloc (.cells zs.toArray t)) :=
  h _ at1 ((Chg.refl _ _).alloc _)

theorem oper_copy {P : Program} {o : Oper} {a : Act} {w w' : World} {K : Act → World → Prop} {Q : Exit → Act → World → Prop} (s x : Operand) (t u : TypeId)
    (ho : o.op = .call { callee := .builtin .copy, args := #[s, x], argTypes := #[t, u] }) {v sv xv : Value} (hs : a.eval s = sv) (hx : a.eval x = xv)
    (hr : (Builtin.copy_ #[t, u] o.type #[sv, xv]).run P w = .ok v w') (h : K (a.put o.dst v) w') : Oper.wp P o a w K Q := by
  unfold Oper.wp execOp
  simp only [ho, resolve, invoke, builtin, Sem.run_bind, Sem.run_pure, Result.andThen_ok, List.map_toArray, List.map_cons, List.map_nil, hs, hx, hr]
  exact h

end Go.Proofs.YtbjagmlbamjdbaaGreat.bufs
end

/-
  wal: a head's block; the walk.
-/
section
set_option linter.unusedSimpArgs false
set_option linter.unusedVariables false
namespace Go.Proofs.YtbjagmlbamjdbaaGreat.wals
open Go.RowKit Go.My disks bufs
set_option maxRecDepth 100000

theorem size_wblock : (Tryz.prog.info? 178).map (·.size) = some 64 := by kernel_rfl

set_option maxHeartbeats 2000000 in
theorem bytes_any (w : World) (s a u : Nat) (hs : s < 9223372036854775808) (ha : a < 256) (hu : u < 4294967296) :
    Calls Tryz.prog 152 #[.agg #[.int .i64 s, .int .i64 a, .int .i64 u]] w fun e w' => e = .returned (.agg (cellsB (headB s a u)).toArray) ∧ Chg (fun _ => False) w w' := by
  have HF1 := fun w' => Lib.hid (fixed_any w' 8 s (Or.inr rfl) (by have : (256 : Nat) ^ 8 = 18446744073709551616 := rfl; omega))
  have HF2 := fun w' => Lib.hid (fixed_any w' 4 u (Or.inl rfl) (by have : (256 : Nat) ^ 4 = 4294967296 := rfl; omega))
  have hs' : (s : Int) % 18446744073709551616 = (s : Int) := by omega
  have hu' : (u : Int) % 18446744073709551616 = (u : Int) := by omega
  have ha' : (a : Int) % 256 = (a : Int) := by omega
  have HAa := Lib.hid ha
  clear hs ha hu
  go_enter Tryz.func152, Tryz.ntmps152
  go_wp2_with (first
    | (go_at_call 92; fail))
  refine (HF1 _).out.mono ?_
  rintro e w1 ⟨s1, rfl, ho1, hc1⟩
  have HA := Lib.hid (show Arr w1 w.heap.size 175 [.int .i64 s, .int .i64 a, .int .i64 u] from hc1.at at3_0 id)
  obtain ⟨zs, hzs, hB⟩ : ∃ zs : List Value, zs.length = 64 ∧ Arr w1 (w.heap.size + 1) 178 zs := ⟨_, rfl, hc1.at at3_1 id⟩
  have hC := hc1.at at3_2 id
  have hO : w1.ownsRow (w.heap.size + 1 + 1) 5 1 (.slice (some ⟨w.heap.size + 1 + 1, 0, none⟩) 4 4) 4 (cellsB [86, 72, UInt8.ofNat a, 0]) := by
    have h1 := own_of_block (n := 4) hC (Nat.le_refl _) rfl (by unfold maxLen; omega)
    have h2 : cellsB [86, 72, UInt8.ofNat a, 0] = [.int .u8 86, .int .u8 72, .int .u8 (a : Int), .int .u8 0] := by
      simp only [cellsB, List.map_cons, List.map_nil, ofNat_toNat, ha']
      rfl
    rw [h2]; exact h1
  have HO := Lib.hid hO
  have HB := Lib.hid hB
  have HZ := Lib.hid hzs
  have HC1 := Lib.hid (show Chg (fun _ => False) w w1 from chg3.trans' hc1)
  have HO1 := Lib.hid (own_lower ho1 (Nat.zero_le _))
  have HSz := Lib.hid (show w.heap.size + 1 + 1 < w1.heap.size from lt_of_block hC)
  clear hC hO hB hzs ho1 hc1 HF1
  dsimp only
  have a2 := HA.out.cell (i := 2) rfl
  go_wp2_with (first
    | (go_at_call 92; fail))
  refine (HF2 _).out.mono ?_
  rintro e w2 ⟨s2, rfl, ho2, hc2⟩
  clear a2 HF2
  obtain ⟨oa1, cap1, rfl⟩ := own_slice HO1.out
  obtain ⟨oa2, cap2, rfl⟩ := own_slice ho2
  have hsz := HSz.out
  have hsz2 := hc2.size
  -- the first append
  obtain ⟨v3, w3, hr3, ho3, hg3, hv3⟩ := append_bytes (own_kept HO.out hc2) (SlAt.of_own (own_kept HO1.out hc2)) (by omega) (by rw [be_length]; simp) 101
  have hs2 : SlAt w3 (.slice oa2 4 cap2) (cellsB (be 4 u)) := slat_but (SlAt.of_own ho2) (Chg.of_grown hg3) (fun g hg e => by
    have h1 := (ho2.lt g hg).1
    simp only [Value.ownBlock, Option.some.injEq] at e
    omega)
  have hsz3 := hg3.size
  -- the second one
  obtain ⟨v4, w4, hr4, ho4, hg4, -⟩ := append_bytes ho3 hs2 (by omega) (by simp [be_length]) 101
  have hsz4 := hg4.size
  obtain ⟨v5, w5, hr5, ho5, hg5⟩ := zeros_step (k := 44) ho4 (by simp) (by omega) (by omega) (by simp [be_length]) 101
  rw [show ([86, 72, UInt8.ofNat a, 0] ++ be 8 s ++ be 4 u) ++ List.replicate 44 0 = headPre s a u from rfl] at ho5
  have hl4 : ([86, 72, UInt8.ofNat a, 0] ++ be 8 s ++ be 4 u).length = 16 := by simp [be_length]
  have h35 : Chg (fun k => w.heap.size + 1 + 1 ≤ k) w2 w5 := ((grown_chg hg3 (fun g hg => by simp only [Value.ownBlock, Option.some.injEq] at hg; omega)).trans' (grown_chg hg4 (fun g hg => (ho3.lt g hg).1))).trans' hg5
  have HA5 := Lib.hid (h35.at (hc2.at HA.out id) (by omega))
  have HB5 := Lib.hid (show Arr w5 (w.heap.size + 1) 178 zs from h35.at (hc2.at HB.out id) (by omega))
  have HC5 := Lib.hid (show Chg (fun _ => False) w w5 from (HC1.out.trans' hc2).new h35 (fun i hi => by omega))
  have HSz5 := Lib.hid (show w.heap.size + 1 + 1 < w5.heap.size from by have := h35.size; omega)
  obtain ⟨oa4, cap4, e4⟩ := own_slice ho4
  rw [hl4] at e4
  subst e4
  obtain ⟨g5, cap5, e5, hg5b, -⟩ := own_nonnil ho5 (by simp [headPre])
  rw [headPre_length] at e5 ho5
  subst e5
  have HR3 := Lib.hid hr3
  have HR4 := Lib.hid hr4
  have HR5 := Lib.hid (show (Builtin.append_ #[101, 3] 101 #[.slice oa4 16 cap4, .int .i64 44]).run Tryz.prog w4 = _ from hr5)
  have HO5 := Lib.hid ho5
  obtain ⟨c, hc⟩ : ∃ c, crcF (headPre s a u) = c := ⟨_, rfl⟩
  have hc32 : c < 4294967296 := by rw [← hc]; exact crcF_lt _
  have hsum := sum_any w5 _ _ _ (headPre s a u) (SlAt.of_own ho5) (by rw [headPre_length]; omega)
  rw [hc] at hsum
  have HSum := Lib.hid hsum
  have hhead : headB s a u = headPre s a u ++ le4 c := by unfold headB; rw [hc]
  have HHead := Lib.hid hhead
  -- the sum's four bytes, in a block of their own
  have e4 : cellsB (le4 c) = [.int .u8 ((c : Int) % 256), .int .u8 ((c : Int) / 256 % 256), .int .u8 ((c : Int) / 65536 % 256), .int .u8 ((c : Int) / 16777216 % 256)] := by
    simp only [le4, cellsB, List.map_cons, List.map_nil, ofNat_toNat, Int.natCast_ediv]
    rfl
  have h6 : Chg (fun _ => False) w5 (w5.alloc (.cells #[.int .u8 ((c : Int) % 256), .int .u8 ((c : Int) / 256 % 256), .int .u8 ((c : Int) / 65536 % 256), .int .u8 ((c : Int) / 16777216 % 256)] 5)) := (Chg.refl _ _).alloc _
  have hs6 : SlAt (w5.alloc (.cells #[.int .u8 ((c : Int) % 256), .int .u8 ((c : Int) / 256 % 256), .int .u8 ((c : Int) / 65536 % 256), .int .u8 ((c : Int) / 16777216 % 256)] 5)) (.slice (some ⟨w5.heap.size, 0, none⟩) 4 4) (cellsB (le4 c)) := by
    rw [e4]
    exact SlAt.of_own (own_of_block (base := 0) (n := 4) at1 (Nat.zero_le _) rfl (by unfold maxLen; omega))
  obtain ⟨v7, w7, hr7, ho7, hg7, -⟩ := append_bytes (own_kept ho5 h6) hs6 (by rw [World.size_alloc]; have := HSz5.out; omega) (by simp [headPre_length, le4_length]) 101
  rw [← hhead] at ho7
  obtain ⟨g7, cap7, e7, hg7b, -⟩ := own_nonnil ho7 (by intro e; have := congrArg List.length e; rw [headB_length] at this; simp at this)
  rw [headB_length] at e7 ho7
  subst e7
  have hcap7 : 64 ≤ cap7 := by
    rcases ho7.2 with ⟨h, _⟩ | ⟨_, _, _, h, _, _, h7, _⟩
    · cases h
    · cases h; exact h7
  have h57 : Chg (fun k => w.heap.size + 1 + 1 ≤ k) w5 w7 := (h6.mono (fun _ _ h => h.elim)).trans' (grown_chg hg7 (fun g hg => by simp only [Value.ownBlock, Option.some.injEq] at hg; omega))
  have hrng : w7.rangeAt g7 0 (cellsB (headB s a u)) := own_range ho7
  have hB7 : Arr w7 (w.heap.size + 1) 178 zs := h57.at HB5.out (by omega)
  have HR7 := Lib.hid hr7
  have HRng := Lib.hid hrng
  have HB7 := Lib.hid hB7
  have HC7 := Lib.hid (HC5.out.new h57 (fun i hi => by omega))
  have HThere : Hid (w7.there (w.heap.size + 1) 0 (cellsB (headB s a u)).toArray.size) := Lib.hid (by have := hB7.there; rwa [HZ.out, show 64 = (cellsB (headB s a u)).toArray.size by simp [cellsB_length, headB_length]] at this)
  have HSz7 : Hid ((Tryz.prog.info? 178).map (·.size) = some (cellsB (headB s a u)).toArray.size) := Lib.hid (by rw [size_wblock]; simp [cellsB_length, headB_length])
  have HSzl : Hid ((Tryz.prog.info? 178).map (·.size) = some (cellsB (headB s a u)).length) := Lib.hid (by rw [size_wblock]; simp [cellsB_length, headB_length])
  have hsa : ∀ w', (Instr.arrayAt 178 (.slice (some ⟨g7, 0, none⟩) 64 cap7)).run Tryz.prog w' = .ok (.pointer (some ⟨g7, 0, none⟩)) w' := fun w' => run_arrayAt _ _ _ 64 _ _ _ Tryz.underlying178 (by omega)
  clear hr3 hr4 hr5 ho3 ho4 ho5 hg3 hg4 hg5 h35 hs2 hsz hsz2 hsz3 hsz4 hc2 ho2 HO HO1 HA HB hv3 hl4 hc hsum hhead e4 h6 hs6 hr7 ho7 hg7 hrng hB7 h57 hg7b
  dsimp only
  go_wp2_with (first
    | (at_builtin; refine Lib.wpList_append_run _ rfl _ _ _ _ rfl _ _ rfl rfl _ _ HR3.out ?_)
    | (at_builtin; refine Lib.wpList_append_run _ rfl _ _ _ _ rfl _ _ rfl rfl _ _ HR4.out ?_)
    | (at_builtin; refine Lib.wpList_append_run _ rfl _ _ _ _ rfl _ _ rfl rfl _ _ HR5.out ?_)
    | (go_at_call 178; fail))
  refine HSum.out.mono ?_
  rintro e w6 ⟨rfl, rfl⟩
  clear HR3 HR4 HR5 HSum hc32
  dsimp only
  go_wp2_with (first
    | (at_builtin; refine Lib.wpList_append_run _ rfl _ _ _ _ rfl _ _ rfl rfl _ _ HR7.out ?_)
    | (refine wpList_load_mid rfl 178 _ rfl g7 0 rfl (cellsB (headB s a u)) _ HRng.out Tryz.underlying178 rfl HSzl.out ?_)
    | (refine wpList_store_mid rfl 178 _ _ rfl (w.heap.size + 1) 0 (cellsB (headB s a u)).toArray rfl rfl HThere.out HSz7.out (all_oneCell_toArray (one_cellsB _)) ?_; rw [List.toList_toArray]))
  have hth : w7.there (w.heap.size + 1) 0 (cellsB (headB s a u)).length := by have := HThere.out; simpa using this
  have hload := run_loadVar_mid (P := Tryz.prog) (w7.setCells (w.heap.size + 1) 0 (cellsB (headB s a u))) (w.heap.size + 1) 0 178 (cellsB (headB s a u)) _ (World.rangeAt_setCells_same w7 (w.heap.size + 1) 0 _ hth) Tryz.underlying178 rfl HSzl.out
  refine bodyPost_ret (result1 rfl _ rfl hload) rfl ⟨rfl, ?_⟩
  exact HC7.out.new (chg_setCells (w.heap.size + 1) (cellsB (headB s a u)) 0 w7) (fun i hi => by omega)

end Go.Proofs.YtbjagmlbamjdbaaGreat.wals
end

/-
  frame: a reader's take and four, where there is enough.
-/
section
set_option linter.unusedSimpArgs false
set_option linter.unusedVariables false
namespace Go.Proofs.YtbjagmlbamjdbaaGreat.wals
open Go.RowKit Go.My disks bufs
set_option maxRecDepth 100000

/-- A reader: its bytes, and where it stands. -/
def Rd (w : World) (r : Nat) (v : Value) (p : Nat) : Prop := Arr w r 288 [v, .int .i64 (p : Int)]

theorem slat_sub {w : World} {oa : Option Addr} {n cap : Nat} {b : Blk} (h : SlAt w (.slice oa n cap) (cellsB b)) (g off p m c' : Nat) (ho : oa = some ⟨g, off, none⟩) (hm : p + m ≤ b.length) : SlAt w (.slice (some ⟨g, off + p, none⟩) m c') (cellsB ((b.drop p).take m)) := by
  obtain ⟨oa', cap', e1, e2, e3⟩ := h
  simp only [Value.slice.injEq] at e1
  have hl : (cellsB ((b.drop p).take m)).length = m := by rw [cellsB_length, List.length_take, List.length_drop]; omega
  refine ⟨_, c', by rw [hl], fun _ => ⟨_, _, rfl⟩, fun g' off' ho' i x hx => ?_⟩
  cases ho'
  have hi : i < m := by have := (List.getElem?_eq_some_iff.1 hx).1; rwa [hl] at this
  rw [Nat.add_assoc]
  refine e3 g off (by rw [← e1.1, ho]) (p + i) x ?_
  simp only [cellsB, List.getElem?_map, List.getElem?_take_of_lt hi, List.getElem?_drop] at hx ⊢
  exact hx

set_option maxHeartbeats 1000000 in
theorem take_any (w : World) (r g off n cap p m : Nat) (b : Blk) (h : Rd w r (.slice (some ⟨g, off, none⟩) n cap) p) (hs : SlAt w (.slice (some ⟨g, off, none⟩) n cap) (cellsB b)) (hb : b.length ≤ 1000000) (hcap : b.length ≤ cap) (hm : p + m ≤ b.length) (hgr : g ≠ r) :
    Calls Tryz.prog 214 #[.pointer (some ⟨r, 0, none⟩), .int .i64 m] w fun e w' => (∃ oa, e = .returned (.slice oa m m) ∧ SlAt w' (.slice oa m m) (cellsB ((b.drop p).take m)) ∧ ∀ x, oa = some x → x.block = g) ∧ Rd w' r (.slice (some ⟨g, off, none⟩) n cap) (p + m) ∧ Chg (· = r) w w' := by
  obtain rfl := slat_len hs
  have c0 : w.cell? ⟨r, 0, none⟩ = some (.slice (some ⟨g, off, none⟩) b.length cap) := h.cell rfl
  have c1 : w.cell? ⟨r, 1, none⟩ = some (.int .i64 (p : Int)) := h.cell rfl
  have z1 : w.frozen? ⟨r, 1, none⟩ = false := h.free
  have H := Lib.hid h
  have HS := Lib.hid hs
  have i1 : (b.length : Int) ≤ 1000000 := by omega
  have i2 : (b.length : Int) ≤ (cap : Int) := by omega
  have i3 : (p : Int) + (m : Int) ≤ (b.length : Int) := by omega
  have HG := Lib.hid hgr
  clear h hs hb hcap hm hgr
  go_enter Tryz.func214, Tryz.ntmps214
  have q0 : ∀ n : FreshW w, n.val.cell? ⟨r, 0, none⟩ = some (.slice (some ⟨g, off, none⟩) b.length cap) := fun n => n.chg.cell c0 id
  have q1 : ∀ n : FreshW w, n.val.cell? ⟨r, 1, none⟩ = some (.int .i64 (p : Int)) := fun n => n.chg.cell c1 id
  go_wp2_with fail
  refine wp_region_fresh (by kernel_rfl) (by kernel_rfl) ?_
  repeat (go_big_quiet_step (fail))
  refine wpQuiet_nil ?_
  rintro _ ⟨n1, rfl⟩
  obtain ⟨w1, hw1⟩ : ∃ w1, n1.val = w1 := ⟨_, rfl⟩
  have hc1 : Chg (fun _ => False) w w1 := by rw [← hw1]; exact n1.chg
  rw [hw1]
  have hr1 : Rd w1 r (.slice (some ⟨g, off, none⟩) b.length cap) p := hc1.at H.out id
  clear q0 q1 hw1 c0 c1 z1
  have c1 : w1.cell? ⟨r, 1, none⟩ = some (.int .i64 (p : Int)) := hr1.cell rfl
  have z1 : w1.frozen? ⟨r, 1, none⟩ = false := hr1.free
  have hr2 : Rd (w1.setCell ⟨r, 1, none⟩ (.int .i64 ((p : Int) + (m : Int)))) r (.slice (some ⟨g, off, none⟩) b.length cap) (p + m) := by
    have := hr1.set 1 (.int .i64 ((p : Int) + (m : Int)))
    unfold Rd
    simpa using this
  have hc2 : Chg (· = r) w (w1.setCell ⟨r, 1, none⟩ (.int .i64 ((p : Int) + (m : Int)))) := Chg.setCell (S := (· = r)) (hc1.mono (fun _ _ h => h.elim)) (fun _ => rfl) _
  obtain ⟨w2, hw2⟩ : ∃ w2, w1.setCell ⟨r, 1, none⟩ (.int .i64 ((p : Int) + (m : Int))) = w2 := ⟨_, rfl⟩
  rw [hw2] at hr2 hc2
  have HR2 := Lib.hid hr2
  have HC2 := Lib.hid hc2
  have HW2 := Lib.hid hw2
  have HR1 := Lib.hid hr1
  have HC1 := Lib.hid hc1
  have q0 : ∀ n : FreshW w2, n.val.cell? ⟨r, 0, none⟩ = some (.slice (some ⟨g, off, none⟩) b.length cap) := fun n => n.chg.cell (hr2.cell rfl) id
  have q1 : ∀ n : FreshW w2, n.val.cell? ⟨r, 1, none⟩ = some (.int .i64 ((p : Int) + (m : Int))) := fun n => n.chg.cell (hr2.cell (by rw [show ((p : Int) + (m : Int)) = ((p + m : Nat) : Int) by omega]; rfl)) id
  clear hr2 hc2 hw2 hr1 hc1
  have i5 : (p : Int) + (m : Int) - (m : Int) = (p : Int) := by omega
  go_wp2_with fail
  rw [HW2.out]
  clear c1 z1
  refine wp_region_fresh (by kernel_rfl) (by kernel_rfl) ?_
  repeat (go_big_quiet_step (fail))
  refine wpQuiet_nil ?_
  rintro _ ⟨n2, rfl⟩
  have hc3 : Chg (fun _ => False) w2 n2.val := n2.chg
  obtain ⟨w3, hw3⟩ : ∃ w3, n2.val = w3 := ⟨_, rfl⟩
  rw [hw3] at hc3 ⊢
  clear q0 q1 hw3
  have HC3 := Lib.hid hc3
  clear hc3
  rw [Nat.add_sub_cancel_left]
  have HI3 := Lib.hid i3
  obtain ⟨oa, hoa⟩ : ∃ oa, (if p + m = p then some (⟨g, off, none⟩ : Addr) else some ⟨g, off + p, none⟩) = oa := ⟨_, rfl⟩
  rw [hoa]
  have HOa := Lib.hid hoa
  clear hoa
  go_wp2_with fail
  go_ret
  have hS3 : SlAt w3 (.slice (some ⟨g, off, none⟩) b.length cap) (cellsB b) := by
    refine (slat_but HS.out HC2.out (fun x hx => ?_)).kept HC3.out
    cases hx
    exact HG.out
  refine ⟨⟨oa, rfl, ?_, fun x hx => by rw [← HOa.out] at hx; split at hx <;> cases hx <;> rfl⟩, HC3.out.at HR2.out id, HC2.out.trans' (HC3.out.mono (fun _ _ h => h.elim))⟩
  rw [← HOa.out]
  by_cases hm0 : m = 0
  · subst hm0
    rw [if_pos (Nat.add_zero p), List.take_zero]
    exact ⟨_, 0, rfl, fun h => absurd rfl h, fun _ _ _ i x hx => by simp [cellsB] at hx⟩
  · rw [if_neg (by omega)]
    exact slat_sub hS3 g off p m m rfl (by have := HI3.out; omega)

end Go.Proofs.YtbjagmlbamjdbaaGreat.wals
end

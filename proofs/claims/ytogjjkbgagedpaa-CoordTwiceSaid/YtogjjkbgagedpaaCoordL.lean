/-
  coord: Recall; Tick of a committed transaction.
-/
import Derived.Test.YtogjjkbgagedpaaCoordK
namespace Go.Proofs.Ytogjjkbgagedpaa.coords
open Go.RowKit Go.Maps Go.My Go.ChangeMaps
set_option maxRecDepth 100000

variable {w w' : World} {c q x qa : Nat} {F F' Fc : Nat → Prop} {lim : Int} {m : List (Int × Nat)} {E : EV} {pv : Value}

theorem rows_own {w : World} {base n cap : Nat} {oa : Option Addr} {l : List (List Value)} (h : w.ownsRow base 33 2 (.slice oa n cap) n l.flatten) (he : ∀ r ∈ l, r.length = 2) (hn : n = l.length) : RowsAt w 2 oa l := by
  have hO : OwnRecs w base 33 2 (.slice oa n cap) l := ⟨by rw [← hn]; exact h, he⟩
  refine ⟨fun hne => ?_, fun i r hi => he r (List.mem_of_getElem? hi), fun b off ho i r j v hi hj => ?_⟩
  · obtain ⟨g, cap', e, -⟩ := hO.cell (k := 0) (List.length_pos_iff.2 hne)
    simp only [Value.slice.injEq] at e
    exact ⟨g, 0, e.1⟩
  · obtain ⟨hil, rfl⟩ := List.getElem?_eq_some_iff.1 hi
    obtain ⟨g, e, -, -, hc, -⟩ := hO.cell' hil
    rw [ho] at e
    cases e
    have := hc j v hj
    rw [Nat.zero_add]
    exact this

set_option maxHeartbeats 1000000 in
theorem recall_any (w : World) (hC : CoIs w c F lim m q) (txn : Int) (ht : 1 ≤ txn ∧ txn ≤ 1099511627776) {base : Nat} {v : Value} {zs : List Int} (hz : w.ownsRow base 3 1 v zs.length (zs.map (Value.int .i64))) (hg : Good zs) (hm : mget m txn = none) :
    Calls Try.prog 20 #[ptrV c, .int .i64 txn, v] w fun e w' => ∃ v' x, e = .returned (.tuple #[v', .int .i64 0]) ∧ (∃ oa cap, v' = .slice oa zs.length cap) ∧ (∃ F' pv qa, EntIs w' x F' ⟨3, 0, zs, []⟩ pv qa ∧ (∀ k, F' k → w.heap.size ≤ k)) ∧ CoIs w' c F lim (mput m txn x) q ∧ Chg (· = q) w w' := by
  obtain ⟨i0, hI0⟩ := info_parts info_plan
  have HI0 := Lib.hid hI0
  have H := Lib.hid hC
  have HZ := Lib.hid hz
  have HG := Lib.hid hg
  have HM := Lib.hid hm
  have hl := hg.len
  obtain ⟨oa, cap, rfl⟩ := own_slice hz
  clear hC hz hg hm hI0
  unfold ptrV
  go_enter Try.func20, Try.ntmps20
  go_wp2_with fail
  go_loopw [8, 15] (fun u j wr => ∃ k : Nat, j = .int .i64 k ∧ k ≤ zs.length ∧ wr.ownsRow w.heap.size 33 2 u k ((zs.take k).map planC).flatten ∧ Chg (fun _ => False) w wr) (fun _ j _ => zs.length - (intOf j).toNat)
  · exact ⟨0, rfl, Nat.zero_le _, World.ownsRow_nil _ _ _ _, Chg.refl _ _⟩
  obtain ⟨k, rfl, hk, ho, hc⟩ := hrel
  have HO := Lib.hid ho
  have HC := Lib.hid hc
  clear ho hc
  by_cases hlt : k < zs.length
  · have hki : (k : Int) < (zs.length : Int) := by omega
    obtain ⟨g, rfl⟩ : ∃ g, oa = some ⟨g, 0, none⟩ := by
      rcases HZ.out.2 with ⟨e1, h0⟩ | ⟨g, cap', cur, e1, -⟩
      · omega
      · simp only [Value.slice.injEq] at e1; exact ⟨g, e1.1⟩
    obtain ⟨r, hrz, hr⟩ : ∃ r, zs[k]? = some r ∧ wr.cell? ⟨g, k, none⟩ = some (.int .i64 r) := by
      obtain ⟨hx, h1, -⟩ := own_cell (row_kept HZ.out HC.out (fun _ _ h => h)) hlt
      exact ⟨zs[k], List.getElem?_eq_getElem hlt, by rw [h1, List.getElem_map]⟩
    have hca := (Chg.refl (fun _ => False) wr).alloc (.cells #[.int .i64 r, .slice none 0 0] 33)
    have HRow := Lib.hid (row_kept HO.out hca (fun _ _ h => h))
    have HCa := Lib.hid hca
    have HRz := Lib.hid hrz
    clear hca hrz
    go_wp2_with (first
      | (at_builtin; refine wpList_append_own_at _ rfl _ _ 34 rfl w.heap.size 33 i0 (.agg (planC 0).toArray) 2 32 Try.underlying34 HI0.out.1 HI0.out.2.1 HI0.out.2.2.1 HI0.out.2.2.2 rfl (by decide) _ k _ rfl HRow.out ⟨wr.heap.size, 0, none⟩ 1 1 [.int .i64 r, .slice none 0 0] rfl rfl (cells_new wr [.int .i64 r, .slice none 0 0] _) (by intro x hx; simp only [List.mem_cons, List.not_mem_nil, or_false] at hx; rcases hx with rfl | rfl <;> rfl) (by unfold maxLen; omega) (by omega) (Nat.le_trans HC.out.size HCa.out.size) ?_; intro v6 w6 ho6 hg6 hx1 hx2; have HO6 := Lib.hid ho6; have HG6 := Lib.hid hg6; clear ho6 hg6 hx1 hx2))
    refine ⟨⟨k + 1, by go_num, hlt, ?_, (HC.out.trans' HCa.out).new (Chg.of_grown HG6.out) (fun j e => (HO.out.lt j e.symm).1)⟩, meas_step hlt⟩
    rw [List.take_add_one, HRz.out, Option.toList_some, List.map_append, List.flatten_append]
    simpa [planC] using HO6.out
  · have hki : ¬ (k : Int) < (zs.length : Int) := by omega
    have hkl : k = zs.length := by omega
    rw [hkl, List.take_length] at HO
    clear hkl hlt hk
    obtain ⟨oau, cu, rfl⟩ := own_slice HO.out
    have hrows := rows_own HO.out (by intro r hr; obtain ⟨z, -, rfl⟩ := List.mem_map.1 hr; rfl) (by rw [List.length_map])
    have HE := Lib.hid (enter_any wr (H.out.fresh HC.out) txn 3 ht zs HG.out oau cu hrows HM.out)
    clear hrows
    go_wp2_with (first
      | (go_at_call 31; refine HE.out.mono ?_; rintro e w1 ⟨x, rfl, ⟨pv, qa, hE⟩, hC, hc1⟩
         have HEn := Lib.hid hE
         have HCo := Lib.hid hC
         have HC1 := Lib.hid hc1
         unfold ptrV
         clear hE hC hc1)
      | (go_at_call 32; refine (all_any _ HEn.out _ _).mono ?_; rintro e w2 ⟨v, rfl, ho, hc2⟩
         have HO2 := Lib.hid ho
         have HC2 := Lib.hid hc2
         clear ho hc2))
    go_ret2
    obtain ⟨oa', cap', hv, -⟩ := HO2.out.slice
    rw [List.length_map] at hv
    exact ⟨_, x, rfl, ⟨oa', cap', hv⟩, ⟨_, pv, qa, HEn.out.fresh HC2.out, fun k hk => Nat.le_trans HC.out.size hk.1⟩, HCo.out.fresh HC2.out, ((HC.out.mono (fun _ _ h => h.elim) : Chg (· = q) w wr).trans' HC1.out).trans' (HC2.out.mono (fun _ _ h => h.elim))⟩

theorem tick_closure (w : World) (h : EntIs w x F E pv qa) (g : Nat) (hg : w.cell? ⟨g, 0, none⟩ = some (.pointer (some ⟨x, 0, none⟩))) (r : Int) (hr : 1 ≤ r ∧ r ≤ 6) :
    Calls Try.prog 43 #[.int .i64 r, .pointer (some ⟨g, 0, none⟩)] w fun e w' => e = .returned (.bool (!(mget E.ans r).getD false)) ∧ w = w' := by
  have c3 : w.cell? ⟨x, 3, none⟩ = some (.map (some qa)) := cell_of_block h.head rfl
  have hlk := h.ans.look Try.underlying84 (zero_bool _) false r (WalkArith.wf_i64 (by omega))
  rw [lookRes_bool1] at hlk
  have hlk : (Instr.lookup 84 (.map (some qa)) (.int .i64 r) false).run Try.prog w = .ok (.bool ((mget E.ans r).getD false)) w := hlk
  clear h
  go_enter Try.func43, Try.ntmps43
  go_wp2_with fail
  go_ret
  exact ⟨rfl, rfl⟩


/-- 'append(own, own...)' of records. -/
theorem run_append_recs {base base2 n1 n2 size bytes : Nat} {l1 l2 : List Value} (t ty e : TypeId) (i : TypeInfo) (z : Value) (ht : Try.prog.underlying t = some (.slice e)) (hi : Try.prog.info? e = some i) (hz : i.zero = some z)
    (hsize : i.size = size) (hby : i.bytes = bytes) (hzs : z.cells.size = size) (hsz : 0 < size) (a b : Value) (ha : w.ownsRow base e size a n1 l1) (hb : w.ownsRow base2 e size b n2 l2) (h1 : ∀ u ∈ l2, u.oneCell' = true)
    (h63 : n1 + n2 ≤ maxLen) (hbytes : (n1 + n2) * bytes ≤ 140737488355328) (hbase : base ≤ w.heap.size) :
    ∃ v' w', (Builtin.append_ #[t, t] ty #[a, b]).run Try.prog w = .ok v' w' ∧ w'.ownsRow base e size v' (n1 + n2) (l1 ++ l2) ∧ Chg (fun k => some k = a.ownBlock) w w' := by
  rcases hb.2 with ⟨rfl, h0⟩ | ⟨g, cap, cur, rfl, -⟩
  · have h2 : l2 = [] := by have := hb.1; rw [h0] at this; exact List.eq_nil_of_length_eq_zero (by simpa using this)
    refine ⟨a, w, run_append_owned_none w base t ty e i size ht hi a n1 l1 ha, ?_, Chg.refl _ _⟩
    rw [h0, h2, List.append_nil]; exact ha
  · obtain ⟨v', w', h2, h3, h4, -, -⟩ := run_append_own_at (P := Try.prog) w base t ty e i z size bytes ht hi hz hsize hby hzs hsz a n1 l1 ha ⟨g, 0, none⟩ n2 cap l2 hb.1 (hb.cells rfl) h1 h63 hbytes hbase
    exact ⟨v', w', h2, h3, Chg.of_grown h4⟩

theorem wpList_append_run {P : Program} {ops : Array Oper} {rest : List Oper} {o : Oper} {a : Go.Act} {w w' : World} {Q : Exit → Go.Act → World → Prop} (hgd : o.guard = none) (s x : Operand) (t : TypeId)
    (ho : o.op = .call { callee := .builtin .append, args := #[s, x], argTypes := #[t, t] }) {v sv xv : Value} (hs : a.eval s = sv) (hx : a.eval x = xv)
    (hr : (Builtin.append_ #[t, t] o.type #[sv, xv]).run P w = .ok v w') (h : wpList P ops Q rest (a.put o.dst v) w') : wpList P ops Q (o :: rest) a w :=
  wpList_plain hgd fun _ hK => oper_append s x t ho hs hx hr (hK _ _ h)

set_option maxHeartbeats 1000000 in
/-- Messages to all roots that did not answer. -/
theorem all_lacks (w : World) (h : EntIs w x F E pv qa) (kind txn : Int) (hk1 : kind ≠ 1) (gx : Nat) (hgx : w.cell? ⟨gx, 0, none⟩ = some (.pointer (some ⟨x, 0, none⟩))) :
    Calls Try.prog 32 #[ptrV x, .int .i64 kind, .int .i64 txn, .func (.func 43) #[] #[.pointer (some ⟨gx, 0, none⟩)]] w fun e w' => ∃ v, e = .returned v ∧ OwnRecs w' w.heap.size 24 6 v ((lacksOf E E.ps.length).map (fun r => msgC kind 0 r txn false)) ∧ Chg (fun _ => False) w w' := by
  obtain ⟨oa, cap, rfl, -⟩ := h.plans.slice
  rw [List.length_map] at h
  have c2 : w.cell? ⟨x, 2, none⟩ = some (.slice oa E.ps.length cap) := cell_of_block h.head rfl
  obtain ⟨i0, hI0⟩ := info_parts info_msg
  have HI0 := Lib.hid hI0
  have H := Lib.hid h
  have hl6 := h.len
  have HGx := Lib.hid hgx
  clear h hI0
  unfold ptrV
  go_enter Try.func32, Try.ntmps32
  go_wp2_with fail
  go_loopw [9, 18] (fun u j wr => ∃ k : Nat, j = .int .i64 k ∧ k ≤ E.ps.length ∧ OwnRecs wr w.heap.size 24 6 u ((lacksOf E k).map (fun r => msgC kind 0 r txn false)) ∧ Chg (fun _ => False) w wr) (fun _ j _ => E.ps.length - (intOf j).toNat)
  · exact ⟨0, rfl, Nat.zero_le _, by simpa [lacksOf] using OwnRecs.nil w w.heap.size 24 6, Chg.refl _ _⟩
  obtain ⟨k, rfl, hk, ho, hc⟩ := hrel
  have HO := Lib.hid ho
  have HC := Lib.hid hc
  clear ho hc
  by_cases hlt : k < E.ps.length
  · have hki : (k : Int) < (E.ps.length : Int) := by omega
    obtain ⟨g, cap', r, e1, hr, d0, d1⟩ := plan_cells (H.out.fresh HC.out).plans hlt
    simp only [Value.slice.injEq] at e1
    obtain ⟨rfl, -, -⟩ := e1
    have Hr := Lib.hid hr
    clear hr
    have hnew : ∀ (wq : World) (j : Nat) (u : Value), (msgC kind 0 r txn false)[j]? = some u → (wq.alloc (.cells (msgC kind 0 r txn false).toArray 24)).cell? ((⟨wq.heap.size, 0, none⟩ : Addr).add j) = some u := fun wq => cells_new wq (msgC kind 0 r txn false) _
    have HNew := Lib.hid hnew
    have hone : ∀ u ∈ msgC kind 0 r txn false, u.oneCell' = true := by
      intro u hu
      simp only [msgC, List.mem_cons, List.not_mem_nil, or_false] at hu
      rcases hu with rfl | rfl | rfl | rfl | rfl | rfl <;> rfl
    have HOne := Lib.hid hone
    obtain ⟨n, hn⟩ : ∃ n, (lacksOf E k).length = n := ⟨_, rfl⟩
    have hn6 : n ≤ 6 := by
      rw [← hn]
      have : (lacksOf E k).length ≤ k := by unfold lacksOf; exact Nat.le_trans (List.length_filter_le _ _) (by rw [List.length_take]; omega)
      omega
    have htl : ((lacksOf E k).map (fun r => msgC kind 0 r txn false)).length = n := by rw [List.length_map, hn]
    have HTl := Lib.hid htl
    have hsucc := lacksOf_succ E Hr.out
    obtain ⟨bb, hbb⟩ : ∃ bb, (mget E.ans r).getD false = bb := ⟨_, rfl⟩
    rw [hbb] at hsucc
    have HSu := Lib.hid hsucc
    have HBb := Lib.hid hbb
    have hrok := H.out.ok r (List.mem_of_getElem? Hr.out)
    have hkb : (kind == 1) = false := by simp [hk1]
    clear hnew hone htl hn hsucc hbb
    cases bb with
    | true =>
      go_wp2_with (
        (go_at_call 43; refine (tick_closure _ (H.out.fresh (HC.out.alloc _)) gx ((HC.out.alloc _).cell HGx.out id) r hrok).mono ?_; rw [HBb.out]; rintro e w1 ⟨rfl, rfl⟩))
      refine ⟨⟨k + 1, by go_num, hlt, ?_, HC.out.alloc _⟩, meas_step hlt⟩
      rw [HSu.out, if_pos (by trivial), List.append_nil]
      exact HO.out.kept ((Chg.refl (fun _ => False) wr).alloc _) (fun _ _ h => h)
    | false =>
      go_wp2_with (first
        | (go_at_call 43; refine (tick_closure _ (H.out.fresh (HC.out.alloc _)) gx ((HC.out.alloc _).cell HGx.out id) r hrok).mono ?_; rw [HBb.out]; rintro e w1 ⟨rfl, rfl⟩
           obtain ⟨wp, hwp⟩ : ∃ wp, wr.alloc (.cells #[.int .i64 r, .slice none 0 0] 33) = wp := ⟨_, rfl⟩
           rw [hwp]
           have hb0 : wp.heap[wr.heap.size]? = some (.cells #[.int .i64 r, .slice none 0 0] 33 (0, 0)) := by rw [← hwp]; exact block_alloc_new _ _
           have e0 : wp.cell? ⟨wr.heap.size, 0, none⟩ = some (.int .i64 r) := cell_of_block hb0 rfl
           have hcp : Chg (fun _ => False) wr wp := by rw [← hwp]; exact (Chg.refl _ _).alloc _
           have hca := hcp.alloc (.cells (msgC kind 0 r txn false).toArray 24)
           have e2 : (wp.alloc (.cells #[.int .i64 kind, .int .i64 0, .int .i64 r, .int .i64 txn, .bool false, .slice none 0 0] 24)).cell? ⟨wr.heap.size, 1, none⟩ = some (.slice none 0 0) := ((Chg.refl (fun _ => False) wp).alloc _).cell (cell_of_block hb0 rfl) id
           have HC3 := Lib.hid (hca.alloc (.cells (msgC kind 0 r txn false).toArray 24))
           have hnn := HNew.out (wp.alloc (.cells (msgC kind 0 r txn false).toArray 24))
           rw [World.size_alloc] at hnn
           have HNew2 := Lib.hid hnn
           have HCp := Lib.hid hcp
           clear hwp hcp hca hb0 hnn)
        | (at_builtin; refine wpList_append_own_at _ rfl _ _ 28 rfl w.heap.size 24 i0 (.agg (msgC 0 0 0 0 false).toArray) 6 64 Try.underlying28 HI0.out.1 HI0.out.2.1 HI0.out.2.2.1 HI0.out.2.2.2 rfl (by decide) _ _ _ rfl ((HO.out.kept HC3.out (fun _ _ h => h)).row) ⟨wp.heap.size + 1, 0, none⟩ 1 1 (msgC kind 0 r txn false) rfl rfl HNew2.out HOne.out (by rw [HTl.out]; unfold maxLen; omega) (by rw [HTl.out]; omega) (Nat.le_trans HC.out.size HC3.out.size) ?_; intro v6 w6 ho6 hg6 hx1 hx2; have HO6 := Lib.hid ho6; have HG6 := Lib.hid hg6; clear ho6 hg6 hx1 hx2))
      refine ⟨⟨k + 1, by go_num, hlt, ?_, (HC.out.trans' HC3.out).new (Chg.of_grown HG6.out) (fun j e => (HO.out.lt e.symm).1)⟩, meas_step hlt⟩
      rw [HSu.out, if_neg (by simp), List.map_append]
      refine OwnRecs.append ?_ HO.out.each ?_
      · have h1 := HO6.out
        rw [HTl.out] at h1 ⊢
        simpa using h1
      · intro y hy
        simp only [List.map_cons, List.map_nil, List.mem_singleton] at hy
        rw [hy]; rfl
  · have hki : ¬ (k : Int) < (E.ps.length : Int) := by omega
    have hkl : k = E.ps.length := by omega
    rw [hkl] at HO
    clear hkl
    go_wp2_with fail
    go_ret
    exact ⟨_, rfl, HO.out, HC.out⟩


set_option maxHeartbeats 1000000 in
theorem tick_one (w : World) (txn : Int) (ht : 1 ≤ txn ∧ txn ≤ 1099511627776) (hC : CoIs w c Fc lim [(txn, x)] q) (hE : EntIs w x F E pv qa) (hs : E.state = 3) :
    Calls Try.prog 22 #[ptrV c] w fun e w' => ∃ v, e = .returned (.tuple #[v, .slice none 0 0]) ∧ Chg (fun _ => False) w w' := by
  have hmf : ∀ (fn : Fn) (first cap : Array Value) (w : World), (Instr.makeFunc fn first cap).run Try.prog w = .ok (.func fn first cap) w := fun _ _ _ _ => rfl
  obtain ⟨i0, hI0⟩ := info_parts info_msg
  have HI0 := Lib.hid hI0
  have HC := Lib.hid hC
  have HE := Lib.hid hE
  have HS := Lib.hid hs
  have HOp := Lib.hid (open_one w txn hC)
  clear hC hE hs hI0
  unfold ptrV at HOp ⊢
  go_enter Try.func22, Try.ntmps22
  go_wp2_with (go_at_call 17; refine HOp.out.mono ?_; rintro e w1 ⟨g, cap, rfl, hg, hc1⟩; have HG := Lib.hid hg; have HC1 := Lib.hid hc1; clear hg hc1)
  go_loopw [4, 5, 13] (fun a b j wr => ∃ k : Nat, j = .int .i64 k ∧ k ≤ 1 ∧ (k = 0 → a = .slice none 0 0) ∧ b = .slice none 0 0 ∧ Chg (fun _ => False) w1 wr) (fun _ _ j _ => 1 - (intOf j).toNat)
  · exact ⟨0, rfl, Nat.zero_le _, fun _ => rfl, rfl, Chg.refl _ _⟩
  obtain ⟨k, rfl, hk, ha, rfl, hc⟩ := hrel
  have HCx := Lib.hid (HC1.out.trans' hc)
  have HG2 := Lib.hid (hc.cell HG.out id)
  have HCy := Lib.hid hc
  clear hc
  rcases Nat.eq_zero_or_pos k with rfl | hk1
  · obtain rfl := ha rfl
    have g0 := HG2.out
    have hCo := HC.out.fresh HCx.out
    have c1 : wr.cell? ⟨c, 1, none⟩ = some (.map (some q)) := cell_of_block hCo.head rfl
    have hlk := hCo.mp.look Try.underlying71 (zero_ent _) false txn (WalkArith.wf_i64 (by omega))
    have hlk : (Instr.lookup 71 (.map (some q)) (.int .i64 txn) false).run Try.prog wr = .ok (.pointer (some ⟨x, 0, none⟩)) wr := by
      rw [show mget [(txn, x)] txn = some x from by simp [mget]] at hlk; exact hlk
    have hca := (Chg.refl (fun _ => False) wr).alloc (.cells #[.pointer (some ⟨x, 0, none⟩)] 76)
    have hE2 := (HE.out.fresh HCx.out).fresh hca
    have s0 : (wr.alloc (.cells #[.pointer (some ⟨x, 0, none⟩)] 76)).cell? ⟨x, 0, none⟩ = some (.int .i64 3) := by rw [← HS.out]; exact cell_of_block hE2.head rfl
    have hgx : (wr.alloc (.cells #[.pointer (some ⟨x, 0, none⟩)] 76)).cell? ⟨wr.heap.size, 0, none⟩ = some (.pointer (some ⟨x, 0, none⟩)) := cell_of_block (block_alloc_new _ _) rfl
    have HE2 := Lib.hid hE2
    have HGx := Lib.hid hgx
    have HCa := Lib.hid hca
    clear hCo hca hE2 ha
    go_wp2_with (first
      | (go_at_call 32; refine (all_lacks _ HE2.out 3 txn (by decide) wr.heap.size HGx.out).mono ?_; rintro e w5 ⟨v, rfl, ho, hc5⟩
         obtain ⟨v', w6, hap, ho6, hc6⟩ := run_append_recs (w := w5) (base := w5.heap.size) 28 28 24 i0 (.agg (msgC 0 0 0 0 false).toArray) Try.underlying28 HI0.out.1 HI0.out.2.1 HI0.out.2.2.1 HI0.out.2.2.2 rfl (by decide) (.slice none 0 0) v (World.ownsRow_nil _ _ _ _) ho.row (by
           intro u hu
           obtain ⟨r, hr, hur⟩ := List.mem_flatten.1 hu
           obtain ⟨z, -, rfl⟩ := List.mem_map.1 hr
           simp only [msgC, List.mem_cons, List.not_mem_nil, or_false] at hur
           rcases hur with rfl | rfl | rfl | rfl | rfl | rfl <;> rfl) (by
             have h6 := HE2.out.len
             have : (lacksOf E E.ps.length).length ≤ E.ps.length := by unfold lacksOf; exact Nat.le_trans (List.length_filter_le _ _) (by rw [List.length_take]; omega)
             rw [List.length_map]; unfold maxLen; omega) (by
             have h6 := HE2.out.len
             have : (lacksOf E E.ps.length).length ≤ E.ps.length := by unfold lacksOf; exact Nat.le_trans (List.length_filter_le _ _) (by rw [List.length_take]; omega)
             rw [List.length_map]; omega) (Nat.le_refl _)
         have HC5 := Lib.hid hc5
         have HC6 := Lib.hid hc6
         clear ho hc5 ho6 hc6)
      | (at_builtin; refine wpList_append_run rfl _ _ 28 rfl rfl rfl hap ?_))
    refine ⟨⟨1, by go_num, Nat.le_refl _, (fun h => by omega), rfl, ((HCy.out.trans' HCa.out).trans' HC5.out).trans' (HC6.out.mono (fun k _ e => by simp [Value.ownBlock] at e))⟩, by simp [intOf]⟩
  · obtain rfl : k = 1 := by omega
    go_wp2_with fail
    go_ret2
    exact ⟨_, rfl, HCx.out⟩

end Go.Proofs.Ytogjjkbgagedpaa.coords

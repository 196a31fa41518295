/-
  kv: strings.Builder: copyCheck, Len, Write, WriteString, String. After the kit's Builder1 (its theorems are over the shelf's numbering), said with Chg.
-/
import Derived.Test.YtbjagmlbamjdbaaGreatPx1RootStands
import Derived.Test.YtbjagmlbamjdbaaGreatPx10RootStands
import Derived.Lib.Builder
import Derived.Lib.UnsafeStr

section
set_option linter.unusedSimpArgs false
set_option linter.unusedVariables false
namespace Go.Proofs.YtbjagmlbamjdbaaGreat.kvs
open Go.RowKit Go.My disks bufs wals
set_option maxRecDepth 100000

variable {w w' : World}

abbrev IsB (B b : Nat) (bs : Txt) (w : World) : Prop := Lib.IsBuilder 198 5 B b (cellsB bs) w
abbrev UsedB (B b : Nat) (bs : Txt) (w : World) : Prop := Lib.BuilderAt 198 5 B b (.pointer (some ⟨b, 0, none⟩)) (cellsB bs) w

theorem size_builder : (Tryz.prog.info? 198).map (·.size) = some 2 := by kernel_rfl
theorem lies_builder : liesAt Tryz.prog Tryz.prog.depth 198 (2 / Tryz.prog.cellsOf 198) 0 198 1 = true := by kernel_rfl
theorem cells_u8 : Tryz.prog.cellsOf 5 = 1 := by kernel_rfl

set_option maxHeartbeats 1000000 in
theorem check_used (b : Nat) (w : World) (h0 : w.cell? ⟨b, 0, none⟩ = some (.pointer (some ⟨b, 0, none⟩))) :
    Calls Tryz.prog 163 #[.pointer (some ⟨b, 0, none⟩)] w fun e w' => e = .returned (.tuple #[]) ∧ w' = w := by
  obtain ⟨j, hj, _⟩ := Option.map_eq_some_iff.1 size_builder
  go_enter Tryz.func163, Tryz.ntmps163
  go_wp2_with fail
  rw [Lib.run_neq_ptr_same w _ Tryz.underlying196 hj]
  go_wp2_with fail
  go_end0
  exact ⟨rfl, rfl⟩

set_option maxHeartbeats 1000000 in
theorem check_fresh (b : Nat) (w : World) (h0 : w.cell? ⟨b, 0, none⟩ = some (.pointer none)) (hsh : w.shape? b = some (198, 2)) (hfz : w.frozen? ⟨b, 0, none⟩ = false) :
    Calls Tryz.prog 163 #[.pointer (some ⟨b, 0, none⟩)] w fun e w' => e = .returned (.tuple #[]) ∧ w' = w.setCell ⟨b, 0, none⟩ (.pointer (some ⟨b, 0, none⟩)) := by
  obtain ⟨j, hj, hjs⟩ := Option.map_eq_some_iff.1 size_builder
  go_enter Tryz.func163, Tryz.ntmps163
  go_wp2_with fail
  rw [Lib.run_to_unsafe w ⟨b, 0, none⟩ Tryz.underlying196 Tryz.underlying264 hj (by rw [hjs]; decide) hsh (Nat.zero_lt_succ 1)]
  simp only [Result.andThen]
  rw [Oper.upon_value]
  go_wp2_with fail
  rw [run_callFunc_extern Tryz.func185 (by kernel_rfl) (by kernel_rfl) (by kernel_rfl) (e := Extern.AbiNoEscape.same) (by kernel_rfl)]
  rw [Lib.run_noEscape]
  simp only [Result.andThen]
  rw [Oper.upon_value]
  go_wp2_with fail
  rw [Lib.run_from_unsafe w ⟨b, 0, none⟩ Tryz.underlying264 Tryz.underlying196 hj hsh lies_builder]
  simp only [Result.andThen]
  rw [Oper.upon_value]
  go_wp2_with fail
  go_end0
  exact ⟨rfl, rfl⟩

/-- Behind it the builder is used: its own address stands in it. -/
theorem check_any {B b : Nat} {bs : Txt} (w : World) (h : IsB B b bs w) :
    Calls Tryz.prog 163 #[.pointer (some ⟨b, 0, none⟩)] w fun e w' => e = .returned (.tuple #[]) ∧ UsedB B b bs w' ∧ Chg (· = b) w w' := by
  rcases h with h | h
  · refine (check_fresh b w h.cell0 h.shape h.frozen0).mono ?_
    rintro e w' ⟨rfl, rfl⟩
    exact ⟨rfl, h.used _, (Chg.refl (· = b) w).setCell (p := ⟨b, 0, none⟩) (fun _ => rfl) _⟩
  · refine (check_used b w h.cell0).mono ?_
    rintro e w' ⟨rfl, rfl⟩
    exact ⟨rfl, h, Chg.refl _ _⟩

set_option maxHeartbeats 1000000 in
theorem blen_any {B b : Nat} {bs : Txt} (w : World) (h : UsedB B b bs w) :
    Calls Tryz.prog 124 #[.pointer (some ⟨b, 0, none⟩)] w fun e w' => e = .returned (.int .i64 (bs.length : Int)) ∧ w' = w := by
  obtain ⟨hB, v, hbk, hown, hne⟩ := h
  rw [cellsB_length] at hown
  obtain ⟨ao, cap, rfl⟩ : ∃ ao cap, v = .slice ao bs.length cap := own_slice hown
  have c1 : w.cell? ⟨b, 1, none⟩ = some (.slice ao bs.length cap) := by rw [Lib.cell_of_heap hbk]; rfl
  clear hbk hown hne
  go_enter Tryz.func124, Tryz.ntmps124
  go_wp2_with fail
  go_ret
  exact ⟨rfl, rfl⟩

theorem neB : (198 : TypeId) ≠ 5 := by decide

/-- An append onto the buffer, laid into the builder. -/
theorem put_grown {B b : Nat} {cs : Txt} {v v' : Value} {n : Nat} {w1 w2 : World} (hB : B ≤ b) (hbk : w1.heap[b]? = some (.cells #[.pointer (some ⟨b, 0, none⟩), v] 198 (0, 0)))
    (hown : w2.ownsRow B 5 1 v' n (cellsB cs)) (hn : n = cs.length) (hg : Chg (fun k => some k = v.ownBlock) w1 w2) (hne : v.ownBlock ≠ some b) :
    w2.heap[b]? = some (.cells #[.pointer (some ⟨b, 0, none⟩), v] 198 (0, 0)) ∧ UsedB B b cs (w2.setCell ⟨b, 1, none⟩ v') := by
  have hb2 : w2.heap[b]? = some (.cells #[.pointer (some ⟨b, 0, none⟩), v] 198 (0, 0)) := hg.at hbk (fun e => hne e.symm)
  exact ⟨hb2, Lib.BuilderAt.put (T := 198) (e := 5) hB hb2 (bs' := cellsB cs) (by rw [cellsB_length, ← hn]; exact hown) neB⟩

theorem append_string {base n : Nat} {v : Value} {xs : Txt} {s : ByteArray} (h : w.ownsRow base 5 1 v n (cellsB xs)) (hb : base ≤ w.heap.size) (hl : xs.length + s.size ≤ 140737488355328) (ty : TypeId) :
    ∃ v' w', (Builtin.append_ #[101, 9] ty #[v, .string s]).run Tryz.prog w = .ok v' w' ∧ w'.ownsRow base 5 1 v' (xs ++ s.data.toList).length (cellsB (xs ++ s.data.toList)) ∧ Chg (fun k => some k = v.ownBlock) w w' := by
  obtain ⟨i, hi, hz, hs, hby⟩ := u8_parts
  have hn := own_len h
  obtain ⟨v', w', h1, h2, h3, -⟩ := Lib.run_append_own_string (P := Tryz.prog) w base 101 9 ty 5 i Tryz.underlying101 Tryz.underlying9 hi hz hs hby v n (cellsB xs) h s (by unfold maxLen; omega) (by omega) hb
  refine ⟨v', w', h1, ?_, Chg.of_grown h3⟩
  have e1 : (xs ++ s.data.toList).length = n + s.size := by rw [List.length_append, hn]; rfl
  have e2 : cellsB (xs ++ s.data.toList) = cellsB xs ++ Lib.strCells s := by simp [cellsB, Lib.strCells]
  rw [e1, e2]
  exact h2

theorem append_slice {base n : Nat} {v : Value} {xs ys : Txt} {oa : Option Addr} {m cap : Nat} (h : w.ownsRow base 5 1 v n (cellsB xs)) (hs : SlAt w (.slice oa m cap) (cellsB ys)) (hb : base ≤ w.heap.size) (hl : xs.length + ys.length ≤ 140737488355328) (ty : TypeId) :
    ∃ v' w', (Builtin.append_ #[101, 101] ty #[v, .slice oa m cap]).run Tryz.prog w = .ok v' w' ∧ w'.ownsRow base 5 1 v' (xs ++ ys).length (cellsB (xs ++ ys)) ∧ Chg (fun k => some k = v.ownBlock) w w' := by
  obtain ⟨v', w', h1, h2, h3, -⟩ := append_bytes h hs hb hl ty
  exact ⟨v', w', h1, h2, Chg.of_grown h3⟩

set_option maxHeartbeats 2000000 in
theorem writeString_any {B b : Nat} {bs : Txt} (w : World) (h : IsB B b bs w) (hBw : B ≤ w.heap.size) (t : Txt) (hl : bs.length + t.length ≤ 1000000) :
    Calls Tryz.prog 122 #[.pointer (some ⟨b, 0, none⟩), strV t] w fun e w' => (∃ v, e = .returned v) ∧ UsedB B b (bs ++ t) w' ∧ Chg (fun k => B ≤ k) w w' := by
  obtain ⟨s, hs⟩ : ∃ s : ByteArray, strV t = .string s := ⟨_, rfl⟩
  have hsz := str_size t s hs
  have hst : s.data.toList = t := by
    have : Value.string (⟨t.toArray⟩ : ByteArray) = .string s := hs
    simp only [Value.string.injEq] at this
    rw [← this]
  rw [hs]
  clear hs
  go_enter Tryz.func122, Tryz.ntmps122
  go_wp2_with (go_at_call 163; refine (check_any _ h).mono ?_)
  rintro e w1 ⟨rfl, h1, hb1⟩
  obtain ⟨hB, v, hbk, hown, hne⟩ := h1
  rw [cellsB_length] at hown
  have c0 : w1.cell? ⟨b, 0, none⟩ = some (.pointer (some ⟨b, 0, none⟩)) := by rw [Lib.cell_of_heap hbk]; rfl
  have c1 : w1.cell? ⟨b, 1, none⟩ = some v := by rw [Lib.cell_of_heap hbk]; rfl
  obtain ⟨v2, w2, hr, ho, hg⟩ := append_string (s := s) hown (by have := hb1.size; omega) (by omega) 101
  obtain ⟨hb2, hU⟩ := put_grown hB hbk ho rfl hg hne
  have d0 : w2.cell? ⟨b, 0, none⟩ = some (.pointer (some ⟨b, 0, none⟩)) := by rw [Lib.cell_of_heap hb2]; rfl
  have d1 : w2.cell? ⟨b, 1, none⟩ = some v := by rw [Lib.cell_of_heap hb2]; rfl
  have f1 : w2.frozen? ⟨b, 1, none⟩ = false := Lib.frozen_of_heap hb2 1
  have hc2 : Chg (fun k => B ≤ k) w w2 := (hb1.mono (fun k _ hk => by rw [hk]; exact hB)).trans (hg.mono (fun k _ hk => (hown.lt k hk.symm).1)) (fun _ _ h => h)
  obtain ⟨N, hN⟩ : ∃ N, (bs ++ s.data.toList).length = N := ⟨_, rfl⟩
  rw [hN] at ho
  obtain ⟨oa, cap, rfl⟩ := own_slice ho
  have HR := Lib.hid hr
  have HU := Lib.hid hU
  have HC := Lib.hid (hc2.setCell (p := ⟨b, 1, none⟩) (fun _ => hB) (.slice oa N cap))
  clear hr hU hc2 hg ho hown hbk hb2 hb1 hN
  go_wp2_with (first
    | (at_builtin; refine Lib.wpList_append_run _ rfl _ _ _ _ rfl _ _ rfl rfl _ _ HR.out ?_))
  go_ret2
  rw [← hst]
  exact ⟨⟨_, rfl⟩, HU.out, HC.out⟩

set_option maxHeartbeats 2000000 in
theorem write_any {B b : Nat} {bs : Txt} (w : World) (h : IsB B b bs w) (hBw : B ≤ w.heap.size) (x : Value) (t : Txt) (ht : SlAt w x (cellsB t)) (hfar : ∀ g, x.ownBlock = some g → g ≠ b) (hl : bs.length + t.length ≤ 1000000) :
    Calls Tryz.prog 120 #[.pointer (some ⟨b, 0, none⟩), x] w fun e w' => (∃ v, e = .returned v) ∧ UsedB B b (bs ++ t) w' ∧ Chg (fun k => B ≤ k) w w' := by
  obtain ⟨oa, cap, rfl⟩ := SlAt.shape ht
  go_enter Tryz.func120, Tryz.ntmps120
  go_wp2_with (go_at_call 163; refine (check_any _ h).mono ?_)
  rintro e w1 ⟨rfl, h1, hb1⟩
  obtain ⟨hB, v, hbk, hown, hne⟩ := h1
  rw [cellsB_length] at hown
  have ht1 : SlAt w1 (.slice oa t.length cap) (cellsB t) := by
    obtain ⟨oa', cap', he, k2, k3⟩ := ht
    rw [cellsB_length] at he
    cases he
    refine ⟨oa, cap, by rw [cellsB_length], k2, fun g off ho i y hy => hb1.cell (k3 g off ho i y hy) ?_⟩
    subst ho
    exact fun e => hfar g rfl e
  have c0 : w1.cell? ⟨b, 0, none⟩ = some (.pointer (some ⟨b, 0, none⟩)) := by rw [Lib.cell_of_heap hbk]; rfl
  have c1 : w1.cell? ⟨b, 1, none⟩ = some v := by rw [Lib.cell_of_heap hbk]; rfl
  obtain ⟨v2, w2, hr, ho, hg⟩ := append_slice hown ht1 (by have := hb1.size; omega) (by omega) 101
  obtain ⟨hb2, hU⟩ := put_grown hB hbk ho rfl hg hne
  have d0 : w2.cell? ⟨b, 0, none⟩ = some (.pointer (some ⟨b, 0, none⟩)) := by rw [Lib.cell_of_heap hb2]; rfl
  have d1 : w2.cell? ⟨b, 1, none⟩ = some v := by rw [Lib.cell_of_heap hb2]; rfl
  have f1 : w2.frozen? ⟨b, 1, none⟩ = false := Lib.frozen_of_heap hb2 1
  have hc2 : Chg (fun k => B ≤ k) w w2 := (hb1.mono (fun k _ hk => by rw [hk]; exact hB)).trans (hg.mono (fun k _ hk => (hown.lt k hk.symm).1)) (fun _ _ h => h)
  obtain ⟨N, hN⟩ : ∃ N, (bs ++ t).length = N := ⟨_, rfl⟩
  rw [hN] at ho
  obtain ⟨oa2, cap2, rfl⟩ := own_slice ho
  have HR := Lib.hid hr
  have HU := Lib.hid hU
  have HC := Lib.hid (hc2.setCell (p := ⟨b, 1, none⟩) (fun _ => hB) (.slice oa2 N cap2))
  clear hr hU hc2 hg ho hown hbk hb2 hb1 hN ht ht1
  go_wp2_with (first
    | (at_builtin; refine Lib.wpList_append_run _ rfl _ _ _ _ rfl _ _ rfl rfl _ _ HR.out ?_))
  go_ret2
  exact ⟨⟨_, rfl⟩, HU.out, HC.out⟩

set_option maxHeartbeats 2000000 in
/-- String: of a builder that holds a byte. The buffer's bytes are frozen. -/
theorem string_any {B b : Nat} {bs : Txt} (w : World) (h : UsedB B b bs w) (h0 : bs ≠ []) :
    Calls Tryz.prog 125 #[.pointer (some ⟨b, 0, none⟩)] w fun e w' => e = .returned (strV bs) ∧ Chg (fun k => B ≤ k) w w' := by
  obtain ⟨hB, v, hbk, hown, hne⟩ := h
  rw [cellsB_length] at hown
  have hl0 : bs.length ≠ 0 := by simpa using h0
  obtain ⟨g, cap, cur, rfl, hbg, hg, hnc, hcm, hcs, htake⟩ : ∃ g cap cur, v = .slice (some ⟨g, 0, none⟩) bs.length cap ∧ B ≤ g ∧ w.heap[g]? = some (.cells cur 5 (0, 0)) ∧ bs.length ≤ cap ∧ cap ≤ maxLen ∧ cur.size = cap * 1 ∧ cur.toList.take (bs.length * 1) = cellsB bs := by
    rcases hown.2 with ⟨_, hz⟩ | ⟨g, cap, cur, hv, r⟩
    · exact absurd hz hl0
    · exact ⟨g, cap, cur, hv, r⟩
  have c1 : w.drew.cell? ⟨b, 1, none⟩ = some (.slice (some ⟨g, 0, none⟩) bs.length cap) := by
    have : w.drew.heap[b]? = some (.cells #[.pointer (some ⟨b, 0, none⟩), .slice (some ⟨g, 0, none⟩) bs.length cap] 198 (0, 0)) := hbk
    rw [Lib.cell_of_heap this]; rfl
  have hSD : (Builtin.unsafeSliceData_ #[101] 241 #[.slice (some ⟨g, 0, none⟩) bs.length cap]).run Tryz.prog w.drew = .ok (.pointer (some ⟨g, 0, none⟩)) w.drew :=
    Lib.run_unsafeSliceData_row _ _ _ _ _ _ (by omega)
  have hUS : (Builtin.unsafeString_ #[241, 3] 9 #[.pointer (some ⟨g, 0, none⟩), .int .i64 bs.length]).run Tryz.prog w.drew = .ok (.string ⟨bs.toArray⟩) (w.drew.freeze ⟨g, 0, none⟩ bs.length) := by
    refine Lib.run_unsafeString_row w.drew 241 3 9 5 Tryz.underlying241 cells_u8 g cur.size (by have hg' : w.drew.heap[g]? = some (.cells cur 5 (0, 0)) := hg; simp [World.shape?, hg']) bs h0 (by omega) (by unfold maxLen at hcm; omega) ?_
    intro j x hx
    have := hown.cells (g := g) rfl j (.int .u8 x.toNat) (by simp [cellsB, hx])
    exact this
  have hcf : Chg (fun k => B ≤ k) w (w.drew.freeze ⟨g, 0, none⟩ bs.length) := by
    refine (Chg.refl _ w).drew.trans (?_ : Chg (fun k => B ≤ k) w.drew _) (fun _ _ h => h)
    unfold World.freeze
    split
    · exact Chg.refl _ _
    · refine ⟨rfl, rfl, rfl, by simp, fun k hk hn => ?_⟩
      simp only [Array.getElem?_modify]
      rw [if_neg (fun e => hn (by rw [← e]; exact hbg))]
  have HC := Lib.hid hcf
  clear hcf hown hg htake hbk hne
  go_enter Tryz.func125, Tryz.ntmps125
  go_wp2_with fail
  go_region
  all_goals (go_wp2_with fail; go_ret; exact ⟨rfl, HC.out⟩)

end Go.Proofs.YtbjagmlbamjdbaaGreat.kvs
end

/-
  kv: text, change.
-/
section
set_option linter.unusedSimpArgs false
set_option linter.unusedVariables false
namespace Go.Proofs.YtbjagmlbamjdbaaGreat.kvs
open Go.RowKit Go.My disks bufs wals
set_option maxRecDepth 100000

variable {w w' : World}

theorem str_append (a b : Txt) : (⟨a.toArray⟩ : ByteArray) ++ (⟨b.toArray⟩ : ByteArray) = ⟨(a ++ b).toArray⟩ := by
  apply ByteArray.ext
  simp
theorem strV_string (b : Txt) (s : ByteArray) (h : strV b = .string s) : s = ⟨b.toArray⟩ := by
  have : Value.string (⟨b.toArray⟩ : ByteArray) = .string s := h
  simp only [Value.string.injEq] at this
  exact this.symm

set_option maxHeartbeats 1000000 in
theorem text_any (w : World) (t : Txt) (hn : t.length < 16384) : Calls Tryz.prog 164 #[strV t] w fun e w' => e = .returned (strV (textB t)) ∧ Chg (fun _ => False) w w' := by
  obtain ⟨s, hs⟩ : ∃ s : ByteArray, strV t = .string s := ⟨_, rfl⟩
  have hsz := str_size t s hs
  have hst := strV_string t s hs
  rw [hs]
  clear hs
  have hi : (s.size : Int) < 16384 := by omega
  have HV := Lib.hid (fun w => var_any w s.size (by omega))
  have hlen : textB t = varB s.size ++ t := by rw [hsz]; rfl
  rw [hlen]
  have HST := Lib.hid hst
  have hfit : ¬ 9223372036854775807 < (varB s.size).length + s.size := by have := (varB_length s.size).1; omega
  clear hsz hst hlen
  go_enter Tryz.func164, Tryz.ntmps164
  go_wp2_with (first
    | (go_at_call 121; refine (HV.out _).mono ?_; rintro e w1 ⟨v, rfl, ho, hc⟩
       have hcv := conv_own ho
       obtain ⟨oa, cap, rfl⟩ := own_slice ho
       have HC := Lib.hid hc
       clear ho hc))
  go_ret
  refine ⟨?_, HC.out⟩
  rw [HST.out, str_append]
  rfl

theorem quiet_concat {P : Program} {C : World → Prop} {a : Act} {o : Oper} {K : Act → Prop} (ty : TypeId) (x y : Operand) (ty' : TypeId) (h : o.op = .binOp .add ty x y ty') (s t : ByteArray) (hx : a.eval x = .string s) (hy : a.eval y = .string t)
    (hl : s.size + t.size ≤ 9223372036854775807) (hk : K (a.put o.dst (.string (s ++ t)))) : o.quiet P a C K := by
  refine ⟨_, fun w _ => ?_, hk⟩
  unfold Oper.quietAt
  have : (execOp a.eval o).run P w = .ok (.value (.string (s ++ t))) w := by
    unfold execOp
    rw [h]
    simp [binOp, hx, hy, eqGuard, run_string_add_sum _ s t hl]
  rw [this]
  exact ⟨rfl, rfl⟩

theorem textB_length (t : Txt) : (textB t).length ≤ 10 + t.length := by
  have := (varB_length t.length).1
  unfold textB
  rw [List.length_append]
  omega

set_option maxHeartbeats 1000000 in
theorem change_any (w : World) (p : PV) (hk : p.key.length < 16384) (hv : p.val.length < 16384) : Calls Tryz.prog 123 #[.agg p.row.toArray] w fun e w' => e = .returned (strV p.bytes) ∧ Chg (fun _ => False) w w' := by
  obtain ⟨key, val, gone⟩ := p
  unfold PV.row PV.bytes
  simp only at hk hv ⊢
  have HK := Lib.hid (fun w => text_any w key hk)
  have HV := Lib.hid (fun w => text_any w val hv)
  have hlk := textB_length key
  have hlv := textB_length val
  obtain ⟨sk, hsk⟩ : ∃ s : ByteArray, strV key = .string s := ⟨_, rfl⟩
  obtain ⟨sv, hsv⟩ : ∃ s : ByteArray, strV val = .string s := ⟨_, rfl⟩
  obtain ⟨tk, htk⟩ : ∃ s : ByteArray, strV (textB key) = .string s := ⟨_, rfl⟩
  obtain ⟨tv, htv⟩ : ∃ s : ByteArray, strV (textB val) = .string s := ⟨_, rfl⟩
  rw [hsk, htk] at HK
  rw [hsv, htv] at HV
  have h1 := str_size _ tk htk
  have h2 := str_size _ tv htv
  have e1 := strV_string _ tk htk
  have e2 := strV_string _ tv htv
  rw [hsk, hsv]
  clear hsk hsv htk htv
  have hca : Chg (fun _ => False) w (w.alloc (.cells #[.string sk, .string sv, .bool gone] 103)) := (Chg.refl _ _).alloc _
  have hB : (w.alloc (.cells #[.string sk, .string sv, .bool gone] 103)).heap[w.heap.size]? = some (.cells #[.string sk, .string sv, .bool gone] 103 (0, 0)) := block_alloc_new _ _
  have E1 := Lib.hid e1
  have E2 := Lib.hid e2
  have HCa := Lib.hid hca
  have hfit : ¬ 9223372036854775807 < 1 + tk.size := by omega
  have hfit2 : ¬ 9223372036854775807 < 1 + tk.size + tv.size := by omega
  have HB := Lib.hid hB
  clear e1 e2 hca hB h1 h2 hk hv hlk hlv
  cases gone
  · have q0 : ∀ n : FreshW (w.alloc (.cells #[.string sk, .string sv, .bool false] 103)), n.val.cell? ⟨w.heap.size, 0, none⟩ = some (.string sk) := fun n => n.chg.cell (cell_of_block HB.out (i := 0) rfl) id
    have q1 : ∀ n : FreshW (w.alloc (.cells #[.string sk, .string sv, .bool false] 103)), n.val.cell? ⟨w.heap.size, 1, none⟩ = some (.string sv) := fun n => n.chg.cell (cell_of_block HB.out (i := 1) rfl) id
    have hk : ∀ m : FreshW (w.alloc (.cells #[.string sk, .string sv, .bool false] 103)), Calls Tryz.prog 164 #[.string sk] m.val fun e w'' => e = .returned (.string tk) ∧ ∃ m' : FreshW (w.alloc (.cells #[.string sk, .string sv, .bool false] 103)), w'' = m'.val := fun m => fresh_call (HK.out _)
    have hv : ∀ m : FreshW (w.alloc (.cells #[.string sk, .string sv, .bool false] 103)), Calls Tryz.prog 164 #[.string sv] m.val fun e w'' => e = .returned (.string tv) ∧ ∃ m' : FreshW (w.alloc (.cells #[.string sk, .string sv, .bool false] 103)), w'' = m'.val := fun m => fresh_call (HV.out _)
    have hl1 : (⟨#[0]⟩ : ByteArray).size + tk.size ≤ 9223372036854775807 := by have : (⟨#[0]⟩ : ByteArray).size = 1 := rfl; omega
    have hl2 : ((⟨#[0]⟩ : ByteArray) ++ tk).size + tv.size ≤ 9223372036854775807 := by have : (⟨#[0]⟩ : ByteArray).size = 1 := rfl; rw [ByteArray.size_append]; omega
    have HKq := Lib.hid hk
    have HVq := Lib.hid hv
    clear hk hv
    go_enter Tryz.func123, Tryz.ntmps123
    go_wp2_with fail
    refine wp_region_fresh (by kernel_rfl) (by kernel_rfl) ?_
    iterate 3 (go_big_quiet_step ((go_at_call 164; exact HKq.out _)))
    go_big_quiet_want
    refine quiet_concat _ _ _ _ rfl _ _ rfl rfl hl1 ?_
    simp only [Act.put, List.setIfInBounds_toArray, List.set_cons_succ, List.set_cons_zero]
    go_big_quiet_on
    iterate 3 (go_big_quiet_step ((go_at_call 164; exact HVq.out _)))
    go_big_quiet_want
    refine quiet_concat _ _ _ _ rfl _ _ rfl rfl hl2 ?_
    simp only [Act.put, List.setIfInBounds_toArray, List.set_cons_succ, List.set_cons_zero]
    go_big_quiet_on
    go_big_quiet_step (fail)
    refine wpQuiet_nil ?_
    rintro _ ⟨n1, rfl⟩
    go_wp2_with fail
    go_ret
    refine ⟨?_, HCa.out.trans' n1.chg⟩
    rw [E1.out, E2.out, show (⟨#[0]⟩ : ByteArray) = ⟨([0] : Txt).toArray⟩ from rfl, str_append, str_append]
    rfl
  · go_enter Tryz.func123, Tryz.ntmps123
    go_wp2_with (first
      | (go_at_call 164; refine (HK.out _).mono ?_; rintro e w1 ⟨rfl, hc⟩
         have HC := Lib.hid hc
         clear hc))
    go_ret
    refine ⟨?_, HCa.out.trans' HC.out⟩
    rw [E1.out, show (⟨#[1]⟩ : ByteArray) = ⟨([1] : Txt).toArray⟩ from rfl, str_append]
    rfl

end Go.Proofs.YtbjagmlbamjdbaaGreat.kvs
end

/-
  kv: a batch in the memory; IndexFunc, ContainsFunc over it with Encode's closure.
-/
section
set_option linter.unusedSimpArgs false
set_option linter.unusedVariables false
namespace Go.Proofs.YtbjagmlbamjdbaaGreat.kvs
open Go.RowKit Go.My disks bufs wals
set_option maxRecDepth 100000

variable {w w' : World}

/-- The changes in the memory. -/
abbrev Puts (w : World) (B : Nat) (v : Value) (l : List PV) : Prop := OwnRecs w B 103 3 v (l.map PV.row)

theorem puts_meas {a k : Nat} (h : k < a) : a - (intOf (.int .i64 ((k : Int) + 1))).toNat < a - (intOf (.int .i64 (k : Int))).toNat := by simp [intOf]; omega

theorem put_cells {B : Nat} {v : Value} {l : List PV} {w : World} (h : Puts w B v l) {k : Nat} (hk : k < l.length) :
    ∃ g cap p, v = .slice (some ⟨g, 0, none⟩) l.length cap ∧ l[k]? = some p ∧ w.cell? ⟨g, k * 3, none⟩ = some (strV p.key) ∧ w.cell? ⟨g, k * 3 + 1, none⟩ = some (strV p.val) ∧ w.cell? ⟨g, k * 3 + 2, none⟩ = some (.bool p.gone) := by
  obtain ⟨g, cap, e, -, -, -, hc, -⟩ := h.cell (k := k) (by simpa using hk)
  rw [List.length_map] at e
  have hr : (l.map PV.row)[k]'(by simpa using hk) = PV.row l[k] := by rw [List.getElem_map]
  rw [hr] at hc
  exact ⟨g, cap, l[k], e, List.getElem?_eq_getElem hk, hc 0 _ rfl, hc 1 _ rfl, hc 2 _ rfl⟩

theorem not_may_any (w : World) (p : PV) : Calls Tryz.prog 118 #[.agg p.row.toArray] w fun e w' => e = .returned (.bool (!p.may)) ∧ Chg (fun _ => False) w w' := by
  have HM := Lib.hid (fun w => may_any w p)
  have hca : Chg (fun _ => False) w (w.alloc (.cells p.row.toArray 103)) := (Chg.refl _ _).alloc _
  have HCa := Lib.hid hca
  obtain ⟨b, hb⟩ : ∃ b, p.may = b := ⟨_, rfl⟩
  rw [hb] at HM ⊢
  unfold PV.row at *
  clear hca hb
  go_enter Tryz.func118, Tryz.ntmps118
  go_wp2_with (go_at_call 119; refine (HM.out _).mono ?_; rintro e w1 ⟨rfl, hc⟩; have HC := Lib.hid hc; clear hc)
  go_ret
  exact ⟨rfl, HCa.out.trans' HC.out⟩

set_option maxHeartbeats 1000000 in
theorem index_any (w : World) {B : Nat} {v : Value} {l : List PV} (h : Puts w B v l) (hl : l.length ≤ 1000000) :
    Calls Tryz.prog 162 #[v, .func (.func 118) #[] #[]] w fun e w' => (((∀ p ∈ l, p.may = true) ∧ e = .returned (.int .i64 (-1))) ∨ (∃ p ∈ l, p.may = false) ∧ ∃ k : Nat, e = .returned (.int .i64 (k : Int))) ∧ Chg (fun _ => False) w w' := by
  obtain ⟨oa, cap, rfl, -⟩ := h.slice
  rw [List.length_map] at h ⊢
  have H := Lib.hid h
  clear h
  go_enter Tryz.func162, Tryz.ntmps162
  go_wp2_with fail
  go_loopw [8] (fun j wr => ∃ k : Nat, j = .int .i64 k ∧ k ≤ l.length ∧ (∀ p ∈ l.take k, p.may = true) ∧ Chg (fun _ => False) w wr) (fun j _ => l.length - (intOf j).toNat)
  · exact ⟨0, rfl, Nat.zero_le _, by simp, Chg.refl _ _⟩
  obtain ⟨k, rfl, hk, hno, hc⟩ := hrel
  have HC := Lib.hid hc
  have HNo := Lib.hid hno
  clear hc hno
  by_cases hlt : k < l.length
  · have hki : (k : Int) < (l.length : Int) := by omega
    obtain ⟨g', cap', p, e1, hr, d0, d1, d2⟩ := put_cells (H.out.kept HC.out (fun _ _ h => h)) hlt
    simp only [Value.slice.injEq] at e1
    obtain ⟨rfl, -, -⟩ := e1
    have HM := Lib.hid (fun w => not_may_any w p)
    have Hr := Lib.hid hr
    clear hr
    cases hm : p.may
    · rw [hm] at HM
      have Hm := Lib.hid hm
      clear hm
      unfold PV.row at HM
      go_wp2_with (first
        | (go_at_call 118; refine (HM.out _).mono ?_; rintro e w1 ⟨rfl, hc1⟩; have HC1 := Lib.hid hc1; clear hc1))
      go_ret
      exact ⟨Or.inr ⟨⟨p, List.mem_of_getElem? Hr.out, Hm.out⟩, k, rfl⟩, HC.out.trans' HC1.out⟩
    · rw [hm] at HM
      have Hm := Lib.hid hm
      clear hm
      unfold PV.row at HM
      go_wp2_with (first
        | (go_at_call 118; refine (HM.out _).mono ?_; rintro e w1 ⟨rfl, hc1⟩; have HC1 := Lib.hid hc1; clear hc1))
      refine ⟨⟨k + 1, by go_num, hlt, fun q hq => ?_, HC.out.trans' HC1.out⟩, puts_meas hlt⟩
      rw [List.take_add_one, Hr.out, Option.toList_some] at hq
      rcases List.mem_append.1 hq with hq | hq
      · exact HNo.out q hq
      · rw [List.mem_singleton] at hq; subst hq; exact Hm.out
  · have hki : ¬ (k : Int) < (l.length : Int) := by omega
    obtain rfl : k = l.length := by omega
    go_wp2_with fail
    go_ret
    exact ⟨Or.inl ⟨by have := HNo.out; rwa [List.take_length] at this, rfl⟩, HC.out⟩

theorem bad_of {l : List PV} (h : ∃ p ∈ l, p.may = false) : (decide (∃ p ∈ l, p.may = false)) = true := by simpa using h

set_option maxHeartbeats 1000000 in
theorem contains_any (w : World) {B : Nat} {v : Value} {l : List PV} (h : Puts w B v l) (hl : l.length ≤ 1000000) :
    Calls Tryz.prog 117 #[v, .func (.func 118) #[] #[]] w fun e w' => e = .returned (.bool (decide (∃ p ∈ l, p.may = false))) ∧ Chg (fun _ => False) w w' := by
  have HI := Lib.hid (index_any w h hl)
  clear h
  go_enter Tryz.func117, Tryz.ntmps117
  go_wp2_with (go_at_call 162; refine HI.out.mono ?_; rintro e w1 ⟨h1, hc1⟩; have HC1 := Lib.hid hc1; clear hc1; have H1 := Lib.hid h1; clear h1; obtain ⟨z, hz⟩ : ∃ z : Int, e = .returned (.int .i64 z) := (by rcases H1.out with ⟨-, h⟩ | ⟨-, k, h⟩ <;> exact ⟨_, h⟩); subst hz)
  go_ret
  refine ⟨?_, HC1.out⟩
  rcases H1.out with ⟨h1, h2⟩ | ⟨h1, k, h2⟩
  · have hz : z = -1 := by simpa using h2
    subst hz
    have : ¬ ∃ p ∈ l, p.may = false := by rintro ⟨p, hp, h⟩; rw [h1 p hp] at h; cases h
    simp [this]
  · have hz : z = k := by simpa using h2
    subst hz
    simp [bad_of h1]

end Go.Proofs.YtbjagmlbamjdbaaGreat.kvs
end

/-
  kv: Encode.
-/
section
set_option linter.unusedSimpArgs false
set_option linter.unusedVariables false
namespace Go.Proofs.YtbjagmlbamjdbaaGreat.kvs
open Go.RowKit Go.My disks bufs wals
set_option maxRecDepth 100000

variable {w w' : World}

theorem allB_take {l : List PV} {k : Nat} {p : PV} (h : l[k]? = some p) : allB (l.take (k + 1)) = allB (l.take k) ++ p.bytes := by
  rw [List.take_add_one, h, Option.toList_some, allB_append, allB_one]
theorem allB_len (l : List PV) (h : ∀ p ∈ l, p.may = true) : (allB l).length ≤ 1111 * l.length := by
  induction l with
  | nil => simp [allB]
  | cons p l ih =>
    have h1 := bytes_length p (h p (by simp))
    have h2 := ih (fun q hq => h q (by simp [hq]))
    have h3 : allB (p :: l) = p.bytes ++ allB l := by simp [allB]
    rw [h3, List.length_append, List.length_cons]
    omega

theorem bld_kept {B b : Nat} {p : Value} {bs : List Value} {S : Nat → Prop} (h : Lib.BuilderAt 198 5 B b p bs w) (hc : Chg S w w') (hS : ∀ k, S k → k < w.heap.size → False) : Lib.BuilderAt 198 5 B b p bs w' := by
  have hc' : Chg (fun _ => False) w w' := hc.mono (fun k hk hs => hS k hs hk)
  obtain ⟨hB, v, hb, ho, hne⟩ := h
  exact ⟨hB, v, hc'.at hb id, own_kept ho hc', hne⟩
theorem used_kept {B b : Nat} {bs : Txt} (h : UsedB B b bs w) (hc : Chg (fun _ => False) w w') : UsedB B b bs w' := bld_kept h hc (fun _ h _ => h)
theorem isB_new (w : World) : IsB w.heap.size w.heap.size [] (w.alloc (.cells #[.pointer none, .slice none 0 0] 198)) :=
  Or.inl ⟨Nat.le_refl _, _, block_alloc_new _ _, World.ownsRow_nil _ _ _ _, by simp [Value.ownBlock]⟩
theorem isB_kept {B b : Nat} {bs : Txt} (h : IsB B b bs w) (hc : Chg (fun _ => False) w w') : IsB B b bs w' :=
  h.imp (fun h => bld_kept h hc (fun _ h _ => h)) (fun h => bld_kept h hc (fun _ h _ => h))

set_option maxHeartbeats 2000000 in
theorem encode_any (w : World) {B : Nat} {v : Value} {l : List PV} (h : Puts w B v l) (hl : l.length ≤ 1000000) :
    Calls Tryz.prog 66 #[v] w fun e w' => e = .returned (.tuple #[strV (encF l).1, .int .i64 ((encF l).2 : Int)]) ∧ Chg (fun _ => False) w w' := by
  have HF := Lib.hid (contains_any w h hl)
  obtain ⟨oa, cap, rfl, -⟩ := h.slice
  rw [List.length_map] at h HF ⊢
  have H := Lib.hid h
  clear h
  obtain ⟨R, hR⟩ : ∃ R, encF l = R := ⟨_, rfl⟩
  rw [hR]
  have HR := Lib.hid hR
  clear hR
  by_cases h0 : l.length = 0
  · have h0i : (l.length : Int) = 0 := by omega
    have hR : R = ([], 2) := by rw [← HR.out]; unfold encF; rw [if_pos (Or.inl (List.eq_nil_of_length_eq_zero h0))]
    subst hR
    clear HR
    go_enter Tryz.func66, Tryz.ntmps66
    go_wp2_with fail
    go_ret2
    exact ⟨rfl, Chg.refl _ _⟩
  · have h0i : ¬ (l.length : Int) = 0 := by omega
    by_cases hb : ∃ p ∈ l, p.may = false
    · have hR : R = ([], 2) := by rw [← HR.out]; unfold encF; rw [if_pos (Or.inr hb)]
      subst hR
      rw [decide_eq_true hb] at HF
      clear HR hb
      go_enter Tryz.func66, Tryz.ntmps66
      go_wp2_with (first
        | (go_at_call 117; refine HF.out.mono ?_; rintro e w1 ⟨rfl, hc1⟩; have HC1 := Lib.hid hc1; clear hc1))
      go_ret2
      exact ⟨rfl, HC1.out⟩
    · rw [decide_eq_false hb] at HF
      have hmay : ∀ p ∈ l, p.may = true := fun p hp => by
        cases hm : p.may with
        | true => rfl
        | false => exact absurd ⟨p, hp, hm⟩ hb
      have HMay := Lib.hid hmay
      have hne : ¬ (l = [] ∨ ∃ p ∈ l, p.may = false) := by
        rintro (e | e)
        · rw [e] at h0; exact h0 rfl
        · exact hb e
      have HNe := Lib.hid hne
      clear hb hmay hne
      by_cases h64 : 64 < l.length
      · have h64i : (64 : Int) < (l.length : Int) := by omega
        have hR : R = ([], 3) := by rw [← HR.out]; unfold encF; rw [if_neg HNe.out, if_pos h64]
        subst hR
        clear HR
        go_enter Tryz.func66, Tryz.ntmps66
        go_wp2_with (first
          | (go_at_call 117; refine HF.out.mono ?_; rintro e w1 ⟨rfl, hc1⟩; have HC1 := Lib.hid hc1; clear hc1))
        go_ret2
        exact ⟨rfl, HC1.out⟩
      · have h64i : ¬ (64 : Int) < (l.length : Int) := by omega
        go_enter Tryz.func66, Tryz.ntmps66
        go_wp2_with (first
          | (go_at_call 117; refine HF.out.mono ?_; rintro e w1 ⟨rfl, hc1⟩; have HC1 := Lib.hid hc1; clear hc1))
        have hvar := var_any (w1.alloc (.cells #[.pointer none, .slice none 0 0] 198)) l.length (by omega)
        have HVar := Lib.hid hvar
        have HB1 := Lib.hid (isB_new w1)
        have HC1a := Lib.hid (HC1.out.alloc (.cells #[.pointer none, .slice none 0 0] 198))
        have HB0 := Lib.hid (show w.heap.size ≤ w1.heap.size from HC1.out.size)
        have HL1 := Lib.hid (show w1.heap.size < (w1.alloc (.cells #[.pointer none, .slice none 0 0] 198)).heap.size by rw [World.size_alloc]; omega)
        clear hvar
        go_wp2_with (first
          | (go_at_call 121; refine HVar.out.mono ?_; rintro e w2 ⟨v2, rfl, ho2, hc2⟩
             have HO2 := Lib.hid ho2
             have HC2 := Lib.hid hc2
             clear ho2 hc2)
          | (go_at_call 120; refine (write_any _ (isB_kept HB1.out HC2.out) (Nat.le_trans (Nat.le_of_lt HL1.out) HC2.out.size) _ (varB l.length) (SlAt.of_own HO2.out) (fun g hg => Nat.ne_of_gt (Nat.lt_of_lt_of_le HL1.out (HO2.out.lt g hg).1)) (by have := (varB_length l.length).1; simp only [List.length_nil]; omega)).mono ?_
             rintro e w3 ⟨⟨v3, rfl⟩, hb3, hc3⟩
             have HB3 := Lib.hid hb3
             have HC3 := Lib.hid (show Chg (fun _ => False) w w3 from (HC1a.out.trans' HC2.out).new hc3 (fun i hi => Nat.le_trans HB0.out hi))
             clear hb3 hc3))
        rw [List.nil_append] at HB3
        go_loopw [24] (fun j wr => ∃ k : Nat, j = .int .i64 k ∧ k ≤ l.length ∧ UsedB w1.heap.size w1.heap.size (varB l.length ++ allB (l.take k)) wr ∧ Chg (fun _ => False) w wr ∧ w1.heap.size ≤ wr.heap.size) (fun j _ => l.length - (intOf j).toNat)
        · exact ⟨0, rfl, Nat.zero_le _, by rw [List.take_zero]; simpa [allB] using HB3.out, HC3.out, by have := lt_of_block HB3.out.2.choose_spec.1; omega⟩
        obtain ⟨k, rfl, hk, hbk, hc, hsz⟩ := hrel
        have HC := Lib.hid hc
        have HBk := Lib.hid hbk
        have HSz := Lib.hid hsz
        clear hc hbk hsz
        have hlen : (varB l.length ++ allB (l.take k)).length ≤ 10 + 1111 * 64 := by
          have h1 := (varB_length l.length).1
          have h2 := allB_len (l.take k) (fun p hp => HMay.out p (List.mem_of_mem_take hp))
          have h3 : (l.take k).length ≤ 64 := by rw [List.length_take]; omega
          rw [List.length_append]
          omega
        by_cases hlt : k < l.length
        · have hki : (k : Int) < (l.length : Int) := by omega
          obtain ⟨g', cap', p, e1, hr, d0, d1, d2⟩ := put_cells (H.out.kept HC.out (fun _ _ h => h)) hlt
          simp only [Value.slice.injEq] at e1
          obtain ⟨rfl, -, -⟩ := e1
          have Hr := Lib.hid hr
          have hpm := HMay.out p (List.mem_of_getElem? hr)
          have hpb := bytes_length p hpm
          obtain ⟨m1, m2, m3, m4⟩ := may_key hpm
          have HCh := Lib.hid (fun w => change_any w p (by omega) (by omega))
          have HLen := Lib.hid (show (varB l.length ++ allB (l.take k)).length + p.bytes.length ≤ 1000000 by omega)
          clear hr hpm hpb m1 m2 m3 m4 hlen
          unfold PV.row at HCh
          obtain ⟨sk, hsk⟩ : ∃ s : ByteArray, strV p.key = .string s := ⟨_, rfl⟩
          obtain ⟨sv, hsv⟩ : ∃ s : ByteArray, strV p.val = .string s := ⟨_, rfl⟩
          rw [hsk, hsv] at HCh
          rw [hsk] at d0
          rw [hsv] at d1
          clear hsk hsv
          have hca : Chg (fun _ => False) wr (wr.alloc (.cells #[.string sk, .string sv, .bool p.gone] 103)) := (Chg.refl _ _).alloc _
          have HCa := Lib.hid hca
          clear hca
          go_wp2_with (first
            | (go_at_call 123; refine (HCh.out _).mono ?_; rintro e w4 ⟨rfl, hc4⟩; have HC4 := Lib.hid (HCa.out.trans' hc4); clear hc4)
            | (go_at_call 122; refine (writeString_any _ (Or.inr (used_kept HBk.out HC4.out)) (Nat.le_trans HSz.out HC4.out.size) p.bytes HLen.out).mono ?_
               rintro e w5 ⟨⟨v5, rfl⟩, hb5, hc5⟩
               have HB5 := Lib.hid hb5
               have HC5 := Lib.hid (show Chg (fun _ => False) w w5 from (HC.out.trans' HC4.out).new hc5 (fun i hi => Nat.le_trans HB0.out hi))
               have HS5 := Lib.hid (Nat.le_trans HSz.out (Nat.le_trans HC4.out.size hc5.size))
               clear hb5 hc5))
          exact ⟨⟨k + 1, by go_num, hlt, by rw [allB_take Hr.out, ← List.append_assoc]; exact HB5.out, HC5.out, HS5.out⟩, puts_meas hlt⟩
        · have hki : ¬ (k : Int) < (l.length : Int) := by omega
          obtain rfl : k = l.length := by omega
          rw [List.take_length] at HBk hlen
          obtain ⟨N, hN⟩ : ∃ N, (varB l.length ++ allB l).length = N := ⟨_, rfl⟩
          have HLn := Lib.hid (blen_any _ HBk.out)
          rw [hN] at HLn hlen
          by_cases hbig : 4096 < N
          · have hbi : (4096 : Int) < (N : Int) := by omega
            have hR : R = ([], 3) := by rw [← HR.out]; unfold encF; rw [if_neg HNe.out, if_neg h64, if_pos (by rw [hN]; exact hbig)]
            subst hR
            clear HR hN
            go_wp2_with (first
              | (go_at_call 124; refine HLn.out.mono ?_; rintro e w6 ⟨rfl, rfl⟩))
            go_ret2
            exact ⟨rfl, HC.out⟩
          · have hbi : ¬ (4096 : Int) < (N : Int) := by omega
            have hR : R = (varB l.length ++ allB l, 0) := by rw [← HR.out]; unfold encF; rw [if_neg HNe.out, if_neg h64, if_neg (by rw [hN]; exact hbig)]
            subst hR
            clear HR hN
            have hnn : varB l.length ++ allB l ≠ [] := fun e => by have h1 := (varB_length l.length).2; have h2 := congrArg List.length e; rw [List.length_append] at h2; simp only [List.length_nil] at h2; omega
            have HStr := Lib.hid (string_any _ HBk.out hnn)
            clear hnn
            go_wp2_with (first
              | (go_at_call 124; refine HLn.out.mono ?_; rintro e w6 ⟨rfl, rfl⟩)
              | (go_at_call 125; refine HStr.out.mono ?_; rintro e w6 ⟨rfl, hc6⟩
                 have HC6 := Lib.hid (show Chg (fun _ => False) w w6 from HC.out.new hc6 (fun i hi => Nat.le_trans HB0.out hi))
                 clear hc6))
            go_ret2
            exact ⟨rfl, HC6.out⟩

end Go.Proofs.YtbjagmlbamjdbaaGreat.kvs
end

/-
  kv: Decode's closures: take, number.
-/
section
set_option linter.unusedSimpArgs false
set_option linter.unusedVariables false
namespace Go.Proofs.YtbjagmlbamjdbaaGreat.kvs
open Go.RowKit Go.My disks bufs wals
set_option maxRecDepth 100000

variable {w w' : World}

/-- What is left, and whether all was good, in their two blocks. -/
structure RdAt (w : World) (L G : Nat) (r : Rd) : Prop where
  left : w.heap[L]? = some (.cells #[strV r.left] 9 (0, 0))
  good : w.heap[G]? = some (.cells #[.bool r.good] 4 (0, 0))
  ne : L ≠ G
theorem RdAt.kept {L G : Nat} {r : Rd} {S : Nat → Prop} (h : RdAt w L G r) (hc : Chg S w w') (h1 : ¬ S L) (h2 : ¬ S G) : RdAt w' L G r := ⟨hc.at h.left h1, hc.at h.good h2, h.ne⟩
theorem RdAt.setG {L G : Nat} {r : Rd} (h : RdAt w L G r) (b : Bool) : RdAt (w.setCell ⟨G, 0, none⟩ (.bool b)) L G ⟨r.left, b⟩ :=
  ⟨by rw [heap_setCell_get _ _ _ _ h.ne]; exact h.left, by rw [block_setCell h.good]; rfl, h.ne⟩
theorem RdAt.setL {L G : Nat} {r : Rd} (h : RdAt w L G r) (t : Txt) : RdAt (w.setCell ⟨L, 0, none⟩ (strV t)) L G ⟨t, r.good⟩ :=
  ⟨by rw [block_setCell h.left]; rfl, by rw [heap_setCell_get _ _ _ _ h.ne.symm]; exact h.good, h.ne⟩

theorem str_drop (r : Txt) (n : Nat) : (⟨r.toArray⟩ : ByteArray).extract n r.length = ⟨(r.drop n).toArray⟩ := by
  apply ByteArray.ext
  apply Array.ext'
  simp
  exact List.take_of_length_le (by simp)

set_option maxHeartbeats 1000000 in
theorem take_any {L G : Nat} {r : Rd} (w : World) (h : RdAt w L G r) (n : Nat) (hn : n < 18446744073709551616) (hl : r.left.length ≤ 9223372036854775807) :
    Calls Tryz.prog 108 #[.int .u64 (n : Int), .pointer (some ⟨G, 0, none⟩), .pointer (some ⟨L, 0, none⟩)] w fun e w' => e = .returned (strV (r.take n).1) ∧ RdAt w' L G (r.take n).2 ∧ Chg (fun k => k = L ∨ k = G) w w' := by
  have H := Lib.hid h
  obtain ⟨left, good⟩ := r
  simp only at hl
  obtain ⟨s, hs⟩ : ∃ s : ByteArray, strV left = .string s := ⟨_, rfl⟩
  have hsz := str_size left s hs
  have hst := strV_string left s hs
  have HSt := Lib.hid hst
  have HS := Lib.hid hs
  have c1 : w.cell? ⟨L, 0, none⟩ = some (.string s) := by rw [← hs]; exact cell_of_block h.left rfl
  have c2 : w.cell? ⟨G, 0, none⟩ = some (.bool good) := cell_of_block h.good rfl
  have z1 : w.frozen? ⟨L, 0, none⟩ = false := free_of_block h.left
  have z2 : w.frozen? ⟨G, 0, none⟩ = false := free_of_block h.good
  have n1 : ¬ L = G := h.ne
  have n2 : ¬ G = L := fun e => h.ne e.symm
  have i0 : (0 : Int) ≤ (n : Int) := by omega
  have i1 : (s.size : Int) ≤ 9223372036854775807 := by omega
  have hcG : ∀ b, Chg (fun k => k = L ∨ k = G) w (w.setCell ⟨G, 0, none⟩ (.bool b)) := fun b => Chg.setCell (S := fun k => k = L ∨ k = G) (Chg.refl _ _) (fun _ => Or.inr rfl) _
  have HCG := Lib.hid hcG
  clear h hs hst hcG
  cases good
  · clear hsz
    go_enter Tryz.func108, Tryz.ntmps108
    go_wp2_with fail
    go_ret
    unfold Rd.take
    rw [if_neg (by simp)]
    exact ⟨rfl, H.out.setG false, HCG.out _⟩
  · by_cases hle : n ≤ left.length
    · have hli : (n : Int) ≤ (s.size : Int) := by omega
      have HLe := Lib.hid hle
      have HSz := Lib.hid hsz
      clear hsz hle
      go_enter Tryz.func108, Tryz.ntmps108
      go_wp2_with fail
      go_ret
      unfold Rd.take
      rw [if_pos ⟨rfl, HLe.out⟩]
      have e1 : Value.string (s.extract 0 n) = strV (left.take n) := by rw [HSt.out, str_take]; rfl
      have e2 : Value.string (s.extract n s.size) = strV (left.drop n) := by rw [HSz.out, HSt.out, str_drop]; rfl
      rw [e2]
      exact ⟨congrArg Ending.returned e1, (H.out.setG true).setL (left.drop n), Chg.setCell (S := fun k => k = L ∨ k = G) (HCG.out true) (fun _ => Or.inl rfl) _⟩
    · have hli : ¬ (n : Int) ≤ (s.size : Int) := by omega
      have HLe := Lib.hid hle
      have HSz := Lib.hid hsz
      clear hsz hle
      go_enter Tryz.func108, Tryz.ntmps108
      go_wp2_with fail
      go_ret
      unfold Rd.take
      rw [if_neg (fun hh => HLe.out hh.2)]
      exact ⟨rfl, H.out.setG false, HCG.out _⟩

/-- The closure that takes. -/
def takeV (L G : Nat) : Value := .func (.func 108) #[] #[.pointer (some ⟨G, 0, none⟩), .pointer (some ⟨L, 0, none⟩)]

set_option maxHeartbeats 1000000 in
theorem num_any {L G T : Nat} {r : Rd} (w : World) (h : RdAt w L G r) (hT : w.cell? ⟨T, 0, none⟩ = some (takeV L G)) (hTL : T ≠ L) (hTG : T ≠ G) (hl : r.left.length ≤ 9223372036854775807) :
    Calls Tryz.prog 109 #[.pointer (some ⟨L, 0, none⟩), .pointer (some ⟨G, 0, none⟩), .pointer (some ⟨T, 0, none⟩)] w fun e w' => e = .returned (.int .u64 (r.num.1 : Int)) ∧ RdAt w' L G r.num.2 ∧ Chg (fun k => k = L ∨ k = G) w w' := by
  have H := Lib.hid h
  obtain ⟨left, good⟩ := r
  simp only at hl
  obtain ⟨s, hs⟩ : ∃ s : ByteArray, strV left = .string s := ⟨_, rfl⟩
  have hsz := str_size left s hs
  have hst := strV_string left s hs
  have c1 : w.cell? ⟨L, 0, none⟩ = some (.string s) := by rw [← hs]; exact cell_of_block h.left rfl
  have c2 : w.cell? ⟨G, 0, none⟩ = some (.bool good) := cell_of_block h.good rfl
  have z2 : w.frozen? ⟨G, 0, none⟩ = false := free_of_block h.good
  have n1 : ¬ L = G := h.ne
  have i1 : (s.size : Int) ≤ 9223372036854775807 := by omega
  obtain ⟨m, hm⟩ : ∃ m, min left.length 10 = m := ⟨_, rfl⟩
  have hm2 : (min (s.size : Int) 10).toNat = m := by omega
  obtain ⟨s10, hs10⟩ : ∃ x, s.extract 0 m = x := ⟨_, rfl⟩
  obtain ⟨v1, w1, hcv, hsl, hc1, -⟩ := string_bytes w s10
  have hd : s10.data.toList = left.take m := by rw [← hs10, hst, str_take]
  have ht : left.take m = left.take 10 := by
    rw [← hm]
    rcases Nat.le_total left.length 10 with h | h
    · rw [Nat.min_eq_left h, List.take_length, List.take_of_length_le h]
    · rw [Nat.min_eq_right h]
  rw [hd] at hsl
  have hrv := readVar_any w1 v1 (left.take m) hsl (by rw [ht, List.length_take]; omega)
  rw [ht, rdV_take10] at hrv
  have hE3 := (rdN_length 10 0 0 left).2.2.2
  have hN10 := (rdN_length 10 0 0 left).2.1
  rcases hRe : rdV left with ⟨V, N, E⟩
  rw [hRe] at hrv
  simp only at hrv
  rw [show rdN 10 0 0 left = rdV left from rfl, hRe] at hN10 hE3
  simp only at hN10 hE3
  have hnum : ∀ g, Rd.num ⟨left, g⟩ = (V, (Rd.take ⟨left, g && decide (E = 0)⟩ N).2) := fun g => by unfold Rd.num; simp only; rw [hRe]
  rw [hnum]
  have i2 : (N : Int) ≤ 10 := by omega
  have i3 : (0 : Int) ≤ (N : Int) := by omega
  have HRV := Lib.hid hrv
  have HC1 := Lib.hid hc1
  have hTk : ∀ w b, Chg (fun _ => False) w1 w → Calls Tryz.prog 108 #[.int .u64 (N : Int), .pointer (some ⟨G, 0, none⟩), .pointer (some ⟨L, 0, none⟩)] (w.setCell ⟨G, 0, none⟩ (.bool b)) fun e w' => e = .returned (strV (Rd.take ⟨left, b⟩ N).1) ∧ RdAt w' L G (Rd.take ⟨left, b⟩ N).2 ∧ Chg (fun k => k = L ∨ k = G) (w.setCell ⟨G, 0, none⟩ (.bool b)) w' := fun w b hc =>
    take_any (r := ⟨left, b⟩) _ (((H.out.kept (hc1.trans' hc) id id).setG b)) N (by omega) hl
  have HTk := Lib.hid hTk
  have hgl : ∀ w', Chg (fun _ => False) w w' → w'.cell? ⟨G, 0, none⟩ = some (.bool good) ∧ w'.frozen? ⟨G, 0, none⟩ = false ∧ w'.cell? ⟨T, 0, none⟩ = some (takeV L G) := fun w' hc => ⟨hc.cell c2 id, free_of_block (hc.at h.good id), hc.cell hT id⟩
  have HGl := Lib.hid hgl
  have HT := Lib.hid (And.intro hTL hTG)
  have n3 : ¬ T = G := hTG
  have n4 : ¬ T = L := hTL
  clear hrv hTk hgl hTL hTG hm hs hst hsz hd ht hsl hRe hnum hl hT h hE3 hN10
  by_cases hE : E = 0
  · subst hE
    cases good
    · go_enter Tryz.func109, Tryz.ntmps109
      go_wp2_with (first
        | (go_at_call 110; refine HRV.out.mono ?_; rintro e w2 ⟨rfl, hc2⟩
           obtain ⟨g1, g2, g3⟩ := HGl.out w2 (HC1.out.trans' hc2)
           have HC2 := Lib.hid hc2
           unfold takeV at g3
           clear hc2)
        | (go_at_call 108; refine (HTk.out _ false HC2.out).mono ?_; rintro e w3 ⟨rfl, hr3, hc3⟩
           have HR3 := Lib.hid hr3
           have HC3 := Lib.hid hc3
           clear hr3 hc3))
      go_ret
      refine ⟨rfl, HR3.out, ?_⟩
      exact (Chg.setCell (S := fun k => k = L ∨ k = G) ((HC1.out.trans' HC2.out).mono (fun _ _ h => h.elim)) (fun _ => Or.inr rfl) _).trans' HC3.out
    · go_enter Tryz.func109, Tryz.ntmps109
      go_wp2_with (first
        | (go_at_call 110; refine HRV.out.mono ?_; rintro e w2 ⟨rfl, hc2⟩
           obtain ⟨g1, g2, g3⟩ := HGl.out w2 (HC1.out.trans' hc2)
           have HC2 := Lib.hid hc2
           unfold takeV at g3
           clear hc2)
        | (go_at_call 108; refine (HTk.out _ true HC2.out).mono ?_; rintro e w3 ⟨rfl, hr3, hc3⟩
           have HR3 := Lib.hid hr3
           have HC3 := Lib.hid hc3
           clear hr3 hc3))
      go_ret
      refine ⟨rfl, HR3.out, ?_⟩
      exact (Chg.setCell (S := fun k => k = L ∨ k = G) ((HC1.out.trans' HC2.out).mono (fun _ _ h => h.elim)) (fun _ => Or.inr rfl) _).trans' HC3.out
  · have hEi : ¬ (E : Int) = 0 := by omega
    have hEb : ((E : Int) == 0) = false := by simp [hE]
    rw [decide_eq_false hE]
    clear hE
    cases good
    · go_enter Tryz.func109, Tryz.ntmps109
      go_wp2_with (first
        | (go_at_call 110; refine HRV.out.mono ?_; rintro e w2 ⟨rfl, hc2⟩
           obtain ⟨g1, g2, g3⟩ := HGl.out w2 (HC1.out.trans' hc2)
           have HC2 := Lib.hid hc2
           unfold takeV at g3
           clear hc2)
        | (go_at_call 108; refine (HTk.out _ false HC2.out).mono ?_; rintro e w3 ⟨rfl, hr3, hc3⟩
           have HR3 := Lib.hid hr3
           have HC3 := Lib.hid hc3
           clear hr3 hc3))
      go_ret
      refine ⟨rfl, HR3.out, ?_⟩
      exact (Chg.setCell (S := fun k => k = L ∨ k = G) ((HC1.out.trans' HC2.out).mono (fun _ _ h => h.elim)) (fun _ => Or.inr rfl) _).trans' HC3.out
    · go_enter Tryz.func109, Tryz.ntmps109
      go_wp2_with (first
        | (go_at_call 110; refine HRV.out.mono ?_; rintro e w2 ⟨rfl, hc2⟩
           obtain ⟨g1, g2, g3⟩ := HGl.out w2 (HC1.out.trans' hc2)
           have HC2 := Lib.hid hc2
           unfold takeV at g3
           clear hc2)
        | (go_at_call 108; refine (HTk.out _ false HC2.out).mono ?_; rintro e w3 ⟨rfl, hr3, hc3⟩
           have HR3 := Lib.hid hr3
           have HC3 := Lib.hid hc3
           clear hr3 hc3))
      go_ret
      refine ⟨rfl, HR3.out, ?_⟩
      exact (Chg.setCell (S := fun k => k = L ∨ k = G) ((HC1.out.trans' HC2.out).mono (fun _ _ h => h.elim)) (fun _ => Or.inr rfl) _).trans' HC3.out

end Go.Proofs.YtbjagmlbamjdbaaGreat.kvs
end

/-
  kv: an append of a change; a put's cells in a new block.
-/
section
set_option linter.unusedSimpArgs false
set_option linter.unusedVariables false
namespace Go.Proofs.YtbjagmlbamjdbaaGreat.kvs
open Go.RowKit Go.My disks bufs wals
set_option maxRecDepth 100000

variable {w w' : World}

theorem info_put : (Tryz.prog.info? 103).map (fun i => (i.zero, i.size, i.bytes)) = some (some (.agg #[.string ⟨#[]⟩, .string ⟨#[]⟩, .bool false]), 3, 40) := by kernel_rfl

theorem row_oneCell (p : PV) : ∀ u ∈ p.row, u.oneCell' = true := by
  intro u hu
  simp only [PV.row, List.mem_cons, List.not_mem_nil, or_false] at hu
  rcases hu with rfl | rfl | rfl <;> rfl
theorem Puts.lower {B B' : Nat} {v : Value} {l : List PV} (h : Puts w B v l) (hb : B' ≤ B) : Puts w B' v l := by
  refine ⟨?_, h.each⟩
  obtain ⟨h1, h2⟩ := h.row
  refine ⟨h1, ?_⟩
  rcases h2 with h2 | ⟨g, cap, cur, rfl, hbg, r⟩
  · exact Or.inl h2
  · exact Or.inr ⟨g, cap, cur, rfl, Nat.le_trans hb hbg, r⟩

theorem append_put {B : Nat} {v : Value} {l : List PV} {p : PV} {nb : Nat} (h : Puts w B v l) (hnb : ∀ (j : Nat) u, p.row[j]? = some u → w.cell? ⟨nb, j, none⟩ = some u) (hB : B ≤ w.heap.size) (hl : l.length ≤ 1000000) (ty : TypeId) :
    ∃ v' w', (Builtin.append_ #[66, 66] ty #[v, .slice (some ⟨nb, 0, none⟩) 1 1]).run Tryz.prog w = .ok v' w' ∧ Puts w' B v' (l ++ [p]) ∧ Chg (fun k => B ≤ k) w w' := by
  obtain ⟨i, hi, hz, hsz, hby⟩ := info_parts info_put
  have hadd : ∀ (j : Nat) u, p.row[j]? = some u → w.cell? ((⟨nb, 0, none⟩ : Addr).add j) = some u := by
    intro j u hu
    have : (⟨nb, 0, none⟩ : Addr).add j = ⟨nb, j, none⟩ := by unfold Addr.add; split <;> simp_all
    rw [this]; exact hnb j u hu
  obtain ⟨v', w', h1, h2, h3, -⟩ := run_append_own (P := Tryz.prog) w B 66 ty 103 i _ 3 40 Tryz.underlying66 hi hz hsz hby rfl (by decide) v _ _ h.row ⟨nb, 0, none⟩ 1 1 p.row rfl hadd (row_oneCell p) (by rw [List.length_map]; unfold maxLen; omega) (by rw [List.length_map]; omega) hB
  refine ⟨v', w', h1, ?_, (Chg.of_grown h3).mono (fun k _ hk => (h.lt hk.symm).1)⟩
  show OwnRecs w' B _ 3 v' ((l ++ [p]).map PV.row)
  rw [List.map_append]
  exact OwnRecs.append (m := [p.row]) (by simpa using h2) h.each (by simp [PV.row])

end Go.Proofs.YtbjagmlbamjdbaaGreat.kvs
end

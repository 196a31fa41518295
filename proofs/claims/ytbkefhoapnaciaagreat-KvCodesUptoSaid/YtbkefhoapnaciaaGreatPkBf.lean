/-
  kv: batches as arguments; the laws' acts.
-/
import Derived.Test.YtbkefhoapnaciaaGreatPkAl
import Derived.Test.YtbkefhoapnaciaaGreatPkBa
import Derived.Test.YtbkefhoapnaciaaGreatPkBb
import Derived.Test.YtbkefhoapnaciaaGreatPkBe

section
set_option linter.unusedSimpArgs false
set_option linter.unusedVariables false
namespace Go.Proofs.YtbkefhoapnaciaaGreat.kvs
open Go.ChangeShapes Go.WideShapes Go.RowKit Go.My Go.Deep disks wals

/-- A batch anywhere in the memory. -/
def PutsAt (W : World) (v : Value) (l : List PV) : Prop := ∃ (oa : Option Addr) (cap : Nat), v = .slice oa l.length cap ∧ RowsAt W 3 oa (l.map PV.row)
/-- Texts that may be. -/
def PV.sized (p : PV) : Prop := p.key.length ≤ maxLen ∧ p.val.length ≤ maxLen

theorem cells_put : Tryz.prog.cellsOf 45 = 3 := by kernel_rfl
theorem cells_bool : Tryz.prog.cellsOf 4 = 1 := by kernel_rfl
theorem cells_puts : Tryz.prog.cellsOf 22 = 1 := by kernel_rfl

set_option maxRecDepth 100000 in
theorem fields_put {H : Type} {enc : TypeId × Value → H} {W : World} {base : Nat} {sp : Nat → Bool} {held : Bool} {fuel : Nat} {cs : List Value} {y : DataW H × List MemPlace}
    (hf : DataW.trod enc Tryz.prog W base sp held fuel 45 cs = some y) : ∃ p : PV, cs = p.row ∧ p.sized := by
  obtain ⟨xs, k, _, _, hlen, hxs, hx⟩ := DataW.trod_struct Tryz.underlying45 hf
  rw [cells_put] at hlen
  match cs, hlen with
  | [c0, c1, c2], _ =>
      have h0 := hx 0 _ rfl
      have h1 := hx 1 _ rfl
      have h2 := hx 2 _ rfl
      have l0 : 0 < xs.length := by rw [hxs]; exact of_decide_eq_true rfl
      have l1 : 1 < xs.length := by rw [hxs]; exact of_decide_eq_true rfl
      have l2 : 2 < xs.length := by rw [hxs]; exact of_decide_eq_true rfl
      rw [List.getElem?_eq_getElem (by assumption)] at h0 h1 h2
      obtain ⟨s0, e0, -, z0⟩ := DataW.trod_string Tryz.underlying9 h0
      obtain ⟨s1, e1, -, z1⟩ := DataW.trod_string Tryz.underlying9 h1
      obtain ⟨b2, e2, -⟩ := DataW.trod_bool Tryz.underlying4 h2
      change List.take (Tryz.prog.cellsOf 9) (List.drop 0 [c0, c1, c2]) = _ at e0
      change List.take (Tryz.prog.cellsOf 9) (List.drop 1 [c0, c1, c2]) = _ at e1
      change List.take (Tryz.prog.cellsOf 4) (List.drop 2 [c0, c1, c2]) = _ at e2
      rw [cells_str] at e0 e1
      rw [cells_bool] at e2
      simp only [List.drop_zero, List.take_succ_cons, List.take_zero, List.drop_succ_cons, List.cons.injEq, and_true] at e0 e1 e2
      subst e0 e1 e2
      exact ⟨⟨s0.data.toList, s1.data.toList, b2⟩, by simp only [PV.row, ← strV_of], z0, z1⟩

set_option maxRecDepth 100000 in
theorem trod_puts {H : Type} {enc : TypeId × Value → H} {W : World} {base : Nat} {sp : Nat → Bool} {held : Bool} {l : List (List Value)}
    (h : ∀ x ∈ l, ∃ f y, DataW.trod enc Tryz.prog W base sp held f 45 x = some y) : ∃ ps : List PV, l = ps.map PV.row ∧ ∀ p ∈ ps, p.sized := by
  induction l with
  | nil => exact ⟨[], rfl, by simp⟩
  | cons x l ih =>
    obtain ⟨ps, rfl, hb⟩ := ih (fun y hy => h y (by simp [hy]))
    obtain ⟨f, y, hy⟩ := h x (by simp)
    obtain ⟨p, rfl, hp⟩ := fields_put hy
    refine ⟨p :: ps, rfl, fun b hbm => ?_⟩
    rcases List.mem_cons.1 hbm with rfl | hbm
    · exact hp
    · exact hb b hbm

set_option maxRecDepth 100000 in
theorem open_puts {H : Type} {enc : TypeId × Value → H} {W : World} {v : Value} {d : DataW H} {ps : List MemPlace} {r : Reach} {b0 : Nat}
    (hv : Value.okWide Tryz.prog W r b0 22 v) (h : DataW.Trod enc Tryz.prog W 0 (fun _ => true) true 22 v d ps) :
    ∃ l : List PV, PutsAt W v l ∧ l.length ≤ maxLen ∧ ∀ p ∈ l, p.sized := by
  obtain ⟨oa, l, cap, rfl, h1, h2, h3, h4⟩ := open_rows Tryz.underlying22 cells_put (by omega) hv h
  obtain ⟨qs, rfl, hb⟩ := trod_puts h4
  exact ⟨qs, ⟨oa, cap, by rw [List.length_map], h3⟩, by simpa using Nat.le_trans h1 h2, hb⟩

/-- An act of the laws. -/
structure KAct where
  kind : Int
  n : Int
  bv : Value
  batch : List PV
  kv : Value
  keep : List Int
  key : Txt
  fr : Txt
  to : Txt
def KAct.row (a : KAct) : List Value := [.int .i64 a.kind, .int .i64 a.n, a.bv, a.kv, strV a.key, strV a.fr, strV a.to]
structure KAct.ok (W : World) (a : KAct) : Prop where
  bv : PutsAt W a.bv a.batch
  sized : ∀ p ∈ a.batch, p.sized
  bl : a.batch.length ≤ maxLen
  kv : SlAt W a.kv (a.keep.map (Value.int .i64))
  kl : a.keep.length * 8 ≤ reachBytes
  n : inR a.n
  kz : ∀ z ∈ a.keep, inR z

theorem bytes_int8 : Tryz.prog.bytesOf 3 = 8 := by kernel_rfl
theorem cells_act11 : Tryz.prog.cellsOf 66 = 7 := by kernel_rfl

set_option maxRecDepth 100000 in
theorem fields_act11 {H : Type} {enc : TypeId × Value → H} {W : World} {base : Nat} {sp : Nat → Bool} {held : Bool} {fuel : Nat} {cs : List Value} {y : DataW H × List MemPlace}
    (hf : DataW.trod enc Tryz.prog W base sp held fuel 66 cs = some y) (hw : ∀ n ∈ y.1.weights Tryz.prog 66, n ≤ reachBytes) : ∃ a : KAct, cs = a.row ∧ a.ok W := by
  obtain ⟨hlen, k, hx⟩ := fields_sized Tryz.underlying66 cells_act11 rfl (by
    intro i f hf
    match i, hf with
    | 0, hf => cases hf; exact ⟨rfl, cells_int⟩
    | 1, hf => cases hf; exact ⟨rfl, cells_int⟩
    | 2, hf => cases hf; exact ⟨rfl, cells_puts⟩
    | 3, hf => cases hf; exact ⟨rfl, cells_ints⟩
    | 4, hf => cases hf; exact ⟨rfl, cells_str⟩
    | 5, hf => cases hf; exact ⟨rfl, cells_str⟩
    | 6, hf => cases hf; exact ⟨rfl, cells_str⟩
    | i + 7, hf => simp at hf) hf hw
  match cs, hlen with
  | [c0, c1, c2, c3, c4, c5, c6], _ =>
      obtain ⟨_, h0, -⟩ := hx 0 _ _ rfl rfl
      obtain ⟨_, h1, -⟩ := hx 1 _ _ rfl rfl
      obtain ⟨_, h2, hw2⟩ := hx 2 _ _ rfl rfl
      obtain ⟨_, h3, hw3⟩ := hx 3 _ _ rfl rfl
      obtain ⟨_, h4, -⟩ := hx 4 _ _ rfl rfl
      obtain ⟨_, h5, -⟩ := hx 5 _ _ rfl rfl
      obtain ⟨_, h6, -⟩ := hx 6 _ _ rfl rfl
      obtain ⟨z0, e0, _, w0⟩ := DataW.trod_int Tryz.underlying3 h0
      obtain ⟨z1, e1, _, w1⟩ := DataW.trod_int Tryz.underlying3 h1
      obtain ⟨oar, lr, capr, e2, r1, r2, r3, r5, r4⟩ := open_rows_sized Tryz.underlying22 cells_put (by omega) h2 hw2
      obtain ⟨qs, rfl, hqs⟩ := trod_puts (fun x hx => by obtain ⟨f, y, h, -⟩ := r4 x hx; exact ⟨f, y, h⟩)
      obtain ⟨oa, l, cap, e3, l1, l2, l3, l5, l4⟩ := open_rows_sized Tryz.underlying64 cells_int (by omega) h3 hw3
      obtain ⟨zs, rfl, hz⟩ := trod_ints Tryz.underlying3 (fun x hx => by obtain ⟨f, y, h, -⟩ := l4 x hx; exact ⟨f, y, h⟩)
      obtain ⟨s4, e4, _, -⟩ := DataW.trod_string Tryz.underlying9 h4
      obtain ⟨s5, e5, _, -⟩ := DataW.trod_string Tryz.underlying9 h5
      obtain ⟨s6, e6, _, -⟩ := DataW.trod_string Tryz.underlying9 h6
      simp only [List.cons.injEq, and_true] at e0 e1 e2 e3 e4 e5 e6
      subst e0 e1 e2 e3 e4 e5 e6
      rw [List.length_map, bytes_int8] at l5
      refine ⟨⟨z0, z1, .slice oar (qs.map PV.row).length capr, qs, .slice oa (zs.map (fun z => [Value.int .i64 z])).length cap, zs, s4.data.toList, s5.data.toList, s6.data.toList⟩, ?_, ⟨oar, capr, by rw [List.length_map], r3⟩, hqs, by simpa using Nat.le_trans r1 r2, ?_, l5, wf_inR w1, fun z hm => wf_inR (hz z hm)⟩
      · simp only [KAct.row, ← strV_of]
      · have := l3.flat cap
        rw [flat_one] at this
        exact this

set_option maxRecDepth 100000 in
theorem open_acts11 {H : Type} {enc : TypeId × Value → H} {W : World} {v : Value} {d : DataW H} {ps : List MemPlace} {r : Reach} {b0 : Nat}
    (hv : Value.okWide Tryz.prog W r b0 63 v) (h : DataW.Trod enc Tryz.prog W 0 (fun _ => true) true 63 v d ps) (hw : ∀ n ∈ d.weights Tryz.prog 63, n ≤ reachBytes) :
    ∃ (oa : Option Addr) (l : List KAct) (cap : Nat), v = .slice oa l.length cap ∧ l.length ≤ cap ∧ cap ≤ maxLen ∧ RowsAt W 7 oa (l.map KAct.row) ∧ ∀ a ∈ l, a.ok W := by
  obtain ⟨a0, len0, cap0, rfl⟩ := okWide_slice Tryz.underlying63 hv
  obtain ⟨fuel, hf⟩ := h
  obtain ⟨oa, l, cap, e, h1, h2, h3, -, h4⟩ := open_rows_sized Tryz.underlying63 cells_act11 (by omega) hf hw
  simp only [Value.cells, List.cons.injEq, and_true] at e
  rw [e]
  have h5 : ∃ L : List KAct, l = L.map KAct.row ∧ ∀ a ∈ L, a.ok W := by
    clear h1 h2 h3 hv hf e
    induction l with
    | nil => exact ⟨[], rfl, by simp⟩
    | cons x l ih =>
      obtain ⟨L, rfl, hL⟩ := ih (fun y hy => h4 y (by simp [hy]))
      obtain ⟨fuel, y, hy, hwy⟩ := h4 x (by simp)
      obtain ⟨a, rfl, ha⟩ := fields_act11 hy hwy
      refine ⟨a :: L, rfl, fun b hb => ?_⟩
      rcases List.mem_cons.1 hb with rfl | hb
      · exact ha
      · exact hL b hb
  obtain ⟨L, rfl, hL⟩ := h5
  exact ⟨oa, L, cap, by simp, by simpa using h1, h2, h3, hL⟩

/-- A batch of an argument, in any later world. -/
theorem PutsAt.kept {W w : World} {v : Value} {l : List PV} (h : PutsAt W v l) {S : Nat → Prop} (hc : Chg S W w) (hs : ∀ k, k < W.heap.size → ¬ S k) : PutsAt w v l := by
  obtain ⟨oa, cap, h1, h2⟩ := h
  exact ⟨oa, cap, h1, h2.kept hc hs⟩
theorem putsAt_cells {w : World} {v : Value} {l : List PV} (h : PutsAt w v l) {k : Nat} (hk : k < l.length) :
    ∃ g off cap p, v = .slice (some ⟨g, off, none⟩) l.length cap ∧ l[k]? = some p ∧ w.cell? ⟨g, off + k * 3, none⟩ = some (strV p.key) ∧ w.cell? ⟨g, off + k * 3 + 1, none⟩ = some (strV p.val) ∧ w.cell? ⟨g, off + k * 3 + 2, none⟩ = some (.bool p.gone) := by
  obtain ⟨oa, cap, rfl, hr⟩ := h
  obtain ⟨g, off, rfl⟩ := hr.spot (by intro e; have := congrArg List.length e; rw [List.length_map] at this; simp at this; rw [this] at hk; simp at hk)
  have h0 : (l.map PV.row)[k]? = some (PV.row l[k]) := by rw [List.getElem?_map, List.getElem?_eq_getElem hk]; rfl
  exact ⟨g, off, cap, l[k], rfl, List.getElem?_eq_getElem hk, hr.cell g off rfl k _ 0 _ h0 rfl, hr.cell g off rfl k _ 1 _ h0 rfl, hr.cell g off rfl k _ 2 _ h0 rfl⟩

end Go.Proofs.YtbkefhoapnaciaaGreat.kvs
end

/-
  kv: Do, where the log is full: it is made anew of what would be.
-/
section
set_option linter.unusedSimpArgs false
set_option linter.unusedVariables false
namespace Go.Proofs.YtbkefhoapnaciaaGreat.kvs
open Go.RowKit Go.Maps Go.My Go.ChangeMaps disks bufs wals
set_option maxRecDepth 100000

variable {w w' : World} {P : Nat → Prop} {b l q d : Nat} {X X' : DV} {V V' : LV} {m m' : List KV}

theorem applyF_len : ∀ (l : List PV) (m : List KV), (applyF m l).length ≤ m.length + l.length := by
  intro l
  induction l with
  | nil => intro m; simp [applyF]
  | cons p l ih =>
    intro m
    have h5 : (doneF m p).length ≤ m.length + 1 := by
      unfold doneF mdel mput
      split
      · exact Nat.le_succ_of_le (List.length_filter_le _ m)
      · split <;> simp
    have := ih (doneF m p)
    show (applyF (doneF m p) l).length ≤ _
    simp only [List.length_cons]
    omega
theorem again_is {m : List KV} (hn : NoDup m) : applyF [] ((sortF m).map ofKV) = sortF m := by
  rw [apply_puts _ _ (by simp) (sortF_asc hn).nodup, List.nil_append]

/-- Something beside the database's blocks changes. -/
theorem KAt.aside {S : Nat → Prop} (h : KAt P w b l q d X V m) (hc : Chg S w w') (hS : ∀ k, k < w.heap.size → ¬ S k) : KAt P w' b l q d X V m :=
  h.fresh (hc.mono (fun k hk hs => hS k hk hs))

set_option maxHeartbeats 2000000 in
theorem do_full (w : World) (h : KAt P w b l q d X V m) (hV : V.Ok X.B.length) (hf : X.fuse ≤ 9223372036854775807) (hL : ∀ j, (X.L j).length < 500000) (hm : Mays m) (hn : m.length ≤ 90000) {B : Nat} {v : Value} {ps : List PV} (hp : Puts w B v ps) (hl : ps.length ≤ 1000000) (hv : Far P w q v) {t : Txt} (he : encF ps = (t, 0))
    (hadd : addF X.B.length V t = (7, V)) :
    Calls Tryz.prog 19 #[.pointer (some ⟨b, 0, none⟩), v] w fun e w' => e = .returned (.int .i64 (resetF X V (snapF (applyF (sortF m) ps))).1) ∧ KPost P w w' b l q d (resetF X V (snapF (applyF (sortF m) ps))).2.1 (resetF X V (snapF (applyF (sortF m) ps))).2.2 (if (resetF X V (snapF (applyF (sortF m) ps))).1 = 0 then applyF m ps else m) := by
  have HNo := Lib.hid (db_no w h.db)
  have HEnc := Lib.hid (encode_any w hp hl)
  rw [he] at HEnc
  have H := Lib.hid h
  have HP := Lib.hid hp
  have hok := encF_ok he
  have hnd : NoDup m := h.db.map.nodup
  have ha : ∀ w1, Chg (fun _ => False) w w1 → Calls Tryz.prog 49 #[.pointer (some ⟨l, 0, none⟩), strV t] w1 fun e w' => e = .returned (.int .i64 7) ∧ WAt P w1 w' l d X V := fun w1 hc => by
    have := wat_add (wat_again h.log hc) hV t (by have := hok.2.2.2.2; omega)
    rw [hadd] at this
    exact this
  have hmn : Mays (applyF (sortF m) ps) := mays_apply (hm.perm (sortF_perm m).symm) ps hok.2.1
  have hln : (applyF (sortF m) ps).length ≤ 100000 := by have h1 := applyF_len ps (sortF m); rw [sortF_len] at h1; have := hok.2.2.1; omega
  have HAdd := Lib.hid ha
  have HFar := Lib.hid hv
  have HMn := Lib.hid hmn
  have HLn := Lib.hid hln
  have HNd := Lib.hid hnd
  have HKey := Lib.hid (show ∀ p ∈ ps, p.key.length ≤ maxLen from fun p hp => by have := (may_key (hok.2.1 p hp)).2.1; unfold maxLen; omega)
  have HKeyM := Lib.hid (show ∀ p ∈ (sortF m).map ofKV, p.key.length ≤ maxLen from fun p hp => by
    obtain ⟨x, hx, rfl⟩ := List.mem_map.1 hp
    have := (may_key (hm x ((sortF_perm m).mem_iff.1 hx))).2.1
    show x.1.length ≤ maxLen
    have h2 : (ofKV x).key.length = x.1.length := rfl
    unfold maxLen
    omega)
  have HFL := Lib.hid (And.intro hV (And.intro hf hL))
  have HMl := Lib.hid hn
  have c0 : ∀ w1, Chg P w w1 → w1.cell? ⟨b, 0, none⟩ = some (.pointer (some ⟨l, 0, none⟩)) ∧ w1.cell? ⟨b, 1, none⟩ = some (.map (some q)) := fun w1 hc => ⟨hc.cell (cell_of_block h.db.head rfl) h.nb, hc.cell (cell_of_block h.db.head rfl) h.nb⟩
  have HC0 := Lib.hid c0
  clear h hp ha hV hf hL hadd he hok hv c0 hmn hln hnd hm hn
  obtain ⟨R, hR⟩ : ∃ R, resetF X V (snapF (applyF (sortF m) ps)) = R := ⟨_, rfl⟩
  rw [hR]
  have HR := Lib.hid hR
  obtain ⟨z, X3, V3⟩ := R
  simp only
  clear hR
  have hmm := @run_makeMap Tryz.prog
  go_enter Tryz.func19, Tryz.ntmps19
  go_wp2_with (first
    | (go_at_call 48; refine HNo.out.mono ?_; rintro e w' ⟨rfl, rfl⟩)
    | (go_at_call 10; refine HEnc.out.mono ?_; rintro e w1 ⟨rfl, hc1⟩; obtain ⟨k0, -⟩ := HC0.out _ (hc1.mono (fun _ _ e => e.elim)); have HC1 := Lib.hid hc1; clear hc1)
    | (go_at_call 49; refine (HAdd.out _ HC1.out).mono ?_; rintro e w2 ⟨rfl, hw2⟩
       have hc3 : Chg (fun _ => False) w2 (w2.alloc (.map #[] 0)) := (Chg.refl _ _).alloc _
       obtain ⟨-, k1⟩ := HC0.out _ (((HC1.out.mono (fun _ _ e => e.elim)).trans hw2.chg (fun _ _ e => e)).trans (hc3.mono (S' := P) (fun _ _ e => e.elim)) (fun _ _ e => e))
       have HK2 := Lib.hid (((H.out.fresh HC1.out).step hw2))
       have HW2 := Lib.hid hw2
       have HC3 := Lib.hid hc3
       have hnm : MapAt (w2.alloc (.map #[] 0)) w2.heap.size [] := MapIs.made sKey strV (block_alloc_new _ _)
       have HNm := Lib.hid hnm
       clear hw2 hc3 hnm)
    | (go_at_call 51; refine (sorted_any _ (HK2.out.db.map.kept HC3.out id) (by have := HMl.out; omega)).mono ?_; rintro e w4 ⟨lv, rfl, hp4, hc4⟩; have HP4 := Lib.hid hp4; have HC4 := Lib.hid hc4; clear hp4 hc4)
    | (go_at_call 47; refine (apply_any _ (HNm.out.kept HC4.out id) HP4.out HKeyM.out (by rw [List.length_map, sortF_len]; have := HMl.out; omega)).mono ?_; rintro e w5 ⟨rfl, hm5, hc5⟩; rw [again_is HNd.out] at hm5
       have hpv := ((((HP.out.kept HC1.out (fun _ _ e => e)).kept HW2.out.chg (fun g hg => (HFar.out g hg).1)).kept HC3.out (fun _ _ e => e)).kept HC4.out (fun _ _ e => e)).kept hc5 (fun g hg e => by have := (HP.out.lt hg).2; have := HC1.out.size; have := HW2.out.chg.size; omega)
       have HPv := Lib.hid hpv
       have hk5 := ((HK2.out.fresh HC3.out).fresh HC4.out)
       have hc25 : Chg (fun k => w2.heap.size ≤ k) w2 w5 := ((HC3.out.mono (fun _ _ e => e.elim)).trans (HC4.out.mono (S' := fun k => w2.heap.size ≤ k) (fun _ _ e => e.elim)) (fun _ _ e => e)).trans (hc5.mono (S' := fun k => w2.heap.size ≤ k) (fun k _ e => Nat.le_of_eq e.symm)) (fun _ _ e => e)
       have HC25 := Lib.hid hc25
       have HM5 := Lib.hid hm5; have HC5 := Lib.hid hc5; clear HNm hm5 hc5 hpv hk5 hc25)
    | (go_at_call 47; refine (apply_any _ HM5.out HPv.out HKey.out (by omega)).mono ?_; rintro e w6 ⟨rfl, hm6, hc6⟩
       have hc26 : Chg (fun k => w2.heap.size ≤ k) w2 w6 := HC25.out.trans (hc6.mono (S' := fun k => w2.heap.size ≤ k) (fun k _ e => Nat.le_of_eq e.symm)) (fun _ _ e => e)
       have hk6 := HK2.out.aside hc26 (fun k hk hs => by omega)
       have n0 := cell_of_block (i := 0) hk6.db.head rfl
       have HK6 := Lib.hid hk6
       have HC26 := Lib.hid hc26
       have HM6 := Lib.hid hm6
       clear hm6 hc6 hk6 hc26))
  have hd : Chg (fun _ => False) w6 w6.drew := (Chg.refl _ _).drew
  have HSnap := Lib.hid (snapshot_any w6.drew (HM6.out.kept hd id) HMn.out HLn.out)
  have HD := Lib.hid hd
  have hrs : ∀ (w7 : World) (u : Value), w7.ownsRow w6.drew.heap.size 9 1 u (snapF (applyF (sortF m) ps)).length ((snapF (applyF (sortF m) ps)).map strV) → Chg (fun _ => False) w6.drew w7 →
      Calls Tryz.prog 52 #[.pointer (some ⟨l, 0, none⟩), u] w7 fun e w' => e = .returned (.int .i64 z) ∧ WAt (NowP P w1 w2) w7 w' l d X3 V3 := fun w7 u ho hc => by
    have := wat_reset (wat_again HK6.out.log (hd.trans' hc)) HFL.out.1 HFL.out.2.1 HFL.out.2.2 (snapF (applyF (sortF m) ps)) u (SlAt.of_own ho) (fun g hg => ⟨fun hp => by have h1 := HK6.out.lt g hp; have h2 := (ho.lt g hg).1; have : w6.drew.heap.size = w6.heap.size := rfl; omega, (ho.lt g hg).2⟩) (by have := snapF_len (applyF (sortF m) ps); have := HLn.out; omega) (fun r hr => by have := snap_short HM6.out.nodup HMn.out r hr; omega)
    rw [HR.out] at this
    exact this
  have HRs := Lib.hid hrs
  clear hd hrs
  go_region_held3 (fun w' => w'.cell? ⟨b, 0, none⟩ = some (.pointer (some ⟨l, 0, none⟩))) (go_keep)
    (first
    | (go_at_call 53; refine HSnap.out.mono ?_; rintro e w7 ⟨v7, rfl, ho7, hc7⟩; have e0 := hc7.cell (show w6.drew.cell? ⟨b, 0, none⟩ = _ from n0) id; have HO7 := Lib.hid ho7; have HC7 := Lib.hid hc7; clear ho7 hc7)
    | (go_at_call 52; refine (HRs.out _ _ HO7.out HC7.out).mono ?_; rintro e w8 ⟨rfl, hw8⟩; have f0 := hw8.chg.cell e0 HK6.out.nb; have HW8 := Lib.hid hw8; clear hw8))
  have hk7 := HK6.out.fresh (HD.out.trans' HC7.out)
  have hk8 := hk7.step HW8.out
  have hc12 : Chg (fun k => P k ∨ k = q) w1 w2 := HW2.out.chg.mono (fun _ _ e => Or.inl e)
  have hc16 : Chg (fun k => P k ∨ k = q) w1 w6 := hc12.trans HC26.out (fun k hk hs => by have := hc12.size; omega)
  have hc18 : Chg (fun k => P k ∨ k = q) w1 w8 := (hc16.trans' ((HD.out.trans' HC7.out).mono (fun _ _ e => e.elim))).trans HW8.out.chg (fun k hk hs => (hs.1).elim Or.inl (fun e => by omega))
  have m1 := cell_of_block (i := 1) hk8.db.head rfl
  have HK8 := Lib.hid hk8
  have HC18 := Lib.hid hc18
  clear hk7 hk8 hc12 hc16 hc18
  have hs17 : w1.heap.size ≤ w7.heap.size := Nat.le_trans HW2.out.chg.size (Nat.le_trans HC26.out.size (HD.out.trans' HC7.out).size)
  have hin : ∀ j, NowP (NowP P w1 w2) w7 w8 j → P j ∨ w1.heap.size ≤ j := fun j hj => hj.1.elim (fun e => e.1) (fun e => Or.inr (Nat.le_trans hs17 e))
  have hp8 := (HP.out.kept HC1.out (fun _ _ e => e)).kept HC18.out (fun g hg hs => hs.elim (HFar.out g hg).1 (HFar.out g hg).2)
  have HIn := Lib.hid hin
  have HP8 := Lib.hid hp8
  clear hs17 hin hp8
  by_cases hz : z = 0
  · subst hz
    go_wp2_with (first
      | (go_at_call 47; refine (apply_any _ HK8.out.db.map HP8.out HKey.out (by omega)).mono ?_; rintro e w9 ⟨rfl, hm9, hc9⟩; have HM9 := Lib.hid hm9; have HC9 := Lib.hid hc9; clear hm9 hc9))
    go_ret
    exact ⟨rfl, KPost.since ⟨⟨_, HK8.out.put HC9.out HM9.out, HIn.out⟩, HC18.out.trans HC9.out (fun _ _ e => Or.inr e)⟩ HC1.out⟩
  · go_wp2_with fail
    go_ret
    exact ⟨rfl, KPost.since ⟨⟨_, HK8.out, HIn.out⟩, HC18.out⟩ HC1.out⟩

end Go.Proofs.YtbkefhoapnaciaaGreat.kvs
end

/-
  kv: Do, Compact over a disk on which records stand.
-/
section
set_option linter.unusedSimpArgs false
set_option linter.unusedVariables false
namespace Go.Proofs.YtbkefhoapnaciaaGreat.kvs
open Go.RowKit Go.Maps Go.My Go.ChangeMaps disks bufs wals
set_option maxRecDepth 100000

variable {w w' : World} {P : Nat → Prop} {b l q d s a : Nat} {X X' : DV} {V V' : LV} {m m' mm : List KV} {recs : List Txt}

theorem allB_two : ∀ (l : List PV), (∀ p ∈ l, p.may = true) → 2 * l.length ≤ (allB l).length
  | [], _ => Nat.zero_le _
  | p :: l, h => by
    have h1 := (bytes_length p (h p (by simp))).1
    have h2 := allB_two l (fun q hq => h q (by simp [hq]))
    have e : allB (p :: l) = p.bytes ++ allB l := by simp [allB]
    rw [e, List.length_append, List.length_cons]
    omega

/-- A map that records tell is small. -/
theorem Rep.len2 (h : Rep recs m) : 2 * m.length ≤ sizeB recs := by
  obtain ⟨bs, h1, h2, h3⟩ := h.bs
  have hp := perm_of_get (applyF_nodup nodup_nil bs.flatten) h.nd h3
  have h4 := applyF_len bs.flatten []
  rw [hp.length_eq] at h4
  have h5 : ∀ bs : List (List PV), (∀ b ∈ bs, Fits b) → 2 * bs.flatten.length ≤ sizeB (bs.map (fun b => (encF b).1)) := by
    intro bs
    induction bs with
    | nil => intro _; exact Nat.zero_le _
    | cons b bs ih =>
      intro h2
      have hb := h2 b (by simp)
      have e2 := allB_two b hb.may
      have e3 := ih (fun c hc => h2 c (by simp [hc]))
      have e4 : sizeB ((b :: bs).map (fun b => (encF b).1)) = ((encF b).1.length + 8) + sizeB (bs.map (fun b => (encF b).1)) := by simp [sizeB]
      have e5 : (encF b).1.length = 1 + (allB b).length := by rw [hb.enc.1]; exact hb.enc.2
      rw [e4, e5, List.flatten_cons, List.length_append]
      omega
  have h6 := h5 bs h2
  rw [h1]
  simp only [List.length_nil] at h4
  omega
theorem Stands.small {X : DV} (h : Stands X recs s a) : sizeB recs ≤ 131008 := by
  have h1 := h.fits
  rw [framesB_length] at h1
  have := areaN_le h.idle.le
  omega
theorem Rep.few (h : Rep recs m) (hs : Stands X recs s a) : m.length ≤ 65504 := by have := h.len2; have := Stands.small hs; omega

/-- What a call that writes leaves: done, refused, or cut off. -/
inductive Out (X : DV) (recs : List Txt) (s a : Nat) (m mm : List KV) (why : Int → Prop) : Int → DV → LV → List KV → Prop
  | done {X' : DV} {recs' : List Txt} {s' a' : Nat} (h1 : s ≤ s') (h2 : s' ≤ s + 1) (h3 : Stands X' recs' s' a') (h4 : Rep recs' mm) (h5 : Goes X X') (h6 : X'.B.length = X.B.length) : Out X recs s a m mm why 0 X' (lvW recs' s' a' []) mm
  | refused {z : Int} (h1 : why z) (h2 : z = 2 ∨ z = 3 ∨ z = 7) : Out X recs s a m mm why z X (lvW recs s a []) m
  | cut {X' : DV} {V' : LV} (h1 : X.fuse ≠ -1) (h2 : X'.down = true) (h3 : Goes X X') (h4 : X'.B.length = X.B.length) (h5 : ∀ j, (X'.L j).length ≤ 1) (h6 : V'.lost = true) (h7 : V'.Ok X'.B.length)
      (h8 : ∀ keep, ∃ recs' s' a', s ≤ s' ∧ s' ≤ s + 1 ∧ Stands (X'.crash keep) recs' s' a' ∧ (Rep recs' m ∨ Rep recs' mm)) : Out X recs s a m mm why 15 X' V' m

theorem Out.free {why : Int → Prop} {z : Int} (h : Out X recs s a m mm why z X' V' m') (hf : X.fuse = -1) (hs : Stands X recs s a) (hr : Rep recs m) :
    ∃ recs' s' a', V' = lvW recs' s' a' [] ∧ s ≤ s' ∧ s' ≤ s + 1 ∧ Stands X' recs' s' a' ∧ Rep recs' m' ∧ X'.fuse = -1 ∧ X'.B.length = X.B.length ∧ ((z = 0 ∧ m' = mm) ∨ (why z ∧ (z = 2 ∨ z = 3 ∨ z = 7) ∧ m' = m)) := by
  cases h with
  | done h1 h2 h3 h4 h5 h6 => exact ⟨_, _, _, rfl, h1, h2, h3, h4, h5.free hf, h6, Or.inl ⟨rfl, rfl⟩⟩
  | refused h1 h2 => exact ⟨_, _, _, rfl, Nat.le_refl _, Nat.le_succ _, hs, hr, hf, rfl, Or.inr ⟨h1, h2, rfl⟩⟩
  | cut h1 => exact absurd hf h1

theorem lost_ok {n : Nat} {V : LV} (h : V.Ok n) : ({ V with lost := true } : LV).Ok n := ⟨h.ge, h.le, h.seq, h.area, h.fit, h.used, h.more, h.tail, h.short⟩

/-- Reset to what tells the map mm. -/
theorem reset_out {m1 : List KV} {k : Nat} (hs : Stands X recs s a) (h60 : s ≤ 1152921504606846976) {recs2 : List Txt} (hr2 : Rep recs2 mm) (hsh : ∀ r ∈ recs2, r.length ≤ 4096) {why : Int → Prop} (hw : 64 * areaN X.B.length < sizeB recs2 → why 7) (hr : Rep recs m) (hk : (resetF X (lvW recs s a []) recs2).1 = 0 → m1 = mm) (hk' : (resetF X (lvW recs s a []) recs2).1 ≠ 0 → m1 = m) (_ : k = 0) :
    Out X recs s a m mm why (resetF X (lvW recs s a []) recs2).1 (resetF X (lvW recs s a []) recs2).2.1 (resetF X (lvW recs s a []) recs2).2.2 m1 := by
  have hfit := hs.fits
  rcases reset_lv hs (recs2 := recs2) (wait := []) _ rfl with ⟨h1, -⟩ | ⟨-, ⟨r, h1, h2⟩, -⟩ | ⟨-, -, h0, h1⟩ | ⟨-, -, -, g, hl, h1⟩
  · exact absurd rfl h1
  · have := hsh r h1; omega
  · rw [h1] at hk' ⊢
    rw [hk' (show (7 : Int) ≠ 0 by decide)]
    exact Out.refused (hw h0) (by omega)
  · rcases h1 with ⟨e1, e2, e3⟩ | ⟨e1, e2, e3, e4, e5, e6⟩
    · rw [hk e1, e1, e3]
      exact Out.done (by omega) (Nat.le_refl _) e2 hr2 g hl
    · rw [hk' (by rw [e1]; decide), e1]
      refine Out.cut e2 e3 g hl e4 (by rw [e5]) (by rw [e5, hl]; exact lost_ok (lvW_ok hs h60 (by simp) (by show _ + 0 ≤ _; omega))) (fun keep => ?_)
      rcases e6 keep with h | h
      · exact ⟨_, _, _, Nat.le_refl _, Nat.le_succ _, h, Or.inl hr⟩
      · exact ⟨_, _, _, Nat.le_succ _, Nat.le_refl _, h, Or.inr hr2⟩

/-- Why Do refuses. -/
def DoWhy (X : DV) (m : List KV) (ps : List PV) (z : Int) : Prop := (z = (encF ps).2 ∧ (encF ps).2 ≠ 0) ∨ (z = 7 ∧ (encF ps).2 = 0 ∧ 64 * areaN X.B.length < sizeB (snapF (applyF (sortF m) ps)))

theorem encF_err (ps : List PV) : (encF ps).2 = 0 ∨ (encF ps).2 = 2 ∨ (encF ps).2 = 3 := by
  unfold encF
  split
  · exact Or.inr (Or.inl rfl)
  · split
    · exact Or.inr (Or.inr rfl)
    · split
      · exact Or.inr (Or.inr rfl)
      · exact Or.inl rfl

theorem do_lv (w : World) (h : KAt P w b l q d X (lvW recs s a []) m) (hs : Stands X recs s a) (h60 : s ≤ 1152921504606846976) (hr : Rep recs m) (hf : X.fuse ≤ 9223372036854775807) {B : Nat} {v : Value} {ps : List PV} (hp : Puts w B v ps) (hl : ps.length ≤ 1000000) (hv : Far P w q v) :
    Calls Tryz.prog 19 #[.pointer (some ⟨b, 0, none⟩), v] w fun e w' => ∃ z X' V' m', e = .returned (.int .i64 z) ∧ KPost P w w' b l q d X' V' m' ∧ Out X recs s a m (applyF m ps) (DoWhy X m ps) z X' V' m' := by
  have hfit := hs.fits
  have hok := lvW_ok hs h60 (wait := []) (by simp) (by show _ + 0 ≤ _; omega)
  have hL : ∀ j, (X.L j).length < 500000 := fun j => by rw [hs.idle.L]; simp
  have hm := hr.few hs
  have hnd : NoDup m := h.db.map.nodup
  by_cases he : (encF ps).2 = 0
  · obtain ⟨t, ht⟩ : ∃ t, encF ps = (t, 0) := ⟨(encF ps).1, by rw [← he]⟩
    have hft := Fits.of ht
    have htl := (encF_ok ht).2.2.2.2
    have hadd := add_lv (n := X.B.length) (recs := recs) (wait := []) (s := s) (a := a) t
    rw [if_neg (by omega)] at hadd
    by_cases hroom : roomF X.B.length (lvW recs s a []) < (t.length : Int) + 8
    · rw [if_pos hroom] at hadd
      refine (do_full w h hok hf hL hr.may (by omega) hp hl hv ht hadd).mono ?_
      rintro e w' ⟨rfl, hk⟩
      have hns : NoDup (sortF m) := (sortF_asc hnd).nodup
      have hna : NoDup (applyF (sortF m) ps) := applyF_nodup hns ps
      have hma : Mays (applyF (sortF m) ps) := mays_apply (hr.may.perm (sortF_perm m).symm) ps hft.may
      refine ⟨_, _, _, _, rfl, hk, reset_out hs h60 ((Rep.snap hna hma).same (applyF_nodup hnd ps) (applyF_get (sortF_get hnd) ps)) (snap_short hna hma) (fun h => Or.inr ⟨rfl, he, h⟩) hr (fun h => if_pos h) (fun h => if_neg h) rfl⟩
    · rw [if_neg hroom] at hadd
      have hfit2 : (framesB recs).length + sizeB ([] ++ [t]) ≤ 64 * areaN X.B.length := by
        have e1 : sizeB ([] ++ [t]) = t.length + 8 := by simp [sizeB]
        rw [e1]
        have e2 : roomF X.B.length (lvW recs s a []) = 64 * (areaN X.B.length : Int) - ((framesB recs).length : Nat) - (0 : Nat) := rfl
        rw [e2] at hroom
        omega
      refine (do_add w h hok hf hL hp hl hv ht hadd (lvW_ok hs h60 (by simpa using htl) hfit2)).mono ?_
      rintro e w' ⟨rfl, hk⟩
      have hpush := hr.push hft
      rw [ht] at hpush
      obtain ⟨g, hbl, hsy⟩ := sync_lv hs (by simpa using htl) hfit2 _ rfl
      refine ⟨_, _, _, _, rfl, hk, ?_⟩
      rcases hsy with ⟨e1, s', h1, h2, h3, h4⟩ | ⟨e1, h2, h3, h4, h5, h6⟩
      · rw [if_pos e1, e1, h4]
        exact Out.done h1 h2 h3 hpush g hbl
      · rw [if_neg (by rw [e1]; decide), e1]
        refine Out.cut h2 h3 g hbl h4 (by rw [h5]) (by rw [h5, hbl]; exact lost_ok (lvW_ok hs h60 (by simpa using htl) hfit2)) (fun keep => ?_)
        rcases h6 keep with h | h
        · exact ⟨_, _, _, Nat.le_refl _, Nat.le_succ _, h, Or.inl hr⟩
        · exact ⟨_, _, _, Nat.le_succ _, Nat.le_refl _, h, Or.inr hpush⟩
  · refine (do_refuse w h hp hl he).mono ?_
    rintro e w' ⟨rfl, hk⟩
    have := encF_err ps
    exact ⟨_, _, _, _, rfl, hk, Out.refused (Or.inl ⟨rfl, he⟩) (by omega)⟩

theorem compact_lv (w : World) (h : KAt P w b l q d X (lvW recs s a []) m) (hs : Stands X recs s a) (h60 : s ≤ 1152921504606846976) (hr : Rep recs m) (hf : X.fuse ≤ 9223372036854775807) :
    Calls Tryz.prog 23 #[.pointer (some ⟨b, 0, none⟩)] w fun e w' => ∃ z X' V' m', e = .returned (.int .i64 z) ∧ KPost P w w' b l q d X' V' m' ∧ Out X recs s a m m (fun z => z = 7) z X' V' m' := by
  have hfit := hs.fits
  have hok := lvW_ok hs h60 (wait := []) (by simp) (by show _ + 0 ≤ _; omega)
  have hL : ∀ j, (X.L j).length < 500000 := fun j => by rw [hs.idle.L]; simp
  have hm := hr.few hs
  have hnd : NoDup m := h.db.map.nodup
  refine (compact_any w h hok hf hL hr.may (by omega)).mono ?_
  rintro e w' ⟨rfl, hk⟩
  exact ⟨_, _, _, _, rfl, hk, reset_out hs h60 (Rep.snap hnd hr.may) (snap_short hnd hr.may) (fun _ => rfl) hr (fun _ => rfl) (fun _ => rfl) rfl⟩

/-- A log that is lost takes nothing any more. -/
theorem do_lost (w : World) (h : KAt P w b l q d X V m) (hV : V.Ok X.B.length) (h15 : V.lost = true) {B : Nat} {v : Value} {ps : List PV} (hp : Puts w B v ps) (hl : ps.length ≤ 1000000) (he : (encF ps).2 = 0) :
    Calls Tryz.prog 19 #[.pointer (some ⟨b, 0, none⟩), v] w fun e w' => e = .returned (.int .i64 15) ∧ KPost P w w' b l q d X V m := do_stuck w h hV hp hl he h15

end Go.Proofs.YtbkefhoapnaciaaGreat.kvs
end

/-
  kv: Open of a disk on which records stand.
-/
section
set_option linter.unusedSimpArgs false
set_option linter.unusedVariables false
namespace Go.Proofs.YtbkefhoapnaciaaGreat.kvs
open Go.RowKit Go.Maps Go.My Go.ChangeMaps disks bufs wals
set_option maxRecDepth 100000

variable {w w' : World} {P : Nat → Prop} {b l q d s a : Nat} {X X' : DV} {V V' : LV} {m m' mm : List KV} {recs : List Txt}

/-- Records tell one map. -/
theorem Rep.unique (h : Rep recs m) (h' : Rep recs m') : ∀ k, mget m k = mget m' k := by
  obtain ⟨bs, h1, h2, h3⟩ := h.bs
  obtain ⟨cs, k1, k2, k3⟩ := h'.bs
  have e : bs = cs := by
    rw [h1] at k1
    clear h h' h1 h3 k3
    induction bs generalizing cs with
    | nil => cases cs with
      | nil => rfl
      | cons c cs => simp at k1
    | cons b bs ih => cases cs with
      | nil => simp at k1
      | cons c cs =>
        rw [List.map_cons, List.map_cons, List.cons.injEq] at k1
        have e1 := dec_enc (h2 b (by simp)).enc.1
        have e2 := dec_enc (k2 c (by simp)).enc.1
        have e3 : varB b.length ++ allB b = varB c.length ++ allB c := by
          have h1 := (h2 b (by simp)).enc.1
          have h2 := (k2 c (by simp)).enc.1
          rw [h1, h2] at k1
          exact k1.1
        rw [e3, e2] at e1
        rw [Option.some.injEq] at e1
        rw [e1, ih (fun x hx => h2 x (by simp [hx])) cs k1.2 (fun x hx => k2 x (by simp [hx]))]
  subst e
  exact fun k => (h3 k).symm.trans (k3 k)

/-- What each record is read as. -/
theorem Rep.reads (h : Rep recs m) : ∃ bs : List (List PV), recs.length = bs.length ∧ (∀ (i : Nat) r, recs[i]? = some r → ∃ b, bs[i]? = some b ∧ decF r = some b ∧ Fits b ∧ r.length ≤ 4096) ∧ NoDup (applyF [] bs.flatten) ∧ ∀ k, mget (applyF [] bs.flatten) k = mget m k := by
  obtain ⟨bs, h1, h2, h3⟩ := h.bs
  refine ⟨bs, by rw [h1, List.length_map], fun i r hr => ?_, applyF_nodup nodup_nil _, h3⟩
  rw [h1, List.getElem?_map] at hr
  cases hb : bs[i]? with
  | none => rw [hb] at hr; cases hr
  | some b =>
    rw [hb] at hr
    cases hr
    have hf := h2 b (List.mem_of_getElem? hb)
    refine ⟨b, rfl, ?_, hf, ?_⟩
    · show decF (encF b).1 = some b
      rw [hf.enc.1]
      exact dec_enc hf.enc.1
    · show (encF b).1.length ≤ 4096
      rw [hf.enc.1]
      have := hf.short
      have := hf.enc.2
      simp only
      omega

/-- What Open hands back. -/
structure Opened (P : Nat → Prop) (w w' : World) (b d : Nat) (Q : DV → List Txt → Nat → Nat → Prop) : Prop where
  at' : ∃ l q m X recs s a P', KAt P' w' b l q d X (lvW recs s a []) m ∧ Rep recs m ∧ Q X recs s a ∧ (∀ k, P' k → P k ∨ w.heap.size ≤ k) ∧ w.heap.size ≤ q
  new : w.heap.size ≤ b
  chg : Chg P w w'

theorem flat_take {bs : List (List PV)} {k : Nat} {b : List PV} (h : bs[k]? = some b) : applyF (applyF [] (bs.take k).flatten) b = applyF [] (bs.take (k + 1)).flatten := by
  rw [List.take_add_one, h, Option.toList_some, List.flatten_append, applyF_append]
  simp

set_option maxHeartbeats 2000000 in
theorem open_kv (w : World) (hP : ∀ k, P k → k < w.heap.size) {Q : DV → List Txt → Nat → Nat → Prop}
    (ho : Calls Tryz.prog 45 #[.pointer (some ⟨d, 0, none⟩)] w fun e w' => ∃ l X' recs s a, e = .returned (.tuple #[.pointer (some ⟨l, 0, none⟩), .int .i64 0]) ∧ WAt P w w' l d X' (lvW recs s a []) ∧ Q X' recs s a)
    (hq : ∀ X' recs s a, Q X' recs s a → Stands X' recs s a ∧ ∃ m, Rep recs m) :
    Calls Tryz.prog 18 #[.pointer (some ⟨d, 0, none⟩)] w fun e w' => ∃ b, e = .returned (.tuple #[.pointer (some ⟨b, 0, none⟩), .int .i64 0]) ∧ Opened P w w' b d Q := by
  have HO := Lib.hid ho
  have HQ := Lib.hid hq
  have HPl := Lib.hid hP
  clear ho hq hP
  have hmm := @run_makeMap Tryz.prog
  go_enter Tryz.func18, Tryz.ntmps18
  go_wp2_with (first
    | (go_at_call 45; fail))
  refine HO.out.mono ?_
  rintro e w1 ⟨l, X', recs, s, a, rfl, hw1, hQ⟩
  obtain ⟨hst, m, hrep⟩ := HQ.out _ _ _ _ hQ
  have hsm : recs.length ≤ 131008 := by have := Stands.small hst; have := sizeB_ge recs; omega
  obtain ⟨bs, b1, b2, b3, b4⟩ := hrep.reads
  obtain ⟨w2, hw2⟩ : ∃ w2, (w1.alloc (.map #[] 0)).alloc (.cells #[.pointer (some ⟨l, 0, none⟩), .map (some w1.heap.size)] 56) = w2 := ⟨_, rfl⟩
  have hc2 : Chg (fun _ => False) w1 w2 := by rw [← hw2]; exact ((Chg.refl _ _).alloc _).alloc _
  have hsz2 : w2.heap.size = w1.heap.size + 1 + 1 := by rw [← hw2, World.size_alloc, World.size_alloc]
  have hdb : DbIs w2 (w1.heap.size + 1) l w1.heap.size [] := by
    have e1 : (w1.alloc (.map #[] 0)).heap.size = w1.heap.size + 1 := World.size_alloc _ _
    refine ⟨?_, ?_⟩
    · rw [← hw2, ← e1]
      exact block_alloc_new _ _
    · rw [← hw2]
      exact (MapIs.made sKey strV (block_alloc_new _ _) : MapAt (w1.alloc (.map #[] 0)) w1.heap.size []).kept ((Chg.refl (fun _ => False) _).alloc _) id
  have hk2 : KAt (NowP P w w1) w2 (w1.heap.size + 1) l w1.heap.size d X' (lvW recs s a []) [] :=
    ⟨wat_again hw1.now hc2, hdb, fun h => by have := h.2; omega, fun h => by have := h.2; omega, fun k hk => by have := hk.2; omega⟩
  have hcw : Chg P w w2 := hw1.chg.trans' (hc2.mono (fun _ _ e => e.elim))
  have HK2 := Lib.hid hk2
  have HCw := Lib.hid hcw
  have HSz := Lib.hid (And.intro hsz2 hw1.chg.size)
  have HW2 := Lib.hid hw2
  have HRp := Lib.hid (And.intro hrep hQ)
  have HB := Lib.hid (And.intro b1 (And.intro b2 (And.intro b3 b4)))
  have HSm := Lib.hid hsm
  have HRec := Lib.hid (show Calls Tryz.prog 46 #[.pointer (some ⟨l, 0, none⟩)] w2 fun e w' => ∃ v, e = .returned v ∧ w'.ownsRow w2.heap.size 9 1 v recs.length (recs.map strV) ∧ Chg (fun _ => False) w2 w' from wat_records hk2.log hsm)
  clear hw1 hQ hst hrep hsm b1 b2 b3 b4 hc2 hdb hk2 hcw hsz2 hw2 HO
  dsimp only
  go_wp2_with (first
    | (go_at_call 46; fail))
  rw [HW2.out]
  refine HRec.out.mono ?_
  rintro e w3 ⟨v3, rfl, ho3, hc3⟩
  obtain ⟨oa3, cap3, rfl⟩ := own_slice ho3
  obtain ⟨b, hb⟩ : ∃ b, w1.heap.size + 1 = b := ⟨_, rfl⟩
  obtain ⟨q, hq⟩ : ∃ q, w1.heap.size = q := ⟨_, rfl⟩
  have hk3 := HK2.out.fresh hc3
  rw [hb, hq] at hk3
  have HK3 := Lib.hid hk3
  have HO3 := Lib.hid ho3
  have HC3 := Lib.hid hc3
  have HQ2 := Lib.hid (show q < w2.heap.size by rw [← hq]; have := HSz.out.1; omega)
  have HBq := Lib.hid (show w.heap.size ≤ b ∧ w.heap.size ≤ q ∧ w.heap.size ≤ w3.heap.size by rw [← hq, ← hb]; have := HSz.out.1; have := HSz.out.2; have := hc3.size; exact ⟨by omega, by omega, by omega⟩)
  have hsmi : (recs.length : Int) ≤ 131008 := by have := HSm.out; omega
  rw [hb, hq]
  clear hc3 ho3 hk3 HRec HK2 HW2 hb hq HSz
  dsimp only
  go_wp2_with fail
  go_loopw [26] (fun j wr => ∃ k : Nat, j = .int .i64 k ∧ k ≤ recs.length ∧ KAt (NowP P w w1) wr b l q d X' (lvW recs s a []) (applyF [] (bs.take k).flatten) ∧ Chg (· = q) w3 wr) (fun j _ => recs.length - (intOf j).toNat)
  · exact ⟨0, rfl, Nat.zero_le _, HK3.out, Chg.refl _ _⟩
  obtain ⟨k, rfl, hk, hkat, hc⟩ := hrel
  have HKr := Lib.hid hkat
  have HCr := Lib.hid hc
  clear hkat hc
  by_cases hlt : k < recs.length
  · have hki : (k : Int) < (recs.length : Int) := by omega
    obtain ⟨r, hr⟩ : ∃ r, recs[k]? = some r := ⟨recs[k], List.getElem?_eq_getElem hlt⟩
    obtain ⟨bt, hb1, hb2, hb3, hb4⟩ := HB.out.2.1 k r hr
    obtain ⟨g, rfl, hg1, hg2, hcell⟩ := row_cell HO3.out hr
    have d0 := hcell (· = q) wr HCr.out (fun e => by have := HQ2.out; have e : g = q := e; omega)
    have hdec := decode_any wr r (by omega)
    rw [hb2] at hdec
    obtain ⟨sr, hsr⟩ : ∃ s : ByteArray, strV r = .string s := ⟨_, rfl⟩
    rw [hsr] at d0 hdec
    have HDec := Lib.hid hdec
    have HBt := Lib.hid (And.intro hb1 hb3)
    clear hdec hsr hb1 hb2 hb3 hb4 hcell hr hg1 hg2
    go_wp2_with (first
      | (go_at_call 12; refine HDec.out.mono ?_; rintro e w4 ⟨v4, er, rfl, ⟨hp4, rfl⟩, hc4⟩
         have hk4 := HKr.out.fresh hc4
         have c1 := cell_of_block (i := 1) hk4.db.head rfl
         have HK4 := Lib.hid hk4
         have HP4 := Lib.hid hp4
         have HC4 := Lib.hid hc4
         clear hk4 hp4 hc4)
      | (go_at_call 47; refine (apply_any _ HK4.out.db.map HP4.out (fun p hp => by have := (may_key (HBt.out.2.may p hp)).2.1; unfold maxLen; omega) (by have := HBt.out.2.few; omega)).mono ?_; rintro e w5 ⟨rfl, hm5, hc5⟩
         have HM5 := Lib.hid hm5
         have HC5 := Lib.hid hc5
         clear hm5 hc5))
    refine ⟨⟨k + 1, by go_num, hlt, ?_, (HCr.out.trans' (HC4.out.mono (fun _ _ e => e.elim))).trans' HC5.out⟩, by simp [intOf]; omega⟩
    have := HM5.out
    rw [flat_take HBt.out.1] at this
    exact HK4.out.put HC5.out this
  · have hki : ¬ (k : Int) < (recs.length : Int) := by omega
    obtain rfl : k = recs.length := by omega
    have hkr := HKr.out
    rw [List.take_of_length_le (Nat.le_of_eq HB.out.1.symm)] at hkr
    have HKe := Lib.hid hkr
    clear hkr
    go_wp2_with fail
    go_ret2
    refine ⟨_, rfl, ⟨l, q, _, X', recs, s, a, _, HKe.out, HRp.out.1.same HB.out.2.2.1 (fun k => (HB.out.2.2.2 k).symm), HRp.out.2, fun k hk => hk.1, ?_⟩, ?_, ?_⟩
    · exact HBq.out.2.1
    · exact HBq.out.1
    · refine (HCw.out.trans' (HC3.out.mono (fun _ _ e => e.elim))).trans HCr.out (fun i hi e => ?_)
      have := HBq.out.2.1
      have e : i = q := e
      omega

end Go.Proofs.YtbkefhoapnaciaaGreat.kvs
end

/-
  kv: a law's database: all of it new since the law began.
-/
section
set_option linter.unusedSimpArgs false
set_option linter.unusedVariables false
namespace Go.Proofs.YtbkefhoapnaciaaGreat.kvs
open Go.RowKit Go.Maps Go.My Go.ChangeMaps disks bufs wals
set_option maxRecDepth 100000

variable {W w w' : World} {P : Nat → Prop} {b l q d s a : Nat} {X X' : DV} {V V' : LV} {m m' mm : List KV} {recs : List Txt}

/-- A law's database: its blocks are new since W; nothing older has changed. -/
structure KS (P : Nat → Prop) (W w : World) (b l q d : Nat) (X : DV) (V : LV) (m : List KV) : Prop where
  at' : KAt P w b l q d X V m
  new : ∀ k, P k → W.heap.size ≤ k
  nb : W.heap.size ≤ b
  nq : W.heap.size ≤ q
  chg : Chg (fun _ => False) W w
/-- A block beside the database's. -/
def Beside (P : Nat → Prop) (q : Nat) (w : World) (g : Nat) : Prop := ¬ P g ∧ g ≠ q ∧ g < w.heap.size

theorem Beside.fresh {g : Nat} (h : Beside P q w g) (hc : Chg (fun _ => False) w w') : Beside P q w' g := ⟨h.1, h.2.1, Nat.lt_of_lt_of_le h.2.2 hc.size⟩
theorem KS.fresh (h : KS P W w b l q d X V m) (hc : Chg (fun _ => False) w w') : KS P W w' b l q d X V m := ⟨h.at'.fresh hc, h.new, h.nb, h.nq, h.chg.trans' hc⟩
/-- A block that is made is beside it. -/
theorem KS.made (h : KS P W w b l q d X V m) {g : Nat} (hg : w.heap.size ≤ g) (hw : g < w'.heap.size) : Beside P q w' g := ⟨fun hp => by have := h.at'.lt g hp; omega, fun e => by have := h.at'.db.ltq; omega, hw⟩
theorem KS.old (h : KS P W w b l q d X V m) {g : Nat} (hg : g < W.heap.size) : Beside P q w g := ⟨fun hp => by have := h.new g hp; omega, fun e => by have := h.nq; omega, Nat.lt_of_lt_of_le hg h.chg.size⟩

/-- Behind a call. -/
structure KNext (P : Nat → Prop) (W w w' : World) (b l q d : Nat) (X : DV) (V : LV) (m : List KV) (P' : Nat → Prop) : Prop where
  ks : KS P' W w' b l q d X V m
  off : ∀ g, Beside P q w g → Beside P' q w' g
  chg : Chg (fun k => P k ∨ k = q) w w'
theorem KS.post (h : KS P W w b l q d X V m) (k : KPost P w w' b l q d X' V' m') : ∃ P', KNext P W w w' b l q d X' V' m' P' := by
  obtain ⟨⟨P', h1, h2⟩, h3⟩ := k
  refine ⟨P', ⟨h1, fun j hj => (h2 j hj).elim (h.new j) (fun e => Nat.le_trans h.chg.size e), h.nb, h.nq, h.chg.new h3 (fun j hj => hj.elim (h.new j) (fun e => by rw [e]; exact h.nq))⟩, fun g hg => ⟨fun hp => (h2 g hp).elim hg.1 (fun e => by have := hg.2.2; omega), hg.2.1, Nat.lt_of_lt_of_le hg.2.2 h3.size⟩, h3⟩
theorem KNext.keep {P' : Nat → Prop} (h : KNext P W w w' b l q d X V m P') {g2 : Nat} {m2 : List KV} (hb : Beside P q w g2) (hm : MapAt w g2 m2) : MapAt w' g2 m2 := hm.kept h.chg (fun e => e.elim hb.1 hb.2.1)
theorem KNext.puts {P' : Nat → Prop} (h : KNext P W w w' b l q d X V m P') {B : Nat} {v : Value} {ps : List PV} (hb : ∀ g, v.ownBlock = some g → Beside P q w g) (hp : Puts w B v ps) : Puts w' B v ps := hp.kept h.chg (fun g hg e => e.elim (hb g hg).1 (hb g hg).2.1)

theorem ks_do (w : World) (h : KS P W w b l q d X (lvW recs s a []) m) (hs : Stands X recs s a) (h60 : s ≤ 1152921504606846976) (hr : Rep recs m) (hf : X.fuse ≤ 9223372036854775807) {B : Nat} {v : Value} {ps : List PV} (hp : Puts w B v ps) (hl : ps.length ≤ 1000000) (hv : ∀ g, v.ownBlock = some g → Beside P q w g) :
    Calls Tryz.prog 19 #[.pointer (some ⟨b, 0, none⟩), v] w fun e w' => ∃ z, e = .returned (.int .i64 z) ∧ ∃ X' V' m' P', KNext P W w w' b l q d X' V' m' P' ∧ Out X recs s a m (applyF m ps) (DoWhy X m ps) z X' V' m' := by
  refine (do_lv w h.at' hs h60 hr hf hp hl (fun g hg => ⟨(hv g hg).1, (hv g hg).2.1⟩)).mono ?_
  rintro e w' ⟨z, X', V', m', rfl, hk, ho⟩
  obtain ⟨P', hn⟩ := h.post hk
  exact ⟨z, rfl, X', V', m', P', hn, ho⟩
theorem ks_compact (w : World) (h : KS P W w b l q d X (lvW recs s a []) m) (hs : Stands X recs s a) (h60 : s ≤ 1152921504606846976) (hr : Rep recs m) (hf : X.fuse ≤ 9223372036854775807) :
    Calls Tryz.prog 23 #[.pointer (some ⟨b, 0, none⟩)] w fun e w' => ∃ z, e = .returned (.int .i64 z) ∧ ∃ X' V' m' P', KNext P W w w' b l q d X' V' m' P' ∧ Out X recs s a m m (fun z => z = 7) z X' V' m' := by
  refine (compact_lv w h.at' hs h60 hr hf).mono ?_
  rintro e w' ⟨z, X', V', m', rfl, hk, ho⟩
  obtain ⟨P', hn⟩ := h.post hk
  exact ⟨z, rfl, X', V', m', P', hn, ho⟩
theorem ks_lost (w : World) (h : KS P W w b l q d X V m) (hV : V.Ok X.B.length) (h15 : V.lost = true) {B : Nat} {v : Value} {ps : List PV} (hp : Puts w B v ps) (hl : ps.length ≤ 1000000) (he : (encF ps).2 = 0) :
    Calls Tryz.prog 19 #[.pointer (some ⟨b, 0, none⟩), v] w fun e w' => e = .returned (.int .i64 15) ∧ ∃ P', KNext P W w w' b l q d X V m P' := by
  refine (do_lost w h.at' hV h15 hp hl he).mono ?_
  rintro e w' ⟨rfl, hk⟩
  exact ⟨rfl, h.post hk⟩

/-- A law's disk. -/
structure DS (P : Nat → Prop) (W w : World) (d : Nat) (X : DV) : Prop where
  at' : DAt P w w d X
  new : ∀ k, P k → W.heap.size ≤ k
  lt : ∀ k, P k → k < w.heap.size
  chg : Chg (fun _ => False) W w
theorem KS.disk (h : KS P W w b l q d X V m) : DS P W w d X := ⟨h.at'.log.disk, h.new, h.at'.lt, h.chg⟩
theorem DS.fresh (h : DS P W w d X) (hc : Chg (fun _ => False) w w') : DS P W w' d X := by
  refine ⟨?_, h.new, fun k hk => Nat.lt_of_lt_of_le (h.lt k hk) hc.size, h.chg.trans' hc⟩
  obtain ⟨⟨Fd, h1, h2⟩, -⟩ := h.at'
  exact ⟨⟨Fd, h1.fresh hc, fun k hk => (h2 k hk).elim Or.inl (fun h' => by have := h1.lt k hk; omega)⟩, Chg.refl _ _⟩
theorem ds_new (W : World) (w : World) (hc : Chg (fun _ => False) W w) (n : Nat) (h1 : 1 ≤ n) (hn : n ≤ 4096) : Calls Tryz.prog 17 #[.int .i64 (n : Int)] w fun e w' => ∃ d, e = .returned (.tuple #[.pointer (some ⟨d, 0, none⟩), .int .i64 0]) ∧ ∃ P, DS P W w' d (DV.new n) := by
  refine (dat_new w n h1 hn).mono ?_
  rintro e w' ⟨d, rfl, hd⟩
  refine ⟨d, rfl, NowP (fun _ => False) w w', hd.rest (Chg.refl _ _), fun k hk => hk.1.elim (fun h => h.elim) (fun e => Nat.le_trans hc.size e), fun k hk => hk.2, hc.trans' hd.chg⟩

/-- What is opened, as a law sees it. -/
structure KOpen (P : Nat → Prop) (W w w' : World) (b l q d : Nat) (X : DV) (recs : List Txt) (s a : Nat) (m : List KV) (P' : Nat → Prop) : Prop where
  ks : KS P' W w' b l q d X (lvW recs s a []) m
  rep : Rep recs m
  off : ∀ g, g < w.heap.size → ¬ P g → Beside P' q w' g
  chg : Chg P w w'
theorem Opened.ks {Q : DV → List Txt → Nat → Nat → Prop} (h : Opened P w w' b d Q) (hd : DS P W w d X) : ∃ l q m X' recs s a P', KOpen P W w w' b l q d X' recs s a m P' ∧ Q X' recs s a := by
  obtain ⟨l, q, m, X', recs, s, a, P', k1, k2, k3, k4, k5⟩ := h.at'
  refine ⟨l, q, m, X', recs, s, a, P', ⟨⟨k1, fun k hk => (k4 k hk).elim (hd.new k) (fun e => Nat.le_trans hd.chg.size e), Nat.le_trans hd.chg.size h.new, Nat.le_trans hd.chg.size k5, hd.chg.new h.chg hd.new⟩, k2, fun g hg hp => ⟨fun hp' => (k4 g hp').elim hp (fun e => by omega), fun e => by omega, Nat.lt_of_lt_of_le hg h.chg.size⟩, h.chg⟩, k3⟩

/-- Open of a disk on which nothing was laid. -/
theorem ks_open_new (w : World) (hd : DS P W w d X) (hb : Blank X) (hf : X.fuse = -1) :
    Calls Tryz.prog 18 #[.pointer (some ⟨d, 0, none⟩)] w fun e w' => ∃ b, e = .returned (.tuple #[.pointer (some ⟨b, 0, none⟩), .int .i64 0]) ∧ ∃ l q m X' recs s a P', KOpen P W w w' b l q d X' recs s a m P' ∧ (recs = [] ∧ s = 1 ∧ Stands X' recs s a ∧ X'.fuse = -1 ∧ X'.B.length = X.B.length) := by
  refine (open_kv w hd.lt (Q := fun X' recs s a => recs = [] ∧ s = 1 ∧ Stands X' recs s a ∧ X'.fuse = -1 ∧ X'.B.length = X.B.length) ((wat_open_new hd.at' hb hf).mono ?_) ?_).mono ?_
  · rintro e w' ⟨l, X', rfl, h1, h2, h3, h4⟩
    exact ⟨l, X', [], 1, 0, rfl, h1, rfl, rfl, h2, h3, h4⟩
  · rintro X' recs s a ⟨rfl, rfl, h, -, -⟩
    exact ⟨h, [], Rep.nil⟩
  · rintro e w' ⟨b, rfl, h⟩
    exact ⟨b, rfl, h.ks hd⟩
/-- Open of a disk on which records stand. -/
theorem ks_open (w : World) (hd : DS P W w d X) (hs : Stands X recs s a) (h60 : s ≤ 1152921504606846976) (hf : X.fuse ≤ 9223372036854775807) (hr : Rep recs mm) :
    Calls Tryz.prog 18 #[.pointer (some ⟨d, 0, none⟩)] w fun e w' => ∃ b, e = .returned (.tuple #[.pointer (some ⟨b, 0, none⟩), .int .i64 0]) ∧ ∃ l q m P', KOpen P W w w' b l q d X recs s a m P' ∧ ∀ k, mget m k = mget mm k := by
  refine (open_kv w hd.lt (Q := fun X' recs' s' a' => X' = X ∧ recs' = recs ∧ s' = s ∧ a' = a) ((wat_open hd.at' hs h60 hf).mono ?_) ?_).mono ?_
  · rintro e w' ⟨l, rfl, h1⟩
    exact ⟨l, X, recs, s, a, rfl, h1, rfl, rfl, rfl, rfl⟩
  · rintro X' recs' s' a' ⟨rfl, rfl, rfl, rfl⟩
    exact ⟨hs, mm, hr⟩
  · rintro e w' ⟨b, rfl, h⟩
    obtain ⟨l, q, m, X', recs', s', a', P', k1, rfl, rfl, rfl, rfl⟩ := h.ks hd
    exact ⟨b, rfl, l, q, m, P', k1, k1.rep.unique hr⟩

theorem same_len {m m2 : List KV} (h1 : NoDup m) (h2 : NoDup m2) (h : ∀ k, mget m k = mget m2 k) : m.length = m2.length := (perm_of_get h1 h2 h).length_eq

/-- A batch in a block of its own. -/
theorem puts_block {g : Nat} {ps : List PV} {rows : List Value} (hb : w.heap[g]? = some (.cells rows.toArray 45 (0, 0))) (hr : rows = (ps.map PV.row).flatten) (hl : ps.length ≤ 1000) : Puts w g (.slice (some ⟨g, 0, none⟩) ps.length ps.length) ps := by
  subst hr
  have h3 : ∀ r ∈ ps.map PV.row, r.length = 3 := fun r hr => by obtain ⟨p, -, rfl⟩ := List.mem_map.1 hr; rfl
  have h4 : (ps.map PV.row).flatten.length = ps.length * 3 := by rw [flat_length 3 _ h3, List.length_map]
  refine ⟨?_, h3⟩
  rw [List.length_map]
  exact ⟨h4, .inr ⟨g, ps.length, _, rfl, Nat.le_refl _, hb, Nat.le_refl _, by unfold maxLen; omega, by simpa using h4, by rw [List.take_of_length_le (by simpa using Nat.le_of_eq h4)]⟩⟩

end Go.Proofs.YtbkefhoapnaciaaGreat.kvs
end

/-
  kv: a batch that was done is there when the disk is opened again.
-/
section
set_option linter.unusedSimpArgs false
set_option linter.unusedVariables false
namespace Go.Proofs.YtbkefhoapnaciaaGreat.kvs
open Go.RowKit Go.Maps Go.My Go.ChangeMaps disks bufs wals
set_option maxRecDepth 100000

variable {W w w' : World} {P : Nat → Prop} {b l q d s a : Nat} {X X' : DV} {V V' : LV} {m m' mm : List KV} {recs : List Txt}

/-! ### a snapshot of a small map is one batch -/
theorem snapL_small : ∀ (l : List PV) (x : Sn), x.now.length + l.length ≤ 64 → 1 + x.size + (allB l).length ≤ 4096 → l.foldl Sn.step x = ⟨x.out, x.now ++ l, x.size + (allB l).length⟩
  | [], x, _, _ => by simp [allB]
  | p :: l, x, h1, h2 => by
    have e : allB (p :: l) = p.bytes ++ allB l := by simp [allB]
    rw [e, List.length_append] at h2 ⊢
    rw [List.length_cons] at h1
    have hr : x.room p.bytes.length = x := by
      unfold Sn.room
      rw [if_neg (by omega)]
    have hs : x.step p = ⟨x.out, x.now ++ [p], x.size + p.bytes.length⟩ := by unfold Sn.step; rw [hr]
    rw [List.foldl_cons, hs, snapL_small l _ (by simp only [List.length_append, List.length_cons, List.length_nil]; omega) (by simp only; omega)]
    simp only [List.append_assoc, List.cons_append, List.nil_append, Nat.add_assoc]
theorem allB_le {B : Nat} : ∀ (l : List PV), (∀ p ∈ l, p.bytes.length ≤ B) → (allB l).length ≤ l.length * B
  | [], _ => by simp [allB]
  | p :: l, h => by
    have e : allB (p :: l) = p.bytes ++ allB l := by simp [allB]
    have h1 := h p (by simp)
    have h2 := allB_le l (fun q hq => h q (by simp [hq]))
    rw [e, List.length_append, List.length_cons, Nat.succ_mul]
    omega
theorem snap_small {m : List KV} (hm : Mays m) {n B : Nat} (hn : m.length ≤ n) (hB : ∀ p ∈ m, (ofKV p).bytes.length ≤ B) (h64 : n ≤ 64) (h4 : 1 + n * B ≤ 4096) : sizeB (snapF m) ≤ 9 + n * B := by
  have hl : ((sortF m).map ofKV).length = m.length := by rw [List.length_map, sortF_len]
  have ha : (allB ((sortF m).map ofKV)).length ≤ n * B := by
    refine Nat.le_trans (allB_le _ (fun p hp => ?_)) (Nat.mul_le_mul_right B (by rw [hl]; exact hn))
    obtain ⟨x, hx, rfl⟩ := List.mem_map.1 hp
    exact hB x ((sortF_perm m).mem_iff.1 hx)
  have hsn : snapL ((sortF m).map ofKV) = ⟨[], (sortF m).map ofKV, 0 + (allB ((sortF m).map ofKV)).length⟩ := by
    unfold snapL
    rw [snapL_small _ _ (by simp only [List.length_nil]; omega) (by simp only; omega)]
    rfl
  unfold snapF
  rw [hsn]
  unfold Sn.close
  simp only
  by_cases h0 : (sortF m).map ofKV = []
  · rw [if_pos h0]
    simp [sizeB]
  · rw [if_neg h0]
    have hf : Fits ((sortF m).map ofKV) := ⟨h0, fun p hp => by
      obtain ⟨x, hx, rfl⟩ := List.mem_map.1 hp
      exact hm x ((sortF_perm m).mem_iff.1 hx), by omega, by omega⟩
    have e1 : (encF ((sortF m).map ofKV)).1.length = 1 + (allB ((sortF m).map ofKV)).length := by rw [hf.enc.1]; exact hf.enc.2
    have e2 : sizeB ([] ++ [(encF ((sortF m).map ofKV)).1]) = (encF ((sortF m).map ofKV)).1.length + 8 := by simp [sizeB]
    rw [e2, e1]
    omega

theorem rep_nil {m : List KV} (h : Rep [] m) : m = [] := by
  cases m with
  | nil => rfl
  | cons p m =>
    have := Rep.nil.unique h p.1
    rw [mget_cons, if_pos rfl] at this
    cases this

theorem ds_crash (hd : DS P W w d X) {v : Value} {keep : List Int} (hk : SlAt w v (keep.map (Value.int .i64))) (hkf : keep ≠ [] → ∀ g, v.ownBlock = some g → ¬ P g) (hin : ∀ z ∈ keep, inR z) (hL : ∀ j, (X.L j).length < 1000000) :
    Calls Tryz.prog 28 #[.pointer (some ⟨d, 0, none⟩), v] w fun e w' => e = .returned (.int .i64 0) ∧ ∃ P', DS P' W w' d (X.crash keep) ∧ Chg P w w' ∧ ∀ g, g < w.heap.size → ¬ P g → ¬ P' g := by
  refine (wat_crash hd.at' hk (fun hne g hg => ⟨hkf hne g hg, slat_old hk (by intro e; cases keep with | nil => exact hne rfl | cons => simp at e) hg⟩) hin hL).mono ?_
  rintro e w' ⟨rfl, h⟩
  exact ⟨rfl, NowP P w w', ⟨h.rest (Chg.refl _ _), fun k hk => hk.1.elim (hd.new k) (fun e => Nat.le_trans hd.chg.size e), fun k hk => hk.2, hd.chg.new h.chg hd.new⟩, h.chg, fun g hg hp hn => hn.1.elim hp (fun e => by omega)⟩

def pvA : PV := ⟨[97], [120], false⟩
def pvB : PV := ⟨[98], [], true⟩
def pvK : PV := ⟨[107], [118], false⟩
theorem enc_ab : encF [pvA, pvB] = ([2, 0, 1, 97, 1, 120, 1, 1, 98], 0) := by decide
theorem enc_k : (encF [pvK]).2 = 0 := by decide
theorem strV_ab : strV [2, 0, 1, 97, 1, 120, 1, 1, 98] = .string ⟨#[2, 0, 1, 97, 1, 120, 1, 1, 98]⟩ := rfl

set_option maxHeartbeats 4000000 in
theorem works_any (w : World) : Calls Tryz.prog 15 #[] w fun e w' => e = .returned (.bool true) ∧ Chg (fun _ => False) w w' := by
  have hb := Blank.new 20 (by omega) (by omega)
  have HB := Lib.hid hb
  have HNew := Lib.hid (ds_new w w (Chg.refl _ _) 20 (by omega) (by omega))
  clear hb
  go_enter Tryz.func15, Tryz.ntmps15
  go_wp2_with (first
    | (go_at_call 17; fail))
  refine HNew.out.mono ?_
  rintro e w1 ⟨d, rfl, P, hd⟩
  have HO := Lib.hid (ks_open_new w1 hd HB.out rfl)
  clear hd HNew
  dsimp only
  go_wp2_with (first
    | (go_at_call 18; fail))
  refine HO.out.mono ?_
  rintro e w2 ⟨b, rfl, l, q, m, X, recs, s, a, P2, hk2, rfl, rfl, hst, hf, hlen⟩
  obtain rfl := rep_nil hk2.rep
  have hca : Chg (fun _ => False) w2 (w2.alloc (.cells #[.string ⟨#[97]⟩, .string ⟨#[120]⟩, .bool false, .string ⟨#[98]⟩, .string ⟨#[]⟩, .bool true] 45)) := (Chg.refl _ _).alloc _
  have hpe : Puts (w2.alloc (.cells #[.string ⟨#[97]⟩, .string ⟨#[120]⟩, .bool false, .string ⟨#[98]⟩, .string ⟨#[]⟩, .bool true] 45)) w2.heap.size (.slice (some ⟨w2.heap.size, 0, none⟩) 2 2) [pvA, pvB] := puts_block (ps := [pvA, pvB]) (block_alloc_new _ _) rfl (by decide)
  have hen := encode_any _ hpe (by decide)
  rw [enc_ab, strV_ab] at hen
  have HEn := Lib.hid hen
  have HK2 := Lib.hid (hk2.ks.fresh hca)
  have HR2 := Lib.hid hk2.rep
  have HS2 := Lib.hid (And.intro hst (And.intro hf hlen))
  clear hk2 hst hf hlen hca hpe hen HO
  dsimp only
  go_wp2_with (first
    | (go_at_call 10; refine HEn.out.mono ?_; rintro e w3 ⟨rfl, hc3⟩; have HK3 := Lib.hid (HK2.out.fresh hc3); clear hc3)
    | (go_at_call 19; fail))
  have hca : Chg (fun _ => False) w3 (w3.alloc (.cells #[.string ⟨#[107]⟩, .string ⟨#[118]⟩, .bool false] 45)) := (Chg.refl _ _).alloc _
  have hpe : Puts (w3.alloc (.cells #[.string ⟨#[107]⟩, .string ⟨#[118]⟩, .bool false] 45)) w3.heap.size (.slice (some ⟨w3.heap.size, 0, none⟩) 1 1) [pvK] := puts_block (ps := [pvK]) (block_alloc_new _ _) rfl (by decide)
  have hk3 := HK3.out.fresh hca
  refine (ks_do _ hk3 HS2.out.1 (by omega) HR2.out (by rw [HS2.out.2.1]; omega) hpe (by decide) (fun g hg => by cases hg; exact HK3.out.made (Nat.le_refl w3.heap.size) (by rw [World.size_alloc]; exact Nat.lt_succ_self w3.heap.size))).mono ?_
  rintro e w4 ⟨z, rfl, X4, V4, m4, P4, hn4, ho4⟩
  obtain ⟨recs4, s4, a4, rfl, hs1, hs2, hst4, hr4, hf4, hl4, hz⟩ := ho4.free HS2.out.2.1 HS2.out.1 HR2.out
  have hz0 : z = 0 ∧ m4 = [([107], [118])] := by
    rcases hz with h | ⟨h, -⟩
    · exact h
    · rcases h with ⟨-, h⟩ | ⟨-, -, h⟩
      · exact absurd enc_k h
      · have h6 : sizeB (snapF (applyF (sortF []) [pvK])) ≤ 9 + 1 * 100 := by
          have e1 : applyF (sortF []) [pvK] = [([107], [118])] := by simp [sortF, applyF, doneF, pvK, mput, mget]
          rw [e1]
          refine snap_small (fun p hp => ?_) (by simp) (fun p hp => ?_) (by omega) (by omega)
          · rw [List.mem_singleton] at hp; subst hp; decide
          · rw [List.mem_singleton] at hp; subst hp; decide
        have h7 : areaN X.B.length = 9 := by rw [HS2.out.2.2, DV.new_len]; rfl
        rw [h7] at h
        omega
  obtain ⟨rfl, rfl⟩ := hz0
  have HCr := Lib.hid (ds_crash hn4.ks.disk (keep := []) (v := .slice none 0 0) ⟨none, 0, rfl, fun h => absurd rfl h, by simp⟩ (fun h => absurd rfl h) (by simp) (fun j => by rw [hst4.idle.L]; simp))
  have HS4 := Lib.hid (And.intro hst4 (And.intro hr4 hs2))
  clear hca hpe hk3 hn4 hst4 hr4 hf4 hl4 hz hs1 hs2 ho4 HK2 HK3 HR2 HS2
  dsimp only
  go_wp2_with (first
    | (go_at_call 28; fail))
  refine HCr.out.mono ?_
  rintro e w5 ⟨rfl, P5, hd5, -, -⟩
  have HO5 := Lib.hid (ks_open w5 hd5 (HS4.out.1.crash []) (by have := HS4.out.2.2; omega) (by show (-1 : Int) ≤ _; omega) HS4.out.2.1)
  clear hd5 HCr
  dsimp only
  go_wp2_with (first
    | (go_at_call 18; fail))
  refine HO5.out.mono ?_
  rintro e w6 ⟨c, rfl, l6, q6, m6, P6, hk6, hm6⟩
  have hg6 : mget m6 [107] = some [118] := by rw [hm6]; rfl
  have hl6 : m6.length = 1 := same_len hk6.rep.nd HS4.out.2.1.nd hm6
  have hge := kat_get hk6.ks.at' [107] (by decide)
  rw [hg6] at hge
  have hle := kat_len hk6.ks.at'
  rw [hl6] at hle
  have HGe := Lib.hid (show Calls Tryz.prog 22 #[.pointer (some ⟨c, 0, none⟩), .string ⟨#[107]⟩] w6 fun e w' => e = .returned (.tuple #[.string ⟨#[118]⟩, .bool true]) ∧ w6 = w' from hge)
  have HLe := Lib.hid (show Calls Tryz.prog 20 #[.pointer (some ⟨c, 0, none⟩)] w6 fun e w' => e = .returned (.int .i64 1) ∧ w6 = w' from hle)
  have HC6 := Lib.hid hk6.ks.chg
  clear hk6 hm6 hg6 hl6 hge hle HO5 HS4
  dsimp only
  go_wp2_with (first
    | (go_at_call 22; refine HGe.out.mono ?_; rintro e w' ⟨rfl, rfl⟩)
    | (go_at_call 20; refine HLe.out.mono ?_; rintro e w' ⟨rfl, rfl⟩))
  go_ret
  exact ⟨rfl, HC6.out⟩

end Go.Proofs.YtbkefhoapnaciaaGreat.kvs
end

/-
  kv: Open of what is no disk, or cannot be opened.
-/
section
set_option linter.unusedSimpArgs false
set_option linter.unusedVariables false
namespace Go.Proofs.YtbkefhoapnaciaaGreat.kvs
open Go.RowKit Go.Maps Go.My Go.ChangeMaps disks bufs wals
set_option maxRecDepth 100000

variable {w w' : World}

theorem open_no_kv (w : World) (p : Option Addr) (h : NoDisk w p) : Calls Tryz.prog 18 #[.pointer p] w fun e w' => e = .returned (.tuple #[.pointer none, .int .i64 1]) ∧ w = w' := by
  have H := Lib.hid h
  clear h
  go_enter Tryz.func18, Tryz.ntmps18
  go_wp2_with (first
    | (go_at_call 45; refine (open_no _ _ H.out).mono ?_; rintro e w' ⟨rfl, rfl⟩))
  go_ret2
  exact ⟨rfl, rfl⟩

/-- A disk that the log refuses. -/
theorem open_refused (w : World) {d : Nat} {S : Nat → Prop} {z : Int} (hz : z ≠ 0) (h : Calls Tryz.prog 45 #[.pointer (some ⟨d, 0, none⟩)] w fun e w' => e = .returned (.tuple #[.pointer none, .int .i64 z]) ∧ Chg S w w') :
    Calls Tryz.prog 18 #[.pointer (some ⟨d, 0, none⟩)] w fun e w' => e = .returned (.tuple #[.pointer none, .int .i64 z]) ∧ Chg S w w' := by
  have H := Lib.hid h
  clear h
  have hzi : ¬ z = 0 := hz
  go_enter Tryz.func18, Tryz.ntmps18
  go_wp2_with (first
    | (go_at_call 45; refine H.out.mono ?_; rintro e w1 ⟨rfl, hc⟩; have HC := Lib.hid hc; clear hc))
  go_ret2
  exact ⟨rfl, HC.out⟩

end Go.Proofs.YtbkefhoapnaciaaGreat.kvs
end

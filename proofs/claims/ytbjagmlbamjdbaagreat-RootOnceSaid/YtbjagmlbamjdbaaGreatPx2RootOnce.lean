/- . -/
import Derived.Test.YtbjagmlbamjdbaaGreatPx1RootOnce
import Derived.Great.BuildSlice
import Derived.Maps.RangeWalk
import Derived.Laws.OwnMore

set_option linter.unusedSimpArgs false
set_option linter.unusedVariables false
section
namespace Go.Proofs.YtbjagmlbamjdbaaGreat.disks
open Go.RowKit Go.Maps Go.My
set_option maxRecDepth 100000

variable {w w' : World} {d q : Nat} {F F' : Nat → Prop} {X X' : DV} {bv : Value} {m : List (Int × (Value × List Blk))}

theorem foldl_set (c : List Value) : ∀ (k : Nat) (pre : List Value) (post : List Value), pre.length = k → c.length ≤ post.length →
    (c.zipIdx k).foldl (fun (cs : Array Value) (x : Value × Nat) => cs.setIfInBounds (0 + x.2) x.1) (pre ++ post).toArray = (pre ++ c ++ post.drop c.length).toArray := by
  induction c with
  | nil => intro k pre post _ _; simp
  | cons u c ih =>
    intro k pre post hk hl
    cases post with
    | nil => simp at hl
    | cons z post =>
      have h1 : ((pre ++ z :: post).toArray).setIfInBounds (0 + k) u = ((pre ++ [u]) ++ post).toArray := by
        rw [List.setIfInBounds_toArray, Nat.zero_add, List.set_append_right _ _ (by omega), hk, Nat.sub_self, List.set_cons_zero]
        simp
      simp only [List.zipIdx_cons, List.foldl_cons]
      rw [h1, ih (k + 1) (pre ++ [u]) post (by simp [hk]) (by simpa using hl)]
      simp

theorem mem_mput {K V : Type} [DecidableEq K] {m : List (K × V)} {k : K} {v : V} {p : K × V} (h : p ∈ mput m k v) : p = (k, v) ∨ (p ∈ m ∧ p.1 ≠ k) := by
  unfold mput at h
  split at h
  · obtain ⟨r, hr, rfl⟩ := List.mem_map.1 h
    split
    · exact Or.inl rfl
    · exact Or.inr ⟨hr, by assumption⟩
  · rename_i hn
    rcases List.mem_append.1 h with h | h
    · refine Or.inr ⟨h, fun e => hn ?_⟩
      unfold mget
      rw [Option.isSome_map, List.find?_isSome]
      exact ⟨p, h, by simpa using e⟩
    · exact Or.inl (by simpa using h)

theorem own_some {w : World} {base : Nat} {e : TypeId} {n : Nat} {v : Value} {l : List (List Value)} (h : OwnRecs w base e n v l) (hl : l ≠ []) : ∃ g, v.ownBlock = some g ∧ g < w.heap.size := by
  obtain ⟨g, cap, rfl, _, _, h2, _⟩ := h.cell (k := 0) (List.length_pos_iff.2 hl)
  exact ⟨g, rfl, h2⟩

def grow (F : Nat → Prop) (w w' : World) : Nat → Prop := fun j => F j ∨ (w.heap.size ≤ j ∧ j < w'.heap.size)

def DV.put (X : DV) (k : Nat) (b : Blk) : DV := { X with L := fun j => if j = k then X.L j ++ [b] else X.L j }

theorem DiskIs.looked' (h : DiskIs w d F X bv q m) (i : Nat) : ∃ v, lookRes false (.slice none 0 0) Prod.fst (mget m (i : Int)) = v ∧ OwnRecs w 0 154 64 v ((X.L i).map cellsB) ∧
    (v.ownBlock = none ∨ ((i : Int), (v, X.L i)) ∈ m) := by
  rw [h.waits i]
  cases hm : mget m (i : Int) with
  | none => exact ⟨_, rfl, OwnRecs.nil _ _ _ _, Or.inl rfl⟩
  | some p =>
    have hp : ((i : Int), p) ∈ m := by
      unfold mget at hm
      simp only [Option.map_eq_some_iff] at hm
      obtain ⟨r, h1, rfl⟩ := hm
      have h2 := List.find?_some h1
      simp only [decide_eq_true_eq] at h2
      rw [← h2]
      exact List.mem_of_find?_eq_some h1
    exact ⟨_, rfl, (h.lists _ hp).1, Or.inr hp⟩

theorem DiskIs.putL (h : DiskIs w d F X bv q m) {k : Nat} (hk : k < X.B.length) {u v' : Value} (hu : u.ownBlock = none ∨ ((k : Int), (u, X.L k)) ∈ m) {b : Blk} {w2 w3 : World}
    (hg : Chg (fun j => some j = u.ownBlock) w w2) (ho : OwnRecs w2 0 154 64 v' ((X.L k ++ [b]).map cellsB)) (hv : v'.ownBlock = u.ownBlock ∨ ∃ g, w.heap.size ≤ g ∧ v'.ownBlock = some g)
    (hm : MapIs iKey Prod.fst w3 q (mput m (k : Int) (v', X.L k ++ [b]))) (hc : Chg (· = q) w2 w3) : DiskIs w3 d (grow F w w3) (X.put k b) bv q (mput m (k : Int) (v', X.L k ++ [b])) := by
  obtain ⟨g', hg', hlt'⟩ := own_some ho (by simp)
  have huB : ∀ g, bv.ownBlock = some g → u.ownBlock ≠ some g := by
    intro g hb e
    rcases hu with hu | hu
    · rw [hu] at e; cases e
    · exact h.off _ hu (e.trans hb.symm)
  have hud : u.ownBlock ≠ some d := by
    intro e
    rcases hu with hu | hu
    · rw [hu] at e; cases e
    · exact row_ne_d h (h.lists _ hu).1 e
  have huq : u.ownBlock ≠ some q := by
    intro e
    rcases hu with hu | hu
    · rw [hu] at e; cases e
    · exact row_ne_q h (h.lists _ hu).1 e
  have hup : ∀ p ∈ m, p.1 ≠ (k : Int) → ∀ g, p.2.1.ownBlock = some g → u.ownBlock ≠ some g := by
    intro p hp hne g hb e
    rcases hu with hu | hu
    · rw [hu] at e; cases e
    · exact h.apart _ hp _ hu hne (hb.trans e.symm)
  have huF : ∀ g, u.ownBlock = some g → F g := by
    intro g e
    rcases hu with hu | hu
    · rw [hu] at e; cases e
    · exact h.fm _ hu g e
  have hsz : w.heap.size ≤ w3.heap.size := Nat.le_trans hg.size hc.size
  have hg3 : g' < w3.heap.size := Nat.lt_of_lt_of_le hlt' hc.size
  have hF' : grow F w w3 g' := by
    rcases hv with hv | ⟨g, h1, h2⟩
    · exact Or.inl (huF g' (hv.symm.trans hg'))
    · rw [hg'] at h2; cases h2; exact Or.inr ⟨h1, hg3⟩
  have hgq : g' ≠ q := by
    rintro rfl
    obtain ⟨cur, h1⟩ := own_obj ho hg'
    obtain ⟨es, clock, h2, _⟩ := h.wmap
    rw [hg.at h2 (fun e => huq e.symm)] at h1
    cases h1
  have hnew : ∀ g, F g → u.ownBlock ≠ some g → g' ≠ g := by
    rintro g hFg hne rfl
    rcases hv with hv | ⟨g, h1, h2⟩
    · exact hne (hv.symm.trans hg')
    · rw [hg'] at h2; cases h2
      have := h.lt _ hFg; omega
  refine ⟨hc.at (hg.at h.head (fun e => hud e.symm)) (fun e => h.d_ne_q e), (h.rows.kept hg (fun j hj e => huB j hj e.symm)).kept hc (fun j hj e => row_ne_q h h.rows (e ▸ hj)), h.any, hm, ?_, ?_, ?_, ?_, Or.inl h.fd, Or.inl h.fq, fun g hb => Or.inl (h.fb g hb), ?_, ?_, h.size⟩
  · intro p hp
    rcases mem_mput hp with rfl | ⟨hp, hne⟩
    · exact ⟨ho.kept hc (fun j hj e => by rw [hg'] at hj; cases hj; exact hgq e), by simp, by omega, by simpa [DV.put] using hk⟩
    · obtain ⟨h1, h2, h3, h4⟩ := h.lists p hp
      exact ⟨(h1.kept hg (fun j hj e => hup p hp hne j hj e.symm)).kept hc (fun j hj e => row_ne_q h h1 (e ▸ hj)), h2, h3, h4⟩
  · intro i
    rw [mget_mput]
    by_cases hi : i = k
    · subst hi; simp [DV.put]
    · have : (i : Int) ≠ (k : Int) := by omega
      rw [if_neg this]
      simp only [DV.put, if_neg hi]
      exact h.waits i
  · intro p hp
    rcases mem_mput hp with rfl | ⟨hp, hne⟩
    · intro e
      rw [hg'] at e
      exact hnew g' (h.fb _ e.symm) (huB g' e.symm) rfl
    · exact h.off p hp
  · intro p hp p' hp' hne
    rcases mem_mput hp with rfl | ⟨hp, hn1⟩
    · rcases mem_mput hp' with rfl | ⟨hp', hn2⟩
      · exact absurd rfl hne
      · intro e
        rw [hg'] at e
        exact hnew g' (h.fm _ hp' _ e.symm) (hup p' hp' hn2 g' e.symm) rfl
    · rcases mem_mput hp' with rfl | ⟨hp', hn2⟩
      · intro e
        rw [hg'] at e
        exact hnew g' (h.fm _ hp _ e) (hup p hp hn1 g' e) rfl
      · exact h.apart p hp p' hp' hne
  · intro p hp g hb
    rcases mem_mput hp with rfl | ⟨hp, hne⟩
    · rw [hg'] at hb; cases hb; exact hF'
    · exact Or.inl (h.fm p hp g hb)
  · rintro j (hj | hj)
    · exact Nat.lt_of_lt_of_le (h.lt j hj) hsz
    · exact hj.2

end Go.Proofs.YtbjagmlbamjdbaaGreat.disks
end

section
namespace Go.Proofs.YtbjagmlbamjdbaaGreat.disks
open Go.RowKit Go.Maps Go.My Go.ChangeMaps
set_option maxRecDepth 100000

variable {w w' : World} {d q : Nat} {F F' : Nat → Prop} {X X' : DV} {bv : Value} {m : List (Int × (Value × List Blk))}

def writeC (X : DV) (i : Int) (n : Nat) : Int := if askedC X i ≠ 0 then askedC X i else if n ≠ 64 then 2 else if X.fuse = 0 then 15 else 0
def DV.write (X : DV) (i : Int) (b : Blk) : DV := if askedC X i ≠ 0 ∨ b.length ≠ 64 then X else if X.fuse = 0 then X.burn else X.burn.put i.toNat b

theorem DiskIs.grown (h : DiskIs w d F X bv q m) {w0 : World} (hs : w0.heap.size ≤ w.heap.size) : DiskAt w d (grow F w0 w) X :=
  ⟨bv, q, m, h.wide (fun _ h => Or.inl h) (by rintro k (hk | hk); exact h.lt k hk; exact hk.2)⟩

theorem take_list {P : Program} {md : Region.Mode} {l : List Oper} {Q : Exit → Go.Act → World → Prop} {S : World → Prop} {i : Nat} {oi : Oper} {v : Value} {fuel : Nat} {listed : Array Bool} {a : Go.Act} {w : World} (hi : l[i]? = some oi)
    (hs : Region.noSelect l.toArray = true) (hf : Region.free md l.toArray listed i = true) (hr : (Region.ready md l.toArray listed).contains i = true)
    (hQ : ∀ c a w, Q (.panic c) (a.put oi.dst v) w → Q (.panic c) a w) (hy : YieldsIf P l.toArray S oi v a) (hS : S w)
    (h : wpAnyH P md l.toArray Q S fuel (listed.setIfInBounds i true) (a.put oi.dst v) w) : wpAnyH P md l.toArray Q S (fuel + 1) listed a w :=
  wpAnyH_take (by simpa using hi) hs hf hr hQ hy hS h

theorem one_list {P : Program} {md : Region.Mode} {l : List Oper} {Q : Exit → Go.Act → World → Prop} {S : World → Prop} {i : Nat} {o : Oper} {rs : List Nat} {fuel : Nat} {listed : Array Bool} {a : Go.Act} {w : World} (hi : l[i]? = some o)
    (hw : Region.wanted o (yielded l.toArray a.tmps) = true)
    (h : ∀ K : Go.Act → World → Prop, (∀ a w, S w → (S w → wpAnyH P md l.toArray Q S fuel (listed.setIfInBounds i true) a w) → K a w) → Oper.wp P o a w K Q)
    (hs : AllReadyH P md l.toArray Q S fuel listed a w rs) : AllReadyH P md l.toArray Q S fuel listed a w (i :: rs) := by
  refine AllReadyH.cons (o := o) (by simpa using hi) (fun K hK => ?_) hs
  rw [if_pos hw]
  exact h K hK.out

theorem zA {α : Type} {l : List α} {i : Nat} {a : α} : l.toArray.setIfInBounds i a = (l.set i a).toArray := List.setIfInBounds_toArray _ _ _
theorem zB {α : Type} {x : α} {xs : List α} {a : α} : (x :: xs).set 0 a = a :: xs := rfl
theorem zC {α : Type} {x : α} {xs : List α} {i : Nat} {a : α} : (x :: xs).set (i + 1) a = x :: xs.set i a := rfl
theorem tk {P : Program} {md : Region.Mode} {l : List Oper} {Q : Exit → Go.Act → World → Prop} {S : World → Prop} (i : Nat) {oi : Oper} {v : Value} {fuel : Nat} {listed : Array Bool} {a : Go.Act} {w : World} (hS : S w) (hi : l[i]? = some oi)
    (hy : ∀ w, S w → (execOp a.eval oi).run P w = .ok (.value v) w) (h : wpAnyH P md l.toArray Q S fuel (listed.setIfInBounds i true) (a.put oi.dst v) w)
    (hs : Region.noSelect l.toArray = true := by kernel_rfl) (hf : Region.free md l.toArray listed i = true := by kernel_rfl) (hr : (Region.ready md l.toArray listed).contains i = true := by kernel_rfl)
    (hQ : ∀ c a w, Q (.panic c) (a.put oi.dst v) w → Q (.panic c) a w := by exact fun _ _ _ h => h) (hw : Region.wanted oi (yielded l.toArray a.tmps) = true := by rfl) : wpAnyH P md l.toArray Q S (fuel + 1) listed a w :=
  take_list hi hs hf hr hQ (Or.inl ⟨hw, hy⟩) hS h
theorem on1 {P : Program} {md : Region.Mode} {l : List Oper} {Q : Exit → Go.Act → World → Prop} {S : World → Prop} (i : Nat) {o : Oper} {fuel : Nat} {listed : Array Bool} {a : Go.Act} {w : World} (hi : l[i]? = some o)
    (h : ∀ K : Go.Act → World → Prop, (∀ a w, S w → (S w → wpAnyH P md l.toArray Q S fuel (listed.setIfInBounds i true) a w) → K a w) → Oper.wp P o a w K Q)
    (hr : Region.ready md l.toArray listed = [i] := by kernel_rfl) (hw : Region.wanted o (yielded l.toArray a.tmps) = true := by rfl) : wpAnyH P md l.toArray Q S (fuel + 1) listed a w :=
  wpAnyH_ready hr (by simp) (one_list hi hw h AllReadyH.nil)

theorem oper_append {P : Program} {o : Oper} {a : Go.Act} {w w' : World} {K : Go.Act → World → Prop} {Q : Exit → Go.Act → World → Prop} (s x : Operand) (t : TypeId)
    (ho : o.op = .call { callee := .builtin .append, args := #[s, x], argTypes := #[t, t] }) {v sv xv : Value} (hs : a.eval s = sv) (hx : a.eval x = xv)
    (hr : (Builtin.append_ #[t, t] o.type #[sv, xv]).run P w = .ok v w') (h : K (a.put o.dst v) w') : Oper.wp P o a w K Q := by
  unfold Oper.wp execOp
  simp only [ho, resolve, invoke, builtin, Sem.run_bind, Sem.run_pure, Result.andThen_ok, List.map_toArray, List.map_cons, List.map_nil, hs, hx, hr]
  exact h

set_option maxHeartbeats 4000000 in
theorem write_any (w : World) (h : DiskIs w d F X bv q m) (i : Int) (hi : inR i) (hf : X.fuse ≤ 9223372036854775807) (oa : Option Addr) (n cap : Nat) (b : Blk) (hb : SlAt w (.slice oa n cap) (cellsB b)) (hbf : ∀ a, oa = some a → ¬ F a.block) (hL : ∀ j, (X.L j).length < 1000000) :
    Calls Tryz.prog 166 #[.pointer (some ⟨d, 0, none⟩), .int .i64 i, .slice oa n cap] w fun e w' => e = .returned (.int .i64 (writeC X i b.length)) ∧ DiskAt w' d (grow F w w') (X.write i b) ∧ Chg F w w' := by
  obtain ⟨i0, hI0⟩ := info_parts info_block
  have HI0 := Lib.hid hI0
  clear hI0
  obtain rfl : n = b.length := by
    obtain ⟨_, _, h1, _⟩ := hb
    simp only [Value.slice.injEq] at h1
    rw [h1.2.1, cellsB_length]
  have H := Lib.hid h
  have HB := Lib.hid hb
  have HF := Lib.hid hbf
  have HL := Lib.hid hL
  by_cases ha : askedC X i = 0
  · obtain ⟨k, rfl, hk⟩ : ∃ k : Nat, i = (k : Int) ∧ k < X.B.length := by
      unfold askedC at ha
      split at ha
      · omega
      · split at ha
        · exact ⟨i.toNat, by omega, by omega⟩
        · omega
    by_cases hb64 : b.length = 64
    · obtain ⟨g, off, rfl⟩ : ∃ g off, oa = some ⟨g, off, none⟩ := by
        obtain ⟨oa', cap', h1, h2, -⟩ := hb
        simp only [Value.slice.injEq] at h1
        rw [h1.1]
        exact h2 (by intro e; have := congrArg List.length e; rw [cellsB_length, hb64] at this; simp at this)
      have hb65 : ((b.length : Int) != 64) = false := by rw [hb64]; rfl
      clear h hb hbf hL
      by_cases hz : X.fuse = 0
      · go_enter Tryz.func166, Tryz.ntmps166
        go_wp2_with (first
          | (go_at_call 82; refine (asked_any _ ⟨_, _, _, H.out⟩ _).mono ?_; rw [ha]; rintro e w' ⟨rfl, rfl⟩)
          | (go_at_call 187; refine (through_any _ H.out hf).mono ?_; simp only [hz, ne_eq, not_true_eq_false, decide_false]; rintro e w1 ⟨rfl, h1, hc1⟩))
        go_ret
        refine ⟨by simp [writeC, ha, hb64, hz], ?_, hc1.mono (fun j _ e => e ▸ H.out.fd)⟩
        rw [DV.write, if_neg (by simp [ha, hb64]), if_pos hz]
        exact h1.grown hc1.size
      · go_enter Tryz.func166, Tryz.ntmps166
        go_wp2_with (first
          | (go_at_call 82; refine (asked_any _ ⟨_, _, _, H.out⟩ _).mono ?_; rw [ha]; rintro e w' ⟨rfl, rfl⟩)
          | (go_at_call 187; refine (through_any _ H.out hf).mono ?_; simp only [hz, ne_eq, not_false_eq_true, decide_true]; rintro e w1 ⟨rfl, h1, hc1⟩))
        have hd1 : g ≠ d := fun e => HF.out _ rfl (by rw [show (⟨g, off, none⟩ : Addr).block = g from rfl, e]; exact H.out.fd)
        have hr : w1.rangeAt g off (cellsB b) := by
          obtain ⟨oa', cap', e1, -, e3⟩ := HB.out
          simp only [Value.slice.injEq] at e1
          intro j x hx
          exact hc1.cell (e3 g off e1.1.symm j x hx) (fun e => hd1 e)
        have hYL : X.burn.L = X.L := by rw [DV.burn, if_neg hz]
        have hYB : X.burn.B = X.B := by rw [DV.burn, if_neg hz]
        obtain ⟨u, hu, hou, hum⟩ := h1.looked' k
        rw [hYL] at hou hum
        have H1 := Lib.hid h1
        have HC1 := Lib.hid hc1
        obtain ⟨wb, hwb⟩ : ∃ wb, (w1.alloc (.cells (cellsB b).toArray 154)).drew = wb := ⟨_, rfl⟩
        have hcb : Chg (fun _ => False) w1 wb := by subst hwb; exact ((Chg.refl _ _).alloc _).drew
        have hsb : wb.heap.size = w1.heap.size + 1 := by subst hwb; exact World.size_alloc _ _
        have hlb : (cellsB b).length = 64 := by rw [cellsB_length, hb64]
        obtain ⟨v', w2, hap, ho, hg, -, hv⟩ := run_append_own_at (P := Tryz.prog) wb 0 48 48 154 i0 (.agg (Array.replicate 64 (.int .u8 0))) 64 64 Tryz.underlying48 HI0.out.1 HI0.out.2.1 HI0.out.2.2.1 HI0.out.2.2.2 (by simp [Value.cells]) (by omega)
          u _ _ (hou.kept hcb (fun _ _ h => h)).row ⟨w1.heap.size, 0, none⟩ 1 1 (cellsB b) (by rw [hlb]) (by subst hwb; exact cells_new w1 (cellsB b) _) (one_cellsB b) (by have := HL.out k; simp only [List.length_map]; unfold maxLen; omega) (by have := HL.out k; simp only [List.length_map]; omega) (by omega)
        have hO : OwnRecs w2 0 154 64 v' ((X.L k ++ [b]).map cellsB) := ⟨by simpa using ho, fun r hr => by
          rw [List.map_append, List.mem_append] at hr
          rcases hr with hr | hr
          · exact hou.each r hr
          · simp only [List.map_cons, List.map_nil, List.mem_singleton] at hr
            rw [hr]; exact hlb⟩
        have hC2 : Chg (fun j => some j = u.ownBlock) w1 w2 := Chg.trans' (hcb.mono (fun _ _ h => h.elim)) (Chg.of_grown hg)
        have huF : ∀ j, some j = u.ownBlock → F j := fun j e => by
          rcases hum with hum | hum
          · rw [hum] at e; cases e
          · exact H1.out.fm _ (by rw [← hYL] at hum; exact hum) j e.symm
        have huq : ¬ some q = u.ownBlock := fun e => row_ne_q H1.out hou e.symm
        have hud : ¬ some d = u.ownBlock := fun e => row_ne_d H1.out hou e.symm
        have hgF : ¬ F g := HF.out _ rfl
        have hgq : g ≠ q := fun e => hgF (e ▸ H.out.fq)
        have hgu : ¬ some g = u.ownBlock := fun e => hgF (huF g e)
        obtain ⟨ob, hput, hmap⟩ := (H1.out.wmap.kept hC2 huq).put Tryz.underlying49 (k : Int) (inR_wf hi) (v', X.L k ++ [b])
        have hput' : (Instr.mapUpdate 49 (.map (some q)) (.int .i64 k) v').run Tryz.prog w2 = .ok () (setBlock w2 q ob) := hput
        have hC3 : Chg (· = q) w2 (setBlock w2 q ob) := Chg.setBlock (S := (· = q)) (Chg.refl _ _) (fun _ => rfl) _
        have c1 : w1.cell? ⟨d, 1, none⟩ = some (.map (some q)) := cell_of_block H1.out.head rfl
        have k0 : w1.drew.cell? ⟨d, 1, none⟩ = some (.map (some q)) := c1
        have k1 := hcb.cell c1 id
        have k2 := hC2.cell c1 hud
        have k3 := hC3.cell k2 (fun e => H1.out.d_ne_q e)
        have r0 : w1.drew.rangeAt g off (cellsB b) := hr
        have r1 : wb.rangeAt g off (cellsB b) := fun j x hx => hcb.cell (hr j x hx) id
        have r2 : w2.rangeAt g off (cellsB b) := fun j x hx => hC2.cell (hr j x hx) hgu
        have r3 : (setBlock w2 q ob).rangeAt g off (cellsB b) := fun j x hx => hC3.cell (r2 j x hx) (fun e => hgq e)
        have hlk0 : (Instr.lookup 49 (.map (some q)) (.int .i64 k) false).run Tryz.prog w1.drew = .ok u w1.drew := by
          have := (H1.out.wmap.kept ((Chg.refl (fun _ => False) w1).drew) (fun h => h)).look Tryz.underlying49 (zero_blocks _) false (k : Int) (inR_wf hi)
          rw [hu] at this; exact this
        have hlk1 : (Instr.lookup 49 (.map (some q)) (.int .i64 k) false).run Tryz.prog wb = .ok u wb := by
          have := (H1.out.wmap.kept hcb (fun h => h)).look Tryz.underlying49 (zero_blocks _) false (k : Int) (inR_wf hi)
          rw [hu] at this; exact this
        have hsa : ∀ w', (Instr.arrayAt 154 (.slice (some ⟨g, off, none⟩) 64 cap)).run Tryz.prog w' = .ok (.pointer (some ⟨g, off, none⟩)) w' := fun w' => run_arrayAt _ _ _ 64 _ _ _ Tryz.underlying154 (by omega)
        have hfd : ∀ z : Array Value, z.size = 64 → List.foldl (fun (cs : Array Value) (x : Value × Nat) => cs.setIfInBounds x.snd x.fst) z (cellsB b).zipIdx = (cellsB b).toArray := fun z hz => by
          have := foldl_set (cellsB b) 0 [] z.toList rfl (by simp [hlb, hz])
          rw [show ([] ++ z.toList : List Value).toArray = z from by simp, List.drop_eq_nil_of_le (by simp [hlb, hz])] at this
          simpa using this
        have hty := Tryz.underlying154
        have hsz : (Tryz.prog.info? 154).map (·.size) = some (cellsB b).length := by rw [hlb]; exact size_block
        have hoc := one_cellsB b
        have hfin := H1.out.putL (by rw [hYB]; exact hk) (by rw [hYL]; exact hum) hC2 (by rw [hYL]; exact hO) (by rcases hv with hv | hv; exact Or.inl hv; exact Or.inr ⟨_, by omega, hv⟩) (by rw [hYL]; exact hmap) hC3
        have hAt : DiskAt (setBlock w2 q ob) d (grow F w (setBlock w2 q ob)) (X.write k b) := ⟨_, _, _, by
          rw [DV.write, if_neg (by simp [ha, hb64]), if_neg hz, Int.toNat_natCast]
          exact hfin.wide (by rintro j (hj | hj); exact Or.inl hj; exact Or.inr ⟨Nat.le_trans hc1.size hj.1, hj.2⟩) (by rintro j (hj | hj); exact hfin.lt j (Or.inl hj); exact hj.2)⟩
        have hChg : Chg F w (setBlock w2 q ob) := Chg.trans' (Chg.trans' (hc1.mono (fun j _ e => e ▸ H.out.fd)) (hC2.mono (fun j _ e => huF j e))) (hC3.mono (fun j _ e => e ▸ H1.out.fq))
        have HFin := Lib.hid (And.intro hAt hChg)
        clear hAt hChg
        clear hfin hC2 hC3 hput hmap h1 hc1 hu hou hum ho hg hv hO hr c1 huF huq hud hgF hgq hgu
        subst hwb
        refine wp_region_noPanic ?_
        refine wp_region_held_drew (S := fun w' => w'.cell? ⟨d, 1, none⟩ = some (.map (some q)) ∧ w'.rangeAt g off (cellsB b)) (by kernel_rfl) ⟨k0, r0⟩ (fun hHeld => ?_)
        refine tk 0 (v := ?_) hHeld rfl (fun w hSw => ?_) ?_
        rotate_left
        · (obtain ⟨hSw1, hSw2⟩ := hSw; go_simp)
          try with_reducible rfl
        simp only [Act.put, zA, zB, zC]
        refine tk 1 (v := ?_) hHeld rfl (fun w hSw => ?_) ?_
        rotate_left
        · (obtain ⟨hSw1, hSw2⟩ := hSw; go_simp)
          try with_reducible rfl
        simp only [Act.put, zA, zB, zC]
        refine tk 2 (v := ?_) hHeld rfl (fun w hSw => ?_) ?_
        rotate_left
        · (obtain ⟨hSw1, hSw2⟩ := hSw; go_simp)
          try with_reducible rfl
        simp only [Act.put, zA, zB, zC]
        refine tk 3 (v := ?_) hHeld rfl (fun w hSw => ?_) ?_
        rotate_left
        · (obtain ⟨hSw1, hSw2⟩ := hSw; go_simp)
          try with_reducible rfl
        simp only [Act.put, zA, zB, zC]
        refine tk 4 (v := ?_) hHeld rfl (fun w hSw => ?_) ?_
        rotate_left
        · (obtain ⟨hSw1, hSw2⟩ := hSw; go_simp)
          try with_reducible rfl
        simp only [Act.put, zA, zB, zC]
        refine tk 5 (v := ?_) hHeld rfl (fun w hSw => ?_) ?_
        rotate_left
        · (obtain ⟨hSw1, hSw2⟩ := hSw; go_simp)
          try with_reducible rfl
        simp only [Act.put, zA, zB, zC]
        refine tk 6 (v := ?_) hHeld rfl (fun w hSw => ?_) ?_
        rotate_left
        · (obtain ⟨hSw1, hSw2⟩ := hSw; go_simp)
          try with_reducible rfl
        simp only [Act.put, zA, zB, zC]
        refine tk 7 (v := ?_) hHeld rfl (fun w hSw => ?_) ?_
        rotate_left
        · (obtain ⟨hSw1, hSw2⟩ := hSw; go_simp)
          try with_reducible rfl
        simp only [Act.put, zA, zB, zC]
        refine tk 8 (v := ?_) hHeld rfl (fun w hSw => ?_) ?_
        rotate_left
        · (obtain ⟨hSw1, hSw2⟩ := hSw; go_simp)
          try with_reducible rfl
        simp only [Act.put, zA, zB, zC]
        refine tk 9 (v := ?_) hHeld rfl (fun w hSw => ?_) ?_
        rotate_left
        · (obtain ⟨hSw1, hSw2⟩ := hSw; go_simp)
          try with_reducible rfl
        simp only [Act.put, zA, zB, zC]
        refine tk 11 (v := ?_) hHeld rfl (fun w hSw => ?_) ?_
        rotate_left
        · (obtain ⟨hSw1, hSw2⟩ := hSw; go_simp)
          try with_reducible rfl
        simp only [Act.put, zA, zB, zC]
        refine tk 12 (v := ?_) hHeld rfl (fun w hSw => ?_) ?_
        rotate_left
        · (obtain ⟨hSw1, hSw2⟩ := hSw; go_simp)
          try with_reducible rfl
        simp only [Act.put, zA, zB, zC]
        refine take_list (i := 13) rfl (by kernel_rfl) (by kernel_rfl) (by kernel_rfl) (fun _ _ _ h => h) (yieldsIf_load_mid (by rfl) _ _ rfl _ _ rfl (cellsB b) _ (fun w h => h.2) hty rfl hsz) hHeld ?_
        simp only [Act.put, zA, zB, zC]
        refine wpAnyH_ready (rs := [10, 14]) (by kernel_rfl) (by simp) (one_list (i := 10) rfl (by rfl) (fun K hK => ?_) (one_list (i := 14) rfl (by rfl) (fun K hK => ?_) AllReadyH.nil))
        · go_simp
          refine hK _ _ ⟨k0, r0⟩ (fun hHeld1 => ?_)
          try simp only [Act.put, zA, zB, zC]
          refine on1 14 rfl (fun K hK => ?_)
          go_simp
          refine hK _ _ ⟨k1, r1⟩ (fun hHeld1 => ?_)
          try simp only [Act.put, zA, zB, zC]
          refine on1 15 rfl (fun K hK => ?_)
          refine oper_append _ _ _ rfl rfl rfl hap ?_
          refine hK _ _ ⟨k2, r2⟩ (fun hHeld3 => ?_)
          simp only [Act.put, zA, zB, zC]
          refine on1 16 rfl (fun K hK => ?_)
          go_simp
          refine hK _ _ ⟨k3, r3⟩ (fun hHeld4 => ?_)
          try simp only [Act.put, zA, zB, zC]
          refine wpAnyH_done (by kernel_rfl) ?_ _
          refine NoPanic.normal ?_
          go_wp2
          go_ret
          exact ⟨by simp [writeC, ha, hb64, hz], HFin.out⟩
        · go_simp
          refine hK _ _ ⟨k1, r1⟩ (fun hHeld1 => ?_)
          try simp only [Act.put, zA, zB, zC]
          refine on1 10 rfl (fun K hK => ?_)
          go_simp
          refine hK _ _ ⟨k1, r1⟩ (fun hHeld1 => ?_)
          try simp only [Act.put, zA, zB, zC]
          refine on1 15 rfl (fun K hK => ?_)
          refine oper_append _ _ _ rfl rfl rfl hap ?_
          refine hK _ _ ⟨k2, r2⟩ (fun hHeld3 => ?_)
          simp only [Act.put, zA, zB, zC]
          refine on1 16 rfl (fun K hK => ?_)
          go_simp
          refine hK _ _ ⟨k3, r3⟩ (fun hHeld4 => ?_)
          try simp only [Act.put, zA, zB, zC]
          refine wpAnyH_done (by kernel_rfl) ?_ _
          refine NoPanic.normal ?_
          go_wp2
          go_ret
          exact ⟨by simp [writeC, ha, hb64, hz], HFin.out⟩
    · have hb65 : ((b.length : Int) != 64) = true := by simp; omega
      clear h hb hbf hL
      go_enter Tryz.func166, Tryz.ntmps166
      go_wp2_with (first
        | (go_at_call 82; refine (asked_any _ ⟨_, _, _, H.out⟩ _).mono ?_; rw [ha]; rintro e w' ⟨rfl, rfl⟩))
      go_ret
      refine ⟨by simp [writeC, ha, hb64], ?_, Chg.refl _ _⟩
      rw [DV.write, if_pos (Or.inr hb64)]
      exact H.out.grown (Nat.le_refl _)
  · have hne : (askedC X i != 0) = true := by simpa using ha
    clear h hb hbf hL
    go_enter Tryz.func166, Tryz.ntmps166
    go_wp2_with (first
      | (go_at_call 82; refine (asked_any _ ⟨_, _, _, H.out⟩ _).mono ?_; rintro e w' ⟨rfl, rfl⟩))
    go_ret
    refine ⟨by simp [writeC, ha], ?_, Chg.refl _ _⟩
    rw [DV.write, if_pos (Or.inl ha)]
    exact H.out.grown (Nat.le_refl _)

end Go.Proofs.YtbjagmlbamjdbaaGreat.disks
end

section
namespace Go.My
open Go.RowKit Go.Maps Go.MapKept Go.ChangeMaps

section
variable {P : Program} {kt : TypeId} {K V : Type}

def RngIs (E : KeyEnc P kt K) (ev : V → Value) (w : World) (b r : Nat) (m : List (K × V)) (done : List K) (cnt : Nat) : Prop :=
  ∃ es clock since seen c0, w.heap[b]? = some (.map es clock) ∧ es.toList.map pairOf = m.map (fun p => (E.enc p.1, ev p.2)) ∧ (∀ p ∈ m, E.ok p.1) ∧ Stamped es clock ∧
    w.heap[r]? = some (.mapIter (some b) since seen c0) ∧ (∀ x ∈ es.toList, x.born < since) ∧ since ≤ c0 ∧ since ≤ clock ∧ (leftOf es seen).size = cnt ∧
    (∀ (j : Nat) x p, es.toList[j]? = some x → m[j]? = some p → (seen.contains x.born = true ↔ p.1 ∈ done))

variable {E : KeyEnc P kt K} {ev : V → Value} {w : World} {b r cnt : Nat} {m : List (K × V)} {done : List K}

theorem RngIs.map (h : RngIs E ev w b r m done cnt) : MapIs E ev w b m := by
  obtain ⟨es, clock, since, seen, c0, h1, h2, h3, h4, _⟩ := h
  exact ⟨es, clock, h1, h2, h3, h4⟩

theorem RngIs.kept (h : RngIs E ev w b r m done cnt) {S : Nat → Prop} {w' : World} (hc : Chg S w w') (hn : ¬ S b) (hr : ¬ S r) : RngIs E ev w' b r m done cnt := by
  obtain ⟨es, clock, since, seen, c0, h1, h2, h3, h4, h5, h6⟩ := h
  exact ⟨es, clock, since, seen, c0, hc.at h1 hn, h2, h3, h4, hc.at h5 hr, h6⟩

theorem RngIs.left_eq (h : RngIs E ev w b r m done cnt) : w.rangeLeft b r = cnt := by
  obtain ⟨es, clock, since, seen, c0, h1, h2, h3, h4, h5, h6, h7, h8, h9, h10⟩ := h
  unfold World.rangeLeft
  rw [h1, h5]
  exact h9

theorem MapIs.range (h : MapIs E ev w b m) {t e : TypeId} (ht : P.underlying t = some (.map kt e)) :
    ∃ w' cnt, (Instr.range t (.map (some b))).run P w = .ok (.pointer (some ⟨w.heap.size, 0, none⟩)) w' ∧ RngIs E ev w' b w.heap.size m [] cnt ∧ Chg (fun _ => False) w w' ∧ w'.heap.size = w.heap.size + 1 := by
  obtain ⟨es, clock, h1, h2, h3, h4⟩ := h
  have hc := (Chg.refl (fun _ => False) w).alloc (.mapIter (some b) clock #[] clock)
  refine ⟨_, _, run_range_map w t kt e b es clock ht h1, ⟨es, clock, clock, #[], clock, hc.at h1 id, h2, h3, h4, (MapKept.heap_alloc w _).1, h4.1, Nat.le_refl _, Nat.le_refl _, rfl, ?_⟩, hc, World.size_alloc _ _⟩
  intro j x p _ _
  simp

theorem RngIs.next (h : RngIs E ev w b r m done cnt) (ty : TypeId) :
    ((∀ p ∈ m, p.1 ∈ done) ∧ (Instr.next (.pointer (some ⟨r, 0, none⟩)) false ty).run P w = .ok (.tuple #[.bool false]) w) ∨
    ∃ k v w' cnt', (k, v) ∈ m ∧ k ∉ done ∧ (Instr.next (.pointer (some ⟨r, 0, none⟩)) false ty).run P w = .ok (.tuple #[.bool true, E.enc k, ev v]) w' ∧ RngIs E ev w' b r m (k :: done) cnt' ∧ cnt' < cnt ∧
      Chg (· = r) w w' ∧ w'.heap.size = w.heap.size ∧ (Instr.entry (.pointer (some ⟨r, 0, none⟩))).run P w' = .ok (.tuple #[E.enc k, ev v]) w' := by
  obtain ⟨es, clock, since, seen, c0, hb, hp, hok, hst, hr, hold, hsc, hsk, rfl, hd⟩ := h
  have hne : b ≠ r := fun e => by rw [e, hr] at hb; cases hb
  rcases run_next_at (P := P) w ty r b since c0 seen es clock hr hb hold hsc with ⟨h0, hrun⟩ | ⟨e, he, w1, hal, hrun⟩
  · refine Or.inl ⟨fun p hpm => ?_, hrun⟩
    obtain ⟨j, hj⟩ := List.getElem?_of_mem hpm
    have hl : es.toList.length = m.length := by simpa using congrArg List.length hp
    have hjl : j < es.toList.length := by
      rw [hl]
      exact (List.getElem?_eq_some_iff.1 hj).1
    exact (hd j _ p (List.getElem?_eq_getElem hjl) hj).1 (all_seen es seen h0 _ (List.getElem_mem hjl))
  · obtain ⟨hem, hes⟩ := mem_left he
    obtain ⟨j, hj⟩ := List.getElem?_of_mem hem
    obtain ⟨p, hpj, hk, hv⟩ := pair_at hp hj
    have hc1 : Chg (· = r) w w1 := by rcases hal with rfl | rfl; exact Chg.refl _ _; exact (Chg.refl _ _).drew
    have hr1 : w1.heap[r]? = some (.mapIter (some b) since seen c0) := by rcases hal with rfl | rfl <;> exact hr
    have hset := heap_set (o' := .mapIter (some b) since (seen.push e.born) clock) hr1
    have hc2 : Chg (· = r) w (setBlock w1 r (.mapIter (some b) since (seen.push e.born) clock)) := hc1.trans' (Chg.setBlock (S := (· = r)) (Chg.refl _ _) (fun _ => rfl) _)
    have hb' := hc2.at hb hne
    have hkn : (es.toList.map (·.key)).Nodup := hst.2.2
    refine Or.inr ⟨p.1, p.2, _, _, List.mem_of_getElem? hpj, fun hin => ?_, by rw [← hk, ← hv]; exact hrun,
      ⟨es, clock, since, seen.push e.born, clock, hb', hp, hok, hst, hset.1, hold, hsk, hsk, rfl, ?_⟩, left_shrinks es seen e he, hc2, ?_, ?_⟩
    · have := (hd j e p hj hpj).2 hin
      rw [hes] at this
      cases this
    · intro i x p' hi hpi
      rw [contains_push, Bool.or_eq_true, hd i x p' hi hpi, List.mem_cons]
      have hb2 := (MapKept.stamped_iff es clock).1 hst
      constructor
      · rintro (h | h)
        · exact Or.inr h
        · have hx := born_inj hb2.2.1 (List.mem_of_getElem? hi) hem (by simpa using h)
          subst hx
          obtain ⟨p2, hp2, hk2, -⟩ := pair_at hp hi
          rw [hp2] at hpi
          cases hpi
          exact Or.inl (E.inj _ _ (hk2.symm.trans hk))
      · rintro (h | h)
        · right
          obtain ⟨p2, hp2, hk2, -⟩ := pair_at hp hi
          rw [hp2] at hpi
          cases hpi
          have hkk : x.key = e.key := by rw [hk2, hk, h]
          have := entry_eq_of_key hb2.2.2 (List.mem_of_getElem? hi) hem hkk
          rw [this]; simp
        · exact Or.inl h
    · show (setBlock w1 r _).heap.size = _
      rcases hal with rfl | rfl <;> simp [setBlock]
    · rw [← hk, ← hv]
      exact run_entry_at _ r b since seen es clock e hset.1 hb' hem ((stamped_iff es clock).1 hst).2.1

variable {ops : Array Oper} {rest : List Oper} {o : Oper} {a : Go.Act} {Q : Exit → Go.Act → World → Prop}

theorem wpList_rangeM (h : MapIs E ev w b m) (hg : o.guard = none) (x : Operand) (t e : TypeId) (hop : o.op = Op.range t x) (ht : P.underlying t = some (.map kt e)) (hx : a.eval x = .map (some b))
    (hK : ∀ w' cnt, RngIs E ev w' b w.heap.size m [] cnt → Chg (fun _ => False) w w' → w'.heap.size = w.heap.size + 1 → wpList P ops Q rest (a.put o.dst (.pointer (some ⟨w.heap.size, 0, none⟩))) w') : wpList P ops Q (o :: rest) a w := by
  refine wpList_plain hg fun K' hK' => ?_
  obtain ⟨w', cnt, hrun, r1, r2, r3⟩ := h.range ht
  unfold Oper.wp
  simp [execOp, hop, hx, hrun, Result.andThen]
  exact hK' _ _ (hK w' cnt r1 r2 r3)

end
end Go.My
end

section
namespace Go.Proofs.YtbjagmlbamjdbaaGreat.disks
open Go.RowKit Go.Maps Go.My Go.ChangeMaps
set_option maxRecDepth 100000

variable {w w' : World} {d q : Nat} {F F' : Nat → Prop} {X X' : DV} {bv : Value} {m : List (Int × (Value × List Blk))}

theorem chg_setCells (g : Nat) : ∀ (vs : List Value) (o : Nat) (w : World), Chg (· = g) w (w.setCells g o vs)
  | [], _, w => Chg.refl _ w
  | v :: r, o, w => (Chg.setCell (S := (· = g)) (Chg.refl _ w) (fun _ => rfl) v).trans' (chg_setCells g r (o + 1) _)

theorem modify_list {α : Type} (l : List (List α)) (n : Nat) (h : ∀ r ∈ l, r.length = n) (k j : Nat) (v : α) (vs : List α) (hj : j < n) :
    (l.modify k (fun r => r.set j v)).modify k (fun r => r.take (j + 1) ++ vs ++ r.drop (j + 1 + vs.length)) = l.modify k (fun r => r.take j ++ (v :: vs) ++ r.drop (j + (v :: vs).length)) := by
  apply List.ext_getElem?
  intro i
  simp only [List.getElem?_modify]
  by_cases hk : k = i
  · subst hk
    cases hl : l[k]? with
    | none => simp
    | some r =>
      have hr := h r (List.mem_of_getElem? hl)
      simp only [if_true, Option.map_eq_map, Option.map_some, Option.some.injEq]
      have h1 : (r.set j v).take (j + 1) = r.take j ++ [v] := by
        rw [List.take_set, List.take_add_one, List.getElem?_eq_getElem (by omega), Option.toList_some, List.set_append_right _ _ (by rw [List.length_take]; omega)]
        have : (r.take j).length = j := by rw [List.length_take]; omega
        rw [this, Nat.sub_self]; rfl
      rw [h1, List.drop_set_of_lt (by omega)]
      simp [Nat.add_assoc, Nat.add_comm 1]
  · simp [hk]

theorem set_rows {base : Nat} {e : TypeId} {n : Nat} {g cap k : Nat} : ∀ (vs : List Value) (j : Nat) (w : World) (l : List (List Value)), j + vs.length ≤ n → OwnRecs w base e n (.slice (some ⟨g, 0, none⟩) l.length cap) l →
    OwnRecs (w.setCells g (k * n + j) vs) base e n (.slice (some ⟨g, 0, none⟩) l.length cap) (l.modify k (fun r => r.take j ++ vs ++ r.drop (j + vs.length)))
  | [], j, w, l, _, h => by
    have : l.modify k (fun r => r.take j ++ [] ++ r.drop (j + ([] : List Value).length)) = l := by
      apply List.ext_getElem?
      intro i
      simp only [List.getElem?_modify]
      split <;> simp
    rw [this]
    exact h
  | v :: vs, j, w, l, hj, h => by
    simp only [List.length_cons] at hj
    have h1 := h.set (k := k) (j := j) (by omega) v
    have h2 := set_rows (k := k) (n := n) (g := g) (cap := cap) (base := base) (e := e) vs (j + 1) (w.setCell ⟨g, k * n + j, none⟩ v) (l.modify k (fun r => r.set j v)) (by omega) (by simpa using h1)
    rw [modify_list l n h.each k j v vs (by omega)] at h2
    simp only [List.length_modify] at h2
    exact h2

theorem set_row {base : Nat} {e : TypeId} {n : Nat} {g cap k : Nat} (vs : List Value) (w : World) (l : List (List Value)) (hv : vs.length = n) (h : OwnRecs w base e n (.slice (some ⟨g, 0, none⟩) l.length cap) l) :
    OwnRecs (w.setCells g (k * n) vs) base e n (.slice (some ⟨g, 0, none⟩) l.length cap) (l.set k vs) := by
  have h1 := set_rows (k := k) vs 0 w l (by omega) h
  have : l.modify k (fun r => r.take 0 ++ vs ++ r.drop (0 + vs.length)) = l.set k vs := by
    apply List.ext_getElem?
    intro i
    simp only [List.getElem?_modify, List.getElem?_set]
    by_cases hk : k = i
    · subst hk
      simp only [if_true]
      cases hl : l[k]? with
      | none =>
        have := List.getElem?_eq_none_iff.1 hl
        simp; omega
      | some r =>
        have hr := h.each r (List.mem_of_getElem? hl)
        have := (List.getElem?_eq_some_iff.1 hl).1
        simp [this, List.drop_eq_nil_of_le (show r.length ≤ vs.length by omega)]
    · simp [hk]
  rw [this] at h1
  simpa using h1

theorem rows_there {g n cap : Nat} {l : List Blk} (h : OwnRecs w 0 154 64 (.slice (some ⟨g, 0, none⟩) n cap) (l.map cellsB)) {k : Nat} (hk : k < l.length) : w.there g (k * 64) 64 := by
  obtain ⟨g', cap', e1, _, hr, hf⟩ := rows_range h hk
  simp only [Value.slice.injEq, Option.some.injEq, Addr.mk.injEq] at e1
  obtain ⟨⟨rfl, -⟩, -⟩ := e1
  have hl : (cellsB l[k]).length = 64 := h.each _ (List.mem_map_of_mem (List.getElem_mem _))
  intro j hj
  refine ⟨?_, hf _⟩
  rw [hr j ((cellsB l[k])[j]'(by omega)) (List.getElem?_eq_getElem _)]
  rfl

theorem DiskIs.setB {g cap : Nat} (h : DiskIs w d F X (.slice (some ⟨g, 0, none⟩) X.B.length cap) q m) (k : Nat) (b : Blk) (hb : b.length = 64) :
    DiskIs (w.setCells g (k * 64) (cellsB b)) d F { X with B := X.B.set k b } (.slice (some ⟨g, 0, none⟩) X.B.length cap) q m ∧ Chg (· = g) w (w.setCells g (k * 64) (cellsB b)) := by
  have hc := chg_setCells g (cellsB b) (k * 64) w
  have hr : OwnRecs w 0 154 64 (.slice (some ⟨g, 0, none⟩) (X.B.map cellsB).length cap) (X.B.map cellsB) := by simpa using h.rows
  have h1 := set_row (k := k) (cellsB b) w (X.B.map cellsB) (by rw [cellsB_length, hb]) hr
  rw [← List.map_set, List.length_map] at h1
  have hgd : d ≠ g := fun e => row_ne_d h h.rows (by rw [e]; rfl)
  have hgq : q ≠ g := fun e => row_ne_q h h.rows (by rw [e]; rfl)
  refine ⟨⟨hc.at h.head hgd, h1, ?_, h.wmap.kept hc hgq, fun p hp => ⟨(h.lists p hp).1.kept hc (fun j hj e => h.off p hp (by rw [hj, e]; rfl)), (h.lists p hp).2.1, (h.lists p hp).2.2.1, by simpa using (h.lists p hp).2.2.2⟩,
    h.waits, h.off, h.apart, h.fd, h.fq, h.fb, h.fm, fun j hj => Nat.lt_of_lt_of_le (h.lt j hj) hc.size, by simpa using h.size⟩, hc⟩
  intro e
  exact h.any (by simpa using congrArg List.length e)

theorem DiskIs.cleared (h : DiskIs w d F X bv q m) (clock : Nat) : DiskIs (setBlock w q (.map #[] clock)) d F { X with L := fun _ => [] } bv q [] ∧ Chg (· = q) w (setBlock w q (.map #[] clock)) := by
  have hc : Chg (· = q) w (setBlock w q (.map #[] clock)) := Chg.setBlock (S := (· = q)) (Chg.refl _ _) (fun _ => rfl) _
  obtain ⟨es, c0, hb, -⟩ := h.wmap
  refine ⟨⟨hc.at h.head h.d_ne_q, h.rows.kept hc (fun j hj e => row_ne_q h h.rows (e ▸ hj)), h.any, MapIs.made _ _ (MapKept.heap_set (o' := .map #[] clock) hb).1, by simp, by simp [mget], by simp, by simp, h.fd, h.fq, h.fb, by simp,
    fun j hj => Nat.lt_of_lt_of_le (h.lt j hj) hc.size, h.size⟩, hc⟩

end Go.Proofs.YtbjagmlbamjdbaaGreat.disks
end

section
namespace Go.Proofs.YtbjagmlbamjdbaaGreat.disks
open Go.RowKit Go.Maps Go.My Go.ChangeMaps
set_option maxRecDepth 100000

variable {w w' : World} {d q : Nat} {F F' : Nat → Prop} {X X' : DV} {bv : Value} {m : List (Int × (Value × List Blk))}

def flushC (X : DV) : Int := if X.down then 15 else if X.fuse = 0 then 15 else 0
def DV.upto (X : DV) (done : List Int) : List Blk := (List.range X.B.length).map fun i : Nat => if (i : Int) ∈ done then X.cur i else X.B[i]?.getD []
def DV.all (X : DV) : DV := { X with B := (List.range X.B.length).map X.cur, L := fun _ => [] }
def DV.flush (X : DV) : DV := if X.down then X else if X.fuse = 0 then X.burn else X.burn.all

theorem mem_mget {K V : Type} [DecidableEq K] {m : List (K × V)} {k : K} {v : V} (h : mget m k = Option.some v) : (k, v) ∈ m := by
  unfold mget at h
  obtain ⟨p, hp, rfl⟩ := Option.map_eq_some_iff.1 h
  have h1 := List.mem_of_find?_eq_some hp
  have h2 := List.find?_some hp
  simp only [decide_eq_true_eq] at h2
  rw [← h2]; exact h1

theorem some_nil (X : DV) : X.upto [] = X.B := by
  apply List.ext_getElem?
  intro i
  unfold DV.upto
  by_cases h : i < X.B.length
  · simp [h]
  · simp [h]

theorem some_length (X : DV) (done : List Int) : (X.upto done).length = X.B.length := by simp [DV.upto]

theorem some_cons (X : DV) (done : List Int) (k : Nat) : X.upto ((k : Int) :: done) = (X.upto done).set k (X.cur k) := by
  apply List.ext_getElem?
  intro i
  unfold DV.upto
  rw [List.getElem?_set]
  by_cases h : i < X.B.length
  · by_cases hk : k = i
    · subst hk; simp [h]
    · have : ¬ (i : Int) = (k : Int) := by omega
      simp [h, hk, this]
  · simp [h]
    intro e; omega

theorem DiskIs.some_all (h : DiskIs w d F X bv q m) (done : List Int) (hd : ∀ p ∈ m, p.1 ∈ done) : X.upto done = X.all.B := by
  unfold DV.upto DV.all
  apply List.map_congr_left
  intro i hi
  by_cases hk : (i : Int) ∈ done
  · rw [if_pos hk]
  · rw [if_neg hk]
    have : X.L i = [] := by
      rw [h.waits i]
      cases hm : mget m (i : Int) with
      | none => rfl
      | some v => exact absurd (hd _ (mem_mget hm)) hk
    simp [DV.cur, this]

theorem burn_B (X : DV) : X.burn.B = X.B := by unfold DV.burn; split <;> rfl
theorem burn_L (X : DV) : X.burn.L = X.L := by unfold DV.burn; split <;> rfl

theorem DiskIs.last (h : DiskIs w d F X bv q m) {i : Int} {v : Value} {L : List Blk} (hm : (i, v, L) ∈ m) :
    ∃ (k : Nat) (l : List Blk) (b : Blk) (g cap : Nat), i = (k : Int) ∧ k < X.B.length ∧ L = l ++ [b] ∧ X.L k = l ++ [b] ∧ b.length = 64 ∧ v = .slice (some ⟨g, 0, none⟩) (l.length + 1) cap ∧ w.rangeAt g (l.length * 64) (cellsB b) ∧
      l.length + 1 ≤ maxLen ∧ bv.ownBlock ≠ some g ∧ g < w.heap.size := by
  obtain ⟨h1, h2, h3, h4⟩ := h.lists _ hm
  rcases List.eq_nil_or_concat L with rfl | ⟨l, b, hL⟩
  · exact absurd rfl h2
  rw [List.concat_eq_append] at hL
  subst hL
  obtain ⟨g, cap, hv, hg, hr, -⟩ := rows_range h1 (k := l.length) (by simp)
  have hb : b.length = 64 := by
    have := h1.each (cellsB b) (by simp)
    rwa [cellsB_length] at this
  have hk : ((i.toNat : Nat) : Int) = i := Int.toNat_of_nonneg h3
  obtain ⟨j, hj⟩ := List.getElem?_of_mem hm
  have hL : X.L i.toNat = l ++ [b] := by
    rw [h.waits, hk, mget_some_of m h.wmap.nodup hj]; rfl
  simp only at hv h4
  refine ⟨i.toNat, l, b, g, cap, hk.symm, by omega, rfl, hL, hb, by simpa using hv, by simpa using hr, ?_, ?_, hg⟩
  · obtain ⟨_, _, _, e1, e2⟩ := h1.slice
    simp only [List.length_map, List.length_append, List.length_cons, List.length_nil] at e1
    omega
  · intro e
    exact h.off _ hm (by rw [e]; simp only [hv]; rfl)

set_option maxHeartbeats 4000000 in
theorem flush_any (w : World) (h : DiskIs w d F X bv q m) (hf : X.fuse ≤ 9223372036854775807) :
    Calls Tryz.prog 167 #[.pointer (some ⟨d, 0, none⟩)] w fun e w' => e = .returned (.int .i64 (flushC X)) ∧ DiskAt w' d F X.flush ∧ Chg F w w' := by
  have ha := asked0 h
  have H := Lib.hid h
  clear h
  cases hd : X.down with
  | true =>
    have ha' : askedC X 0 = 15 := by rw [ha, hd]; rfl
    go_enter Tryz.func167, Tryz.ntmps167
    go_wp2_with (first
      | (go_at_call 82; refine (asked_any _ ⟨_, _, _, H.out⟩ _).mono ?_; rw [ha']; rintro e w' ⟨rfl, rfl⟩))
    go_ret
    refine ⟨by simp [flushC, hd], ?_, Chg.refl _ _⟩
    rw [DV.flush, if_pos hd]
    exact ⟨_, _, _, H.out⟩
  | false =>
    have ha' : askedC X 0 = 0 := by rw [ha, hd]; rfl
    by_cases hz : X.fuse = 0
    · go_enter Tryz.func167, Tryz.ntmps167
      go_wp2_with (first
        | (go_at_call 82; refine (asked_any _ ⟨_, _, _, H.out⟩ _).mono ?_; rw [ha']; rintro e w' ⟨rfl, rfl⟩)
        | (go_at_call 187; refine (through_any _ H.out hf).mono ?_; simp only [hz, ne_eq, not_true_eq_false, decide_false]; rintro e w1 ⟨rfl, h1, hc1⟩))
      go_ret
      refine ⟨by simp [flushC, hz], ?_, hc1.mono (fun j _ e => e ▸ H.out.fd)⟩
      rw [DV.flush, if_neg (by simp [hd]), if_pos hz]
      exact ⟨_, _, _, h1⟩
    · go_enter Tryz.func167, Tryz.ntmps167
      go_wp2_with (first
        | (go_at_call 82; refine (asked_any _ ⟨_, _, _, H.out⟩ _).mono ?_; rw [ha']; rintro e w' ⟨rfl, rfl⟩)
        | (go_at_call 187; refine (through_any _ H.out hf).mono ?_; simp only [hz, ne_eq, not_false_eq_true, decide_true]; rintro e w1 ⟨rfl, h1, hc1⟩
           have H1 := Lib.hid h1
           have HC1 := Lib.hid hc1
           have c1 : w1.cell? ⟨d, 1, none⟩ = some (.map (some q)) := cell_of_block h1.head rfl
           clear h1 hc1)
        | (at_range; refine wpList_rangeM H1.out.wmap rfl _ 49 48 rfl Tryz.underlying49 rfl ?_; intro w2 cnt hr2 hc2 hs2))
      go_frame
      have hI2 : DiskIs w2 d F { X.burn with B := X.burn.upto [] } bv q m := by rw [some_nil]; exact H1.out.kept hc2 (fun _ _ h => h)
      go_loopw [4] (fun _ wr => ∃ done cnt, RngIs iKey Prod.fst wr q w1.heap.size m done cnt ∧ DiskIs wr d F { X.burn with B := X.burn.upto done } bv q m ∧ Chg F w1 wr) (fun _ wr => wr.rangeLeft q w1.heap.size)
      · exact ⟨[], cnt, hr2, hI2, hc2.mono (fun _ _ h => h.elim)⟩
      clear hr2 hI2 hc2 hs2
      obtain ⟨done, cnt, hr, hI, hc⟩ := hrel
      have HR := Lib.hid hr
      have HI := Lib.hid hI
      have HC := Lib.hid hc
      clear hr hI hc
      rcases HR.out.next 0 with ⟨hall, hrun⟩ | ⟨k, v, w', cnt', hm, hn, hrun, hr', hlt, hcr, hsz, hen⟩
      · have hclr : ∃ clock, ∀ ty, (Builtin.clear_ #[49] ty #[.map (some q)]).run Tryz.prog wr = .ok (.tuple #[]) (setBlock wr q (.map #[] clock)) := by
          obtain ⟨es, clock, hb, -⟩ := HI.out.wmap
          exact ⟨_, fun ty => by simp [Builtin.clear_, run_underlying Tryz.underlying49, MapKept.run_getObj_map hb, MapKept.run_setObj_map _ hb, Result.andThen]; rfl⟩
        obtain ⟨clock, hclr⟩ := hclr
        have c1 : wr.cell? ⟨d, 1, none⟩ = some (.map (some q)) := cell_of_block HI.out.head rfl
        go_wp2_with fail
        go_ret
        have e : ({ X.burn with B := X.burn.upto done, L := fun _ => [] } : DV) = X.burn.all := by rw [H1.out.some_all done hall]; rfl
        refine ⟨by simp [flushC, hd, hz], ?_, ?_⟩
        · rw [DV.flush, if_neg (by simp [hd]), if_neg hz, ← e]
          exact ⟨_, _, _, (HI.out.cleared clock).1⟩
        · exact ((HC1.out.mono (fun j _ e => e ▸ H.out.fd)).trans' (HC.out)).trans' ((HI.out.cleared clock).2.mono (fun j _ e => e ▸ H.out.fq))
      · obtain ⟨v, L⟩ := v
        have hen' : (Instr.entry (.pointer (some ⟨w1.heap.size, 0, none⟩))).run Tryz.prog w' = .ok (.tuple #[.int .i64 k, v]) w' := hen
        have hrun' : (Instr.next (.pointer (some ⟨w1.heap.size, 0, none⟩)) false 0).run Tryz.prog wr = .ok (.tuple #[.bool true, .int .i64 k, v]) w' := hrun
        have hI' : DiskIs w' d F { X.burn with B := X.burn.upto done } bv q m := HI.out.kept hcr (fun j hj e => by have := H1.out.lt j hj; omega)
        obtain ⟨k, l, b, g, cap, rfl, hk, rfl, hLk, hb, rfl, hrg, hmx, hoff, hglt⟩ := hI'.last hm
        obtain ⟨gb, capB, rfl, hcapB⟩ := hI'.sl
        simp only [some_length, burn_B] at hk hcapB
        have c0 : w'.cell? ⟨d, 0, none⟩ = some (.slice (some ⟨gb, 0, none⟩) (X.burn.upto done).length capB) := cell_of_block hI'.head rfl
        rw [some_length, burn_B] at c0
        simp only at hI'
        have hlw : wrap64 (l.length : Int) = (l.length : Int) := by unfold maxLen at hmx; exact IntWalk.wrap64_in _ (by omega)
        have hlw2 : IntKind.i64.wrap (l.length : Int) = (l.length : Int) := (IntWalk.i64_left _).trans hlw
        have hll : (l.length : Int) < (l.length : Int) + 1 := by omega
        have hR' := Lib.hid hr'
        have HI' := Lib.hid hI'
        have HI'' : Hid (DiskIs w'.drew d F { X.burn with B := X.burn.upto done } (.slice (some ⟨gb, 0, none⟩) (X.burn.upto done).length capB) q m) := Lib.hid (HI'.out.kept ((Chg.refl (fun _ => False) w').drew) (fun _ _ h => h))
        have HC' := Lib.hid hcr
        clear hen hrun hr' hI' hcr
        go_wp2_with fail
        have hkn : (k : Int) < (X.B.length : Int) := by omega
        have hty := Tryz.underlying154
        have hsz : (Tryz.prog.info? 154).map (·.size) = some (cellsB b).length := by rw [cellsB_length, hb]; exact size_block
        refine wp_region_noPanic ?_
        refine wp_region_held_drew (S := (fun w'' => w''.cell? ⟨d, 0, none⟩ = some (.slice (some ⟨gb, 0, none⟩) X.B.length capB) ∧ w''.rangeAt g (l.length * 64) (cellsB b))) (by kernel_rfl) (⟨c0, hrg⟩) (fun hHeld => ?_)
        refine tk 0 (v := ?_) hHeld rfl (fun w hSw => ?_) ?_
        rotate_left
        · (obtain ⟨hSw1, hSw2⟩ := hSw; go_simp)
          try with_reducible rfl
        simp only [Act.put, zA, zB, zC]
        refine tk 1 (v := ?_) hHeld rfl (fun w hSw => ?_) ?_
        rotate_left
        · (obtain ⟨hSw1, hSw2⟩ := hSw; go_simp)
          try with_reducible rfl
        simp only [Act.put, zA, zB, zC]
        refine tk 2 (v := ?_) hHeld rfl (fun w hSw => ?_) ?_
        rotate_left
        · (obtain ⟨hSw1, hSw2⟩ := hSw; go_simp)
          try with_reducible rfl
        simp only [Act.put, zA, zB, zC]
        refine tk 3 (v := ?_) hHeld rfl (fun w hSw => ?_) ?_
        rotate_left
        · (obtain ⟨hSw1, hSw2⟩ := hSw; go_simp)
          try with_reducible rfl
        simp only [Act.put, zA, zB, zC]
        refine tk 4 (v := ?_) hHeld rfl (fun w hSw => ?_) ?_
        rotate_left
        · (obtain ⟨hSw1, hSw2⟩ := hSw; go_simp)
          try with_reducible rfl
        simp only [Act.put, zA, zB, zC]
        refine tk 5 (v := ?_) hHeld rfl (fun w hSw => ?_) ?_
        rotate_left
        · (obtain ⟨hSw1, hSw2⟩ := hSw; go_simp)
          try with_reducible rfl
        simp only [Act.put, zA, zB, zC]
        refine tk 6 (v := ?_) hHeld rfl (fun w hSw => ?_) ?_
        rotate_left
        · (obtain ⟨hSw1, hSw2⟩ := hSw; go_simp)
          try with_reducible rfl
        simp only [Act.put, zA, zB, zC]
        refine tk 7 (v := ?_) hHeld rfl (fun w hSw => ?_) ?_
        rotate_left
        · (obtain ⟨hSw1, hSw2⟩ := hSw; go_simp)
          try with_reducible rfl
        simp only [Act.put, zA, zB, zC]
        refine tk 8 (v := ?_) hHeld rfl (fun w hSw => ?_) ?_
        rotate_left
        · (obtain ⟨hSw1, hSw2⟩ := hSw; go_simp)
          try with_reducible rfl
        simp only [Act.put, zA, zB, zC]
        refine tk 9 (v := ?_) hHeld rfl (fun w hSw => ?_) ?_
        rotate_left
        · (obtain ⟨hSw1, hSw2⟩ := hSw; go_simp)
          try with_reducible rfl
        simp only [Act.put, zA, zB, zC]
        refine take_list (i := 10) rfl (by kernel_rfl) (by kernel_rfl) (by kernel_rfl) (fun _ _ _ h => h) ((yieldsIf_load_mid (by rfl) _ _ rfl _ _ rfl (cellsB b) _ (fun w h => h.2) hty rfl hsz)) hHeld ?_
        simp only [Act.put, zA, zB, zC]
        refine tk 11 (v := ?_) hHeld rfl (fun w hSw => ?_) ?_
        rotate_left
        · (obtain ⟨hSw1, hSw2⟩ := hSw; go_simp)
          try with_reducible rfl
        simp only [Act.put, zA, zB, zC]
        refine on1 12 rfl (fun K hK => ?_)
        refine wp_store_mid _ _ _ rfl gb (k * 64) (cellsB b).toArray rfl rfl ?_ ?_ ?_ ?_
        · rw [List.size_toArray, cellsB_length, hb]
          exact rows_there HI''.out.rows (by rw [some_length, burn_B]; exact hk)
        · simpa using hsz
        · exact all_oneCell_toArray (one_cellsB _)
        rw [List.toList_toArray]
        obtain ⟨hI3, hC3⟩ := HI''.out.setB k b hb
        have c03 := hC3.cell c0 (fun e => row_ne_d HI''.out HI''.out.rows (by rw [show d = gb from e]; rfl))
        have r3 : (w'.drew.setCells gb (k * 64) (cellsB b)).rangeAt g (l.length * 64) (cellsB b) := fun j x hx => hC3.cell (hrg j x hx) (fun e => hoff (by rw [show g = gb from e]; rfl))
        refine hK _ _ (⟨c03, r3⟩) (fun hHeld2 => ?_)
        try simp only [Act.put, zA, zB, zC]
        refine wpAnyH_done (by kernel_rfl) ?_ _
        refine NoPanic.normal ?_
        go_wp2_with fail
        have hgF := H1.out.lt gb (H1.out.fb gb rfl)
        have hqg : q ≠ gb := fun e => row_ne_q HI''.out HI''.out.rows (by rw [e]; rfl)
        have hC4 : Chg (· = gb) w' (w'.drew.setCells gb (k * 64) (cellsB b)) := ((Chg.refl (fun _ => False) w').drew.mono (fun _ _ h => h.elim)).trans' hC3
        have hRn := hR'.out.kept hC4 hqg (by omega)
        refine ⟨⟨(k : Int) :: done, cnt', hRn, ?_, ?_⟩, ?_⟩
        · have e : X.burn.upto ((k : Int) :: done) = (X.burn.upto done).set k b := by
            rw [some_cons, show X.burn.cur k = b from by have h1 : X.burn.L k = l ++ [b] := hLk; simp [DV.cur, h1]]
          rw [e]
          exact hI3
        · exact (HC.out.trans HC'.out (fun i hi e => by omega)).trans' (hC4.mono (fun i _ e => e ▸ H1.out.fb gb rfl))
        · rw [hRn.left_eq, HR.out.left_eq]
          exact hlt

end Go.Proofs.YtbjagmlbamjdbaaGreat.disks
end

section
namespace Go.Proofs.YtbjagmlbamjdbaaGreat.disks
open Go.RowKit Go.Maps Go.My Go.ChangeMaps
set_option maxRecDepth 100000

variable {w w' : World} {d q : Nat} {F F' : Nat → Prop} {X X' : DV} {bv : Value} {m : List (Int × (Value × List Blk))}

def zeroBlk : Blk := List.replicate 64 0
def DV.new (n : Nat) : DV := ⟨List.replicate n zeroBlk, fun _ => [], -1, false, 0⟩
def born (w w' : World) : Nat → Prop := fun j => w.heap.size ≤ j ∧ j < w'.heap.size

theorem cells_zero : cellsB zeroBlk = List.replicate 64 (.int .u8 0) := rfl

theorem flatten_zero (n : Nat) : ((DV.new n).B.map cellsB).flatten = List.replicate (n * 64) (.int .u8 0) := by
  show ((List.replicate n zeroBlk).map cellsB).flatten = _
  rw [List.map_replicate, cells_zero, List.flatten_replicate_replicate]

theorem made_blocks (w : World) (n : Nat) (hn : n ≤ 4096) : ∃ w', (Instr.makeSlice 48 (.int .i64 (n : Int)) (.int .i64 (n : Int))).run Tryz.prog w = .ok (.slice (some ⟨w.heap.size, 0, none⟩) n n) w' ∧
      OwnRecs w' 0 154 64 (.slice (some ⟨w.heap.size, 0, none⟩) n n) ((DV.new n).B.map cellsB) ∧ Chg (fun _ => False) w w' := by
  obtain ⟨i0, hi, hz, hs, hb⟩ := info_parts info_block
  obtain ⟨w', h1, h2, h3⟩ := run_makeSlice_full (P := Tryz.prog) w 0 48 154 i0 (.agg (Array.replicate 64 (.int .u8 0))) 64 Tryz.underlying48 hi hz hs .i64 .i64 n (by omega) (by rw [hb]; omega) (by unfold maxLen; omega) (Nat.zero_le _)
  refine ⟨w', h1, ⟨?_, ?_⟩, (Chg.of_grown h3).mono (fun i _ h => by cases h)⟩
  · have : (madeCells (Value.agg (Array.replicate 64 (.int .u8 0))).cells (n * 64)).toList = ((DV.new n).B.map cellsB).flatten := by
      rw [flatten_zero]
      apply List.ext_getElem
      · simp [madeCells]
      · intro i h1 h2
        have : i % 64 < 64 := Nat.mod_lt _ (by omega)
        simp [madeCells, Value.cells, this]
    rw [this] at h2
    have hl : ((DV.new n).B.map cellsB).length = n := by simp [DV.new]
    rw [hl]; exact h2
  · intro r hr
    obtain ⟨b, hb, rfl⟩ := List.mem_map.1 hr
    rw [List.eq_of_mem_replicate hb, cells_zero, List.length_replicate]

theorem new_any (w : World) (n : Nat) (h1 : 1 ≤ n) (hn : n ≤ 4096) :
    Calls Tryz.prog 25 #[.int .i64 (n : Int)] w fun e w' => ∃ d, e = .returned (.tuple #[.pointer (some ⟨d, 0, none⟩), .int .i64 0]) ∧ DiskAt w' d (born w w') (DV.new n) ∧ Chg (fun _ => False) w w' := by
  have hmm := @run_makeMap Tryz.prog
  obtain ⟨w1, hm, ho, hc⟩ := made_blocks w n hn
  have HO := Lib.hid ho
  have HC := Lib.hid hc
  have hs1 : w.heap.size < w1.heap.size := by
    obtain ⟨g, cap, e1, _, _, h2, _⟩ := ho.cell (k := 0) (by simp [DV.new]; omega)
    simp only [Value.slice.injEq, Option.some.injEq, Addr.mk.injEq] at e1
    rw [e1.1.1]; exact h2
  clear ho hc
  have l1 : ((n : Int) < 1) = False := by simp; omega
  have l2 : ((4096 : Int) < n) = False := by simp; omega
  go_enter Tryz.func25, Tryz.ntmps25
  go_wp2
  go_ret2
  have ca := (Chg.refl (fun _ => False) w1).alloc (.map #[] 0)
  have cb := ca.alloc (.cells #[.slice (some ⟨w.heap.size, 0, none⟩) n n, .map (some w1.heap.size), .int .i64 (-1), .bool false, .int .i64 0] 51)
  refine ⟨_, rfl, ⟨_, w1.heap.size, [], ⟨?_, HO.out.kept cb (fun _ _ h => h), ?_, .made _ _ (clock := 0) ?_, by simp, by simp [mget, DV.new], by simp, by simp, ?_, ?_, ?_, by simp, fun j hj => hj.2, by simpa [DV.new] using hn⟩⟩, HC.out.trans' cb⟩
  · simp only [heap_alloc_get, World.size_alloc]
    rw [if_pos trivial]; rfl
  · intro e
    have := congrArg List.length e
    simp [DV.new] at this; omega
  · simp only [heap_alloc_get, World.size_alloc]
    rw [if_neg (by omega), if_pos trivial]
  · exact ⟨by omega, by simp only [World.size_alloc]; omega⟩
  · exact ⟨by omega, by simp only [World.size_alloc]; omega⟩
  · intro g hg
    simp only [Value.ownBlock, Option.some.injEq] at hg
    rw [← hg]
    exact ⟨Nat.le_refl _, by simp only [World.size_alloc]; omega⟩

end Go.Proofs.YtbjagmlbamjdbaaGreat.disks
end

section
namespace Go.Proofs.YtbjagmlbamjdbaaGreat.disks
open Go.RowKit Go.Maps Go.My Go.ChangeMaps
set_option maxRecDepth 100000

variable {w w' : World} {d q : Nat} {F F' : Nat → Prop} {X X' : DV} {bv : Value} {m : List (Int × (Value × List Blk))}

theorem info_bytes : (Tryz.prog.info? 101).map (fun i => (i.zero, i.size, i.bytes)) = some (some (.slice none 0 0), 1, 24) := by kernel_rfl

structure ImgAt (w : World) (base : Nat) (v : Value) (L : List Blk) : Prop where
  ex : ∃ gs : List Value, gs.length = L.length ∧ w.ownsRow base 101 1 v L.length gs ∧ (∀ (i : Nat) g b, gs[i]? = some g → L[i]? = some b → w.ownsRow base 5 1 g b.length (cellsB b) ∧ g.oneCell' = true) ∧
    (∀ (i j : Nat) g g', i < j → gs[i]? = some g → gs[j]? = some g' → g.ownBlock = none ∨ g.ownBlock ≠ g'.ownBlock)

theorem row_obj {w : World} {base : Nat} {e : TypeId} {n : Nat} {v : Value} {k : Nat} {l : List Value} (h : w.ownsRow base e n v k l) {g : Nat} (hg : v.ownBlock = some g) : ∃ cur, w.heap[g]? = some (.cells cur e (0, 0)) := by
  rcases h.2 with ⟨rfl, h0⟩ | ⟨g', cap, cur, rfl, _, hh, _⟩
  · simp [Value.ownBlock] at hg
  · simp only [Value.ownBlock, Option.some.injEq] at hg
    subst hg
    exact ⟨_, hh⟩

theorem row_kept {w w' : World} {base : Nat} {e : TypeId} {n : Nat} {v : Value} {k : Nat} {l : List Value} (h : w.ownsRow base e n v k l) {S : Nat → Prop} (hc : Chg S w w') (hs : ∀ g, v.ownBlock = some g → ¬ S g) : w'.ownsRow base e n v k l := by
  obtain ⟨h1, h2⟩ := h
  refine ⟨h1, ?_⟩
  rcases h2 with h2 | ⟨g, cap, cur, rfl, a1, a2, a3⟩
  · exact Or.inl h2
  · exact Or.inr ⟨g, cap, cur, rfl, a1, hc.at a2 (hs g rfl), a3⟩

theorem ImgAt.nil (w : World) (base : Nat) : ImgAt w base (.slice none 0 0) [] := ⟨[], rfl, World.ownsRow_nil _ _ _ _, by simp, by simp⟩

end Go.Proofs.YtbjagmlbamjdbaaGreat.disks
end

/-
  disk and the document's disk, side by side on the heap; bytes counted up; an argument's slice appended to an own one.
-/
import Derived.Test.YtomceindibnpnaaDiskMir
import Derived.Test.YtomceindibnpnaaDiskRefOf
import Derived.Test.YtomceindibnpnaaDiskTwins
import Derived.Test.YtomceindibnpnaaArgsSized
namespace Go.Proofs.Ytomceindibnpnaa.disks
open Go.RowKit Go.Maps Go.My Go.ChangeMaps
set_option maxRecDepth 100000

/-- A disk of the law's own and the document's, apart. -/
structure Duo (W w : World) (d r : Nat) (Fd Fr : Nat → Prop) (X : DV) (R : RV) : Prop where
  x : DiskAt w d Fd X
  y : RefAt w r Fr R
  ap : ∀ k, Fd k → ¬ Fr k
  ox : ∀ k, Fd k → W.heap.size ≤ k
  oy : ∀ k, Fr k → W.heap.size ≤ k
  chg : Chg (fun _ => False) W w

variable {W w w' : World} {d r : Nat} {Fd Fr : Nat → Prop} {X X' : DV} {R R' : RV}

theorem RefAt.lt (h : RefAt w r Fr R) : ∀ k, Fr k → k < w.heap.size := by obtain ⟨_, _, h⟩ := h; exact h.lt
theorem Duo.ltx (h : Duo W w d r Fd Fr X R) : ∀ k, Fd k → k < w.heap.size := h.x.lt
theorem Duo.lty (h : Duo W w d r Fd Fr X R) : ∀ k, Fr k → k < w.heap.size := h.y.lt

theorem Duo.fresh (h : Duo W w d r Fd Fr X R) (hc : Chg (fun _ => False) w w') : Duo W w' d r Fd Fr X R :=
  ⟨h.x.fresh hc, h.y.kept hc (fun _ _ h => h), h.ap, h.ox, h.oy, h.chg.trans' hc⟩

theorem Duo.setX (h : Duo W w d r Fd Fr X R) (hx : DiskAt w' d Fd X') (hc : Chg Fd w w') : Duo W w' d r Fd Fr X' R :=
  ⟨hx, h.y.kept hc (fun k hk hx => h.ap k hx hk), h.ap, h.ox, h.oy, h.chg.new hc h.ox⟩

theorem Duo.growX (h : Duo W w d r Fd Fr X R) (hx : DiskAt w' d (grow Fd w w') X') (hc : Chg Fd w w') : Duo W w' d r (grow Fd w w') Fr X' R :=
  ⟨hx, h.y.kept hc (fun k hk hx => h.ap k hx hk), fun k hk hy => by rcases hk with hk | hk; exact h.ap k hk hy; exact Nat.not_lt.2 hk.1 (h.lty k hy), fun k hk => by rcases hk with hk | hk; exact h.ox k hk; exact Nat.le_trans h.chg.size hk.1, h.oy, h.chg.new hc h.ox⟩

theorem Duo.growY (h : Duo W w d r Fd Fr X R) (hy : RefAt w' r (grow Fr w w') R') (hc : Chg Fr w w') : Duo W w' d r Fd (grow Fr w w') X R' :=
  ⟨h.x.kept hc (fun k hk hy => h.ap k hk hy), hy, fun k hk hy => by rcases hy with hy | hy; exact h.ap k hk hy; exact Nat.not_lt.2 hy.1 (h.ltx k hk), h.ox, fun k hk => by rcases hk with hk | hk; exact h.oy k hk; exact Nat.le_trans h.chg.size hk.1, h.chg.new hc h.oy⟩

theorem Duo.setY (h : Duo W w d r Fd Fr X R) (hy : RefAt w' r Fr R') (hc : Chg Fr w w') : Duo W w' d r Fd Fr X R' :=
  ⟨h.x.kept hc (fun k hk hy => h.ap k hk hy), hy, h.ap, h.ox, h.oy, h.chg.new hc h.oy⟩

/-- The two states, and their bounds. -/
structure Link (X : DV) (R : RV) (n : Nat) : Prop where
  m : Mir X R
  S : R.S.length ≤ n
  fu : X.fuse ≤ 9223372036854775807
  LB : ∀ i, X.B.length ≤ i → X.L i = []

variable {n : Nat}

theorem Link.more (h : Link X R n) {k : Nat} (hk : n ≤ k) : Link X R k := ⟨h.m, Nat.le_trans h.S hk, h.fu, h.LB⟩
theorem Link.fr (h : Link X R n) : R.fuse ≤ 9223372036854775807 := by rw [h.m.fuse]; exact h.fu
theorem Link.Ls (h : Link X R n) (i : Nat) : (X.L i).length ≤ n := by
  rw [h.m.L]
  have := sel_le R.S i R.S.length
  rw [List.take_length] at this
  exact Nat.le_trans this h.S

theorem burn_S (R : RV) : R.burn.S = R.S := by unfold RV.burn; split <;> rfl
theorem burn_fu (h : X.fuse ≤ 9223372036854775807) : X.burn.fuse ≤ 9223372036854775807 := by
  unfold DV.burn
  split
  · exact h
  · show (if 0 < X.fuse then X.fuse - 1 else X.fuse) ≤ _
    split <;> omega

theorem Link.burn (h : Link X R n) : Link X.burn R.burn n :=
  ⟨h.m.burn, by rw [burn_S]; exact h.S, burn_fu h.fu, by rw [burn_B, burn_L]; exact h.LB⟩

theorem Link.write (h : Link X R n) (i : Int) (b : Blk) : Link (X.write i b) (R.write i b) (n + 1) := by
  refine ⟨h.m.write i b, ?_, ?_, ?_⟩
  · rw [RV.write]
    split
    · have := h.S; omega
    · split
      · rw [burn_S]; have := h.S; omega
      · show (R.burn.S ++ [(i, b)]).length ≤ _
        rw [burn_S]
        have := h.S
        simp; omega
  · rw [DV.write]
    split
    · exact h.fu
    · split
      · exact burn_fu h.fu
      · exact burn_fu h.fu
  · rw [DV.write]
    split
    · exact h.LB
    · split
      · rw [burn_B, burn_L]; exact h.LB
      · rename_i ha hf
        intro j hj
        have hj' : X.B.length ≤ j := by rw [← burn_B X]; exact hj
        have hr : 0 ≤ i ∧ i < X.B.length := by
          by_cases hr : 0 ≤ i ∧ i < X.B.length
          · exact hr
          · exfalso; refine ha (Or.inl ?_)
            unfold askedC
            split
            · omega
            · first | omega | (rw [if_neg hr]; omega)
        show (if j = i.toNat then X.burn.L j ++ [b] else X.burn.L j) = []
        rw [if_neg (by omega), burn_L]
        exact h.LB j hj'

theorem Link.flush (h : Link X R n) : Link X.flush R.flush n := by
  refine ⟨h.m.flush, ?_, ?_, ?_⟩
  · rw [RV.flush]
    split
    · exact h.S
    · split
      · rw [burn_S]; exact h.S
      · exact Nat.zero_le _
  · rw [DV.flush]
    split
    · exact h.fu
    · split
      · exact burn_fu h.fu
      · exact burn_fu h.fu
  · rw [DV.flush]
    split
    · exact h.LB
    · split
      · rw [burn_B, burn_L]; exact h.LB
      · intro j _; rfl

theorem Link.set (h : Link X R n) {z : Int} (hz : inR z) : Link (X.set z) (R.set z) n := by
  refine ⟨h.m.set z, ?_, ?_, ?_⟩
  · rw [RV.set]; split
    · exact h.S
    · exact h.S
  · rw [DV.set]; split
    · exact h.fu
    · exact hz.2
  · rw [DV.set]; split
    · exact h.LB
    · exact h.LB

theorem Link.crash (h : Link X R n) (keep : List Int) : Link (X.crash keep) (R.crash keep) n :=
  ⟨h.m.crash keep h.LB, Nat.zero_le _, by show (-1 : Int) ≤ _; omega, fun j _ => crash_L X keep h.LB j⟩

theorem Link.new {k : Nat} : Link (DV.new k) (RV.new k) 0 := ⟨⟨rfl, fun _ => rfl, rfl, rfl, rfl⟩, Nat.le_refl _, by show (-1 : Int) ≤ _; omega, fun _ _ => rfl⟩

theorem Link.ofK (L : List Blk) : Link (DV.ofK L L.length) (RV.ofK L L.length) 0 :=
  ⟨⟨by show L.take L.length = L.take L.length ++ List.replicate (L.length - L.length) zeroBlk; simp, fun _ => rfl, rfl, rfl, rfl⟩, Nat.le_refl _, by show (-1 : Int) ≤ _; omega, fun _ _ => rfl⟩

/-! ### bytes counted up -/
theorem inc_mod (c : UInt8) : ((c.toNat : Int) + 1) % 256 = ((c + 1).toNat : Int) := by
  rw [UInt8.toNat_add]
  have := UInt8.toNat_lt c
  show _ = (((c.toNat + 1) % 256 : Nat) : Int)
  omega
theorem inc_wrap (c : UInt8) : IntKind.u8.wrap ((c.toNat : Int) + 1) = ((c + 1).toNat : Int) := by
  rw [IntKind.wrap_u8]; exact inc_mod c

theorem inc_at {base m cap : Nat} {oa : Option Addr} {b : Blk} (h : w.ownsRow base 5 1 (.slice oa m cap) m (cellsB b)) {k : Nat} (hk : k < m) :
    ∃ (g : Nat) (c : UInt8), oa = some ⟨g, 0, none⟩ ∧ w.cell? ⟨g, k, none⟩ = some (.int .u8 c.toNat) ∧ w.frozen? ⟨g, k, none⟩ = false ∧ base ≤ g ∧ g < w.heap.size ∧
      ∀ z : Int, z = ((c + 1).toNat : Int) → (w.setCell ⟨g, k, none⟩ (.int .u8 z)).ownsRow base 5 1 (.slice oa m cap) m (cellsB (b.set k (c + 1))) := by
  obtain ⟨g, rfl⟩ : ∃ g, oa = some ⟨g, 0, none⟩ := by
    rcases h.2 with ⟨e1, h0⟩ | ⟨g, cap', cur, e1, -⟩
    · omega
    · simp only [Value.slice.injEq] at e1; exact ⟨g, e1.1⟩
  obtain ⟨hx, h1, h2, h3, h4⟩ := own_cell h hk
  have hb : k < b.length := by rw [cellsB_length] at hx; exact hx
  refine ⟨g, b[k], rfl, ?_, h2, h3, h4, fun z hz => ?_⟩
  · rw [h1]; simp [cellsB]
  · have h5 := (h.stored k (.int .u8 z)).1
    rw [hz] at h5 ⊢
    have e : cellsB (b.set k (b[k] + 1)) = (cellsB b).set k (.int .u8 ((b[k] + 1).toNat : Int)) := by simp [cellsB, List.map_set]
    rw [e]
    exact h5

/-! ### 'append(own, arg...)' -/
theorem run_append_args (base : Nat) (t ty e : TypeId) (i : TypeInfo) (z : Value) (bytes : Nat) (ht : Try.prog.underlying t = some (.slice e)) (hi : Try.prog.info? e = some i) (hz : i.zero = some z)
    (hsize : i.size = 1) (hby : i.bytes = bytes) (hzs : z.cells.size = 1) (v : Value) (hown : w.ownsRow base e 1 v 0 []) (x : Value) (xs : List Value) (hx : SlAt w x xs) (h1 : ∀ u ∈ xs, u.oneCell' = true)
    (h63 : xs.length ≤ maxLen) (hbytes : xs.length * bytes ≤ 140737488355328) (hbase : base ≤ w.heap.size) :
    ∃ v' w', (Builtin.append_ #[t, t] ty #[v, x]).run Try.prog w = .ok v' w' ∧ w'.ownsRow base e 1 v' xs.length xs ∧ Chg (fun k => some k = v.ownBlock) w w' := by
  obtain ⟨oa, cap, rfl, hne, hc⟩ := hx
  cases oa with
  | none =>
    have hb : xs = [] := by
      cases xs with
      | nil => rfl
      | cons x l => obtain ⟨g, off, e⟩ := hne (by simp); cases e
    subst hb
    refine ⟨v, w, ?_, hown, Chg.refl _ _⟩
    rcases hown.2 with ⟨rfl, -⟩ | ⟨g, cap', cur, rfl, _, _, hnc, _⟩
    · simp [Builtin.append_, run_underlying ht, sizeOf, typeInfo, hi, Builtin.lenOf, Builtin.firstCells]
    · simp [Builtin.append_, run_underlying ht, sizeOf, typeInfo, hi, Builtin.lenOf, Builtin.firstCells, hnc, storeCells]
  | some a =>
    obtain ⟨v', w', h2, h3, h4, -, -⟩ := run_append_own_at (P := Try.prog) w base t ty e i z 1 bytes ht hi hz hsize hby hzs (by decide) v 0 [] hown a xs.length cap xs (by simp) (fun j u hu => by
      obtain ⟨g, off, e⟩ := hne (by intro e; rw [e] at hu; simp at hu)
      cases e
      have e : (⟨g, off, none⟩ : Addr).add j = ⟨g, off + j, none⟩ := by unfold Addr.add; split <;> simp_all
      rw [e]
      exact hc g off rfl j u hu) h1 (by omega) (by rw [Nat.zero_add]; exact hbytes) hbase
    rw [Nat.zero_add, List.nil_append] at h3
    exact ⟨v', w', h2, h3, Chg.of_grown h4⟩

theorem wpList_append_run {P : Program} {ops : Array Oper} {rest : List Oper} {o : Oper} {a : Go.Act} {w w' : World} {Q : Exit → Go.Act → World → Prop} (hgd : o.guard = none) (s x : Operand) (t : TypeId)
    (ho : o.op = .call { callee := .builtin .append, args := #[s, x], argTypes := #[t, t] }) {v sv xv : Value} (hs : a.eval s = sv) (hx : a.eval x = xv)
    (hr : (Builtin.append_ #[t, t] o.type #[sv, xv]).run P w = .ok v w') (h : wpList P ops Q rest (a.put o.dst v) w') : wpList P ops Q (o :: rest) a w :=
  wpList_plain hgd fun _ hK => oper_append s x t ho hs hx hr (hK _ _ h)

end Go.Proofs.Ytomceindibnpnaa.disks

/-
  disk: what the laws share: a disk of the law's own, two disks apart, images read.
-/
import Derived.Test.YtomceindibnpnaaDiskCrash
import Derived.Test.YtomceindibnpnaaDiskBytes
import Derived.Laws.IdiomStrings
namespace Go.Proofs.Ytomceindibnpnaa.disks
open Go.RowKit Go.Maps Go.My Go.ChangeMaps
set_option maxRecDepth 100000

variable {W w w' : World} {d q : Nat} {F F' : Nat → Prop} {X X' Y : DV} {bv : Value} {m : List (Int × (Value × List Blk))}

theorem bytesC_cells (l : List UInt8) : bytesC l = cellsB l := rfl

/-- 'string(b)' of an own byte slice. -/
theorem conv_own {base n : Nat} {v : Value} {b : Blk} (h : w.ownsRow base 5 1 v n (cellsB b)) : (convert 68 9 v).run Try.prog w = .ok (.string ⟨b.toArray⟩) w := by
  have hn : n = b.length := by have := h.1; rw [cellsB_length] at this; omega
  subst hn
  rcases h.2 with ⟨rfl, h0⟩ | ⟨g, cap, cur, rfl, _, hg, hc, _, hcs, ht⟩
  · have : b = [] := List.eq_nil_of_length_eq_zero h0
    subst this
    rw [run_convert_bytes_string w 68 9 5 none 0 0 Try.underlying68 Try.underlying5 Try.underlying9]
    rfl
  · refine run_convert_bytes_back w 68 9 5 ⟨g, 0, none⟩ cap b Try.underlying68 Try.underlying5 Try.underlying9 (fun j hj => ?_)
    have e : (⟨g, 0, none⟩ : Addr).add j = ⟨g, j, none⟩ := by unfold Addr.add; split <;> simp_all
    rw [e]
    have h1 : cur.toList[j]? = some (.int .u8 (b[j].toNat : Int)) := by
      have h2 : (cur.toList.take (b.length * 1))[j]? = (cellsB b)[j]? := by rw [ht]
      rw [List.getElem?_take_of_lt (by omega)] at h2
      rw [h2]
      simp [cellsB, hj]
    exact cell_of_block hg (by rw [← Array.getElem?_toList]; exact h1)

theorem ImgAt.sl {base : Nat} {v : Value} {L : List Blk} (h : ImgAt w base v L) : ∃ oa cap, v = .slice oa L.length cap := by
  obtain ⟨gs, _, hr, _⟩ := h.ex
  exact own_slice hr

theorem ImgAt.kept {base : Nat} {v : Value} {L : List Blk} (h : ImgAt w base v L) {S : Nat → Prop} (hc : Chg S w w') (hs : ∀ k, base ≤ k → ¬ S k) : ImgAt w' base v L := by
  obtain ⟨gs, h1, h2, h3, h4⟩ := h.ex
  exact ⟨gs, h1, row_kept h2 hc (fun g hg => hs g (h2.lt g hg).1), fun i g b hg hb => ⟨row_kept (h3 i g b hg hb).1 hc (fun k hk => hs k ((h3 i g b hg hb).1.lt k hk).1), (h3 i g b hg hb).2⟩, h4⟩

/-- An image's i-th block: its slice's value, its string. -/
theorem ImgAt.get {base : Nat} {v : Value} {L : List Blk} (h : ImgAt w base v L) {i : Nat} (hi : i < L.length) :
    ∃ go cap g, v = .slice (some ⟨go, 0, none⟩) L.length cap ∧ w.cell? ⟨go, i, none⟩ = some g ∧ (convert 68 9 g).run Try.prog w = .ok (.string ⟨(L[i]).toArray⟩) w := by
  obtain ⟨gs, h1, h2, h3, h4⟩ := h.ex
  have hig : i < gs.length := by omega
  rcases h2.2 with ⟨rfl, h0⟩ | ⟨go, cap, cur, rfl, _, hg, hc, _, hcs, ht⟩
  · omega
  · refine ⟨go, cap, gs[i], rfl, ?_, conv_own (h3 i _ _ (List.getElem?_eq_getElem hig) (List.getElem?_eq_getElem hi)).1⟩
    have h5 : cur.toList[i]? = some gs[i] := by
      have h6 : (cur.toList.take (L.length * 1))[i]? = gs[i]? := by rw [ht]
      rw [List.getElem?_take_of_lt (by omega)] at h6
      rw [h6]; exact List.getElem?_eq_getElem hig
    exact cell_of_block hg (by rw [← Array.getElem?_toList]; exact h5)

theorem flush_at (w : World) (h : DiskAt w d F X) (hf : X.fuse ≤ 9223372036854775807) :
    Calls Try.prog 30 #[.pointer (some ⟨d, 0, none⟩)] w fun e w' => e = .returned (.int .i64 (flushC X)) ∧ DiskAt w' d F X.flush ∧ Chg F w w' := by
  obtain ⟨bv, q, m, h⟩ := h
  exact flush_any w h hf

theorem DiskAt.lt (h : DiskAt w d F X) : ∀ k, F k → k < w.heap.size := by obtain ⟨_, _, _, h⟩ := h; exact h.lt

theorem write_at (w : World) (h : DiskAt w d F X) (i : Int) (hi : inR i) (hf : X.fuse ≤ 9223372036854775807) {base n : Nat} {v : Value} {b : Blk} (hb : w.ownsRow base 5 1 v n (cellsB b)) (hbf : ∀ g, v.ownBlock = some g → ¬ F g) (hL : ∀ j, (X.L j).length < 1000000) :
    Calls Try.prog 33 #[.pointer (some ⟨d, 0, none⟩), .int .i64 i, v] w fun e w' => e = .returned (.int .i64 (writeC X i b.length)) ∧ DiskAt w' d (grow F w w') (X.write i b) ∧ Chg F w w' := by
  obtain ⟨bv, q, m, h⟩ := h
  obtain ⟨oa, cap, rfl⟩ := own_slice hb
  exact write_any w h i hi hf oa n cap b (SlAt.of_own hb) (fun a ha => by subst ha; exact hbf _ rfl) hL

theorem image_at (w : World) (h : DiskAt w d F X) :
    Calls Try.prog 31 #[.pointer (some ⟨d, 0, none⟩)] w fun e w' => ∃ v, e = .returned v ∧ ImgAt w' w.heap.size v X.B ∧ Chg (fun _ => False) w w' := by
  obtain ⟨bv, q, m, h⟩ := h
  exact image_any w h

theorem waiting_at (w : World) (h : DiskAt w d F X) :
    Calls Try.prog 36 #[.pointer (some ⟨d, 0, none⟩)] w fun e w' => ∃ v, e = .returned v ∧ OwnRecs w' w.heap.size 114 2 v ((waitsOf X).map encW) ∧ Chg (fun _ => False) w w' := by
  obtain ⟨bv, q, m, h⟩ := h
  exact waiting_any w h

theorem fuse_at (w : World) (h : DiskAt w d F X) (n : Int) : Calls Try.prog 39 #[.pointer (some ⟨d, 0, none⟩), .int .i64 n] w fun e w' => e = .returned (.int .i64 (fuseC X n)) ∧ DiskAt w' d F (X.set n) ∧ Chg F w w' := by
  obtain ⟨bv, q, m, h⟩ := h
  refine (fuse_any w h n).mono ?_
  rintro e w' ⟨h1, h2, h3⟩
  exact ⟨h1, ⟨_, _, _, h2⟩, h3.mono (fun k _ e => by rw [e]; exact h.fd)⟩

theorem crash_at (w : World) (h : DiskAt w d F X) {v : Value} {keep : List Int} (hk : SlAt w v (keep.map (Value.int .i64))) (hkf : keep ≠ [] → ∀ g, v.ownBlock = some g → ¬ F g) (hin : ∀ z ∈ keep, inR z) (hL : ∀ j, (X.L j).length < 1000000) :
    Calls Try.prog 32 #[.pointer (some ⟨d, 0, none⟩), v] w fun e w' => e = .returned (.int .i64 0) ∧ DiskAt w' d F (X.crash keep) ∧ Chg F w w' := by
  obtain ⟨oa, cap, rfl, h2, h3⟩ := hk
  exact crash_any w h oa _ cap keep ⟨oa, cap, rfl, h2, h3⟩ (fun hne a ha => by subst ha; exact hkf hne _ rfl) hin hL

theorem slat_old {v : Value} {xs : List Value} (h : SlAt w v xs) (hne : xs ≠ []) {g : Nat} (hg : v.ownBlock = some g) : g < w.heap.size := by
  obtain ⟨oa, cap, rfl, h2, h3⟩ := h
  obtain ⟨b, off, rfl⟩ := h2 hne
  simp only [Value.ownBlock, Option.some.injEq] at hg
  subst hg
  cases xs with
  | nil => exact absurd rfl hne
  | cons x xs => exact World.block_lt_of_cell? _ _ (h3 b off rfl 0 x rfl)

theorem crashN_L_le (X : DV) (keep : List Int) (k j : Nat) : ((X.crashN keep k).L j).length ≤ (X.L j).length := by
  induction k with
  | zero => exact Nat.le_refl _
  | succ k ih =>
    rw [DV.crashN]
    split
    · simp only
      split
      · simp
      · exact ih
    · exact ih

theorem crash_L_le (X : DV) (keep : List Int) (j : Nat) : ((X.crash keep).L j).length ≤ (X.L j).length := crashN_L_le X keep _ j

/-- Two disks apart, both of them the law's own. -/
structure Two (W w : World) (Fx : Nat → Prop) (dx : Nat) (X : DV) (Fy : Nat → Prop) (dy : Nat) (Y : DV) : Prop where
  x : DiskAt w dx Fx X
  y : DiskAt w dy Fy Y
  ox : ∀ k, Fx k → W.heap.size ≤ k
  oy : ∀ k, Fy k → W.heap.size ≤ k
  ap : ∀ k, Fx k → ¬ Fy k
  chg : Chg (fun _ => False) W w

variable {Fx Fy : Nat → Prop} {dx dy : Nat}

theorem Two.fresh (h : Two W w Fx dx X Fy dy Y) (hc : Chg (fun _ => False) w w') : Two W w' Fx dx X Fy dy Y :=
  ⟨h.x.fresh hc, h.y.fresh hc, h.ox, h.oy, h.ap, h.chg.trans' hc⟩

theorem Two.swap (h : Two W w Fx dx X Fy dy Y) : Two W w Fy dy Y Fx dx X := ⟨h.y, h.x, h.oy, h.ox, fun k h1 h2 => h.ap k h2 h1, h.chg⟩

theorem Two.setX (h : Two W w Fx dx X Fy dy Y) {X' : DV} (hx : DiskAt w' dx Fx X') (hc : Chg Fx w w') : Two W w' Fx dx X' Fy dy Y :=
  ⟨hx, h.y.kept hc (fun k hk hx => h.ap k hx hk), h.ox, h.oy, h.ap, h.chg.new hc h.ox⟩

theorem Two.growX (h : Two W w Fx dx X Fy dy Y) {X' : DV} (hx : DiskAt w' dx (grow Fx w w') X') (hc : Chg Fx w w') : Two W w' (grow Fx w w') dx X' Fy dy Y :=
  ⟨hx, h.y.kept hc (fun k hk hx => h.ap k hx hk), fun k hk => by rcases hk with hk | hk; exact h.ox k hk; exact Nat.le_trans h.chg.size hk.1, h.oy,
    fun k hk hy => by rcases hk with hk | hk; exact h.ap k hk hy; exact Nat.not_lt.2 hk.1 (h.y.lt k hy), h.chg.new hc h.ox⟩

end Go.Proofs.Ytomceindibnpnaa.disks

/-
  DiskFuses: the plain law: a disk with a fuse of n beside one that gets the first n acts alone.
-/
import Derived.Test.YtomceindibnpnaaDiskLaw
namespace Go.Proofs.Ytomceindibnpnaa.disks
open Go.RowKit Go.Maps Go.My Go.ChangeMaps
set_option maxRecDepth 100000

def kOf (a : DAct) : Nat := ((a.place.tmod 8 + 8).tmod 8).toNat
def bOf (a : DAct) : Blk := bytesOf { a with long := 0 }
def DV.act (X : DV) (a : DAct) : DV := if a.kind = 1 then X.flush else X.write (kOf a) (bOf a)
def actC (X : DV) (a : DAct) : Int := if a.kind = 1 then flushC X else writeC X (kOf a) 64

theorem bOf_len (a : DAct) : (bOf a).length = 64 := by simp [bOf, bytesOf, lenOf]
theorem kOf_eq (a : DAct) : (a.place.tmod 8 + 8).tmod 8 = (kOf a : Int) ∧ kOf a < 8 := by
  have h1 := Int.tmod_lt_of_pos a.place (b := 8) (by omega)
  have h2 := Int.lt_tmod_of_pos a.place (b := 8) (by omega)
  have h3 : 0 ≤ (a.place.tmod 8 + 8).tmod 8 := Int.tmod_nonneg _ (by omega)
  have h4 := Int.tmod_lt_of_pos (a.place.tmod 8 + 8) (b := 8) (by omega)
  unfold kOf
  omega

structure Sync (n i : Nat) (X Y : DV) : Prop where
  B : X.B = Y.B
  L : X.L = Y.L
  len : X.B.length = 8
  Ls : ∀ j, (X.L j).length ≤ i
  dx : X.done = ((min i n : Nat) : Int)
  dy : Y.done = ((min i n : Nat) : Int)
  yd : Y.down = false
  yf : Y.fuse = -1
  lo : i ≤ n → X.down = false ∧ X.fuse = ((n - i : Nat) : Int)
  hi : n < i → X.down = true ∧ X.fuse = 0

variable {n i : Nat} {X Y : DV}

theorem wrap_small {z : Int} (h0 : 0 ≤ z) (h : z ≤ 1000000) : wrap64 z = z := IntWalk.wrap64_in _ (by omega)

theorem cur_eq (hB : X.B = Y.B) (hL : X.L = Y.L) : X.cur = Y.cur := by funext t; simp [DV.cur, hB, hL]

theorem burn_of (hd : X.fuse ≠ 0) : X.burn = { X with fuse := if 0 < X.fuse then X.fuse - 1 else X.fuse, done := wrap64 (X.done + 1) } := by rw [DV.burn, if_neg hd]

theorem Sync.act_lo (h : Sync n i X Y) (hi : i < n) (hn : n < 40) (a : DAct) : actC X a = 0 ∧ actC Y a = 0 ∧ Sync n (i + 1) (X.act a) (Y.act a) ∧ (X.act a).down = false := by
  obtain ⟨hxd, hxf⟩ := h.lo (by omega)
  have hf : X.fuse ≠ 0 := by omega
  have hfy : Y.fuse ≠ 0 := by rw [h.yf]; omega
  have hk := (kOf_eq a).2
  have hmin : min i n = i := by omega
  have hmin1 : min (i + 1) n = i + 1 := by omega
  have hdx := h.dx
  have hdy := h.dy
  rw [hmin] at hdx hdy
  have hlenY : Y.B.length = 8 := by rw [← h.B]; exact h.len
  have eX : X.burn = { X with fuse := ((n - (i + 1) : Nat) : Int), done := ((i + 1 : Nat) : Int) } := by
    rw [burn_of hf, hdx, wrap_small (by omega) (by omega), hxf, if_pos (by omega)]
    have e1 : ((n - i : Nat) : Int) - 1 = ((n - (i + 1) : Nat) : Int) := by omega
    rw [e1]; rfl
  have eY : Y.burn = { Y with done := ((i + 1 : Nat) : Int) } := by
    rw [burn_of hfy, hdy, wrap_small (by omega) (by omega), h.yf, if_neg (by omega), ← h.yf]
    rfl
  unfold actC DV.act
  by_cases hkd : a.kind = 1
  · simp only [if_pos hkd]
    refine ⟨by simp [flushC, hxd, hf], by simp [flushC, h.yd, hfy], ?_⟩
    rw [DV.flush, if_neg (by simp [hxd]), if_neg hf, DV.flush, if_neg (by simp [h.yd]), if_neg hfy, eX, eY]
    refine ⟨⟨?_, rfl, by simp [DV.all, h.len], by simp [DV.all], by simp [DV.all, hmin1], by simp [DV.all, hmin1], h.yd, h.yf, fun _ => ⟨hxd, rfl⟩, fun hh => by omega⟩, hxd⟩
    simp only [DV.all, h.B]
    apply List.map_congr_left
    intro t _
    simp [DV.cur, h.B, h.L]
  · simp only [if_neg hkd]
    have hax : askedC X (kOf a : Int) = 0 := by simp [askedC, hxd, h.len]; omega
    have hay : askedC Y (kOf a : Int) = 0 := by simp [askedC, h.yd, hlenY]; omega
    refine ⟨by simp [writeC, hax, hf], by simp [writeC, hay, hfy], ?_⟩
    rw [DV.write, if_neg (by simp [hax, bOf_len]), if_neg hf, DV.write, if_neg (by simp [hay, bOf_len]), if_neg hfy, eX, eY]
    refine ⟨⟨h.B, ?_, h.len, ?_, by simp [DV.put, hmin1], by simp [DV.put, hmin1], h.yd, h.yf, fun _ => ⟨hxd, rfl⟩, fun hh => by omega⟩, hxd⟩
    · simp only [DV.put, h.L]
    · intro j
      have := h.Ls j
      simp only [DV.put]
      split
      · simp; omega
      · omega

theorem Sync.act_hi (h : Sync n i X Y) (hi : n ≤ i) (a : DAct) : actC X a = 15 ∧ Sync n (i + 1) (X.act a) Y ∧ (X.act a).down = true := by
  have hk := (kOf_eq a).2
  have hmin : min i n = n := by omega
  have hmin1 : min (i + 1) n = n := by omega
  have hdx := h.dx
  have hdy := h.dy
  rw [hmin] at hdx hdy
  have key : ∀ X' : DV, X'.B = X.B → X'.L = X.L → X'.done = X.done → X'.down = true → X'.fuse = 0 → Sync n (i + 1) X' Y := fun X' e1 e2 e3 e4 e5 =>
    ⟨e1.trans h.B, e2.trans h.L, by rw [e1]; exact h.len, fun j => by rw [e2]; have := h.Ls j; omega, by rw [e3, hdx, hmin1], by rw [hdy, hmin1], h.yd, h.yf, fun hh => by omega, fun _ => ⟨e4, e5⟩⟩
  unfold actC DV.act
  by_cases hin : i = n
  · obtain ⟨hxd, hxf⟩ := h.lo (by omega)
    have hf : X.fuse = 0 := by rw [hxf]; omega
    have eX : X.burn = { X with down := true } := by rw [DV.burn, if_pos hf]
    by_cases hkd : a.kind = 1
    · simp only [if_pos hkd]
      rw [DV.flush, if_neg (by simp [hxd]), if_pos hf, eX]
      exact ⟨by simp [flushC, hf], key _ rfl rfl rfl rfl hf, rfl⟩
    · simp only [if_neg hkd]
      have hax : askedC X (kOf a : Int) = 0 := by simp [askedC, hxd, h.len]; omega
      rw [DV.write, if_neg (by simp [hax, bOf_len]), if_pos hf, eX]
      exact ⟨by simp [writeC, hax, hf], key _ rfl rfl rfl rfl hf, rfl⟩
  · obtain ⟨hxd, hxf⟩ := h.hi (by omega)
    by_cases hkd : a.kind = 1
    · simp only [if_pos hkd]
      rw [DV.flush, if_pos hxd]
      exact ⟨by simp [flushC, hxd], key _ rfl rfl rfl hxd hxf, hxd⟩
    · simp only [if_neg hkd]
      have hax : askedC X (kOf a : Int) = 15 := by simp [askedC, hxd]
      rw [DV.write, if_pos (Or.inl (by rw [hax]; omega))]
      exact ⟨by simp [writeC, hax], key _ rfl rfl rfl hxd hxf, hxd⟩

/-- What a crash leaves hangs on the blocks and on what waits alone. -/
theorem crashN_congr (keep : List Int) (hB : X.B = Y.B) (hL : X.L = Y.L) (k : Nat) : (X.crashN keep k).B = (Y.crashN keep k).B ∧ (X.crashN keep k).L = (Y.crashN keep k).L ∧ (X.crashN keep k).done = X.done := by
  have hw : waitsOf X = waitsOf Y := by unfold waitsOf; rw [hB, hL]
  induction k with
  | zero => exact ⟨hB, hL, rfl⟩
  | succ k ih =>
    rw [DV.crashN, DV.crashN, hw]
    cases (waitsOf Y)[k]? with
    | none => exact ih
    | some p => exact ⟨by simp only [ih.1, hL], by simp only [ih.2.1], ih.2.2⟩

theorem crash_congr (keep : List Int) (hB : X.B = Y.B) (hL : X.L = Y.L) : (X.crash keep).B = (Y.crash keep).B := by
  have hw : waitsOf X = waitsOf Y := by unfold waitsOf; rw [hB, hL]
  unfold DV.crash
  simp only [hw]
  exact (crashN_congr keep hB hL _).1

theorem crash_done (X : DV) (keep : List Int) : (X.crash keep).done = X.done := (crashN_congr (X := X) (Y := X) keep rfl rfl _).2.2
theorem crash_len (X : DV) (keep : List Int) : (X.crash keep).B.length = X.B.length := crashN_len X keep _

theorem sync_start (n : Nat) : Sync n 0 ((DV.new 8).set n) (DV.new 8) := by
  have e : (DV.new 8).set (n : Int) = { DV.new 8 with fuse := (n : Int) } := by rw [DV.set, if_neg (by simp [DV.new])]
  rw [e]
  exact ⟨rfl, rfl, by simp [DV.new], by simp [DV.new], by simp [DV.new], by simp [DV.new], rfl, rfl, fun _ => ⟨rfl, by simp⟩, fun h => by omega⟩

end Go.Proofs.Ytomceindibnpnaa.disks

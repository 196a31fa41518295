/-
  wal: texts as arguments.
-/
import Derived.Test.YtcfgcllphfooaaaPk7WalNobody
import Derived.SliceStrings

section
namespace Go.Proofs.Ytcfgcllphfooaaa.wals
open Go.ChangeShapes Go.WideShapes Go.RowKit Go.My Go.Deep disks

theorem cells_str : Try.prog.cellsOf 9 = 1 := by kernel_rfl

theorem strV_of (s : ByteArray) : Value.string s = strV s.data.toList := by cases s; simp [strV]

set_option maxRecDepth 100000 in
theorem open_str {H : Type} {enc : TypeId × Value → H} {W : World} {v : Value} {d : DataW H} {ps : List MemPlace} {r : Reach} {b0 : Nat}
    (hv : Value.okWide Try.prog W r b0 9 v) (h : DataW.Trod enc Try.prog W 0 (fun _ => true) true 9 v d ps) : ∃ b : Blk, v = strV b ∧ b.length ≤ maxLen := by
  obtain ⟨s, rfl⟩ := okWide_string Try.underlying9 hv
  obtain ⟨fuel, hf⟩ := h
  obtain ⟨s', e, -, hw⟩ := DataW.trod_string Try.underlying9 hf
  simp only [Value.cells, List.cons.injEq, and_true, Value.string.injEq] at e
  subst e
  exact ⟨s.data.toList, strV_of s, hw⟩

set_option maxRecDepth 100000 in
theorem trod_strs {H : Type} {enc : TypeId × Value → H} {W : World} {base : Nat} {sp : Nat → Bool} {held : Bool} {l : List (List Value)}
    (h : ∀ x ∈ l, ∃ f y, DataW.trod enc Try.prog W base sp held f 9 x = some y) : ∃ bs : List Blk, l = bs.map (fun b => [strV b]) ∧ ∀ b ∈ bs, b.length ≤ maxLen := by
  induction l with
  | nil => exact ⟨[], rfl, by simp⟩
  | cons x l ih =>
    obtain ⟨bs, rfl, hb⟩ := ih (fun y hy => h y (by simp [hy]))
    obtain ⟨f, y, hy⟩ := h x (by simp)
    obtain ⟨s, rfl, -, hw⟩ := DataW.trod_string Try.underlying9 hy
    refine ⟨s.data.toList :: bs, by rw [strV_of]; rfl, fun b hbm => ?_⟩
    rcases List.mem_cons.1 hbm with rfl | hbm
    · exact hw
    · exact hb b hbm

set_option maxRecDepth 100000 in
theorem open_strs {H : Type} {enc : TypeId × Value → H} {W : World} {v : Value} {d : DataW H} {ps : List MemPlace} {r : Reach} {b0 : Nat}
    (hv : Value.okWide Try.prog W r b0 22 v) (h : DataW.Trod enc Try.prog W 0 (fun _ => true) true 22 v d ps) :
    ∃ bs : List Blk, SlAt W v (bs.map strV) ∧ bs.length ≤ maxLen ∧ ∀ b ∈ bs, b.length ≤ maxLen := by
  obtain ⟨oa, l, cap, rfl, h1, h2, h3, h4⟩ := open_rows Try.underlying22 cells_str (by omega) hv h
  obtain ⟨bs, rfl, hb⟩ := trod_strs h4
  refine ⟨bs, ?_, by simpa using Nat.le_trans h1 h2, hb⟩
  have := h3.flat cap
  rw [flat_one] at this
  exact this

end Go.Proofs.Ytcfgcllphfooaaa.wals
end

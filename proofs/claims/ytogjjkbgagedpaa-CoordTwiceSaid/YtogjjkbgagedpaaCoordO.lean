/-
  coord's laws: the arguments.
-/
import Derived.Test.YtogjjkbgagedpaaCoordM
import Derived.Test.YtogjjkbgagedpaaArgs
import Derived.Test.YtogjjkbgagedpaaNest
namespace Go.Proofs.Ytogjjkbgagedpaa.coords
open Go.ChangeShapes Go.WideShapes Go.RowKit Go.Maps Go.My Go.ChangeMaps Go.Deep
set_option maxRecDepth 100000

theorem cells_int : Try.prog.cellsOf 3 = 1 := by kernel_rfl
theorem wf_inR {a : Int} (h : (Lit.int .i64 a).wf = true) : inR a := by have := bounds_i64 h; exact ⟨by omega, by omega⟩

theorem open_ints {H : Type} {enc : TypeId × Value → H} {W : World} {v : Value} {d : DataW H} {ps : List MemPlace} {r : Reach} {b0 : Nat}
    (hv : Value.okWide Try.prog W r b0 41 v) (h : DataW.Trod enc Try.prog W 0 (fun _ => true) true 41 v d ps) :
    ∃ zs : List Int, SlAt W v (zs.map (Value.int .i64)) ∧ (∀ z ∈ zs, inR z) ∧ zs.length ≤ maxLen := by
  obtain ⟨oa, l, cap, rfl, h1, h2, h3, h4⟩ := open_rows Try.underlying41 cells_int (by omega) hv h
  obtain ⟨zs, rfl, hz⟩ := trod_ints Try.underlying3 h4
  refine ⟨zs, ?_, fun z hm => wf_inR (hz z hm), by simpa using Nat.le_trans h1 h2⟩
  have := h3.flat cap
  rw [flat_one] at this
  exact this

theorem mod_six (n : Int) : ∃ M : Nat, 1 ≤ M ∧ M ≤ 6 ∧ wrap64 (n.tmod 6 + 6) = n.tmod 6 + 6 ∧ wrap64 (1 + (n.tmod 6 + 6).tmod 6) = (M : Int) := by
  obtain ⟨R, h1, h2, h3⟩ := mod_twice n 6 (by omega) (by omega)
  have h2 : wrap64 (n.tmod 6 + 6) = n.tmod 6 + 6 := h2
  have h3 : (n.tmod 6 + 6).tmod 6 = (R : Int) := h3
  refine ⟨R + 1, by omega, by omega, h2, ?_⟩
  rw [h3, IntWalk.wrap64_in _ (by omega)]
  omega

theorem mod_m (z : Int) (M : Nat) (h1 : 1 ≤ M) (h6 : M ≤ 6) : ∃ r : Int, 1 ≤ r ∧ r ≤ M ∧ wrap64 (z.tmod M + M) = z.tmod M + M ∧ wrap64 (1 + (z.tmod M + M).tmod M) = r := by
  obtain ⟨R, h1, h2, h3⟩ := mod_twice z M h1 (by omega)
  exact ⟨R + 1, by omega, by omega, h2, by rw [h3, IntWalk.wrap64_in _ (by omega)]; omega⟩

end Go.Proofs.Ytogjjkbgagedpaa.coords

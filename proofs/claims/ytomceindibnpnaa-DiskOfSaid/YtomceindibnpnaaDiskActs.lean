/-
  disk: the argument 'acts' of the laws.
-/
import Derived.Test.YtomceindibnpnaaProg
import Derived.Test.YtomceindibnpnaaRecs
import Derived.Test.YtomceindibnpnaaNest
import Derived.Deep.QuietTactic
import Derived.Lib.Hide
import Derived.Laws.OwnMore
namespace Go.Proofs.Ytomceindibnpnaa.disks
open Go.ChangeShapes Go.WideShapes Go.RowKit Go.My Go.Deep

theorem laidOut : laidOutB Try.prog = true := by kernel_rfl
theorem own : ownKnob Try.prog.godebug = none := by kernel_rfl
theorem cells_int : Try.prog.cellsOf 3 = 1 := by kernel_rfl
theorem cells_ints : Try.prog.cellsOf 41 = 1 := by kernel_rfl
theorem cells_act : Try.prog.cellsOf 66 = 5 := by kernel_rfl

structure DAct where
  kind : Int
  place : Int
  n : Int
  long : Int
  kv : Value
  keep : List Int

def inR (a : Int) : Prop := -9223372036854775808 ≤ a ∧ a ≤ 9223372036854775807
theorem inR_wf {a : Int} (h : inR a) : (Lit.int .i64 a).wf = true := WalkArith.wf_i64 h
theorem wf_inR {a : Int} (h : (Lit.int .i64 a).wf = true) : inR a := by have := bounds_i64 h; exact ⟨by omega, by omega⟩

def DAct.row (a : DAct) : List Value := [.int .i64 a.kind, .int .i64 a.place, .int .i64 a.n, .int .i64 a.long, a.kv]
structure DAct.ok (W : World) (a : DAct) : Prop where
  kind : inR a.kind
  place : inR a.place
  n : inR a.n
  long : inR a.long
  keep : SlAt W a.kv (a.keep.map (Value.int .i64))
  each : ∀ z ∈ a.keep, inR z
  len : a.keep.length ≤ maxLen

set_option maxRecDepth 100000 in
theorem fields_act {H : Type} {enc : TypeId × Value → H} {W : World} {base : Nat} {sp : Nat → Bool} {held : Bool} {fuel : Nat} {cs : List Value} {y : DataW H × List MemPlace}
    (hf : DataW.trod enc Try.prog W base sp held fuel 66 cs = some y) : ∃ a : DAct, cs = a.row ∧ a.ok W := by
  obtain ⟨hlen, k, hx⟩ := trod_fields Try.underlying66 cells_act rfl (by
    intro i f hf
    match i, hf with
    | 0, hf => cases hf; exact ⟨rfl, cells_int⟩
    | 1, hf => cases hf; exact ⟨rfl, cells_int⟩
    | 2, hf => cases hf; exact ⟨rfl, cells_int⟩
    | 3, hf => cases hf; exact ⟨rfl, cells_int⟩
    | 4, hf => cases hf; exact ⟨rfl, cells_ints⟩
    | i + 5, hf => simp at hf) hf
  match cs, hlen with
  | [c0, c1, c2, c3, c4], _ =>
      obtain ⟨_, h0⟩ := hx 0 _ _ rfl rfl
      obtain ⟨_, h1⟩ := hx 1 _ _ rfl rfl
      obtain ⟨_, h2⟩ := hx 2 _ _ rfl rfl
      obtain ⟨_, h3⟩ := hx 3 _ _ rfl rfl
      obtain ⟨_, h4⟩ := hx 4 _ _ rfl rfl
      obtain ⟨z0, e0, _, w0⟩ := DataW.trod_int Try.underlying3 h0
      obtain ⟨z1, e1, _, w1⟩ := DataW.trod_int Try.underlying3 h1
      obtain ⟨z2, e2, _, w2⟩ := DataW.trod_int Try.underlying3 h2
      obtain ⟨z3, e3, _, w3⟩ := DataW.trod_int Try.underlying3 h3
      obtain ⟨oa, l, cap, e4, l1, l2, l3, l4⟩ := open_rows_trod Try.underlying41 cells_int (by omega) h4
      obtain ⟨zs, rfl, hz⟩ := trod_ints Try.underlying3 l4
      simp only [List.cons.injEq, and_true] at e0 e1 e2 e3 e4
      subst e0 e1 e2 e3 e4
      refine ⟨⟨z0, z1, z2, z3, _, zs⟩, rfl, wf_inR w0, wf_inR w1, wf_inR w2, wf_inR w3, ?_, fun z hm => wf_inR (hz z hm), by simpa using Nat.le_trans l1 l2⟩
      have := l3.flat cap
      rw [flat_one] at this
      exact this

set_option maxRecDepth 100000 in
theorem open_acts {H : Type} {enc : TypeId × Value → H} {W : World} {v : Value} {d : DataW H} {ps : List MemPlace} {r : Reach} {b0 : Nat}
    (hv : Value.okWide Try.prog W r b0 54 v) (h : DataW.Trod enc Try.prog W 0 (fun _ => true) true 54 v d ps) :
    ∃ (oa : Option Addr) (l : List DAct) (cap : Nat), v = .slice oa l.length cap ∧ l.length ≤ cap ∧ cap ≤ maxLen ∧ RowsAt W 5 oa (l.map DAct.row) ∧ ∀ a ∈ l, a.ok W := by
  obtain ⟨oa, l, cap, rfl, h1, h2, h3, h4⟩ := open_rows Try.underlying54 cells_act (by omega) hv h
  have h5 : ∃ L : List DAct, l = L.map DAct.row ∧ ∀ a ∈ L, a.ok W := by
    clear h1 h2 h3 hv h
    induction l with
    | nil => exact ⟨[], rfl, by simp⟩
    | cons x l ih =>
      obtain ⟨L, rfl, hL⟩ := ih (fun y hy => h4 y (by simp [hy]))
      obtain ⟨fuel, y, hy⟩ := h4 x (by simp)
      obtain ⟨a, rfl, ha⟩ := fields_act hy
      refine ⟨a :: L, rfl, fun b hb => ?_⟩
      rcases List.mem_cons.1 hb with rfl | hb
      · exact ha
      · exact hL b hb
  obtain ⟨L, rfl, hL⟩ := h5
  exact ⟨oa, L, cap, by simp, by simpa using h1, h2, h3, hL⟩

set_option maxRecDepth 100000 in
theorem open_act {H : Type} {enc : TypeId × Value → H} {W : World} {v : Value} {d : DataW H} {ps : List MemPlace} {r : Reach} {b0 : Nat}
    (hv : Value.okWide Try.prog W r b0 66 v) (h : DataW.Trod enc Try.prog W 0 (fun _ => true) true 66 v d ps) :
    ∃ a : DAct, v = .agg #[.int .i64 a.kind, .int .i64 a.place, .int .i64 a.n, .int .i64 a.long, a.kv] ∧ a.ok W := by
  obtain ⟨cs, rfl, hsz⟩ := okWide_struct Try.underlying66 hv
  obtain ⟨fuel, hf⟩ := h
  obtain ⟨a, ha, hok⟩ := fields_act hf
  refine ⟨a, ?_, hok⟩
  congr 1
  exact Array.toList_inj.1 (by simpa [Value.cells, DAct.row] using ha)

set_option maxRecDepth 100000 in
theorem open_ints {H : Type} {enc : TypeId × Value → H} {W : World} {v : Value} {d : DataW H} {ps : List MemPlace} {r : Reach} {b0 : Nat}
    (hv : Value.okWide Try.prog W r b0 41 v) (h : DataW.Trod enc Try.prog W 0 (fun _ => true) true 41 v d ps) :
    ∃ zs : List Int, SlAt W v (zs.map (Value.int .i64)) ∧ (∀ z ∈ zs, inR z) ∧ zs.length ≤ maxLen := by
  obtain ⟨oa, l, cap, rfl, h1, h2, h3, h4⟩ := open_rows Try.underlying41 cells_int (by omega) hv h
  obtain ⟨zs, rfl, hz⟩ := trod_ints Try.underlying3 h4
  refine ⟨zs, ?_, fun z hm => wf_inR (hz z hm), by simpa using Nat.le_trans h1 h2⟩
  have := h3.flat cap
  rw [flat_one] at this
  exact this

end Go.Proofs.Ytomceindibnpnaa.disks

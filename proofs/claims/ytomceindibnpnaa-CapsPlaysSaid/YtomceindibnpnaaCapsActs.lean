/-
  caps: the argument 'acts' of the laws, and small facts on rows of bools.
-/
import Derived.Test.YtomceindibnpnaaCaps
import Derived.Test.YtomceindibnpnaaArgs
namespace Go.Proofs.Ytomceindibnpnaa
open Go.ChangeShapes Go.WideShapes Go.RowKit Go.My Go.Deep

structure Act where
  kind : Int
  id : Int
  root : Int
  quota : Int
  used : Int
  more : Int

def inR (a : Int) : Prop := -9223372036854775808 ≤ a ∧ a ≤ 9223372036854775807
theorem inR_wf {a : Int} (h : inR a) : (Lit.int .i64 a).wf = true := WalkArith.wf_i64 h
theorem wf_inR {a : Int} (h : (Lit.int .i64 a).wf = true) : inR a := by have := bounds_i64 h; exact ⟨by omega, by omega⟩

def Act.row (a : Act) : List Value := [.int .i64 a.kind, .int .i64 a.id, .int .i64 a.root, .int .i64 a.quota, .int .i64 a.used, .int .i64 a.more]
structure Act.ok (a : Act) : Prop where
  kind : inR a.kind
  id : inR a.id
  root : inR a.root
  quota : inR a.quota
  used : inR a.used
  more : inR a.more

theorem cells_act : Try.prog.cellsOf 34 = 6 := by kernel_rfl

set_option maxRecDepth 100000 in
theorem open_acts {H : Type} {enc : TypeId × Value → H} {W : World} {v : Value} {d : DataW H} {ps : List MemPlace} {r : Reach} {b0 : Nat}
    (hv : Value.okWide Try.prog W r b0 29 v) (h : DataW.Trod enc Try.prog W 0 (fun _ => true) true 29 v d ps) :
    ∃ (oa : Option Addr) (l : List Act) (cap : Nat), v = .slice oa l.length cap ∧ l.length ≤ cap ∧ cap ≤ maxLen ∧ RowsAt W 6 oa (l.map Act.row) ∧ ∀ a ∈ l, a.ok := by
  obtain ⟨oa, l, cap, rfl, h1, h2, h3, h4⟩ := open_rows Try.underlying29 cells_act (by omega) hv h
  have h5 : ∃ L : List Act, l = L.map Act.row ∧ ∀ a ∈ L, a.ok := by
    clear h1 h2 h3 hv h
    induction l with
    | nil => exact ⟨[], rfl, by simp⟩
    | cons x l ih =>
      obtain ⟨L, rfl, hL⟩ := ih (fun y hy => h4 y (by simp [hy]))
      obtain ⟨fuel, y, hy⟩ := h4 x (by simp)
      obtain ⟨zs, rfl, hz, hw⟩ := ints_of_struct (q := .i64) Try.underlying34 cells_act rfl (by
        intro i f hf
        match i, hf with
        | 0, hf => cases hf; exact ⟨rfl, Try.underlying3, cells_int⟩
        | 1, hf => cases hf; exact ⟨rfl, Try.underlying3, cells_int⟩
        | 2, hf => cases hf; exact ⟨rfl, Try.underlying3, cells_int⟩
        | 3, hf => cases hf; exact ⟨rfl, Try.underlying3, cells_int⟩
        | 4, hf => cases hf; exact ⟨rfl, Try.underlying3, cells_int⟩
        | 5, hf => cases hf; exact ⟨rfl, Try.underlying3, cells_int⟩
        | i + 6, hf => simp at hf) hy
      match zs, hz with
      | [z0, z1, z2, z3, z4, z5], _ =>
        refine ⟨⟨z0, z1, z2, z3, z4, z5⟩ :: L, rfl, fun a ha => ?_⟩
        rcases List.mem_cons.1 ha with rfl | ha
        · exact ⟨wf_inR (hw z0 (by simp)), wf_inR (hw z1 (by simp)), wf_inR (hw z2 (by simp)), wf_inR (hw z3 (by simp)), wf_inR (hw z4 (by simp)), wf_inR (hw z5 (by simp))⟩
        · exact hL a ha
  obtain ⟨L, rfl, hL⟩ := h5
  exact ⟨oa, L, cap, by simp, by simpa using h1, h2, h3, hL⟩

theorem fields_act : ∀ (i : Nat) (f : Field), (#[⟨"Kind", 3, 0, false, "", "", 0⟩, ⟨"Id", 3, 1, false, "", "", 8⟩, ⟨"Root", 3, 2, false, "", "", 16⟩, ⟨"Quota", 3, 3, false, "", "", 24⟩, ⟨"Used", 3, 4, false, "", "", 32⟩, ⟨"More", 3, 5, false, "", "", 40⟩] : Array Field)[i]? = some f → f.offset = i ∧ Try.prog.underlying f.type = some (.int .i64) ∧ Try.prog.cellsOf f.type = 1 := by
  intro i f hf
  match i, hf with
  | 0, hf => cases hf; exact ⟨rfl, Try.underlying3, cells_int⟩
  | 1, hf => cases hf; exact ⟨rfl, Try.underlying3, cells_int⟩
  | 2, hf => cases hf; exact ⟨rfl, Try.underlying3, cells_int⟩
  | 3, hf => cases hf; exact ⟨rfl, Try.underlying3, cells_int⟩
  | 4, hf => cases hf; exact ⟨rfl, Try.underlying3, cells_int⟩
  | 5, hf => cases hf; exact ⟨rfl, Try.underlying3, cells_int⟩
  | i + 6, hf => simp at hf

set_option maxRecDepth 100000 in
theorem open_act {H : Type} {enc : TypeId × Value → H} {W : World} {v : Value} {d : DataW H} {ps : List MemPlace} {r : Reach} {b0 : Nat}
    (hv : Value.okWide Try.prog W r b0 34 v) (h : DataW.Trod enc Try.prog W 0 (fun _ => true) true 34 v d ps) :
    ∃ a : Act, v = .agg #[.int .i64 a.kind, .int .i64 a.id, .int .i64 a.root, .int .i64 a.quota, .int .i64 a.used, .int .i64 a.more] ∧ a.ok := by
  obtain ⟨cs, rfl, hsz⟩ := okWide_struct Try.underlying34 hv
  obtain ⟨fuel, hf⟩ := h
  obtain ⟨zs, hzs, hz, hw⟩ := ints_of_struct (q := .i64) Try.underlying34 cells_act rfl fields_act hf
  match zs, hz with
  | [z0, z1, z2, z3, z4, z5], _ =>
    refine ⟨⟨z0, z1, z2, z3, z4, z5⟩, ?_, ⟨wf_inR (hw z0 (by simp)), wf_inR (hw z1 (by simp)), wf_inR (hw z2 (by simp)), wf_inR (hw z3 (by simp)), wf_inR (hw z4 (by simp)), wf_inR (hw z5 (by simp))⟩⟩
    congr 1
    exact Array.toList_inj.1 (by simpa [Value.cells] using hzs)

end Go.Proofs.Ytomceindibnpnaa

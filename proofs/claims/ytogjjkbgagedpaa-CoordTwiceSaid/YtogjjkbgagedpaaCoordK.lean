/-
  coord: Open with one open transaction; Recall; Tick of a committed one.
-/
import Derived.Test.YtogjjkbgagedpaaCoordJ
import Derived.Test.YtogjjkbgagedpaaRange
namespace Go.Proofs.Ytogjjkbgagedpaa.coords
open Go.RowKit Go.Maps Go.My Go.ChangeMaps
set_option maxRecDepth 100000

variable {w w' : World} {c q x qa : Nat} {F F' Fc : Nat → Prop} {lim : Int} {m : List (Int × Nat)} {E : EV} {pv : Value}

theorem len64_one (w : World) : Calls Try.prog 89 #[.int .u64 1] w fun e w' => e = .returned (.int .i64 1) ∧ w = w' := by
  go_enter Try.func89, Try.ntmps89
  go_wp2_with fail
  go_ret
  exact ⟨by kernel_rfl, rfl⟩

theorem len_one (w : World) : Calls Try.prog 63 #[.int .u64 1] w fun e w' => e = .returned (.int .i64 1) ∧ w = w' := by
  go_enter Try.func63, Try.ntmps63
  go_wp2_with (go_at_call 89; refine (len64_one _).mono ?_; rintro e w1 ⟨rfl, rfl⟩)
  go_ret
  exact ⟨rfl, rfl⟩

theorem insertion_one (w : World) (v : Value) : Calls Try.prog 79 #[v, .int .i64 0, .int .i64 1] w fun e w' => e = .returned (.tuple #[]) ∧ w = w' := by
  go_enter Try.func79, Try.ntmps79
  go_wp2_with fail
  go_loopw [6] (fun j wr => j = .int .i64 1 ∧ w = wr) (fun _ _ => 0)
  · exact ⟨rfl, rfl⟩
  obtain ⟨rfl, rfl⟩ := hrel
  go_wp2_with fail
  go_end0
  exact ⟨rfl, rfl⟩

theorem pdq_one (w : World) (v : Value) : Calls Try.prog 62 #[v, .int .i64 0, .int .i64 1, .int .i64 1] w fun e w' => e = .returned (.tuple #[]) ∧ w = w' := by
  go_enter Try.func62, Try.ntmps62
  go_wp2_with fail
  go_loopw [1, 2] (fun a b wr => a = .int .i64 0 ∧ b = .int .i64 1 ∧ w = wr) (fun _ _ _ => 0)
  · exact ⟨rfl, rfl, rfl⟩
  obtain ⟨rfl, rfl, rfl⟩ := hrel
  go_wp2_with (go_at_call 79; refine (insertion_one _ _).mono ?_; rintro e w1 ⟨rfl, rfl⟩)
  first | go_end0 | refine bodyPost_ret (results_none rfl _ _ _) rfl ?_
  exact ⟨rfl, rfl⟩

theorem sort_one (w : World) (oa : Option Addr) (cap : Nat) : Calls Try.prog 41 #[.slice oa 1 cap] w fun e w' => e = .returned (.tuple #[]) ∧ w = w' := by
  go_enter Try.func41, Try.ntmps41
  go_wp2_with (first
    | (go_at_call 63; refine (len_one _).mono ?_; rintro e w1 ⟨rfl, rfl⟩)
    | (go_at_call 62; refine (pdq_one _ _).mono ?_; rintro e w1 ⟨rfl, rfl⟩))
  go_end0
  exact ⟨rfl, rfl⟩


set_option maxHeartbeats 1000000 in
theorem open_one (w : World) (txn : Int) (hC : CoIs w c Fc lim [(txn, x)] q) :
    Calls Try.prog 17 #[ptrV c] w fun e w' => ∃ g cap, e = .returned (.slice (some ⟨g, 0, none⟩) 1 cap) ∧ w'.cell? ⟨g, 0, none⟩ = some (.int .i64 txn) ∧ Chg (fun _ => False) w w' := by
  have c1 : w.cell? ⟨c, 1, none⟩ = some (.map (some q)) := cell_of_block hC.head rfl
  obtain ⟨i0, hI0⟩ := info_parts info_int
  have HI0 := Lib.hid hI0
  have HC := Lib.hid hC
  clear hC hI0
  unfold ptrV
  go_enter Try.func17, Try.ntmps17
  go_wp2_with (first
    | (go_at_call 34; refine (none_no _ HC.out).mono ?_; rintro e w1 ⟨rfl, rfl⟩)
    | (at_range; refine wpList_rangeM HC.out.mp rfl _ 71 76 rfl Try.underlying71 rfl ?_; intro w2 cnt hr2 hc2 hs2))
  go_frame
  go_loopw [3] (fun u wr => ∃ done cnt, RngIs iKey ptrV wr q w.heap.size [(txn, x)] done cnt ∧ wr.ownsRow w.heap.size 3 1 u done.length (done.reverse.map (Value.int .i64)) ∧ Chg (fun _ => False) w wr ∧ done.Nodup ∧ (∀ i ∈ done, i = txn)) (fun _ wr => wr.rangeLeft q w.heap.size)
  · exact ⟨[], cnt, hr2, World.ownsRow_nil _ _ _ _, hc2, List.nodup_nil, by simp⟩
  clear hr2 hc2 hs2
  obtain ⟨done, cnt, hr, ho, hc, hnd, hin⟩ := hrel
  have HR := Lib.hid hr
  have HO := Lib.hid ho
  have HCx := Lib.hid hc
  have HN := Lib.hid hnd
  have HIn := Lib.hid hin
  have hl1 : done.length ≤ 1 := by
    match done, hnd, hin with
    | [], _, _ => simp
    | [a], _, _ => simp
    | a :: b :: l, hnd, hin =>
      have h1 := hin a (by simp)
      have h2 := hin b (by simp)
      rw [List.nodup_cons] at hnd
      exact absurd (by rw [h1, h2]; simp) hnd.1
  clear hr ho hc hnd hin
  rcases HR.out.next 0 with ⟨hall, hrun⟩ | ⟨k, v, w', cnt', hm, hn, hrun, hr', hlt, hcr, hsz, hen⟩
  · have hd : done = [txn] := by
      have h1 := hall (txn, x) (by simp)
      match done, HIn.out, hl1, h1 with
      | [a], hi, _, _ => rw [hi a (by simp)]
      | a :: b :: l, _, h, _ => simp at h
    subst hd
    obtain ⟨oau, cu, rfl⟩ := own_slice HO.out
    have HAll := Lib.hid hall
    clear hall
    go_wp2_with (go_at_call 41; refine (sort_one _ _ _).mono ?_; rintro e w1 ⟨rfl, rfl⟩)
    go_ret
    have h1 : oau ≠ none := fun e => by
      rcases HO.out.2 with ⟨e1, h0⟩ | ⟨g, cap', cur, e1, -⟩
      · simp at h0
      · rw [e] at e1; simp at e1
    rcases HO.out.2 with ⟨e1, h0⟩ | ⟨g, cap', cur, e1, -⟩
    · simp at h0
    · simp only [Value.slice.injEq] at e1
      obtain ⟨rfl, -, -⟩ := e1
      obtain ⟨hx, h2, -⟩ := own_cell HO.out (k := 0) (by simp)
      exact ⟨g, cu, rfl, by rw [h2]; rfl, HCx.out⟩
  · have hk : k = txn := by simpa using (List.mem_singleton.1 hm |> congrArg Prod.fst)
    have hen' : (Instr.entry (.pointer (some ⟨w.heap.size, 0, none⟩))).run Try.prog w' = .ok (.tuple #[.int .i64 k, ptrV v]) w' := hen
    have hrun' : (Instr.next (.pointer (some ⟨w.heap.size, 0, none⟩)) false 0).run Try.prog wr = .ok (.tuple #[.bool true, .int .i64 k, ptrV v]) w' := hrun
    have hR' := Lib.hid hr'
    have HC' := Lib.hid hcr
    have hou := row_kept HO.out HC'.out (fun j hj e => by
      obtain ⟨c1, h1⟩ := row_obj HO.out hj
      obtain ⟨_, _, _, _, _, _, _, _, _, h5, _⟩ := HR.out
      rw [show j = w.heap.size from e, h5] at h1
      cases h1)
    have hca := (Chg.refl (fun _ => False) w').alloc (.cells #[.int .i64 k] 3)
    have HOU := Lib.hid (row_kept hou hca (fun _ _ h => h))
    have HSz := Lib.hid hsz
    have HK := Lib.hid hk
    clear hen hrun hr' hcr hou hk hm
    have hc6 : w.heap.size ≤ (w'.alloc (.cells #[.int .i64 k] 3)).heap.size := by simp only [World.size_alloc]; rw [hsz]; have := HCx.out.size; omega
    have HCa := Lib.hid hca
    have HC6 := Lib.hid hc6
    clear hca hc6 hsz
    go_wp2_with (first
      | (at_builtin; refine wpList_append_own_at _ rfl _ _ 41 rfl w.heap.size 3 i0 (.int .i64 0) 1 8 Try.underlying41 HI0.out.1 HI0.out.2.1 HI0.out.2.2.1 HI0.out.2.2.2 rfl (by decide) _ done.length _ rfl HOU.out ⟨w'.heap.size, 0, none⟩ 1 1 [.int .i64 k] rfl rfl (cells_new w' [.int .i64 k] _) (by intro x hx; rw [List.mem_singleton.1 hx]; rfl) (by unfold maxLen; omega) (by omega) HC6.out ?_; intro u' w3 ho3 hg3 hx1 hx2; have HO3 := Lib.hid ho3; have HG3 := Lib.hid hg3; clear ho3 hg3 hx1 hx2))
    have hcu : Chg (fun i => some i = u3.ownBlock) w' w3 := ((Chg.refl _ _).alloc _).trans' (Chg.of_grown HG3.out)
    have hq1 : ¬ some q = u3.ownBlock := fun e => by
      obtain ⟨c1, h1⟩ := row_obj HO.out e.symm
      obtain ⟨es, clock, hb, _⟩ := HR.out.map
      rw [hb] at h1; cases h1
    have hr1 : ¬ some w.heap.size = u3.ownBlock := fun e => by
      obtain ⟨c1, h1⟩ := row_obj HO.out e.symm
      obtain ⟨_, _, _, _, _, _, _, _, _, h5, _⟩ := HR.out
      rw [h5] at h1; cases h1
    have hRn := hR'.out.kept hcu hq1 hr1
    refine ⟨⟨k :: done, cnt', hRn, ?_, ?_, List.nodup_cons.2 ⟨hn, HN.out⟩, ?_⟩, ?_⟩
    · rw [List.reverse_cons, List.map_append]
      exact HO3.out
    · exact (HCx.out.new HC'.out (fun i e => by omega)).new hcu (fun i e => (HO.out.lt i e.symm).1)
    · intro i hi
      rcases List.mem_cons.1 hi with rfl | hi
      · exact HK.out
      · exact HIn.out i hi
    · rw [hRn.left_eq, HR.out.left_eq]
      exact hlt

end Go.Proofs.Ytogjjkbgagedpaa.coords

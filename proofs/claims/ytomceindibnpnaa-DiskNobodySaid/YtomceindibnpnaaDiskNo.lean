/-
  disk: what each method does to a disk that no call made (nil, or a plain Disk{}).
-/
import Derived.Test.YtomceindibnpnaaDiskActs
import Derived.Test.YtomceindibnpnaaMaps
import Derived.WalkLawsBesides
import Derived.BigQuiet
import Derived.Lib.LazyBuf
import Derived.Deep.QuietTactic
import Derived.Lib.Hide
namespace Go.Proofs.Ytomceindibnpnaa.disks
set_option maxRecDepth 100000
open Go.RowKit Go.My

def NoDisk (w : World) (p : Option Addr) : Prop := p = none ∨ ∃ T, p = some ⟨T, 0, none⟩ ∧ w.cell? ⟨T, 0, none⟩ = some (.slice none 0 0)

theorem none_yes (w : World) (p : Option Addr) (h : NoDisk w p) : Calls Try.prog 63 #[.pointer p] w fun e w' => e = .returned (.bool true) ∧ w = w' := by
  rcases h with rfl | ⟨T, rfl, c⟩
  · go_enter Try.func63, Try.ntmps63
    go_wp2
    go_ret
    exact ⟨rfl, rfl⟩
  · have hq := fun w => run_eql_slice_nil (P := Try.prog) w 91 _ none 0 0 Try.underlying91
    go_enter Try.func63, Try.ntmps63
    go_wp2
    go_ret
    exact ⟨rfl, rfl⟩

set_option linter.unusedVariables false
theorem asked_no (w : World) (p : Option Addr) (h : NoDisk w p) (i : Int) : Calls Try.prog 61 #[.pointer p, .int .i64 i] w fun e w' => e = .returned (.int .i64 1) ∧ w = w' := by
  have H := Lib.hid h
  clear h
  go_enter Try.func61, Try.ntmps61
  go_wp2_with (first
    | (go_at_call 63; refine (none_yes _ _ H.out).mono ?_; rintro e w' ⟨rfl, rfl⟩))
  go_ret
  exact ⟨rfl, rfl⟩

theorem blocks_no (w : World) (p : Option Addr) (h : NoDisk w p) : Calls Try.prog 47 #[.pointer p] w fun e w' => e = .returned (.int .i64 0) ∧ w = w' := by
  have H := Lib.hid h
  clear h
  go_enter Try.func47, Try.ntmps47
  go_wp2_with (first
    | (go_at_call 63; refine (none_yes _ _ H.out).mono ?_; rintro e w' ⟨rfl, rfl⟩)
    | (go_at_call 61; refine (asked_no _ _ H.out _).mono ?_; rintro e w' ⟨rfl, rfl⟩))
  go_ret
  exact ⟨rfl, rfl⟩

theorem read_no (w : World) (p : Option Addr) (h : NoDisk w p) (i : Int) : Calls Try.prog 35 #[.pointer p, .int .i64 i] w fun e w' => e = .returned (.tuple #[.slice none 0 0, .int .i64 1]) ∧ w = w' := by
  have H := Lib.hid h
  clear h
  go_enter Try.func35, Try.ntmps35
  go_wp2_with (first
    | (go_at_call 63; refine (none_yes _ _ H.out).mono ?_; rintro e w' ⟨rfl, rfl⟩)
    | (go_at_call 61; refine (asked_no _ _ H.out _).mono ?_; rintro e w' ⟨rfl, rfl⟩))
  go_ret2
  exact ⟨rfl, rfl⟩

theorem write_no (w : World) (p : Option Addr) (h : NoDisk w p) (i : Int) (v : Value) : Calls Try.prog 33 #[.pointer p, .int .i64 i, v] w fun e w' => e = .returned (.int .i64 1) ∧ w = w' := by
  have H := Lib.hid h
  clear h
  go_enter Try.func33, Try.ntmps33
  go_wp2_with (first
    | (go_at_call 63; refine (none_yes _ _ H.out).mono ?_; rintro e w' ⟨rfl, rfl⟩)
    | (go_at_call 61; refine (asked_no _ _ H.out _).mono ?_; rintro e w' ⟨rfl, rfl⟩))
  go_ret
  exact ⟨rfl, rfl⟩

theorem flush_no (w : World) (p : Option Addr) (h : NoDisk w p) : Calls Try.prog 30 #[.pointer p] w fun e w' => e = .returned (.int .i64 1) ∧ w = w' := by
  have H := Lib.hid h
  clear h
  go_enter Try.func30, Try.ntmps30
  go_wp2_with (first
    | (go_at_call 63; refine (none_yes _ _ H.out).mono ?_; rintro e w' ⟨rfl, rfl⟩)
    | (go_at_call 61; refine (asked_no _ _ H.out _).mono ?_; rintro e w' ⟨rfl, rfl⟩))
  go_ret
  exact ⟨rfl, rfl⟩

theorem fuse_no (w : World) (p : Option Addr) (h : NoDisk w p) (n : Int) : Calls Try.prog 39 #[.pointer p, .int .i64 n] w fun e w' => e = .returned (.int .i64 1) ∧ w = w' := by
  have H := Lib.hid h
  clear h
  go_enter Try.func39, Try.ntmps39
  go_wp2_with (first
    | (go_at_call 63; refine (none_yes _ _ H.out).mono ?_; rintro e w' ⟨rfl, rfl⟩)
    | (go_at_call 61; refine (asked_no _ _ H.out _).mono ?_; rintro e w' ⟨rfl, rfl⟩))
  go_ret
  exact ⟨rfl, rfl⟩

theorem crash_no (w : World) (p : Option Addr) (h : NoDisk w p) (v : Value) : Calls Try.prog 32 #[.pointer p, v] w fun e w' => e = .returned (.int .i64 1) ∧ w = w' := by
  have H := Lib.hid h
  clear h
  go_enter Try.func32, Try.ntmps32
  go_wp2_with (first
    | (go_at_call 63; refine (none_yes _ _ H.out).mono ?_; rintro e w' ⟨rfl, rfl⟩)
    | (go_at_call 61; refine (asked_no _ _ H.out _).mono ?_; rintro e w' ⟨rfl, rfl⟩))
  go_ret
  exact ⟨rfl, rfl⟩

theorem up_no (w : World) (p : Option Addr) (h : NoDisk w p) : Calls Try.prog 37 #[.pointer p] w fun e w' => e = .returned (.bool false) ∧ w = w' := by
  have H := Lib.hid h
  clear h
  go_enter Try.func37, Try.ntmps37
  go_wp2_with (first
    | (go_at_call 63; refine (none_yes _ _ H.out).mono ?_; rintro e w' ⟨rfl, rfl⟩)
    | (go_at_call 61; refine (asked_no _ _ H.out _).mono ?_; rintro e w' ⟨rfl, rfl⟩))
  go_ret
  exact ⟨rfl, rfl⟩

theorem done_no (w : World) (p : Option Addr) (h : NoDisk w p) : Calls Try.prog 40 #[.pointer p] w fun e w' => e = .returned (.int .i64 0) ∧ w = w' := by
  have H := Lib.hid h
  clear h
  go_enter Try.func40, Try.ntmps40
  go_wp2_with (first
    | (go_at_call 63; refine (none_yes _ _ H.out).mono ?_; rintro e w' ⟨rfl, rfl⟩)
    | (go_at_call 61; refine (asked_no _ _ H.out _).mono ?_; rintro e w' ⟨rfl, rfl⟩))
  go_ret
  exact ⟨rfl, rfl⟩

theorem waiting_no (w : World) (p : Option Addr) (h : NoDisk w p) : Calls Try.prog 36 #[.pointer p] w fun e w' => e = .returned (.slice none 0 0) ∧ w = w' := by
  have H := Lib.hid h
  clear h
  go_enter Try.func36, Try.ntmps36
  go_wp2_with (first
    | (go_at_call 63; refine (none_yes _ _ H.out).mono ?_; rintro e w' ⟨rfl, rfl⟩)
    | (go_at_call 61; refine (asked_no _ _ H.out _).mono ?_; rintro e w' ⟨rfl, rfl⟩))
  go_ret
  exact ⟨rfl, rfl⟩

theorem image_no (w : World) (p : Option Addr) (h : NoDisk w p) : Calls Try.prog 31 #[.pointer p] w fun e w' => e = .returned (.slice none 0 0) ∧ w = w' := by
  have H := Lib.hid h
  clear h
  go_enter Try.func31, Try.ntmps31
  go_wp2_with (first
    | (go_at_call 63; refine (none_yes _ _ H.out).mono ?_; rintro e w' ⟨rfl, rfl⟩)
    | (go_at_call 61; refine (asked_no _ _ H.out _).mono ?_; rintro e w' ⟨rfl, rfl⟩))
  go_ret
  exact ⟨rfl, rfl⟩

theorem copy_no (w : World) (p : Option Addr) (h : NoDisk w p) : Calls Try.prog 41 #[.pointer p] w fun e w' => e = .returned (.pointer none) ∧ w = w' := by
  have H := Lib.hid h
  clear h
  go_enter Try.func41, Try.ntmps41
  go_wp2_with (first
    | (go_at_call 63; refine (none_yes _ _ H.out).mono ?_; rintro e w' ⟨rfl, rfl⟩)
    | (go_at_call 61; refine (asked_no _ _ H.out _).mono ?_; rintro e w' ⟨rfl, rfl⟩))
  go_ret
  exact ⟨rfl, rfl⟩

end Go.Proofs.Ytomceindibnpnaa.disks

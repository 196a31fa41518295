/-
  No cell of these rows narrows 'for every input' (looked for: loops, veiled, ifaces, maps, wideKeys, modest, calm, conditions, laid).
  DERIVED. THE GIVEN ROWS OF THIS SEAT. 7 by the template 'for every input the law returns true; each argument reads behind the call as it read before'; 0 by the template 'total and deterministic' (their statements: YtbkefhoapnaciaaGreatTotals.lean).
  GIVEN WITH THE SEED: the statements are not yours to turn. If you find one false, say at which input.
  Laid BY PROGRAM, IN A SANDBOX (cutbox-rows.mjs): the forced cells as the released guide's own fill.sh prints them over the translation 5e81a7bd1f94895c… (all of the seat's roots in one cut). By AI agents, Wed Nov 11 2026. No macro, syntax, notation, axiom, sorry.
-/
import Derived.Test.YtbkefhoapnaciaaGreatChecked
import GoSem.Claim
import GoSem.ClaimJoined
import GoSem.ClaimMapViews
import Derived.JoinedTies
import Derived.KernelRfl
namespace Go.Proofs.YtbkefhoapnaciaaGreat
/- THE CELL 'sum', in the pinned program and in every row, IS THE sha256 OF THE DUMP (.gsa) THAT YtbkefhoapnaciaaGreatProg.lean LOADS. Nothing in Lean hashes anything: it is a label: what it is worth is what the hold of that sum in a sandbox is worth. -/
noncomputable def Tryz.pinned : Pinned := { name := "ytbkefhoapnaciaagreat", sum := "5e81a7bd1f94895cfef9faa7318e587022e6aad64983f96ce6fa90e00009b920", checked := Tryz.checked }
namespace Rows
def none {H : Type} : Left H := { results := [], args := [] }

/-- 'veneerlaw11.KvCodes': WHATEVER THE INPUT: true; the input reads as it did. -/
def kvCodesSpec : ChangeSpec := { name := "kvCodes", fn := fun _ => fun
  | [d1, d2] => { results := [.lit (.bool true)], args := [d1, d2] }
  | _ => none }
def kvCodesRow : OpenClaim := { program := "ytbkefhoapnaciaagreat", sum := "5e81a7bd1f94895cfef9faa7318e587022e6aad64983f96ce6fa90e00009b920", func := "veneer/veneerlaw11.KvCodes", spec := "kvCodes", inPlace := ["internal/abi.NoEscape", "internal/bytealg.abigen_runtime_cmpstring"], unfollowed := true, recurses := true, apart := false }
def KvCodesSaid : Prop := kvCodesRow.holds Tryz.pinned (OpenSpec.ofChange kvCodesSpec)

/-- ITS FALSE NEIGHBOUR: 'it returns false'. Refute it at one input. -/
def kvCodesWrong : ChangeSpec := { name := "kvCodes", fn := fun _ => fun
  | [d1, d2] => { results := [.lit (.bool false)], args := [d1, d2] }
  | _ => none }
def KvCodesWrongFalsely : Prop := kvCodesRow.holds Tryz.pinned (OpenSpec.ofChange kvCodesWrong)

/-- 'veneerlaw11.KvBack': WHATEVER THE INPUT: true; the input reads as it did. -/
def kvBackSpec : ChangeSpec := { name := "kvBack", fn := fun _ => fun
  | [d1, d2] => { results := [.lit (.bool true)], args := [d1, d2] }
  | _ => none }
def kvBackRow : OpenClaim := { program := "ytbkefhoapnaciaagreat", sum := "5e81a7bd1f94895cfef9faa7318e587022e6aad64983f96ce6fa90e00009b920", func := "veneer/veneerlaw11.KvBack", spec := "kvBack", inPlace := ["internal/abi.NoEscape", "internal/bytealg.abigen_runtime_cmpstring"], unfollowed := true, recurses := true, apart := false }
def KvBackSaid : Prop := kvBackRow.holds Tryz.pinned (OpenSpec.ofChange kvBackSpec)

/-- ITS FALSE NEIGHBOUR: 'it returns false'. Refute it at one input. -/
def kvBackWrong : ChangeSpec := { name := "kvBack", fn := fun _ => fun
  | [d1, d2] => { results := [.lit (.bool false)], args := [d1, d2] }
  | _ => none }
def KvBackWrongFalsely : Prop := kvBackRow.holds Tryz.pinned (OpenSpec.ofChange kvBackWrong)

/-- 'veneerlaw11.KvRoom': WHATEVER THE INPUT: true; the input reads as it did. -/
def kvRoomSpec : ChangeSpec := { name := "kvRoom", fn := fun _ => fun
  | [d1, d2] => { results := [.lit (.bool true)], args := [d1, d2] }
  | _ => none }
def kvRoomRow : OpenClaim := { program := "ytbkefhoapnaciaagreat", sum := "5e81a7bd1f94895cfef9faa7318e587022e6aad64983f96ce6fa90e00009b920", func := "veneer/veneerlaw11.KvRoom", spec := "kvRoom", inPlace := ["internal/abi.NoEscape", "internal/bytealg.abigen_runtime_cmpstring"], unfollowed := true, recurses := true, apart := false }
def KvRoomSaid : Prop := kvRoomRow.holds Tryz.pinned (OpenSpec.ofChange kvRoomSpec)

/-- ITS FALSE NEIGHBOUR: 'it returns false'. Refute it at one input. -/
def kvRoomWrong : ChangeSpec := { name := "kvRoom", fn := fun _ => fun
  | [d1, d2] => { results := [.lit (.bool false)], args := [d1, d2] }
  | _ => none }
def KvRoomWrongFalsely : Prop := kvRoomRow.holds Tryz.pinned (OpenSpec.ofChange kvRoomWrong)

/-- 'veneerlaw11.KvScans': WHATEVER THE INPUT: true; the input reads as it did. -/
def kvScansSpec : ChangeSpec := { name := "kvScans", fn := fun _ => fun
  | [d1, d2, d3] => { results := [.lit (.bool true)], args := [d1, d2, d3] }
  | _ => none }
def kvScansRow : OpenClaim := { program := "ytbkefhoapnaciaagreat", sum := "5e81a7bd1f94895cfef9faa7318e587022e6aad64983f96ce6fa90e00009b920", func := "veneer/veneerlaw11.KvScans", spec := "kvScans", inPlace := ["internal/abi.NoEscape", "internal/bytealg.abigen_runtime_cmpstring"], unfollowed := true, recurses := true, apart := false }
def KvScansSaid : Prop := kvScansRow.holds Tryz.pinned (OpenSpec.ofChange kvScansSpec)

/-- ITS FALSE NEIGHBOUR: 'it returns false'. Refute it at one input. -/
def kvScansWrong : ChangeSpec := { name := "kvScans", fn := fun _ => fun
  | [d1, d2, d3] => { results := [.lit (.bool false)], args := [d1, d2, d3] }
  | _ => none }
def KvScansWrongFalsely : Prop := kvScansRow.holds Tryz.pinned (OpenSpec.ofChange kvScansWrong)

/-- 'veneerlaw11.KvNobody': WHATEVER THE INPUT: true; the input reads as it did. -/
def kvNobodySpec : ChangeSpec := { name := "kvNobody", fn := fun _ => fun
  | [d1, d2] => { results := [.lit (.bool true)], args := [d1, d2] }
  | _ => none }
def kvNobodyRow : OpenClaim := { program := "ytbkefhoapnaciaagreat", sum := "5e81a7bd1f94895cfef9faa7318e587022e6aad64983f96ce6fa90e00009b920", func := "veneer/veneerlaw11.KvNobody", spec := "kvNobody", inPlace := ["internal/abi.NoEscape", "internal/bytealg.abigen_runtime_cmpstring"], unfollowed := true, recurses := true, apart := false }
def KvNobodySaid : Prop := kvNobodyRow.holds Tryz.pinned (OpenSpec.ofChange kvNobodySpec)

/-- ITS FALSE NEIGHBOUR: 'it returns false'. Refute it at one input. -/
def kvNobodyWrong : ChangeSpec := { name := "kvNobody", fn := fun _ => fun
  | [d1, d2] => { results := [.lit (.bool false)], args := [d1, d2] }
  | _ => none }
def KvNobodyWrongFalsely : Prop := kvNobodyRow.holds Tryz.pinned (OpenSpec.ofChange kvNobodyWrong)

/-- 'veneerlaw11.KvMap': WHATEVER THE INPUT: true; the input reads as it did. -/
def kvMapSpec : ChangeSpec := { name := "kvMap", fn := fun _ => fun
  | [d1, d2] => { results := [.lit (.bool true)], args := [d1, d2] }
  | _ => none }
def kvMapRow : OpenClaim := { program := "ytbkefhoapnaciaagreat", sum := "5e81a7bd1f94895cfef9faa7318e587022e6aad64983f96ce6fa90e00009b920", func := "veneer/veneerlaw11.KvMap", spec := "kvMap", inPlace := ["internal/abi.NoEscape", "internal/bytealg.abigen_runtime_cmpstring"], unfollowed := true, recurses := true, apart := false }
def KvMapSaid : Prop := kvMapRow.holds Tryz.pinned (OpenSpec.ofChange kvMapSpec)

/-- ITS FALSE NEIGHBOUR: 'it returns false'. Refute it at one input. -/
def kvMapWrong : ChangeSpec := { name := "kvMap", fn := fun _ => fun
  | [d1, d2] => { results := [.lit (.bool false)], args := [d1, d2] }
  | _ => none }
def KvMapWrongFalsely : Prop := kvMapRow.holds Tryz.pinned (OpenSpec.ofChange kvMapWrong)

/-- 'veneerlaw11.KvLasts': WHATEVER THE INPUT: true; the input reads as it did. -/
def kvLastsSpec : ChangeSpec := { name := "kvLasts", fn := fun _ => fun
  | [d1, d2, d3] => { results := [.lit (.bool true)], args := [d1, d2, d3] }
  | _ => none }
def kvLastsRow : OpenClaim := { program := "ytbkefhoapnaciaagreat", sum := "5e81a7bd1f94895cfef9faa7318e587022e6aad64983f96ce6fa90e00009b920", func := "veneer/veneerlaw11.KvLasts", spec := "kvLasts", inPlace := ["internal/abi.NoEscape", "internal/bytealg.abigen_runtime_cmpstring"], unfollowed := true, recurses := true, apart := false }
def KvLastsSaid : Prop := kvLastsRow.holds Tryz.pinned (OpenSpec.ofChange kvLastsSpec)

/-- ITS FALSE NEIGHBOUR: 'it returns false'. Refute it at one input. -/
def kvLastsWrong : ChangeSpec := { name := "kvLasts", fn := fun _ => fun
  | [d1, d2, d3] => { results := [.lit (.bool false)], args := [d1, d2, d3] }
  | _ => none }
def KvLastsWrongFalsely : Prop := kvLastsRow.holds Tryz.pinned (OpenSpec.ofChange kvLastsWrong)

/- THE SECOND FORM. 'bulk': how many values and letters a reading holds, each counted each time it is reached (what is shared counts as often as it is met; a slice's spare places count too). A statement '..UptoSaid' is the law's where the arguments, and the package variables that the reading takes, are together of bulk at most 1048576: NARROWER than '..Said'. Prove '..Said' where nothing that the law and all that it calls make is longer than what came in: it says more and counts as full. Else prove '..UptoSaid'. A law counts once. -/
mutual
def uptoBulk {H : Type} : DataW H → Nat
  | .lit (.string bytes) => bytes.length + 1
  | .lit _ => 1
  | .nil => 1
  | .ptr d => uptoBulk d + 1
  | .slice elems spare => uptoBulkAll elems + uptoBulkAll spare + 1
  | .agg parts => uptoBulkAll parts + 1
  | .iface _ d => uptoBulk d + 1
  | .map entries => uptoBulkEntries entries + 1
  | .held _ => 1
def uptoBulkAll {H : Type} : List (DataW H) → Nat
  | [] => 0
  | d :: r => uptoBulk d + uptoBulkAll r
def uptoBulkEntries {H : Type} : List (Lit × DataW H) → Nat
  | [] => 0
  | x :: r => uptoBulkEntry x + uptoBulkEntries r
def uptoBulkEntry {H : Type} : Lit × DataW H → Nat
  | (.string bytes, d) => bytes.length + uptoBulk d + 1
  | (_, d) => uptoBulk d + 1
 end
def uptoSmall : (H : Type) → List (DataW H) → Bool := fun _ ds => decide (uptoBulkAll ds ≤ 1048576)
def OpenSpec.upto (s : _root_.Go.ChangeSpec) : _root_.Go.OpenSpec := { _root_.Go.OpenSpec.ofChange s with cond := some uptoSmall }

/-- 'veneerlaw11.KvCodes', WHERE WHAT IT READS IS OF BULK AT MOST 1048576: true; the input reads as it did. -/
def kvCodesUptoRow : OpenClaim := { program := "ytbkefhoapnaciaagreat", sum := "5e81a7bd1f94895cfef9faa7318e587022e6aad64983f96ce6fa90e00009b920", func := "veneer/veneerlaw11.KvCodes", spec := "kvCodes", inPlace := ["internal/abi.NoEscape", "internal/bytealg.abigen_runtime_cmpstring"], unfollowed := true, recurses := true, apart := false, narrowed := true }
def KvCodesUptoSaid : Prop := kvCodesUptoRow.holds Tryz.pinned (OpenSpec.upto kvCodesSpec)

/-- 'veneerlaw11.KvBack', WHERE WHAT IT READS IS OF BULK AT MOST 1048576: true; the input reads as it did. -/
def kvBackUptoRow : OpenClaim := { program := "ytbkefhoapnaciaagreat", sum := "5e81a7bd1f94895cfef9faa7318e587022e6aad64983f96ce6fa90e00009b920", func := "veneer/veneerlaw11.KvBack", spec := "kvBack", inPlace := ["internal/abi.NoEscape", "internal/bytealg.abigen_runtime_cmpstring"], unfollowed := true, recurses := true, apart := false, narrowed := true }
def KvBackUptoSaid : Prop := kvBackUptoRow.holds Tryz.pinned (OpenSpec.upto kvBackSpec)

/-- 'veneerlaw11.KvRoom', WHERE WHAT IT READS IS OF BULK AT MOST 1048576: true; the input reads as it did. -/
def kvRoomUptoRow : OpenClaim := { program := "ytbkefhoapnaciaagreat", sum := "5e81a7bd1f94895cfef9faa7318e587022e6aad64983f96ce6fa90e00009b920", func := "veneer/veneerlaw11.KvRoom", spec := "kvRoom", inPlace := ["internal/abi.NoEscape", "internal/bytealg.abigen_runtime_cmpstring"], unfollowed := true, recurses := true, apart := false, narrowed := true }
def KvRoomUptoSaid : Prop := kvRoomUptoRow.holds Tryz.pinned (OpenSpec.upto kvRoomSpec)

/-- 'veneerlaw11.KvScans', WHERE WHAT IT READS IS OF BULK AT MOST 1048576: true; the input reads as it did. -/
def kvScansUptoRow : OpenClaim := { program := "ytbkefhoapnaciaagreat", sum := "5e81a7bd1f94895cfef9faa7318e587022e6aad64983f96ce6fa90e00009b920", func := "veneer/veneerlaw11.KvScans", spec := "kvScans", inPlace := ["internal/abi.NoEscape", "internal/bytealg.abigen_runtime_cmpstring"], unfollowed := true, recurses := true, apart := false, narrowed := true }
def KvScansUptoSaid : Prop := kvScansUptoRow.holds Tryz.pinned (OpenSpec.upto kvScansSpec)

/-- 'veneerlaw11.KvNobody', WHERE WHAT IT READS IS OF BULK AT MOST 1048576: true; the input reads as it did. -/
def kvNobodyUptoRow : OpenClaim := { program := "ytbkefhoapnaciaagreat", sum := "5e81a7bd1f94895cfef9faa7318e587022e6aad64983f96ce6fa90e00009b920", func := "veneer/veneerlaw11.KvNobody", spec := "kvNobody", inPlace := ["internal/abi.NoEscape", "internal/bytealg.abigen_runtime_cmpstring"], unfollowed := true, recurses := true, apart := false, narrowed := true }
def KvNobodyUptoSaid : Prop := kvNobodyUptoRow.holds Tryz.pinned (OpenSpec.upto kvNobodySpec)

/-- 'veneerlaw11.KvMap', WHERE WHAT IT READS IS OF BULK AT MOST 1048576: true; the input reads as it did. -/
def kvMapUptoRow : OpenClaim := { program := "ytbkefhoapnaciaagreat", sum := "5e81a7bd1f94895cfef9faa7318e587022e6aad64983f96ce6fa90e00009b920", func := "veneer/veneerlaw11.KvMap", spec := "kvMap", inPlace := ["internal/abi.NoEscape", "internal/bytealg.abigen_runtime_cmpstring"], unfollowed := true, recurses := true, apart := false, narrowed := true }
def KvMapUptoSaid : Prop := kvMapUptoRow.holds Tryz.pinned (OpenSpec.upto kvMapSpec)

/-- 'veneerlaw11.KvLasts', WHERE WHAT IT READS IS OF BULK AT MOST 1048576: true; the input reads as it did. -/
def kvLastsUptoRow : OpenClaim := { program := "ytbkefhoapnaciaagreat", sum := "5e81a7bd1f94895cfef9faa7318e587022e6aad64983f96ce6fa90e00009b920", func := "veneer/veneerlaw11.KvLasts", spec := "kvLasts", inPlace := ["internal/abi.NoEscape", "internal/bytealg.abigen_runtime_cmpstring"], unfollowed := true, recurses := true, apart := false, narrowed := true }
def KvLastsUptoSaid : Prop := kvLastsUptoRow.holds Tryz.pinned (OpenSpec.upto kvLastsSpec)

end Rows
end Go.Proofs.YtbkefhoapnaciaaGreat

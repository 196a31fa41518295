/-
  No cell of these rows narrows 'for every input' (looked for: loops, veiled, ifaces, maps, wideKeys, modest, calm, conditions, laid).
  DERIVED. THE GIVEN ROWS OF THIS SEAT. 6 by the template 'for every input the law returns true; each argument reads behind the call as it read before'; 0 by the template 'total and deterministic' (their statements: YtbjagmlbamjdbaaGreatTotals.lean).
  GIVEN WITH THE SEED: the statements are not yours to turn. If you find one false, say at which input.
  Laid BY PROGRAM, IN A SANDBOX (cutbox-rows.mjs): the forced cells as the released guide's own fill.sh prints them over the translation 33dd839a10ea716b… (all of the seat's roots in one cut). By AI agents, Wed Nov 11 2026. No macro, syntax, notation, axiom, sorry.
-/
import Derived.Test.YtbjagmlbamjdbaaGreatChecked
import GoSem.Claim
import GoSem.ClaimJoined
import GoSem.ClaimMapViews
import Derived.JoinedTies
import Derived.KernelRfl
namespace Go.Proofs.YtbjagmlbamjdbaaGreat
/- THE CELL 'sum', in the pinned program and in every row, IS THE sha256 OF THE DUMP (.gsa) THAT YtbjagmlbamjdbaaGreatProg.lean LOADS. Nothing in Lean hashes anything: it is a label: what it is worth is what the hold of that sum in a sandbox is worth. -/
noncomputable def Tryz.pinned : Pinned := { name := "ytbjagmlbamjdbaagreat", sum := "33dd839a10ea716b2d85a3b390ee0b94bee269d9c0372de86d2311bc70952e95", checked := Tryz.checked }
namespace Rows
def none {H : Type} : Left H := { results := [], args := [] }

/-- 'veneerlaw13.RootChecks': WHATEVER THE INPUT: true; the input reads as it did. -/
def rootChecksSpec : ChangeSpec := { name := "rootChecks", fn := fun _ => fun
  | [d1, d2] => { results := [.lit (.bool true)], args := [d1, d2] }
  | _ => none }
def rootChecksRow : OpenClaim := { program := "ytbjagmlbamjdbaagreat", sum := "33dd839a10ea716b2d85a3b390ee0b94bee269d9c0372de86d2311bc70952e95", func := "veneer/veneerlaw13.RootChecks", spec := "rootChecks", inPlace := ["internal/abi.NoEscape", "internal/bytealg.abigen_runtime_cmpstring"], unfollowed := true, recurses := true, plainKeys := false, apart := false }
def RootChecksSaid : Prop := rootChecksRow.holds Tryz.pinned (OpenSpec.ofChange rootChecksSpec)

/-- ITS FALSE NEIGHBOUR: 'it returns false'. Refute it at one input. -/
def rootChecksWrong : ChangeSpec := { name := "rootChecks", fn := fun _ => fun
  | [d1, d2] => { results := [.lit (.bool false)], args := [d1, d2] }
  | _ => none }
def RootChecksWrongFalsely : Prop := rootChecksRow.holds Tryz.pinned (OpenSpec.ofChange rootChecksWrong)

/-- 'veneerlaw13.RootNobody': WHATEVER THE INPUT: true; the input reads as it did. -/
def rootNobodySpec : ChangeSpec := { name := "rootNobody", fn := fun _ => fun
  | [d1, d2] => { results := [.lit (.bool true)], args := [d1, d2] }
  | _ => none }
def rootNobodyRow : OpenClaim := { program := "ytbjagmlbamjdbaagreat", sum := "33dd839a10ea716b2d85a3b390ee0b94bee269d9c0372de86d2311bc70952e95", func := "veneer/veneerlaw13.RootNobody", spec := "rootNobody", inPlace := ["internal/abi.NoEscape", "internal/bytealg.abigen_runtime_cmpstring"], unfollowed := true, recurses := true, plainKeys := false, apart := false }
def RootNobodySaid : Prop := rootNobodyRow.holds Tryz.pinned (OpenSpec.ofChange rootNobodySpec)

/-- ITS FALSE NEIGHBOUR: 'it returns false'. Refute it at one input. -/
def rootNobodyWrong : ChangeSpec := { name := "rootNobody", fn := fun _ => fun
  | [d1, d2] => { results := [.lit (.bool false)], args := [d1, d2] }
  | _ => none }
def RootNobodyWrongFalsely : Prop := rootNobodyRow.holds Tryz.pinned (OpenSpec.ofChange rootNobodyWrong)

/-- 'veneerlaw13.RootStands': WHATEVER THE INPUT: true; the input reads as it did. -/
def rootStandsSpec : ChangeSpec := { name := "rootStands", fn := fun _ => fun
  | [d] => { results := [.lit (.bool true)], args := [d] }
  | _ => none }
def rootStandsRow : OpenClaim := { program := "ytbjagmlbamjdbaagreat", sum := "33dd839a10ea716b2d85a3b390ee0b94bee269d9c0372de86d2311bc70952e95", func := "veneer/veneerlaw13.RootStands", spec := "rootStands", inPlace := ["internal/abi.NoEscape", "internal/bytealg.abigen_runtime_cmpstring"], unfollowed := true, recurses := true, plainKeys := false, apart := false }
def RootStandsSaid : Prop := rootStandsRow.holds Tryz.pinned (OpenSpec.ofChange rootStandsSpec)

/-- ITS FALSE NEIGHBOUR: 'it returns false'. Refute it at one input. -/
def rootStandsWrong : ChangeSpec := { name := "rootStands", fn := fun _ => fun
  | [d] => { results := [.lit (.bool false)], args := [d] }
  | _ => none }
def RootStandsWrongFalsely : Prop := rootStandsRow.holds Tryz.pinned (OpenSpec.ofChange rootStandsWrong)

/-- 'veneerlaw13.RootOnce': WHATEVER THE INPUT: true; the input reads as it did. -/
def rootOnceSpec : ChangeSpec := { name := "rootOnce", fn := fun _ => fun
  | [d1, d2, d3] => { results := [.lit (.bool true)], args := [d1, d2, d3] }
  | _ => none }
def rootOnceRow : OpenClaim := { program := "ytbjagmlbamjdbaagreat", sum := "33dd839a10ea716b2d85a3b390ee0b94bee269d9c0372de86d2311bc70952e95", func := "veneer/veneerlaw13.RootOnce", spec := "rootOnce", inPlace := ["internal/abi.NoEscape", "internal/bytealg.abigen_runtime_cmpstring"], unfollowed := true, recurses := true, plainKeys := false, apart := false }
def RootOnceSaid : Prop := rootOnceRow.holds Tryz.pinned (OpenSpec.ofChange rootOnceSpec)

/-- ITS FALSE NEIGHBOUR: 'it returns false'. Refute it at one input. -/
def rootOnceWrong : ChangeSpec := { name := "rootOnce", fn := fun _ => fun
  | [d1, d2, d3] => { results := [.lit (.bool false)], args := [d1, d2, d3] }
  | _ => none }
def RootOnceWrongFalsely : Prop := rootOnceRow.holds Tryz.pinned (OpenSpec.ofChange rootOnceWrong)

/-- 'veneerlaw13.RootOpens': WHATEVER THE INPUT: true; the input reads as it did. -/
def rootOpensSpec : ChangeSpec := { name := "rootOpens", fn := fun _ => fun
  | [d] => { results := [.lit (.bool true)], args := [d] }
  | _ => none }
def rootOpensRow : OpenClaim := { program := "ytbjagmlbamjdbaagreat", sum := "33dd839a10ea716b2d85a3b390ee0b94bee269d9c0372de86d2311bc70952e95", func := "veneer/veneerlaw13.RootOpens", spec := "rootOpens", inPlace := ["internal/abi.NoEscape", "internal/bytealg.abigen_runtime_cmpstring"], unfollowed := true, recurses := true, plainKeys := false, apart := false }
def RootOpensSaid : Prop := rootOpensRow.holds Tryz.pinned (OpenSpec.ofChange rootOpensSpec)

/-- ITS FALSE NEIGHBOUR: 'it returns false'. Refute it at one input. -/
def rootOpensWrong : ChangeSpec := { name := "rootOpens", fn := fun _ => fun
  | [d] => { results := [.lit (.bool false)], args := [d] }
  | _ => none }
def RootOpensWrongFalsely : Prop := rootOpensRow.holds Tryz.pinned (OpenSpec.ofChange rootOpensWrong)

/-- 'veneerlaw13.RootLasts': WHATEVER THE INPUT: true; the input reads as it did. -/
def rootLastsSpec : ChangeSpec := { name := "rootLasts", fn := fun _ => fun
  | [d1, d2, d3] => { results := [.lit (.bool true)], args := [d1, d2, d3] }
  | _ => none }
def rootLastsRow : OpenClaim := { program := "ytbjagmlbamjdbaagreat", sum := "33dd839a10ea716b2d85a3b390ee0b94bee269d9c0372de86d2311bc70952e95", func := "veneer/veneerlaw13.RootLasts", spec := "rootLasts", inPlace := ["internal/abi.NoEscape", "internal/bytealg.abigen_runtime_cmpstring"], unfollowed := true, recurses := true, plainKeys := false, apart := false }
def RootLastsSaid : Prop := rootLastsRow.holds Tryz.pinned (OpenSpec.ofChange rootLastsSpec)

/-- ITS FALSE NEIGHBOUR: 'it returns false'. Refute it at one input. -/
def rootLastsWrong : ChangeSpec := { name := "rootLasts", fn := fun _ => fun
  | [d1, d2, d3] => { results := [.lit (.bool false)], args := [d1, d2, d3] }
  | _ => none }
def RootLastsWrongFalsely : Prop := rootLastsRow.holds Tryz.pinned (OpenSpec.ofChange rootLastsWrong)

/- THE SECOND FORM. 'bulk': how many values and letters a reading holds, each counted each time it is reached (what is shared counts as often as it is met; a slice's spare places count too). A statement '..UptoSaid' is the law's where the arguments, and the package variables that the reading takes, are together of bulk at most 1048576: NARROWER than '..Said'. Prove '..Said' where nothing that the law and all that it calls make is longer than what came in: it says more and counts as full. Else prove '..UptoSaid'. A law counts once. -/
mutual
def uptoBulk {H : Type} : DataW H → Nat
  | .lit (.string bytes) => bytes.length + 1
  | .lit _ => 1
  | .nil => 1
  | .ptr d => uptoBulk d + 1
  | .slice elems spare => uptoBulkAll elems + uptoBulkAll spare + 1
  | .agg parts => uptoBulkAll parts + 1
  | .iface _ d => uptoBulk d + 1
  | .map entries => uptoBulkEntries entries + 1
  | .held _ => 1
def uptoBulkAll {H : Type} : List (DataW H) → Nat
  | [] => 0
  | d :: r => uptoBulk d + uptoBulkAll r
def uptoBulkEntries {H : Type} : List (Lit × DataW H) → Nat
  | [] => 0
  | x :: r => uptoBulkEntry x + uptoBulkEntries r
def uptoBulkEntry {H : Type} : Lit × DataW H → Nat
  | (.string bytes, d) => bytes.length + uptoBulk d + 1
  | (_, d) => uptoBulk d + 1
 end
def uptoSmall : (H : Type) → List (DataW H) → Bool := fun _ ds => decide (uptoBulkAll ds ≤ 1048576)
def OpenSpec.upto (s : _root_.Go.ChangeSpec) : _root_.Go.OpenSpec := { _root_.Go.OpenSpec.ofChange s with cond := some uptoSmall }

/-- 'veneerlaw13.RootChecks', WHERE WHAT IT READS IS OF BULK AT MOST 1048576: true; the input reads as it did. -/
def rootChecksUptoRow : OpenClaim := { program := "ytbjagmlbamjdbaagreat", sum := "33dd839a10ea716b2d85a3b390ee0b94bee269d9c0372de86d2311bc70952e95", func := "veneer/veneerlaw13.RootChecks", spec := "rootChecks", inPlace := ["internal/abi.NoEscape", "internal/bytealg.abigen_runtime_cmpstring"], unfollowed := true, recurses := true, plainKeys := false, apart := false, narrowed := true }
def RootChecksUptoSaid : Prop := rootChecksUptoRow.holds Tryz.pinned (OpenSpec.upto rootChecksSpec)

/-- 'veneerlaw13.RootNobody', WHERE WHAT IT READS IS OF BULK AT MOST 1048576: true; the input reads as it did. -/
def rootNobodyUptoRow : OpenClaim := { program := "ytbjagmlbamjdbaagreat", sum := "33dd839a10ea716b2d85a3b390ee0b94bee269d9c0372de86d2311bc70952e95", func := "veneer/veneerlaw13.RootNobody", spec := "rootNobody", inPlace := ["internal/abi.NoEscape", "internal/bytealg.abigen_runtime_cmpstring"], unfollowed := true, recurses := true, plainKeys := false, apart := false, narrowed := true }
def RootNobodyUptoSaid : Prop := rootNobodyUptoRow.holds Tryz.pinned (OpenSpec.upto rootNobodySpec)

/-- 'veneerlaw13.RootStands', WHERE WHAT IT READS IS OF BULK AT MOST 1048576: true; the input reads as it did. -/
def rootStandsUptoRow : OpenClaim := { program := "ytbjagmlbamjdbaagreat", sum := "33dd839a10ea716b2d85a3b390ee0b94bee269d9c0372de86d2311bc70952e95", func := "veneer/veneerlaw13.RootStands", spec := "rootStands", inPlace := ["internal/abi.NoEscape", "internal/bytealg.abigen_runtime_cmpstring"], unfollowed := true, recurses := true, plainKeys := false, apart := false, narrowed := true }
def RootStandsUptoSaid : Prop := rootStandsUptoRow.holds Tryz.pinned (OpenSpec.upto rootStandsSpec)

/-- 'veneerlaw13.RootOnce', WHERE WHAT IT READS IS OF BULK AT MOST 1048576: true; the input reads as it did. -/
def rootOnceUptoRow : OpenClaim := { program := "ytbjagmlbamjdbaagreat", sum := "33dd839a10ea716b2d85a3b390ee0b94bee269d9c0372de86d2311bc70952e95", func := "veneer/veneerlaw13.RootOnce", spec := "rootOnce", inPlace := ["internal/abi.NoEscape", "internal/bytealg.abigen_runtime_cmpstring"], unfollowed := true, recurses := true, plainKeys := false, apart := false, narrowed := true }
def RootOnceUptoSaid : Prop := rootOnceUptoRow.holds Tryz.pinned (OpenSpec.upto rootOnceSpec)

/-- 'veneerlaw13.RootOpens', WHERE WHAT IT READS IS OF BULK AT MOST 1048576: true; the input reads as it did. -/
def rootOpensUptoRow : OpenClaim := { program := "ytbjagmlbamjdbaagreat", sum := "33dd839a10ea716b2d85a3b390ee0b94bee269d9c0372de86d2311bc70952e95", func := "veneer/veneerlaw13.RootOpens", spec := "rootOpens", inPlace := ["internal/abi.NoEscape", "internal/bytealg.abigen_runtime_cmpstring"], unfollowed := true, recurses := true, plainKeys := false, apart := false, narrowed := true }
def RootOpensUptoSaid : Prop := rootOpensUptoRow.holds Tryz.pinned (OpenSpec.upto rootOpensSpec)

/-- 'veneerlaw13.RootLasts', WHERE WHAT IT READS IS OF BULK AT MOST 1048576: true; the input reads as it did. -/
def rootLastsUptoRow : OpenClaim := { program := "ytbjagmlbamjdbaagreat", sum := "33dd839a10ea716b2d85a3b390ee0b94bee269d9c0372de86d2311bc70952e95", func := "veneer/veneerlaw13.RootLasts", spec := "rootLasts", inPlace := ["internal/abi.NoEscape", "internal/bytealg.abigen_runtime_cmpstring"], unfollowed := true, recurses := true, plainKeys := false, apart := false, narrowed := true }
def RootLastsUptoSaid : Prop := rootLastsUptoRow.holds Tryz.pinned (OpenSpec.upto rootLastsSpec)

end Rows
end Go.Proofs.YtbjagmlbamjdbaaGreat

/-
  No cell of these rows narrows 'for every input' (looked for: loops, veiled, ifaces, maps, wideKeys, modest, calm, conditions, laid).
  DERIVED. THE GIVEN ROWS OF THIS SEAT. 12 by the template 'for every input the law returns true; each argument reads behind the call as it read before'; 0 by the template 'total and deterministic' (their statements: YtomceindibnpnaaTotals.lean).
  GIVEN WITH THE SEED: the statements are not yours to turn. If you find one false, say at which input.
  Laid BY PROGRAM, IN A SANDBOX (cutbox-rows.mjs): the forced cells as the released guide's own fill.sh prints them over the translation af5b9a6d0784da54… (all of the seat's roots in one cut). By AI agents, Wed Nov 11 2026. No macro, syntax, notation, axiom, sorry.
-/
import Derived.Test.YtomceindibnpnaaChecked
import GoSem.Claim
import GoSem.ClaimJoined
import GoSem.ClaimMapViews
import Derived.JoinedTies
import Derived.KernelRfl
namespace Go.Proofs.Ytomceindibnpnaa
/- THE CELL 'sum', in the pinned program and in every row, IS THE sha256 OF THE DUMP (.gsa) THAT YtomceindibnpnaaProg.lean LOADS. Nothing in Lean hashes anything: it is a label: what it is worth is what the hold of that sum in a sandbox is worth. -/
noncomputable def Try.pinned : Pinned := { name := "ytomceindibnpnaa", sum := "af5b9a6d0784da54a39ef05479560495b24c8f182c10e002d8c50fecdd8d4d2b", checked := Try.checked }
namespace Rows
def none {H : Type} : Left H := { results := [], args := [] }

/-- 'veneerlaw17.CapsFits': WHATEVER THE INPUT: true; the input reads as it did. -/
def capsFitsSpec : ChangeSpec := { name := "capsFits", fn := fun _ => fun
  | [d1, d2, d3] => { results := [.lit (.bool true)], args := [d1, d2, d3] }
  | _ => none }
def capsFitsRow : OpenClaim := { program := "ytomceindibnpnaa", sum := "af5b9a6d0784da54a39ef05479560495b24c8f182c10e002d8c50fecdd8d4d2b", func := "veneer/veneerlaw17.CapsFits", spec := "capsFits", plainKeys := false, apart := false }
def CapsFitsSaid : Prop := capsFitsRow.holds Try.pinned (OpenSpec.ofChange capsFitsSpec)

/-- ITS FALSE NEIGHBOUR: 'it returns false'. Refute it at one input. -/
def capsFitsWrong : ChangeSpec := { name := "capsFits", fn := fun _ => fun
  | [d1, d2, d3] => { results := [.lit (.bool false)], args := [d1, d2, d3] }
  | _ => none }
def CapsFitsWrongFalsely : Prop := capsFitsRow.holds Try.pinned (OpenSpec.ofChange capsFitsWrong)

/-- 'veneerlaw17.CapsGrants': WHATEVER THE INPUT: true; the input reads as it did. -/
def capsGrantsSpec : ChangeSpec := { name := "capsGrants", fn := fun _ => fun
  | [d] => { results := [.lit (.bool true)], args := [d] }
  | _ => none }
def capsGrantsRow : OpenClaim := { program := "ytomceindibnpnaa", sum := "af5b9a6d0784da54a39ef05479560495b24c8f182c10e002d8c50fecdd8d4d2b", func := "veneer/veneerlaw17.CapsGrants", spec := "capsGrants", plainKeys := false, apart := false }
def CapsGrantsSaid : Prop := capsGrantsRow.holds Try.pinned (OpenSpec.ofChange capsGrantsSpec)

/-- ITS FALSE NEIGHBOUR: 'it returns false'. Refute it at one input. -/
def capsGrantsWrong : ChangeSpec := { name := "capsGrants", fn := fun _ => fun
  | [d] => { results := [.lit (.bool false)], args := [d] }
  | _ => none }
def CapsGrantsWrongFalsely : Prop := capsGrantsRow.holds Try.pinned (OpenSpec.ofChange capsGrantsWrong)

/-- 'veneerlaw17.CapsApart': WHATEVER THE INPUT: true; the input reads as it did. -/
def capsApartSpec : ChangeSpec := { name := "capsApart", fn := fun _ => fun
  | [d1, d2] => { results := [.lit (.bool true)], args := [d1, d2] }
  | _ => none }
def capsApartRow : OpenClaim := { program := "ytomceindibnpnaa", sum := "af5b9a6d0784da54a39ef05479560495b24c8f182c10e002d8c50fecdd8d4d2b", func := "veneer/veneerlaw17.CapsApart", spec := "capsApart", plainKeys := false, apart := false }
def CapsApartSaid : Prop := capsApartRow.holds Try.pinned (OpenSpec.ofChange capsApartSpec)

/-- ITS FALSE NEIGHBOUR: 'it returns false'. Refute it at one input. -/
def capsApartWrong : ChangeSpec := { name := "capsApart", fn := fun _ => fun
  | [d1, d2] => { results := [.lit (.bool false)], args := [d1, d2] }
  | _ => none }
def CapsApartWrongFalsely : Prop := capsApartRow.holds Try.pinned (OpenSpec.ofChange capsApartWrong)

/-- 'veneerlaw17.CapsPlays': WHATEVER THE INPUT: true; the input reads as it did. -/
def capsPlaysSpec : ChangeSpec := { name := "capsPlays", fn := fun _ => fun
  | [d] => { results := [.lit (.bool true)], args := [d] }
  | _ => none }
def capsPlaysRow : OpenClaim := { program := "ytomceindibnpnaa", sum := "af5b9a6d0784da54a39ef05479560495b24c8f182c10e002d8c50fecdd8d4d2b", func := "veneer/veneerlaw17.CapsPlays", spec := "capsPlays", inPlace := ["maps.clone"], plainKeys := false, apart := false }
def CapsPlaysSaid : Prop := capsPlaysRow.holds Try.pinned (OpenSpec.ofChange capsPlaysSpec)

/-- ITS FALSE NEIGHBOUR: 'it returns false'. Refute it at one input. -/
def capsPlaysWrong : ChangeSpec := { name := "capsPlays", fn := fun _ => fun
  | [d] => { results := [.lit (.bool false)], args := [d] }
  | _ => none }
def CapsPlaysWrongFalsely : Prop := capsPlaysRow.holds Try.pinned (OpenSpec.ofChange capsPlaysWrong)

/-- 'veneerlaw17.CapsNobody': WHATEVER THE INPUT: true; the input reads as it did. -/
def capsNobodySpec : ChangeSpec := { name := "capsNobody", fn := fun _ => fun
  | [d] => { results := [.lit (.bool true)], args := [d] }
  | _ => none }
def capsNobodyRow : OpenClaim := { program := "ytomceindibnpnaa", sum := "af5b9a6d0784da54a39ef05479560495b24c8f182c10e002d8c50fecdd8d4d2b", func := "veneer/veneerlaw17.CapsNobody", spec := "capsNobody", inPlace := ["maps.clone"], plainKeys := false, apart := false }
def CapsNobodySaid : Prop := capsNobodyRow.holds Try.pinned (OpenSpec.ofChange capsNobodySpec)

/-- ITS FALSE NEIGHBOUR: 'it returns false'. Refute it at one input. -/
def capsNobodyWrong : ChangeSpec := { name := "capsNobody", fn := fun _ => fun
  | [d] => { results := [.lit (.bool false)], args := [d] }
  | _ => none }
def CapsNobodyWrongFalsely : Prop := capsNobodyRow.holds Try.pinned (OpenSpec.ofChange capsNobodyWrong)

/-- 'veneerlaw09.DiskFlushed': WHATEVER THE INPUT: true; the input reads as it did. -/
def diskFlushedSpec : ChangeSpec := { name := "diskFlushed", fn := fun _ => fun
  | [d1, d2, d3] => { results := [.lit (.bool true)], args := [d1, d2, d3] }
  | _ => none }
def diskFlushedRow : OpenClaim := { program := "ytomceindibnpnaa", sum := "af5b9a6d0784da54a39ef05479560495b24c8f182c10e002d8c50fecdd8d4d2b", func := "veneer/veneerlaw09.DiskFlushed", spec := "diskFlushed", unfollowed := true, recurses := true, plainKeys := false, apart := false }
def DiskFlushedSaid : Prop := diskFlushedRow.holds Try.pinned (OpenSpec.ofChange diskFlushedSpec)

/-- ITS FALSE NEIGHBOUR: 'it returns false'. Refute it at one input. -/
def diskFlushedWrong : ChangeSpec := { name := "diskFlushed", fn := fun _ => fun
  | [d1, d2, d3] => { results := [.lit (.bool false)], args := [d1, d2, d3] }
  | _ => none }
def DiskFlushedWrongFalsely : Prop := diskFlushedRow.holds Try.pinned (OpenSpec.ofChange diskFlushedWrong)

/-- 'veneerlaw09.DiskKeeps': WHATEVER THE INPUT: true; the input reads as it did. -/
def diskKeepsSpec : ChangeSpec := { name := "diskKeeps", fn := fun _ => fun
  | [d1, d2] => { results := [.lit (.bool true)], args := [d1, d2] }
  | _ => none }
def diskKeepsRow : OpenClaim := { program := "ytomceindibnpnaa", sum := "af5b9a6d0784da54a39ef05479560495b24c8f182c10e002d8c50fecdd8d4d2b", func := "veneer/veneerlaw09.DiskKeeps", spec := "diskKeeps", unfollowed := true, recurses := true, plainKeys := false, apart := false }
def DiskKeepsSaid : Prop := diskKeepsRow.holds Try.pinned (OpenSpec.ofChange diskKeepsSpec)

/-- ITS FALSE NEIGHBOUR: 'it returns false'. Refute it at one input. -/
def diskKeepsWrong : ChangeSpec := { name := "diskKeeps", fn := fun _ => fun
  | [d1, d2] => { results := [.lit (.bool false)], args := [d1, d2] }
  | _ => none }
def DiskKeepsWrongFalsely : Prop := diskKeepsRow.holds Try.pinned (OpenSpec.ofChange diskKeepsWrong)

/-- 'veneerlaw09.DiskFuses': WHATEVER THE INPUT: true; the input reads as it did. -/
def diskFusesSpec : ChangeSpec := { name := "diskFuses", fn := fun _ => fun
  | [d1, d2, d3] => { results := [.lit (.bool true)], args := [d1, d2, d3] }
  | _ => none }
def diskFusesRow : OpenClaim := { program := "ytomceindibnpnaa", sum := "af5b9a6d0784da54a39ef05479560495b24c8f182c10e002d8c50fecdd8d4d2b", func := "veneer/veneerlaw09.DiskFuses", spec := "diskFuses", unfollowed := true, recurses := true, plainKeys := false, apart := false }
def DiskFusesSaid : Prop := diskFusesRow.holds Try.pinned (OpenSpec.ofChange diskFusesSpec)

/-- ITS FALSE NEIGHBOUR: 'it returns false'. Refute it at one input. -/
def diskFusesWrong : ChangeSpec := { name := "diskFuses", fn := fun _ => fun
  | [d1, d2, d3] => { results := [.lit (.bool false)], args := [d1, d2, d3] }
  | _ => none }
def DiskFusesWrongFalsely : Prop := diskFusesRow.holds Try.pinned (OpenSpec.ofChange diskFusesWrong)

/-- 'veneerlaw09.DiskTwins': WHATEVER THE INPUT: true; the input reads as it did. -/
def diskTwinsSpec : ChangeSpec := { name := "diskTwins", fn := fun _ => fun
  | [d1, d2] => { results := [.lit (.bool true)], args := [d1, d2] }
  | _ => none }
def diskTwinsRow : OpenClaim := { program := "ytomceindibnpnaa", sum := "af5b9a6d0784da54a39ef05479560495b24c8f182c10e002d8c50fecdd8d4d2b", func := "veneer/veneerlaw09.DiskTwins", spec := "diskTwins", unfollowed := true, recurses := true, plainKeys := false, apart := false }
def DiskTwinsSaid : Prop := diskTwinsRow.holds Try.pinned (OpenSpec.ofChange diskTwinsSpec)

/-- ITS FALSE NEIGHBOUR: 'it returns false'. Refute it at one input. -/
def diskTwinsWrong : ChangeSpec := { name := "diskTwins", fn := fun _ => fun
  | [d1, d2] => { results := [.lit (.bool false)], args := [d1, d2] }
  | _ => none }
def DiskTwinsWrongFalsely : Prop := diskTwinsRow.holds Try.pinned (OpenSpec.ofChange diskTwinsWrong)

/-- 'veneerlaw09.DiskOf': WHATEVER THE INPUT: true; the input reads as it did. -/
def diskOfSpec : ChangeSpec := { name := "diskOf", fn := fun _ => fun
  | [d1, d2] => { results := [.lit (.bool true)], args := [d1, d2] }
  | _ => none }
def diskOfRow : OpenClaim := { program := "ytomceindibnpnaa", sum := "af5b9a6d0784da54a39ef05479560495b24c8f182c10e002d8c50fecdd8d4d2b", func := "veneer/veneerlaw09.DiskOf", spec := "diskOf", unfollowed := true, recurses := true, plainKeys := false, apart := false }
def DiskOfSaid : Prop := diskOfRow.holds Try.pinned (OpenSpec.ofChange diskOfSpec)

/-- ITS FALSE NEIGHBOUR: 'it returns false'. Refute it at one input. -/
def diskOfWrong : ChangeSpec := { name := "diskOf", fn := fun _ => fun
  | [d1, d2] => { results := [.lit (.bool false)], args := [d1, d2] }
  | _ => none }
def DiskOfWrongFalsely : Prop := diskOfRow.holds Try.pinned (OpenSpec.ofChange diskOfWrong)

/-- 'veneerlaw09.DiskNobody': WHATEVER THE INPUT: true; the input reads as it did. -/
def diskNobodySpec : ChangeSpec := { name := "diskNobody", fn := fun _ => fun
  | [d] => { results := [.lit (.bool true)], args := [d] }
  | _ => none }
def diskNobodyRow : OpenClaim := { program := "ytomceindibnpnaa", sum := "af5b9a6d0784da54a39ef05479560495b24c8f182c10e002d8c50fecdd8d4d2b", func := "veneer/veneerlaw09.DiskNobody", spec := "diskNobody", unfollowed := true, recurses := true, plainKeys := false, apart := false }
def DiskNobodySaid : Prop := diskNobodyRow.holds Try.pinned (OpenSpec.ofChange diskNobodySpec)

/-- ITS FALSE NEIGHBOUR: 'it returns false'. Refute it at one input. -/
def diskNobodyWrong : ChangeSpec := { name := "diskNobody", fn := fun _ => fun
  | [d] => { results := [.lit (.bool false)], args := [d] }
  | _ => none }
def DiskNobodyWrongFalsely : Prop := diskNobodyRow.holds Try.pinned (OpenSpec.ofChange diskNobodyWrong)

/-- 'veneerlaw09.DiskPlays': WHATEVER THE INPUT: true; the input reads as it did. -/
def diskPlaysSpec : ChangeSpec := { name := "diskPlays", fn := fun _ => fun
  | [d1, d2] => { results := [.lit (.bool true)], args := [d1, d2] }
  | _ => none }
def diskPlaysRow : OpenClaim := { program := "ytomceindibnpnaa", sum := "af5b9a6d0784da54a39ef05479560495b24c8f182c10e002d8c50fecdd8d4d2b", func := "veneer/veneerlaw09.DiskPlays", spec := "diskPlays", unfollowed := true, recurses := true, plainKeys := false, apart := false }
def DiskPlaysSaid : Prop := diskPlaysRow.holds Try.pinned (OpenSpec.ofChange diskPlaysSpec)

/-- ITS FALSE NEIGHBOUR: 'it returns false'. Refute it at one input. -/
def diskPlaysWrong : ChangeSpec := { name := "diskPlays", fn := fun _ => fun
  | [d1, d2] => { results := [.lit (.bool false)], args := [d1, d2] }
  | _ => none }
def DiskPlaysWrongFalsely : Prop := diskPlaysRow.holds Try.pinned (OpenSpec.ofChange diskPlaysWrong)

/- THE SECOND FORM. 'bulk': how many values and letters a reading holds, each counted each time it is reached (what is shared counts as often as it is met; a slice's spare places count too). A statement '..UptoSaid' is the law's where the arguments, and the package variables that the reading takes, are together of bulk at most 1048576: NARROWER than '..Said'. Prove '..Said' where nothing that the law and all that it calls make is longer than what came in: it says more and counts as full. Else prove '..UptoSaid'. A law counts once. -/
mutual
def uptoBulk {H : Type} : DataW H → Nat
  | .lit (.string bytes) => bytes.length + 1
  | .lit _ => 1
  | .nil => 1
  | .ptr d => uptoBulk d + 1
  | .slice elems spare => uptoBulkAll elems + uptoBulkAll spare + 1
  | .agg parts => uptoBulkAll parts + 1
  | .iface _ d => uptoBulk d + 1
  | .map entries => uptoBulkEntries entries + 1
  | .held _ => 1
def uptoBulkAll {H : Type} : List (DataW H) → Nat
  | [] => 0
  | d :: r => uptoBulk d + uptoBulkAll r
def uptoBulkEntries {H : Type} : List (Lit × DataW H) → Nat
  | [] => 0
  | x :: r => uptoBulkEntry x + uptoBulkEntries r
def uptoBulkEntry {H : Type} : Lit × DataW H → Nat
  | (.string bytes, d) => bytes.length + uptoBulk d + 1
  | (_, d) => uptoBulk d + 1
 end
def uptoSmall : (H : Type) → List (DataW H) → Bool := fun _ ds => decide (uptoBulkAll ds ≤ 1048576)
def OpenSpec.upto (s : _root_.Go.ChangeSpec) : _root_.Go.OpenSpec := { _root_.Go.OpenSpec.ofChange s with cond := some uptoSmall }

/-- 'veneerlaw17.CapsFits', WHERE WHAT IT READS IS OF BULK AT MOST 1048576: true; the input reads as it did. -/
def capsFitsUptoRow : OpenClaim := { program := "ytomceindibnpnaa", sum := "af5b9a6d0784da54a39ef05479560495b24c8f182c10e002d8c50fecdd8d4d2b", func := "veneer/veneerlaw17.CapsFits", spec := "capsFits", plainKeys := false, apart := false, narrowed := true }
def CapsFitsUptoSaid : Prop := capsFitsUptoRow.holds Try.pinned (OpenSpec.upto capsFitsSpec)

/-- 'veneerlaw17.CapsGrants', WHERE WHAT IT READS IS OF BULK AT MOST 1048576: true; the input reads as it did. -/
def capsGrantsUptoRow : OpenClaim := { program := "ytomceindibnpnaa", sum := "af5b9a6d0784da54a39ef05479560495b24c8f182c10e002d8c50fecdd8d4d2b", func := "veneer/veneerlaw17.CapsGrants", spec := "capsGrants", plainKeys := false, apart := false, narrowed := true }
def CapsGrantsUptoSaid : Prop := capsGrantsUptoRow.holds Try.pinned (OpenSpec.upto capsGrantsSpec)

/-- 'veneerlaw17.CapsApart', WHERE WHAT IT READS IS OF BULK AT MOST 1048576: true; the input reads as it did. -/
def capsApartUptoRow : OpenClaim := { program := "ytomceindibnpnaa", sum := "af5b9a6d0784da54a39ef05479560495b24c8f182c10e002d8c50fecdd8d4d2b", func := "veneer/veneerlaw17.CapsApart", spec := "capsApart", plainKeys := false, apart := false, narrowed := true }
def CapsApartUptoSaid : Prop := capsApartUptoRow.holds Try.pinned (OpenSpec.upto capsApartSpec)

/-- 'veneerlaw17.CapsPlays', WHERE WHAT IT READS IS OF BULK AT MOST 1048576: true; the input reads as it did. -/
def capsPlaysUptoRow : OpenClaim := { program := "ytomceindibnpnaa", sum := "af5b9a6d0784da54a39ef05479560495b24c8f182c10e002d8c50fecdd8d4d2b", func := "veneer/veneerlaw17.CapsPlays", spec := "capsPlays", inPlace := ["maps.clone"], plainKeys := false, apart := false, narrowed := true }
def CapsPlaysUptoSaid : Prop := capsPlaysUptoRow.holds Try.pinned (OpenSpec.upto capsPlaysSpec)

/-- 'veneerlaw17.CapsNobody', WHERE WHAT IT READS IS OF BULK AT MOST 1048576: true; the input reads as it did. -/
def capsNobodyUptoRow : OpenClaim := { program := "ytomceindibnpnaa", sum := "af5b9a6d0784da54a39ef05479560495b24c8f182c10e002d8c50fecdd8d4d2b", func := "veneer/veneerlaw17.CapsNobody", spec := "capsNobody", inPlace := ["maps.clone"], plainKeys := false, apart := false, narrowed := true }
def CapsNobodyUptoSaid : Prop := capsNobodyUptoRow.holds Try.pinned (OpenSpec.upto capsNobodySpec)

/-- 'veneerlaw09.DiskFlushed', WHERE WHAT IT READS IS OF BULK AT MOST 1048576: true; the input reads as it did. -/
def diskFlushedUptoRow : OpenClaim := { program := "ytomceindibnpnaa", sum := "af5b9a6d0784da54a39ef05479560495b24c8f182c10e002d8c50fecdd8d4d2b", func := "veneer/veneerlaw09.DiskFlushed", spec := "diskFlushed", unfollowed := true, recurses := true, plainKeys := false, apart := false, narrowed := true }
def DiskFlushedUptoSaid : Prop := diskFlushedUptoRow.holds Try.pinned (OpenSpec.upto diskFlushedSpec)

/-- 'veneerlaw09.DiskKeeps', WHERE WHAT IT READS IS OF BULK AT MOST 1048576: true; the input reads as it did. -/
def diskKeepsUptoRow : OpenClaim := { program := "ytomceindibnpnaa", sum := "af5b9a6d0784da54a39ef05479560495b24c8f182c10e002d8c50fecdd8d4d2b", func := "veneer/veneerlaw09.DiskKeeps", spec := "diskKeeps", unfollowed := true, recurses := true, plainKeys := false, apart := false, narrowed := true }
def DiskKeepsUptoSaid : Prop := diskKeepsUptoRow.holds Try.pinned (OpenSpec.upto diskKeepsSpec)

/-- 'veneerlaw09.DiskFuses', WHERE WHAT IT READS IS OF BULK AT MOST 1048576: true; the input reads as it did. -/
def diskFusesUptoRow : OpenClaim := { program := "ytomceindibnpnaa", sum := "af5b9a6d0784da54a39ef05479560495b24c8f182c10e002d8c50fecdd8d4d2b", func := "veneer/veneerlaw09.DiskFuses", spec := "diskFuses", unfollowed := true, recurses := true, plainKeys := false, apart := false, narrowed := true }
def DiskFusesUptoSaid : Prop := diskFusesUptoRow.holds Try.pinned (OpenSpec.upto diskFusesSpec)

/-- 'veneerlaw09.DiskTwins', WHERE WHAT IT READS IS OF BULK AT MOST 1048576: true; the input reads as it did. -/
def diskTwinsUptoRow : OpenClaim := { program := "ytomceindibnpnaa", sum := "af5b9a6d0784da54a39ef05479560495b24c8f182c10e002d8c50fecdd8d4d2b", func := "veneer/veneerlaw09.DiskTwins", spec := "diskTwins", unfollowed := true, recurses := true, plainKeys := false, apart := false, narrowed := true }
def DiskTwinsUptoSaid : Prop := diskTwinsUptoRow.holds Try.pinned (OpenSpec.upto diskTwinsSpec)

/-- 'veneerlaw09.DiskOf', WHERE WHAT IT READS IS OF BULK AT MOST 1048576: true; the input reads as it did. -/
def diskOfUptoRow : OpenClaim := { program := "ytomceindibnpnaa", sum := "af5b9a6d0784da54a39ef05479560495b24c8f182c10e002d8c50fecdd8d4d2b", func := "veneer/veneerlaw09.DiskOf", spec := "diskOf", unfollowed := true, recurses := true, plainKeys := false, apart := false, narrowed := true }
def DiskOfUptoSaid : Prop := diskOfUptoRow.holds Try.pinned (OpenSpec.upto diskOfSpec)

/-- 'veneerlaw09.DiskNobody', WHERE WHAT IT READS IS OF BULK AT MOST 1048576: true; the input reads as it did. -/
def diskNobodyUptoRow : OpenClaim := { program := "ytomceindibnpnaa", sum := "af5b9a6d0784da54a39ef05479560495b24c8f182c10e002d8c50fecdd8d4d2b", func := "veneer/veneerlaw09.DiskNobody", spec := "diskNobody", unfollowed := true, recurses := true, plainKeys := false, apart := false, narrowed := true }
def DiskNobodyUptoSaid : Prop := diskNobodyUptoRow.holds Try.pinned (OpenSpec.upto diskNobodySpec)

/-- 'veneerlaw09.DiskPlays', WHERE WHAT IT READS IS OF BULK AT MOST 1048576: true; the input reads as it did. -/
def diskPlaysUptoRow : OpenClaim := { program := "ytomceindibnpnaa", sum := "af5b9a6d0784da54a39ef05479560495b24c8f182c10e002d8c50fecdd8d4d2b", func := "veneer/veneerlaw09.DiskPlays", spec := "diskPlays", unfollowed := true, recurses := true, plainKeys := false, apart := false, narrowed := true }
def DiskPlaysUptoSaid : Prop := diskPlaysUptoRow.holds Try.pinned (OpenSpec.upto diskPlaysSpec)

end Rows
end Go.Proofs.Ytomceindibnpnaa

/-
  No cell of these rows narrows 'for every input' (looked for: loops, veiled, ifaces, maps, wideKeys, modest, calm, conditions, laid).
  DERIVED. THE GIVEN ROWS OF THIS SEAT. 7 by the template 'for every input the law returns true; each argument reads behind the call as it read before'; 0 by the template 'total and deterministic' (their statements: YtogjjkbgagedpaaTotals.lean).
  GIVEN WITH THE SEED: the statements are not yours to turn. If you find one false, say at which input.
  Laid BY PROGRAM, IN A SANDBOX (cutbox-rows.mjs): the forced cells as the released guide's own fill.sh prints them over the translation 222b71baf3acf7b2… (all of the seat's roots in one cut). By AI agents, Wed Nov 11 2026. No macro, syntax, notation, axiom, sorry.
-/
import Derived.Test.YtogjjkbgagedpaaChecked
import GoSem.Claim
import GoSem.ClaimJoined
import GoSem.ClaimMapViews
import Derived.JoinedTies
import Derived.KernelRfl
namespace Go.Proofs.Ytogjjkbgagedpaa
/- THE CELL 'sum', in the pinned program and in every row, IS THE sha256 OF THE DUMP (.gsa) THAT YtogjjkbgagedpaaProg.lean LOADS. Nothing in Lean hashes anything: it is a label: what it is worth is what the hold of that sum in a sandbox is worth. -/
noncomputable def Try.pinned : Pinned := { name := "ytogjjkbgagedpaa", sum := "222b71baf3acf7b292f2a071c502d1f25f45b21c55ea6561ebc21fa904917037", checked := Try.checked }
namespace Rows
def none {H : Type} : Left H := { results := [], args := [] }

/-- 'veneerlaw15.CoordPresumes': WHATEVER THE INPUT: true; the input reads as it did. -/
def coordPresumesSpec : ChangeSpec := { name := "coordPresumes", fn := fun _ => fun
  | [d1, d2] => { results := [.lit (.bool true)], args := [d1, d2] }
  | _ => none }
def coordPresumesRow : OpenClaim := { program := "ytogjjkbgagedpaa", sum := "222b71baf3acf7b292f2a071c502d1f25f45b21c55ea6561ebc21fa904917037", func := "veneer/veneerlaw15.CoordPresumes", spec := "coordPresumes", unfollowed := true, recurses := true, plainKeys := false, apart := false }
def CoordPresumesSaid : Prop := coordPresumesRow.holds Try.pinned (OpenSpec.ofChange coordPresumesSpec)

/-- ITS FALSE NEIGHBOUR: 'it returns false'. Refute it at one input. -/
def coordPresumesWrong : ChangeSpec := { name := "coordPresumes", fn := fun _ => fun
  | [d1, d2] => { results := [.lit (.bool false)], args := [d1, d2] }
  | _ => none }
def CoordPresumesWrongFalsely : Prop := coordPresumesRow.holds Try.pinned (OpenSpec.ofChange coordPresumesWrong)

/-- 'veneerlaw15.CoordAll': WHATEVER THE INPUT: true; the input reads as it did. -/
def coordAllSpec : ChangeSpec := { name := "coordAll", fn := fun _ => fun
  | [d1, d2, d3] => { results := [.lit (.bool true)], args := [d1, d2, d3] }
  | _ => none }
def coordAllRow : OpenClaim := { program := "ytogjjkbgagedpaa", sum := "222b71baf3acf7b292f2a071c502d1f25f45b21c55ea6561ebc21fa904917037", func := "veneer/veneerlaw15.CoordAll", spec := "coordAll", unfollowed := true, recurses := true, plainKeys := false, apart := false }
def CoordAllSaid : Prop := coordAllRow.holds Try.pinned (OpenSpec.ofChange coordAllSpec)

/-- ITS FALSE NEIGHBOUR: 'it returns false'. Refute it at one input. -/
def coordAllWrong : ChangeSpec := { name := "coordAll", fn := fun _ => fun
  | [d1, d2, d3] => { results := [.lit (.bool false)], args := [d1, d2, d3] }
  | _ => none }
def CoordAllWrongFalsely : Prop := coordAllRow.holds Try.pinned (OpenSpec.ofChange coordAllWrong)

/-- 'veneerlaw15.CoordTicks': WHATEVER THE INPUT: true; the input reads as it did. -/
def coordTicksSpec : ChangeSpec := { name := "coordTicks", fn := fun _ => fun
  | [d1, d2, d3] => { results := [.lit (.bool true)], args := [d1, d2, d3] }
  | _ => none }
def coordTicksRow : OpenClaim := { program := "ytogjjkbgagedpaa", sum := "222b71baf3acf7b292f2a071c502d1f25f45b21c55ea6561ebc21fa904917037", func := "veneer/veneerlaw15.CoordTicks", spec := "coordTicks", unfollowed := true, recurses := true, plainKeys := false, apart := false }
def CoordTicksSaid : Prop := coordTicksRow.holds Try.pinned (OpenSpec.ofChange coordTicksSpec)

/-- ITS FALSE NEIGHBOUR: 'it returns false'. Refute it at one input. -/
def coordTicksWrong : ChangeSpec := { name := "coordTicks", fn := fun _ => fun
  | [d1, d2, d3] => { results := [.lit (.bool false)], args := [d1, d2, d3] }
  | _ => none }
def CoordTicksWrongFalsely : Prop := coordTicksRow.holds Try.pinned (OpenSpec.ofChange coordTicksWrong)

/-- 'veneerlaw15.CoordCloses': WHATEVER THE INPUT: true; the input reads as it did. -/
def coordClosesSpec : ChangeSpec := { name := "coordCloses", fn := fun _ => fun
  | [d1, d2] => { results := [.lit (.bool true)], args := [d1, d2] }
  | _ => none }
def coordClosesRow : OpenClaim := { program := "ytogjjkbgagedpaa", sum := "222b71baf3acf7b292f2a071c502d1f25f45b21c55ea6561ebc21fa904917037", func := "veneer/veneerlaw15.CoordCloses", spec := "coordCloses", unfollowed := true, recurses := true, plainKeys := false, apart := false }
def CoordClosesSaid : Prop := coordClosesRow.holds Try.pinned (OpenSpec.ofChange coordClosesSpec)

/-- ITS FALSE NEIGHBOUR: 'it returns false'. Refute it at one input. -/
def coordClosesWrong : ChangeSpec := { name := "coordCloses", fn := fun _ => fun
  | [d1, d2] => { results := [.lit (.bool false)], args := [d1, d2] }
  | _ => none }
def CoordClosesWrongFalsely : Prop := coordClosesRow.holds Try.pinned (OpenSpec.ofChange coordClosesWrong)

/-- 'veneerlaw15.CoordTwice': WHATEVER THE INPUT: true; the input reads as it did. -/
def coordTwiceSpec : ChangeSpec := { name := "coordTwice", fn := fun _ => fun
  | [d1, d2, d3] => { results := [.lit (.bool true)], args := [d1, d2, d3] }
  | _ => none }
def coordTwiceRow : OpenClaim := { program := "ytogjjkbgagedpaa", sum := "222b71baf3acf7b292f2a071c502d1f25f45b21c55ea6561ebc21fa904917037", func := "veneer/veneerlaw15.CoordTwice", spec := "coordTwice", unfollowed := true, recurses := true, plainKeys := false, apart := false }
def CoordTwiceSaid : Prop := coordTwiceRow.holds Try.pinned (OpenSpec.ofChange coordTwiceSpec)

/-- ITS FALSE NEIGHBOUR: 'it returns false'. Refute it at one input. -/
def coordTwiceWrong : ChangeSpec := { name := "coordTwice", fn := fun _ => fun
  | [d1, d2, d3] => { results := [.lit (.bool false)], args := [d1, d2, d3] }
  | _ => none }
def CoordTwiceWrongFalsely : Prop := coordTwiceRow.holds Try.pinned (OpenSpec.ofChange coordTwiceWrong)

/-- 'veneerlaw15.CoordPlays': WHATEVER THE INPUT: true; the input reads as it did. -/
def coordPlaysSpec : ChangeSpec := { name := "coordPlays", fn := fun _ => fun
  | [d1, d2] => { results := [.lit (.bool true)], args := [d1, d2] }
  | _ => none }
def coordPlaysRow : OpenClaim := { program := "ytogjjkbgagedpaa", sum := "222b71baf3acf7b292f2a071c502d1f25f45b21c55ea6561ebc21fa904917037", func := "veneer/veneerlaw15.CoordPlays", spec := "coordPlays", unfollowed := true, recurses := true, plainKeys := false, apart := false }
def CoordPlaysSaid : Prop := coordPlaysRow.holds Try.pinned (OpenSpec.ofChange coordPlaysSpec)

/-- ITS FALSE NEIGHBOUR: 'it returns false'. Refute it at one input. -/
def coordPlaysWrong : ChangeSpec := { name := "coordPlays", fn := fun _ => fun
  | [d1, d2] => { results := [.lit (.bool false)], args := [d1, d2] }
  | _ => none }
def CoordPlaysWrongFalsely : Prop := coordPlaysRow.holds Try.pinned (OpenSpec.ofChange coordPlaysWrong)

/-- 'veneerlaw15.CoordNobody': WHATEVER THE INPUT: true; the input reads as it did. -/
def coordNobodySpec : ChangeSpec := { name := "coordNobody", fn := fun _ => fun
  | [d] => { results := [.lit (.bool true)], args := [d] }
  | _ => none }
def coordNobodyRow : OpenClaim := { program := "ytogjjkbgagedpaa", sum := "222b71baf3acf7b292f2a071c502d1f25f45b21c55ea6561ebc21fa904917037", func := "veneer/veneerlaw15.CoordNobody", spec := "coordNobody", unfollowed := true, recurses := true, plainKeys := false, apart := false }
def CoordNobodySaid : Prop := coordNobodyRow.holds Try.pinned (OpenSpec.ofChange coordNobodySpec)

/-- ITS FALSE NEIGHBOUR: 'it returns false'. Refute it at one input. -/
def coordNobodyWrong : ChangeSpec := { name := "coordNobody", fn := fun _ => fun
  | [d] => { results := [.lit (.bool false)], args := [d] }
  | _ => none }
def CoordNobodyWrongFalsely : Prop := coordNobodyRow.holds Try.pinned (OpenSpec.ofChange coordNobodyWrong)

/- THE SECOND FORM. 'bulk': how many values and letters a reading holds, each counted each time it is reached (what is shared counts as often as it is met; a slice's spare places count too). A statement '..UptoSaid' is the law's where the arguments, and the package variables that the reading takes, are together of bulk at most 1048576: NARROWER than '..Said'. Prove '..Said' where nothing that the law and all that it calls make is longer than what came in: it says more and counts as full. Else prove '..UptoSaid'. A law counts once. -/
mutual
def uptoBulk {H : Type} : DataW H → Nat
  | .lit (.string bytes) => bytes.length + 1
  | .lit _ => 1
  | .nil => 1
  | .ptr d => uptoBulk d + 1
  | .slice elems spare => uptoBulkAll elems + uptoBulkAll spare + 1
  | .agg parts => uptoBulkAll parts + 1
  | .iface _ d => uptoBulk d + 1
  | .map entries => uptoBulkEntries entries + 1
  | .held _ => 1
def uptoBulkAll {H : Type} : List (DataW H) → Nat
  | [] => 0
  | d :: r => uptoBulk d + uptoBulkAll r
def uptoBulkEntries {H : Type} : List (Lit × DataW H) → Nat
  | [] => 0
  | x :: r => uptoBulkEntry x + uptoBulkEntries r
def uptoBulkEntry {H : Type} : Lit × DataW H → Nat
  | (.string bytes, d) => bytes.length + uptoBulk d + 1
  | (_, d) => uptoBulk d + 1
 end
def uptoSmall : (H : Type) → List (DataW H) → Bool := fun _ ds => decide (uptoBulkAll ds ≤ 1048576)
def OpenSpec.upto (s : _root_.Go.ChangeSpec) : _root_.Go.OpenSpec := { _root_.Go.OpenSpec.ofChange s with cond := some uptoSmall }

/-- 'veneerlaw15.CoordPresumes', WHERE WHAT IT READS IS OF BULK AT MOST 1048576: true; the input reads as it did. -/
def coordPresumesUptoRow : OpenClaim := { program := "ytogjjkbgagedpaa", sum := "222b71baf3acf7b292f2a071c502d1f25f45b21c55ea6561ebc21fa904917037", func := "veneer/veneerlaw15.CoordPresumes", spec := "coordPresumes", unfollowed := true, recurses := true, plainKeys := false, apart := false, narrowed := true }
def CoordPresumesUptoSaid : Prop := coordPresumesUptoRow.holds Try.pinned (OpenSpec.upto coordPresumesSpec)

/-- 'veneerlaw15.CoordAll', WHERE WHAT IT READS IS OF BULK AT MOST 1048576: true; the input reads as it did. -/
def coordAllUptoRow : OpenClaim := { program := "ytogjjkbgagedpaa", sum := "222b71baf3acf7b292f2a071c502d1f25f45b21c55ea6561ebc21fa904917037", func := "veneer/veneerlaw15.CoordAll", spec := "coordAll", unfollowed := true, recurses := true, plainKeys := false, apart := false, narrowed := true }
def CoordAllUptoSaid : Prop := coordAllUptoRow.holds Try.pinned (OpenSpec.upto coordAllSpec)

/-- 'veneerlaw15.CoordTicks', WHERE WHAT IT READS IS OF BULK AT MOST 1048576: true; the input reads as it did. -/
def coordTicksUptoRow : OpenClaim := { program := "ytogjjkbgagedpaa", sum := "222b71baf3acf7b292f2a071c502d1f25f45b21c55ea6561ebc21fa904917037", func := "veneer/veneerlaw15.CoordTicks", spec := "coordTicks", unfollowed := true, recurses := true, plainKeys := false, apart := false, narrowed := true }
def CoordTicksUptoSaid : Prop := coordTicksUptoRow.holds Try.pinned (OpenSpec.upto coordTicksSpec)

/-- 'veneerlaw15.CoordCloses', WHERE WHAT IT READS IS OF BULK AT MOST 1048576: true; the input reads as it did. -/
def coordClosesUptoRow : OpenClaim := { program := "ytogjjkbgagedpaa", sum := "222b71baf3acf7b292f2a071c502d1f25f45b21c55ea6561ebc21fa904917037", func := "veneer/veneerlaw15.CoordCloses", spec := "coordCloses", unfollowed := true, recurses := true, plainKeys := false, apart := false, narrowed := true }
def CoordClosesUptoSaid : Prop := coordClosesUptoRow.holds Try.pinned (OpenSpec.upto coordClosesSpec)

/-- 'veneerlaw15.CoordTwice', WHERE WHAT IT READS IS OF BULK AT MOST 1048576: true; the input reads as it did. -/
def coordTwiceUptoRow : OpenClaim := { program := "ytogjjkbgagedpaa", sum := "222b71baf3acf7b292f2a071c502d1f25f45b21c55ea6561ebc21fa904917037", func := "veneer/veneerlaw15.CoordTwice", spec := "coordTwice", unfollowed := true, recurses := true, plainKeys := false, apart := false, narrowed := true }
def CoordTwiceUptoSaid : Prop := coordTwiceUptoRow.holds Try.pinned (OpenSpec.upto coordTwiceSpec)

/-- 'veneerlaw15.CoordPlays', WHERE WHAT IT READS IS OF BULK AT MOST 1048576: true; the input reads as it did. -/
def coordPlaysUptoRow : OpenClaim := { program := "ytogjjkbgagedpaa", sum := "222b71baf3acf7b292f2a071c502d1f25f45b21c55ea6561ebc21fa904917037", func := "veneer/veneerlaw15.CoordPlays", spec := "coordPlays", unfollowed := true, recurses := true, plainKeys := false, apart := false, narrowed := true }
def CoordPlaysUptoSaid : Prop := coordPlaysUptoRow.holds Try.pinned (OpenSpec.upto coordPlaysSpec)

/-- 'veneerlaw15.CoordNobody', WHERE WHAT IT READS IS OF BULK AT MOST 1048576: true; the input reads as it did. -/
def coordNobodyUptoRow : OpenClaim := { program := "ytogjjkbgagedpaa", sum := "222b71baf3acf7b292f2a071c502d1f25f45b21c55ea6561ebc21fa904917037", func := "veneer/veneerlaw15.CoordNobody", spec := "coordNobody", unfollowed := true, recurses := true, plainKeys := false, apart := false, narrowed := true }
def CoordNobodyUptoSaid : Prop := coordNobodyUptoRow.holds Try.pinned (OpenSpec.upto coordNobodySpec)

end Rows
end Go.Proofs.Ytogjjkbgagedpaa

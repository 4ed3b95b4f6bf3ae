/-
  No cell of these rows narrows 'for every input' (looked for: loops, veiled, ifaces, maps, wideKeys, modest, calm, conditions, laid).
  DERIVED. THE GIVEN ROWS OF THIS SEAT. 9 by the template 'for every input the law returns true; each argument reads behind the call as it read before'; 0 by the template 'total and deterministic' (their statements: YtjahccaafhfilaaTotals.lean).
  GIVEN WITH THE SEED: the statements are not yours to turn. If you find one false, say at which input.
  Laid BY PROGRAM, IN A SANDBOX (cutbox-rows.mjs): the forced cells as the released guide's own fill.sh prints them over the translation f8458001cb5e285a… (all of the seat's roots in one cut). By AI agents, Wed Nov 11 2026. No macro, syntax, notation, axiom, sorry.
-/
import Derived.Test.YtjahccaafhfilaaChecked
import GoSem.Claim
import GoSem.ClaimJoined
import GoSem.ClaimMapViews
import Derived.JoinedTies
import Derived.KernelRfl
namespace Go.Proofs.Ytjahccaafhfilaa
/- THE CELL 'sum', in the pinned program and in every row, IS THE sha256 OF THE DUMP (.gsa) THAT YtjahccaafhfilaaProg.lean LOADS. Nothing in Lean hashes anything: it is a label: what it is worth is what the hold of that sum in a sandbox is worth. -/
noncomputable def Try.pinned : Pinned := { name := "ytjahccaafhfilaa", sum := "f8458001cb5e285a506ec66adafa172568f8bac45bfdd8685c77232b812ca694", checked := Try.checked }
namespace Rows
def none {H : Type} : Left H := { results := [], args := [] }

/-- 'retargetlaw40.RelaxTells': WHATEVER THE INPUT: true; the input reads as it did. -/
def relaxTellsSpec : ChangeSpec := { name := "relaxTells", fn := fun _ => fun
  | [d1, d2] => { results := [.lit (.bool true)], args := [d1, d2] }
  | _ => none }
def relaxTellsRow : OpenClaim := { program := "ytjahccaafhfilaa", sum := "f8458001cb5e285a506ec66adafa172568f8bac45bfdd8685c77232b812ca694", func := "retarget/retargetlaw40.RelaxTells", spec := "relaxTells", unfollowed := true, recurses := true, apart := false }
def RelaxTellsSaid : Prop := relaxTellsRow.holds Try.pinned (OpenSpec.ofChange relaxTellsSpec)

/-- ITS FALSE NEIGHBOUR: 'it returns false'. Refute it at one input. -/
def relaxTellsWrong : ChangeSpec := { name := "relaxTells", fn := fun _ => fun
  | [d1, d2] => { results := [.lit (.bool false)], args := [d1, d2] }
  | _ => none }
def RelaxTellsWrongFalsely : Prop := relaxTellsRow.holds Try.pinned (OpenSpec.ofChange relaxTellsWrong)

/-- 'retargetlaw40.RelaxSolves': WHATEVER THE INPUT: true; the input reads as it did. -/
def relaxSolvesSpec : ChangeSpec := { name := "relaxSolves", fn := fun _ => fun
  | [d] => { results := [.lit (.bool true)], args := [d] }
  | _ => none }
def relaxSolvesRow : OpenClaim := { program := "ytjahccaafhfilaa", sum := "f8458001cb5e285a506ec66adafa172568f8bac45bfdd8685c77232b812ca694", func := "retarget/retargetlaw40.RelaxSolves", spec := "relaxSolves", unfollowed := true, recurses := true, apart := false }
def RelaxSolvesSaid : Prop := relaxSolvesRow.holds Try.pinned (OpenSpec.ofChange relaxSolvesSpec)

/-- ITS FALSE NEIGHBOUR: 'it returns false'. Refute it at one input. -/
def relaxSolvesWrong : ChangeSpec := { name := "relaxSolves", fn := fun _ => fun
  | [d] => { results := [.lit (.bool false)], args := [d] }
  | _ => none }
def RelaxSolvesWrongFalsely : Prop := relaxSolvesRow.holds Try.pinned (OpenSpec.ofChange relaxSolvesWrong)

/-- 'retargetlaw40.RelaxGrows': WHATEVER THE INPUT: true; the input reads as it did. -/
def relaxGrowsSpec : ChangeSpec := { name := "relaxGrows", fn := fun _ => fun
  | [d1, d2, d3] => { results := [.lit (.bool true)], args := [d1, d2, d3] }
  | _ => none }
def relaxGrowsRow : OpenClaim := { program := "ytjahccaafhfilaa", sum := "f8458001cb5e285a506ec66adafa172568f8bac45bfdd8685c77232b812ca694", func := "retarget/retargetlaw40.RelaxGrows", spec := "relaxGrows", unfollowed := true, recurses := true, apart := false }
def RelaxGrowsSaid : Prop := relaxGrowsRow.holds Try.pinned (OpenSpec.ofChange relaxGrowsSpec)

/-- ITS FALSE NEIGHBOUR: 'it returns false'. Refute it at one input. -/
def relaxGrowsWrong : ChangeSpec := { name := "relaxGrows", fn := fun _ => fun
  | [d1, d2, d3] => { results := [.lit (.bool false)], args := [d1, d2, d3] }
  | _ => none }
def RelaxGrowsWrongFalsely : Prop := relaxGrowsRow.holds Try.pinned (OpenSpec.ofChange relaxGrowsWrong)

/-- 'retargetlaw40.RelaxReaches': WHATEVER THE INPUT: true; the input reads as it did. -/
def relaxReachesSpec : ChangeSpec := { name := "relaxReaches", fn := fun _ => fun
  | [d] => { results := [.lit (.bool true)], args := [d] }
  | _ => none }
def relaxReachesRow : OpenClaim := { program := "ytjahccaafhfilaa", sum := "f8458001cb5e285a506ec66adafa172568f8bac45bfdd8685c77232b812ca694", func := "retarget/retargetlaw40.RelaxReaches", spec := "relaxReaches", unfollowed := true, recurses := true, apart := false }
def RelaxReachesSaid : Prop := relaxReachesRow.holds Try.pinned (OpenSpec.ofChange relaxReachesSpec)

/-- ITS FALSE NEIGHBOUR: 'it returns false'. Refute it at one input. -/
def relaxReachesWrong : ChangeSpec := { name := "relaxReaches", fn := fun _ => fun
  | [d] => { results := [.lit (.bool false)], args := [d] }
  | _ => none }
def RelaxReachesWrongFalsely : Prop := relaxReachesRow.holds Try.pinned (OpenSpec.ofChange relaxReachesWrong)

/-- 'retargetlaw40.RelaxPlaces': WHATEVER THE INPUT: true; the input reads as it did. -/
def relaxPlacesSpec : ChangeSpec := { name := "relaxPlaces", fn := fun _ => fun
  | [d1, d2] => { results := [.lit (.bool true)], args := [d1, d2] }
  | _ => none }
def relaxPlacesRow : OpenClaim := { program := "ytjahccaafhfilaa", sum := "f8458001cb5e285a506ec66adafa172568f8bac45bfdd8685c77232b812ca694", func := "retarget/retargetlaw40.RelaxPlaces", spec := "relaxPlaces", unfollowed := true, recurses := true, apart := false }
def RelaxPlacesSaid : Prop := relaxPlacesRow.holds Try.pinned (OpenSpec.ofChange relaxPlacesSpec)

/-- ITS FALSE NEIGHBOUR: 'it returns false'. Refute it at one input. -/
def relaxPlacesWrong : ChangeSpec := { name := "relaxPlaces", fn := fun _ => fun
  | [d1, d2] => { results := [.lit (.bool false)], args := [d1, d2] }
  | _ => none }
def RelaxPlacesWrongFalsely : Prop := relaxPlacesRow.holds Try.pinned (OpenSpec.ofChange relaxPlacesWrong)

/-- 'retargetlaw40.RelaxLeast': WHATEVER THE INPUT: true; the input reads as it did. -/
def relaxLeastSpec : ChangeSpec := { name := "relaxLeast", fn := fun _ => fun
  | [d1, d2] => { results := [.lit (.bool true)], args := [d1, d2] }
  | _ => none }
def relaxLeastRow : OpenClaim := { program := "ytjahccaafhfilaa", sum := "f8458001cb5e285a506ec66adafa172568f8bac45bfdd8685c77232b812ca694", func := "retarget/retargetlaw40.RelaxLeast", spec := "relaxLeast", unfollowed := true, recurses := true, apart := false }
def RelaxLeastSaid : Prop := relaxLeastRow.holds Try.pinned (OpenSpec.ofChange relaxLeastSpec)

/-- ITS FALSE NEIGHBOUR: 'it returns false'. Refute it at one input. -/
def relaxLeastWrong : ChangeSpec := { name := "relaxLeast", fn := fun _ => fun
  | [d1, d2] => { results := [.lit (.bool false)], args := [d1, d2] }
  | _ => none }
def RelaxLeastWrongFalsely : Prop := relaxLeastRow.holds Try.pinned (OpenSpec.ofChange relaxLeastWrong)

/-- 'retargetlaw40.RelaxNeeded': WHATEVER THE INPUT: true; the input reads as it did. -/
def relaxNeededSpec : ChangeSpec := { name := "relaxNeeded", fn := fun _ => fun
  | [d1, d2] => { results := [.lit (.bool true)], args := [d1, d2] }
  | _ => none }
def relaxNeededRow : OpenClaim := { program := "ytjahccaafhfilaa", sum := "f8458001cb5e285a506ec66adafa172568f8bac45bfdd8685c77232b812ca694", func := "retarget/retargetlaw40.RelaxNeeded", spec := "relaxNeeded", unfollowed := true, recurses := true, apart := false }
def RelaxNeededSaid : Prop := relaxNeededRow.holds Try.pinned (OpenSpec.ofChange relaxNeededSpec)

/-- ITS FALSE NEIGHBOUR: 'it returns false'. Refute it at one input. -/
def relaxNeededWrong : ChangeSpec := { name := "relaxNeeded", fn := fun _ => fun
  | [d1, d2] => { results := [.lit (.bool false)], args := [d1, d2] }
  | _ => none }
def RelaxNeededWrongFalsely : Prop := relaxNeededRow.holds Try.pinned (OpenSpec.ofChange relaxNeededWrong)

/-- 'retargetlaw40.RelaxWide': WHATEVER THE INPUT: true; the input reads as it did. -/
def relaxWideSpec : ChangeSpec := { name := "relaxWide", fn := fun _ => fun
  | [d] => { results := [.lit (.bool true)], args := [d] }
  | _ => none }
def relaxWideRow : OpenClaim := { program := "ytjahccaafhfilaa", sum := "f8458001cb5e285a506ec66adafa172568f8bac45bfdd8685c77232b812ca694", func := "retarget/retargetlaw40.RelaxWide", spec := "relaxWide", unfollowed := true, recurses := true, apart := false }
def RelaxWideSaid : Prop := relaxWideRow.holds Try.pinned (OpenSpec.ofChange relaxWideSpec)

/-- ITS FALSE NEIGHBOUR: 'it returns false'. Refute it at one input. -/
def relaxWideWrong : ChangeSpec := { name := "relaxWide", fn := fun _ => fun
  | [d] => { results := [.lit (.bool false)], args := [d] }
  | _ => none }
def RelaxWideWrongFalsely : Prop := relaxWideRow.holds Try.pinned (OpenSpec.ofChange relaxWideWrong)

/-- 'retargetlaw40.RelaxNames': WHATEVER THE INPUT: true; the input reads as it did. -/
def relaxNamesSpec : ChangeSpec := { name := "relaxNames", fn := fun _ => fun
  | [] => { results := [.lit (.bool true)], args := [] }
  | _ => none }
def relaxNamesRow : OpenClaim := { program := "ytjahccaafhfilaa", sum := "f8458001cb5e285a506ec66adafa172568f8bac45bfdd8685c77232b812ca694", func := "retarget/retargetlaw40.RelaxNames", spec := "relaxNames", unfollowed := true, recurses := true, apart := false }
def RelaxNamesSaid : Prop := relaxNamesRow.holds Try.pinned (OpenSpec.ofChange relaxNamesSpec)

/-- ITS FALSE NEIGHBOUR: 'it returns false'. Refute it at one input. -/
def relaxNamesWrong : ChangeSpec := { name := "relaxNames", fn := fun _ => fun
  | [] => { results := [.lit (.bool false)], args := [] }
  | _ => none }
def RelaxNamesWrongFalsely : Prop := relaxNamesRow.holds Try.pinned (OpenSpec.ofChange relaxNamesWrong)

/- THE SECOND FORM. 'bulk': how many values and letters a reading holds, each counted each time it is reached (what is shared counts as often as it is met; a slice's spare places count too). A statement '..UptoSaid' is the law's where the arguments, and the package variables that the reading takes, are together of bulk at most 1048576: NARROWER than '..Said'. Prove '..Said' where nothing that the law and all that it calls make is longer than what came in: it says more and counts as full. Else prove '..UptoSaid'. A law counts once. -/
mutual
def uptoBulk {H : Type} : DataW H → Nat
  | .lit (.string bytes) => bytes.length + 1
  | .lit _ => 1
  | .nil => 1
  | .ptr d => uptoBulk d + 1
  | .slice elems spare => uptoBulkAll elems + uptoBulkAll spare + 1
  | .agg parts => uptoBulkAll parts + 1
  | .iface _ d => uptoBulk d + 1
  | .map entries => uptoBulkEntries entries + 1
  | .held _ => 1
def uptoBulkAll {H : Type} : List (DataW H) → Nat
  | [] => 0
  | d :: r => uptoBulk d + uptoBulkAll r
def uptoBulkEntries {H : Type} : List (Lit × DataW H) → Nat
  | [] => 0
  | x :: r => uptoBulkEntry x + uptoBulkEntries r
def uptoBulkEntry {H : Type} : Lit × DataW H → Nat
  | (.string bytes, d) => bytes.length + uptoBulk d + 1
  | (_, d) => uptoBulk d + 1
 end
def uptoSmall : (H : Type) → List (DataW H) → Bool := fun _ ds => decide (uptoBulkAll ds ≤ 1048576)
def OpenSpec.upto (s : _root_.Go.ChangeSpec) : _root_.Go.OpenSpec := { _root_.Go.OpenSpec.ofChange s with cond := some uptoSmall }

/-- 'retargetlaw40.RelaxTells', WHERE WHAT IT READS IS OF BULK AT MOST 1048576: true; the input reads as it did. -/
def relaxTellsUptoRow : OpenClaim := { program := "ytjahccaafhfilaa", sum := "f8458001cb5e285a506ec66adafa172568f8bac45bfdd8685c77232b812ca694", func := "retarget/retargetlaw40.RelaxTells", spec := "relaxTells", unfollowed := true, recurses := true, apart := false, narrowed := true }
def RelaxTellsUptoSaid : Prop := relaxTellsUptoRow.holds Try.pinned (OpenSpec.upto relaxTellsSpec)

/-- 'retargetlaw40.RelaxSolves', WHERE WHAT IT READS IS OF BULK AT MOST 1048576: true; the input reads as it did. -/
def relaxSolvesUptoRow : OpenClaim := { program := "ytjahccaafhfilaa", sum := "f8458001cb5e285a506ec66adafa172568f8bac45bfdd8685c77232b812ca694", func := "retarget/retargetlaw40.RelaxSolves", spec := "relaxSolves", unfollowed := true, recurses := true, apart := false, narrowed := true }
def RelaxSolvesUptoSaid : Prop := relaxSolvesUptoRow.holds Try.pinned (OpenSpec.upto relaxSolvesSpec)

/-- 'retargetlaw40.RelaxGrows', WHERE WHAT IT READS IS OF BULK AT MOST 1048576: true; the input reads as it did. -/
def relaxGrowsUptoRow : OpenClaim := { program := "ytjahccaafhfilaa", sum := "f8458001cb5e285a506ec66adafa172568f8bac45bfdd8685c77232b812ca694", func := "retarget/retargetlaw40.RelaxGrows", spec := "relaxGrows", unfollowed := true, recurses := true, apart := false, narrowed := true }
def RelaxGrowsUptoSaid : Prop := relaxGrowsUptoRow.holds Try.pinned (OpenSpec.upto relaxGrowsSpec)

/-- 'retargetlaw40.RelaxReaches', WHERE WHAT IT READS IS OF BULK AT MOST 1048576: true; the input reads as it did. -/
def relaxReachesUptoRow : OpenClaim := { program := "ytjahccaafhfilaa", sum := "f8458001cb5e285a506ec66adafa172568f8bac45bfdd8685c77232b812ca694", func := "retarget/retargetlaw40.RelaxReaches", spec := "relaxReaches", unfollowed := true, recurses := true, apart := false, narrowed := true }
def RelaxReachesUptoSaid : Prop := relaxReachesUptoRow.holds Try.pinned (OpenSpec.upto relaxReachesSpec)

/-- 'retargetlaw40.RelaxPlaces', WHERE WHAT IT READS IS OF BULK AT MOST 1048576: true; the input reads as it did. -/
def relaxPlacesUptoRow : OpenClaim := { program := "ytjahccaafhfilaa", sum := "f8458001cb5e285a506ec66adafa172568f8bac45bfdd8685c77232b812ca694", func := "retarget/retargetlaw40.RelaxPlaces", spec := "relaxPlaces", unfollowed := true, recurses := true, apart := false, narrowed := true }
def RelaxPlacesUptoSaid : Prop := relaxPlacesUptoRow.holds Try.pinned (OpenSpec.upto relaxPlacesSpec)

/-- 'retargetlaw40.RelaxLeast', WHERE WHAT IT READS IS OF BULK AT MOST 1048576: true; the input reads as it did. -/
def relaxLeastUptoRow : OpenClaim := { program := "ytjahccaafhfilaa", sum := "f8458001cb5e285a506ec66adafa172568f8bac45bfdd8685c77232b812ca694", func := "retarget/retargetlaw40.RelaxLeast", spec := "relaxLeast", unfollowed := true, recurses := true, apart := false, narrowed := true }
def RelaxLeastUptoSaid : Prop := relaxLeastUptoRow.holds Try.pinned (OpenSpec.upto relaxLeastSpec)

/-- 'retargetlaw40.RelaxNeeded', WHERE WHAT IT READS IS OF BULK AT MOST 1048576: true; the input reads as it did. -/
def relaxNeededUptoRow : OpenClaim := { program := "ytjahccaafhfilaa", sum := "f8458001cb5e285a506ec66adafa172568f8bac45bfdd8685c77232b812ca694", func := "retarget/retargetlaw40.RelaxNeeded", spec := "relaxNeeded", unfollowed := true, recurses := true, apart := false, narrowed := true }
def RelaxNeededUptoSaid : Prop := relaxNeededUptoRow.holds Try.pinned (OpenSpec.upto relaxNeededSpec)

/-- 'retargetlaw40.RelaxWide', WHERE WHAT IT READS IS OF BULK AT MOST 1048576: true; the input reads as it did. -/
def relaxWideUptoRow : OpenClaim := { program := "ytjahccaafhfilaa", sum := "f8458001cb5e285a506ec66adafa172568f8bac45bfdd8685c77232b812ca694", func := "retarget/retargetlaw40.RelaxWide", spec := "relaxWide", unfollowed := true, recurses := true, apart := false, narrowed := true }
def RelaxWideUptoSaid : Prop := relaxWideUptoRow.holds Try.pinned (OpenSpec.upto relaxWideSpec)

/-- 'retargetlaw40.RelaxNames', WHERE WHAT IT READS IS OF BULK AT MOST 1048576: true; the input reads as it did. -/
def relaxNamesUptoRow : OpenClaim := { program := "ytjahccaafhfilaa", sum := "f8458001cb5e285a506ec66adafa172568f8bac45bfdd8685c77232b812ca694", func := "retarget/retargetlaw40.RelaxNames", spec := "relaxNames", unfollowed := true, recurses := true, apart := false, narrowed := true }
def RelaxNamesUptoSaid : Prop := relaxNamesUptoRow.holds Try.pinned (OpenSpec.upto relaxNamesSpec)

end Rows
end Go.Proofs.Ytjahccaafhfilaa

/-
  No cell of these rows narrows 'for every input' (looked for: loops, veiled, ifaces, maps, wideKeys, modest, calm, conditions, laid).
  DERIVED. THE GIVEN ROWS OF THIS SEAT. 6 by the template 'for every input the law returns true; each argument reads behind the call as it read before'; 0 by the template 'total and deterministic' (their statements: YtfploaaelfjadaaTotals.lean).
  GIVEN WITH THE SEED: the statements are not yours to turn. If you find one false, say at which input.
  Laid BY PROGRAM, IN A SANDBOX (cutbox-rows.mjs): the forced cells as the released guide's own fill.sh prints them over the translation 6bbe7597a1867a49… (all of the seat's roots in one cut). By AI agents, Wed Nov 11 2026. No macro, syntax, notation, axiom, sorry.
-/
import Derived.Test.YtfploaaelfjadaaChecked
import GoSem.Claim
import GoSem.ClaimJoined
import GoSem.ClaimMapViews
import Derived.JoinedTies
import Derived.KernelRfl
namespace Go.Proofs.Ytfploaaelfjadaa
/- THE CELL 'sum', in the pinned program and in every row, IS THE sha256 OF THE DUMP (.gsa) THAT YtfploaaelfjadaaProg.lean LOADS. Nothing in Lean hashes anything: it is a label: what it is worth is what the hold of that sum in a sandbox is worth. -/
noncomputable def Try.pinned : Pinned := { name := "ytfploaaelfjadaa", sum := "6bbe7597a1867a49be251b936855befb83c927e4b6c1ccde7f4c2f5dd9913f68", checked := Try.checked }
namespace Rows
def none {H : Type} : Left H := { results := [], args := [] }

/-- 'headgatelaw33.ReclaimSteps': WHATEVER THE INPUT: true; the input reads as it did. -/
def reclaimStepsSpec : ChangeSpec := { name := "reclaimSteps", fn := fun _ => fun
  | [d] => { results := [.lit (.bool true)], args := [d] }
  | _ => none }
def reclaimStepsRow : OpenClaim := { program := "ytfploaaelfjadaa", sum := "6bbe7597a1867a49be251b936855befb83c927e4b6c1ccde7f4c2f5dd9913f68", func := "headgate/headgatelaw33.ReclaimSteps", spec := "reclaimSteps", unfollowed := true, recurses := true, apart := false }
def ReclaimStepsSaid : Prop := reclaimStepsRow.holds Try.pinned (OpenSpec.ofChange reclaimStepsSpec)

/-- ITS FALSE NEIGHBOUR: 'it returns false'. Refute it at one input. -/
def reclaimStepsWrong : ChangeSpec := { name := "reclaimSteps", fn := fun _ => fun
  | [d] => { results := [.lit (.bool false)], args := [d] }
  | _ => none }
def ReclaimStepsWrongFalsely : Prop := reclaimStepsRow.holds Try.pinned (OpenSpec.ofChange reclaimStepsWrong)

/-- 'headgatelaw33.ReclaimPlans': WHATEVER THE INPUT: true; the input reads as it did. -/
def reclaimPlansSpec : ChangeSpec := { name := "reclaimPlans", fn := fun _ => fun
  | [d1, d2, d3] => { results := [.lit (.bool true)], args := [d1, d2, d3] }
  | _ => none }
def reclaimPlansRow : OpenClaim := { program := "ytfploaaelfjadaa", sum := "6bbe7597a1867a49be251b936855befb83c927e4b6c1ccde7f4c2f5dd9913f68", func := "headgate/headgatelaw33.ReclaimPlans", spec := "reclaimPlans", unfollowed := true, recurses := true, apart := false }
def ReclaimPlansSaid : Prop := reclaimPlansRow.holds Try.pinned (OpenSpec.ofChange reclaimPlansSpec)

/-- ITS FALSE NEIGHBOUR: 'it returns false'. Refute it at one input. -/
def reclaimPlansWrong : ChangeSpec := { name := "reclaimPlans", fn := fun _ => fun
  | [d1, d2, d3] => { results := [.lit (.bool false)], args := [d1, d2, d3] }
  | _ => none }
def ReclaimPlansWrongFalsely : Prop := reclaimPlansRow.holds Try.pinned (OpenSpec.ofChange reclaimPlansWrong)

/-- 'headgatelaw33.ReclaimKnown': WHATEVER THE INPUT: true; the input reads as it did. -/
def reclaimKnownSpec : ChangeSpec := { name := "reclaimKnown", fn := fun _ => fun
  | [] => { results := [.lit (.bool true)], args := [] }
  | _ => none }
def reclaimKnownRow : OpenClaim := { program := "ytfploaaelfjadaa", sum := "6bbe7597a1867a49be251b936855befb83c927e4b6c1ccde7f4c2f5dd9913f68", func := "headgate/headgatelaw33.ReclaimKnown", spec := "reclaimKnown", unfollowed := true, recurses := true, apart := false }
def ReclaimKnownSaid : Prop := reclaimKnownRow.holds Try.pinned (OpenSpec.ofChange reclaimKnownSpec)

/-- ITS FALSE NEIGHBOUR: 'it returns false'. Refute it at one input. -/
def reclaimKnownWrong : ChangeSpec := { name := "reclaimKnown", fn := fun _ => fun
  | [] => { results := [.lit (.bool false)], args := [] }
  | _ => none }
def ReclaimKnownWrongFalsely : Prop := reclaimKnownRow.holds Try.pinned (OpenSpec.ofChange reclaimKnownWrong)

/-- 'headgatelaw33.ReclaimCounts': WHATEVER THE INPUT: true; the input reads as it did. -/
def reclaimCountsSpec : ChangeSpec := { name := "reclaimCounts", fn := fun _ => fun
  | [d] => { results := [.lit (.bool true)], args := [d] }
  | _ => none }
def reclaimCountsRow : OpenClaim := { program := "ytfploaaelfjadaa", sum := "6bbe7597a1867a49be251b936855befb83c927e4b6c1ccde7f4c2f5dd9913f68", func := "headgate/headgatelaw33.ReclaimCounts", spec := "reclaimCounts", unfollowed := true, recurses := true, apart := false }
def ReclaimCountsSaid : Prop := reclaimCountsRow.holds Try.pinned (OpenSpec.ofChange reclaimCountsSpec)

/-- ITS FALSE NEIGHBOUR: 'it returns false'. Refute it at one input. -/
def reclaimCountsWrong : ChangeSpec := { name := "reclaimCounts", fn := fun _ => fun
  | [d] => { results := [.lit (.bool false)], args := [d] }
  | _ => none }
def ReclaimCountsWrongFalsely : Prop := reclaimCountsRow.holds Try.pinned (OpenSpec.ofChange reclaimCountsWrong)

/-- 'headgatelaw33.ReclaimStuck': WHATEVER THE INPUT: true; the input reads as it did. -/
def reclaimStuckSpec : ChangeSpec := { name := "reclaimStuck", fn := fun _ => fun
  | [d] => { results := [.lit (.bool true)], args := [d] }
  | _ => none }
def reclaimStuckRow : OpenClaim := { program := "ytfploaaelfjadaa", sum := "6bbe7597a1867a49be251b936855befb83c927e4b6c1ccde7f4c2f5dd9913f68", func := "headgate/headgatelaw33.ReclaimStuck", spec := "reclaimStuck", unfollowed := true, recurses := true, apart := false }
def ReclaimStuckSaid : Prop := reclaimStuckRow.holds Try.pinned (OpenSpec.ofChange reclaimStuckSpec)

/-- ITS FALSE NEIGHBOUR: 'it returns false'. Refute it at one input. -/
def reclaimStuckWrong : ChangeSpec := { name := "reclaimStuck", fn := fun _ => fun
  | [d] => { results := [.lit (.bool false)], args := [d] }
  | _ => none }
def ReclaimStuckWrongFalsely : Prop := reclaimStuckRow.holds Try.pinned (OpenSpec.ofChange reclaimStuckWrong)

/-- 'headgatelaw33.ReclaimBackground': WHATEVER THE INPUT: true; the input reads as it did. -/
def reclaimBackgroundSpec : ChangeSpec := { name := "reclaimBackground", fn := fun _ => fun
  | [d] => { results := [.lit (.bool true)], args := [d] }
  | _ => none }
def reclaimBackgroundRow : OpenClaim := { program := "ytfploaaelfjadaa", sum := "6bbe7597a1867a49be251b936855befb83c927e4b6c1ccde7f4c2f5dd9913f68", func := "headgate/headgatelaw33.ReclaimBackground", spec := "reclaimBackground", unfollowed := true, recurses := true, apart := false }
def ReclaimBackgroundSaid : Prop := reclaimBackgroundRow.holds Try.pinned (OpenSpec.ofChange reclaimBackgroundSpec)

/-- ITS FALSE NEIGHBOUR: 'it returns false'. Refute it at one input. -/
def reclaimBackgroundWrong : ChangeSpec := { name := "reclaimBackground", fn := fun _ => fun
  | [d] => { results := [.lit (.bool false)], args := [d] }
  | _ => none }
def ReclaimBackgroundWrongFalsely : Prop := reclaimBackgroundRow.holds Try.pinned (OpenSpec.ofChange reclaimBackgroundWrong)

/- THE SECOND FORM. 'bulk': how many values and letters a reading holds, each counted each time it is reached (what is shared counts as often as it is met; a slice's spare places count too). A statement '..UptoSaid' is the law's where the arguments, and the package variables that the reading takes, are together of bulk at most 1048576: NARROWER than '..Said'. Prove '..Said' where nothing that the law and all that it calls make is longer than what came in: it says more and counts as full. Else prove '..UptoSaid'. A law counts once. -/
mutual
def uptoBulk {H : Type} : DataW H → Nat
  | .lit (.string bytes) => bytes.length + 1
  | .lit _ => 1
  | .nil => 1
  | .ptr d => uptoBulk d + 1
  | .slice elems spare => uptoBulkAll elems + uptoBulkAll spare + 1
  | .agg parts => uptoBulkAll parts + 1
  | .iface _ d => uptoBulk d + 1
  | .map entries => uptoBulkEntries entries + 1
  | .held _ => 1
def uptoBulkAll {H : Type} : List (DataW H) → Nat
  | [] => 0
  | d :: r => uptoBulk d + uptoBulkAll r
def uptoBulkEntries {H : Type} : List (Lit × DataW H) → Nat
  | [] => 0
  | x :: r => uptoBulkEntry x + uptoBulkEntries r
def uptoBulkEntry {H : Type} : Lit × DataW H → Nat
  | (.string bytes, d) => bytes.length + uptoBulk d + 1
  | (_, d) => uptoBulk d + 1
 end
def uptoSmall : (H : Type) → List (DataW H) → Bool := fun _ ds => decide (uptoBulkAll ds ≤ 1048576)
def OpenSpec.upto (s : _root_.Go.ChangeSpec) : _root_.Go.OpenSpec := { _root_.Go.OpenSpec.ofChange s with cond := some uptoSmall }

/-- 'headgatelaw33.ReclaimSteps', WHERE WHAT IT READS IS OF BULK AT MOST 1048576: true; the input reads as it did. -/
def reclaimStepsUptoRow : OpenClaim := { program := "ytfploaaelfjadaa", sum := "6bbe7597a1867a49be251b936855befb83c927e4b6c1ccde7f4c2f5dd9913f68", func := "headgate/headgatelaw33.ReclaimSteps", spec := "reclaimSteps", unfollowed := true, recurses := true, apart := false, narrowed := true }
def ReclaimStepsUptoSaid : Prop := reclaimStepsUptoRow.holds Try.pinned (OpenSpec.upto reclaimStepsSpec)

/-- 'headgatelaw33.ReclaimPlans', WHERE WHAT IT READS IS OF BULK AT MOST 1048576: true; the input reads as it did. -/
def reclaimPlansUptoRow : OpenClaim := { program := "ytfploaaelfjadaa", sum := "6bbe7597a1867a49be251b936855befb83c927e4b6c1ccde7f4c2f5dd9913f68", func := "headgate/headgatelaw33.ReclaimPlans", spec := "reclaimPlans", unfollowed := true, recurses := true, apart := false, narrowed := true }
def ReclaimPlansUptoSaid : Prop := reclaimPlansUptoRow.holds Try.pinned (OpenSpec.upto reclaimPlansSpec)

/-- 'headgatelaw33.ReclaimKnown', WHERE WHAT IT READS IS OF BULK AT MOST 1048576: true; the input reads as it did. -/
def reclaimKnownUptoRow : OpenClaim := { program := "ytfploaaelfjadaa", sum := "6bbe7597a1867a49be251b936855befb83c927e4b6c1ccde7f4c2f5dd9913f68", func := "headgate/headgatelaw33.ReclaimKnown", spec := "reclaimKnown", unfollowed := true, recurses := true, apart := false, narrowed := true }
def ReclaimKnownUptoSaid : Prop := reclaimKnownUptoRow.holds Try.pinned (OpenSpec.upto reclaimKnownSpec)

/-- 'headgatelaw33.ReclaimCounts', WHERE WHAT IT READS IS OF BULK AT MOST 1048576: true; the input reads as it did. -/
def reclaimCountsUptoRow : OpenClaim := { program := "ytfploaaelfjadaa", sum := "6bbe7597a1867a49be251b936855befb83c927e4b6c1ccde7f4c2f5dd9913f68", func := "headgate/headgatelaw33.ReclaimCounts", spec := "reclaimCounts", unfollowed := true, recurses := true, apart := false, narrowed := true }
def ReclaimCountsUptoSaid : Prop := reclaimCountsUptoRow.holds Try.pinned (OpenSpec.upto reclaimCountsSpec)

/-- 'headgatelaw33.ReclaimStuck', WHERE WHAT IT READS IS OF BULK AT MOST 1048576: true; the input reads as it did. -/
def reclaimStuckUptoRow : OpenClaim := { program := "ytfploaaelfjadaa", sum := "6bbe7597a1867a49be251b936855befb83c927e4b6c1ccde7f4c2f5dd9913f68", func := "headgate/headgatelaw33.ReclaimStuck", spec := "reclaimStuck", unfollowed := true, recurses := true, apart := false, narrowed := true }
def ReclaimStuckUptoSaid : Prop := reclaimStuckUptoRow.holds Try.pinned (OpenSpec.upto reclaimStuckSpec)

/-- 'headgatelaw33.ReclaimBackground', WHERE WHAT IT READS IS OF BULK AT MOST 1048576: true; the input reads as it did. -/
def reclaimBackgroundUptoRow : OpenClaim := { program := "ytfploaaelfjadaa", sum := "6bbe7597a1867a49be251b936855befb83c927e4b6c1ccde7f4c2f5dd9913f68", func := "headgate/headgatelaw33.ReclaimBackground", spec := "reclaimBackground", unfollowed := true, recurses := true, apart := false, narrowed := true }
def ReclaimBackgroundUptoSaid : Prop := reclaimBackgroundUptoRow.holds Try.pinned (OpenSpec.upto reclaimBackgroundSpec)

end Rows
end Go.Proofs.Ytfploaaelfjadaa

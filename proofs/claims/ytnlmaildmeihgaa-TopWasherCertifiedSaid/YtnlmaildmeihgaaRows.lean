/-
  No cell of these rows narrows 'for every input' (looked for: loops, veiled, ifaces, maps, wideKeys, modest, calm, conditions, laid).
  DERIVED. THE GIVEN ROWS OF THIS SEAT. 2 by the template 'for every input the law returns true; each argument reads behind the call as it read before'; 0 by the template 'total and deterministic' (their statements: YtnlmaildmeihgaaTotals.lean).
  GIVEN WITH THE SEED: the statements are not yours to turn. If you find one false, say at which input.
  Laid BY PROGRAM, IN A SANDBOX (cutbox-rows.mjs): the forced cells as the released guide's own fill.sh prints them over the translation 2f67702de2ebae7e… (all of the seat's roots in one cut). By AI agents, Wed Nov 11 2026. No macro, syntax, notation, axiom, sorry.
-/
import Derived.Test.YtnlmaildmeihgaaChecked
import GoSem.Claim
import GoSem.ClaimJoined
import GoSem.ClaimMapViews
import Derived.JoinedTies
import Derived.KernelRfl
namespace Go.Proofs.Ytnlmaildmeihgaa
/- THE CELL 'sum', in the pinned program and in every row, IS THE sha256 OF THE DUMP (.gsa) THAT YtnlmaildmeihgaaProg.lean LOADS. Nothing in Lean hashes anything: it is a label: what it is worth is what the hold of that sum in a sandbox is worth. -/
noncomputable def Try.pinned : Pinned := { name := "ytnlmaildmeihgaa", sum := "2f67702de2ebae7e1737642d249194dad7cb62959b454be90b762796e57ca1d9", checked := Try.checked }
namespace Rows
def none {H : Type} : Left H := { results := [], args := [] }

/-- 'bipoletop.TopWasherSteps': WHATEVER THE INPUT: true; the input reads as it did. -/
def topWasherStepsSpec : ChangeSpec := { name := "topWasherSteps", fn := fun _ => fun
  | [d1, d2, d3] => { results := [.lit (.bool true)], args := [d1, d2, d3] }
  | _ => none }
def topWasherStepsRow : OpenClaim := { program := "ytnlmaildmeihgaa", sum := "2f67702de2ebae7e1737642d249194dad7cb62959b454be90b762796e57ca1d9", func := "bipole/bipoletop.TopWasherSteps", spec := "topWasherSteps", unfollowed := true, recurses := true, apart := false }
def TopWasherStepsSaid : Prop := topWasherStepsRow.holds Try.pinned (OpenSpec.ofChange topWasherStepsSpec)

/-- ITS FALSE NEIGHBOUR: 'it returns false'. Refute it at one input. -/
def topWasherStepsWrong : ChangeSpec := { name := "topWasherSteps", fn := fun _ => fun
  | [d1, d2, d3] => { results := [.lit (.bool false)], args := [d1, d2, d3] }
  | _ => none }
def TopWasherStepsWrongFalsely : Prop := topWasherStepsRow.holds Try.pinned (OpenSpec.ofChange topWasherStepsWrong)

/-- 'bipoletop.TopWasherCertified': WHATEVER THE INPUT: true; the input reads as it did. -/
def topWasherCertifiedSpec : ChangeSpec := { name := "topWasherCertified", fn := fun _ => fun
  | [d1, d2, d3] => { results := [.lit (.bool true)], args := [d1, d2, d3] }
  | _ => none }
def topWasherCertifiedRow : OpenClaim := { program := "ytnlmaildmeihgaa", sum := "2f67702de2ebae7e1737642d249194dad7cb62959b454be90b762796e57ca1d9", func := "bipole/bipoletop.TopWasherCertified", spec := "topWasherCertified", unfollowed := true, recurses := true, apart := false }
def TopWasherCertifiedSaid : Prop := topWasherCertifiedRow.holds Try.pinned (OpenSpec.ofChange topWasherCertifiedSpec)

/-- ITS FALSE NEIGHBOUR: 'it returns false'. Refute it at one input. -/
def topWasherCertifiedWrong : ChangeSpec := { name := "topWasherCertified", fn := fun _ => fun
  | [d1, d2, d3] => { results := [.lit (.bool false)], args := [d1, d2, d3] }
  | _ => none }
def TopWasherCertifiedWrongFalsely : Prop := topWasherCertifiedRow.holds Try.pinned (OpenSpec.ofChange topWasherCertifiedWrong)

/- THE SECOND FORM. 'bulk': how many values and letters a reading holds, each counted each time it is reached (what is shared counts as often as it is met; a slice's spare places count too). A statement '..UptoSaid' is the law's where the arguments, and the package variables that the reading takes, are together of bulk at most 1048576: NARROWER than '..Said'. Prove '..Said' where nothing that the law and all that it calls make is longer than what came in: it says more and counts as full. Else prove '..UptoSaid'. A law counts once. -/
mutual
def uptoBulk {H : Type} : DataW H → Nat
  | .lit (.string bytes) => bytes.length + 1
  | .lit _ => 1
  | .nil => 1
  | .ptr d => uptoBulk d + 1
  | .slice elems spare => uptoBulkAll elems + uptoBulkAll spare + 1
  | .agg parts => uptoBulkAll parts + 1
  | .iface _ d => uptoBulk d + 1
  | .map entries => uptoBulkEntries entries + 1
  | .held _ => 1
def uptoBulkAll {H : Type} : List (DataW H) → Nat
  | [] => 0
  | d :: r => uptoBulk d + uptoBulkAll r
def uptoBulkEntries {H : Type} : List (Lit × DataW H) → Nat
  | [] => 0
  | x :: r => uptoBulkEntry x + uptoBulkEntries r
def uptoBulkEntry {H : Type} : Lit × DataW H → Nat
  | (.string bytes, d) => bytes.length + uptoBulk d + 1
  | (_, d) => uptoBulk d + 1
 end
def uptoSmall : (H : Type) → List (DataW H) → Bool := fun _ ds => decide (uptoBulkAll ds ≤ 1048576)
def OpenSpec.upto (s : _root_.Go.ChangeSpec) : _root_.Go.OpenSpec := { _root_.Go.OpenSpec.ofChange s with cond := some uptoSmall }

/-- 'bipoletop.TopWasherSteps', WHERE WHAT IT READS IS OF BULK AT MOST 1048576: true; the input reads as it did. -/
def topWasherStepsUptoRow : OpenClaim := { program := "ytnlmaildmeihgaa", sum := "2f67702de2ebae7e1737642d249194dad7cb62959b454be90b762796e57ca1d9", func := "bipole/bipoletop.TopWasherSteps", spec := "topWasherSteps", unfollowed := true, recurses := true, apart := false, narrowed := true }
def TopWasherStepsUptoSaid : Prop := topWasherStepsUptoRow.holds Try.pinned (OpenSpec.upto topWasherStepsSpec)

/-- 'bipoletop.TopWasherCertified', WHERE WHAT IT READS IS OF BULK AT MOST 1048576: true; the input reads as it did. -/
def topWasherCertifiedUptoRow : OpenClaim := { program := "ytnlmaildmeihgaa", sum := "2f67702de2ebae7e1737642d249194dad7cb62959b454be90b762796e57ca1d9", func := "bipole/bipoletop.TopWasherCertified", spec := "topWasherCertified", unfollowed := true, recurses := true, apart := false, narrowed := true }
def TopWasherCertifiedUptoSaid : Prop := topWasherCertifiedUptoRow.holds Try.pinned (OpenSpec.upto topWasherCertifiedSpec)

end Rows
end Go.Proofs.Ytnlmaildmeihgaa

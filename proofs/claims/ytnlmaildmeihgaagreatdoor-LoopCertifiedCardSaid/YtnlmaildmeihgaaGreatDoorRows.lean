/-
  NARROWER THAN 'FOR EVERY INPUT', by the rows' own cells (each row's printed sentence says how): LoopScales: laid · LoopLoops: laid · LoopBoxes: laid · LoopSteps: laid · LoopRings: laid · LoopMade: laid · LoopWhole: laid · LoopCertified: laid · LoopFalls: laid · LoopSums: laid · LoopPolys: laid · LoopTables: laid · LoopRoots: laid · LoopTexts: laid · LoopBack: laid.
  DERIVED. THE GIVEN ROWS OF THIS SEAT. 15 by the template 'for every input the law returns true; each argument reads behind the call as it read before'; 0 by the template 'total and deterministic' (their statements: YtnlmaildmeihgaaGreatDoorTotals.lean).
  GIVEN WITH THE SEED: the statements are not yours to turn. If you find one false, say at which input.
  Laid BY PROGRAM, IN A SANDBOX (cutbox-rows.mjs): the forced cells as the released guide's own fill.sh prints them over the translation b171f4bd32c8516f… (all of the seat's roots in one cut). By AI agents, Wed Nov 11 2026. No macro, syntax, notation, axiom, sorry.
-/
import Derived.Test.YtnlmaildmeihgaaGreatDoorChecked
import GoSem.PinnedTables
import GoSem.Claim
import GoSem.ClaimJoined
import GoSem.ClaimMapViews
import Derived.JoinedTies
import Derived.KernelRfl
namespace Go.Proofs.YtnlmaildmeihgaaGreatDoor
/- THE CELL 'sum', in the pinned program and in every row, IS THE sha256 OF THE DUMP (.gsa) THAT YtnlmaildmeihgaaGreatDoorProg.lean LOADS. Nothing in Lean hashes anything: it is a label: what it is worth is what the hold of that sum in a sandbox is worth. -/
noncomputable def Tryz.pinned : Pinned := { name := "ytnlmaildmeihgaagreatdoor", sum := "b171f4bd32c8516f0dcaaeddc58be03f90ada0864e6604aae0e3a4086d8a6ba7", checked := Tryz.checked }
namespace Rows
def none {H : Type} : Left H := { results := [], args := [] }

/- WHAT THE LISTED PACKAGE-LEVEL VARIABLES READ AS WHEN THE CALL BEGINS. Each datum BY PROGRAM (the guide's laid-datum.mjs) off the statement by which the dump's own 'gosem.cut.vars' lays the variable. In a bare row this is a premise. The card (YtnlmaildmeihgaaGreatDoorCards.lean) ties it to the program's text. -/
def laid_math_bits_deBruijn32tab {H : Type} : DataW H := .agg [.lit (.int .u8 0), .lit (.int .u8 1), .lit (.int .u8 28), .lit (.int .u8 2), .lit (.int .u8 29), .lit (.int .u8 14), .lit (.int .u8 24), .lit (.int .u8 3), .lit (.int .u8 30), .lit (.int .u8 22), .lit (.int .u8 20), .lit (.int .u8 15), .lit (.int .u8 25), .lit (.int .u8 17), .lit (.int .u8 4), .lit (.int .u8 8), .lit (.int .u8 31), .lit (.int .u8 27), .lit (.int .u8 13), .lit (.int .u8 23), .lit (.int .u8 21), .lit (.int .u8 19), .lit (.int .u8 16), .lit (.int .u8 7), .lit (.int .u8 26), .lit (.int .u8 12), .lit (.int .u8 18), .lit (.int .u8 6), .lit (.int .u8 11), .lit (.int .u8 5), .lit (.int .u8 10), .lit (.int .u8 9)]
def laid_math_bits_deBruijn64tab {H : Type} : DataW H := .agg [.lit (.int .u8 0), .lit (.int .u8 1), .lit (.int .u8 56), .lit (.int .u8 2), .lit (.int .u8 57), .lit (.int .u8 49), .lit (.int .u8 28), .lit (.int .u8 3), .lit (.int .u8 61), .lit (.int .u8 58), .lit (.int .u8 42), .lit (.int .u8 50), .lit (.int .u8 38), .lit (.int .u8 29), .lit (.int .u8 17), .lit (.int .u8 4), .lit (.int .u8 62), .lit (.int .u8 47), .lit (.int .u8 59), .lit (.int .u8 36), .lit (.int .u8 45), .lit (.int .u8 43), .lit (.int .u8 51), .lit (.int .u8 22), .lit (.int .u8 53), .lit (.int .u8 39), .lit (.int .u8 33), .lit (.int .u8 30), .lit (.int .u8 24), .lit (.int .u8 18), .lit (.int .u8 12), .lit (.int .u8 5), .lit (.int .u8 63), .lit (.int .u8 55), .lit (.int .u8 48), .lit (.int .u8 27), .lit (.int .u8 60), .lit (.int .u8 41), .lit (.int .u8 37), .lit (.int .u8 16), .lit (.int .u8 46), .lit (.int .u8 35), .lit (.int .u8 44), .lit (.int .u8 21), .lit (.int .u8 52), .lit (.int .u8 32), .lit (.int .u8 23), .lit (.int .u8 11), .lit (.int .u8 54), .lit (.int .u8 26), .lit (.int .u8 40), .lit (.int .u8 15), .lit (.int .u8 34), .lit (.int .u8 20), .lit (.int .u8 31), .lit (.int .u8 10), .lit (.int .u8 25), .lit (.int .u8 14), .lit (.int .u8 19), .lit (.int .u8 9), .lit (.int .u8 13), .lit (.int .u8 8), .lit (.int .u8 7), .lit (.int .u8 6)]
def laid_internal_strconv_uint64pow10 {H : Type} : DataW H := .agg [.lit (.int .u64 1), .lit (.int .u64 10), .lit (.int .u64 100), .lit (.int .u64 1000), .lit (.int .u64 10000), .lit (.int .u64 100000), .lit (.int .u64 1000000), .lit (.int .u64 10000000), .lit (.int .u64 100000000), .lit (.int .u64 1000000000), .lit (.int .u64 10000000000), .lit (.int .u64 100000000000), .lit (.int .u64 1000000000000), .lit (.int .u64 10000000000000), .lit (.int .u64 100000000000000), .lit (.int .u64 1000000000000000), .lit (.int .u64 10000000000000000), .lit (.int .u64 100000000000000000), .lit (.int .u64 1000000000000000000), .lit (.int .u64 10000000000000000000)]
def laid_bipole_loop_quarters {H : Type} : DataW H := .agg [.agg [.lit (.int .i64 1), .lit (.int .i64 0)], .agg [.lit (.int .i64 0), .lit (.int .i64 1)], .agg [.lit (.int .i64 (-1)), .lit (.int .i64 0)], .agg [.lit (.int .i64 0), .lit (.int .i64 (-1))]]
def laid_unicode_utf8_acceptRanges {H : Type} : DataW H := .agg [.agg [.lit (.int .u8 128), .lit (.int .u8 191)], .agg [.lit (.int .u8 160), .lit (.int .u8 191)], .agg [.lit (.int .u8 128), .lit (.int .u8 159)], .agg [.lit (.int .u8 144), .lit (.int .u8 191)], .agg [.lit (.int .u8 128), .lit (.int .u8 143)], .agg [.lit (.int .u8 0), .lit (.int .u8 0)], .agg [.lit (.int .u8 0), .lit (.int .u8 0)], .agg [.lit (.int .u8 0), .lit (.int .u8 0)], .agg [.lit (.int .u8 0), .lit (.int .u8 0)], .agg [.lit (.int .u8 0), .lit (.int .u8 0)], .agg [.lit (.int .u8 0), .lit (.int .u8 0)], .agg [.lit (.int .u8 0), .lit (.int .u8 0)], .agg [.lit (.int .u8 0), .lit (.int .u8 0)], .agg [.lit (.int .u8 0), .lit (.int .u8 0)], .agg [.lit (.int .u8 0), .lit (.int .u8 0)], .agg [.lit (.int .u8 0), .lit (.int .u8 0)]]
def laid_strconv_ErrRange {H : Type} : DataW H := .iface "*errors.errorString" (.ptr (.agg [.lit (.string [118, 97, 108, 117, 101, 32, 111, 117, 116, 32, 111, 102, 32, 114, 97, 110, 103, 101])]))
def laid_strconv_ErrSyntax {H : Type} : DataW H := .iface "*errors.errorString" (.ptr (.agg [.lit (.string [105, 110, 118, 97, 108, 105, 100, 32, 115, 121, 110, 116, 97, 120])]))
/-- One of Go's own tables, pinned by name: the form's constant. -/
def laid_unicode_utf8_first : DataW Unit := Go.Pinned.utf8First

/-- 'bipolelaw03.LoopScales': WHATEVER THE INPUT: true; the input reads as it did. -/
def loopScalesSpec : ChangeSpec := { name := "loopScales", fn := fun _ => fun
  | [d1, d2] => { results := [.lit (.bool true)], args := [d1, d2] }
  | _ => none }
def loopScalesRow : OpenClaim := { program := "ytnlmaildmeihgaagreatdoor", sum := "b171f4bd32c8516f0dcaaeddc58be03f90ada0864e6604aae0e3a4086d8a6ba7", func := "bipole/bipolelaw03.LoopScales", spec := "loopScales", inPlace := ["internal/abi.NoEscape", "internal/bytealg.MakeNoZero"], unfollowed := true, recurses := true, named := ["bipole/loop.quarters", "internal/strconv.uint64pow10", "math/bits.deBruijn32tab", "math/bits.deBruijn64tab"], apart := false, laid := [("math/bits.deBruijn32tab", laid_math_bits_deBruijn32tab), ("math/bits.deBruijn64tab", laid_math_bits_deBruijn64tab), ("internal/strconv.uint64pow10", laid_internal_strconv_uint64pow10), ("bipole/loop.quarters", laid_bipole_loop_quarters)] }
def LoopScalesSaid : Prop := loopScalesRow.holds Tryz.pinned (OpenSpec.ofChange loopScalesSpec)

/-- ITS FALSE NEIGHBOUR: 'it returns false'. Refute it at one input. -/
def loopScalesWrong : ChangeSpec := { name := "loopScales", fn := fun _ => fun
  | [d1, d2] => { results := [.lit (.bool false)], args := [d1, d2] }
  | _ => none }
def LoopScalesWrongFalsely : Prop := loopScalesRow.holds Tryz.pinned (OpenSpec.ofChange loopScalesWrong)

/-- 'bipolelaw03.LoopLoops': WHATEVER THE INPUT: true; the input reads as it did. -/
def loopLoopsSpec : ChangeSpec := { name := "loopLoops", fn := fun _ => fun
  | [d1, d2] => { results := [.lit (.bool true)], args := [d1, d2] }
  | _ => none }
def loopLoopsRow : OpenClaim := { program := "ytnlmaildmeihgaagreatdoor", sum := "b171f4bd32c8516f0dcaaeddc58be03f90ada0864e6604aae0e3a4086d8a6ba7", func := "bipole/bipolelaw03.LoopLoops", spec := "loopLoops", inPlace := ["internal/abi.NoEscape", "internal/bytealg.MakeNoZero"], unfollowed := true, recurses := true, named := ["bipole/loop.quarters", "internal/strconv.uint64pow10", "math/bits.deBruijn32tab", "math/bits.deBruijn64tab"], apart := false, laid := [("math/bits.deBruijn32tab", laid_math_bits_deBruijn32tab), ("math/bits.deBruijn64tab", laid_math_bits_deBruijn64tab), ("internal/strconv.uint64pow10", laid_internal_strconv_uint64pow10), ("bipole/loop.quarters", laid_bipole_loop_quarters)] }
def LoopLoopsSaid : Prop := loopLoopsRow.holds Tryz.pinned (OpenSpec.ofChange loopLoopsSpec)

/-- ITS FALSE NEIGHBOUR: 'it returns false'. Refute it at one input. -/
def loopLoopsWrong : ChangeSpec := { name := "loopLoops", fn := fun _ => fun
  | [d1, d2] => { results := [.lit (.bool false)], args := [d1, d2] }
  | _ => none }
def LoopLoopsWrongFalsely : Prop := loopLoopsRow.holds Tryz.pinned (OpenSpec.ofChange loopLoopsWrong)

/-- 'bipolelaw03.LoopBoxes': WHATEVER THE INPUT: true; the input reads as it did. -/
def loopBoxesSpec : ChangeSpec := { name := "loopBoxes", fn := fun _ => fun
  | [d1, d2] => { results := [.lit (.bool true)], args := [d1, d2] }
  | _ => none }
def loopBoxesRow : OpenClaim := { program := "ytnlmaildmeihgaagreatdoor", sum := "b171f4bd32c8516f0dcaaeddc58be03f90ada0864e6604aae0e3a4086d8a6ba7", func := "bipole/bipolelaw03.LoopBoxes", spec := "loopBoxes", inPlace := ["internal/abi.NoEscape", "internal/bytealg.MakeNoZero"], unfollowed := true, recurses := true, named := ["bipole/loop.quarters", "internal/strconv.uint64pow10", "math/bits.deBruijn32tab", "math/bits.deBruijn64tab"], apart := false, laid := [("math/bits.deBruijn32tab", laid_math_bits_deBruijn32tab), ("math/bits.deBruijn64tab", laid_math_bits_deBruijn64tab), ("internal/strconv.uint64pow10", laid_internal_strconv_uint64pow10), ("bipole/loop.quarters", laid_bipole_loop_quarters)] }
def LoopBoxesSaid : Prop := loopBoxesRow.holds Tryz.pinned (OpenSpec.ofChange loopBoxesSpec)

/-- ITS FALSE NEIGHBOUR: 'it returns false'. Refute it at one input. -/
def loopBoxesWrong : ChangeSpec := { name := "loopBoxes", fn := fun _ => fun
  | [d1, d2] => { results := [.lit (.bool false)], args := [d1, d2] }
  | _ => none }
def LoopBoxesWrongFalsely : Prop := loopBoxesRow.holds Tryz.pinned (OpenSpec.ofChange loopBoxesWrong)

/-- 'bipolelaw03.LoopSteps': WHATEVER THE INPUT: true; the input reads as it did. -/
def loopStepsSpec : ChangeSpec := { name := "loopSteps", fn := fun _ => fun
  | [d1, d2, d3] => { results := [.lit (.bool true)], args := [d1, d2, d3] }
  | _ => none }
def loopStepsRow : OpenClaim := { program := "ytnlmaildmeihgaagreatdoor", sum := "b171f4bd32c8516f0dcaaeddc58be03f90ada0864e6604aae0e3a4086d8a6ba7", func := "bipole/bipolelaw03.LoopSteps", spec := "loopSteps", inPlace := ["internal/abi.NoEscape", "internal/bytealg.MakeNoZero"], unfollowed := true, recurses := true, named := ["bipole/loop.quarters", "internal/strconv.uint64pow10", "math/bits.deBruijn32tab", "math/bits.deBruijn64tab"], apart := false, laid := [("math/bits.deBruijn32tab", laid_math_bits_deBruijn32tab), ("math/bits.deBruijn64tab", laid_math_bits_deBruijn64tab), ("internal/strconv.uint64pow10", laid_internal_strconv_uint64pow10), ("bipole/loop.quarters", laid_bipole_loop_quarters)] }
def LoopStepsSaid : Prop := loopStepsRow.holds Tryz.pinned (OpenSpec.ofChange loopStepsSpec)

/-- ITS FALSE NEIGHBOUR: 'it returns false'. Refute it at one input. -/
def loopStepsWrong : ChangeSpec := { name := "loopSteps", fn := fun _ => fun
  | [d1, d2, d3] => { results := [.lit (.bool false)], args := [d1, d2, d3] }
  | _ => none }
def LoopStepsWrongFalsely : Prop := loopStepsRow.holds Tryz.pinned (OpenSpec.ofChange loopStepsWrong)

/-- 'bipolelaw03.LoopRings': WHATEVER THE INPUT: true; the input reads as it did. -/
def loopRingsSpec : ChangeSpec := { name := "loopRings", fn := fun _ => fun
  | [d1, d2, d3] => { results := [.lit (.bool true)], args := [d1, d2, d3] }
  | _ => none }
def loopRingsRow : OpenClaim := { program := "ytnlmaildmeihgaagreatdoor", sum := "b171f4bd32c8516f0dcaaeddc58be03f90ada0864e6604aae0e3a4086d8a6ba7", func := "bipole/bipolelaw03.LoopRings", spec := "loopRings", inPlace := ["internal/abi.NoEscape", "internal/bytealg.MakeNoZero"], unfollowed := true, recurses := true, named := ["bipole/loop.quarters", "internal/strconv.uint64pow10", "math/bits.deBruijn32tab", "math/bits.deBruijn64tab"], apart := false, laid := [("math/bits.deBruijn32tab", laid_math_bits_deBruijn32tab), ("math/bits.deBruijn64tab", laid_math_bits_deBruijn64tab), ("internal/strconv.uint64pow10", laid_internal_strconv_uint64pow10), ("bipole/loop.quarters", laid_bipole_loop_quarters)] }
def LoopRingsSaid : Prop := loopRingsRow.holds Tryz.pinned (OpenSpec.ofChange loopRingsSpec)

/-- ITS FALSE NEIGHBOUR: 'it returns false'. Refute it at one input. -/
def loopRingsWrong : ChangeSpec := { name := "loopRings", fn := fun _ => fun
  | [d1, d2, d3] => { results := [.lit (.bool false)], args := [d1, d2, d3] }
  | _ => none }
def LoopRingsWrongFalsely : Prop := loopRingsRow.holds Tryz.pinned (OpenSpec.ofChange loopRingsWrong)

/-- 'bipolelaw03.LoopMade': WHATEVER THE INPUT: true; the input reads as it did. -/
def loopMadeSpec : ChangeSpec := { name := "loopMade", fn := fun _ => fun
  | [d1, d2, d3] => { results := [.lit (.bool true)], args := [d1, d2, d3] }
  | _ => none }
def loopMadeRow : OpenClaim := { program := "ytnlmaildmeihgaagreatdoor", sum := "b171f4bd32c8516f0dcaaeddc58be03f90ada0864e6604aae0e3a4086d8a6ba7", func := "bipole/bipolelaw03.LoopMade", spec := "loopMade", inPlace := ["internal/abi.NoEscape", "internal/bytealg.MakeNoZero"], unfollowed := true, recurses := true, named := ["bipole/loop.quarters", "internal/strconv.uint64pow10", "math/bits.deBruijn32tab", "math/bits.deBruijn64tab"], apart := false, laid := [("math/bits.deBruijn32tab", laid_math_bits_deBruijn32tab), ("math/bits.deBruijn64tab", laid_math_bits_deBruijn64tab), ("internal/strconv.uint64pow10", laid_internal_strconv_uint64pow10), ("bipole/loop.quarters", laid_bipole_loop_quarters)] }
def LoopMadeSaid : Prop := loopMadeRow.holds Tryz.pinned (OpenSpec.ofChange loopMadeSpec)

/-- ITS FALSE NEIGHBOUR: 'it returns false'. Refute it at one input. -/
def loopMadeWrong : ChangeSpec := { name := "loopMade", fn := fun _ => fun
  | [d1, d2, d3] => { results := [.lit (.bool false)], args := [d1, d2, d3] }
  | _ => none }
def LoopMadeWrongFalsely : Prop := loopMadeRow.holds Tryz.pinned (OpenSpec.ofChange loopMadeWrong)

/-- 'bipolelaw03.LoopWhole': WHATEVER THE INPUT: true; the input reads as it did. -/
def loopWholeSpec : ChangeSpec := { name := "loopWhole", fn := fun _ => fun
  | [d1, d2, d3] => { results := [.lit (.bool true)], args := [d1, d2, d3] }
  | _ => none }
def loopWholeRow : OpenClaim := { program := "ytnlmaildmeihgaagreatdoor", sum := "b171f4bd32c8516f0dcaaeddc58be03f90ada0864e6604aae0e3a4086d8a6ba7", func := "bipole/bipolelaw03.LoopWhole", spec := "loopWhole", inPlace := ["internal/abi.NoEscape", "internal/bytealg.MakeNoZero"], unfollowed := true, recurses := true, named := ["bipole/loop.quarters", "internal/strconv.uint64pow10", "math/bits.deBruijn32tab", "math/bits.deBruijn64tab"], apart := false, laid := [("math/bits.deBruijn32tab", laid_math_bits_deBruijn32tab), ("math/bits.deBruijn64tab", laid_math_bits_deBruijn64tab), ("internal/strconv.uint64pow10", laid_internal_strconv_uint64pow10), ("bipole/loop.quarters", laid_bipole_loop_quarters)] }
def LoopWholeSaid : Prop := loopWholeRow.holds Tryz.pinned (OpenSpec.ofChange loopWholeSpec)

/-- ITS FALSE NEIGHBOUR: 'it returns false'. Refute it at one input. -/
def loopWholeWrong : ChangeSpec := { name := "loopWhole", fn := fun _ => fun
  | [d1, d2, d3] => { results := [.lit (.bool false)], args := [d1, d2, d3] }
  | _ => none }
def LoopWholeWrongFalsely : Prop := loopWholeRow.holds Tryz.pinned (OpenSpec.ofChange loopWholeWrong)

/-- 'bipolelaw03.LoopCertified': WHATEVER THE INPUT: true; the input reads as it did. -/
def loopCertifiedSpec : ChangeSpec := { name := "loopCertified", fn := fun _ => fun
  | [d1, d2] => { results := [.lit (.bool true)], args := [d1, d2] }
  | _ => none }
def loopCertifiedRow : OpenClaim := { program := "ytnlmaildmeihgaagreatdoor", sum := "b171f4bd32c8516f0dcaaeddc58be03f90ada0864e6604aae0e3a4086d8a6ba7", func := "bipole/bipolelaw03.LoopCertified", spec := "loopCertified", inPlace := ["internal/abi.NoEscape", "internal/bytealg.MakeNoZero"], unfollowed := true, recurses := true, named := ["bipole/loop.quarters", "internal/strconv.uint64pow10", "math/bits.deBruijn32tab", "math/bits.deBruijn64tab"], apart := false, laid := [("math/bits.deBruijn32tab", laid_math_bits_deBruijn32tab), ("math/bits.deBruijn64tab", laid_math_bits_deBruijn64tab), ("internal/strconv.uint64pow10", laid_internal_strconv_uint64pow10), ("bipole/loop.quarters", laid_bipole_loop_quarters)] }
def LoopCertifiedSaid : Prop := loopCertifiedRow.holds Tryz.pinned (OpenSpec.ofChange loopCertifiedSpec)

/-- ITS FALSE NEIGHBOUR: 'it returns false'. Refute it at one input. -/
def loopCertifiedWrong : ChangeSpec := { name := "loopCertified", fn := fun _ => fun
  | [d1, d2] => { results := [.lit (.bool false)], args := [d1, d2] }
  | _ => none }
def LoopCertifiedWrongFalsely : Prop := loopCertifiedRow.holds Tryz.pinned (OpenSpec.ofChange loopCertifiedWrong)

/-- 'bipolelaw03.LoopFalls': WHATEVER THE INPUT: true; the input reads as it did. -/
def loopFallsSpec : ChangeSpec := { name := "loopFalls", fn := fun _ => fun
  | [d1, d2] => { results := [.lit (.bool true)], args := [d1, d2] }
  | _ => none }
def loopFallsRow : OpenClaim := { program := "ytnlmaildmeihgaagreatdoor", sum := "b171f4bd32c8516f0dcaaeddc58be03f90ada0864e6604aae0e3a4086d8a6ba7", func := "bipole/bipolelaw03.LoopFalls", spec := "loopFalls", inPlace := ["internal/abi.NoEscape", "internal/bytealg.MakeNoZero"], unfollowed := true, recurses := true, named := ["bipole/loop.quarters", "internal/strconv.uint64pow10", "math/bits.deBruijn32tab", "math/bits.deBruijn64tab"], apart := false, laid := [("math/bits.deBruijn32tab", laid_math_bits_deBruijn32tab), ("math/bits.deBruijn64tab", laid_math_bits_deBruijn64tab), ("internal/strconv.uint64pow10", laid_internal_strconv_uint64pow10), ("bipole/loop.quarters", laid_bipole_loop_quarters)] }
def LoopFallsSaid : Prop := loopFallsRow.holds Tryz.pinned (OpenSpec.ofChange loopFallsSpec)

/-- ITS FALSE NEIGHBOUR: 'it returns false'. Refute it at one input. -/
def loopFallsWrong : ChangeSpec := { name := "loopFalls", fn := fun _ => fun
  | [d1, d2] => { results := [.lit (.bool false)], args := [d1, d2] }
  | _ => none }
def LoopFallsWrongFalsely : Prop := loopFallsRow.holds Tryz.pinned (OpenSpec.ofChange loopFallsWrong)

/-- 'bipolelaw03.LoopSums': WHATEVER THE INPUT: true; the input reads as it did. -/
def loopSumsSpec : ChangeSpec := { name := "loopSums", fn := fun _ => fun
  | [d1, d2, d3] => { results := [.lit (.bool true)], args := [d1, d2, d3] }
  | _ => none }
def loopSumsRow : OpenClaim := { program := "ytnlmaildmeihgaagreatdoor", sum := "b171f4bd32c8516f0dcaaeddc58be03f90ada0864e6604aae0e3a4086d8a6ba7", func := "bipole/bipolelaw03.LoopSums", spec := "loopSums", inPlace := ["internal/abi.NoEscape", "internal/bytealg.MakeNoZero"], unfollowed := true, recurses := true, named := ["bipole/loop.quarters", "internal/strconv.uint64pow10", "math/bits.deBruijn32tab", "math/bits.deBruijn64tab"], apart := false, laid := [("math/bits.deBruijn32tab", laid_math_bits_deBruijn32tab), ("math/bits.deBruijn64tab", laid_math_bits_deBruijn64tab), ("internal/strconv.uint64pow10", laid_internal_strconv_uint64pow10), ("bipole/loop.quarters", laid_bipole_loop_quarters)] }
def LoopSumsSaid : Prop := loopSumsRow.holds Tryz.pinned (OpenSpec.ofChange loopSumsSpec)

/-- ITS FALSE NEIGHBOUR: 'it returns false'. Refute it at one input. -/
def loopSumsWrong : ChangeSpec := { name := "loopSums", fn := fun _ => fun
  | [d1, d2, d3] => { results := [.lit (.bool false)], args := [d1, d2, d3] }
  | _ => none }
def LoopSumsWrongFalsely : Prop := loopSumsRow.holds Tryz.pinned (OpenSpec.ofChange loopSumsWrong)

/-- 'bipolelaw03.LoopPolys': WHATEVER THE INPUT: true; the input reads as it did. -/
def loopPolysSpec : ChangeSpec := { name := "loopPolys", fn := fun _ => fun
  | [d1, d2, d3] => { results := [.lit (.bool true)], args := [d1, d2, d3] }
  | _ => none }
def loopPolysRow : OpenClaim := { program := "ytnlmaildmeihgaagreatdoor", sum := "b171f4bd32c8516f0dcaaeddc58be03f90ada0864e6604aae0e3a4086d8a6ba7", func := "bipole/bipolelaw03.LoopPolys", spec := "loopPolys", inPlace := ["internal/abi.NoEscape", "internal/bytealg.MakeNoZero"], unfollowed := true, recurses := true, named := ["bipole/loop.quarters", "internal/strconv.uint64pow10", "math/bits.deBruijn32tab", "math/bits.deBruijn64tab"], apart := false, laid := [("math/bits.deBruijn32tab", laid_math_bits_deBruijn32tab), ("math/bits.deBruijn64tab", laid_math_bits_deBruijn64tab), ("internal/strconv.uint64pow10", laid_internal_strconv_uint64pow10), ("bipole/loop.quarters", laid_bipole_loop_quarters)] }
def LoopPolysSaid : Prop := loopPolysRow.holds Tryz.pinned (OpenSpec.ofChange loopPolysSpec)

/-- ITS FALSE NEIGHBOUR: 'it returns false'. Refute it at one input. -/
def loopPolysWrong : ChangeSpec := { name := "loopPolys", fn := fun _ => fun
  | [d1, d2, d3] => { results := [.lit (.bool false)], args := [d1, d2, d3] }
  | _ => none }
def LoopPolysWrongFalsely : Prop := loopPolysRow.holds Tryz.pinned (OpenSpec.ofChange loopPolysWrong)

/-- 'bipolelaw03.LoopTables': WHATEVER THE INPUT: true; the input reads as it did. -/
def loopTablesSpec : ChangeSpec := { name := "loopTables", fn := fun _ => fun
  | [d1, d2] => { results := [.lit (.bool true)], args := [d1, d2] }
  | _ => none }
def loopTablesRow : OpenClaim := { program := "ytnlmaildmeihgaagreatdoor", sum := "b171f4bd32c8516f0dcaaeddc58be03f90ada0864e6604aae0e3a4086d8a6ba7", func := "bipole/bipolelaw03.LoopTables", spec := "loopTables", inPlace := ["internal/abi.NoEscape", "internal/bytealg.MakeNoZero"], unfollowed := true, recurses := true, named := ["bipole/loop.quarters", "internal/strconv.uint64pow10", "math/bits.deBruijn32tab", "math/bits.deBruijn64tab"], apart := false, laid := [("math/bits.deBruijn32tab", laid_math_bits_deBruijn32tab), ("math/bits.deBruijn64tab", laid_math_bits_deBruijn64tab), ("internal/strconv.uint64pow10", laid_internal_strconv_uint64pow10), ("bipole/loop.quarters", laid_bipole_loop_quarters)] }
def LoopTablesSaid : Prop := loopTablesRow.holds Tryz.pinned (OpenSpec.ofChange loopTablesSpec)

/-- ITS FALSE NEIGHBOUR: 'it returns false'. Refute it at one input. -/
def loopTablesWrong : ChangeSpec := { name := "loopTables", fn := fun _ => fun
  | [d1, d2] => { results := [.lit (.bool false)], args := [d1, d2] }
  | _ => none }
def LoopTablesWrongFalsely : Prop := loopTablesRow.holds Tryz.pinned (OpenSpec.ofChange loopTablesWrong)

/-- 'bipolelaw03.LoopRoots': WHATEVER THE INPUT: true; the input reads as it did. -/
def loopRootsSpec : ChangeSpec := { name := "loopRoots", fn := fun _ => fun
  | [d1, d2] => { results := [.lit (.bool true)], args := [d1, d2] }
  | _ => none }
def loopRootsRow : OpenClaim := { program := "ytnlmaildmeihgaagreatdoor", sum := "b171f4bd32c8516f0dcaaeddc58be03f90ada0864e6604aae0e3a4086d8a6ba7", func := "bipole/bipolelaw03.LoopRoots", spec := "loopRoots", inPlace := ["internal/abi.NoEscape", "internal/bytealg.MakeNoZero"], unfollowed := true, recurses := true, named := ["bipole/loop.quarters", "internal/strconv.uint64pow10", "math/bits.deBruijn32tab", "math/bits.deBruijn64tab"], apart := false, laid := [("math/bits.deBruijn32tab", laid_math_bits_deBruijn32tab), ("math/bits.deBruijn64tab", laid_math_bits_deBruijn64tab), ("internal/strconv.uint64pow10", laid_internal_strconv_uint64pow10), ("bipole/loop.quarters", laid_bipole_loop_quarters)] }
def LoopRootsSaid : Prop := loopRootsRow.holds Tryz.pinned (OpenSpec.ofChange loopRootsSpec)

/-- ITS FALSE NEIGHBOUR: 'it returns false'. Refute it at one input. -/
def loopRootsWrong : ChangeSpec := { name := "loopRoots", fn := fun _ => fun
  | [d1, d2] => { results := [.lit (.bool false)], args := [d1, d2] }
  | _ => none }
def LoopRootsWrongFalsely : Prop := loopRootsRow.holds Tryz.pinned (OpenSpec.ofChange loopRootsWrong)

/-- 'bipolelaw03.LoopTexts': WHATEVER THE INPUT: true; the input reads as it did. -/
def loopTextsSpec : ChangeSpec := { name := "loopTexts", fn := fun _ => fun
  | [d1, d2] => { results := [.lit (.bool true)], args := [d1, d2] }
  | _ => none }
def loopTextsRow : OpenClaim := { program := "ytnlmaildmeihgaagreatdoor", sum := "b171f4bd32c8516f0dcaaeddc58be03f90ada0864e6604aae0e3a4086d8a6ba7", func := "bipole/bipolelaw03.LoopTexts", spec := "loopTexts", inPlace := ["internal/abi.NoEscape", "internal/bytealg.MakeNoZero", "internal/bytealg.IndexByteString", "internal/bytealg.CountString", "internal/bytealg.IndexString"], unfollowed := true, recurses := true, named := ["bipole/loop.quarters", "internal/strconv.uint64pow10", "math/bits.deBruijn32tab", "math/bits.deBruijn64tab", "unicode/utf8.first", "unicode/utf8.acceptRanges", "internal/bytealg.MaxLen", "strconv.ErrSyntax", "strconv.ErrRange"], apart := false, laid := [("math/bits.deBruijn32tab", laid_math_bits_deBruijn32tab), ("math/bits.deBruijn64tab", laid_math_bits_deBruijn64tab), ("internal/strconv.uint64pow10", laid_internal_strconv_uint64pow10), ("unicode/utf8.acceptRanges", laid_unicode_utf8_acceptRanges), ("strconv.ErrRange", laid_strconv_ErrRange), ("strconv.ErrSyntax", laid_strconv_ErrSyntax), ("bipole/loop.quarters", laid_bipole_loop_quarters), ("unicode/utf8.first", laid_unicode_utf8_first)] }
def LoopTextsSaid : Prop := loopTextsRow.holds Tryz.pinned (OpenSpec.ofChange loopTextsSpec)

/-- ITS FALSE NEIGHBOUR: 'it returns false'. Refute it at one input. -/
def loopTextsWrong : ChangeSpec := { name := "loopTexts", fn := fun _ => fun
  | [d1, d2] => { results := [.lit (.bool false)], args := [d1, d2] }
  | _ => none }
def LoopTextsWrongFalsely : Prop := loopTextsRow.holds Tryz.pinned (OpenSpec.ofChange loopTextsWrong)

/-- 'bipolelaw03.LoopBack': WHATEVER THE INPUT: true; the input reads as it did. -/
def loopBackSpec : ChangeSpec := { name := "loopBack", fn := fun _ => fun
  | [d1, d2] => { results := [.lit (.bool true)], args := [d1, d2] }
  | _ => none }
def loopBackRow : OpenClaim := { program := "ytnlmaildmeihgaagreatdoor", sum := "b171f4bd32c8516f0dcaaeddc58be03f90ada0864e6604aae0e3a4086d8a6ba7", func := "bipole/bipolelaw03.LoopBack", spec := "loopBack", inPlace := ["internal/abi.NoEscape", "internal/bytealg.MakeNoZero", "internal/bytealg.IndexByteString", "internal/bytealg.CountString", "internal/bytealg.IndexString"], unfollowed := true, recurses := true, named := ["bipole/loop.quarters", "internal/strconv.uint64pow10", "math/bits.deBruijn32tab", "math/bits.deBruijn64tab", "unicode/utf8.first", "unicode/utf8.acceptRanges", "internal/bytealg.MaxLen", "strconv.ErrSyntax", "strconv.ErrRange"], apart := false, laid := [("math/bits.deBruijn32tab", laid_math_bits_deBruijn32tab), ("math/bits.deBruijn64tab", laid_math_bits_deBruijn64tab), ("internal/strconv.uint64pow10", laid_internal_strconv_uint64pow10), ("unicode/utf8.acceptRanges", laid_unicode_utf8_acceptRanges), ("strconv.ErrRange", laid_strconv_ErrRange), ("strconv.ErrSyntax", laid_strconv_ErrSyntax), ("bipole/loop.quarters", laid_bipole_loop_quarters), ("unicode/utf8.first", laid_unicode_utf8_first)] }
def LoopBackSaid : Prop := loopBackRow.holds Tryz.pinned (OpenSpec.ofChange loopBackSpec)

/-- ITS FALSE NEIGHBOUR: 'it returns false'. Refute it at one input. -/
def loopBackWrong : ChangeSpec := { name := "loopBack", fn := fun _ => fun
  | [d1, d2] => { results := [.lit (.bool false)], args := [d1, d2] }
  | _ => none }
def LoopBackWrongFalsely : Prop := loopBackRow.holds Tryz.pinned (OpenSpec.ofChange loopBackWrong)

/- THE SECOND FORM. 'bulk': how many values and letters a reading holds, each counted each time it is reached (what is shared counts as often as it is met; a slice's spare places count too). A statement '..UptoSaid' is the law's where the arguments, and the package variables that the reading takes, are together of bulk at most 1048576: NARROWER than '..Said'. Prove '..Said' where nothing that the law and all that it calls make is longer than what came in: it says more and counts as full. Else prove '..UptoSaid'. A law counts once. -/
mutual
def uptoBulk {H : Type} : DataW H → Nat
  | .lit (.string bytes) => bytes.length + 1
  | .lit _ => 1
  | .nil => 1
  | .ptr d => uptoBulk d + 1
  | .slice elems spare => uptoBulkAll elems + uptoBulkAll spare + 1
  | .agg parts => uptoBulkAll parts + 1
  | .iface _ d => uptoBulk d + 1
  | .map entries => uptoBulkEntries entries + 1
  | .held _ => 1
def uptoBulkAll {H : Type} : List (DataW H) → Nat
  | [] => 0
  | d :: r => uptoBulk d + uptoBulkAll r
def uptoBulkEntries {H : Type} : List (Lit × DataW H) → Nat
  | [] => 0
  | x :: r => uptoBulkEntry x + uptoBulkEntries r
def uptoBulkEntry {H : Type} : Lit × DataW H → Nat
  | (.string bytes, d) => bytes.length + uptoBulk d + 1
  | (_, d) => uptoBulk d + 1
 end
def uptoSmall : (H : Type) → List (DataW H) → Bool := fun _ ds => decide (uptoBulkAll ds ≤ 1048576)
def OpenSpec.upto (s : _root_.Go.ChangeSpec) : _root_.Go.OpenSpec := { _root_.Go.OpenSpec.ofChange s with cond := some uptoSmall }

/-- 'bipolelaw03.LoopScales', WHERE WHAT IT READS IS OF BULK AT MOST 1048576: true; the input reads as it did. -/
def loopScalesUptoRow : OpenClaim := { program := "ytnlmaildmeihgaagreatdoor", sum := "b171f4bd32c8516f0dcaaeddc58be03f90ada0864e6604aae0e3a4086d8a6ba7", func := "bipole/bipolelaw03.LoopScales", spec := "loopScales", inPlace := ["internal/abi.NoEscape", "internal/bytealg.MakeNoZero"], unfollowed := true, recurses := true, named := ["bipole/loop.quarters", "internal/strconv.uint64pow10", "math/bits.deBruijn32tab", "math/bits.deBruijn64tab"], apart := false, laid := [("math/bits.deBruijn32tab", laid_math_bits_deBruijn32tab), ("math/bits.deBruijn64tab", laid_math_bits_deBruijn64tab), ("internal/strconv.uint64pow10", laid_internal_strconv_uint64pow10), ("bipole/loop.quarters", laid_bipole_loop_quarters)], narrowed := true }
def LoopScalesUptoSaid : Prop := loopScalesUptoRow.holds Tryz.pinned (OpenSpec.upto loopScalesSpec)

/-- 'bipolelaw03.LoopLoops', WHERE WHAT IT READS IS OF BULK AT MOST 1048576: true; the input reads as it did. -/
def loopLoopsUptoRow : OpenClaim := { program := "ytnlmaildmeihgaagreatdoor", sum := "b171f4bd32c8516f0dcaaeddc58be03f90ada0864e6604aae0e3a4086d8a6ba7", func := "bipole/bipolelaw03.LoopLoops", spec := "loopLoops", inPlace := ["internal/abi.NoEscape", "internal/bytealg.MakeNoZero"], unfollowed := true, recurses := true, named := ["bipole/loop.quarters", "internal/strconv.uint64pow10", "math/bits.deBruijn32tab", "math/bits.deBruijn64tab"], apart := false, laid := [("math/bits.deBruijn32tab", laid_math_bits_deBruijn32tab), ("math/bits.deBruijn64tab", laid_math_bits_deBruijn64tab), ("internal/strconv.uint64pow10", laid_internal_strconv_uint64pow10), ("bipole/loop.quarters", laid_bipole_loop_quarters)], narrowed := true }
def LoopLoopsUptoSaid : Prop := loopLoopsUptoRow.holds Tryz.pinned (OpenSpec.upto loopLoopsSpec)

/-- 'bipolelaw03.LoopBoxes', WHERE WHAT IT READS IS OF BULK AT MOST 1048576: true; the input reads as it did. -/
def loopBoxesUptoRow : OpenClaim := { program := "ytnlmaildmeihgaagreatdoor", sum := "b171f4bd32c8516f0dcaaeddc58be03f90ada0864e6604aae0e3a4086d8a6ba7", func := "bipole/bipolelaw03.LoopBoxes", spec := "loopBoxes", inPlace := ["internal/abi.NoEscape", "internal/bytealg.MakeNoZero"], unfollowed := true, recurses := true, named := ["bipole/loop.quarters", "internal/strconv.uint64pow10", "math/bits.deBruijn32tab", "math/bits.deBruijn64tab"], apart := false, laid := [("math/bits.deBruijn32tab", laid_math_bits_deBruijn32tab), ("math/bits.deBruijn64tab", laid_math_bits_deBruijn64tab), ("internal/strconv.uint64pow10", laid_internal_strconv_uint64pow10), ("bipole/loop.quarters", laid_bipole_loop_quarters)], narrowed := true }
def LoopBoxesUptoSaid : Prop := loopBoxesUptoRow.holds Tryz.pinned (OpenSpec.upto loopBoxesSpec)

/-- 'bipolelaw03.LoopSteps', WHERE WHAT IT READS IS OF BULK AT MOST 1048576: true; the input reads as it did. -/
def loopStepsUptoRow : OpenClaim := { program := "ytnlmaildmeihgaagreatdoor", sum := "b171f4bd32c8516f0dcaaeddc58be03f90ada0864e6604aae0e3a4086d8a6ba7", func := "bipole/bipolelaw03.LoopSteps", spec := "loopSteps", inPlace := ["internal/abi.NoEscape", "internal/bytealg.MakeNoZero"], unfollowed := true, recurses := true, named := ["bipole/loop.quarters", "internal/strconv.uint64pow10", "math/bits.deBruijn32tab", "math/bits.deBruijn64tab"], apart := false, laid := [("math/bits.deBruijn32tab", laid_math_bits_deBruijn32tab), ("math/bits.deBruijn64tab", laid_math_bits_deBruijn64tab), ("internal/strconv.uint64pow10", laid_internal_strconv_uint64pow10), ("bipole/loop.quarters", laid_bipole_loop_quarters)], narrowed := true }
def LoopStepsUptoSaid : Prop := loopStepsUptoRow.holds Tryz.pinned (OpenSpec.upto loopStepsSpec)

/-- 'bipolelaw03.LoopRings', WHERE WHAT IT READS IS OF BULK AT MOST 1048576: true; the input reads as it did. -/
def loopRingsUptoRow : OpenClaim := { program := "ytnlmaildmeihgaagreatdoor", sum := "b171f4bd32c8516f0dcaaeddc58be03f90ada0864e6604aae0e3a4086d8a6ba7", func := "bipole/bipolelaw03.LoopRings", spec := "loopRings", inPlace := ["internal/abi.NoEscape", "internal/bytealg.MakeNoZero"], unfollowed := true, recurses := true, named := ["bipole/loop.quarters", "internal/strconv.uint64pow10", "math/bits.deBruijn32tab", "math/bits.deBruijn64tab"], apart := false, laid := [("math/bits.deBruijn32tab", laid_math_bits_deBruijn32tab), ("math/bits.deBruijn64tab", laid_math_bits_deBruijn64tab), ("internal/strconv.uint64pow10", laid_internal_strconv_uint64pow10), ("bipole/loop.quarters", laid_bipole_loop_quarters)], narrowed := true }
def LoopRingsUptoSaid : Prop := loopRingsUptoRow.holds Tryz.pinned (OpenSpec.upto loopRingsSpec)

/-- 'bipolelaw03.LoopMade', WHERE WHAT IT READS IS OF BULK AT MOST 1048576: true; the input reads as it did. -/
def loopMadeUptoRow : OpenClaim := { program := "ytnlmaildmeihgaagreatdoor", sum := "b171f4bd32c8516f0dcaaeddc58be03f90ada0864e6604aae0e3a4086d8a6ba7", func := "bipole/bipolelaw03.LoopMade", spec := "loopMade", inPlace := ["internal/abi.NoEscape", "internal/bytealg.MakeNoZero"], unfollowed := true, recurses := true, named := ["bipole/loop.quarters", "internal/strconv.uint64pow10", "math/bits.deBruijn32tab", "math/bits.deBruijn64tab"], apart := false, laid := [("math/bits.deBruijn32tab", laid_math_bits_deBruijn32tab), ("math/bits.deBruijn64tab", laid_math_bits_deBruijn64tab), ("internal/strconv.uint64pow10", laid_internal_strconv_uint64pow10), ("bipole/loop.quarters", laid_bipole_loop_quarters)], narrowed := true }
def LoopMadeUptoSaid : Prop := loopMadeUptoRow.holds Tryz.pinned (OpenSpec.upto loopMadeSpec)

/-- 'bipolelaw03.LoopWhole', WHERE WHAT IT READS IS OF BULK AT MOST 1048576: true; the input reads as it did. -/
def loopWholeUptoRow : OpenClaim := { program := "ytnlmaildmeihgaagreatdoor", sum := "b171f4bd32c8516f0dcaaeddc58be03f90ada0864e6604aae0e3a4086d8a6ba7", func := "bipole/bipolelaw03.LoopWhole", spec := "loopWhole", inPlace := ["internal/abi.NoEscape", "internal/bytealg.MakeNoZero"], unfollowed := true, recurses := true, named := ["bipole/loop.quarters", "internal/strconv.uint64pow10", "math/bits.deBruijn32tab", "math/bits.deBruijn64tab"], apart := false, laid := [("math/bits.deBruijn32tab", laid_math_bits_deBruijn32tab), ("math/bits.deBruijn64tab", laid_math_bits_deBruijn64tab), ("internal/strconv.uint64pow10", laid_internal_strconv_uint64pow10), ("bipole/loop.quarters", laid_bipole_loop_quarters)], narrowed := true }
def LoopWholeUptoSaid : Prop := loopWholeUptoRow.holds Tryz.pinned (OpenSpec.upto loopWholeSpec)

/-- 'bipolelaw03.LoopCertified', WHERE WHAT IT READS IS OF BULK AT MOST 1048576: true; the input reads as it did. -/
def loopCertifiedUptoRow : OpenClaim := { program := "ytnlmaildmeihgaagreatdoor", sum := "b171f4bd32c8516f0dcaaeddc58be03f90ada0864e6604aae0e3a4086d8a6ba7", func := "bipole/bipolelaw03.LoopCertified", spec := "loopCertified", inPlace := ["internal/abi.NoEscape", "internal/bytealg.MakeNoZero"], unfollowed := true, recurses := true, named := ["bipole/loop.quarters", "internal/strconv.uint64pow10", "math/bits.deBruijn32tab", "math/bits.deBruijn64tab"], apart := false, laid := [("math/bits.deBruijn32tab", laid_math_bits_deBruijn32tab), ("math/bits.deBruijn64tab", laid_math_bits_deBruijn64tab), ("internal/strconv.uint64pow10", laid_internal_strconv_uint64pow10), ("bipole/loop.quarters", laid_bipole_loop_quarters)], narrowed := true }
def LoopCertifiedUptoSaid : Prop := loopCertifiedUptoRow.holds Tryz.pinned (OpenSpec.upto loopCertifiedSpec)

/-- 'bipolelaw03.LoopFalls', WHERE WHAT IT READS IS OF BULK AT MOST 1048576: true; the input reads as it did. -/
def loopFallsUptoRow : OpenClaim := { program := "ytnlmaildmeihgaagreatdoor", sum := "b171f4bd32c8516f0dcaaeddc58be03f90ada0864e6604aae0e3a4086d8a6ba7", func := "bipole/bipolelaw03.LoopFalls", spec := "loopFalls", inPlace := ["internal/abi.NoEscape", "internal/bytealg.MakeNoZero"], unfollowed := true, recurses := true, named := ["bipole/loop.quarters", "internal/strconv.uint64pow10", "math/bits.deBruijn32tab", "math/bits.deBruijn64tab"], apart := false, laid := [("math/bits.deBruijn32tab", laid_math_bits_deBruijn32tab), ("math/bits.deBruijn64tab", laid_math_bits_deBruijn64tab), ("internal/strconv.uint64pow10", laid_internal_strconv_uint64pow10), ("bipole/loop.quarters", laid_bipole_loop_quarters)], narrowed := true }
def LoopFallsUptoSaid : Prop := loopFallsUptoRow.holds Tryz.pinned (OpenSpec.upto loopFallsSpec)

/-- 'bipolelaw03.LoopSums', WHERE WHAT IT READS IS OF BULK AT MOST 1048576: true; the input reads as it did. -/
def loopSumsUptoRow : OpenClaim := { program := "ytnlmaildmeihgaagreatdoor", sum := "b171f4bd32c8516f0dcaaeddc58be03f90ada0864e6604aae0e3a4086d8a6ba7", func := "bipole/bipolelaw03.LoopSums", spec := "loopSums", inPlace := ["internal/abi.NoEscape", "internal/bytealg.MakeNoZero"], unfollowed := true, recurses := true, named := ["bipole/loop.quarters", "internal/strconv.uint64pow10", "math/bits.deBruijn32tab", "math/bits.deBruijn64tab"], apart := false, laid := [("math/bits.deBruijn32tab", laid_math_bits_deBruijn32tab), ("math/bits.deBruijn64tab", laid_math_bits_deBruijn64tab), ("internal/strconv.uint64pow10", laid_internal_strconv_uint64pow10), ("bipole/loop.quarters", laid_bipole_loop_quarters)], narrowed := true }
def LoopSumsUptoSaid : Prop := loopSumsUptoRow.holds Tryz.pinned (OpenSpec.upto loopSumsSpec)

/-- 'bipolelaw03.LoopPolys', WHERE WHAT IT READS IS OF BULK AT MOST 1048576: true; the input reads as it did. -/
def loopPolysUptoRow : OpenClaim := { program := "ytnlmaildmeihgaagreatdoor", sum := "b171f4bd32c8516f0dcaaeddc58be03f90ada0864e6604aae0e3a4086d8a6ba7", func := "bipole/bipolelaw03.LoopPolys", spec := "loopPolys", inPlace := ["internal/abi.NoEscape", "internal/bytealg.MakeNoZero"], unfollowed := true, recurses := true, named := ["bipole/loop.quarters", "internal/strconv.uint64pow10", "math/bits.deBruijn32tab", "math/bits.deBruijn64tab"], apart := false, laid := [("math/bits.deBruijn32tab", laid_math_bits_deBruijn32tab), ("math/bits.deBruijn64tab", laid_math_bits_deBruijn64tab), ("internal/strconv.uint64pow10", laid_internal_strconv_uint64pow10), ("bipole/loop.quarters", laid_bipole_loop_quarters)], narrowed := true }
def LoopPolysUptoSaid : Prop := loopPolysUptoRow.holds Tryz.pinned (OpenSpec.upto loopPolysSpec)

/-- 'bipolelaw03.LoopTables', WHERE WHAT IT READS IS OF BULK AT MOST 1048576: true; the input reads as it did. -/
def loopTablesUptoRow : OpenClaim := { program := "ytnlmaildmeihgaagreatdoor", sum := "b171f4bd32c8516f0dcaaeddc58be03f90ada0864e6604aae0e3a4086d8a6ba7", func := "bipole/bipolelaw03.LoopTables", spec := "loopTables", inPlace := ["internal/abi.NoEscape", "internal/bytealg.MakeNoZero"], unfollowed := true, recurses := true, named := ["bipole/loop.quarters", "internal/strconv.uint64pow10", "math/bits.deBruijn32tab", "math/bits.deBruijn64tab"], apart := false, laid := [("math/bits.deBruijn32tab", laid_math_bits_deBruijn32tab), ("math/bits.deBruijn64tab", laid_math_bits_deBruijn64tab), ("internal/strconv.uint64pow10", laid_internal_strconv_uint64pow10), ("bipole/loop.quarters", laid_bipole_loop_quarters)], narrowed := true }
def LoopTablesUptoSaid : Prop := loopTablesUptoRow.holds Tryz.pinned (OpenSpec.upto loopTablesSpec)

/-- 'bipolelaw03.LoopRoots', WHERE WHAT IT READS IS OF BULK AT MOST 1048576: true; the input reads as it did. -/
def loopRootsUptoRow : OpenClaim := { program := "ytnlmaildmeihgaagreatdoor", sum := "b171f4bd32c8516f0dcaaeddc58be03f90ada0864e6604aae0e3a4086d8a6ba7", func := "bipole/bipolelaw03.LoopRoots", spec := "loopRoots", inPlace := ["internal/abi.NoEscape", "internal/bytealg.MakeNoZero"], unfollowed := true, recurses := true, named := ["bipole/loop.quarters", "internal/strconv.uint64pow10", "math/bits.deBruijn32tab", "math/bits.deBruijn64tab"], apart := false, laid := [("math/bits.deBruijn32tab", laid_math_bits_deBruijn32tab), ("math/bits.deBruijn64tab", laid_math_bits_deBruijn64tab), ("internal/strconv.uint64pow10", laid_internal_strconv_uint64pow10), ("bipole/loop.quarters", laid_bipole_loop_quarters)], narrowed := true }
def LoopRootsUptoSaid : Prop := loopRootsUptoRow.holds Tryz.pinned (OpenSpec.upto loopRootsSpec)

/-- 'bipolelaw03.LoopTexts', WHERE WHAT IT READS IS OF BULK AT MOST 1048576: true; the input reads as it did. -/
def loopTextsUptoRow : OpenClaim := { program := "ytnlmaildmeihgaagreatdoor", sum := "b171f4bd32c8516f0dcaaeddc58be03f90ada0864e6604aae0e3a4086d8a6ba7", func := "bipole/bipolelaw03.LoopTexts", spec := "loopTexts", inPlace := ["internal/abi.NoEscape", "internal/bytealg.MakeNoZero", "internal/bytealg.IndexByteString", "internal/bytealg.CountString", "internal/bytealg.IndexString"], unfollowed := true, recurses := true, named := ["bipole/loop.quarters", "internal/strconv.uint64pow10", "math/bits.deBruijn32tab", "math/bits.deBruijn64tab", "unicode/utf8.first", "unicode/utf8.acceptRanges", "internal/bytealg.MaxLen", "strconv.ErrSyntax", "strconv.ErrRange"], apart := false, laid := [("math/bits.deBruijn32tab", laid_math_bits_deBruijn32tab), ("math/bits.deBruijn64tab", laid_math_bits_deBruijn64tab), ("internal/strconv.uint64pow10", laid_internal_strconv_uint64pow10), ("unicode/utf8.acceptRanges", laid_unicode_utf8_acceptRanges), ("strconv.ErrRange", laid_strconv_ErrRange), ("strconv.ErrSyntax", laid_strconv_ErrSyntax), ("bipole/loop.quarters", laid_bipole_loop_quarters), ("unicode/utf8.first", laid_unicode_utf8_first)], narrowed := true }
def LoopTextsUptoSaid : Prop := loopTextsUptoRow.holds Tryz.pinned (OpenSpec.upto loopTextsSpec)

/-- 'bipolelaw03.LoopBack', WHERE WHAT IT READS IS OF BULK AT MOST 1048576: true; the input reads as it did. -/
def loopBackUptoRow : OpenClaim := { program := "ytnlmaildmeihgaagreatdoor", sum := "b171f4bd32c8516f0dcaaeddc58be03f90ada0864e6604aae0e3a4086d8a6ba7", func := "bipole/bipolelaw03.LoopBack", spec := "loopBack", inPlace := ["internal/abi.NoEscape", "internal/bytealg.MakeNoZero", "internal/bytealg.IndexByteString", "internal/bytealg.CountString", "internal/bytealg.IndexString"], unfollowed := true, recurses := true, named := ["bipole/loop.quarters", "internal/strconv.uint64pow10", "math/bits.deBruijn32tab", "math/bits.deBruijn64tab", "unicode/utf8.first", "unicode/utf8.acceptRanges", "internal/bytealg.MaxLen", "strconv.ErrSyntax", "strconv.ErrRange"], apart := false, laid := [("math/bits.deBruijn32tab", laid_math_bits_deBruijn32tab), ("math/bits.deBruijn64tab", laid_math_bits_deBruijn64tab), ("internal/strconv.uint64pow10", laid_internal_strconv_uint64pow10), ("unicode/utf8.acceptRanges", laid_unicode_utf8_acceptRanges), ("strconv.ErrRange", laid_strconv_ErrRange), ("strconv.ErrSyntax", laid_strconv_ErrSyntax), ("bipole/loop.quarters", laid_bipole_loop_quarters), ("unicode/utf8.first", laid_unicode_utf8_first)], narrowed := true }
def LoopBackUptoSaid : Prop := loopBackUptoRow.holds Tryz.pinned (OpenSpec.upto loopBackSpec)

end Rows
end Go.Proofs.YtnlmaildmeihgaaGreatDoor

/-
  NARROWER THAN 'FOR EVERY INPUT', by the rows' own cells (each row's printed sentence says how): TreeStays: laid · TreeFills: laid · TreeForgets: laid · TreeCovers: laid · TreeFresh: laid.
  DERIVED. THE GIVEN ROWS OF THIS SEAT. 5 by the template 'for every input the law returns true; each argument reads behind the call as it read before'; 0 by the template 'total and deterministic' (their statements: YtopkanokpfhmmaaDoorTotals.lean).
  GIVEN WITH THE SEED: the statements are not yours to turn. If you find one false, say at which input.
  Laid BY PROGRAM, IN A SANDBOX (cutbox-rows.mjs): the forced cells as the released guide's own fill.sh prints them over the translation 7772ceb0aa81a0c0… (all of the seat's roots in one cut). By AI agents, Wed Nov 11 2026. No macro, syntax, notation, axiom, sorry.
-/
import Derived.Test.YtopkanokpfhmmaaDoorChecked
import GoSem.Claim
import GoSem.ClaimJoined
import GoSem.ClaimMapViews
import Derived.JoinedTies
import Derived.KernelRfl
namespace Go.Proofs.YtopkanokpfhmmaaDoor
/- THE CELL 'sum', in the pinned program and in every row, IS THE sha256 OF THE DUMP (.gsa) THAT YtopkanokpfhmmaaDoorProg.lean LOADS. Nothing in Lean hashes anything: it is a label: what it is worth is what the hold of that sum in a sandbox is worth. -/
noncomputable def Tryd.pinned : Pinned := { name := "ytopkanokpfhmmaadoor", sum := "7772ceb0aa81a0c045771c8286842f539f8df28a460af1bd8e21558cda9b4a3d", checked := Tryd.checked }
namespace Rows
def none {H : Type} : Left H := { results := [], args := [] }

/- WHAT THE LISTED PACKAGE-LEVEL VARIABLES READ AS WHEN THE CALL BEGINS. Each datum BY PROGRAM (the guide's laid-datum.mjs) off the statement by which the dump's own 'gosem.cut.vars' lays the variable. In a bare row this is a premise. The card (YtopkanokpfhmmaaDoorCards.lean) ties it to the program's text. -/
def laid_math_bits_deBruijn64tab {H : Type} : DataW H := .agg [.lit (.int .u8 0), .lit (.int .u8 1), .lit (.int .u8 56), .lit (.int .u8 2), .lit (.int .u8 57), .lit (.int .u8 49), .lit (.int .u8 28), .lit (.int .u8 3), .lit (.int .u8 61), .lit (.int .u8 58), .lit (.int .u8 42), .lit (.int .u8 50), .lit (.int .u8 38), .lit (.int .u8 29), .lit (.int .u8 17), .lit (.int .u8 4), .lit (.int .u8 62), .lit (.int .u8 47), .lit (.int .u8 59), .lit (.int .u8 36), .lit (.int .u8 45), .lit (.int .u8 43), .lit (.int .u8 51), .lit (.int .u8 22), .lit (.int .u8 53), .lit (.int .u8 39), .lit (.int .u8 33), .lit (.int .u8 30), .lit (.int .u8 24), .lit (.int .u8 18), .lit (.int .u8 12), .lit (.int .u8 5), .lit (.int .u8 63), .lit (.int .u8 55), .lit (.int .u8 48), .lit (.int .u8 27), .lit (.int .u8 60), .lit (.int .u8 41), .lit (.int .u8 37), .lit (.int .u8 16), .lit (.int .u8 46), .lit (.int .u8 35), .lit (.int .u8 44), .lit (.int .u8 21), .lit (.int .u8 52), .lit (.int .u8 32), .lit (.int .u8 23), .lit (.int .u8 11), .lit (.int .u8 54), .lit (.int .u8 26), .lit (.int .u8 40), .lit (.int .u8 15), .lit (.int .u8 34), .lit (.int .u8 20), .lit (.int .u8 31), .lit (.int .u8 10), .lit (.int .u8 25), .lit (.int .u8 14), .lit (.int .u8 19), .lit (.int .u8 9), .lit (.int .u8 13), .lit (.int .u8 8), .lit (.int .u8 7), .lit (.int .u8 6)]

/-- 'phratrylaw08.TreeStays': WHATEVER THE INPUT: true; the input reads as it did. -/
def treeStaysSpec : ChangeSpec := { name := "treeStays", fn := fun _ => fun
  | [d1, d2, d3, d4] => { results := [.lit (.bool true)], args := [d1, d2, d3, d4] }
  | _ => none }
def treeStaysRow : OpenClaim := { program := "ytopkanokpfhmmaadoor", sum := "7772ceb0aa81a0c045771c8286842f539f8df28a460af1bd8e21558cda9b4a3d", func := "phratry/phratrylaw08.TreeStays", spec := "treeStays", inPlace := ["slices.overlaps[int]"], recurses := true, named := ["math/bits.deBruijn64tab"], apart := false, laid := [("math/bits.deBruijn64tab", laid_math_bits_deBruijn64tab)] }
def TreeStaysSaid : Prop := treeStaysRow.holds Tryd.pinned (OpenSpec.ofChange treeStaysSpec)

/-- ITS FALSE NEIGHBOUR: 'it returns false'. Refute it at one input. -/
def treeStaysWrong : ChangeSpec := { name := "treeStays", fn := fun _ => fun
  | [d1, d2, d3, d4] => { results := [.lit (.bool false)], args := [d1, d2, d3, d4] }
  | _ => none }
def TreeStaysWrongFalsely : Prop := treeStaysRow.holds Tryd.pinned (OpenSpec.ofChange treeStaysWrong)

/-- 'phratrylaw08.TreeFills': WHATEVER THE INPUT: true; the input reads as it did. -/
def treeFillsSpec : ChangeSpec := { name := "treeFills", fn := fun _ => fun
  | [d1, d2] => { results := [.lit (.bool true)], args := [d1, d2] }
  | _ => none }
def treeFillsRow : OpenClaim := { program := "ytopkanokpfhmmaadoor", sum := "7772ceb0aa81a0c045771c8286842f539f8df28a460af1bd8e21558cda9b4a3d", func := "phratry/phratrylaw08.TreeFills", spec := "treeFills", inPlace := ["slices.overlaps[int]"], recurses := true, named := ["math/bits.deBruijn64tab"], apart := false, laid := [("math/bits.deBruijn64tab", laid_math_bits_deBruijn64tab)] }
def TreeFillsSaid : Prop := treeFillsRow.holds Tryd.pinned (OpenSpec.ofChange treeFillsSpec)

/-- ITS FALSE NEIGHBOUR: 'it returns false'. Refute it at one input. -/
def treeFillsWrong : ChangeSpec := { name := "treeFills", fn := fun _ => fun
  | [d1, d2] => { results := [.lit (.bool false)], args := [d1, d2] }
  | _ => none }
def TreeFillsWrongFalsely : Prop := treeFillsRow.holds Tryd.pinned (OpenSpec.ofChange treeFillsWrong)

/-- 'phratrylaw08.TreeForgets': WHATEVER THE INPUT: true; the input reads as it did. -/
def treeForgetsSpec : ChangeSpec := { name := "treeForgets", fn := fun _ => fun
  | [d1, d2] => { results := [.lit (.bool true)], args := [d1, d2] }
  | _ => none }
def treeForgetsRow : OpenClaim := { program := "ytopkanokpfhmmaadoor", sum := "7772ceb0aa81a0c045771c8286842f539f8df28a460af1bd8e21558cda9b4a3d", func := "phratry/phratrylaw08.TreeForgets", spec := "treeForgets", inPlace := ["slices.overlaps[int]"], recurses := true, named := ["math/bits.deBruijn64tab"], apart := false, laid := [("math/bits.deBruijn64tab", laid_math_bits_deBruijn64tab)] }
def TreeForgetsSaid : Prop := treeForgetsRow.holds Tryd.pinned (OpenSpec.ofChange treeForgetsSpec)

/-- ITS FALSE NEIGHBOUR: 'it returns false'. Refute it at one input. -/
def treeForgetsWrong : ChangeSpec := { name := "treeForgets", fn := fun _ => fun
  | [d1, d2] => { results := [.lit (.bool false)], args := [d1, d2] }
  | _ => none }
def TreeForgetsWrongFalsely : Prop := treeForgetsRow.holds Tryd.pinned (OpenSpec.ofChange treeForgetsWrong)

/-- 'phratrylaw08.TreeCovers': WHATEVER THE INPUT: true; the input reads as it did. -/
def treeCoversSpec : ChangeSpec := { name := "treeCovers", fn := fun _ => fun
  | [d1, d2, d3] => { results := [.lit (.bool true)], args := [d1, d2, d3] }
  | _ => none }
def treeCoversRow : OpenClaim := { program := "ytopkanokpfhmmaadoor", sum := "7772ceb0aa81a0c045771c8286842f539f8df28a460af1bd8e21558cda9b4a3d", func := "phratry/phratrylaw08.TreeCovers", spec := "treeCovers", inPlace := ["slices.overlaps[int]"], unfollowed := true, recurses := true, named := ["math/bits.deBruijn64tab"], apart := false, laid := [("math/bits.deBruijn64tab", laid_math_bits_deBruijn64tab)] }
def TreeCoversSaid : Prop := treeCoversRow.holds Tryd.pinned (OpenSpec.ofChange treeCoversSpec)

/-- ITS FALSE NEIGHBOUR: 'it returns false'. Refute it at one input. -/
def treeCoversWrong : ChangeSpec := { name := "treeCovers", fn := fun _ => fun
  | [d1, d2, d3] => { results := [.lit (.bool false)], args := [d1, d2, d3] }
  | _ => none }
def TreeCoversWrongFalsely : Prop := treeCoversRow.holds Tryd.pinned (OpenSpec.ofChange treeCoversWrong)

/-- 'phratrylaw08.TreeFresh': WHATEVER THE INPUT: true; the input reads as it did. -/
def treeFreshSpec : ChangeSpec := { name := "treeFresh", fn := fun _ => fun
  | [d1, d2, d3] => { results := [.lit (.bool true)], args := [d1, d2, d3] }
  | _ => none }
def treeFreshRow : OpenClaim := { program := "ytopkanokpfhmmaadoor", sum := "7772ceb0aa81a0c045771c8286842f539f8df28a460af1bd8e21558cda9b4a3d", func := "phratry/phratrylaw08.TreeFresh", spec := "treeFresh", inPlace := ["slices.overlaps[int]"], unfollowed := true, recurses := true, named := ["math/bits.deBruijn64tab"], apart := false, laid := [("math/bits.deBruijn64tab", laid_math_bits_deBruijn64tab)] }
def TreeFreshSaid : Prop := treeFreshRow.holds Tryd.pinned (OpenSpec.ofChange treeFreshSpec)

/-- ITS FALSE NEIGHBOUR: 'it returns false'. Refute it at one input. -/
def treeFreshWrong : ChangeSpec := { name := "treeFresh", fn := fun _ => fun
  | [d1, d2, d3] => { results := [.lit (.bool false)], args := [d1, d2, d3] }
  | _ => none }
def TreeFreshWrongFalsely : Prop := treeFreshRow.holds Tryd.pinned (OpenSpec.ofChange treeFreshWrong)

/- THE SECOND FORM. 'bulk': how many values and letters a reading holds, each counted each time it is reached (what is shared counts as often as it is met; a slice's spare places count too). A statement '..UptoSaid' is the law's where the arguments, and the package variables that the reading takes, are together of bulk at most 1048576: NARROWER than '..Said'. Prove '..Said' where nothing that the law and all that it calls make is longer than what came in: it says more and counts as full. Else prove '..UptoSaid'. A law counts once. -/
mutual
def uptoBulk {H : Type} : DataW H → Nat
  | .lit (.string bytes) => bytes.length + 1
  | .lit _ => 1
  | .nil => 1
  | .ptr d => uptoBulk d + 1
  | .slice elems spare => uptoBulkAll elems + uptoBulkAll spare + 1
  | .agg parts => uptoBulkAll parts + 1
  | .iface _ d => uptoBulk d + 1
  | .map entries => uptoBulkEntries entries + 1
  | .held _ => 1
def uptoBulkAll {H : Type} : List (DataW H) → Nat
  | [] => 0
  | d :: r => uptoBulk d + uptoBulkAll r
def uptoBulkEntries {H : Type} : List (Lit × DataW H) → Nat
  | [] => 0
  | x :: r => uptoBulkEntry x + uptoBulkEntries r
def uptoBulkEntry {H : Type} : Lit × DataW H → Nat
  | (.string bytes, d) => bytes.length + uptoBulk d + 1
  | (_, d) => uptoBulk d + 1
 end
def uptoSmall : (H : Type) → List (DataW H) → Bool := fun _ ds => decide (uptoBulkAll ds ≤ 1048576)
def OpenSpec.upto (s : _root_.Go.ChangeSpec) : _root_.Go.OpenSpec := { _root_.Go.OpenSpec.ofChange s with cond := some uptoSmall }

/-- 'phratrylaw08.TreeStays', WHERE WHAT IT READS IS OF BULK AT MOST 1048576: true; the input reads as it did. -/
def treeStaysUptoRow : OpenClaim := { program := "ytopkanokpfhmmaadoor", sum := "7772ceb0aa81a0c045771c8286842f539f8df28a460af1bd8e21558cda9b4a3d", func := "phratry/phratrylaw08.TreeStays", spec := "treeStays", inPlace := ["slices.overlaps[int]"], recurses := true, named := ["math/bits.deBruijn64tab"], apart := false, laid := [("math/bits.deBruijn64tab", laid_math_bits_deBruijn64tab)], narrowed := true }
def TreeStaysUptoSaid : Prop := treeStaysUptoRow.holds Tryd.pinned (OpenSpec.upto treeStaysSpec)

/-- 'phratrylaw08.TreeFills', WHERE WHAT IT READS IS OF BULK AT MOST 1048576: true; the input reads as it did. -/
def treeFillsUptoRow : OpenClaim := { program := "ytopkanokpfhmmaadoor", sum := "7772ceb0aa81a0c045771c8286842f539f8df28a460af1bd8e21558cda9b4a3d", func := "phratry/phratrylaw08.TreeFills", spec := "treeFills", inPlace := ["slices.overlaps[int]"], recurses := true, named := ["math/bits.deBruijn64tab"], apart := false, laid := [("math/bits.deBruijn64tab", laid_math_bits_deBruijn64tab)], narrowed := true }
def TreeFillsUptoSaid : Prop := treeFillsUptoRow.holds Tryd.pinned (OpenSpec.upto treeFillsSpec)

/-- 'phratrylaw08.TreeForgets', WHERE WHAT IT READS IS OF BULK AT MOST 1048576: true; the input reads as it did. -/
def treeForgetsUptoRow : OpenClaim := { program := "ytopkanokpfhmmaadoor", sum := "7772ceb0aa81a0c045771c8286842f539f8df28a460af1bd8e21558cda9b4a3d", func := "phratry/phratrylaw08.TreeForgets", spec := "treeForgets", inPlace := ["slices.overlaps[int]"], recurses := true, named := ["math/bits.deBruijn64tab"], apart := false, laid := [("math/bits.deBruijn64tab", laid_math_bits_deBruijn64tab)], narrowed := true }
def TreeForgetsUptoSaid : Prop := treeForgetsUptoRow.holds Tryd.pinned (OpenSpec.upto treeForgetsSpec)

/-- 'phratrylaw08.TreeCovers', WHERE WHAT IT READS IS OF BULK AT MOST 1048576: true; the input reads as it did. -/
def treeCoversUptoRow : OpenClaim := { program := "ytopkanokpfhmmaadoor", sum := "7772ceb0aa81a0c045771c8286842f539f8df28a460af1bd8e21558cda9b4a3d", func := "phratry/phratrylaw08.TreeCovers", spec := "treeCovers", inPlace := ["slices.overlaps[int]"], unfollowed := true, recurses := true, named := ["math/bits.deBruijn64tab"], apart := false, laid := [("math/bits.deBruijn64tab", laid_math_bits_deBruijn64tab)], narrowed := true }
def TreeCoversUptoSaid : Prop := treeCoversUptoRow.holds Tryd.pinned (OpenSpec.upto treeCoversSpec)

/-- 'phratrylaw08.TreeFresh', WHERE WHAT IT READS IS OF BULK AT MOST 1048576: true; the input reads as it did. -/
def treeFreshUptoRow : OpenClaim := { program := "ytopkanokpfhmmaadoor", sum := "7772ceb0aa81a0c045771c8286842f539f8df28a460af1bd8e21558cda9b4a3d", func := "phratry/phratrylaw08.TreeFresh", spec := "treeFresh", inPlace := ["slices.overlaps[int]"], unfollowed := true, recurses := true, named := ["math/bits.deBruijn64tab"], apart := false, laid := [("math/bits.deBruijn64tab", laid_math_bits_deBruijn64tab)], narrowed := true }
def TreeFreshUptoSaid : Prop := treeFreshUptoRow.holds Tryd.pinned (OpenSpec.upto treeFreshSpec)

end Rows
end Go.Proofs.YtopkanokpfhmmaaDoor

/-
  No cell of these rows narrows 'for every input' (looked for: loops, veiled, ifaces, maps, wideKeys, modest, calm, conditions, laid).
  DERIVED. THE GIVEN ROWS OF THIS SEAT. 6 by the template 'for every input the law returns true; each argument reads behind the call as it read before'; 0 by the template 'total and deterministic' (their statements: YthahadhdhpcndaaTotals.lean).
  GIVEN WITH THE SEED: the statements are not yours to turn. If you find one false, say at which input.
  Laid BY PROGRAM, IN A SANDBOX (cutbox-rows.mjs): the forced cells as the released guide's own fill.sh prints them over the translation f1cfab6a33909b05… (all of the seat's roots in one cut). By AI agents, Wed Nov 11 2026. No macro, syntax, notation, axiom, sorry.
-/
import Derived.Test.YthahadhdhpcndaaChecked
import GoSem.Claim
import GoSem.ClaimJoined
import GoSem.ClaimMapViews
import Derived.JoinedTies
import Derived.KernelRfl
namespace Go.Proofs.Ythahadhdhpcndaa
/- THE CELL 'sum', in the pinned program and in every row, IS THE sha256 OF THE DUMP (.gsa) THAT YthahadhdhpcndaaProg.lean LOADS. Nothing in Lean hashes anything: it is a label: what it is worth is what the hold of that sum in a sandbox is worth. -/
noncomputable def Try.pinned : Pinned := { name := "ythahadhdhpcndaa", sum := "f1cfab6a33909b05e1521cce7d113ff64d86cc96a88cd4ef8e7140bddcf4499f", checked := Try.checked }
namespace Rows
def none {H : Type} : Left H := { results := [], args := [] }

/-- 'phratrylaw18.NetFull': WHATEVER THE INPUT: true; the input reads as it did. -/
def netFullSpec : ChangeSpec := { name := "netFull", fn := fun _ => fun
  | [d1, d2] => { results := [.lit (.bool true)], args := [d1, d2] }
  | _ => none }
def netFullRow : OpenClaim := { program := "ythahadhdhpcndaa", sum := "f1cfab6a33909b05e1521cce7d113ff64d86cc96a88cd4ef8e7140bddcf4499f", func := "phratry/phratrylaw18.NetFull", spec := "netFull", unfollowed := true, recurses := true, apart := false }
def NetFullSaid : Prop := netFullRow.holds Try.pinned (OpenSpec.ofChange netFullSpec)

/-- ITS FALSE NEIGHBOUR: 'it returns false'. Refute it at one input. -/
def netFullWrong : ChangeSpec := { name := "netFull", fn := fun _ => fun
  | [d1, d2] => { results := [.lit (.bool false)], args := [d1, d2] }
  | _ => none }
def NetFullWrongFalsely : Prop := netFullRow.holds Try.pinned (OpenSpec.ofChange netFullWrong)

/-- 'phratrylaw18.NetOrder': WHATEVER THE INPUT: true; the input reads as it did. -/
def netOrderSpec : ChangeSpec := { name := "netOrder", fn := fun _ => fun
  | [d1, d2] => { results := [.lit (.bool true)], args := [d1, d2] }
  | _ => none }
def netOrderRow : OpenClaim := { program := "ythahadhdhpcndaa", sum := "f1cfab6a33909b05e1521cce7d113ff64d86cc96a88cd4ef8e7140bddcf4499f", func := "phratry/phratrylaw18.NetOrder", spec := "netOrder", unfollowed := true, recurses := true, apart := false }
def NetOrderSaid : Prop := netOrderRow.holds Try.pinned (OpenSpec.ofChange netOrderSpec)

/-- ITS FALSE NEIGHBOUR: 'it returns false'. Refute it at one input. -/
def netOrderWrong : ChangeSpec := { name := "netOrder", fn := fun _ => fun
  | [d1, d2] => { results := [.lit (.bool false)], args := [d1, d2] }
  | _ => none }
def NetOrderWrongFalsely : Prop := netOrderRow.holds Try.pinned (OpenSpec.ofChange netOrderWrong)

/-- 'phratrylaw18.NetNone': WHATEVER THE INPUT: true; the input reads as it did. -/
def netNoneSpec : ChangeSpec := { name := "netNone", fn := fun _ => fun
  | [d1, d2] => { results := [.lit (.bool true)], args := [d1, d2] }
  | _ => none }
def netNoneRow : OpenClaim := { program := "ythahadhdhpcndaa", sum := "f1cfab6a33909b05e1521cce7d113ff64d86cc96a88cd4ef8e7140bddcf4499f", func := "phratry/phratrylaw18.NetNone", spec := "netNone", unfollowed := true, recurses := true, apart := false }
def NetNoneSaid : Prop := netNoneRow.holds Try.pinned (OpenSpec.ofChange netNoneSpec)

/-- ITS FALSE NEIGHBOUR: 'it returns false'. Refute it at one input. -/
def netNoneWrong : ChangeSpec := { name := "netNone", fn := fun _ => fun
  | [d1, d2] => { results := [.lit (.bool false)], args := [d1, d2] }
  | _ => none }
def NetNoneWrongFalsely : Prop := netNoneRow.holds Try.pinned (OpenSpec.ofChange netNoneWrong)

/-- 'phratrylaw18.NetDrops': WHATEVER THE INPUT: true; the input reads as it did. -/
def netDropsSpec : ChangeSpec := { name := "netDrops", fn := fun _ => fun
  | [d1, d2] => { results := [.lit (.bool true)], args := [d1, d2] }
  | _ => none }
def netDropsRow : OpenClaim := { program := "ythahadhdhpcndaa", sum := "f1cfab6a33909b05e1521cce7d113ff64d86cc96a88cd4ef8e7140bddcf4499f", func := "phratry/phratrylaw18.NetDrops", spec := "netDrops", unfollowed := true, recurses := true, apart := false }
def NetDropsSaid : Prop := netDropsRow.holds Try.pinned (OpenSpec.ofChange netDropsSpec)

/-- ITS FALSE NEIGHBOUR: 'it returns false'. Refute it at one input. -/
def netDropsWrong : ChangeSpec := { name := "netDrops", fn := fun _ => fun
  | [d1, d2] => { results := [.lit (.bool false)], args := [d1, d2] }
  | _ => none }
def NetDropsWrongFalsely : Prop := netDropsRow.holds Try.pinned (OpenSpec.ofChange netDropsWrong)

/-- 'phratrylaw15.PostApart': WHATEVER THE INPUT: true; the input reads as it did. -/
def postApartSpec : ChangeSpec := { name := "postApart", fn := fun _ => fun
  | [d1, d2, d3] => { results := [.lit (.bool true)], args := [d1, d2, d3] }
  | _ => none }
def postApartRow : OpenClaim := { program := "ythahadhdhpcndaa", sum := "f1cfab6a33909b05e1521cce7d113ff64d86cc96a88cd4ef8e7140bddcf4499f", func := "phratry/phratrylaw15.PostApart", spec := "postApart", inPlace := ["slices.overlaps[phratry/api.Box]"], unfollowed := true, recurses := true, apart := false }
def PostApartSaid : Prop := postApartRow.holds Try.pinned (OpenSpec.ofChange postApartSpec)

/-- ITS FALSE NEIGHBOUR: 'it returns false'. Refute it at one input. -/
def postApartWrong : ChangeSpec := { name := "postApart", fn := fun _ => fun
  | [d1, d2, d3] => { results := [.lit (.bool false)], args := [d1, d2, d3] }
  | _ => none }
def PostApartWrongFalsely : Prop := postApartRow.holds Try.pinned (OpenSpec.ofChange postApartWrong)

/-- 'phratrylaw15.PostReads': WHATEVER THE INPUT: true; the input reads as it did. -/
def postReadsSpec : ChangeSpec := { name := "postReads", fn := fun _ => fun
  | [d1, d2, d3, d4] => { results := [.lit (.bool true)], args := [d1, d2, d3, d4] }
  | _ => none }
def postReadsRow : OpenClaim := { program := "ythahadhdhpcndaa", sum := "f1cfab6a33909b05e1521cce7d113ff64d86cc96a88cd4ef8e7140bddcf4499f", func := "phratry/phratrylaw15.PostReads", spec := "postReads", inPlace := ["slices.overlaps[phratry/api.Box]"], unfollowed := true, recurses := true, apart := false }
def PostReadsSaid : Prop := postReadsRow.holds Try.pinned (OpenSpec.ofChange postReadsSpec)

/-- ITS FALSE NEIGHBOUR: 'it returns false'. Refute it at one input. -/
def postReadsWrong : ChangeSpec := { name := "postReads", fn := fun _ => fun
  | [d1, d2, d3, d4] => { results := [.lit (.bool false)], args := [d1, d2, d3, d4] }
  | _ => none }
def PostReadsWrongFalsely : Prop := postReadsRow.holds Try.pinned (OpenSpec.ofChange postReadsWrong)

/- THE SECOND FORM. 'bulk': how many values and letters a reading holds, each counted each time it is reached (what is shared counts as often as it is met; a slice's spare places count too). A statement '..UptoSaid' is the law's where the arguments, and the package variables that the reading takes, are together of bulk at most 1048576: NARROWER than '..Said'. Prove '..Said' where nothing that the law and all that it calls make is longer than what came in: it says more and counts as full. Else prove '..UptoSaid'. A law counts once. -/
mutual
def uptoBulk {H : Type} : DataW H → Nat
  | .lit (.string bytes) => bytes.length + 1
  | .lit _ => 1
  | .nil => 1
  | .ptr d => uptoBulk d + 1
  | .slice elems spare => uptoBulkAll elems + uptoBulkAll spare + 1
  | .agg parts => uptoBulkAll parts + 1
  | .iface _ d => uptoBulk d + 1
  | .map entries => uptoBulkEntries entries + 1
  | .held _ => 1
def uptoBulkAll {H : Type} : List (DataW H) → Nat
  | [] => 0
  | d :: r => uptoBulk d + uptoBulkAll r
def uptoBulkEntries {H : Type} : List (Lit × DataW H) → Nat
  | [] => 0
  | x :: r => uptoBulkEntry x + uptoBulkEntries r
def uptoBulkEntry {H : Type} : Lit × DataW H → Nat
  | (.string bytes, d) => bytes.length + uptoBulk d + 1
  | (_, d) => uptoBulk d + 1
 end
def uptoSmall : (H : Type) → List (DataW H) → Bool := fun _ ds => decide (uptoBulkAll ds ≤ 1048576)
def OpenSpec.upto (s : _root_.Go.ChangeSpec) : _root_.Go.OpenSpec := { _root_.Go.OpenSpec.ofChange s with cond := some uptoSmall }

/-- 'phratrylaw18.NetFull', WHERE WHAT IT READS IS OF BULK AT MOST 1048576: true; the input reads as it did. -/
def netFullUptoRow : OpenClaim := { program := "ythahadhdhpcndaa", sum := "f1cfab6a33909b05e1521cce7d113ff64d86cc96a88cd4ef8e7140bddcf4499f", func := "phratry/phratrylaw18.NetFull", spec := "netFull", unfollowed := true, recurses := true, apart := false, narrowed := true }
def NetFullUptoSaid : Prop := netFullUptoRow.holds Try.pinned (OpenSpec.upto netFullSpec)

/-- 'phratrylaw18.NetOrder', WHERE WHAT IT READS IS OF BULK AT MOST 1048576: true; the input reads as it did. -/
def netOrderUptoRow : OpenClaim := { program := "ythahadhdhpcndaa", sum := "f1cfab6a33909b05e1521cce7d113ff64d86cc96a88cd4ef8e7140bddcf4499f", func := "phratry/phratrylaw18.NetOrder", spec := "netOrder", unfollowed := true, recurses := true, apart := false, narrowed := true }
def NetOrderUptoSaid : Prop := netOrderUptoRow.holds Try.pinned (OpenSpec.upto netOrderSpec)

/-- 'phratrylaw18.NetNone', WHERE WHAT IT READS IS OF BULK AT MOST 1048576: true; the input reads as it did. -/
def netNoneUptoRow : OpenClaim := { program := "ythahadhdhpcndaa", sum := "f1cfab6a33909b05e1521cce7d113ff64d86cc96a88cd4ef8e7140bddcf4499f", func := "phratry/phratrylaw18.NetNone", spec := "netNone", unfollowed := true, recurses := true, apart := false, narrowed := true }
def NetNoneUptoSaid : Prop := netNoneUptoRow.holds Try.pinned (OpenSpec.upto netNoneSpec)

/-- 'phratrylaw18.NetDrops', WHERE WHAT IT READS IS OF BULK AT MOST 1048576: true; the input reads as it did. -/
def netDropsUptoRow : OpenClaim := { program := "ythahadhdhpcndaa", sum := "f1cfab6a33909b05e1521cce7d113ff64d86cc96a88cd4ef8e7140bddcf4499f", func := "phratry/phratrylaw18.NetDrops", spec := "netDrops", unfollowed := true, recurses := true, apart := false, narrowed := true }
def NetDropsUptoSaid : Prop := netDropsUptoRow.holds Try.pinned (OpenSpec.upto netDropsSpec)

/-- 'phratrylaw15.PostApart', WHERE WHAT IT READS IS OF BULK AT MOST 1048576: true; the input reads as it did. -/
def postApartUptoRow : OpenClaim := { program := "ythahadhdhpcndaa", sum := "f1cfab6a33909b05e1521cce7d113ff64d86cc96a88cd4ef8e7140bddcf4499f", func := "phratry/phratrylaw15.PostApart", spec := "postApart", inPlace := ["slices.overlaps[phratry/api.Box]"], unfollowed := true, recurses := true, apart := false, narrowed := true }
def PostApartUptoSaid : Prop := postApartUptoRow.holds Try.pinned (OpenSpec.upto postApartSpec)

/-- 'phratrylaw15.PostReads', WHERE WHAT IT READS IS OF BULK AT MOST 1048576: true; the input reads as it did. -/
def postReadsUptoRow : OpenClaim := { program := "ythahadhdhpcndaa", sum := "f1cfab6a33909b05e1521cce7d113ff64d86cc96a88cd4ef8e7140bddcf4499f", func := "phratry/phratrylaw15.PostReads", spec := "postReads", inPlace := ["slices.overlaps[phratry/api.Box]"], unfollowed := true, recurses := true, apart := false, narrowed := true }
def PostReadsUptoSaid : Prop := postReadsUptoRow.holds Try.pinned (OpenSpec.upto postReadsSpec)

end Rows
end Go.Proofs.Ythahadhdhpcndaa

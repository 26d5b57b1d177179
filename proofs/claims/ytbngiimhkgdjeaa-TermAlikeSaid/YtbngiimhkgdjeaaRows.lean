/-
  No cell of these rows narrows 'for every input' (looked for: loops, veiled, ifaces, maps, wideKeys, modest, calm, conditions, laid).
  DERIVED. THE GIVEN ROWS OF THIS SEAT. 5 by the template 'for every input the law returns true; each argument reads behind the call as it read before'; 0 by the template 'total and deterministic' (their statements: YtbngiimhkgdjeaaTotals.lean).
  GIVEN WITH THE SEED: the statements are not yours to turn. If you find one false, say at which input.
  Laid BY PROGRAM, IN A SANDBOX (cutbox-rows.mjs): the forced cells as the released guide's own fill.sh prints them over the translation f56fb622113c705a… (all of the seat's roots in one cut). By AI agents, Wed Nov 11 2026. No macro, syntax, notation, axiom, sorry.
-/
import Derived.Test.YtbngiimhkgdjeaaChecked
import GoSem.Claim
import GoSem.ClaimJoined
import GoSem.ClaimMapViews
import Derived.JoinedTies
import Derived.KernelRfl
namespace Go.Proofs.Ytbngiimhkgdjeaa
/- THE CELL 'sum', in the pinned program and in every row, IS THE sha256 OF THE DUMP (.gsa) THAT YtbngiimhkgdjeaaProg.lean LOADS. Nothing in Lean hashes anything: it is a label: what it is worth is what the hold of that sum in a sandbox is worth. -/
noncomputable def Try.pinned : Pinned := { name := "ytbngiimhkgdjeaa", sum := "f56fb622113c705ad1157ce303e7c32a8992ffbcf9056a8d524f6bd4e84b8b55", checked := Try.checked }
namespace Rows
def none {H : Type} : Left H := { results := [], args := [] }

/-- 'phratrylaw03.TermParts': WHATEVER THE INPUT: true; the input reads as it did. -/
def termPartsSpec : ChangeSpec := { name := "termParts", fn := fun _ => fun
  | [d1, d2] => { results := [.lit (.bool true)], args := [d1, d2] }
  | _ => none }
def termPartsRow : OpenClaim := { program := "ytbngiimhkgdjeaa", sum := "f56fb622113c705ad1157ce303e7c32a8992ffbcf9056a8d524f6bd4e84b8b55", func := "phratry/phratrylaw03.TermParts", spec := "termParts", plainKeys := false, apart := false }
def TermPartsSaid : Prop := termPartsRow.holds Try.pinned (OpenSpec.ofChange termPartsSpec)

/-- ITS FALSE NEIGHBOUR: 'it returns false'. Refute it at one input. -/
def termPartsWrong : ChangeSpec := { name := "termParts", fn := fun _ => fun
  | [d1, d2] => { results := [.lit (.bool false)], args := [d1, d2] }
  | _ => none }
def TermPartsWrongFalsely : Prop := termPartsRow.holds Try.pinned (OpenSpec.ofChange termPartsWrong)

/-- 'phratrylaw03.TermLists': WHATEVER THE INPUT: true; the input reads as it did. -/
def termListsSpec : ChangeSpec := { name := "termLists", fn := fun _ => fun
  | [d1, d2, d3] => { results := [.lit (.bool true)], args := [d1, d2, d3] }
  | _ => none }
def termListsRow : OpenClaim := { program := "ytbngiimhkgdjeaa", sum := "f56fb622113c705ad1157ce303e7c32a8992ffbcf9056a8d524f6bd4e84b8b55", func := "phratry/phratrylaw03.TermLists", spec := "termLists", plainKeys := false, apart := false }
def TermListsSaid : Prop := termListsRow.holds Try.pinned (OpenSpec.ofChange termListsSpec)

/-- ITS FALSE NEIGHBOUR: 'it returns false'. Refute it at one input. -/
def termListsWrong : ChangeSpec := { name := "termLists", fn := fun _ => fun
  | [d1, d2, d3] => { results := [.lit (.bool false)], args := [d1, d2, d3] }
  | _ => none }
def TermListsWrongFalsely : Prop := termListsRow.holds Try.pinned (OpenSpec.ofChange termListsWrong)

/-- 'phratrylaw03.TermNone': WHATEVER THE INPUT: true; the input reads as it did. -/
def termNoneSpec : ChangeSpec := { name := "termNone", fn := fun _ => fun
  | [d1, d2] => { results := [.lit (.bool true)], args := [d1, d2] }
  | _ => none }
def termNoneRow : OpenClaim := { program := "ytbngiimhkgdjeaa", sum := "f56fb622113c705ad1157ce303e7c32a8992ffbcf9056a8d524f6bd4e84b8b55", func := "phratry/phratrylaw03.TermNone", spec := "termNone", plainKeys := false, apart := false }
def TermNoneSaid : Prop := termNoneRow.holds Try.pinned (OpenSpec.ofChange termNoneSpec)

/-- ITS FALSE NEIGHBOUR: 'it returns false'. Refute it at one input. -/
def termNoneWrong : ChangeSpec := { name := "termNone", fn := fun _ => fun
  | [d1, d2] => { results := [.lit (.bool false)], args := [d1, d2] }
  | _ => none }
def TermNoneWrongFalsely : Prop := termNoneRow.holds Try.pinned (OpenSpec.ofChange termNoneWrong)

/-- 'phratrylaw03.TermOnce': WHATEVER THE INPUT: true; the input reads as it did. -/
def termOnceSpec : ChangeSpec := { name := "termOnce", fn := fun _ => fun
  | [d] => { results := [.lit (.bool true)], args := [d] }
  | _ => none }
def termOnceRow : OpenClaim := { program := "ytbngiimhkgdjeaa", sum := "f56fb622113c705ad1157ce303e7c32a8992ffbcf9056a8d524f6bd4e84b8b55", func := "phratry/phratrylaw03.TermOnce", spec := "termOnce", plainKeys := false, apart := false }
def TermOnceSaid : Prop := termOnceRow.holds Try.pinned (OpenSpec.ofChange termOnceSpec)

/-- ITS FALSE NEIGHBOUR: 'it returns false'. Refute it at one input. -/
def termOnceWrong : ChangeSpec := { name := "termOnce", fn := fun _ => fun
  | [d] => { results := [.lit (.bool false)], args := [d] }
  | _ => none }
def TermOnceWrongFalsely : Prop := termOnceRow.holds Try.pinned (OpenSpec.ofChange termOnceWrong)

/-- 'phratrylaw03.TermAlike': WHATEVER THE INPUT: true; the input reads as it did. -/
def termAlikeSpec : ChangeSpec := { name := "termAlike", fn := fun _ => fun
  | [d1, d2, d3, d4] => { results := [.lit (.bool true)], args := [d1, d2, d3, d4] }
  | _ => none }
def termAlikeRow : OpenClaim := { program := "ytbngiimhkgdjeaa", sum := "f56fb622113c705ad1157ce303e7c32a8992ffbcf9056a8d524f6bd4e84b8b55", func := "phratry/phratrylaw03.TermAlike", spec := "termAlike", recurses := true, plainKeys := false, apart := false }
def TermAlikeSaid : Prop := termAlikeRow.holds Try.pinned (OpenSpec.ofChange termAlikeSpec)

/-- ITS FALSE NEIGHBOUR: 'it returns false'. Refute it at one input. -/
def termAlikeWrong : ChangeSpec := { name := "termAlike", fn := fun _ => fun
  | [d1, d2, d3, d4] => { results := [.lit (.bool false)], args := [d1, d2, d3, d4] }
  | _ => none }
def TermAlikeWrongFalsely : Prop := termAlikeRow.holds Try.pinned (OpenSpec.ofChange termAlikeWrong)

/- THE SECOND FORM. 'bulk': how many values and letters a reading holds, each counted each time it is reached (what is shared counts as often as it is met; a slice's spare places count too). A statement '..UptoSaid' is the law's where the arguments, and the package variables that the reading takes, are together of bulk at most 1048576: NARROWER than '..Said'. Prove '..Said' where nothing that the law and all that it calls make is longer than what came in: it says more and counts as full. Else prove '..UptoSaid'. A law counts once. -/
mutual
def uptoBulk {H : Type} : DataW H → Nat
  | .lit (.string bytes) => bytes.length + 1
  | .lit _ => 1
  | .nil => 1
  | .ptr d => uptoBulk d + 1
  | .slice elems spare => uptoBulkAll elems + uptoBulkAll spare + 1
  | .agg parts => uptoBulkAll parts + 1
  | .iface _ d => uptoBulk d + 1
  | .map entries => uptoBulkEntries entries + 1
  | .held _ => 1
def uptoBulkAll {H : Type} : List (DataW H) → Nat
  | [] => 0
  | d :: r => uptoBulk d + uptoBulkAll r
def uptoBulkEntries {H : Type} : List (Lit × DataW H) → Nat
  | [] => 0
  | x :: r => uptoBulkEntry x + uptoBulkEntries r
def uptoBulkEntry {H : Type} : Lit × DataW H → Nat
  | (.string bytes, d) => bytes.length + uptoBulk d + 1
  | (_, d) => uptoBulk d + 1
 end
def uptoSmall : (H : Type) → List (DataW H) → Bool := fun _ ds => decide (uptoBulkAll ds ≤ 1048576)
def OpenSpec.upto (s : _root_.Go.ChangeSpec) : _root_.Go.OpenSpec := { _root_.Go.OpenSpec.ofChange s with cond := some uptoSmall }

/-- 'phratrylaw03.TermParts', WHERE WHAT IT READS IS OF BULK AT MOST 1048576: true; the input reads as it did. -/
def termPartsUptoRow : OpenClaim := { program := "ytbngiimhkgdjeaa", sum := "f56fb622113c705ad1157ce303e7c32a8992ffbcf9056a8d524f6bd4e84b8b55", func := "phratry/phratrylaw03.TermParts", spec := "termParts", plainKeys := false, apart := false, narrowed := true }
def TermPartsUptoSaid : Prop := termPartsUptoRow.holds Try.pinned (OpenSpec.upto termPartsSpec)

/-- 'phratrylaw03.TermLists', WHERE WHAT IT READS IS OF BULK AT MOST 1048576: true; the input reads as it did. -/
def termListsUptoRow : OpenClaim := { program := "ytbngiimhkgdjeaa", sum := "f56fb622113c705ad1157ce303e7c32a8992ffbcf9056a8d524f6bd4e84b8b55", func := "phratry/phratrylaw03.TermLists", spec := "termLists", plainKeys := false, apart := false, narrowed := true }
def TermListsUptoSaid : Prop := termListsUptoRow.holds Try.pinned (OpenSpec.upto termListsSpec)

/-- 'phratrylaw03.TermNone', WHERE WHAT IT READS IS OF BULK AT MOST 1048576: true; the input reads as it did. -/
def termNoneUptoRow : OpenClaim := { program := "ytbngiimhkgdjeaa", sum := "f56fb622113c705ad1157ce303e7c32a8992ffbcf9056a8d524f6bd4e84b8b55", func := "phratry/phratrylaw03.TermNone", spec := "termNone", plainKeys := false, apart := false, narrowed := true }
def TermNoneUptoSaid : Prop := termNoneUptoRow.holds Try.pinned (OpenSpec.upto termNoneSpec)

/-- 'phratrylaw03.TermOnce', WHERE WHAT IT READS IS OF BULK AT MOST 1048576: true; the input reads as it did. -/
def termOnceUptoRow : OpenClaim := { program := "ytbngiimhkgdjeaa", sum := "f56fb622113c705ad1157ce303e7c32a8992ffbcf9056a8d524f6bd4e84b8b55", func := "phratry/phratrylaw03.TermOnce", spec := "termOnce", plainKeys := false, apart := false, narrowed := true }
def TermOnceUptoSaid : Prop := termOnceUptoRow.holds Try.pinned (OpenSpec.upto termOnceSpec)

/-- 'phratrylaw03.TermAlike', WHERE WHAT IT READS IS OF BULK AT MOST 1048576: true; the input reads as it did. -/
def termAlikeUptoRow : OpenClaim := { program := "ytbngiimhkgdjeaa", sum := "f56fb622113c705ad1157ce303e7c32a8992ffbcf9056a8d524f6bd4e84b8b55", func := "phratry/phratrylaw03.TermAlike", spec := "termAlike", recurses := true, plainKeys := false, apart := false, narrowed := true }
def TermAlikeUptoSaid : Prop := termAlikeUptoRow.holds Try.pinned (OpenSpec.upto termAlikeSpec)

end Rows
end Go.Proofs.Ytbngiimhkgdjeaa

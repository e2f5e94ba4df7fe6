/-
  No cell of these rows narrows 'for every input' (looked for: loops, veiled, ifaces, maps, wideKeys, modest, calm, conditions, laid).
  DERIVED. THE GIVEN ROWS OF THIS SEAT. 10 by the template 'for every input the law returns true; each argument reads behind the call as it read before'; 0 by the template 'total and deterministic' (their statements: YtfklnhjipahonaaTotals.lean).
  GIVEN WITH THE SEED: the statements are not yours to turn. If you find one false, say at which input.
  Laid BY PROGRAM, IN A SANDBOX (cutbox-rows.mjs): the forced cells as the released guide's own fill.sh prints them over the translation 68e03fff43ff0ffd… (all of the seat's roots in one cut). By AI agents, Wed Nov 11 2026. No macro, syntax, notation, axiom, sorry.
-/
import Derived.Test.YtfklnhjipahonaaChecked
import GoSem.Claim
import GoSem.ClaimJoined
import GoSem.ClaimMapViews
import Derived.JoinedTies
import Derived.KernelRfl
namespace Go.Proofs.Ytfklnhjipahonaa
/- THE CELL 'sum', in the pinned program and in every row, IS THE sha256 OF THE DUMP (.gsa) THAT YtfklnhjipahonaaProg.lean LOADS. Nothing in Lean hashes anything: it is a label: what it is worth is what the hold of that sum in a sandbox is worth. -/
noncomputable def Try.pinned : Pinned := { name := "ytfklnhjipahonaa", sum := "68e03fff43ff0ffda0cd6e4168f3852f2428bd2a634a38c083c81b9497ca6532", checked := Try.checked }
namespace Rows
def none {H : Type} : Left H := { results := [], args := [] }

/-- 'laws.FnExactTwoSums': WHATEVER THE INPUT: true; the input reads as it did. -/
def fnExactTwoSumsSpec : ChangeSpec := { name := "fnExactTwoSums", fn := fun _ => fun
  | [d] => { results := [.lit (.bool true)], args := [d] }
  | _ => none }
def fnExactTwoSumsRow : OpenClaim := { program := "ytfklnhjipahonaa", sum := "68e03fff43ff0ffda0cd6e4168f3852f2428bd2a634a38c083c81b9497ca6532", func := "loop.example/linksandframes/laws.FnExactTwoSums", spec := "fnExactTwoSums", unfollowed := true, recurses := true, apart := false }
def FnExactTwoSumsSaid : Prop := fnExactTwoSumsRow.holds Try.pinned (OpenSpec.ofChange fnExactTwoSumsSpec)

/-- ITS FALSE NEIGHBOUR: 'it returns false'. Refute it at one input. -/
def fnExactTwoSumsWrong : ChangeSpec := { name := "fnExactTwoSums", fn := fun _ => fun
  | [d] => { results := [.lit (.bool false)], args := [d] }
  | _ => none }
def FnExactTwoSumsWrongFalsely : Prop := fnExactTwoSumsRow.holds Try.pinned (OpenSpec.ofChange fnExactTwoSumsWrong)

/-- 'laws.FnExactSumBytes': WHATEVER THE INPUT: true; the input reads as it did. -/
def fnExactSumBytesSpec : ChangeSpec := { name := "fnExactSumBytes", fn := fun _ => fun
  | [d] => { results := [.lit (.bool true)], args := [d] }
  | _ => none }
def fnExactSumBytesRow : OpenClaim := { program := "ytfklnhjipahonaa", sum := "68e03fff43ff0ffda0cd6e4168f3852f2428bd2a634a38c083c81b9497ca6532", func := "loop.example/linksandframes/laws.FnExactSumBytes", spec := "fnExactSumBytes", unfollowed := true, recurses := true, apart := false }
def FnExactSumBytesSaid : Prop := fnExactSumBytesRow.holds Try.pinned (OpenSpec.ofChange fnExactSumBytesSpec)

/-- ITS FALSE NEIGHBOUR: 'it returns false'. Refute it at one input. -/
def fnExactSumBytesWrong : ChangeSpec := { name := "fnExactSumBytes", fn := fun _ => fun
  | [d] => { results := [.lit (.bool false)], args := [d] }
  | _ => none }
def FnExactSumBytesWrongFalsely : Prop := fnExactSumBytesRow.holds Try.pinned (OpenSpec.ofChange fnExactSumBytesWrong)

/-- 'laws.FnTwoSums': WHATEVER THE INPUT: true; the input reads as it did. -/
def fnTwoSumsSpec : ChangeSpec := { name := "fnTwoSums", fn := fun _ => fun
  | [d] => { results := [.lit (.bool true)], args := [d] }
  | _ => none }
def fnTwoSumsRow : OpenClaim := { program := "ytfklnhjipahonaa", sum := "68e03fff43ff0ffda0cd6e4168f3852f2428bd2a634a38c083c81b9497ca6532", func := "loop.example/linksandframes/laws.FnTwoSums", spec := "fnTwoSums", unfollowed := true, recurses := true, apart := false }
def FnTwoSumsSaid : Prop := fnTwoSumsRow.holds Try.pinned (OpenSpec.ofChange fnTwoSumsSpec)

/-- ITS FALSE NEIGHBOUR: 'it returns false'. Refute it at one input. -/
def fnTwoSumsWrong : ChangeSpec := { name := "fnTwoSums", fn := fun _ => fun
  | [d] => { results := [.lit (.bool false)], args := [d] }
  | _ => none }
def FnTwoSumsWrongFalsely : Prop := fnTwoSumsRow.holds Try.pinned (OpenSpec.ofChange fnTwoSumsWrong)

/-- 'laws.FnExactEscapeBytes': WHATEVER THE INPUT: true; the input reads as it did. -/
def fnExactEscapeBytesSpec : ChangeSpec := { name := "fnExactEscapeBytes", fn := fun _ => fun
  | [d] => { results := [.lit (.bool true)], args := [d] }
  | _ => none }
def fnExactEscapeBytesRow : OpenClaim := { program := "ytfklnhjipahonaa", sum := "68e03fff43ff0ffda0cd6e4168f3852f2428bd2a634a38c083c81b9497ca6532", func := "loop.example/linksandframes/laws.FnExactEscapeBytes", spec := "fnExactEscapeBytes", unfollowed := true, recurses := true, apart := false }
def FnExactEscapeBytesSaid : Prop := fnExactEscapeBytesRow.holds Try.pinned (OpenSpec.ofChange fnExactEscapeBytesSpec)

/-- ITS FALSE NEIGHBOUR: 'it returns false'. Refute it at one input. -/
def fnExactEscapeBytesWrong : ChangeSpec := { name := "fnExactEscapeBytes", fn := fun _ => fun
  | [d] => { results := [.lit (.bool false)], args := [d] }
  | _ => none }
def FnExactEscapeBytesWrongFalsely : Prop := fnExactEscapeBytesRow.holds Try.pinned (OpenSpec.ofChange fnExactEscapeBytesWrong)

/-- 'laws.FnSumBytes': WHATEVER THE INPUT: true; the input reads as it did. -/
def fnSumBytesSpec : ChangeSpec := { name := "fnSumBytes", fn := fun _ => fun
  | [d] => { results := [.lit (.bool true)], args := [d] }
  | _ => none }
def fnSumBytesRow : OpenClaim := { program := "ytfklnhjipahonaa", sum := "68e03fff43ff0ffda0cd6e4168f3852f2428bd2a634a38c083c81b9497ca6532", func := "loop.example/linksandframes/laws.FnSumBytes", spec := "fnSumBytes", unfollowed := true, recurses := true, apart := false }
def FnSumBytesSaid : Prop := fnSumBytesRow.holds Try.pinned (OpenSpec.ofChange fnSumBytesSpec)

/-- ITS FALSE NEIGHBOUR: 'it returns false'. Refute it at one input. -/
def fnSumBytesWrong : ChangeSpec := { name := "fnSumBytes", fn := fun _ => fun
  | [d] => { results := [.lit (.bool false)], args := [d] }
  | _ => none }
def FnSumBytesWrongFalsely : Prop := fnSumBytesRow.holds Try.pinned (OpenSpec.ofChange fnSumBytesWrong)

/-- 'laws.FnExactPointBytes': WHATEVER THE INPUT: true; the input reads as it did. -/
def fnExactPointBytesSpec : ChangeSpec := { name := "fnExactPointBytes", fn := fun _ => fun
  | [d] => { results := [.lit (.bool true)], args := [d] }
  | _ => none }
def fnExactPointBytesRow : OpenClaim := { program := "ytfklnhjipahonaa", sum := "68e03fff43ff0ffda0cd6e4168f3852f2428bd2a634a38c083c81b9497ca6532", func := "loop.example/linksandframes/laws.FnExactPointBytes", spec := "fnExactPointBytes", unfollowed := true, recurses := true, apart := false }
def FnExactPointBytesSaid : Prop := fnExactPointBytesRow.holds Try.pinned (OpenSpec.ofChange fnExactPointBytesSpec)

/-- ITS FALSE NEIGHBOUR: 'it returns false'. Refute it at one input. -/
def fnExactPointBytesWrong : ChangeSpec := { name := "fnExactPointBytes", fn := fun _ => fun
  | [d] => { results := [.lit (.bool false)], args := [d] }
  | _ => none }
def FnExactPointBytesWrongFalsely : Prop := fnExactPointBytesRow.holds Try.pinned (OpenSpec.ofChange fnExactPointBytesWrong)

/-- 'laws.FnExactUnescapeBytes': WHATEVER THE INPUT: true; the input reads as it did. -/
def fnExactUnescapeBytesSpec : ChangeSpec := { name := "fnExactUnescapeBytes", fn := fun _ => fun
  | [d] => { results := [.lit (.bool true)], args := [d] }
  | _ => none }
def fnExactUnescapeBytesRow : OpenClaim := { program := "ytfklnhjipahonaa", sum := "68e03fff43ff0ffda0cd6e4168f3852f2428bd2a634a38c083c81b9497ca6532", func := "loop.example/linksandframes/laws.FnExactUnescapeBytes", spec := "fnExactUnescapeBytes", unfollowed := true, recurses := true, apart := false }
def FnExactUnescapeBytesSaid : Prop := fnExactUnescapeBytesRow.holds Try.pinned (OpenSpec.ofChange fnExactUnescapeBytesSpec)

/-- ITS FALSE NEIGHBOUR: 'it returns false'. Refute it at one input. -/
def fnExactUnescapeBytesWrong : ChangeSpec := { name := "fnExactUnescapeBytes", fn := fun _ => fun
  | [d] => { results := [.lit (.bool false)], args := [d] }
  | _ => none }
def FnExactUnescapeBytesWrongFalsely : Prop := fnExactUnescapeBytesRow.holds Try.pinned (OpenSpec.ofChange fnExactUnescapeBytesWrong)

/-- 'laws.FnExactUnpointBytes': WHATEVER THE INPUT: true; the input reads as it did. -/
def fnExactUnpointBytesSpec : ChangeSpec := { name := "fnExactUnpointBytes", fn := fun _ => fun
  | [d] => { results := [.lit (.bool true)], args := [d] }
  | _ => none }
def fnExactUnpointBytesRow : OpenClaim := { program := "ytfklnhjipahonaa", sum := "68e03fff43ff0ffda0cd6e4168f3852f2428bd2a634a38c083c81b9497ca6532", func := "loop.example/linksandframes/laws.FnExactUnpointBytes", spec := "fnExactUnpointBytes", unfollowed := true, recurses := true, apart := false }
def FnExactUnpointBytesSaid : Prop := fnExactUnpointBytesRow.holds Try.pinned (OpenSpec.ofChange fnExactUnpointBytesSpec)

/-- ITS FALSE NEIGHBOUR: 'it returns false'. Refute it at one input. -/
def fnExactUnpointBytesWrong : ChangeSpec := { name := "fnExactUnpointBytes", fn := fun _ => fun
  | [d] => { results := [.lit (.bool false)], args := [d] }
  | _ => none }
def FnExactUnpointBytesWrongFalsely : Prop := fnExactUnpointBytesRow.holds Try.pinned (OpenSpec.ofChange fnExactUnpointBytesWrong)

/-- 'laws.FnEscapeBytes': WHATEVER THE INPUT: true; the input reads as it did. -/
def fnEscapeBytesSpec : ChangeSpec := { name := "fnEscapeBytes", fn := fun _ => fun
  | [d] => { results := [.lit (.bool true)], args := [d] }
  | _ => none }
def fnEscapeBytesRow : OpenClaim := { program := "ytfklnhjipahonaa", sum := "68e03fff43ff0ffda0cd6e4168f3852f2428bd2a634a38c083c81b9497ca6532", func := "loop.example/linksandframes/laws.FnEscapeBytes", spec := "fnEscapeBytes", unfollowed := true, recurses := true, apart := false }
def FnEscapeBytesSaid : Prop := fnEscapeBytesRow.holds Try.pinned (OpenSpec.ofChange fnEscapeBytesSpec)

/-- ITS FALSE NEIGHBOUR: 'it returns false'. Refute it at one input. -/
def fnEscapeBytesWrong : ChangeSpec := { name := "fnEscapeBytes", fn := fun _ => fun
  | [d] => { results := [.lit (.bool false)], args := [d] }
  | _ => none }
def FnEscapeBytesWrongFalsely : Prop := fnEscapeBytesRow.holds Try.pinned (OpenSpec.ofChange fnEscapeBytesWrong)

/-- 'laws.FnPointBytes': WHATEVER THE INPUT: true; the input reads as it did. -/
def fnPointBytesSpec : ChangeSpec := { name := "fnPointBytes", fn := fun _ => fun
  | [d] => { results := [.lit (.bool true)], args := [d] }
  | _ => none }
def fnPointBytesRow : OpenClaim := { program := "ytfklnhjipahonaa", sum := "68e03fff43ff0ffda0cd6e4168f3852f2428bd2a634a38c083c81b9497ca6532", func := "loop.example/linksandframes/laws.FnPointBytes", spec := "fnPointBytes", unfollowed := true, recurses := true, apart := false }
def FnPointBytesSaid : Prop := fnPointBytesRow.holds Try.pinned (OpenSpec.ofChange fnPointBytesSpec)

/-- ITS FALSE NEIGHBOUR: 'it returns false'. Refute it at one input. -/
def fnPointBytesWrong : ChangeSpec := { name := "fnPointBytes", fn := fun _ => fun
  | [d] => { results := [.lit (.bool false)], args := [d] }
  | _ => none }
def FnPointBytesWrongFalsely : Prop := fnPointBytesRow.holds Try.pinned (OpenSpec.ofChange fnPointBytesWrong)

/- THE SECOND FORM. 'bulk': how many values and letters a reading holds, each counted each time it is reached (what is shared counts as often as it is met; a slice's spare places count too). A statement '..UptoSaid' is the law's where the arguments, and the package variables that the reading takes, are together of bulk at most 1048576: NARROWER than '..Said'. Prove '..Said' where nothing that the law and all that it calls make is longer than what came in: it says more and counts as full. Else prove '..UptoSaid'. A law counts once. -/
mutual
def uptoBulk {H : Type} : DataW H → Nat
  | .lit (.string bytes) => bytes.length + 1
  | .lit _ => 1
  | .nil => 1
  | .ptr d => uptoBulk d + 1
  | .slice elems spare => uptoBulkAll elems + uptoBulkAll spare + 1
  | .agg parts => uptoBulkAll parts + 1
  | .iface _ d => uptoBulk d + 1
  | .map entries => uptoBulkEntries entries + 1
  | .held _ => 1
def uptoBulkAll {H : Type} : List (DataW H) → Nat
  | [] => 0
  | d :: r => uptoBulk d + uptoBulkAll r
def uptoBulkEntries {H : Type} : List (Lit × DataW H) → Nat
  | [] => 0
  | x :: r => uptoBulkEntry x + uptoBulkEntries r
def uptoBulkEntry {H : Type} : Lit × DataW H → Nat
  | (.string bytes, d) => bytes.length + uptoBulk d + 1
  | (_, d) => uptoBulk d + 1
 end
def uptoSmall : (H : Type) → List (DataW H) → Bool := fun _ ds => decide (uptoBulkAll ds ≤ 1048576)
def OpenSpec.upto (s : _root_.Go.ChangeSpec) : _root_.Go.OpenSpec := { _root_.Go.OpenSpec.ofChange s with cond := some uptoSmall }

/-- 'laws.FnExactTwoSums', WHERE WHAT IT READS IS OF BULK AT MOST 1048576: true; the input reads as it did. -/
def fnExactTwoSumsUptoRow : OpenClaim := { program := "ytfklnhjipahonaa", sum := "68e03fff43ff0ffda0cd6e4168f3852f2428bd2a634a38c083c81b9497ca6532", func := "loop.example/linksandframes/laws.FnExactTwoSums", spec := "fnExactTwoSums", unfollowed := true, recurses := true, apart := false, narrowed := true }
def FnExactTwoSumsUptoSaid : Prop := fnExactTwoSumsUptoRow.holds Try.pinned (OpenSpec.upto fnExactTwoSumsSpec)

/-- 'laws.FnExactSumBytes', WHERE WHAT IT READS IS OF BULK AT MOST 1048576: true; the input reads as it did. -/
def fnExactSumBytesUptoRow : OpenClaim := { program := "ytfklnhjipahonaa", sum := "68e03fff43ff0ffda0cd6e4168f3852f2428bd2a634a38c083c81b9497ca6532", func := "loop.example/linksandframes/laws.FnExactSumBytes", spec := "fnExactSumBytes", unfollowed := true, recurses := true, apart := false, narrowed := true }
def FnExactSumBytesUptoSaid : Prop := fnExactSumBytesUptoRow.holds Try.pinned (OpenSpec.upto fnExactSumBytesSpec)

/-- 'laws.FnTwoSums', WHERE WHAT IT READS IS OF BULK AT MOST 1048576: true; the input reads as it did. -/
def fnTwoSumsUptoRow : OpenClaim := { program := "ytfklnhjipahonaa", sum := "68e03fff43ff0ffda0cd6e4168f3852f2428bd2a634a38c083c81b9497ca6532", func := "loop.example/linksandframes/laws.FnTwoSums", spec := "fnTwoSums", unfollowed := true, recurses := true, apart := false, narrowed := true }
def FnTwoSumsUptoSaid : Prop := fnTwoSumsUptoRow.holds Try.pinned (OpenSpec.upto fnTwoSumsSpec)

/-- 'laws.FnExactEscapeBytes', WHERE WHAT IT READS IS OF BULK AT MOST 1048576: true; the input reads as it did. -/
def fnExactEscapeBytesUptoRow : OpenClaim := { program := "ytfklnhjipahonaa", sum := "68e03fff43ff0ffda0cd6e4168f3852f2428bd2a634a38c083c81b9497ca6532", func := "loop.example/linksandframes/laws.FnExactEscapeBytes", spec := "fnExactEscapeBytes", unfollowed := true, recurses := true, apart := false, narrowed := true }
def FnExactEscapeBytesUptoSaid : Prop := fnExactEscapeBytesUptoRow.holds Try.pinned (OpenSpec.upto fnExactEscapeBytesSpec)

/-- 'laws.FnSumBytes', WHERE WHAT IT READS IS OF BULK AT MOST 1048576: true; the input reads as it did. -/
def fnSumBytesUptoRow : OpenClaim := { program := "ytfklnhjipahonaa", sum := "68e03fff43ff0ffda0cd6e4168f3852f2428bd2a634a38c083c81b9497ca6532", func := "loop.example/linksandframes/laws.FnSumBytes", spec := "fnSumBytes", unfollowed := true, recurses := true, apart := false, narrowed := true }
def FnSumBytesUptoSaid : Prop := fnSumBytesUptoRow.holds Try.pinned (OpenSpec.upto fnSumBytesSpec)

/-- 'laws.FnExactPointBytes', WHERE WHAT IT READS IS OF BULK AT MOST 1048576: true; the input reads as it did. -/
def fnExactPointBytesUptoRow : OpenClaim := { program := "ytfklnhjipahonaa", sum := "68e03fff43ff0ffda0cd6e4168f3852f2428bd2a634a38c083c81b9497ca6532", func := "loop.example/linksandframes/laws.FnExactPointBytes", spec := "fnExactPointBytes", unfollowed := true, recurses := true, apart := false, narrowed := true }
def FnExactPointBytesUptoSaid : Prop := fnExactPointBytesUptoRow.holds Try.pinned (OpenSpec.upto fnExactPointBytesSpec)

/-- 'laws.FnExactUnescapeBytes', WHERE WHAT IT READS IS OF BULK AT MOST 1048576: true; the input reads as it did. -/
def fnExactUnescapeBytesUptoRow : OpenClaim := { program := "ytfklnhjipahonaa", sum := "68e03fff43ff0ffda0cd6e4168f3852f2428bd2a634a38c083c81b9497ca6532", func := "loop.example/linksandframes/laws.FnExactUnescapeBytes", spec := "fnExactUnescapeBytes", unfollowed := true, recurses := true, apart := false, narrowed := true }
def FnExactUnescapeBytesUptoSaid : Prop := fnExactUnescapeBytesUptoRow.holds Try.pinned (OpenSpec.upto fnExactUnescapeBytesSpec)

/-- 'laws.FnExactUnpointBytes', WHERE WHAT IT READS IS OF BULK AT MOST 1048576: true; the input reads as it did. -/
def fnExactUnpointBytesUptoRow : OpenClaim := { program := "ytfklnhjipahonaa", sum := "68e03fff43ff0ffda0cd6e4168f3852f2428bd2a634a38c083c81b9497ca6532", func := "loop.example/linksandframes/laws.FnExactUnpointBytes", spec := "fnExactUnpointBytes", unfollowed := true, recurses := true, apart := false, narrowed := true }
def FnExactUnpointBytesUptoSaid : Prop := fnExactUnpointBytesUptoRow.holds Try.pinned (OpenSpec.upto fnExactUnpointBytesSpec)

/-- 'laws.FnEscapeBytes', WHERE WHAT IT READS IS OF BULK AT MOST 1048576: true; the input reads as it did. -/
def fnEscapeBytesUptoRow : OpenClaim := { program := "ytfklnhjipahonaa", sum := "68e03fff43ff0ffda0cd6e4168f3852f2428bd2a634a38c083c81b9497ca6532", func := "loop.example/linksandframes/laws.FnEscapeBytes", spec := "fnEscapeBytes", unfollowed := true, recurses := true, apart := false, narrowed := true }
def FnEscapeBytesUptoSaid : Prop := fnEscapeBytesUptoRow.holds Try.pinned (OpenSpec.upto fnEscapeBytesSpec)

/-- 'laws.FnPointBytes', WHERE WHAT IT READS IS OF BULK AT MOST 1048576: true; the input reads as it did. -/
def fnPointBytesUptoRow : OpenClaim := { program := "ytfklnhjipahonaa", sum := "68e03fff43ff0ffda0cd6e4168f3852f2428bd2a634a38c083c81b9497ca6532", func := "loop.example/linksandframes/laws.FnPointBytes", spec := "fnPointBytes", unfollowed := true, recurses := true, apart := false, narrowed := true }
def FnPointBytesUptoSaid : Prop := fnPointBytesUptoRow.holds Try.pinned (OpenSpec.upto fnPointBytesSpec)

end Rows
end Go.Proofs.Ytfklnhjipahonaa

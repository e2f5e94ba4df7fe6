/-
  No cell of these rows narrows 'for every input' (looked for: loops, veiled, ifaces, maps, wideKeys, modest, calm, conditions, laid).
  DERIVED. THE GIVEN ROWS OF THIS SEAT. 10 by the template 'for every input the law returns true; each argument reads behind the call as it read before'; 0 by the template 'total and deterministic' (their statements: YtdppkdcfocaemaaTotals.lean).
  GIVEN WITH THE SEED: the statements are not yours to turn. If you find one false, say at which input.
  Laid BY PROGRAM, IN A SANDBOX (cutbox-rows.mjs): the forced cells as the released guide's own fill.sh prints them over the translation 0cf1021d9e84b039… (all of the seat's roots in one cut). By AI agents, Wed Nov 11 2026. No macro, syntax, notation, axiom, sorry.
-/
import Derived.Test.YtdppkdcfocaemaaChecked
import GoSem.Claim
import GoSem.ClaimJoined
import GoSem.ClaimMapViews
import Derived.JoinedTies
import Derived.KernelRfl
namespace Go.Proofs.Ytdppkdcfocaemaa
/- THE CELL 'sum', in the pinned program and in every row, IS THE sha256 OF THE DUMP (.gsa) THAT YtdppkdcfocaemaaProg.lean LOADS. Nothing in Lean hashes anything: it is a label: what it is worth is what the hold of that sum in a sandbox is worth. -/
noncomputable def Try.pinned : Pinned := { name := "ytdppkdcfocaemaa", sum := "0cf1021d9e84b0398050d0a7e5957298dbdca29a6cf9f8d43c26a273102e2b0e", checked := Try.checked }
namespace Rows
def none {H : Type} : Left H := { results := [], args := [] }

/-- 'laws.FnExactTurnsOf': WHATEVER THE INPUT: true; the input reads as it did. -/
def fnExactTurnsOfSpec : ChangeSpec := { name := "fnExactTurnsOf", fn := fun _ => fun
  | [d1, d2] => { results := [.lit (.bool true)], args := [d1, d2] }
  | _ => none }
def fnExactTurnsOfRow : OpenClaim := { program := "ytdppkdcfocaemaa", sum := "0cf1021d9e84b0398050d0a7e5957298dbdca29a6cf9f8d43c26a273102e2b0e", func := "loop.example/linksandframes/laws.FnExactTurnsOf", spec := "fnExactTurnsOf", unfollowed := true, recurses := true, apart := false }
def FnExactTurnsOfSaid : Prop := fnExactTurnsOfRow.holds Try.pinned (OpenSpec.ofChange fnExactTurnsOfSpec)

/-- ITS FALSE NEIGHBOUR: 'it returns false'. Refute it at one input. -/
def fnExactTurnsOfWrong : ChangeSpec := { name := "fnExactTurnsOf", fn := fun _ => fun
  | [d1, d2] => { results := [.lit (.bool false)], args := [d1, d2] }
  | _ => none }
def FnExactTurnsOfWrongFalsely : Prop := fnExactTurnsOfRow.holds Try.pinned (OpenSpec.ofChange fnExactTurnsOfWrong)

/-- 'laws.FnExactSmoothOf': WHATEVER THE INPUT: true; the input reads as it did. -/
def fnExactSmoothOfSpec : ChangeSpec := { name := "fnExactSmoothOf", fn := fun _ => fun
  | [d1, d2] => { results := [.lit (.bool true)], args := [d1, d2] }
  | _ => none }
def fnExactSmoothOfRow : OpenClaim := { program := "ytdppkdcfocaemaa", sum := "0cf1021d9e84b0398050d0a7e5957298dbdca29a6cf9f8d43c26a273102e2b0e", func := "loop.example/linksandframes/laws.FnExactSmoothOf", spec := "fnExactSmoothOf", unfollowed := true, recurses := true, apart := false }
def FnExactSmoothOfSaid : Prop := fnExactSmoothOfRow.holds Try.pinned (OpenSpec.ofChange fnExactSmoothOfSpec)

/-- ITS FALSE NEIGHBOUR: 'it returns false'. Refute it at one input. -/
def fnExactSmoothOfWrong : ChangeSpec := { name := "fnExactSmoothOf", fn := fun _ => fun
  | [d1, d2] => { results := [.lit (.bool false)], args := [d1, d2] }
  | _ => none }
def FnExactSmoothOfWrongFalsely : Prop := fnExactSmoothOfRow.holds Try.pinned (OpenSpec.ofChange fnExactSmoothOfWrong)

/-- 'laws.FnExactPassesOf': WHATEVER THE INPUT: true; the input reads as it did. -/
def fnExactPassesOfSpec : ChangeSpec := { name := "fnExactPassesOf", fn := fun _ => fun
  | [d1, d2, d3] => { results := [.lit (.bool true)], args := [d1, d2, d3] }
  | _ => none }
def fnExactPassesOfRow : OpenClaim := { program := "ytdppkdcfocaemaa", sum := "0cf1021d9e84b0398050d0a7e5957298dbdca29a6cf9f8d43c26a273102e2b0e", func := "loop.example/linksandframes/laws.FnExactPassesOf", spec := "fnExactPassesOf", unfollowed := true, recurses := true, apart := false }
def FnExactPassesOfSaid : Prop := fnExactPassesOfRow.holds Try.pinned (OpenSpec.ofChange fnExactPassesOfSpec)

/-- ITS FALSE NEIGHBOUR: 'it returns false'. Refute it at one input. -/
def fnExactPassesOfWrong : ChangeSpec := { name := "fnExactPassesOf", fn := fun _ => fun
  | [d1, d2, d3] => { results := [.lit (.bool false)], args := [d1, d2, d3] }
  | _ => none }
def FnExactPassesOfWrongFalsely : Prop := fnExactPassesOfRow.holds Try.pinned (OpenSpec.ofChange fnExactPassesOfWrong)

/-- 'laws.FnPassesOf': WHATEVER THE INPUT: true; the input reads as it did. -/
def fnPassesOfSpec : ChangeSpec := { name := "fnPassesOf", fn := fun _ => fun
  | [d] => { results := [.lit (.bool true)], args := [d] }
  | _ => none }
def fnPassesOfRow : OpenClaim := { program := "ytdppkdcfocaemaa", sum := "0cf1021d9e84b0398050d0a7e5957298dbdca29a6cf9f8d43c26a273102e2b0e", func := "loop.example/linksandframes/laws.FnPassesOf", spec := "fnPassesOf", unfollowed := true, recurses := true, apart := false }
def FnPassesOfSaid : Prop := fnPassesOfRow.holds Try.pinned (OpenSpec.ofChange fnPassesOfSpec)

/-- ITS FALSE NEIGHBOUR: 'it returns false'. Refute it at one input. -/
def fnPassesOfWrong : ChangeSpec := { name := "fnPassesOf", fn := fun _ => fun
  | [d] => { results := [.lit (.bool false)], args := [d] }
  | _ => none }
def FnPassesOfWrongFalsely : Prop := fnPassesOfRow.holds Try.pinned (OpenSpec.ofChange fnPassesOfWrong)

/-- 'laws.FnExactDepthFor': WHATEVER THE INPUT: true; the input reads as it did. -/
def fnExactDepthForSpec : ChangeSpec := { name := "fnExactDepthFor", fn := fun _ => fun
  | [d1, d2] => { results := [.lit (.bool true)], args := [d1, d2] }
  | _ => none }
def fnExactDepthForRow : OpenClaim := { program := "ytdppkdcfocaemaa", sum := "0cf1021d9e84b0398050d0a7e5957298dbdca29a6cf9f8d43c26a273102e2b0e", func := "loop.example/linksandframes/laws.FnExactDepthFor", spec := "fnExactDepthFor", unfollowed := true, recurses := true, apart := false }
def FnExactDepthForSaid : Prop := fnExactDepthForRow.holds Try.pinned (OpenSpec.ofChange fnExactDepthForSpec)

/-- ITS FALSE NEIGHBOUR: 'it returns false'. Refute it at one input. -/
def fnExactDepthForWrong : ChangeSpec := { name := "fnExactDepthFor", fn := fun _ => fun
  | [d1, d2] => { results := [.lit (.bool false)], args := [d1, d2] }
  | _ => none }
def FnExactDepthForWrongFalsely : Prop := fnExactDepthForRow.holds Try.pinned (OpenSpec.ofChange fnExactDepthForWrong)

/-- 'laws.FnExactSharesOf': WHATEVER THE INPUT: true; the input reads as it did. -/
def fnExactSharesOfSpec : ChangeSpec := { name := "fnExactSharesOf", fn := fun _ => fun
  | [d1, d2] => { results := [.lit (.bool true)], args := [d1, d2] }
  | _ => none }
def fnExactSharesOfRow : OpenClaim := { program := "ytdppkdcfocaemaa", sum := "0cf1021d9e84b0398050d0a7e5957298dbdca29a6cf9f8d43c26a273102e2b0e", func := "loop.example/linksandframes/laws.FnExactSharesOf", spec := "fnExactSharesOf", unfollowed := true, recurses := true, apart := false }
def FnExactSharesOfSaid : Prop := fnExactSharesOfRow.holds Try.pinned (OpenSpec.ofChange fnExactSharesOfSpec)

/-- ITS FALSE NEIGHBOUR: 'it returns false'. Refute it at one input. -/
def fnExactSharesOfWrong : ChangeSpec := { name := "fnExactSharesOf", fn := fun _ => fun
  | [d1, d2] => { results := [.lit (.bool false)], args := [d1, d2] }
  | _ => none }
def FnExactSharesOfWrongFalsely : Prop := fnExactSharesOfRow.holds Try.pinned (OpenSpec.ofChange fnExactSharesOfWrong)

/-- 'laws.FnSmoothOf': WHATEVER THE INPUT: true; the input reads as it did. -/
def fnSmoothOfSpec : ChangeSpec := { name := "fnSmoothOf", fn := fun _ => fun
  | [d] => { results := [.lit (.bool true)], args := [d] }
  | _ => none }
def fnSmoothOfRow : OpenClaim := { program := "ytdppkdcfocaemaa", sum := "0cf1021d9e84b0398050d0a7e5957298dbdca29a6cf9f8d43c26a273102e2b0e", func := "loop.example/linksandframes/laws.FnSmoothOf", spec := "fnSmoothOf", unfollowed := true, recurses := true, apart := false }
def FnSmoothOfSaid : Prop := fnSmoothOfRow.holds Try.pinned (OpenSpec.ofChange fnSmoothOfSpec)

/-- ITS FALSE NEIGHBOUR: 'it returns false'. Refute it at one input. -/
def fnSmoothOfWrong : ChangeSpec := { name := "fnSmoothOf", fn := fun _ => fun
  | [d] => { results := [.lit (.bool false)], args := [d] }
  | _ => none }
def FnSmoothOfWrongFalsely : Prop := fnSmoothOfRow.holds Try.pinned (OpenSpec.ofChange fnSmoothOfWrong)

/-- 'laws.FnTurnsOf': WHATEVER THE INPUT: true; the input reads as it did. -/
def fnTurnsOfSpec : ChangeSpec := { name := "fnTurnsOf", fn := fun _ => fun
  | [d] => { results := [.lit (.bool true)], args := [d] }
  | _ => none }
def fnTurnsOfRow : OpenClaim := { program := "ytdppkdcfocaemaa", sum := "0cf1021d9e84b0398050d0a7e5957298dbdca29a6cf9f8d43c26a273102e2b0e", func := "loop.example/linksandframes/laws.FnTurnsOf", spec := "fnTurnsOf", unfollowed := true, recurses := true, apart := false }
def FnTurnsOfSaid : Prop := fnTurnsOfRow.holds Try.pinned (OpenSpec.ofChange fnTurnsOfSpec)

/-- ITS FALSE NEIGHBOUR: 'it returns false'. Refute it at one input. -/
def fnTurnsOfWrong : ChangeSpec := { name := "fnTurnsOf", fn := fun _ => fun
  | [d] => { results := [.lit (.bool false)], args := [d] }
  | _ => none }
def FnTurnsOfWrongFalsely : Prop := fnTurnsOfRow.holds Try.pinned (OpenSpec.ofChange fnTurnsOfWrong)

/-- 'laws.FnSharesOf': WHATEVER THE INPUT: true; the input reads as it did. -/
def fnSharesOfSpec : ChangeSpec := { name := "fnSharesOf", fn := fun _ => fun
  | [d] => { results := [.lit (.bool true)], args := [d] }
  | _ => none }
def fnSharesOfRow : OpenClaim := { program := "ytdppkdcfocaemaa", sum := "0cf1021d9e84b0398050d0a7e5957298dbdca29a6cf9f8d43c26a273102e2b0e", func := "loop.example/linksandframes/laws.FnSharesOf", spec := "fnSharesOf", unfollowed := true, recurses := true, apart := false }
def FnSharesOfSaid : Prop := fnSharesOfRow.holds Try.pinned (OpenSpec.ofChange fnSharesOfSpec)

/-- ITS FALSE NEIGHBOUR: 'it returns false'. Refute it at one input. -/
def fnSharesOfWrong : ChangeSpec := { name := "fnSharesOf", fn := fun _ => fun
  | [d] => { results := [.lit (.bool false)], args := [d] }
  | _ => none }
def FnSharesOfWrongFalsely : Prop := fnSharesOfRow.holds Try.pinned (OpenSpec.ofChange fnSharesOfWrong)

/-- 'laws.FnDepthFor': WHATEVER THE INPUT: true; the input reads as it did. -/
def fnDepthForSpec : ChangeSpec := { name := "fnDepthFor", fn := fun _ => fun
  | [d] => { results := [.lit (.bool true)], args := [d] }
  | _ => none }
def fnDepthForRow : OpenClaim := { program := "ytdppkdcfocaemaa", sum := "0cf1021d9e84b0398050d0a7e5957298dbdca29a6cf9f8d43c26a273102e2b0e", func := "loop.example/linksandframes/laws.FnDepthFor", spec := "fnDepthFor", unfollowed := true, recurses := true, apart := false }
def FnDepthForSaid : Prop := fnDepthForRow.holds Try.pinned (OpenSpec.ofChange fnDepthForSpec)

/-- ITS FALSE NEIGHBOUR: 'it returns false'. Refute it at one input. -/
def fnDepthForWrong : ChangeSpec := { name := "fnDepthFor", fn := fun _ => fun
  | [d] => { results := [.lit (.bool false)], args := [d] }
  | _ => none }
def FnDepthForWrongFalsely : Prop := fnDepthForRow.holds Try.pinned (OpenSpec.ofChange fnDepthForWrong)

/- THE SECOND FORM. 'bulk': how many values and letters a reading holds, each counted each time it is reached (what is shared counts as often as it is met; a slice's spare places count too). A statement '..UptoSaid' is the law's where the arguments, and the package variables that the reading takes, are together of bulk at most 1048576: NARROWER than '..Said'. Prove '..Said' where nothing that the law and all that it calls make is longer than what came in: it says more and counts as full. Else prove '..UptoSaid'. A law counts once. -/
mutual
def uptoBulk {H : Type} : DataW H → Nat
  | .lit (.string bytes) => bytes.length + 1
  | .lit _ => 1
  | .nil => 1
  | .ptr d => uptoBulk d + 1
  | .slice elems spare => uptoBulkAll elems + uptoBulkAll spare + 1
  | .agg parts => uptoBulkAll parts + 1
  | .iface _ d => uptoBulk d + 1
  | .map entries => uptoBulkEntries entries + 1
  | .held _ => 1
def uptoBulkAll {H : Type} : List (DataW H) → Nat
  | [] => 0
  | d :: r => uptoBulk d + uptoBulkAll r
def uptoBulkEntries {H : Type} : List (Lit × DataW H) → Nat
  | [] => 0
  | x :: r => uptoBulkEntry x + uptoBulkEntries r
def uptoBulkEntry {H : Type} : Lit × DataW H → Nat
  | (.string bytes, d) => bytes.length + uptoBulk d + 1
  | (_, d) => uptoBulk d + 1
 end
def uptoSmall : (H : Type) → List (DataW H) → Bool := fun _ ds => decide (uptoBulkAll ds ≤ 1048576)
def OpenSpec.upto (s : _root_.Go.ChangeSpec) : _root_.Go.OpenSpec := { _root_.Go.OpenSpec.ofChange s with cond := some uptoSmall }

/-- 'laws.FnExactTurnsOf', WHERE WHAT IT READS IS OF BULK AT MOST 1048576: true; the input reads as it did. -/
def fnExactTurnsOfUptoRow : OpenClaim := { program := "ytdppkdcfocaemaa", sum := "0cf1021d9e84b0398050d0a7e5957298dbdca29a6cf9f8d43c26a273102e2b0e", func := "loop.example/linksandframes/laws.FnExactTurnsOf", spec := "fnExactTurnsOf", unfollowed := true, recurses := true, apart := false, narrowed := true }
def FnExactTurnsOfUptoSaid : Prop := fnExactTurnsOfUptoRow.holds Try.pinned (OpenSpec.upto fnExactTurnsOfSpec)

/-- 'laws.FnExactSmoothOf', WHERE WHAT IT READS IS OF BULK AT MOST 1048576: true; the input reads as it did. -/
def fnExactSmoothOfUptoRow : OpenClaim := { program := "ytdppkdcfocaemaa", sum := "0cf1021d9e84b0398050d0a7e5957298dbdca29a6cf9f8d43c26a273102e2b0e", func := "loop.example/linksandframes/laws.FnExactSmoothOf", spec := "fnExactSmoothOf", unfollowed := true, recurses := true, apart := false, narrowed := true }
def FnExactSmoothOfUptoSaid : Prop := fnExactSmoothOfUptoRow.holds Try.pinned (OpenSpec.upto fnExactSmoothOfSpec)

/-- 'laws.FnExactPassesOf', WHERE WHAT IT READS IS OF BULK AT MOST 1048576: true; the input reads as it did. -/
def fnExactPassesOfUptoRow : OpenClaim := { program := "ytdppkdcfocaemaa", sum := "0cf1021d9e84b0398050d0a7e5957298dbdca29a6cf9f8d43c26a273102e2b0e", func := "loop.example/linksandframes/laws.FnExactPassesOf", spec := "fnExactPassesOf", unfollowed := true, recurses := true, apart := false, narrowed := true }
def FnExactPassesOfUptoSaid : Prop := fnExactPassesOfUptoRow.holds Try.pinned (OpenSpec.upto fnExactPassesOfSpec)

/-- 'laws.FnPassesOf', WHERE WHAT IT READS IS OF BULK AT MOST 1048576: true; the input reads as it did. -/
def fnPassesOfUptoRow : OpenClaim := { program := "ytdppkdcfocaemaa", sum := "0cf1021d9e84b0398050d0a7e5957298dbdca29a6cf9f8d43c26a273102e2b0e", func := "loop.example/linksandframes/laws.FnPassesOf", spec := "fnPassesOf", unfollowed := true, recurses := true, apart := false, narrowed := true }
def FnPassesOfUptoSaid : Prop := fnPassesOfUptoRow.holds Try.pinned (OpenSpec.upto fnPassesOfSpec)

/-- 'laws.FnExactDepthFor', WHERE WHAT IT READS IS OF BULK AT MOST 1048576: true; the input reads as it did. -/
def fnExactDepthForUptoRow : OpenClaim := { program := "ytdppkdcfocaemaa", sum := "0cf1021d9e84b0398050d0a7e5957298dbdca29a6cf9f8d43c26a273102e2b0e", func := "loop.example/linksandframes/laws.FnExactDepthFor", spec := "fnExactDepthFor", unfollowed := true, recurses := true, apart := false, narrowed := true }
def FnExactDepthForUptoSaid : Prop := fnExactDepthForUptoRow.holds Try.pinned (OpenSpec.upto fnExactDepthForSpec)

/-- 'laws.FnExactSharesOf', WHERE WHAT IT READS IS OF BULK AT MOST 1048576: true; the input reads as it did. -/
def fnExactSharesOfUptoRow : OpenClaim := { program := "ytdppkdcfocaemaa", sum := "0cf1021d9e84b0398050d0a7e5957298dbdca29a6cf9f8d43c26a273102e2b0e", func := "loop.example/linksandframes/laws.FnExactSharesOf", spec := "fnExactSharesOf", unfollowed := true, recurses := true, apart := false, narrowed := true }
def FnExactSharesOfUptoSaid : Prop := fnExactSharesOfUptoRow.holds Try.pinned (OpenSpec.upto fnExactSharesOfSpec)

/-- 'laws.FnSmoothOf', WHERE WHAT IT READS IS OF BULK AT MOST 1048576: true; the input reads as it did. -/
def fnSmoothOfUptoRow : OpenClaim := { program := "ytdppkdcfocaemaa", sum := "0cf1021d9e84b0398050d0a7e5957298dbdca29a6cf9f8d43c26a273102e2b0e", func := "loop.example/linksandframes/laws.FnSmoothOf", spec := "fnSmoothOf", unfollowed := true, recurses := true, apart := false, narrowed := true }
def FnSmoothOfUptoSaid : Prop := fnSmoothOfUptoRow.holds Try.pinned (OpenSpec.upto fnSmoothOfSpec)

/-- 'laws.FnTurnsOf', WHERE WHAT IT READS IS OF BULK AT MOST 1048576: true; the input reads as it did. -/
def fnTurnsOfUptoRow : OpenClaim := { program := "ytdppkdcfocaemaa", sum := "0cf1021d9e84b0398050d0a7e5957298dbdca29a6cf9f8d43c26a273102e2b0e", func := "loop.example/linksandframes/laws.FnTurnsOf", spec := "fnTurnsOf", unfollowed := true, recurses := true, apart := false, narrowed := true }
def FnTurnsOfUptoSaid : Prop := fnTurnsOfUptoRow.holds Try.pinned (OpenSpec.upto fnTurnsOfSpec)

/-- 'laws.FnSharesOf', WHERE WHAT IT READS IS OF BULK AT MOST 1048576: true; the input reads as it did. -/
def fnSharesOfUptoRow : OpenClaim := { program := "ytdppkdcfocaemaa", sum := "0cf1021d9e84b0398050d0a7e5957298dbdca29a6cf9f8d43c26a273102e2b0e", func := "loop.example/linksandframes/laws.FnSharesOf", spec := "fnSharesOf", unfollowed := true, recurses := true, apart := false, narrowed := true }
def FnSharesOfUptoSaid : Prop := fnSharesOfUptoRow.holds Try.pinned (OpenSpec.upto fnSharesOfSpec)

/-- 'laws.FnDepthFor', WHERE WHAT IT READS IS OF BULK AT MOST 1048576: true; the input reads as it did. -/
def fnDepthForUptoRow : OpenClaim := { program := "ytdppkdcfocaemaa", sum := "0cf1021d9e84b0398050d0a7e5957298dbdca29a6cf9f8d43c26a273102e2b0e", func := "loop.example/linksandframes/laws.FnDepthFor", spec := "fnDepthFor", unfollowed := true, recurses := true, apart := false, narrowed := true }
def FnDepthForUptoSaid : Prop := fnDepthForUptoRow.holds Try.pinned (OpenSpec.upto fnDepthForSpec)

end Rows
end Go.Proofs.Ytdppkdcfocaemaa

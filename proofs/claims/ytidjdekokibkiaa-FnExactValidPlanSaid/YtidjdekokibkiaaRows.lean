/-
  No cell of these rows narrows 'for every input' (looked for: loops, veiled, ifaces, maps, wideKeys, modest, calm, conditions, laid).
  DERIVED. THE GIVEN ROWS OF THIS SEAT. 9 by the template 'for every input the law returns true; each argument reads behind the call as it read before'; 0 by the template 'total and deterministic' (their statements: YtidjdekokibkiaaTotals.lean).
  GIVEN WITH THE SEED: the statements are not yours to turn. If you find one false, say at which input.
  Laid BY PROGRAM, IN A SANDBOX (cutbox-rows.mjs): the forced cells as the released guide's own fill.sh prints them over the translation ade6b7e448587c00… (all of the seat's roots in one cut). By AI agents, Wed Nov 11 2026. No macro, syntax, notation, axiom, sorry.
-/
import Derived.Test.YtidjdekokibkiaaChecked
import GoSem.Claim
import GoSem.ClaimJoined
import GoSem.ClaimMapViews
import Derived.JoinedTies
import Derived.KernelRfl
namespace Go.Proofs.Ytidjdekokibkiaa
/- THE CELL 'sum', in the pinned program and in every row, IS THE sha256 OF THE DUMP (.gsa) THAT YtidjdekokibkiaaProg.lean LOADS. Nothing in Lean hashes anything: it is a label: what it is worth is what the hold of that sum in a sandbox is worth. -/
noncomputable def Try.pinned : Pinned := { name := "ytidjdekokibkiaa", sum := "ade6b7e448587c00358642c8d14ba654110529ae792a01bf1dbad262348e475d", checked := Try.checked }
namespace Rows
def none {H : Type} : Left H := { results := [], args := [] }

/-- 'laws.FnExactConstants': WHATEVER THE INPUT: true; the input reads as it did. -/
def fnExactConstantsSpec : ChangeSpec := { name := "fnExactConstants", fn := fun _ => fun
  | [] => { results := [.lit (.bool true)], args := [] }
  | _ => none }
def fnExactConstantsRow : OpenClaim := { program := "ytidjdekokibkiaa", sum := "ade6b7e448587c00358642c8d14ba654110529ae792a01bf1dbad262348e475d", func := "loop.example/linksandframes/laws.FnExactConstants", spec := "fnExactConstants", apart := false }
def FnExactConstantsSaid : Prop := fnExactConstantsRow.holds Try.pinned (OpenSpec.ofChange fnExactConstantsSpec)

/-- ITS FALSE NEIGHBOUR: 'it returns false'. Refute it at one input. -/
def fnExactConstantsWrong : ChangeSpec := { name := "fnExactConstants", fn := fun _ => fun
  | [] => { results := [.lit (.bool false)], args := [] }
  | _ => none }
def FnExactConstantsWrongFalsely : Prop := fnExactConstantsRow.holds Try.pinned (OpenSpec.ofChange fnExactConstantsWrong)

/-- 'laws.FnNewLink': WHATEVER THE INPUT: true; the input reads as it did. -/
def fnNewLinkSpec : ChangeSpec := { name := "fnNewLink", fn := fun _ => fun
  | [d] => { results := [.lit (.bool true)], args := [d] }
  | _ => none }
def fnNewLinkRow : OpenClaim := { program := "ytidjdekokibkiaa", sum := "ade6b7e448587c00358642c8d14ba654110529ae792a01bf1dbad262348e475d", func := "loop.example/linksandframes/laws.FnNewLink", spec := "fnNewLink", apart := false }
def FnNewLinkSaid : Prop := fnNewLinkRow.holds Try.pinned (OpenSpec.ofChange fnNewLinkSpec)

/-- ITS FALSE NEIGHBOUR: 'it returns false'. Refute it at one input. -/
def fnNewLinkWrong : ChangeSpec := { name := "fnNewLink", fn := fun _ => fun
  | [d] => { results := [.lit (.bool false)], args := [d] }
  | _ => none }
def FnNewLinkWrongFalsely : Prop := fnNewLinkRow.holds Try.pinned (OpenSpec.ofChange fnNewLinkWrong)

/-- 'laws.FnExactValidPlan': WHATEVER THE INPUT: true; the input reads as it did. -/
def fnExactValidPlanSpec : ChangeSpec := { name := "fnExactValidPlan", fn := fun _ => fun
  | [d] => { results := [.lit (.bool true)], args := [d] }
  | _ => none }
def fnExactValidPlanRow : OpenClaim := { program := "ytidjdekokibkiaa", sum := "ade6b7e448587c00358642c8d14ba654110529ae792a01bf1dbad262348e475d", func := "loop.example/linksandframes/laws.FnExactValidPlan", spec := "fnExactValidPlan", apart := false }
def FnExactValidPlanSaid : Prop := fnExactValidPlanRow.holds Try.pinned (OpenSpec.ofChange fnExactValidPlanSpec)

/-- ITS FALSE NEIGHBOUR: 'it returns false'. Refute it at one input. -/
def fnExactValidPlanWrong : ChangeSpec := { name := "fnExactValidPlan", fn := fun _ => fun
  | [d] => { results := [.lit (.bool false)], args := [d] }
  | _ => none }
def FnExactValidPlanWrongFalsely : Prop := fnExactValidPlanRow.holds Try.pinned (OpenSpec.ofChange fnExactValidPlanWrong)

/-- 'laws.FnExactFoldSign': WHATEVER THE INPUT: true; the input reads as it did. -/
def fnExactFoldSignSpec : ChangeSpec := { name := "fnExactFoldSign", fn := fun _ => fun
  | [d] => { results := [.lit (.bool true)], args := [d] }
  | _ => none }
def fnExactFoldSignRow : OpenClaim := { program := "ytidjdekokibkiaa", sum := "ade6b7e448587c00358642c8d14ba654110529ae792a01bf1dbad262348e475d", func := "loop.example/linksandframes/laws.FnExactFoldSign", spec := "fnExactFoldSign", apart := false }
def FnExactFoldSignSaid : Prop := fnExactFoldSignRow.holds Try.pinned (OpenSpec.ofChange fnExactFoldSignSpec)

/-- ITS FALSE NEIGHBOUR: 'it returns false'. Refute it at one input. -/
def fnExactFoldSignWrong : ChangeSpec := { name := "fnExactFoldSign", fn := fun _ => fun
  | [d] => { results := [.lit (.bool false)], args := [d] }
  | _ => none }
def FnExactFoldSignWrongFalsely : Prop := fnExactFoldSignRow.holds Try.pinned (OpenSpec.ofChange fnExactFoldSignWrong)

/-- 'laws.FnExactUnfoldSign': WHATEVER THE INPUT: true; the input reads as it did. -/
def fnExactUnfoldSignSpec : ChangeSpec := { name := "fnExactUnfoldSign", fn := fun _ => fun
  | [d] => { results := [.lit (.bool true)], args := [d] }
  | _ => none }
def fnExactUnfoldSignRow : OpenClaim := { program := "ytidjdekokibkiaa", sum := "ade6b7e448587c00358642c8d14ba654110529ae792a01bf1dbad262348e475d", func := "loop.example/linksandframes/laws.FnExactUnfoldSign", spec := "fnExactUnfoldSign", apart := false }
def FnExactUnfoldSignSaid : Prop := fnExactUnfoldSignRow.holds Try.pinned (OpenSpec.ofChange fnExactUnfoldSignSpec)

/-- ITS FALSE NEIGHBOUR: 'it returns false'. Refute it at one input. -/
def fnExactUnfoldSignWrong : ChangeSpec := { name := "fnExactUnfoldSign", fn := fun _ => fun
  | [d] => { results := [.lit (.bool false)], args := [d] }
  | _ => none }
def FnExactUnfoldSignWrongFalsely : Prop := fnExactUnfoldSignRow.holds Try.pinned (OpenSpec.ofChange fnExactUnfoldSignWrong)

/-- 'laws.FnExactNewLink': WHATEVER THE INPUT: true; the input reads as it did. -/
def fnExactNewLinkSpec : ChangeSpec := { name := "fnExactNewLink", fn := fun _ => fun
  | [] => { results := [.lit (.bool true)], args := [] }
  | _ => none }
def fnExactNewLinkRow : OpenClaim := { program := "ytidjdekokibkiaa", sum := "ade6b7e448587c00358642c8d14ba654110529ae792a01bf1dbad262348e475d", func := "loop.example/linksandframes/laws.FnExactNewLink", spec := "fnExactNewLink", apart := false }
def FnExactNewLinkSaid : Prop := fnExactNewLinkRow.holds Try.pinned (OpenSpec.ofChange fnExactNewLinkSpec)

/-- ITS FALSE NEIGHBOUR: 'it returns false'. Refute it at one input. -/
def fnExactNewLinkWrong : ChangeSpec := { name := "fnExactNewLink", fn := fun _ => fun
  | [] => { results := [.lit (.bool false)], args := [] }
  | _ => none }
def FnExactNewLinkWrongFalsely : Prop := fnExactNewLinkRow.holds Try.pinned (OpenSpec.ofChange fnExactNewLinkWrong)

/-- 'laws.FnValidPlan': WHATEVER THE INPUT: true; the input reads as it did. -/
def fnValidPlanSpec : ChangeSpec := { name := "fnValidPlan", fn := fun _ => fun
  | [d] => { results := [.lit (.bool true)], args := [d] }
  | _ => none }
def fnValidPlanRow : OpenClaim := { program := "ytidjdekokibkiaa", sum := "ade6b7e448587c00358642c8d14ba654110529ae792a01bf1dbad262348e475d", func := "loop.example/linksandframes/laws.FnValidPlan", spec := "fnValidPlan", apart := false }
def FnValidPlanSaid : Prop := fnValidPlanRow.holds Try.pinned (OpenSpec.ofChange fnValidPlanSpec)

/-- ITS FALSE NEIGHBOUR: 'it returns false'. Refute it at one input. -/
def fnValidPlanWrong : ChangeSpec := { name := "fnValidPlan", fn := fun _ => fun
  | [d] => { results := [.lit (.bool false)], args := [d] }
  | _ => none }
def FnValidPlanWrongFalsely : Prop := fnValidPlanRow.holds Try.pinned (OpenSpec.ofChange fnValidPlanWrong)

/-- 'laws.FnFoldSign': WHATEVER THE INPUT: true; the input reads as it did. -/
def fnFoldSignSpec : ChangeSpec := { name := "fnFoldSign", fn := fun _ => fun
  | [d] => { results := [.lit (.bool true)], args := [d] }
  | _ => none }
def fnFoldSignRow : OpenClaim := { program := "ytidjdekokibkiaa", sum := "ade6b7e448587c00358642c8d14ba654110529ae792a01bf1dbad262348e475d", func := "loop.example/linksandframes/laws.FnFoldSign", spec := "fnFoldSign", apart := false }
def FnFoldSignSaid : Prop := fnFoldSignRow.holds Try.pinned (OpenSpec.ofChange fnFoldSignSpec)

/-- ITS FALSE NEIGHBOUR: 'it returns false'. Refute it at one input. -/
def fnFoldSignWrong : ChangeSpec := { name := "fnFoldSign", fn := fun _ => fun
  | [d] => { results := [.lit (.bool false)], args := [d] }
  | _ => none }
def FnFoldSignWrongFalsely : Prop := fnFoldSignRow.holds Try.pinned (OpenSpec.ofChange fnFoldSignWrong)

/-- 'laws.FnUnfoldSign': WHATEVER THE INPUT: true; the input reads as it did. -/
def fnUnfoldSignSpec : ChangeSpec := { name := "fnUnfoldSign", fn := fun _ => fun
  | [d] => { results := [.lit (.bool true)], args := [d] }
  | _ => none }
def fnUnfoldSignRow : OpenClaim := { program := "ytidjdekokibkiaa", sum := "ade6b7e448587c00358642c8d14ba654110529ae792a01bf1dbad262348e475d", func := "loop.example/linksandframes/laws.FnUnfoldSign", spec := "fnUnfoldSign", apart := false }
def FnUnfoldSignSaid : Prop := fnUnfoldSignRow.holds Try.pinned (OpenSpec.ofChange fnUnfoldSignSpec)

/-- ITS FALSE NEIGHBOUR: 'it returns false'. Refute it at one input. -/
def fnUnfoldSignWrong : ChangeSpec := { name := "fnUnfoldSign", fn := fun _ => fun
  | [d] => { results := [.lit (.bool false)], args := [d] }
  | _ => none }
def FnUnfoldSignWrongFalsely : Prop := fnUnfoldSignRow.holds Try.pinned (OpenSpec.ofChange fnUnfoldSignWrong)

/- THE SECOND FORM. 'bulk': how many values and letters a reading holds, each counted each time it is reached (what is shared counts as often as it is met; a slice's spare places count too). A statement '..UptoSaid' is the law's where the arguments, and the package variables that the reading takes, are together of bulk at most 1048576: NARROWER than '..Said'. Prove '..Said' where nothing that the law and all that it calls make is longer than what came in: it says more and counts as full. Else prove '..UptoSaid'. A law counts once. -/
mutual
def uptoBulk {H : Type} : DataW H → Nat
  | .lit (.string bytes) => bytes.length + 1
  | .lit _ => 1
  | .nil => 1
  | .ptr d => uptoBulk d + 1
  | .slice elems spare => uptoBulkAll elems + uptoBulkAll spare + 1
  | .agg parts => uptoBulkAll parts + 1
  | .iface _ d => uptoBulk d + 1
  | .map entries => uptoBulkEntries entries + 1
  | .held _ => 1
def uptoBulkAll {H : Type} : List (DataW H) → Nat
  | [] => 0
  | d :: r => uptoBulk d + uptoBulkAll r
def uptoBulkEntries {H : Type} : List (Lit × DataW H) → Nat
  | [] => 0
  | x :: r => uptoBulkEntry x + uptoBulkEntries r
def uptoBulkEntry {H : Type} : Lit × DataW H → Nat
  | (.string bytes, d) => bytes.length + uptoBulk d + 1
  | (_, d) => uptoBulk d + 1
 end
def uptoSmall : (H : Type) → List (DataW H) → Bool := fun _ ds => decide (uptoBulkAll ds ≤ 1048576)
def OpenSpec.upto (s : _root_.Go.ChangeSpec) : _root_.Go.OpenSpec := { _root_.Go.OpenSpec.ofChange s with cond := some uptoSmall }

/-- 'laws.FnExactConstants', WHERE WHAT IT READS IS OF BULK AT MOST 1048576: true; the input reads as it did. -/
def fnExactConstantsUptoRow : OpenClaim := { program := "ytidjdekokibkiaa", sum := "ade6b7e448587c00358642c8d14ba654110529ae792a01bf1dbad262348e475d", func := "loop.example/linksandframes/laws.FnExactConstants", spec := "fnExactConstants", apart := false, narrowed := true }
def FnExactConstantsUptoSaid : Prop := fnExactConstantsUptoRow.holds Try.pinned (OpenSpec.upto fnExactConstantsSpec)

/-- 'laws.FnNewLink', WHERE WHAT IT READS IS OF BULK AT MOST 1048576: true; the input reads as it did. -/
def fnNewLinkUptoRow : OpenClaim := { program := "ytidjdekokibkiaa", sum := "ade6b7e448587c00358642c8d14ba654110529ae792a01bf1dbad262348e475d", func := "loop.example/linksandframes/laws.FnNewLink", spec := "fnNewLink", apart := false, narrowed := true }
def FnNewLinkUptoSaid : Prop := fnNewLinkUptoRow.holds Try.pinned (OpenSpec.upto fnNewLinkSpec)

/-- 'laws.FnExactValidPlan', WHERE WHAT IT READS IS OF BULK AT MOST 1048576: true; the input reads as it did. -/
def fnExactValidPlanUptoRow : OpenClaim := { program := "ytidjdekokibkiaa", sum := "ade6b7e448587c00358642c8d14ba654110529ae792a01bf1dbad262348e475d", func := "loop.example/linksandframes/laws.FnExactValidPlan", spec := "fnExactValidPlan", apart := false, narrowed := true }
def FnExactValidPlanUptoSaid : Prop := fnExactValidPlanUptoRow.holds Try.pinned (OpenSpec.upto fnExactValidPlanSpec)

/-- 'laws.FnExactFoldSign', WHERE WHAT IT READS IS OF BULK AT MOST 1048576: true; the input reads as it did. -/
def fnExactFoldSignUptoRow : OpenClaim := { program := "ytidjdekokibkiaa", sum := "ade6b7e448587c00358642c8d14ba654110529ae792a01bf1dbad262348e475d", func := "loop.example/linksandframes/laws.FnExactFoldSign", spec := "fnExactFoldSign", apart := false, narrowed := true }
def FnExactFoldSignUptoSaid : Prop := fnExactFoldSignUptoRow.holds Try.pinned (OpenSpec.upto fnExactFoldSignSpec)

/-- 'laws.FnExactUnfoldSign', WHERE WHAT IT READS IS OF BULK AT MOST 1048576: true; the input reads as it did. -/
def fnExactUnfoldSignUptoRow : OpenClaim := { program := "ytidjdekokibkiaa", sum := "ade6b7e448587c00358642c8d14ba654110529ae792a01bf1dbad262348e475d", func := "loop.example/linksandframes/laws.FnExactUnfoldSign", spec := "fnExactUnfoldSign", apart := false, narrowed := true }
def FnExactUnfoldSignUptoSaid : Prop := fnExactUnfoldSignUptoRow.holds Try.pinned (OpenSpec.upto fnExactUnfoldSignSpec)

/-- 'laws.FnExactNewLink', WHERE WHAT IT READS IS OF BULK AT MOST 1048576: true; the input reads as it did. -/
def fnExactNewLinkUptoRow : OpenClaim := { program := "ytidjdekokibkiaa", sum := "ade6b7e448587c00358642c8d14ba654110529ae792a01bf1dbad262348e475d", func := "loop.example/linksandframes/laws.FnExactNewLink", spec := "fnExactNewLink", apart := false, narrowed := true }
def FnExactNewLinkUptoSaid : Prop := fnExactNewLinkUptoRow.holds Try.pinned (OpenSpec.upto fnExactNewLinkSpec)

/-- 'laws.FnValidPlan', WHERE WHAT IT READS IS OF BULK AT MOST 1048576: true; the input reads as it did. -/
def fnValidPlanUptoRow : OpenClaim := { program := "ytidjdekokibkiaa", sum := "ade6b7e448587c00358642c8d14ba654110529ae792a01bf1dbad262348e475d", func := "loop.example/linksandframes/laws.FnValidPlan", spec := "fnValidPlan", apart := false, narrowed := true }
def FnValidPlanUptoSaid : Prop := fnValidPlanUptoRow.holds Try.pinned (OpenSpec.upto fnValidPlanSpec)

/-- 'laws.FnFoldSign', WHERE WHAT IT READS IS OF BULK AT MOST 1048576: true; the input reads as it did. -/
def fnFoldSignUptoRow : OpenClaim := { program := "ytidjdekokibkiaa", sum := "ade6b7e448587c00358642c8d14ba654110529ae792a01bf1dbad262348e475d", func := "loop.example/linksandframes/laws.FnFoldSign", spec := "fnFoldSign", apart := false, narrowed := true }
def FnFoldSignUptoSaid : Prop := fnFoldSignUptoRow.holds Try.pinned (OpenSpec.upto fnFoldSignSpec)

/-- 'laws.FnUnfoldSign', WHERE WHAT IT READS IS OF BULK AT MOST 1048576: true; the input reads as it did. -/
def fnUnfoldSignUptoRow : OpenClaim := { program := "ytidjdekokibkiaa", sum := "ade6b7e448587c00358642c8d14ba654110529ae792a01bf1dbad262348e475d", func := "loop.example/linksandframes/laws.FnUnfoldSign", spec := "fnUnfoldSign", apart := false, narrowed := true }
def FnUnfoldSignUptoSaid : Prop := fnUnfoldSignUptoRow.holds Try.pinned (OpenSpec.upto fnUnfoldSignSpec)

end Rows
end Go.Proofs.Ytidjdekokibkiaa

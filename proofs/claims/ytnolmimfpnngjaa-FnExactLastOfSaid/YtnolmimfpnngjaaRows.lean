/-
  No cell of these rows narrows 'for every input' (looked for: loops, veiled, ifaces, maps, wideKeys, modest, calm, conditions, laid).
  DERIVED. THE GIVEN ROWS OF THIS SEAT. 10 by the template 'for every input the law returns true; each argument reads behind the call as it read before'; 0 by the template 'total and deterministic' (their statements: YtnolmimfpnngjaaTotals.lean).
  GIVEN WITH THE SEED: the statements are not yours to turn. If you find one false, say at which input.
  Laid BY PROGRAM, IN A SANDBOX (cutbox-rows.mjs): the forced cells as the released guide's own fill.sh prints them over the translation 51ee4a14a3f2b19c… (all of the seat's roots in one cut). By AI agents, Wed Nov 11 2026. No macro, syntax, notation, axiom, sorry.
-/
import Derived.Test.YtnolmimfpnngjaaChecked
import GoSem.Claim
import GoSem.ClaimJoined
import GoSem.ClaimMapViews
import Derived.JoinedTies
import Derived.KernelRfl
namespace Go.Proofs.Ytnolmimfpnngjaa
/- THE CELL 'sum', in the pinned program and in every row, IS THE sha256 OF THE DUMP (.gsa) THAT YtnolmimfpnngjaaProg.lean LOADS. Nothing in Lean hashes anything: it is a label: what it is worth is what the hold of that sum in a sandbox is worth. -/
noncomputable def Try.pinned : Pinned := { name := "ytnolmimfpnngjaa", sum := "51ee4a14a3f2b19ce61438ddf2765c1aeaf5c746778f765f8922cb77ae89da07", checked := Try.checked }
namespace Rows
def none {H : Type} : Left H := { results := [], args := [] }

/-- 'laws.FnExactGroupsOf': WHATEVER THE INPUT: true; the input reads as it did. -/
def fnExactGroupsOfSpec : ChangeSpec := { name := "fnExactGroupsOf", fn := fun _ => fun
  | [d] => { results := [.lit (.bool true)], args := [d] }
  | _ => none }
def fnExactGroupsOfRow : OpenClaim := { program := "ytnolmimfpnngjaa", sum := "51ee4a14a3f2b19ce61438ddf2765c1aeaf5c746778f765f8922cb77ae89da07", func := "loop.example/linksandframes/laws.FnExactGroupsOf", spec := "fnExactGroupsOf", apart := false }
def FnExactGroupsOfSaid : Prop := fnExactGroupsOfRow.holds Try.pinned (OpenSpec.ofChange fnExactGroupsOfSpec)

/-- ITS FALSE NEIGHBOUR: 'it returns false'. Refute it at one input. -/
def fnExactGroupsOfWrong : ChangeSpec := { name := "fnExactGroupsOf", fn := fun _ => fun
  | [d] => { results := [.lit (.bool false)], args := [d] }
  | _ => none }
def FnExactGroupsOfWrongFalsely : Prop := fnExactGroupsOfRow.holds Try.pinned (OpenSpec.ofChange fnExactGroupsOfWrong)

/-- 'laws.FnExactLastOf': WHATEVER THE INPUT: true; the input reads as it did. -/
def fnExactLastOfSpec : ChangeSpec := { name := "fnExactLastOf", fn := fun _ => fun
  | [d1, d2] => { results := [.lit (.bool true)], args := [d1, d2] }
  | _ => none }
def fnExactLastOfRow : OpenClaim := { program := "ytnolmimfpnngjaa", sum := "51ee4a14a3f2b19ce61438ddf2765c1aeaf5c746778f765f8922cb77ae89da07", func := "loop.example/linksandframes/laws.FnExactLastOf", spec := "fnExactLastOf", unfollowed := true, recurses := true, apart := false }
def FnExactLastOfSaid : Prop := fnExactLastOfRow.holds Try.pinned (OpenSpec.ofChange fnExactLastOfSpec)

/-- ITS FALSE NEIGHBOUR: 'it returns false'. Refute it at one input. -/
def fnExactLastOfWrong : ChangeSpec := { name := "fnExactLastOf", fn := fun _ => fun
  | [d1, d2] => { results := [.lit (.bool false)], args := [d1, d2] }
  | _ => none }
def FnExactLastOfWrongFalsely : Prop := fnExactLastOfRow.holds Try.pinned (OpenSpec.ofChange fnExactLastOfWrong)

/-- 'laws.FnExactValidOffer': WHATEVER THE INPUT: true; the input reads as it did. -/
def fnExactValidOfferSpec : ChangeSpec := { name := "fnExactValidOffer", fn := fun _ => fun
  | [d] => { results := [.lit (.bool true)], args := [d] }
  | _ => none }
def fnExactValidOfferRow : OpenClaim := { program := "ytnolmimfpnngjaa", sum := "51ee4a14a3f2b19ce61438ddf2765c1aeaf5c746778f765f8922cb77ae89da07", func := "loop.example/linksandframes/laws.FnExactValidOffer", spec := "fnExactValidOffer", unfollowed := true, recurses := true, apart := false }
def FnExactValidOfferSaid : Prop := fnExactValidOfferRow.holds Try.pinned (OpenSpec.ofChange fnExactValidOfferSpec)

/-- ITS FALSE NEIGHBOUR: 'it returns false'. Refute it at one input. -/
def fnExactValidOfferWrong : ChangeSpec := { name := "fnExactValidOffer", fn := fun _ => fun
  | [d] => { results := [.lit (.bool false)], args := [d] }
  | _ => none }
def FnExactValidOfferWrongFalsely : Prop := fnExactValidOfferRow.holds Try.pinned (OpenSpec.ofChange fnExactValidOfferWrong)

/-- 'laws.FnValidOffer': WHATEVER THE INPUT: true; the input reads as it did. -/
def fnValidOfferSpec : ChangeSpec := { name := "fnValidOffer", fn := fun _ => fun
  | [d] => { results := [.lit (.bool true)], args := [d] }
  | _ => none }
def fnValidOfferRow : OpenClaim := { program := "ytnolmimfpnngjaa", sum := "51ee4a14a3f2b19ce61438ddf2765c1aeaf5c746778f765f8922cb77ae89da07", func := "loop.example/linksandframes/laws.FnValidOffer", spec := "fnValidOffer", unfollowed := true, recurses := true, apart := false }
def FnValidOfferSaid : Prop := fnValidOfferRow.holds Try.pinned (OpenSpec.ofChange fnValidOfferSpec)

/-- ITS FALSE NEIGHBOUR: 'it returns false'. Refute it at one input. -/
def fnValidOfferWrong : ChangeSpec := { name := "fnValidOffer", fn := fun _ => fun
  | [d] => { results := [.lit (.bool false)], args := [d] }
  | _ => none }
def FnValidOfferWrongFalsely : Prop := fnValidOfferRow.holds Try.pinned (OpenSpec.ofChange fnValidOfferWrong)

/-- 'laws.FnExactNumberAt': WHATEVER THE INPUT: true; the input reads as it did. -/
def fnExactNumberAtSpec : ChangeSpec := { name := "fnExactNumberAt", fn := fun _ => fun
  | [d] => { results := [.lit (.bool true)], args := [d] }
  | _ => none }
def fnExactNumberAtRow : OpenClaim := { program := "ytnolmimfpnngjaa", sum := "51ee4a14a3f2b19ce61438ddf2765c1aeaf5c746778f765f8922cb77ae89da07", func := "loop.example/linksandframes/laws.FnExactNumberAt", spec := "fnExactNumberAt", unfollowed := true, recurses := true, apart := false }
def FnExactNumberAtSaid : Prop := fnExactNumberAtRow.holds Try.pinned (OpenSpec.ofChange fnExactNumberAtSpec)

/-- ITS FALSE NEIGHBOUR: 'it returns false'. Refute it at one input. -/
def fnExactNumberAtWrong : ChangeSpec := { name := "fnExactNumberAt", fn := fun _ => fun
  | [d] => { results := [.lit (.bool false)], args := [d] }
  | _ => none }
def FnExactNumberAtWrongFalsely : Prop := fnExactNumberAtRow.holds Try.pinned (OpenSpec.ofChange fnExactNumberAtWrong)

/-- 'laws.FnGroupsOf': WHATEVER THE INPUT: true; the input reads as it did. -/
def fnGroupsOfSpec : ChangeSpec := { name := "fnGroupsOf", fn := fun _ => fun
  | [d] => { results := [.lit (.bool true)], args := [d] }
  | _ => none }
def fnGroupsOfRow : OpenClaim := { program := "ytnolmimfpnngjaa", sum := "51ee4a14a3f2b19ce61438ddf2765c1aeaf5c746778f765f8922cb77ae89da07", func := "loop.example/linksandframes/laws.FnGroupsOf", spec := "fnGroupsOf", unfollowed := true, recurses := true, apart := false }
def FnGroupsOfSaid : Prop := fnGroupsOfRow.holds Try.pinned (OpenSpec.ofChange fnGroupsOfSpec)

/-- ITS FALSE NEIGHBOUR: 'it returns false'. Refute it at one input. -/
def fnGroupsOfWrong : ChangeSpec := { name := "fnGroupsOf", fn := fun _ => fun
  | [d] => { results := [.lit (.bool false)], args := [d] }
  | _ => none }
def FnGroupsOfWrongFalsely : Prop := fnGroupsOfRow.holds Try.pinned (OpenSpec.ofChange fnGroupsOfWrong)

/-- 'laws.FnAgree': WHATEVER THE INPUT: true; the input reads as it did. -/
def fnAgreeSpec : ChangeSpec := { name := "fnAgree", fn := fun _ => fun
  | [d] => { results := [.lit (.bool true)], args := [d] }
  | _ => none }
def fnAgreeRow : OpenClaim := { program := "ytnolmimfpnngjaa", sum := "51ee4a14a3f2b19ce61438ddf2765c1aeaf5c746778f765f8922cb77ae89da07", func := "loop.example/linksandframes/laws.FnAgree", spec := "fnAgree", unfollowed := true, recurses := true, apart := false }
def FnAgreeSaid : Prop := fnAgreeRow.holds Try.pinned (OpenSpec.ofChange fnAgreeSpec)

/-- ITS FALSE NEIGHBOUR: 'it returns false'. Refute it at one input. -/
def fnAgreeWrong : ChangeSpec := { name := "fnAgree", fn := fun _ => fun
  | [d] => { results := [.lit (.bool false)], args := [d] }
  | _ => none }
def FnAgreeWrongFalsely : Prop := fnAgreeRow.holds Try.pinned (OpenSpec.ofChange fnAgreeWrong)

/-- 'laws.FnExactAgree': WHATEVER THE INPUT: true; the input reads as it did. -/
def fnExactAgreeSpec : ChangeSpec := { name := "fnExactAgree", fn := fun _ => fun
  | [d1, d2] => { results := [.lit (.bool true)], args := [d1, d2] }
  | _ => none }
def fnExactAgreeRow : OpenClaim := { program := "ytnolmimfpnngjaa", sum := "51ee4a14a3f2b19ce61438ddf2765c1aeaf5c746778f765f8922cb77ae89da07", func := "loop.example/linksandframes/laws.FnExactAgree", spec := "fnExactAgree", unfollowed := true, recurses := true, apart := false }
def FnExactAgreeSaid : Prop := fnExactAgreeRow.holds Try.pinned (OpenSpec.ofChange fnExactAgreeSpec)

/-- ITS FALSE NEIGHBOUR: 'it returns false'. Refute it at one input. -/
def fnExactAgreeWrong : ChangeSpec := { name := "fnExactAgree", fn := fun _ => fun
  | [d1, d2] => { results := [.lit (.bool false)], args := [d1, d2] }
  | _ => none }
def FnExactAgreeWrongFalsely : Prop := fnExactAgreeRow.holds Try.pinned (OpenSpec.ofChange fnExactAgreeWrong)

/-- 'laws.FnLastOf': WHATEVER THE INPUT: true; the input reads as it did. -/
def fnLastOfSpec : ChangeSpec := { name := "fnLastOf", fn := fun _ => fun
  | [d] => { results := [.lit (.bool true)], args := [d] }
  | _ => none }
def fnLastOfRow : OpenClaim := { program := "ytnolmimfpnngjaa", sum := "51ee4a14a3f2b19ce61438ddf2765c1aeaf5c746778f765f8922cb77ae89da07", func := "loop.example/linksandframes/laws.FnLastOf", spec := "fnLastOf", unfollowed := true, recurses := true, apart := false }
def FnLastOfSaid : Prop := fnLastOfRow.holds Try.pinned (OpenSpec.ofChange fnLastOfSpec)

/-- ITS FALSE NEIGHBOUR: 'it returns false'. Refute it at one input. -/
def fnLastOfWrong : ChangeSpec := { name := "fnLastOf", fn := fun _ => fun
  | [d] => { results := [.lit (.bool false)], args := [d] }
  | _ => none }
def FnLastOfWrongFalsely : Prop := fnLastOfRow.holds Try.pinned (OpenSpec.ofChange fnLastOfWrong)

/-- 'laws.FnNumberAt': WHATEVER THE INPUT: true; the input reads as it did. -/
def fnNumberAtSpec : ChangeSpec := { name := "fnNumberAt", fn := fun _ => fun
  | [d] => { results := [.lit (.bool true)], args := [d] }
  | _ => none }
def fnNumberAtRow : OpenClaim := { program := "ytnolmimfpnngjaa", sum := "51ee4a14a3f2b19ce61438ddf2765c1aeaf5c746778f765f8922cb77ae89da07", func := "loop.example/linksandframes/laws.FnNumberAt", spec := "fnNumberAt", unfollowed := true, recurses := true, apart := false }
def FnNumberAtSaid : Prop := fnNumberAtRow.holds Try.pinned (OpenSpec.ofChange fnNumberAtSpec)

/-- ITS FALSE NEIGHBOUR: 'it returns false'. Refute it at one input. -/
def fnNumberAtWrong : ChangeSpec := { name := "fnNumberAt", fn := fun _ => fun
  | [d] => { results := [.lit (.bool false)], args := [d] }
  | _ => none }
def FnNumberAtWrongFalsely : Prop := fnNumberAtRow.holds Try.pinned (OpenSpec.ofChange fnNumberAtWrong)

/- THE SECOND FORM. 'bulk': how many values and letters a reading holds, each counted each time it is reached (what is shared counts as often as it is met; a slice's spare places count too). A statement '..UptoSaid' is the law's where the arguments, and the package variables that the reading takes, are together of bulk at most 1048576: NARROWER than '..Said'. Prove '..Said' where nothing that the law and all that it calls make is longer than what came in: it says more and counts as full. Else prove '..UptoSaid'. A law counts once. -/
mutual
def uptoBulk {H : Type} : DataW H → Nat
  | .lit (.string bytes) => bytes.length + 1
  | .lit _ => 1
  | .nil => 1
  | .ptr d => uptoBulk d + 1
  | .slice elems spare => uptoBulkAll elems + uptoBulkAll spare + 1
  | .agg parts => uptoBulkAll parts + 1
  | .iface _ d => uptoBulk d + 1
  | .map entries => uptoBulkEntries entries + 1
  | .held _ => 1
def uptoBulkAll {H : Type} : List (DataW H) → Nat
  | [] => 0
  | d :: r => uptoBulk d + uptoBulkAll r
def uptoBulkEntries {H : Type} : List (Lit × DataW H) → Nat
  | [] => 0
  | x :: r => uptoBulkEntry x + uptoBulkEntries r
def uptoBulkEntry {H : Type} : Lit × DataW H → Nat
  | (.string bytes, d) => bytes.length + uptoBulk d + 1
  | (_, d) => uptoBulk d + 1
 end
def uptoSmall : (H : Type) → List (DataW H) → Bool := fun _ ds => decide (uptoBulkAll ds ≤ 1048576)
def OpenSpec.upto (s : _root_.Go.ChangeSpec) : _root_.Go.OpenSpec := { _root_.Go.OpenSpec.ofChange s with cond := some uptoSmall }

/-- 'laws.FnExactGroupsOf', WHERE WHAT IT READS IS OF BULK AT MOST 1048576: true; the input reads as it did. -/
def fnExactGroupsOfUptoRow : OpenClaim := { program := "ytnolmimfpnngjaa", sum := "51ee4a14a3f2b19ce61438ddf2765c1aeaf5c746778f765f8922cb77ae89da07", func := "loop.example/linksandframes/laws.FnExactGroupsOf", spec := "fnExactGroupsOf", apart := false, narrowed := true }
def FnExactGroupsOfUptoSaid : Prop := fnExactGroupsOfUptoRow.holds Try.pinned (OpenSpec.upto fnExactGroupsOfSpec)

/-- 'laws.FnExactLastOf', WHERE WHAT IT READS IS OF BULK AT MOST 1048576: true; the input reads as it did. -/
def fnExactLastOfUptoRow : OpenClaim := { program := "ytnolmimfpnngjaa", sum := "51ee4a14a3f2b19ce61438ddf2765c1aeaf5c746778f765f8922cb77ae89da07", func := "loop.example/linksandframes/laws.FnExactLastOf", spec := "fnExactLastOf", unfollowed := true, recurses := true, apart := false, narrowed := true }
def FnExactLastOfUptoSaid : Prop := fnExactLastOfUptoRow.holds Try.pinned (OpenSpec.upto fnExactLastOfSpec)

/-- 'laws.FnExactValidOffer', WHERE WHAT IT READS IS OF BULK AT MOST 1048576: true; the input reads as it did. -/
def fnExactValidOfferUptoRow : OpenClaim := { program := "ytnolmimfpnngjaa", sum := "51ee4a14a3f2b19ce61438ddf2765c1aeaf5c746778f765f8922cb77ae89da07", func := "loop.example/linksandframes/laws.FnExactValidOffer", spec := "fnExactValidOffer", unfollowed := true, recurses := true, apart := false, narrowed := true }
def FnExactValidOfferUptoSaid : Prop := fnExactValidOfferUptoRow.holds Try.pinned (OpenSpec.upto fnExactValidOfferSpec)

/-- 'laws.FnValidOffer', WHERE WHAT IT READS IS OF BULK AT MOST 1048576: true; the input reads as it did. -/
def fnValidOfferUptoRow : OpenClaim := { program := "ytnolmimfpnngjaa", sum := "51ee4a14a3f2b19ce61438ddf2765c1aeaf5c746778f765f8922cb77ae89da07", func := "loop.example/linksandframes/laws.FnValidOffer", spec := "fnValidOffer", unfollowed := true, recurses := true, apart := false, narrowed := true }
def FnValidOfferUptoSaid : Prop := fnValidOfferUptoRow.holds Try.pinned (OpenSpec.upto fnValidOfferSpec)

/-- 'laws.FnExactNumberAt', WHERE WHAT IT READS IS OF BULK AT MOST 1048576: true; the input reads as it did. -/
def fnExactNumberAtUptoRow : OpenClaim := { program := "ytnolmimfpnngjaa", sum := "51ee4a14a3f2b19ce61438ddf2765c1aeaf5c746778f765f8922cb77ae89da07", func := "loop.example/linksandframes/laws.FnExactNumberAt", spec := "fnExactNumberAt", unfollowed := true, recurses := true, apart := false, narrowed := true }
def FnExactNumberAtUptoSaid : Prop := fnExactNumberAtUptoRow.holds Try.pinned (OpenSpec.upto fnExactNumberAtSpec)

/-- 'laws.FnGroupsOf', WHERE WHAT IT READS IS OF BULK AT MOST 1048576: true; the input reads as it did. -/
def fnGroupsOfUptoRow : OpenClaim := { program := "ytnolmimfpnngjaa", sum := "51ee4a14a3f2b19ce61438ddf2765c1aeaf5c746778f765f8922cb77ae89da07", func := "loop.example/linksandframes/laws.FnGroupsOf", spec := "fnGroupsOf", unfollowed := true, recurses := true, apart := false, narrowed := true }
def FnGroupsOfUptoSaid : Prop := fnGroupsOfUptoRow.holds Try.pinned (OpenSpec.upto fnGroupsOfSpec)

/-- 'laws.FnAgree', WHERE WHAT IT READS IS OF BULK AT MOST 1048576: true; the input reads as it did. -/
def fnAgreeUptoRow : OpenClaim := { program := "ytnolmimfpnngjaa", sum := "51ee4a14a3f2b19ce61438ddf2765c1aeaf5c746778f765f8922cb77ae89da07", func := "loop.example/linksandframes/laws.FnAgree", spec := "fnAgree", unfollowed := true, recurses := true, apart := false, narrowed := true }
def FnAgreeUptoSaid : Prop := fnAgreeUptoRow.holds Try.pinned (OpenSpec.upto fnAgreeSpec)

/-- 'laws.FnExactAgree', WHERE WHAT IT READS IS OF BULK AT MOST 1048576: true; the input reads as it did. -/
def fnExactAgreeUptoRow : OpenClaim := { program := "ytnolmimfpnngjaa", sum := "51ee4a14a3f2b19ce61438ddf2765c1aeaf5c746778f765f8922cb77ae89da07", func := "loop.example/linksandframes/laws.FnExactAgree", spec := "fnExactAgree", unfollowed := true, recurses := true, apart := false, narrowed := true }
def FnExactAgreeUptoSaid : Prop := fnExactAgreeUptoRow.holds Try.pinned (OpenSpec.upto fnExactAgreeSpec)

/-- 'laws.FnLastOf', WHERE WHAT IT READS IS OF BULK AT MOST 1048576: true; the input reads as it did. -/
def fnLastOfUptoRow : OpenClaim := { program := "ytnolmimfpnngjaa", sum := "51ee4a14a3f2b19ce61438ddf2765c1aeaf5c746778f765f8922cb77ae89da07", func := "loop.example/linksandframes/laws.FnLastOf", spec := "fnLastOf", unfollowed := true, recurses := true, apart := false, narrowed := true }
def FnLastOfUptoSaid : Prop := fnLastOfUptoRow.holds Try.pinned (OpenSpec.upto fnLastOfSpec)

/-- 'laws.FnNumberAt', WHERE WHAT IT READS IS OF BULK AT MOST 1048576: true; the input reads as it did. -/
def fnNumberAtUptoRow : OpenClaim := { program := "ytnolmimfpnngjaa", sum := "51ee4a14a3f2b19ce61438ddf2765c1aeaf5c746778f765f8922cb77ae89da07", func := "loop.example/linksandframes/laws.FnNumberAt", spec := "fnNumberAt", unfollowed := true, recurses := true, apart := false, narrowed := true }
def FnNumberAtUptoSaid : Prop := fnNumberAtUptoRow.holds Try.pinned (OpenSpec.upto fnNumberAtSpec)

end Rows
end Go.Proofs.Ytnolmimfpnngjaa

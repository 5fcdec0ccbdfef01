/-
  NARROWER THAN 'FOR EVERY INPUT', by the rows' own cells (each row's printed sentence says how): SealSealed: loops.
  DERIVED. THE GIVEN ROWS OF THIS SEAT. 4 by the template 'for every input the law returns true; each argument reads behind the call as it read before'; 0 by the template 'total and deterministic' (their statements: YtpgjbbefgacjkaaTotals.lean).
  GIVEN WITH THE SEED: the statements are not yours to turn. If you find one false, say at which input.
  Laid BY PROGRAM, IN A SANDBOX (cutbox-rows.mjs): the forced cells as the released guide's own fill.sh prints them over the translation 5f30c66dcf792b7a… (all of the seat's roots in one cut). By AI agents, Wed Nov 11 2026. No macro, syntax, notation, axiom, sorry.
-/
import Derived.Test.YtpgjbbefgacjkaaChecked
import GoSem.Claim
import GoSem.ClaimJoined
import GoSem.ClaimMapViews
import Derived.JoinedTies
import Derived.KernelRfl
namespace Go.Proofs.Ytpgjbbefgacjkaa
/- THE CELL 'sum', in the pinned program and in every row, IS THE sha256 OF THE DUMP (.gsa) THAT YtpgjbbefgacjkaaProg.lean LOADS. Nothing in Lean hashes anything: it is a label: what it is worth is what the hold of that sum in a sandbox is worth. -/
noncomputable def Try.pinned : Pinned := { name := "ytpgjbbefgacjkaa", sum := "5f30c66dcf792b7a38abff1e6bc4e5912d5fac5085f9477cc67f14607b5784c4", checked := Try.checked }
namespace Rows
def none {H : Type} : Left H := { results := [], args := [] }

/-- 'posternlaw09.SealNames': WHATEVER THE INPUT: true; the input reads as it did. -/
def sealNamesSpec : ChangeSpec := { name := "sealNames", fn := fun _ => fun
  | [] => { results := [.lit (.bool true)], args := [] }
  | _ => none }
def sealNamesRow : OpenClaim := { program := "ytpgjbbefgacjkaa", sum := "5f30c66dcf792b7a38abff1e6bc4e5912d5fac5085f9477cc67f14607b5784c4", func := "postern/posternlaw09.SealNames", spec := "sealNames", unfollowed := true, recurses := true, plainKeys := false, apart := false }
def SealNamesSaid : Prop := sealNamesRow.holds Try.pinned (OpenSpec.ofChange sealNamesSpec)

/-- ITS FALSE NEIGHBOUR: 'it returns false'. Refute it at one input. -/
def sealNamesWrong : ChangeSpec := { name := "sealNames", fn := fun _ => fun
  | [] => { results := [.lit (.bool false)], args := [] }
  | _ => none }
def SealNamesWrongFalsely : Prop := sealNamesRow.holds Try.pinned (OpenSpec.ofChange sealNamesWrong)

/-- 'posternlaw09.SealMany': WHATEVER THE INPUT: true; the input reads as it did. -/
def sealManySpec : ChangeSpec := { name := "sealMany", fn := fun _ => fun
  | [] => { results := [.lit (.bool true)], args := [] }
  | _ => none }
def sealManyRow : OpenClaim := { program := "ytpgjbbefgacjkaa", sum := "5f30c66dcf792b7a38abff1e6bc4e5912d5fac5085f9477cc67f14607b5784c4", func := "postern/posternlaw09.SealMany", spec := "sealMany", unfollowed := true, recurses := true, plainKeys := false, apart := false }
def SealManySaid : Prop := sealManyRow.holds Try.pinned (OpenSpec.ofChange sealManySpec)

/-- ITS FALSE NEIGHBOUR: 'it returns false'. Refute it at one input. -/
def sealManyWrong : ChangeSpec := { name := "sealMany", fn := fun _ => fun
  | [] => { results := [.lit (.bool false)], args := [] }
  | _ => none }
def SealManyWrongFalsely : Prop := sealManyRow.holds Try.pinned (OpenSpec.ofChange sealManyWrong)

/-- 'posternlaw12.GateNames': WHATEVER THE INPUT: true; the input reads as it did. -/
def gateNamesSpec : ChangeSpec := { name := "gateNames", fn := fun _ => fun
  | [] => { results := [.lit (.bool true)], args := [] }
  | _ => none }
def gateNamesRow : OpenClaim := { program := "ytpgjbbefgacjkaa", sum := "5f30c66dcf792b7a38abff1e6bc4e5912d5fac5085f9477cc67f14607b5784c4", func := "postern/posternlaw12.GateNames", spec := "gateNames", unfollowed := true, recurses := true, plainKeys := false, apart := false }
def GateNamesSaid : Prop := gateNamesRow.holds Try.pinned (OpenSpec.ofChange gateNamesSpec)

/-- ITS FALSE NEIGHBOUR: 'it returns false'. Refute it at one input. -/
def gateNamesWrong : ChangeSpec := { name := "gateNames", fn := fun _ => fun
  | [] => { results := [.lit (.bool false)], args := [] }
  | _ => none }
def GateNamesWrongFalsely : Prop := gateNamesRow.holds Try.pinned (OpenSpec.ofChange gateNamesWrong)

/-- 'posternlaw09.SealSealed': WHATEVER THE INPUT: true; the input reads as it did. -/
def sealSealedSpec : ChangeSpec := { name := "sealSealed", fn := fun _ => fun
  | [d1, d2] => { results := [.lit (.bool true)], args := [d1, d2] }
  | _ => none }
def sealSealedRow : OpenClaim := { program := "ytpgjbbefgacjkaa", sum := "5f30c66dcf792b7a38abff1e6bc4e5912d5fac5085f9477cc67f14607b5784c4", func := "postern/posternlaw09.SealSealed", spec := "sealSealed", unfollowed := true, recurses := true, loops := true, plainKeys := false, apart := false }
def SealSealedSaid : Prop := sealSealedRow.holds Try.pinned (OpenSpec.ofChange sealSealedSpec)

/-- ITS FALSE NEIGHBOUR: 'it returns false'. Refute it at one input. -/
def sealSealedWrong : ChangeSpec := { name := "sealSealed", fn := fun _ => fun
  | [d1, d2] => { results := [.lit (.bool false)], args := [d1, d2] }
  | _ => none }
def SealSealedWrongFalsely : Prop := sealSealedRow.holds Try.pinned (OpenSpec.ofChange sealSealedWrong)

/- THE SECOND FORM. 'bulk': how many values and letters a reading holds, each counted each time it is reached (what is shared counts as often as it is met; a slice's spare places count too). A statement '..UptoSaid' is the law's where the arguments, and the package variables that the reading takes, are together of bulk at most 1048576: NARROWER than '..Said'. Prove '..Said' where nothing that the law and all that it calls make is longer than what came in: it says more and counts as full. Else prove '..UptoSaid'. A law counts once. -/
mutual
def uptoBulk {H : Type} : DataW H → Nat
  | .lit (.string bytes) => bytes.length + 1
  | .lit _ => 1
  | .nil => 1
  | .ptr d => uptoBulk d + 1
  | .slice elems spare => uptoBulkAll elems + uptoBulkAll spare + 1
  | .agg parts => uptoBulkAll parts + 1
  | .iface _ d => uptoBulk d + 1
  | .map entries => uptoBulkEntries entries + 1
  | .held _ => 1
def uptoBulkAll {H : Type} : List (DataW H) → Nat
  | [] => 0
  | d :: r => uptoBulk d + uptoBulkAll r
def uptoBulkEntries {H : Type} : List (Lit × DataW H) → Nat
  | [] => 0
  | x :: r => uptoBulkEntry x + uptoBulkEntries r
def uptoBulkEntry {H : Type} : Lit × DataW H → Nat
  | (.string bytes, d) => bytes.length + uptoBulk d + 1
  | (_, d) => uptoBulk d + 1
 end
def uptoSmall : (H : Type) → List (DataW H) → Bool := fun _ ds => decide (uptoBulkAll ds ≤ 1048576)
def OpenSpec.upto (s : _root_.Go.ChangeSpec) : _root_.Go.OpenSpec := { _root_.Go.OpenSpec.ofChange s with cond := some uptoSmall }

/-- 'posternlaw09.SealNames', WHERE WHAT IT READS IS OF BULK AT MOST 1048576: true; the input reads as it did. -/
def sealNamesUptoRow : OpenClaim := { program := "ytpgjbbefgacjkaa", sum := "5f30c66dcf792b7a38abff1e6bc4e5912d5fac5085f9477cc67f14607b5784c4", func := "postern/posternlaw09.SealNames", spec := "sealNames", unfollowed := true, recurses := true, plainKeys := false, apart := false, narrowed := true }
def SealNamesUptoSaid : Prop := sealNamesUptoRow.holds Try.pinned (OpenSpec.upto sealNamesSpec)

/-- 'posternlaw09.SealMany', WHERE WHAT IT READS IS OF BULK AT MOST 1048576: true; the input reads as it did. -/
def sealManyUptoRow : OpenClaim := { program := "ytpgjbbefgacjkaa", sum := "5f30c66dcf792b7a38abff1e6bc4e5912d5fac5085f9477cc67f14607b5784c4", func := "postern/posternlaw09.SealMany", spec := "sealMany", unfollowed := true, recurses := true, plainKeys := false, apart := false, narrowed := true }
def SealManyUptoSaid : Prop := sealManyUptoRow.holds Try.pinned (OpenSpec.upto sealManySpec)

/-- 'posternlaw12.GateNames', WHERE WHAT IT READS IS OF BULK AT MOST 1048576: true; the input reads as it did. -/
def gateNamesUptoRow : OpenClaim := { program := "ytpgjbbefgacjkaa", sum := "5f30c66dcf792b7a38abff1e6bc4e5912d5fac5085f9477cc67f14607b5784c4", func := "postern/posternlaw12.GateNames", spec := "gateNames", unfollowed := true, recurses := true, plainKeys := false, apart := false, narrowed := true }
def GateNamesUptoSaid : Prop := gateNamesUptoRow.holds Try.pinned (OpenSpec.upto gateNamesSpec)

/-- 'posternlaw09.SealSealed', WHERE WHAT IT READS IS OF BULK AT MOST 1048576: true; the input reads as it did. -/
def sealSealedUptoRow : OpenClaim := { program := "ytpgjbbefgacjkaa", sum := "5f30c66dcf792b7a38abff1e6bc4e5912d5fac5085f9477cc67f14607b5784c4", func := "postern/posternlaw09.SealSealed", spec := "sealSealed", unfollowed := true, recurses := true, loops := true, plainKeys := false, apart := false, narrowed := true }
def SealSealedUptoSaid : Prop := sealSealedUptoRow.holds Try.pinned (OpenSpec.upto sealSealedSpec)

end Rows
end Go.Proofs.Ytpgjbbefgacjkaa

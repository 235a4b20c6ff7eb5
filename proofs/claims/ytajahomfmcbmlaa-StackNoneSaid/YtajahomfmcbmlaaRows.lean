/-
  No cell of these rows narrows 'for every input' (looked for: loops, veiled, ifaces, maps, wideKeys, modest, calm, conditions, laid).
  DERIVED. THE GIVEN ROWS OF THIS SEAT. 8 by the template 'for every input the law returns true; each argument reads behind the call as it read before'; 0 by the template 'total and deterministic' (their statements: YtajahomfmcbmlaaTotals.lean).
  GIVEN WITH THE SEED: the statements are not yours to turn. If you find one false, say at which input.
  Laid BY PROGRAM, IN A SANDBOX (cutbox-rows.mjs): the forced cells as the released guide's own fill.sh prints them over the translation e816e58daad23492… (all of the seat's roots in one cut). By AI agents, Wed Nov 11 2026. No macro, syntax, notation, axiom, sorry.
-/
import Derived.Test.YtajahomfmcbmlaaChecked
import GoSem.Claim
import GoSem.ClaimJoined
import GoSem.ClaimMapViews
import Derived.JoinedTies
import Derived.KernelRfl
namespace Go.Proofs.Ytajahomfmcbmlaa
/- THE CELL 'sum', in the pinned program and in every row, IS THE sha256 OF THE DUMP (.gsa) THAT YtajahomfmcbmlaaProg.lean LOADS. Nothing in Lean hashes anything: it is a label: what it is worth is what the hold of that sum in a sandbox is worth. -/
noncomputable def Try.pinned : Pinned := { name := "ytajahomfmcbmlaa", sum := "e816e58daad234923f184e0442eb6a8eeb05d8408b46b4f7e77c7bee1b35f94b", checked := Try.checked }
namespace Rows
def none {H : Type} : Left H := { results := [], args := [] }

/-- 'tableaulaw17.StackNew': WHATEVER THE INPUT: true; the input reads as it did. -/
def stackNewSpec : ChangeSpec := { name := "stackNew", fn := fun _ => fun
  | [d1, d2] => { results := [.lit (.bool true)], args := [d1, d2] }
  | _ => none }
def stackNewRow : OpenClaim := { program := "ytajahomfmcbmlaa", sum := "e816e58daad234923f184e0442eb6a8eeb05d8408b46b4f7e77c7bee1b35f94b", func := "tableau/tableaulaw17.StackNew", spec := "stackNew", inPlace := ["math/bits.Add64", "math/bits.Sub64"], unfollowed := true, recurses := true, named := ["math/bits.divideError", "math/bits.overflowError"], apart := false }
def StackNewSaid : Prop := stackNewRow.holds Try.pinned (OpenSpec.ofChange stackNewSpec)

/-- ITS FALSE NEIGHBOUR: 'it returns false'. Refute it at one input. -/
def stackNewWrong : ChangeSpec := { name := "stackNew", fn := fun _ => fun
  | [d1, d2] => { results := [.lit (.bool false)], args := [d1, d2] }
  | _ => none }
def StackNewWrongFalsely : Prop := stackNewRow.holds Try.pinned (OpenSpec.ofChange stackNewWrong)

/-- 'tableaulaw17.StackCerts': WHATEVER THE INPUT: true; the input reads as it did. -/
def stackCertsSpec : ChangeSpec := { name := "stackCerts", fn := fun _ => fun
  | [d1, d2, d3] => { results := [.lit (.bool true)], args := [d1, d2, d3] }
  | _ => none }
def stackCertsRow : OpenClaim := { program := "ytajahomfmcbmlaa", sum := "e816e58daad234923f184e0442eb6a8eeb05d8408b46b4f7e77c7bee1b35f94b", func := "tableau/tableaulaw17.StackCerts", spec := "stackCerts", inPlace := ["math/bits.Add64", "math/bits.Sub64"], unfollowed := true, recurses := true, named := ["math/bits.divideError", "math/bits.overflowError"], apart := false }
def StackCertsSaid : Prop := stackCertsRow.holds Try.pinned (OpenSpec.ofChange stackCertsSpec)

/-- ITS FALSE NEIGHBOUR: 'it returns false'. Refute it at one input. -/
def stackCertsWrong : ChangeSpec := { name := "stackCerts", fn := fun _ => fun
  | [d1, d2, d3] => { results := [.lit (.bool false)], args := [d1, d2, d3] }
  | _ => none }
def StackCertsWrongFalsely : Prop := stackCertsRow.holds Try.pinned (OpenSpec.ofChange stackCertsWrong)

/-- 'tableaulaw17.StackKeeps': WHATEVER THE INPUT: true; the input reads as it did. -/
def stackKeepsSpec : ChangeSpec := { name := "stackKeeps", fn := fun _ => fun
  | [d] => { results := [.lit (.bool true)], args := [d] }
  | _ => none }
def stackKeepsRow : OpenClaim := { program := "ytajahomfmcbmlaa", sum := "e816e58daad234923f184e0442eb6a8eeb05d8408b46b4f7e77c7bee1b35f94b", func := "tableau/tableaulaw17.StackKeeps", spec := "stackKeeps", inPlace := ["math/bits.Add64", "math/bits.Sub64"], unfollowed := true, recurses := true, named := ["math/bits.divideError", "math/bits.overflowError"], apart := false }
def StackKeepsSaid : Prop := stackKeepsRow.holds Try.pinned (OpenSpec.ofChange stackKeepsSpec)

/-- ITS FALSE NEIGHBOUR: 'it returns false'. Refute it at one input. -/
def stackKeepsWrong : ChangeSpec := { name := "stackKeeps", fn := fun _ => fun
  | [d] => { results := [.lit (.bool false)], args := [d] }
  | _ => none }
def StackKeepsWrongFalsely : Prop := stackKeepsRow.holds Try.pinned (OpenSpec.ofChange stackKeepsWrong)

/-- 'tableaulaw17.StackSame': WHATEVER THE INPUT: true; the input reads as it did. -/
def stackSameSpec : ChangeSpec := { name := "stackSame", fn := fun _ => fun
  | [d1, d2, d3, d4] => { results := [.lit (.bool true)], args := [d1, d2, d3, d4] }
  | _ => none }
def stackSameRow : OpenClaim := { program := "ytajahomfmcbmlaa", sum := "e816e58daad234923f184e0442eb6a8eeb05d8408b46b4f7e77c7bee1b35f94b", func := "tableau/tableaulaw17.StackSame", spec := "stackSame", inPlace := ["math/bits.Add64", "math/bits.Sub64"], unfollowed := true, recurses := true, named := ["math/bits.divideError", "math/bits.overflowError"], apart := false }
def StackSameSaid : Prop := stackSameRow.holds Try.pinned (OpenSpec.ofChange stackSameSpec)

/-- ITS FALSE NEIGHBOUR: 'it returns false'. Refute it at one input. -/
def stackSameWrong : ChangeSpec := { name := "stackSame", fn := fun _ => fun
  | [d1, d2, d3, d4] => { results := [.lit (.bool false)], args := [d1, d2, d3, d4] }
  | _ => none }
def StackSameWrongFalsely : Prop := stackSameRow.holds Try.pinned (OpenSpec.ofChange stackSameWrong)

/-- 'tableaulaw17.StackNone': WHATEVER THE INPUT: true; the input reads as it did. -/
def stackNoneSpec : ChangeSpec := { name := "stackNone", fn := fun _ => fun
  | [d1, d2, d3] => { results := [.lit (.bool true)], args := [d1, d2, d3] }
  | _ => none }
def stackNoneRow : OpenClaim := { program := "ytajahomfmcbmlaa", sum := "e816e58daad234923f184e0442eb6a8eeb05d8408b46b4f7e77c7bee1b35f94b", func := "tableau/tableaulaw17.StackNone", spec := "stackNone", inPlace := ["math/bits.Add64", "math/bits.Sub64"], unfollowed := true, recurses := true, named := ["math/bits.divideError", "math/bits.overflowError"], apart := false }
def StackNoneSaid : Prop := stackNoneRow.holds Try.pinned (OpenSpec.ofChange stackNoneSpec)

/-- ITS FALSE NEIGHBOUR: 'it returns false'. Refute it at one input. -/
def stackNoneWrong : ChangeSpec := { name := "stackNone", fn := fun _ => fun
  | [d1, d2, d3] => { results := [.lit (.bool false)], args := [d1, d2, d3] }
  | _ => none }
def StackNoneWrongFalsely : Prop := stackNoneRow.holds Try.pinned (OpenSpec.ofChange stackNoneWrong)

/-- 'tableaulaw05.VecLinear': WHATEVER THE INPUT: true; the input reads as it did. -/
def vecLinearSpec : ChangeSpec := { name := "vecLinear", fn := fun _ => fun
  | [d1, d2, d3] => { results := [.lit (.bool true)], args := [d1, d2, d3] }
  | _ => none }
def vecLinearRow : OpenClaim := { program := "ytajahomfmcbmlaa", sum := "e816e58daad234923f184e0442eb6a8eeb05d8408b46b4f7e77c7bee1b35f94b", func := "tableau/tableaulaw05.VecLinear", spec := "vecLinear", inPlace := ["math/bits.Add64", "math/bits.Sub64"], unfollowed := true, recurses := true, named := ["math/bits.divideError", "math/bits.overflowError"], apart := false }
def VecLinearSaid : Prop := vecLinearRow.holds Try.pinned (OpenSpec.ofChange vecLinearSpec)

/-- ITS FALSE NEIGHBOUR: 'it returns false'. Refute it at one input. -/
def vecLinearWrong : ChangeSpec := { name := "vecLinear", fn := fun _ => fun
  | [d1, d2, d3] => { results := [.lit (.bool false)], args := [d1, d2, d3] }
  | _ => none }
def VecLinearWrongFalsely : Prop := vecLinearRow.holds Try.pinned (OpenSpec.ofChange vecLinearWrong)

/-- 'tableaulaw05.VecKeeps': WHATEVER THE INPUT: true; the input reads as it did. -/
def vecKeepsSpec : ChangeSpec := { name := "vecKeeps", fn := fun _ => fun
  | [d1, d2, d3] => { results := [.lit (.bool true)], args := [d1, d2, d3] }
  | _ => none }
def vecKeepsRow : OpenClaim := { program := "ytajahomfmcbmlaa", sum := "e816e58daad234923f184e0442eb6a8eeb05d8408b46b4f7e77c7bee1b35f94b", func := "tableau/tableaulaw05.VecKeeps", spec := "vecKeeps", inPlace := ["math/bits.Add64", "math/bits.Sub64"], unfollowed := true, recurses := true, named := ["math/bits.divideError", "math/bits.overflowError"], apart := false }
def VecKeepsSaid : Prop := vecKeepsRow.holds Try.pinned (OpenSpec.ofChange vecKeepsSpec)

/-- ITS FALSE NEIGHBOUR: 'it returns false'. Refute it at one input. -/
def vecKeepsWrong : ChangeSpec := { name := "vecKeeps", fn := fun _ => fun
  | [d1, d2, d3] => { results := [.lit (.bool false)], args := [d1, d2, d3] }
  | _ => none }
def VecKeepsWrongFalsely : Prop := vecKeepsRow.holds Try.pinned (OpenSpec.ofChange vecKeepsWrong)

/-- 'tableaulaw05.VecParts': WHATEVER THE INPUT: true; the input reads as it did. -/
def vecPartsSpec : ChangeSpec := { name := "vecParts", fn := fun _ => fun
  | [d1, d2, d3] => { results := [.lit (.bool true)], args := [d1, d2, d3] }
  | _ => none }
def vecPartsRow : OpenClaim := { program := "ytajahomfmcbmlaa", sum := "e816e58daad234923f184e0442eb6a8eeb05d8408b46b4f7e77c7bee1b35f94b", func := "tableau/tableaulaw05.VecParts", spec := "vecParts", inPlace := ["math/bits.Add64", "math/bits.Sub64"], unfollowed := true, recurses := true, named := ["math/bits.divideError", "math/bits.overflowError"], apart := false }
def VecPartsSaid : Prop := vecPartsRow.holds Try.pinned (OpenSpec.ofChange vecPartsSpec)

/-- ITS FALSE NEIGHBOUR: 'it returns false'. Refute it at one input. -/
def vecPartsWrong : ChangeSpec := { name := "vecParts", fn := fun _ => fun
  | [d1, d2, d3] => { results := [.lit (.bool false)], args := [d1, d2, d3] }
  | _ => none }
def VecPartsWrongFalsely : Prop := vecPartsRow.holds Try.pinned (OpenSpec.ofChange vecPartsWrong)

/- THE SECOND FORM. 'bulk': how many values and letters a reading holds, each counted each time it is reached (what is shared counts as often as it is met; a slice's spare places count too). A statement '..UptoSaid' is the law's where the arguments, and the package variables that the reading takes, are together of bulk at most 1048576: NARROWER than '..Said'. Prove '..Said' where nothing that the law and all that it calls make is longer than what came in: it says more and counts as full. Else prove '..UptoSaid'. A law counts once. -/
mutual
def uptoBulk {H : Type} : DataW H → Nat
  | .lit (.string bytes) => bytes.length + 1
  | .lit _ => 1
  | .nil => 1
  | .ptr d => uptoBulk d + 1
  | .slice elems spare => uptoBulkAll elems + uptoBulkAll spare + 1
  | .agg parts => uptoBulkAll parts + 1
  | .iface _ d => uptoBulk d + 1
  | .map entries => uptoBulkEntries entries + 1
  | .held _ => 1
def uptoBulkAll {H : Type} : List (DataW H) → Nat
  | [] => 0
  | d :: r => uptoBulk d + uptoBulkAll r
def uptoBulkEntries {H : Type} : List (Lit × DataW H) → Nat
  | [] => 0
  | x :: r => uptoBulkEntry x + uptoBulkEntries r
def uptoBulkEntry {H : Type} : Lit × DataW H → Nat
  | (.string bytes, d) => bytes.length + uptoBulk d + 1
  | (_, d) => uptoBulk d + 1
 end
def uptoSmall : (H : Type) → List (DataW H) → Bool := fun _ ds => decide (uptoBulkAll ds ≤ 1048576)
def OpenSpec.upto (s : _root_.Go.ChangeSpec) : _root_.Go.OpenSpec := { _root_.Go.OpenSpec.ofChange s with cond := some uptoSmall }

/-- 'tableaulaw17.StackNew', WHERE WHAT IT READS IS OF BULK AT MOST 1048576: true; the input reads as it did. -/
def stackNewUptoRow : OpenClaim := { program := "ytajahomfmcbmlaa", sum := "e816e58daad234923f184e0442eb6a8eeb05d8408b46b4f7e77c7bee1b35f94b", func := "tableau/tableaulaw17.StackNew", spec := "stackNew", inPlace := ["math/bits.Add64", "math/bits.Sub64"], unfollowed := true, recurses := true, named := ["math/bits.divideError", "math/bits.overflowError"], apart := false, narrowed := true }
def StackNewUptoSaid : Prop := stackNewUptoRow.holds Try.pinned (OpenSpec.upto stackNewSpec)

/-- 'tableaulaw17.StackCerts', WHERE WHAT IT READS IS OF BULK AT MOST 1048576: true; the input reads as it did. -/
def stackCertsUptoRow : OpenClaim := { program := "ytajahomfmcbmlaa", sum := "e816e58daad234923f184e0442eb6a8eeb05d8408b46b4f7e77c7bee1b35f94b", func := "tableau/tableaulaw17.StackCerts", spec := "stackCerts", inPlace := ["math/bits.Add64", "math/bits.Sub64"], unfollowed := true, recurses := true, named := ["math/bits.divideError", "math/bits.overflowError"], apart := false, narrowed := true }
def StackCertsUptoSaid : Prop := stackCertsUptoRow.holds Try.pinned (OpenSpec.upto stackCertsSpec)

/-- 'tableaulaw17.StackKeeps', WHERE WHAT IT READS IS OF BULK AT MOST 1048576: true; the input reads as it did. -/
def stackKeepsUptoRow : OpenClaim := { program := "ytajahomfmcbmlaa", sum := "e816e58daad234923f184e0442eb6a8eeb05d8408b46b4f7e77c7bee1b35f94b", func := "tableau/tableaulaw17.StackKeeps", spec := "stackKeeps", inPlace := ["math/bits.Add64", "math/bits.Sub64"], unfollowed := true, recurses := true, named := ["math/bits.divideError", "math/bits.overflowError"], apart := false, narrowed := true }
def StackKeepsUptoSaid : Prop := stackKeepsUptoRow.holds Try.pinned (OpenSpec.upto stackKeepsSpec)

/-- 'tableaulaw17.StackSame', WHERE WHAT IT READS IS OF BULK AT MOST 1048576: true; the input reads as it did. -/
def stackSameUptoRow : OpenClaim := { program := "ytajahomfmcbmlaa", sum := "e816e58daad234923f184e0442eb6a8eeb05d8408b46b4f7e77c7bee1b35f94b", func := "tableau/tableaulaw17.StackSame", spec := "stackSame", inPlace := ["math/bits.Add64", "math/bits.Sub64"], unfollowed := true, recurses := true, named := ["math/bits.divideError", "math/bits.overflowError"], apart := false, narrowed := true }
def StackSameUptoSaid : Prop := stackSameUptoRow.holds Try.pinned (OpenSpec.upto stackSameSpec)

/-- 'tableaulaw17.StackNone', WHERE WHAT IT READS IS OF BULK AT MOST 1048576: true; the input reads as it did. -/
def stackNoneUptoRow : OpenClaim := { program := "ytajahomfmcbmlaa", sum := "e816e58daad234923f184e0442eb6a8eeb05d8408b46b4f7e77c7bee1b35f94b", func := "tableau/tableaulaw17.StackNone", spec := "stackNone", inPlace := ["math/bits.Add64", "math/bits.Sub64"], unfollowed := true, recurses := true, named := ["math/bits.divideError", "math/bits.overflowError"], apart := false, narrowed := true }
def StackNoneUptoSaid : Prop := stackNoneUptoRow.holds Try.pinned (OpenSpec.upto stackNoneSpec)

/-- 'tableaulaw05.VecLinear', WHERE WHAT IT READS IS OF BULK AT MOST 1048576: true; the input reads as it did. -/
def vecLinearUptoRow : OpenClaim := { program := "ytajahomfmcbmlaa", sum := "e816e58daad234923f184e0442eb6a8eeb05d8408b46b4f7e77c7bee1b35f94b", func := "tableau/tableaulaw05.VecLinear", spec := "vecLinear", inPlace := ["math/bits.Add64", "math/bits.Sub64"], unfollowed := true, recurses := true, named := ["math/bits.divideError", "math/bits.overflowError"], apart := false, narrowed := true }
def VecLinearUptoSaid : Prop := vecLinearUptoRow.holds Try.pinned (OpenSpec.upto vecLinearSpec)

/-- 'tableaulaw05.VecKeeps', WHERE WHAT IT READS IS OF BULK AT MOST 1048576: true; the input reads as it did. -/
def vecKeepsUptoRow : OpenClaim := { program := "ytajahomfmcbmlaa", sum := "e816e58daad234923f184e0442eb6a8eeb05d8408b46b4f7e77c7bee1b35f94b", func := "tableau/tableaulaw05.VecKeeps", spec := "vecKeeps", inPlace := ["math/bits.Add64", "math/bits.Sub64"], unfollowed := true, recurses := true, named := ["math/bits.divideError", "math/bits.overflowError"], apart := false, narrowed := true }
def VecKeepsUptoSaid : Prop := vecKeepsUptoRow.holds Try.pinned (OpenSpec.upto vecKeepsSpec)

/-- 'tableaulaw05.VecParts', WHERE WHAT IT READS IS OF BULK AT MOST 1048576: true; the input reads as it did. -/
def vecPartsUptoRow : OpenClaim := { program := "ytajahomfmcbmlaa", sum := "e816e58daad234923f184e0442eb6a8eeb05d8408b46b4f7e77c7bee1b35f94b", func := "tableau/tableaulaw05.VecParts", spec := "vecParts", inPlace := ["math/bits.Add64", "math/bits.Sub64"], unfollowed := true, recurses := true, named := ["math/bits.divideError", "math/bits.overflowError"], apart := false, narrowed := true }
def VecPartsUptoSaid : Prop := vecPartsUptoRow.holds Try.pinned (OpenSpec.upto vecPartsSpec)

end Rows
end Go.Proofs.Ytajahomfmcbmlaa

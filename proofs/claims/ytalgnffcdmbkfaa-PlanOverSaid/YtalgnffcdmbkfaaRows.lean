/-
  No cell of these rows narrows 'for every input' (looked for: loops, veiled, ifaces, maps, wideKeys, modest, calm, conditions, laid).
  DERIVED. THE GIVEN ROWS OF THIS SEAT. 4 by the template 'for every input the law returns true; each argument reads behind the call as it read before'; 0 by the template 'total and deterministic' (their statements: YtalgnffcdmbkfaaTotals.lean).
  GIVEN WITH THE SEED: the statements are not yours to turn. If you find one false, say at which input.
  Laid BY PROGRAM, IN A SANDBOX (cutbox-rows.mjs): the forced cells as the released guide's own fill.sh prints them over the translation aa8897dc2a9ce8c8… (all of the seat's roots in one cut). By AI agents, Wed Nov 11 2026. No macro, syntax, notation, axiom, sorry.
-/
import Derived.Test.YtalgnffcdmbkfaaChecked
import GoSem.Claim
import GoSem.ClaimJoined
import GoSem.ClaimMapViews
import Derived.JoinedTies
import Derived.KernelRfl
namespace Go.Proofs.Ytalgnffcdmbkfaa
/- THE CELL 'sum', in the pinned program and in every row, IS THE sha256 OF THE DUMP (.gsa) THAT YtalgnffcdmbkfaaProg.lean LOADS. Nothing in Lean hashes anything: it is a label: what it is worth is what the hold of that sum in a sandbox is worth. -/
noncomputable def Try.pinned : Pinned := { name := "ytalgnffcdmbkfaa", sum := "aa8897dc2a9ce8c8b69fc2f710aaa33df8d1c431bc144a5d9147abcbbd96c832", checked := Try.checked }
namespace Rows
def none {H : Type} : Left H := { results := [], args := [] }

/-- 'pandectlaw17.PlanRises': WHATEVER THE INPUT: true; the input reads as it did. -/
def planRisesSpec : ChangeSpec := { name := "planRises", fn := fun _ => fun
  | [d1, d2, d3] => { results := [.lit (.bool true)], args := [d1, d2, d3] }
  | _ => none }
def planRisesRow : OpenClaim := { program := "ytalgnffcdmbkfaa", sum := "aa8897dc2a9ce8c8b69fc2f710aaa33df8d1c431bc144a5d9147abcbbd96c832", func := "pandect/pandectlaw17.PlanRises", spec := "planRises", inPlace := ["internal/bytealg.Compare"], unfollowed := true, recurses := true, apart := false }
def PlanRisesSaid : Prop := planRisesRow.holds Try.pinned (OpenSpec.ofChange planRisesSpec)

/-- ITS FALSE NEIGHBOUR: 'it returns false'. Refute it at one input. -/
def planRisesWrong : ChangeSpec := { name := "planRises", fn := fun _ => fun
  | [d1, d2, d3] => { results := [.lit (.bool false)], args := [d1, d2, d3] }
  | _ => none }
def PlanRisesWrongFalsely : Prop := planRisesRow.holds Try.pinned (OpenSpec.ofChange planRisesWrong)

/-- 'pandectlaw17.PlanOver': WHATEVER THE INPUT: true; the input reads as it did. -/
def planOverSpec : ChangeSpec := { name := "planOver", fn := fun _ => fun
  | [d1, d2] => { results := [.lit (.bool true)], args := [d1, d2] }
  | _ => none }
def planOverRow : OpenClaim := { program := "ytalgnffcdmbkfaa", sum := "aa8897dc2a9ce8c8b69fc2f710aaa33df8d1c431bc144a5d9147abcbbd96c832", func := "pandect/pandectlaw17.PlanOver", spec := "planOver", inPlace := ["internal/bytealg.Compare"], unfollowed := true, recurses := true, apart := false }
def PlanOverSaid : Prop := planOverRow.holds Try.pinned (OpenSpec.ofChange planOverSpec)

/-- ITS FALSE NEIGHBOUR: 'it returns false'. Refute it at one input. -/
def planOverWrong : ChangeSpec := { name := "planOver", fn := fun _ => fun
  | [d1, d2] => { results := [.lit (.bool false)], args := [d1, d2] }
  | _ => none }
def PlanOverWrongFalsely : Prop := planOverRow.holds Try.pinned (OpenSpec.ofChange planOverWrong)

/-- 'pandectlaw17.PlanForms': WHATEVER THE INPUT: true; the input reads as it did. -/
def planFormsSpec : ChangeSpec := { name := "planForms", fn := fun _ => fun
  | [] => { results := [.lit (.bool true)], args := [] }
  | _ => none }
def planFormsRow : OpenClaim := { program := "ytalgnffcdmbkfaa", sum := "aa8897dc2a9ce8c8b69fc2f710aaa33df8d1c431bc144a5d9147abcbbd96c832", func := "pandect/pandectlaw17.PlanForms", spec := "planForms", inPlace := ["internal/bytealg.Compare"], unfollowed := true, recurses := true, apart := false }
def PlanFormsSaid : Prop := planFormsRow.holds Try.pinned (OpenSpec.ofChange planFormsSpec)

/-- ITS FALSE NEIGHBOUR: 'it returns false'. Refute it at one input. -/
def planFormsWrong : ChangeSpec := { name := "planForms", fn := fun _ => fun
  | [] => { results := [.lit (.bool false)], args := [] }
  | _ => none }
def PlanFormsWrongFalsely : Prop := planFormsRow.holds Try.pinned (OpenSpec.ofChange planFormsWrong)

/-- 'pandectlaw17.PlanKeys': WHATEVER THE INPUT: true; the input reads as it did. -/
def planKeysSpec : ChangeSpec := { name := "planKeys", fn := fun _ => fun
  | [d1, d2] => { results := [.lit (.bool true)], args := [d1, d2] }
  | _ => none }
def planKeysRow : OpenClaim := { program := "ytalgnffcdmbkfaa", sum := "aa8897dc2a9ce8c8b69fc2f710aaa33df8d1c431bc144a5d9147abcbbd96c832", func := "pandect/pandectlaw17.PlanKeys", spec := "planKeys", inPlace := ["internal/bytealg.Compare"], unfollowed := true, recurses := true, apart := false }
def PlanKeysSaid : Prop := planKeysRow.holds Try.pinned (OpenSpec.ofChange planKeysSpec)

/-- ITS FALSE NEIGHBOUR: 'it returns false'. Refute it at one input. -/
def planKeysWrong : ChangeSpec := { name := "planKeys", fn := fun _ => fun
  | [d1, d2] => { results := [.lit (.bool false)], args := [d1, d2] }
  | _ => none }
def PlanKeysWrongFalsely : Prop := planKeysRow.holds Try.pinned (OpenSpec.ofChange planKeysWrong)

/- THE SECOND FORM. 'bulk': how many values and letters a reading holds, each counted each time it is reached (what is shared counts as often as it is met; a slice's spare places count too). A statement '..UptoSaid' is the law's where the arguments, and the package variables that the reading takes, are together of bulk at most 1048576: NARROWER than '..Said'. Prove '..Said' where nothing that the law and all that it calls make is longer than what came in: it says more and counts as full. Else prove '..UptoSaid'. A law counts once. -/
mutual
def uptoBulk {H : Type} : DataW H → Nat
  | .lit (.string bytes) => bytes.length + 1
  | .lit _ => 1
  | .nil => 1
  | .ptr d => uptoBulk d + 1
  | .slice elems spare => uptoBulkAll elems + uptoBulkAll spare + 1
  | .agg parts => uptoBulkAll parts + 1
  | .iface _ d => uptoBulk d + 1
  | .map entries => uptoBulkEntries entries + 1
  | .held _ => 1
def uptoBulkAll {H : Type} : List (DataW H) → Nat
  | [] => 0
  | d :: r => uptoBulk d + uptoBulkAll r
def uptoBulkEntries {H : Type} : List (Lit × DataW H) → Nat
  | [] => 0
  | x :: r => uptoBulkEntry x + uptoBulkEntries r
def uptoBulkEntry {H : Type} : Lit × DataW H → Nat
  | (.string bytes, d) => bytes.length + uptoBulk d + 1
  | (_, d) => uptoBulk d + 1
 end
def uptoSmall : (H : Type) → List (DataW H) → Bool := fun _ ds => decide (uptoBulkAll ds ≤ 1048576)
def OpenSpec.upto (s : _root_.Go.ChangeSpec) : _root_.Go.OpenSpec := { _root_.Go.OpenSpec.ofChange s with cond := some uptoSmall }

/-- 'pandectlaw17.PlanRises', WHERE WHAT IT READS IS OF BULK AT MOST 1048576: true; the input reads as it did. -/
def planRisesUptoRow : OpenClaim := { program := "ytalgnffcdmbkfaa", sum := "aa8897dc2a9ce8c8b69fc2f710aaa33df8d1c431bc144a5d9147abcbbd96c832", func := "pandect/pandectlaw17.PlanRises", spec := "planRises", inPlace := ["internal/bytealg.Compare"], unfollowed := true, recurses := true, apart := false, narrowed := true }
def PlanRisesUptoSaid : Prop := planRisesUptoRow.holds Try.pinned (OpenSpec.upto planRisesSpec)

/-- 'pandectlaw17.PlanOver', WHERE WHAT IT READS IS OF BULK AT MOST 1048576: true; the input reads as it did. -/
def planOverUptoRow : OpenClaim := { program := "ytalgnffcdmbkfaa", sum := "aa8897dc2a9ce8c8b69fc2f710aaa33df8d1c431bc144a5d9147abcbbd96c832", func := "pandect/pandectlaw17.PlanOver", spec := "planOver", inPlace := ["internal/bytealg.Compare"], unfollowed := true, recurses := true, apart := false, narrowed := true }
def PlanOverUptoSaid : Prop := planOverUptoRow.holds Try.pinned (OpenSpec.upto planOverSpec)

/-- 'pandectlaw17.PlanForms', WHERE WHAT IT READS IS OF BULK AT MOST 1048576: true; the input reads as it did. -/
def planFormsUptoRow : OpenClaim := { program := "ytalgnffcdmbkfaa", sum := "aa8897dc2a9ce8c8b69fc2f710aaa33df8d1c431bc144a5d9147abcbbd96c832", func := "pandect/pandectlaw17.PlanForms", spec := "planForms", inPlace := ["internal/bytealg.Compare"], unfollowed := true, recurses := true, apart := false, narrowed := true }
def PlanFormsUptoSaid : Prop := planFormsUptoRow.holds Try.pinned (OpenSpec.upto planFormsSpec)

/-- 'pandectlaw17.PlanKeys', WHERE WHAT IT READS IS OF BULK AT MOST 1048576: true; the input reads as it did. -/
def planKeysUptoRow : OpenClaim := { program := "ytalgnffcdmbkfaa", sum := "aa8897dc2a9ce8c8b69fc2f710aaa33df8d1c431bc144a5d9147abcbbd96c832", func := "pandect/pandectlaw17.PlanKeys", spec := "planKeys", inPlace := ["internal/bytealg.Compare"], unfollowed := true, recurses := true, apart := false, narrowed := true }
def PlanKeysUptoSaid : Prop := planKeysUptoRow.holds Try.pinned (OpenSpec.upto planKeysSpec)

end Rows
end Go.Proofs.Ytalgnffcdmbkfaa

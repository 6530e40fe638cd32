/-
  No cell of these rows narrows 'for every input' (looked for: loops, veiled, ifaces, maps, wideKeys, modest, calm, conditions, laid).
  DERIVED. THE GIVEN ROWS OF THIS SEAT. 9 by the template 'for every input the law returns true; each argument reads behind the call as it read before'; 0 by the template 'total and deterministic' (their statements: YthofghhfcmbbfaaTotals.lean).
  GIVEN WITH THE SEED: the statements are not yours to turn. If you find one false, say at which input.
  Laid BY PROGRAM, IN A SANDBOX (cutbox-rows.mjs): the forced cells as the released guide's own fill.sh prints them over the translation 2fd5bfe2de5276f0… (all of the seat's roots in one cut). By AI agents, Wed Nov 11 2026. No macro, syntax, notation, axiom, sorry.
-/
import Derived.Test.YthofghhfcmbbfaaChecked
import GoSem.Claim
import GoSem.ClaimJoined
import GoSem.ClaimMapViews
import Derived.JoinedTies
import Derived.KernelRfl
namespace Go.Proofs.Ythofghhfcmbbfaa
/- THE CELL 'sum', in the pinned program and in every row, IS THE sha256 OF THE DUMP (.gsa) THAT YthofghhfcmbbfaaProg.lean LOADS. Nothing in Lean hashes anything: it is a label: what it is worth is what the hold of that sum in a sandbox is worth. -/
noncomputable def Try.pinned : Pinned := { name := "ythofghhfcmbbfaa", sum := "2fd5bfe2de5276f05f75ba0e4c99d88b6f503dbad0a95ee59bbb5d68d7fa2df5", checked := Try.checked }
namespace Rows
def none {H : Type} : Left H := { results := [], args := [] }

/-- 'cubitlaw09.BaseStands': WHATEVER THE INPUT: true; the input reads as it did. -/
def baseStandsSpec : ChangeSpec := { name := "baseStands", fn := fun _ => fun
  | [] => { results := [.lit (.bool true)], args := [] }
  | _ => none }
def baseStandsRow : OpenClaim := { program := "ythofghhfcmbbfaa", sum := "2fd5bfe2de5276f05f75ba0e4c99d88b6f503dbad0a95ee59bbb5d68d7fa2df5", func := "cubit/cubitlaw09.BaseStands", spec := "baseStands", unfollowed := true, recurses := true, apart := false }
def BaseStandsSaid : Prop := baseStandsRow.holds Try.pinned (OpenSpec.ofChange baseStandsSpec)

/-- ITS FALSE NEIGHBOUR: 'it returns false'. Refute it at one input. -/
def baseStandsWrong : ChangeSpec := { name := "baseStands", fn := fun _ => fun
  | [] => { results := [.lit (.bool false)], args := [] }
  | _ => none }
def BaseStandsWrongFalsely : Prop := baseStandsRow.holds Try.pinned (OpenSpec.ofChange baseStandsWrong)

/-- 'cubitlaw09.BaseSpans': WHATEVER THE INPUT: true; the input reads as it did. -/
def baseSpansSpec : ChangeSpec := { name := "baseSpans", fn := fun _ => fun
  | [] => { results := [.lit (.bool true)], args := [] }
  | _ => none }
def baseSpansRow : OpenClaim := { program := "ythofghhfcmbbfaa", sum := "2fd5bfe2de5276f05f75ba0e4c99d88b6f503dbad0a95ee59bbb5d68d7fa2df5", func := "cubit/cubitlaw09.BaseSpans", spec := "baseSpans", unfollowed := true, recurses := true, apart := false }
def BaseSpansSaid : Prop := baseSpansRow.holds Try.pinned (OpenSpec.ofChange baseSpansSpec)

/-- ITS FALSE NEIGHBOUR: 'it returns false'. Refute it at one input. -/
def baseSpansWrong : ChangeSpec := { name := "baseSpans", fn := fun _ => fun
  | [] => { results := [.lit (.bool false)], args := [] }
  | _ => none }
def BaseSpansWrongFalsely : Prop := baseSpansRow.holds Try.pinned (OpenSpec.ofChange baseSpansWrong)

/-- 'cubitlaw09.BaseFinds': WHATEVER THE INPUT: true; the input reads as it did. -/
def baseFindsSpec : ChangeSpec := { name := "baseFinds", fn := fun _ => fun
  | [d] => { results := [.lit (.bool true)], args := [d] }
  | _ => none }
def baseFindsRow : OpenClaim := { program := "ythofghhfcmbbfaa", sum := "2fd5bfe2de5276f05f75ba0e4c99d88b6f503dbad0a95ee59bbb5d68d7fa2df5", func := "cubit/cubitlaw09.BaseFinds", spec := "baseFinds", unfollowed := true, recurses := true, apart := false }
def BaseFindsSaid : Prop := baseFindsRow.holds Try.pinned (OpenSpec.ofChange baseFindsSpec)

/-- ITS FALSE NEIGHBOUR: 'it returns false'. Refute it at one input. -/
def baseFindsWrong : ChangeSpec := { name := "baseFinds", fn := fun _ => fun
  | [d] => { results := [.lit (.bool false)], args := [d] }
  | _ => none }
def BaseFindsWrongFalsely : Prop := baseFindsRow.holds Try.pinned (OpenSpec.ofChange baseFindsWrong)

/-- 'cubitlaw10.SiStands': WHATEVER THE INPUT: true; the input reads as it did. -/
def siStandsSpec : ChangeSpec := { name := "siStands", fn := fun _ => fun
  | [] => { results := [.lit (.bool true)], args := [] }
  | _ => none }
def siStandsRow : OpenClaim := { program := "ythofghhfcmbbfaa", sum := "2fd5bfe2de5276f05f75ba0e4c99d88b6f503dbad0a95ee59bbb5d68d7fa2df5", func := "cubit/cubitlaw10.SiStands", spec := "siStands", unfollowed := true, recurses := true, apart := false }
def SiStandsSaid : Prop := siStandsRow.holds Try.pinned (OpenSpec.ofChange siStandsSpec)

/-- ITS FALSE NEIGHBOUR: 'it returns false'. Refute it at one input. -/
def siStandsWrong : ChangeSpec := { name := "siStands", fn := fun _ => fun
  | [] => { results := [.lit (.bool false)], args := [] }
  | _ => none }
def SiStandsWrongFalsely : Prop := siStandsRow.holds Try.pinned (OpenSpec.ofChange siStandsWrong)

/-- 'cubitlaw10.SiFinds': WHATEVER THE INPUT: true; the input reads as it did. -/
def siFindsSpec : ChangeSpec := { name := "siFinds", fn := fun _ => fun
  | [d] => { results := [.lit (.bool true)], args := [d] }
  | _ => none }
def siFindsRow : OpenClaim := { program := "ythofghhfcmbbfaa", sum := "2fd5bfe2de5276f05f75ba0e4c99d88b6f503dbad0a95ee59bbb5d68d7fa2df5", func := "cubit/cubitlaw10.SiFinds", spec := "siFinds", unfollowed := true, recurses := true, apart := false }
def SiFindsSaid : Prop := siFindsRow.holds Try.pinned (OpenSpec.ofChange siFindsSpec)

/-- ITS FALSE NEIGHBOUR: 'it returns false'. Refute it at one input. -/
def siFindsWrong : ChangeSpec := { name := "siFinds", fn := fun _ => fun
  | [d] => { results := [.lit (.bool false)], args := [d] }
  | _ => none }
def SiFindsWrongFalsely : Prop := siFindsRow.holds Try.pinned (OpenSpec.ofChange siFindsWrong)

/-- 'cubitlaw10.SiMade': WHATEVER THE INPUT: true; the input reads as it did. -/
def siMadeSpec : ChangeSpec := { name := "siMade", fn := fun _ => fun
  | [d] => { results := [.lit (.bool true)], args := [d] }
  | _ => none }
def siMadeRow : OpenClaim := { program := "ythofghhfcmbbfaa", sum := "2fd5bfe2de5276f05f75ba0e4c99d88b6f503dbad0a95ee59bbb5d68d7fa2df5", func := "cubit/cubitlaw10.SiMade", spec := "siMade", unfollowed := true, recurses := true, apart := false }
def SiMadeSaid : Prop := siMadeRow.holds Try.pinned (OpenSpec.ofChange siMadeSpec)

/-- ITS FALSE NEIGHBOUR: 'it returns false'. Refute it at one input. -/
def siMadeWrong : ChangeSpec := { name := "siMade", fn := fun _ => fun
  | [d] => { results := [.lit (.bool false)], args := [d] }
  | _ => none }
def SiMadeWrongFalsely : Prop := siMadeRow.holds Try.pinned (OpenSpec.ofChange siMadeWrong)

/-- 'cubitlaw10.SiRelations': WHATEVER THE INPUT: true; the input reads as it did. -/
def siRelationsSpec : ChangeSpec := { name := "siRelations", fn := fun _ => fun
  | [] => { results := [.lit (.bool true)], args := [] }
  | _ => none }
def siRelationsRow : OpenClaim := { program := "ythofghhfcmbbfaa", sum := "2fd5bfe2de5276f05f75ba0e4c99d88b6f503dbad0a95ee59bbb5d68d7fa2df5", func := "cubit/cubitlaw10.SiRelations", spec := "siRelations", unfollowed := true, recurses := true, apart := false }
def SiRelationsSaid : Prop := siRelationsRow.holds Try.pinned (OpenSpec.ofChange siRelationsSpec)

/-- ITS FALSE NEIGHBOUR: 'it returns false'. Refute it at one input. -/
def siRelationsWrong : ChangeSpec := { name := "siRelations", fn := fun _ => fun
  | [] => { results := [.lit (.bool false)], args := [] }
  | _ => none }
def SiRelationsWrongFalsely : Prop := siRelationsRow.holds Try.pinned (OpenSpec.ofChange siRelationsWrong)

/-- 'cubitlaw10.SiCoherent': WHATEVER THE INPUT: true; the input reads as it did. -/
def siCoherentSpec : ChangeSpec := { name := "siCoherent", fn := fun _ => fun
  | [d] => { results := [.lit (.bool true)], args := [d] }
  | _ => none }
def siCoherentRow : OpenClaim := { program := "ythofghhfcmbbfaa", sum := "2fd5bfe2de5276f05f75ba0e4c99d88b6f503dbad0a95ee59bbb5d68d7fa2df5", func := "cubit/cubitlaw10.SiCoherent", spec := "siCoherent", unfollowed := true, recurses := true, apart := false }
def SiCoherentSaid : Prop := siCoherentRow.holds Try.pinned (OpenSpec.ofChange siCoherentSpec)

/-- ITS FALSE NEIGHBOUR: 'it returns false'. Refute it at one input. -/
def siCoherentWrong : ChangeSpec := { name := "siCoherent", fn := fun _ => fun
  | [d] => { results := [.lit (.bool false)], args := [d] }
  | _ => none }
def SiCoherentWrongFalsely : Prop := siCoherentRow.holds Try.pinned (OpenSpec.ofChange siCoherentWrong)

/-- 'cubittop.TopNames': WHATEVER THE INPUT: true; the input reads as it did. -/
def topNamesSpec : ChangeSpec := { name := "topNames", fn := fun _ => fun
  | [] => { results := [.lit (.bool true)], args := [] }
  | _ => none }
def topNamesRow : OpenClaim := { program := "ythofghhfcmbbfaa", sum := "2fd5bfe2de5276f05f75ba0e4c99d88b6f503dbad0a95ee59bbb5d68d7fa2df5", func := "cubit/cubittop.TopNames", spec := "topNames", apart := false }
def TopNamesSaid : Prop := topNamesRow.holds Try.pinned (OpenSpec.ofChange topNamesSpec)

/-- ITS FALSE NEIGHBOUR: 'it returns false'. Refute it at one input. -/
def topNamesWrong : ChangeSpec := { name := "topNames", fn := fun _ => fun
  | [] => { results := [.lit (.bool false)], args := [] }
  | _ => none }
def TopNamesWrongFalsely : Prop := topNamesRow.holds Try.pinned (OpenSpec.ofChange topNamesWrong)

/- THE SECOND FORM. 'bulk': how many values and letters a reading holds, each counted each time it is reached (what is shared counts as often as it is met; a slice's spare places count too). A statement '..UptoSaid' is the law's where the arguments, and the package variables that the reading takes, are together of bulk at most 1048576: NARROWER than '..Said'. Prove '..Said' where nothing that the law and all that it calls make is longer than what came in: it says more and counts as full. Else prove '..UptoSaid'. A law counts once. -/
mutual
def uptoBulk {H : Type} : DataW H → Nat
  | .lit (.string bytes) => bytes.length + 1
  | .lit _ => 1
  | .nil => 1
  | .ptr d => uptoBulk d + 1
  | .slice elems spare => uptoBulkAll elems + uptoBulkAll spare + 1
  | .agg parts => uptoBulkAll parts + 1
  | .iface _ d => uptoBulk d + 1
  | .map entries => uptoBulkEntries entries + 1
  | .held _ => 1
def uptoBulkAll {H : Type} : List (DataW H) → Nat
  | [] => 0
  | d :: r => uptoBulk d + uptoBulkAll r
def uptoBulkEntries {H : Type} : List (Lit × DataW H) → Nat
  | [] => 0
  | x :: r => uptoBulkEntry x + uptoBulkEntries r
def uptoBulkEntry {H : Type} : Lit × DataW H → Nat
  | (.string bytes, d) => bytes.length + uptoBulk d + 1
  | (_, d) => uptoBulk d + 1
 end
def uptoSmall : (H : Type) → List (DataW H) → Bool := fun _ ds => decide (uptoBulkAll ds ≤ 1048576)
def OpenSpec.upto (s : _root_.Go.ChangeSpec) : _root_.Go.OpenSpec := { _root_.Go.OpenSpec.ofChange s with cond := some uptoSmall }

/-- 'cubitlaw09.BaseStands', WHERE WHAT IT READS IS OF BULK AT MOST 1048576: true; the input reads as it did. -/
def baseStandsUptoRow : OpenClaim := { program := "ythofghhfcmbbfaa", sum := "2fd5bfe2de5276f05f75ba0e4c99d88b6f503dbad0a95ee59bbb5d68d7fa2df5", func := "cubit/cubitlaw09.BaseStands", spec := "baseStands", unfollowed := true, recurses := true, apart := false, narrowed := true }
def BaseStandsUptoSaid : Prop := baseStandsUptoRow.holds Try.pinned (OpenSpec.upto baseStandsSpec)

/-- 'cubitlaw09.BaseSpans', WHERE WHAT IT READS IS OF BULK AT MOST 1048576: true; the input reads as it did. -/
def baseSpansUptoRow : OpenClaim := { program := "ythofghhfcmbbfaa", sum := "2fd5bfe2de5276f05f75ba0e4c99d88b6f503dbad0a95ee59bbb5d68d7fa2df5", func := "cubit/cubitlaw09.BaseSpans", spec := "baseSpans", unfollowed := true, recurses := true, apart := false, narrowed := true }
def BaseSpansUptoSaid : Prop := baseSpansUptoRow.holds Try.pinned (OpenSpec.upto baseSpansSpec)

/-- 'cubitlaw09.BaseFinds', WHERE WHAT IT READS IS OF BULK AT MOST 1048576: true; the input reads as it did. -/
def baseFindsUptoRow : OpenClaim := { program := "ythofghhfcmbbfaa", sum := "2fd5bfe2de5276f05f75ba0e4c99d88b6f503dbad0a95ee59bbb5d68d7fa2df5", func := "cubit/cubitlaw09.BaseFinds", spec := "baseFinds", unfollowed := true, recurses := true, apart := false, narrowed := true }
def BaseFindsUptoSaid : Prop := baseFindsUptoRow.holds Try.pinned (OpenSpec.upto baseFindsSpec)

/-- 'cubitlaw10.SiStands', WHERE WHAT IT READS IS OF BULK AT MOST 1048576: true; the input reads as it did. -/
def siStandsUptoRow : OpenClaim := { program := "ythofghhfcmbbfaa", sum := "2fd5bfe2de5276f05f75ba0e4c99d88b6f503dbad0a95ee59bbb5d68d7fa2df5", func := "cubit/cubitlaw10.SiStands", spec := "siStands", unfollowed := true, recurses := true, apart := false, narrowed := true }
def SiStandsUptoSaid : Prop := siStandsUptoRow.holds Try.pinned (OpenSpec.upto siStandsSpec)

/-- 'cubitlaw10.SiFinds', WHERE WHAT IT READS IS OF BULK AT MOST 1048576: true; the input reads as it did. -/
def siFindsUptoRow : OpenClaim := { program := "ythofghhfcmbbfaa", sum := "2fd5bfe2de5276f05f75ba0e4c99d88b6f503dbad0a95ee59bbb5d68d7fa2df5", func := "cubit/cubitlaw10.SiFinds", spec := "siFinds", unfollowed := true, recurses := true, apart := false, narrowed := true }
def SiFindsUptoSaid : Prop := siFindsUptoRow.holds Try.pinned (OpenSpec.upto siFindsSpec)

/-- 'cubitlaw10.SiMade', WHERE WHAT IT READS IS OF BULK AT MOST 1048576: true; the input reads as it did. -/
def siMadeUptoRow : OpenClaim := { program := "ythofghhfcmbbfaa", sum := "2fd5bfe2de5276f05f75ba0e4c99d88b6f503dbad0a95ee59bbb5d68d7fa2df5", func := "cubit/cubitlaw10.SiMade", spec := "siMade", unfollowed := true, recurses := true, apart := false, narrowed := true }
def SiMadeUptoSaid : Prop := siMadeUptoRow.holds Try.pinned (OpenSpec.upto siMadeSpec)

/-- 'cubitlaw10.SiRelations', WHERE WHAT IT READS IS OF BULK AT MOST 1048576: true; the input reads as it did. -/
def siRelationsUptoRow : OpenClaim := { program := "ythofghhfcmbbfaa", sum := "2fd5bfe2de5276f05f75ba0e4c99d88b6f503dbad0a95ee59bbb5d68d7fa2df5", func := "cubit/cubitlaw10.SiRelations", spec := "siRelations", unfollowed := true, recurses := true, apart := false, narrowed := true }
def SiRelationsUptoSaid : Prop := siRelationsUptoRow.holds Try.pinned (OpenSpec.upto siRelationsSpec)

/-- 'cubitlaw10.SiCoherent', WHERE WHAT IT READS IS OF BULK AT MOST 1048576: true; the input reads as it did. -/
def siCoherentUptoRow : OpenClaim := { program := "ythofghhfcmbbfaa", sum := "2fd5bfe2de5276f05f75ba0e4c99d88b6f503dbad0a95ee59bbb5d68d7fa2df5", func := "cubit/cubitlaw10.SiCoherent", spec := "siCoherent", unfollowed := true, recurses := true, apart := false, narrowed := true }
def SiCoherentUptoSaid : Prop := siCoherentUptoRow.holds Try.pinned (OpenSpec.upto siCoherentSpec)

/-- 'cubittop.TopNames', WHERE WHAT IT READS IS OF BULK AT MOST 1048576: true; the input reads as it did. -/
def topNamesUptoRow : OpenClaim := { program := "ythofghhfcmbbfaa", sum := "2fd5bfe2de5276f05f75ba0e4c99d88b6f503dbad0a95ee59bbb5d68d7fa2df5", func := "cubit/cubittop.TopNames", spec := "topNames", apart := false, narrowed := true }
def TopNamesUptoSaid : Prop := topNamesUptoRow.holds Try.pinned (OpenSpec.upto topNamesSpec)

end Rows
end Go.Proofs.Ythofghhfcmbbfaa

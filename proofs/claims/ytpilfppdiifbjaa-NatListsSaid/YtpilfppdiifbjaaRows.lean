/-
  No cell of these rows narrows 'for every input' (looked for: loops, veiled, ifaces, maps, wideKeys, modest, calm, conditions, laid).
  DERIVED. THE GIVEN ROWS OF THIS SEAT. 9 by the template 'for every input the law returns true; each argument reads behind the call as it read before'; 0 by the template 'total and deterministic' (their statements: YtpilfppdiifbjaaTotals.lean).
  GIVEN WITH THE SEED: the statements are not yours to turn. If you find one false, say at which input.
  Laid BY PROGRAM, IN A SANDBOX (cutbox-rows.mjs): the forced cells as the released guide's own fill.sh prints them over the translation 9e728b3c885a4f90… (all of the seat's roots in one cut). By AI agents, Wed Nov 11 2026. No macro, syntax, notation, axiom, sorry.
-/
import Derived.Test.YtpilfppdiifbjaaChecked
import GoSem.Claim
import GoSem.ClaimJoined
import GoSem.ClaimMapViews
import Derived.JoinedTies
import Derived.KernelRfl
namespace Go.Proofs.Ytpilfppdiifbjaa
/- THE CELL 'sum', in the pinned program and in every row, IS THE sha256 OF THE DUMP (.gsa) THAT YtpilfppdiifbjaaProg.lean LOADS. Nothing in Lean hashes anything: it is a label: what it is worth is what the hold of that sum in a sandbox is worth. -/
noncomputable def Try.pinned : Pinned := { name := "ytpilfppdiifbjaa", sum := "9e728b3c885a4f9072105bc4e2dc66d3d8eac767212597264904ebba0f2bae9f", checked := Try.checked }
namespace Rows
def none {H : Type} : Left H := { results := [], args := [] }

/-- 'cubitlaw01.NatBack': WHATEVER THE INPUT: true; the input reads as it did. -/
def natBackSpec : ChangeSpec := { name := "natBack", fn := fun _ => fun
  | [d1, d2] => { results := [.lit (.bool true)], args := [d1, d2] }
  | _ => none }
def natBackRow : OpenClaim := { program := "ytpilfppdiifbjaa", sum := "9e728b3c885a4f9072105bc4e2dc66d3d8eac767212597264904ebba0f2bae9f", func := "cubit/cubitlaw01.NatBack", spec := "natBack", apart := false }
def NatBackSaid : Prop := natBackRow.holds Try.pinned (OpenSpec.ofChange natBackSpec)

/-- ITS FALSE NEIGHBOUR: 'it returns false'. Refute it at one input. -/
def natBackWrong : ChangeSpec := { name := "natBack", fn := fun _ => fun
  | [d1, d2] => { results := [.lit (.bool false)], args := [d1, d2] }
  | _ => none }
def NatBackWrongFalsely : Prop := natBackRow.holds Try.pinned (OpenSpec.ofChange natBackWrong)

/-- 'cubitlaw01.NatReads': WHATEVER THE INPUT: true; the input reads as it did. -/
def natReadsSpec : ChangeSpec := { name := "natReads", fn := fun _ => fun
  | [d1, d2] => { results := [.lit (.bool true)], args := [d1, d2] }
  | _ => none }
def natReadsRow : OpenClaim := { program := "ytpilfppdiifbjaa", sum := "9e728b3c885a4f9072105bc4e2dc66d3d8eac767212597264904ebba0f2bae9f", func := "cubit/cubitlaw01.NatReads", spec := "natReads", apart := false }
def NatReadsSaid : Prop := natReadsRow.holds Try.pinned (OpenSpec.ofChange natReadsSpec)

/-- ITS FALSE NEIGHBOUR: 'it returns false'. Refute it at one input. -/
def natReadsWrong : ChangeSpec := { name := "natReads", fn := fun _ => fun
  | [d1, d2] => { results := [.lit (.bool false)], args := [d1, d2] }
  | _ => none }
def NatReadsWrongFalsely : Prop := natReadsRow.holds Try.pinned (OpenSpec.ofChange natReadsWrong)

/-- 'cubitlaw01.NatLists': WHATEVER THE INPUT: true; the input reads as it did. -/
def natListsSpec : ChangeSpec := { name := "natLists", fn := fun _ => fun
  | [d] => { results := [.lit (.bool true)], args := [d] }
  | _ => none }
def natListsRow : OpenClaim := { program := "ytpilfppdiifbjaa", sum := "9e728b3c885a4f9072105bc4e2dc66d3d8eac767212597264904ebba0f2bae9f", func := "cubit/cubitlaw01.NatLists", spec := "natLists", apart := false }
def NatListsSaid : Prop := natListsRow.holds Try.pinned (OpenSpec.ofChange natListsSpec)

/-- ITS FALSE NEIGHBOUR: 'it returns false'. Refute it at one input. -/
def natListsWrong : ChangeSpec := { name := "natLists", fn := fun _ => fun
  | [d] => { results := [.lit (.bool false)], args := [d] }
  | _ => none }
def NatListsWrongFalsely : Prop := natListsRow.holds Try.pinned (OpenSpec.ofChange natListsWrong)

/-- 'cubitlaw01.NatAdds': WHATEVER THE INPUT: true; the input reads as it did. -/
def natAddsSpec : ChangeSpec := { name := "natAdds", fn := fun _ => fun
  | [d1, d2] => { results := [.lit (.bool true)], args := [d1, d2] }
  | _ => none }
def natAddsRow : OpenClaim := { program := "ytpilfppdiifbjaa", sum := "9e728b3c885a4f9072105bc4e2dc66d3d8eac767212597264904ebba0f2bae9f", func := "cubit/cubitlaw01.NatAdds", spec := "natAdds", apart := false }
def NatAddsSaid : Prop := natAddsRow.holds Try.pinned (OpenSpec.ofChange natAddsSpec)

/-- ITS FALSE NEIGHBOUR: 'it returns false'. Refute it at one input. -/
def natAddsWrong : ChangeSpec := { name := "natAdds", fn := fun _ => fun
  | [d1, d2] => { results := [.lit (.bool false)], args := [d1, d2] }
  | _ => none }
def NatAddsWrongFalsely : Prop := natAddsRow.holds Try.pinned (OpenSpec.ofChange natAddsWrong)

/-- 'cubitlaw01.NatRing': WHATEVER THE INPUT: true; the input reads as it did. -/
def natRingSpec : ChangeSpec := { name := "natRing", fn := fun _ => fun
  | [d1, d2, d3] => { results := [.lit (.bool true)], args := [d1, d2, d3] }
  | _ => none }
def natRingRow : OpenClaim := { program := "ytpilfppdiifbjaa", sum := "9e728b3c885a4f9072105bc4e2dc66d3d8eac767212597264904ebba0f2bae9f", func := "cubit/cubitlaw01.NatRing", spec := "natRing", apart := false }
def NatRingSaid : Prop := natRingRow.holds Try.pinned (OpenSpec.ofChange natRingSpec)

/-- ITS FALSE NEIGHBOUR: 'it returns false'. Refute it at one input. -/
def natRingWrong : ChangeSpec := { name := "natRing", fn := fun _ => fun
  | [d1, d2, d3] => { results := [.lit (.bool false)], args := [d1, d2, d3] }
  | _ => none }
def NatRingWrongFalsely : Prop := natRingRow.holds Try.pinned (OpenSpec.ofChange natRingWrong)

/-- 'cubitlaw01.NatDivides': WHATEVER THE INPUT: true; the input reads as it did. -/
def natDividesSpec : ChangeSpec := { name := "natDivides", fn := fun _ => fun
  | [d1, d2] => { results := [.lit (.bool true)], args := [d1, d2] }
  | _ => none }
def natDividesRow : OpenClaim := { program := "ytpilfppdiifbjaa", sum := "9e728b3c885a4f9072105bc4e2dc66d3d8eac767212597264904ebba0f2bae9f", func := "cubit/cubitlaw01.NatDivides", spec := "natDivides", apart := false }
def NatDividesSaid : Prop := natDividesRow.holds Try.pinned (OpenSpec.ofChange natDividesSpec)

/-- ITS FALSE NEIGHBOUR: 'it returns false'. Refute it at one input. -/
def natDividesWrong : ChangeSpec := { name := "natDivides", fn := fun _ => fun
  | [d1, d2] => { results := [.lit (.bool false)], args := [d1, d2] }
  | _ => none }
def NatDividesWrongFalsely : Prop := natDividesRow.holds Try.pinned (OpenSpec.ofChange natDividesWrong)

/-- 'cubitlaw01.NatQuotient': WHATEVER THE INPUT: true; the input reads as it did. -/
def natQuotientSpec : ChangeSpec := { name := "natQuotient", fn := fun _ => fun
  | [d1, d2] => { results := [.lit (.bool true)], args := [d1, d2] }
  | _ => none }
def natQuotientRow : OpenClaim := { program := "ytpilfppdiifbjaa", sum := "9e728b3c885a4f9072105bc4e2dc66d3d8eac767212597264904ebba0f2bae9f", func := "cubit/cubitlaw01.NatQuotient", spec := "natQuotient", apart := false }
def NatQuotientSaid : Prop := natQuotientRow.holds Try.pinned (OpenSpec.ofChange natQuotientSpec)

/-- ITS FALSE NEIGHBOUR: 'it returns false'. Refute it at one input. -/
def natQuotientWrong : ChangeSpec := { name := "natQuotient", fn := fun _ => fun
  | [d1, d2] => { results := [.lit (.bool false)], args := [d1, d2] }
  | _ => none }
def NatQuotientWrongFalsely : Prop := natQuotientRow.holds Try.pinned (OpenSpec.ofChange natQuotientWrong)

/-- 'cubitlaw01.NatPowers': WHATEVER THE INPUT: true; the input reads as it did. -/
def natPowersSpec : ChangeSpec := { name := "natPowers", fn := fun _ => fun
  | [d1, d2] => { results := [.lit (.bool true)], args := [d1, d2] }
  | _ => none }
def natPowersRow : OpenClaim := { program := "ytpilfppdiifbjaa", sum := "9e728b3c885a4f9072105bc4e2dc66d3d8eac767212597264904ebba0f2bae9f", func := "cubit/cubitlaw01.NatPowers", spec := "natPowers", apart := false }
def NatPowersSaid : Prop := natPowersRow.holds Try.pinned (OpenSpec.ofChange natPowersSpec)

/-- ITS FALSE NEIGHBOUR: 'it returns false'. Refute it at one input. -/
def natPowersWrong : ChangeSpec := { name := "natPowers", fn := fun _ => fun
  | [d1, d2] => { results := [.lit (.bool false)], args := [d1, d2] }
  | _ => none }
def NatPowersWrongFalsely : Prop := natPowersRow.holds Try.pinned (OpenSpec.ofChange natPowersWrong)

/-- 'cubitlaw01.NatRaised': WHATEVER THE INPUT: true; the input reads as it did. -/
def natRaisedSpec : ChangeSpec := { name := "natRaised", fn := fun _ => fun
  | [d1, d2, d3] => { results := [.lit (.bool true)], args := [d1, d2, d3] }
  | _ => none }
def natRaisedRow : OpenClaim := { program := "ytpilfppdiifbjaa", sum := "9e728b3c885a4f9072105bc4e2dc66d3d8eac767212597264904ebba0f2bae9f", func := "cubit/cubitlaw01.NatRaised", spec := "natRaised", apart := false }
def NatRaisedSaid : Prop := natRaisedRow.holds Try.pinned (OpenSpec.ofChange natRaisedSpec)

/-- ITS FALSE NEIGHBOUR: 'it returns false'. Refute it at one input. -/
def natRaisedWrong : ChangeSpec := { name := "natRaised", fn := fun _ => fun
  | [d1, d2, d3] => { results := [.lit (.bool false)], args := [d1, d2, d3] }
  | _ => none }
def NatRaisedWrongFalsely : Prop := natRaisedRow.holds Try.pinned (OpenSpec.ofChange natRaisedWrong)

/- THE SECOND FORM. 'bulk': how many values and letters a reading holds, each counted each time it is reached (what is shared counts as often as it is met; a slice's spare places count too). A statement '..UptoSaid' is the law's where the arguments, and the package variables that the reading takes, are together of bulk at most 1048576: NARROWER than '..Said'. Prove '..Said' where nothing that the law and all that it calls make is longer than what came in: it says more and counts as full. Else prove '..UptoSaid'. A law counts once. -/
mutual
def uptoBulk {H : Type} : DataW H → Nat
  | .lit (.string bytes) => bytes.length + 1
  | .lit _ => 1
  | .nil => 1
  | .ptr d => uptoBulk d + 1
  | .slice elems spare => uptoBulkAll elems + uptoBulkAll spare + 1
  | .agg parts => uptoBulkAll parts + 1
  | .iface _ d => uptoBulk d + 1
  | .map entries => uptoBulkEntries entries + 1
  | .held _ => 1
def uptoBulkAll {H : Type} : List (DataW H) → Nat
  | [] => 0
  | d :: r => uptoBulk d + uptoBulkAll r
def uptoBulkEntries {H : Type} : List (Lit × DataW H) → Nat
  | [] => 0
  | x :: r => uptoBulkEntry x + uptoBulkEntries r
def uptoBulkEntry {H : Type} : Lit × DataW H → Nat
  | (.string bytes, d) => bytes.length + uptoBulk d + 1
  | (_, d) => uptoBulk d + 1
 end
def uptoSmall : (H : Type) → List (DataW H) → Bool := fun _ ds => decide (uptoBulkAll ds ≤ 1048576)
def OpenSpec.upto (s : _root_.Go.ChangeSpec) : _root_.Go.OpenSpec := { _root_.Go.OpenSpec.ofChange s with cond := some uptoSmall }

/-- 'cubitlaw01.NatBack', WHERE WHAT IT READS IS OF BULK AT MOST 1048576: true; the input reads as it did. -/
def natBackUptoRow : OpenClaim := { program := "ytpilfppdiifbjaa", sum := "9e728b3c885a4f9072105bc4e2dc66d3d8eac767212597264904ebba0f2bae9f", func := "cubit/cubitlaw01.NatBack", spec := "natBack", apart := false, narrowed := true }
def NatBackUptoSaid : Prop := natBackUptoRow.holds Try.pinned (OpenSpec.upto natBackSpec)

/-- 'cubitlaw01.NatReads', WHERE WHAT IT READS IS OF BULK AT MOST 1048576: true; the input reads as it did. -/
def natReadsUptoRow : OpenClaim := { program := "ytpilfppdiifbjaa", sum := "9e728b3c885a4f9072105bc4e2dc66d3d8eac767212597264904ebba0f2bae9f", func := "cubit/cubitlaw01.NatReads", spec := "natReads", apart := false, narrowed := true }
def NatReadsUptoSaid : Prop := natReadsUptoRow.holds Try.pinned (OpenSpec.upto natReadsSpec)

/-- 'cubitlaw01.NatLists', WHERE WHAT IT READS IS OF BULK AT MOST 1048576: true; the input reads as it did. -/
def natListsUptoRow : OpenClaim := { program := "ytpilfppdiifbjaa", sum := "9e728b3c885a4f9072105bc4e2dc66d3d8eac767212597264904ebba0f2bae9f", func := "cubit/cubitlaw01.NatLists", spec := "natLists", apart := false, narrowed := true }
def NatListsUptoSaid : Prop := natListsUptoRow.holds Try.pinned (OpenSpec.upto natListsSpec)

/-- 'cubitlaw01.NatAdds', WHERE WHAT IT READS IS OF BULK AT MOST 1048576: true; the input reads as it did. -/
def natAddsUptoRow : OpenClaim := { program := "ytpilfppdiifbjaa", sum := "9e728b3c885a4f9072105bc4e2dc66d3d8eac767212597264904ebba0f2bae9f", func := "cubit/cubitlaw01.NatAdds", spec := "natAdds", apart := false, narrowed := true }
def NatAddsUptoSaid : Prop := natAddsUptoRow.holds Try.pinned (OpenSpec.upto natAddsSpec)

/-- 'cubitlaw01.NatRing', WHERE WHAT IT READS IS OF BULK AT MOST 1048576: true; the input reads as it did. -/
def natRingUptoRow : OpenClaim := { program := "ytpilfppdiifbjaa", sum := "9e728b3c885a4f9072105bc4e2dc66d3d8eac767212597264904ebba0f2bae9f", func := "cubit/cubitlaw01.NatRing", spec := "natRing", apart := false, narrowed := true }
def NatRingUptoSaid : Prop := natRingUptoRow.holds Try.pinned (OpenSpec.upto natRingSpec)

/-- 'cubitlaw01.NatDivides', WHERE WHAT IT READS IS OF BULK AT MOST 1048576: true; the input reads as it did. -/
def natDividesUptoRow : OpenClaim := { program := "ytpilfppdiifbjaa", sum := "9e728b3c885a4f9072105bc4e2dc66d3d8eac767212597264904ebba0f2bae9f", func := "cubit/cubitlaw01.NatDivides", spec := "natDivides", apart := false, narrowed := true }
def NatDividesUptoSaid : Prop := natDividesUptoRow.holds Try.pinned (OpenSpec.upto natDividesSpec)

/-- 'cubitlaw01.NatQuotient', WHERE WHAT IT READS IS OF BULK AT MOST 1048576: true; the input reads as it did. -/
def natQuotientUptoRow : OpenClaim := { program := "ytpilfppdiifbjaa", sum := "9e728b3c885a4f9072105bc4e2dc66d3d8eac767212597264904ebba0f2bae9f", func := "cubit/cubitlaw01.NatQuotient", spec := "natQuotient", apart := false, narrowed := true }
def NatQuotientUptoSaid : Prop := natQuotientUptoRow.holds Try.pinned (OpenSpec.upto natQuotientSpec)

/-- 'cubitlaw01.NatPowers', WHERE WHAT IT READS IS OF BULK AT MOST 1048576: true; the input reads as it did. -/
def natPowersUptoRow : OpenClaim := { program := "ytpilfppdiifbjaa", sum := "9e728b3c885a4f9072105bc4e2dc66d3d8eac767212597264904ebba0f2bae9f", func := "cubit/cubitlaw01.NatPowers", spec := "natPowers", apart := false, narrowed := true }
def NatPowersUptoSaid : Prop := natPowersUptoRow.holds Try.pinned (OpenSpec.upto natPowersSpec)

/-- 'cubitlaw01.NatRaised', WHERE WHAT IT READS IS OF BULK AT MOST 1048576: true; the input reads as it did. -/
def natRaisedUptoRow : OpenClaim := { program := "ytpilfppdiifbjaa", sum := "9e728b3c885a4f9072105bc4e2dc66d3d8eac767212597264904ebba0f2bae9f", func := "cubit/cubitlaw01.NatRaised", spec := "natRaised", apart := false, narrowed := true }
def NatRaisedUptoSaid : Prop := natRaisedUptoRow.holds Try.pinned (OpenSpec.upto natRaisedSpec)

end Rows
end Go.Proofs.Ytpilfppdiifbjaa

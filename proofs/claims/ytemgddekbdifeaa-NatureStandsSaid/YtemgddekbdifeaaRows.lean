/-
  No cell of these rows narrows 'for every input' (looked for: loops, veiled, ifaces, maps, wideKeys, modest, calm, conditions, laid).
  DERIVED. THE GIVEN ROWS OF THIS SEAT. 3 by the template 'for every input the law returns true; each argument reads behind the call as it read before'; 0 by the template 'total and deterministic' (their statements: YtemgddekbdifeaaTotals.lean).
  GIVEN WITH THE SEED: the statements are not yours to turn. If you find one false, say at which input.
  Laid BY PROGRAM, IN A SANDBOX (cutbox-rows.mjs): the forced cells as the released guide's own fill.sh prints them over the translation 403a73e9fcf4caff… (all of the seat's roots in one cut). By AI agents, Wed Nov 11 2026. No macro, syntax, notation, axiom, sorry.
-/
import Derived.Test.YtemgddekbdifeaaChecked
import GoSem.Claim
import GoSem.ClaimJoined
import GoSem.ClaimMapViews
import Derived.JoinedTies
import Derived.KernelRfl
namespace Go.Proofs.Ytemgddekbdifeaa
/- THE CELL 'sum', in the pinned program and in every row, IS THE sha256 OF THE DUMP (.gsa) THAT YtemgddekbdifeaaProg.lean LOADS. Nothing in Lean hashes anything: it is a label: what it is worth is what the hold of that sum in a sandbox is worth. -/
noncomputable def Try.pinned : Pinned := { name := "ytemgddekbdifeaa", sum := "403a73e9fcf4caff86deda691941a89cfb947eded61a7ede222deb8ac1fb8e12", checked := Try.checked }
namespace Rows
def none {H : Type} : Left H := { results := [], args := [] }

/-- 'cubitlaw13.NatureStands': WHATEVER THE INPUT: true; the input reads as it did. -/
def natureStandsSpec : ChangeSpec := { name := "natureStands", fn := fun _ => fun
  | [] => { results := [.lit (.bool true)], args := [] }
  | _ => none }
def natureStandsRow : OpenClaim := { program := "ytemgddekbdifeaa", sum := "403a73e9fcf4caff86deda691941a89cfb947eded61a7ede222deb8ac1fb8e12", func := "cubit/cubitlaw13.NatureStands", spec := "natureStands", unfollowed := true, recurses := true, apart := false }
def NatureStandsSaid : Prop := natureStandsRow.holds Try.pinned (OpenSpec.ofChange natureStandsSpec)

/-- ITS FALSE NEIGHBOUR: 'it returns false'. Refute it at one input. -/
def natureStandsWrong : ChangeSpec := { name := "natureStands", fn := fun _ => fun
  | [] => { results := [.lit (.bool false)], args := [] }
  | _ => none }
def NatureStandsWrongFalsely : Prop := natureStandsRow.holds Try.pinned (OpenSpec.ofChange natureStandsWrong)

/-- 'cubitlaw13.NatureFinds': WHATEVER THE INPUT: true; the input reads as it did. -/
def natureFindsSpec : ChangeSpec := { name := "natureFinds", fn := fun _ => fun
  | [d] => { results := [.lit (.bool true)], args := [d] }
  | _ => none }
def natureFindsRow : OpenClaim := { program := "ytemgddekbdifeaa", sum := "403a73e9fcf4caff86deda691941a89cfb947eded61a7ede222deb8ac1fb8e12", func := "cubit/cubitlaw13.NatureFinds", spec := "natureFinds", unfollowed := true, recurses := true, apart := false }
def NatureFindsSaid : Prop := natureFindsRow.holds Try.pinned (OpenSpec.ofChange natureFindsSpec)

/-- ITS FALSE NEIGHBOUR: 'it returns false'. Refute it at one input. -/
def natureFindsWrong : ChangeSpec := { name := "natureFinds", fn := fun _ => fun
  | [d] => { results := [.lit (.bool false)], args := [d] }
  | _ => none }
def NatureFindsWrongFalsely : Prop := natureFindsRow.holds Try.pinned (OpenSpec.ofChange natureFindsWrong)

/-- 'cubitlaw12.TempsStands': WHATEVER THE INPUT: true; the input reads as it did. -/
def tempsStandsSpec : ChangeSpec := { name := "tempsStands", fn := fun _ => fun
  | [] => { results := [.lit (.bool true)], args := [] }
  | _ => none }
def tempsStandsRow : OpenClaim := { program := "ytemgddekbdifeaa", sum := "403a73e9fcf4caff86deda691941a89cfb947eded61a7ede222deb8ac1fb8e12", func := "cubit/cubitlaw12.TempsStands", spec := "tempsStands", unfollowed := true, recurses := true, apart := false }
def TempsStandsSaid : Prop := tempsStandsRow.holds Try.pinned (OpenSpec.ofChange tempsStandsSpec)

/-- ITS FALSE NEIGHBOUR: 'it returns false'. Refute it at one input. -/
def tempsStandsWrong : ChangeSpec := { name := "tempsStands", fn := fun _ => fun
  | [] => { results := [.lit (.bool false)], args := [] }
  | _ => none }
def TempsStandsWrongFalsely : Prop := tempsStandsRow.holds Try.pinned (OpenSpec.ofChange tempsStandsWrong)

/- THE SECOND FORM. 'bulk': how many values and letters a reading holds, each counted each time it is reached (what is shared counts as often as it is met; a slice's spare places count too). A statement '..UptoSaid' is the law's where the arguments, and the package variables that the reading takes, are together of bulk at most 1048576: NARROWER than '..Said'. Prove '..Said' where nothing that the law and all that it calls make is longer than what came in: it says more and counts as full. Else prove '..UptoSaid'. A law counts once. -/
mutual
def uptoBulk {H : Type} : DataW H → Nat
  | .lit (.string bytes) => bytes.length + 1
  | .lit _ => 1
  | .nil => 1
  | .ptr d => uptoBulk d + 1
  | .slice elems spare => uptoBulkAll elems + uptoBulkAll spare + 1
  | .agg parts => uptoBulkAll parts + 1
  | .iface _ d => uptoBulk d + 1
  | .map entries => uptoBulkEntries entries + 1
  | .held _ => 1
def uptoBulkAll {H : Type} : List (DataW H) → Nat
  | [] => 0
  | d :: r => uptoBulk d + uptoBulkAll r
def uptoBulkEntries {H : Type} : List (Lit × DataW H) → Nat
  | [] => 0
  | x :: r => uptoBulkEntry x + uptoBulkEntries r
def uptoBulkEntry {H : Type} : Lit × DataW H → Nat
  | (.string bytes, d) => bytes.length + uptoBulk d + 1
  | (_, d) => uptoBulk d + 1
 end
def uptoSmall : (H : Type) → List (DataW H) → Bool := fun _ ds => decide (uptoBulkAll ds ≤ 1048576)
def OpenSpec.upto (s : _root_.Go.ChangeSpec) : _root_.Go.OpenSpec := { _root_.Go.OpenSpec.ofChange s with cond := some uptoSmall }

/-- 'cubitlaw13.NatureStands', WHERE WHAT IT READS IS OF BULK AT MOST 1048576: true; the input reads as it did. -/
def natureStandsUptoRow : OpenClaim := { program := "ytemgddekbdifeaa", sum := "403a73e9fcf4caff86deda691941a89cfb947eded61a7ede222deb8ac1fb8e12", func := "cubit/cubitlaw13.NatureStands", spec := "natureStands", unfollowed := true, recurses := true, apart := false, narrowed := true }
def NatureStandsUptoSaid : Prop := natureStandsUptoRow.holds Try.pinned (OpenSpec.upto natureStandsSpec)

/-- 'cubitlaw13.NatureFinds', WHERE WHAT IT READS IS OF BULK AT MOST 1048576: true; the input reads as it did. -/
def natureFindsUptoRow : OpenClaim := { program := "ytemgddekbdifeaa", sum := "403a73e9fcf4caff86deda691941a89cfb947eded61a7ede222deb8ac1fb8e12", func := "cubit/cubitlaw13.NatureFinds", spec := "natureFinds", unfollowed := true, recurses := true, apart := false, narrowed := true }
def NatureFindsUptoSaid : Prop := natureFindsUptoRow.holds Try.pinned (OpenSpec.upto natureFindsSpec)

/-- 'cubitlaw12.TempsStands', WHERE WHAT IT READS IS OF BULK AT MOST 1048576: true; the input reads as it did. -/
def tempsStandsUptoRow : OpenClaim := { program := "ytemgddekbdifeaa", sum := "403a73e9fcf4caff86deda691941a89cfb947eded61a7ede222deb8ac1fb8e12", func := "cubit/cubitlaw12.TempsStands", spec := "tempsStands", unfollowed := true, recurses := true, apart := false, narrowed := true }
def TempsStandsUptoSaid : Prop := tempsStandsUptoRow.holds Try.pinned (OpenSpec.upto tempsStandsSpec)

end Rows
end Go.Proofs.Ytemgddekbdifeaa

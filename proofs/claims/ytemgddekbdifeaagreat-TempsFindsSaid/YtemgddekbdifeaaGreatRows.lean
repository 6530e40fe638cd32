/-
  No cell of these rows narrows 'for every input' (looked for: loops, veiled, ifaces, maps, wideKeys, modest, calm, conditions, laid).
  DERIVED. THE GIVEN ROWS OF THIS SEAT. 8 by the template 'for every input the law returns true; each argument reads behind the call as it read before'; 0 by the template 'total and deterministic' (their statements: YtemgddekbdifeaaGreatTotals.lean).
  GIVEN WITH THE SEED: the statements are not yours to turn. If you find one false, say at which input.
  Laid BY PROGRAM, IN A SANDBOX (cutbox-rows.mjs): the forced cells as the released guide's own fill.sh prints them over the translation 37cd52da10e7f4ca… (all of the seat's roots in one cut). By AI agents, Wed Nov 11 2026. No macro, syntax, notation, axiom, sorry.
-/
import Derived.Test.YtemgddekbdifeaaGreatChecked
import GoSem.Claim
import GoSem.ClaimJoined
import GoSem.ClaimMapViews
import Derived.JoinedTies
import Derived.KernelRfl
namespace Go.Proofs.YtemgddekbdifeaaGreat
/- THE CELL 'sum', in the pinned program and in every row, IS THE sha256 OF THE DUMP (.gsa) THAT YtemgddekbdifeaaGreatProg.lean LOADS. Nothing in Lean hashes anything: it is a label: what it is worth is what the hold of that sum in a sandbox is worth. -/
noncomputable def Tryz.pinned : Pinned := { name := "ytemgddekbdifeaagreat", sum := "37cd52da10e7f4ca3d098044e696ff030b008ae9316c4c9d85806004dbf0d855", checked := Tryz.checked }
namespace Rows
def none {H : Type} : Left H := { results := [], args := [] }

/-- 'cubitlaw13.NatureMade': WHATEVER THE INPUT: true; the input reads as it did. -/
def natureMadeSpec : ChangeSpec := { name := "natureMade", fn := fun _ => fun
  | [] => { results := [.lit (.bool true)], args := [] }
  | _ => none }
def natureMadeRow : OpenClaim := { program := "ytemgddekbdifeaagreat", sum := "37cd52da10e7f4ca3d098044e696ff030b008ae9316c4c9d85806004dbf0d855", func := "cubit/cubitlaw13.NatureMade", spec := "natureMade", unfollowed := true, recurses := true, apart := false }
def NatureMadeSaid : Prop := natureMadeRow.holds Tryz.pinned (OpenSpec.ofChange natureMadeSpec)

/-- ITS FALSE NEIGHBOUR: 'it returns false'. Refute it at one input. -/
def natureMadeWrong : ChangeSpec := { name := "natureMade", fn := fun _ => fun
  | [] => { results := [.lit (.bool false)], args := [] }
  | _ => none }
def NatureMadeWrongFalsely : Prop := natureMadeRow.holds Tryz.pinned (OpenSpec.ofChange natureMadeWrong)

/-- 'cubitlaw11.TradStands': WHATEVER THE INPUT: true; the input reads as it did. -/
def tradStandsSpec : ChangeSpec := { name := "tradStands", fn := fun _ => fun
  | [] => { results := [.lit (.bool true)], args := [] }
  | _ => none }
def tradStandsRow : OpenClaim := { program := "ytemgddekbdifeaagreat", sum := "37cd52da10e7f4ca3d098044e696ff030b008ae9316c4c9d85806004dbf0d855", func := "cubit/cubitlaw11.TradStands", spec := "tradStands", unfollowed := true, recurses := true, apart := false }
def TradStandsSaid : Prop := tradStandsRow.holds Tryz.pinned (OpenSpec.ofChange tradStandsSpec)

/-- ITS FALSE NEIGHBOUR: 'it returns false'. Refute it at one input. -/
def tradStandsWrong : ChangeSpec := { name := "tradStands", fn := fun _ => fun
  | [] => { results := [.lit (.bool false)], args := [] }
  | _ => none }
def TradStandsWrongFalsely : Prop := tradStandsRow.holds Tryz.pinned (OpenSpec.ofChange tradStandsWrong)

/-- 'cubitlaw11.TradFinds': WHATEVER THE INPUT: true; the input reads as it did. -/
def tradFindsSpec : ChangeSpec := { name := "tradFinds", fn := fun _ => fun
  | [d] => { results := [.lit (.bool true)], args := [d] }
  | _ => none }
def tradFindsRow : OpenClaim := { program := "ytemgddekbdifeaagreat", sum := "37cd52da10e7f4ca3d098044e696ff030b008ae9316c4c9d85806004dbf0d855", func := "cubit/cubitlaw11.TradFinds", spec := "tradFinds", unfollowed := true, recurses := true, apart := false }
def TradFindsSaid : Prop := tradFindsRow.holds Tryz.pinned (OpenSpec.ofChange tradFindsSpec)

/-- ITS FALSE NEIGHBOUR: 'it returns false'. Refute it at one input. -/
def tradFindsWrong : ChangeSpec := { name := "tradFinds", fn := fun _ => fun
  | [d] => { results := [.lit (.bool false)], args := [d] }
  | _ => none }
def TradFindsWrongFalsely : Prop := tradFindsRow.holds Tryz.pinned (OpenSpec.ofChange tradFindsWrong)

/-- 'cubitlaw11.TradMultiples': WHATEVER THE INPUT: true; the input reads as it did. -/
def tradMultiplesSpec : ChangeSpec := { name := "tradMultiples", fn := fun _ => fun
  | [] => { results := [.lit (.bool true)], args := [] }
  | _ => none }
def tradMultiplesRow : OpenClaim := { program := "ytemgddekbdifeaagreat", sum := "37cd52da10e7f4ca3d098044e696ff030b008ae9316c4c9d85806004dbf0d855", func := "cubit/cubitlaw11.TradMultiples", spec := "tradMultiples", unfollowed := true, recurses := true, apart := false }
def TradMultiplesSaid : Prop := tradMultiplesRow.holds Tryz.pinned (OpenSpec.ofChange tradMultiplesSpec)

/-- ITS FALSE NEIGHBOUR: 'it returns false'. Refute it at one input. -/
def tradMultiplesWrong : ChangeSpec := { name := "tradMultiples", fn := fun _ => fun
  | [] => { results := [.lit (.bool false)], args := [] }
  | _ => none }
def TradMultiplesWrongFalsely : Prop := tradMultiplesRow.holds Tryz.pinned (OpenSpec.ofChange tradMultiplesWrong)

/-- 'cubitlaw12.TempsGroup': WHATEVER THE INPUT: true; the input reads as it did. -/
def tempsGroupSpec : ChangeSpec := { name := "tempsGroup", fn := fun _ => fun
  | [d1, d2, d3, d4] => { results := [.lit (.bool true)], args := [d1, d2, d3, d4] }
  | _ => none }
def tempsGroupRow : OpenClaim := { program := "ytemgddekbdifeaagreat", sum := "37cd52da10e7f4ca3d098044e696ff030b008ae9316c4c9d85806004dbf0d855", func := "cubit/cubitlaw12.TempsGroup", spec := "tempsGroup", unfollowed := true, recurses := true, apart := false }
def TempsGroupSaid : Prop := tempsGroupRow.holds Tryz.pinned (OpenSpec.ofChange tempsGroupSpec)

/-- ITS FALSE NEIGHBOUR: 'it returns false'. Refute it at one input. -/
def tempsGroupWrong : ChangeSpec := { name := "tempsGroup", fn := fun _ => fun
  | [d1, d2, d3, d4] => { results := [.lit (.bool false)], args := [d1, d2, d3, d4] }
  | _ => none }
def TempsGroupWrongFalsely : Prop := tempsGroupRow.holds Tryz.pinned (OpenSpec.ofChange tempsGroupWrong)

/-- 'cubitlaw12.TempsTurns': WHATEVER THE INPUT: true; the input reads as it did. -/
def tempsTurnsSpec : ChangeSpec := { name := "tempsTurns", fn := fun _ => fun
  | [d1, d2, d3] => { results := [.lit (.bool true)], args := [d1, d2, d3] }
  | _ => none }
def tempsTurnsRow : OpenClaim := { program := "ytemgddekbdifeaagreat", sum := "37cd52da10e7f4ca3d098044e696ff030b008ae9316c4c9d85806004dbf0d855", func := "cubit/cubitlaw12.TempsTurns", spec := "tempsTurns", unfollowed := true, recurses := true, apart := false }
def TempsTurnsSaid : Prop := tempsTurnsRow.holds Tryz.pinned (OpenSpec.ofChange tempsTurnsSpec)

/-- ITS FALSE NEIGHBOUR: 'it returns false'. Refute it at one input. -/
def tempsTurnsWrong : ChangeSpec := { name := "tempsTurns", fn := fun _ => fun
  | [d1, d2, d3] => { results := [.lit (.bool false)], args := [d1, d2, d3] }
  | _ => none }
def TempsTurnsWrongFalsely : Prop := tempsTurnsRow.holds Tryz.pinned (OpenSpec.ofChange tempsTurnsWrong)

/-- 'cubitlaw12.TempsSteps': WHATEVER THE INPUT: true; the input reads as it did. -/
def tempsStepsSpec : ChangeSpec := { name := "tempsSteps", fn := fun _ => fun
  | [d1, d2, d3, d4] => { results := [.lit (.bool true)], args := [d1, d2, d3, d4] }
  | _ => none }
def tempsStepsRow : OpenClaim := { program := "ytemgddekbdifeaagreat", sum := "37cd52da10e7f4ca3d098044e696ff030b008ae9316c4c9d85806004dbf0d855", func := "cubit/cubitlaw12.TempsSteps", spec := "tempsSteps", unfollowed := true, recurses := true, apart := false }
def TempsStepsSaid : Prop := tempsStepsRow.holds Tryz.pinned (OpenSpec.ofChange tempsStepsSpec)

/-- ITS FALSE NEIGHBOUR: 'it returns false'. Refute it at one input. -/
def tempsStepsWrong : ChangeSpec := { name := "tempsSteps", fn := fun _ => fun
  | [d1, d2, d3, d4] => { results := [.lit (.bool false)], args := [d1, d2, d3, d4] }
  | _ => none }
def TempsStepsWrongFalsely : Prop := tempsStepsRow.holds Tryz.pinned (OpenSpec.ofChange tempsStepsWrong)

/-- 'cubitlaw12.TempsFinds': WHATEVER THE INPUT: true; the input reads as it did. -/
def tempsFindsSpec : ChangeSpec := { name := "tempsFinds", fn := fun _ => fun
  | [d1, d2] => { results := [.lit (.bool true)], args := [d1, d2] }
  | _ => none }
def tempsFindsRow : OpenClaim := { program := "ytemgddekbdifeaagreat", sum := "37cd52da10e7f4ca3d098044e696ff030b008ae9316c4c9d85806004dbf0d855", func := "cubit/cubitlaw12.TempsFinds", spec := "tempsFinds", unfollowed := true, recurses := true, apart := false }
def TempsFindsSaid : Prop := tempsFindsRow.holds Tryz.pinned (OpenSpec.ofChange tempsFindsSpec)

/-- ITS FALSE NEIGHBOUR: 'it returns false'. Refute it at one input. -/
def tempsFindsWrong : ChangeSpec := { name := "tempsFinds", fn := fun _ => fun
  | [d1, d2] => { results := [.lit (.bool false)], args := [d1, d2] }
  | _ => none }
def TempsFindsWrongFalsely : Prop := tempsFindsRow.holds Tryz.pinned (OpenSpec.ofChange tempsFindsWrong)

/- THE SECOND FORM. 'bulk': how many values and letters a reading holds, each counted each time it is reached (what is shared counts as often as it is met; a slice's spare places count too). A statement '..UptoSaid' is the law's where the arguments, and the package variables that the reading takes, are together of bulk at most 1048576: NARROWER than '..Said'. Prove '..Said' where nothing that the law and all that it calls make is longer than what came in: it says more and counts as full. Else prove '..UptoSaid'. A law counts once. -/
mutual
def uptoBulk {H : Type} : DataW H → Nat
  | .lit (.string bytes) => bytes.length + 1
  | .lit _ => 1
  | .nil => 1
  | .ptr d => uptoBulk d + 1
  | .slice elems spare => uptoBulkAll elems + uptoBulkAll spare + 1
  | .agg parts => uptoBulkAll parts + 1
  | .iface _ d => uptoBulk d + 1
  | .map entries => uptoBulkEntries entries + 1
  | .held _ => 1
def uptoBulkAll {H : Type} : List (DataW H) → Nat
  | [] => 0
  | d :: r => uptoBulk d + uptoBulkAll r
def uptoBulkEntries {H : Type} : List (Lit × DataW H) → Nat
  | [] => 0
  | x :: r => uptoBulkEntry x + uptoBulkEntries r
def uptoBulkEntry {H : Type} : Lit × DataW H → Nat
  | (.string bytes, d) => bytes.length + uptoBulk d + 1
  | (_, d) => uptoBulk d + 1
 end
def uptoSmall : (H : Type) → List (DataW H) → Bool := fun _ ds => decide (uptoBulkAll ds ≤ 1048576)
def OpenSpec.upto (s : _root_.Go.ChangeSpec) : _root_.Go.OpenSpec := { _root_.Go.OpenSpec.ofChange s with cond := some uptoSmall }

/-- 'cubitlaw13.NatureMade', WHERE WHAT IT READS IS OF BULK AT MOST 1048576: true; the input reads as it did. -/
def natureMadeUptoRow : OpenClaim := { program := "ytemgddekbdifeaagreat", sum := "37cd52da10e7f4ca3d098044e696ff030b008ae9316c4c9d85806004dbf0d855", func := "cubit/cubitlaw13.NatureMade", spec := "natureMade", unfollowed := true, recurses := true, apart := false, narrowed := true }
def NatureMadeUptoSaid : Prop := natureMadeUptoRow.holds Tryz.pinned (OpenSpec.upto natureMadeSpec)

/-- 'cubitlaw11.TradStands', WHERE WHAT IT READS IS OF BULK AT MOST 1048576: true; the input reads as it did. -/
def tradStandsUptoRow : OpenClaim := { program := "ytemgddekbdifeaagreat", sum := "37cd52da10e7f4ca3d098044e696ff030b008ae9316c4c9d85806004dbf0d855", func := "cubit/cubitlaw11.TradStands", spec := "tradStands", unfollowed := true, recurses := true, apart := false, narrowed := true }
def TradStandsUptoSaid : Prop := tradStandsUptoRow.holds Tryz.pinned (OpenSpec.upto tradStandsSpec)

/-- 'cubitlaw11.TradFinds', WHERE WHAT IT READS IS OF BULK AT MOST 1048576: true; the input reads as it did. -/
def tradFindsUptoRow : OpenClaim := { program := "ytemgddekbdifeaagreat", sum := "37cd52da10e7f4ca3d098044e696ff030b008ae9316c4c9d85806004dbf0d855", func := "cubit/cubitlaw11.TradFinds", spec := "tradFinds", unfollowed := true, recurses := true, apart := false, narrowed := true }
def TradFindsUptoSaid : Prop := tradFindsUptoRow.holds Tryz.pinned (OpenSpec.upto tradFindsSpec)

/-- 'cubitlaw11.TradMultiples', WHERE WHAT IT READS IS OF BULK AT MOST 1048576: true; the input reads as it did. -/
def tradMultiplesUptoRow : OpenClaim := { program := "ytemgddekbdifeaagreat", sum := "37cd52da10e7f4ca3d098044e696ff030b008ae9316c4c9d85806004dbf0d855", func := "cubit/cubitlaw11.TradMultiples", spec := "tradMultiples", unfollowed := true, recurses := true, apart := false, narrowed := true }
def TradMultiplesUptoSaid : Prop := tradMultiplesUptoRow.holds Tryz.pinned (OpenSpec.upto tradMultiplesSpec)

/-- 'cubitlaw12.TempsGroup', WHERE WHAT IT READS IS OF BULK AT MOST 1048576: true; the input reads as it did. -/
def tempsGroupUptoRow : OpenClaim := { program := "ytemgddekbdifeaagreat", sum := "37cd52da10e7f4ca3d098044e696ff030b008ae9316c4c9d85806004dbf0d855", func := "cubit/cubitlaw12.TempsGroup", spec := "tempsGroup", unfollowed := true, recurses := true, apart := false, narrowed := true }
def TempsGroupUptoSaid : Prop := tempsGroupUptoRow.holds Tryz.pinned (OpenSpec.upto tempsGroupSpec)

/-- 'cubitlaw12.TempsTurns', WHERE WHAT IT READS IS OF BULK AT MOST 1048576: true; the input reads as it did. -/
def tempsTurnsUptoRow : OpenClaim := { program := "ytemgddekbdifeaagreat", sum := "37cd52da10e7f4ca3d098044e696ff030b008ae9316c4c9d85806004dbf0d855", func := "cubit/cubitlaw12.TempsTurns", spec := "tempsTurns", unfollowed := true, recurses := true, apart := false, narrowed := true }
def TempsTurnsUptoSaid : Prop := tempsTurnsUptoRow.holds Tryz.pinned (OpenSpec.upto tempsTurnsSpec)

/-- 'cubitlaw12.TempsSteps', WHERE WHAT IT READS IS OF BULK AT MOST 1048576: true; the input reads as it did. -/
def tempsStepsUptoRow : OpenClaim := { program := "ytemgddekbdifeaagreat", sum := "37cd52da10e7f4ca3d098044e696ff030b008ae9316c4c9d85806004dbf0d855", func := "cubit/cubitlaw12.TempsSteps", spec := "tempsSteps", unfollowed := true, recurses := true, apart := false, narrowed := true }
def TempsStepsUptoSaid : Prop := tempsStepsUptoRow.holds Tryz.pinned (OpenSpec.upto tempsStepsSpec)

/-- 'cubitlaw12.TempsFinds', WHERE WHAT IT READS IS OF BULK AT MOST 1048576: true; the input reads as it did. -/
def tempsFindsUptoRow : OpenClaim := { program := "ytemgddekbdifeaagreat", sum := "37cd52da10e7f4ca3d098044e696ff030b008ae9316c4c9d85806004dbf0d855", func := "cubit/cubitlaw12.TempsFinds", spec := "tempsFinds", unfollowed := true, recurses := true, apart := false, narrowed := true }
def TempsFindsUptoSaid : Prop := tempsFindsUptoRow.holds Tryz.pinned (OpenSpec.upto tempsFindsSpec)

end Rows
end Go.Proofs.YtemgddekbdifeaaGreat

/-
  No cell of these rows narrows 'for every input' (looked for: loops, veiled, ifaces, maps, wideKeys, modest, calm, conditions, laid).
  DERIVED. THE GIVEN ROWS OF THIS SEAT. 3 by the template 'for every input the law returns true; each argument reads behind the call as it read before'; 0 by the template 'total and deterministic' (their statements: YtlkgeifmppadmaaGreatTotals.lean).
  GIVEN WITH THE SEED: the statements are not yours to turn. If you find one false, say at which input.
  Laid BY PROGRAM, IN A SANDBOX (cutbox-rows.mjs): the forced cells as the released guide's own fill.sh prints them over the translation aa39075fd6d245ff… (all of the seat's roots in one cut). By AI agents, Wed Nov 11 2026. No macro, syntax, notation, axiom, sorry.
-/
import Derived.Test.YtlkgeifmppadmaaGreatChecked
import GoSem.Claim
import GoSem.ClaimJoined
import GoSem.ClaimMapViews
import Derived.JoinedTies
import Derived.KernelRfl
namespace Go.Proofs.YtlkgeifmppadmaaGreat
/- THE CELL 'sum', in the pinned program and in every row, IS THE sha256 OF THE DUMP (.gsa) THAT YtlkgeifmppadmaaGreatProg.lean LOADS. Nothing in Lean hashes anything: it is a label: what it is worth is what the hold of that sum in a sandbox is worth. -/
noncomputable def Tryz.pinned : Pinned := { name := "ytlkgeifmppadmaagreat", sum := "aa39075fd6d245ff89495039fbfa4e2dea39d58d4546e07f45b2a6033e19fcdb", checked := Tryz.checked }
namespace Rows
def none {H : Type} : Left H := { results := [], args := [] }

/-- 'broadsheetlaw19.FeederDones': WHATEVER THE INPUT: true; the input reads as it did. -/
def feederDonesSpec : ChangeSpec := { name := "feederDones", fn := fun _ => fun
  | [d1, d2, d3, d4] => { results := [.lit (.bool true)], args := [d1, d2, d3, d4] }
  | _ => none }
def feederDonesRow : OpenClaim := { program := "ytlkgeifmppadmaagreat", sum := "aa39075fd6d245ff89495039fbfa4e2dea39d58d4546e07f45b2a6033e19fcdb", func := "broadsheet/broadsheetlaw19.FeederDones", spec := "feederDones", unfollowed := true, recurses := true, apart := false }
def FeederDonesSaid : Prop := feederDonesRow.holds Tryz.pinned (OpenSpec.ofChange feederDonesSpec)

/-- ITS FALSE NEIGHBOUR: 'it returns false'. Refute it at one input. -/
def feederDonesWrong : ChangeSpec := { name := "feederDones", fn := fun _ => fun
  | [d1, d2, d3, d4] => { results := [.lit (.bool false)], args := [d1, d2, d3, d4] }
  | _ => none }
def FeederDonesWrongFalsely : Prop := feederDonesRow.holds Tryz.pinned (OpenSpec.ofChange feederDonesWrong)

/-- 'broadsheetlaw19.FeederNumbers': WHATEVER THE INPUT: true; the input reads as it did. -/
def feederNumbersSpec : ChangeSpec := { name := "feederNumbers", fn := fun _ => fun
  | [] => { results := [.lit (.bool true)], args := [] }
  | _ => none }
def feederNumbersRow : OpenClaim := { program := "ytlkgeifmppadmaagreat", sum := "aa39075fd6d245ff89495039fbfa4e2dea39d58d4546e07f45b2a6033e19fcdb", func := "broadsheet/broadsheetlaw19.FeederNumbers", spec := "feederNumbers", unfollowed := true, recurses := true, apart := false }
def FeederNumbersSaid : Prop := feederNumbersRow.holds Tryz.pinned (OpenSpec.ofChange feederNumbersSpec)

/-- ITS FALSE NEIGHBOUR: 'it returns false'. Refute it at one input. -/
def feederNumbersWrong : ChangeSpec := { name := "feederNumbers", fn := fun _ => fun
  | [] => { results := [.lit (.bool false)], args := [] }
  | _ => none }
def FeederNumbersWrongFalsely : Prop := feederNumbersRow.holds Tryz.pinned (OpenSpec.ofChange feederNumbersWrong)

/-- 'broadsheetlaw19.FeederPlays': WHATEVER THE INPUT: true; the input reads as it did. -/
def feederPlaysSpec : ChangeSpec := { name := "feederPlays", fn := fun _ => fun
  | [d1, d2, d3, d4] => { results := [.lit (.bool true)], args := [d1, d2, d3, d4] }
  | _ => none }
def feederPlaysRow : OpenClaim := { program := "ytlkgeifmppadmaagreat", sum := "aa39075fd6d245ff89495039fbfa4e2dea39d58d4546e07f45b2a6033e19fcdb", func := "broadsheet/broadsheetlaw19.FeederPlays", spec := "feederPlays", unfollowed := true, recurses := true, apart := false }
def FeederPlaysSaid : Prop := feederPlaysRow.holds Tryz.pinned (OpenSpec.ofChange feederPlaysSpec)

/-- ITS FALSE NEIGHBOUR: 'it returns false'. Refute it at one input. -/
def feederPlaysWrong : ChangeSpec := { name := "feederPlays", fn := fun _ => fun
  | [d1, d2, d3, d4] => { results := [.lit (.bool false)], args := [d1, d2, d3, d4] }
  | _ => none }
def FeederPlaysWrongFalsely : Prop := feederPlaysRow.holds Tryz.pinned (OpenSpec.ofChange feederPlaysWrong)

/- THE SECOND FORM. 'bulk': how many values and letters a reading holds, each counted each time it is reached (what is shared counts as often as it is met; a slice's spare places count too). A statement '..UptoSaid' is the law's where the arguments, and the package variables that the reading takes, are together of bulk at most 1048576: NARROWER than '..Said'. Prove '..Said' where nothing that the law and all that it calls make is longer than what came in: it says more and counts as full. Else prove '..UptoSaid'. A law counts once. -/
mutual
def uptoBulk {H : Type} : DataW H → Nat
  | .lit (.string bytes) => bytes.length + 1
  | .lit _ => 1
  | .nil => 1
  | .ptr d => uptoBulk d + 1
  | .slice elems spare => uptoBulkAll elems + uptoBulkAll spare + 1
  | .agg parts => uptoBulkAll parts + 1
  | .iface _ d => uptoBulk d + 1
  | .map entries => uptoBulkEntries entries + 1
  | .held _ => 1
def uptoBulkAll {H : Type} : List (DataW H) → Nat
  | [] => 0
  | d :: r => uptoBulk d + uptoBulkAll r
def uptoBulkEntries {H : Type} : List (Lit × DataW H) → Nat
  | [] => 0
  | x :: r => uptoBulkEntry x + uptoBulkEntries r
def uptoBulkEntry {H : Type} : Lit × DataW H → Nat
  | (.string bytes, d) => bytes.length + uptoBulk d + 1
  | (_, d) => uptoBulk d + 1
 end
def uptoSmall : (H : Type) → List (DataW H) → Bool := fun _ ds => decide (uptoBulkAll ds ≤ 1048576)
def OpenSpec.upto (s : _root_.Go.ChangeSpec) : _root_.Go.OpenSpec := { _root_.Go.OpenSpec.ofChange s with cond := some uptoSmall }

/-- 'broadsheetlaw19.FeederDones', WHERE WHAT IT READS IS OF BULK AT MOST 1048576: true; the input reads as it did. -/
def feederDonesUptoRow : OpenClaim := { program := "ytlkgeifmppadmaagreat", sum := "aa39075fd6d245ff89495039fbfa4e2dea39d58d4546e07f45b2a6033e19fcdb", func := "broadsheet/broadsheetlaw19.FeederDones", spec := "feederDones", unfollowed := true, recurses := true, apart := false, narrowed := true }
def FeederDonesUptoSaid : Prop := feederDonesUptoRow.holds Tryz.pinned (OpenSpec.upto feederDonesSpec)

/-- 'broadsheetlaw19.FeederNumbers', WHERE WHAT IT READS IS OF BULK AT MOST 1048576: true; the input reads as it did. -/
def feederNumbersUptoRow : OpenClaim := { program := "ytlkgeifmppadmaagreat", sum := "aa39075fd6d245ff89495039fbfa4e2dea39d58d4546e07f45b2a6033e19fcdb", func := "broadsheet/broadsheetlaw19.FeederNumbers", spec := "feederNumbers", unfollowed := true, recurses := true, apart := false, narrowed := true }
def FeederNumbersUptoSaid : Prop := feederNumbersUptoRow.holds Tryz.pinned (OpenSpec.upto feederNumbersSpec)

/-- 'broadsheetlaw19.FeederPlays', WHERE WHAT IT READS IS OF BULK AT MOST 1048576: true; the input reads as it did. -/
def feederPlaysUptoRow : OpenClaim := { program := "ytlkgeifmppadmaagreat", sum := "aa39075fd6d245ff89495039fbfa4e2dea39d58d4546e07f45b2a6033e19fcdb", func := "broadsheet/broadsheetlaw19.FeederPlays", spec := "feederPlays", unfollowed := true, recurses := true, apart := false, narrowed := true }
def FeederPlaysUptoSaid : Prop := feederPlaysUptoRow.holds Tryz.pinned (OpenSpec.upto feederPlaysSpec)

end Rows
end Go.Proofs.YtlkgeifmppadmaaGreat

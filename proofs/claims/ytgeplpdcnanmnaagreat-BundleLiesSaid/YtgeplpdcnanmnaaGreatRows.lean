/-
  No cell of these rows narrows 'for every input' (looked for: loops, veiled, ifaces, maps, wideKeys, modest, calm, conditions, laid).
  DERIVED. THE GIVEN ROWS OF THIS SEAT. 6 by the template 'for every input the law returns true; each argument reads behind the call as it read before'; 0 by the template 'total and deterministic' (their statements: YtgeplpdcnanmnaaGreatTotals.lean).
  GIVEN WITH THE SEED: the statements are not yours to turn. If you find one false, say at which input.
  Laid BY PROGRAM, IN A SANDBOX (cutbox-rows.mjs): the forced cells as the released guide's own fill.sh prints them over the translation b14cb1b67c7c2a31… (all of the seat's roots in one cut). By AI agents, Wed Nov 11 2026. No macro, syntax, notation, axiom, sorry.
-/
import Derived.Test.YtgeplpdcnanmnaaGreatChecked
import GoSem.Claim
import GoSem.ClaimJoined
import GoSem.ClaimMapViews
import Derived.JoinedTies
import Derived.KernelRfl
namespace Go.Proofs.YtgeplpdcnanmnaaGreat
/- THE CELL 'sum', in the pinned program and in every row, IS THE sha256 OF THE DUMP (.gsa) THAT YtgeplpdcnanmnaaGreatProg.lean LOADS. Nothing in Lean hashes anything: it is a label: what it is worth is what the hold of that sum in a sandbox is worth. -/
noncomputable def Tryz.pinned : Pinned := { name := "ytgeplpdcnanmnaagreat", sum := "b14cb1b67c7c2a3107a29f6e459b9391675c777aa7951c0a2cf97fed3c2f2d45", checked := Tryz.checked }
namespace Rows
def none {H : Type} : Left H := { results := [], args := [] }

/-- 'broadsheetlaw20.BundleLies': WHATEVER THE INPUT: true; the input reads as it did. -/
def bundleLiesSpec : ChangeSpec := { name := "bundleLies", fn := fun _ => fun
  | [d1, d2, d3, d4, d5, d6] => { results := [.lit (.bool true)], args := [d1, d2, d3, d4, d5, d6] }
  | _ => none }
def bundleLiesRow : OpenClaim := { program := "ytgeplpdcnanmnaagreat", sum := "b14cb1b67c7c2a3107a29f6e459b9391675c777aa7951c0a2cf97fed3c2f2d45", func := "broadsheet/broadsheetlaw20.BundleLies", spec := "bundleLies", unfollowed := true, recurses := true, apart := false }
def BundleLiesSaid : Prop := bundleLiesRow.holds Tryz.pinned (OpenSpec.ofChange bundleLiesSpec)

/-- ITS FALSE NEIGHBOUR: 'it returns false'. Refute it at one input. -/
def bundleLiesWrong : ChangeSpec := { name := "bundleLies", fn := fun _ => fun
  | [d1, d2, d3, d4, d5, d6] => { results := [.lit (.bool false)], args := [d1, d2, d3, d4, d5, d6] }
  | _ => none }
def BundleLiesWrongFalsely : Prop := bundleLiesRow.holds Tryz.pinned (OpenSpec.ofChange bundleLiesWrong)

/-- 'broadsheetlaw20.BundleQuorums': WHATEVER THE INPUT: true; the input reads as it did. -/
def bundleQuorumsSpec : ChangeSpec := { name := "bundleQuorums", fn := fun _ => fun
  | [d1, d2] => { results := [.lit (.bool true)], args := [d1, d2] }
  | _ => none }
def bundleQuorumsRow : OpenClaim := { program := "ytgeplpdcnanmnaagreat", sum := "b14cb1b67c7c2a3107a29f6e459b9391675c777aa7951c0a2cf97fed3c2f2d45", func := "broadsheet/broadsheetlaw20.BundleQuorums", spec := "bundleQuorums", unfollowed := true, recurses := true, apart := false }
def BundleQuorumsSaid : Prop := bundleQuorumsRow.holds Tryz.pinned (OpenSpec.ofChange bundleQuorumsSpec)

/-- ITS FALSE NEIGHBOUR: 'it returns false'. Refute it at one input. -/
def bundleQuorumsWrong : ChangeSpec := { name := "bundleQuorums", fn := fun _ => fun
  | [d1, d2] => { results := [.lit (.bool false)], args := [d1, d2] }
  | _ => none }
def BundleQuorumsWrongFalsely : Prop := bundleQuorumsRow.holds Tryz.pinned (OpenSpec.ofChange bundleQuorumsWrong)

/-- 'broadsheetlaw20.BundleNumbers': WHATEVER THE INPUT: true; the input reads as it did. -/
def bundleNumbersSpec : ChangeSpec := { name := "bundleNumbers", fn := fun _ => fun
  | [] => { results := [.lit (.bool true)], args := [] }
  | _ => none }
def bundleNumbersRow : OpenClaim := { program := "ytgeplpdcnanmnaagreat", sum := "b14cb1b67c7c2a3107a29f6e459b9391675c777aa7951c0a2cf97fed3c2f2d45", func := "broadsheet/broadsheetlaw20.BundleNumbers", spec := "bundleNumbers", unfollowed := true, recurses := true, apart := false }
def BundleNumbersSaid : Prop := bundleNumbersRow.holds Tryz.pinned (OpenSpec.ofChange bundleNumbersSpec)

/-- ITS FALSE NEIGHBOUR: 'it returns false'. Refute it at one input. -/
def bundleNumbersWrong : ChangeSpec := { name := "bundleNumbers", fn := fun _ => fun
  | [] => { results := [.lit (.bool false)], args := [] }
  | _ => none }
def BundleNumbersWrongFalsely : Prop := bundleNumbersRow.holds Tryz.pinned (OpenSpec.ofChange bundleNumbersWrong)

/-- 'broadsheetlaw20.BundleTells': WHATEVER THE INPUT: true; the input reads as it did. -/
def bundleTellsSpec : ChangeSpec := { name := "bundleTells", fn := fun _ => fun
  | [d1, d2, d3, d4, d5, d6] => { results := [.lit (.bool true)], args := [d1, d2, d3, d4, d5, d6] }
  | _ => none }
def bundleTellsRow : OpenClaim := { program := "ytgeplpdcnanmnaagreat", sum := "b14cb1b67c7c2a3107a29f6e459b9391675c777aa7951c0a2cf97fed3c2f2d45", func := "broadsheet/broadsheetlaw20.BundleTells", spec := "bundleTells", unfollowed := true, recurses := true, apart := false }
def BundleTellsSaid : Prop := bundleTellsRow.holds Tryz.pinned (OpenSpec.ofChange bundleTellsSpec)

/-- ITS FALSE NEIGHBOUR: 'it returns false'. Refute it at one input. -/
def bundleTellsWrong : ChangeSpec := { name := "bundleTells", fn := fun _ => fun
  | [d1, d2, d3, d4, d5, d6] => { results := [.lit (.bool false)], args := [d1, d2, d3, d4, d5, d6] }
  | _ => none }
def BundleTellsWrongFalsely : Prop := bundleTellsRow.holds Tryz.pinned (OpenSpec.ofChange bundleTellsWrong)

/-- 'broadsheetlaw20.BundleCuts': WHATEVER THE INPUT: true; the input reads as it did. -/
def bundleCutsSpec : ChangeSpec := { name := "bundleCuts", fn := fun _ => fun
  | [d1, d2, d3, d4] => { results := [.lit (.bool true)], args := [d1, d2, d3, d4] }
  | _ => none }
def bundleCutsRow : OpenClaim := { program := "ytgeplpdcnanmnaagreat", sum := "b14cb1b67c7c2a3107a29f6e459b9391675c777aa7951c0a2cf97fed3c2f2d45", func := "broadsheet/broadsheetlaw20.BundleCuts", spec := "bundleCuts", unfollowed := true, recurses := true, apart := false }
def BundleCutsSaid : Prop := bundleCutsRow.holds Tryz.pinned (OpenSpec.ofChange bundleCutsSpec)

/-- ITS FALSE NEIGHBOUR: 'it returns false'. Refute it at one input. -/
def bundleCutsWrong : ChangeSpec := { name := "bundleCuts", fn := fun _ => fun
  | [d1, d2, d3, d4] => { results := [.lit (.bool false)], args := [d1, d2, d3, d4] }
  | _ => none }
def BundleCutsWrongFalsely : Prop := bundleCutsRow.holds Tryz.pinned (OpenSpec.ofChange bundleCutsWrong)

/-- 'broadsheetlaw20.BundleMakes': WHATEVER THE INPUT: true; the input reads as it did. -/
def bundleMakesSpec : ChangeSpec := { name := "bundleMakes", fn := fun _ => fun
  | [d1, d2, d3, d4, d5] => { results := [.lit (.bool true)], args := [d1, d2, d3, d4, d5] }
  | _ => none }
def bundleMakesRow : OpenClaim := { program := "ytgeplpdcnanmnaagreat", sum := "b14cb1b67c7c2a3107a29f6e459b9391675c777aa7951c0a2cf97fed3c2f2d45", func := "broadsheet/broadsheetlaw20.BundleMakes", spec := "bundleMakes", unfollowed := true, recurses := true, apart := false }
def BundleMakesSaid : Prop := bundleMakesRow.holds Tryz.pinned (OpenSpec.ofChange bundleMakesSpec)

/-- ITS FALSE NEIGHBOUR: 'it returns false'. Refute it at one input. -/
def bundleMakesWrong : ChangeSpec := { name := "bundleMakes", fn := fun _ => fun
  | [d1, d2, d3, d4, d5] => { results := [.lit (.bool false)], args := [d1, d2, d3, d4, d5] }
  | _ => none }
def BundleMakesWrongFalsely : Prop := bundleMakesRow.holds Tryz.pinned (OpenSpec.ofChange bundleMakesWrong)

/- THE SECOND FORM. 'bulk': how many values and letters a reading holds, each counted each time it is reached (what is shared counts as often as it is met; a slice's spare places count too). A statement '..UptoSaid' is the law's where the arguments, and the package variables that the reading takes, are together of bulk at most 1048576: NARROWER than '..Said'. Prove '..Said' where nothing that the law and all that it calls make is longer than what came in: it says more and counts as full. Else prove '..UptoSaid'. A law counts once. -/
mutual
def uptoBulk {H : Type} : DataW H → Nat
  | .lit (.string bytes) => bytes.length + 1
  | .lit _ => 1
  | .nil => 1
  | .ptr d => uptoBulk d + 1
  | .slice elems spare => uptoBulkAll elems + uptoBulkAll spare + 1
  | .agg parts => uptoBulkAll parts + 1
  | .iface _ d => uptoBulk d + 1
  | .map entries => uptoBulkEntries entries + 1
  | .held _ => 1
def uptoBulkAll {H : Type} : List (DataW H) → Nat
  | [] => 0
  | d :: r => uptoBulk d + uptoBulkAll r
def uptoBulkEntries {H : Type} : List (Lit × DataW H) → Nat
  | [] => 0
  | x :: r => uptoBulkEntry x + uptoBulkEntries r
def uptoBulkEntry {H : Type} : Lit × DataW H → Nat
  | (.string bytes, d) => bytes.length + uptoBulk d + 1
  | (_, d) => uptoBulk d + 1
 end
def uptoSmall : (H : Type) → List (DataW H) → Bool := fun _ ds => decide (uptoBulkAll ds ≤ 1048576)
def OpenSpec.upto (s : _root_.Go.ChangeSpec) : _root_.Go.OpenSpec := { _root_.Go.OpenSpec.ofChange s with cond := some uptoSmall }

/-- 'broadsheetlaw20.BundleLies', WHERE WHAT IT READS IS OF BULK AT MOST 1048576: true; the input reads as it did. -/
def bundleLiesUptoRow : OpenClaim := { program := "ytgeplpdcnanmnaagreat", sum := "b14cb1b67c7c2a3107a29f6e459b9391675c777aa7951c0a2cf97fed3c2f2d45", func := "broadsheet/broadsheetlaw20.BundleLies", spec := "bundleLies", unfollowed := true, recurses := true, apart := false, narrowed := true }
def BundleLiesUptoSaid : Prop := bundleLiesUptoRow.holds Tryz.pinned (OpenSpec.upto bundleLiesSpec)

/-- 'broadsheetlaw20.BundleQuorums', WHERE WHAT IT READS IS OF BULK AT MOST 1048576: true; the input reads as it did. -/
def bundleQuorumsUptoRow : OpenClaim := { program := "ytgeplpdcnanmnaagreat", sum := "b14cb1b67c7c2a3107a29f6e459b9391675c777aa7951c0a2cf97fed3c2f2d45", func := "broadsheet/broadsheetlaw20.BundleQuorums", spec := "bundleQuorums", unfollowed := true, recurses := true, apart := false, narrowed := true }
def BundleQuorumsUptoSaid : Prop := bundleQuorumsUptoRow.holds Tryz.pinned (OpenSpec.upto bundleQuorumsSpec)

/-- 'broadsheetlaw20.BundleNumbers', WHERE WHAT IT READS IS OF BULK AT MOST 1048576: true; the input reads as it did. -/
def bundleNumbersUptoRow : OpenClaim := { program := "ytgeplpdcnanmnaagreat", sum := "b14cb1b67c7c2a3107a29f6e459b9391675c777aa7951c0a2cf97fed3c2f2d45", func := "broadsheet/broadsheetlaw20.BundleNumbers", spec := "bundleNumbers", unfollowed := true, recurses := true, apart := false, narrowed := true }
def BundleNumbersUptoSaid : Prop := bundleNumbersUptoRow.holds Tryz.pinned (OpenSpec.upto bundleNumbersSpec)

/-- 'broadsheetlaw20.BundleTells', WHERE WHAT IT READS IS OF BULK AT MOST 1048576: true; the input reads as it did. -/
def bundleTellsUptoRow : OpenClaim := { program := "ytgeplpdcnanmnaagreat", sum := "b14cb1b67c7c2a3107a29f6e459b9391675c777aa7951c0a2cf97fed3c2f2d45", func := "broadsheet/broadsheetlaw20.BundleTells", spec := "bundleTells", unfollowed := true, recurses := true, apart := false, narrowed := true }
def BundleTellsUptoSaid : Prop := bundleTellsUptoRow.holds Tryz.pinned (OpenSpec.upto bundleTellsSpec)

/-- 'broadsheetlaw20.BundleCuts', WHERE WHAT IT READS IS OF BULK AT MOST 1048576: true; the input reads as it did. -/
def bundleCutsUptoRow : OpenClaim := { program := "ytgeplpdcnanmnaagreat", sum := "b14cb1b67c7c2a3107a29f6e459b9391675c777aa7951c0a2cf97fed3c2f2d45", func := "broadsheet/broadsheetlaw20.BundleCuts", spec := "bundleCuts", unfollowed := true, recurses := true, apart := false, narrowed := true }
def BundleCutsUptoSaid : Prop := bundleCutsUptoRow.holds Tryz.pinned (OpenSpec.upto bundleCutsSpec)

/-- 'broadsheetlaw20.BundleMakes', WHERE WHAT IT READS IS OF BULK AT MOST 1048576: true; the input reads as it did. -/
def bundleMakesUptoRow : OpenClaim := { program := "ytgeplpdcnanmnaagreat", sum := "b14cb1b67c7c2a3107a29f6e459b9391675c777aa7951c0a2cf97fed3c2f2d45", func := "broadsheet/broadsheetlaw20.BundleMakes", spec := "bundleMakes", unfollowed := true, recurses := true, apart := false, narrowed := true }
def BundleMakesUptoSaid : Prop := bundleMakesUptoRow.holds Tryz.pinned (OpenSpec.upto bundleMakesSpec)

end Rows
end Go.Proofs.YtgeplpdcnanmnaaGreat

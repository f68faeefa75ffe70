/-
  No cell of these rows narrows 'for every input' (looked for: loops, veiled, ifaces, maps, wideKeys, modest, calm, conditions, laid).
  DERIVED. THE GIVEN ROWS OF THIS SEAT. 3 by the template 'for every input the law returns true; each argument reads behind the call as it read before'; 0 by the template 'total and deterministic' (their statements: YtlkgeifmppadmaaTotals.lean).
  GIVEN WITH THE SEED: the statements are not yours to turn. If you find one false, say at which input.
  Laid BY PROGRAM, IN A SANDBOX (cutbox-rows.mjs): the forced cells as the released guide's own fill.sh prints them over the translation aa86b4981ee94570… (all of the seat's roots in one cut). By AI agents, Wed Nov 11 2026. No macro, syntax, notation, axiom, sorry.
-/
import Derived.Test.YtlkgeifmppadmaaChecked
import GoSem.Claim
import GoSem.ClaimJoined
import GoSem.ClaimMapViews
import Derived.JoinedTies
import Derived.KernelRfl
namespace Go.Proofs.Ytlkgeifmppadmaa
/- THE CELL 'sum', in the pinned program and in every row, IS THE sha256 OF THE DUMP (.gsa) THAT YtlkgeifmppadmaaProg.lean LOADS. Nothing in Lean hashes anything: it is a label: what it is worth is what the hold of that sum in a sandbox is worth. -/
noncomputable def Try.pinned : Pinned := { name := "ytlkgeifmppadmaa", sum := "aa86b4981ee945700ab719a3e4f3766a575c8c85b86173c6791cf80f54d61c20", checked := Try.checked }
namespace Rows
def none {H : Type} : Left H := { results := [], args := [] }

/-- 'broadsheetlaw19.FeederOffers': WHATEVER THE INPUT: true; the input reads as it did. -/
def feederOffersSpec : ChangeSpec := { name := "feederOffers", fn := fun _ => fun
  | [d1, d2] => { results := [.lit (.bool true)], args := [d1, d2] }
  | _ => none }
def feederOffersRow : OpenClaim := { program := "ytlkgeifmppadmaa", sum := "aa86b4981ee945700ab719a3e4f3766a575c8c85b86173c6791cf80f54d61c20", func := "broadsheet/broadsheetlaw19.FeederOffers", spec := "feederOffers", unfollowed := true, recurses := true, apart := false }
def FeederOffersSaid : Prop := feederOffersRow.holds Try.pinned (OpenSpec.ofChange feederOffersSpec)

/-- ITS FALSE NEIGHBOUR: 'it returns false'. Refute it at one input. -/
def feederOffersWrong : ChangeSpec := { name := "feederOffers", fn := fun _ => fun
  | [d1, d2] => { results := [.lit (.bool false)], args := [d1, d2] }
  | _ => none }
def FeederOffersWrongFalsely : Prop := feederOffersRow.holds Try.pinned (OpenSpec.ofChange feederOffersWrong)

/-- 'broadsheetlaw19.FeederTwins': WHATEVER THE INPUT: true; the input reads as it did. -/
def feederTwinsSpec : ChangeSpec := { name := "feederTwins", fn := fun _ => fun
  | [d1, d2, d3] => { results := [.lit (.bool true)], args := [d1, d2, d3] }
  | _ => none }
def feederTwinsRow : OpenClaim := { program := "ytlkgeifmppadmaa", sum := "aa86b4981ee945700ab719a3e4f3766a575c8c85b86173c6791cf80f54d61c20", func := "broadsheet/broadsheetlaw19.FeederTwins", spec := "feederTwins", unfollowed := true, recurses := true, apart := false }
def FeederTwinsSaid : Prop := feederTwinsRow.holds Try.pinned (OpenSpec.ofChange feederTwinsSpec)

/-- ITS FALSE NEIGHBOUR: 'it returns false'. Refute it at one input. -/
def feederTwinsWrong : ChangeSpec := { name := "feederTwins", fn := fun _ => fun
  | [d1, d2, d3] => { results := [.lit (.bool false)], args := [d1, d2, d3] }
  | _ => none }
def FeederTwinsWrongFalsely : Prop := feederTwinsRow.holds Try.pinned (OpenSpec.ofChange feederTwinsWrong)

/-- 'broadsheetlaw19.FeederAsks': WHATEVER THE INPUT: true; the input reads as it did. -/
def feederAsksSpec : ChangeSpec := { name := "feederAsks", fn := fun _ => fun
  | [d1, d2, d3] => { results := [.lit (.bool true)], args := [d1, d2, d3] }
  | _ => none }
def feederAsksRow : OpenClaim := { program := "ytlkgeifmppadmaa", sum := "aa86b4981ee945700ab719a3e4f3766a575c8c85b86173c6791cf80f54d61c20", func := "broadsheet/broadsheetlaw19.FeederAsks", spec := "feederAsks", unfollowed := true, recurses := true, apart := false }
def FeederAsksSaid : Prop := feederAsksRow.holds Try.pinned (OpenSpec.ofChange feederAsksSpec)

/-- ITS FALSE NEIGHBOUR: 'it returns false'. Refute it at one input. -/
def feederAsksWrong : ChangeSpec := { name := "feederAsks", fn := fun _ => fun
  | [d1, d2, d3] => { results := [.lit (.bool false)], args := [d1, d2, d3] }
  | _ => none }
def FeederAsksWrongFalsely : Prop := feederAsksRow.holds Try.pinned (OpenSpec.ofChange feederAsksWrong)

/- THE SECOND FORM. 'bulk': how many values and letters a reading holds, each counted each time it is reached (what is shared counts as often as it is met; a slice's spare places count too). A statement '..UptoSaid' is the law's where the arguments, and the package variables that the reading takes, are together of bulk at most 1048576: NARROWER than '..Said'. Prove '..Said' where nothing that the law and all that it calls make is longer than what came in: it says more and counts as full. Else prove '..UptoSaid'. A law counts once. -/
mutual
def uptoBulk {H : Type} : DataW H → Nat
  | .lit (.string bytes) => bytes.length + 1
  | .lit _ => 1
  | .nil => 1
  | .ptr d => uptoBulk d + 1
  | .slice elems spare => uptoBulkAll elems + uptoBulkAll spare + 1
  | .agg parts => uptoBulkAll parts + 1
  | .iface _ d => uptoBulk d + 1
  | .map entries => uptoBulkEntries entries + 1
  | .held _ => 1
def uptoBulkAll {H : Type} : List (DataW H) → Nat
  | [] => 0
  | d :: r => uptoBulk d + uptoBulkAll r
def uptoBulkEntries {H : Type} : List (Lit × DataW H) → Nat
  | [] => 0
  | x :: r => uptoBulkEntry x + uptoBulkEntries r
def uptoBulkEntry {H : Type} : Lit × DataW H → Nat
  | (.string bytes, d) => bytes.length + uptoBulk d + 1
  | (_, d) => uptoBulk d + 1
 end
def uptoSmall : (H : Type) → List (DataW H) → Bool := fun _ ds => decide (uptoBulkAll ds ≤ 1048576)
def OpenSpec.upto (s : _root_.Go.ChangeSpec) : _root_.Go.OpenSpec := { _root_.Go.OpenSpec.ofChange s with cond := some uptoSmall }

/-- 'broadsheetlaw19.FeederOffers', WHERE WHAT IT READS IS OF BULK AT MOST 1048576: true; the input reads as it did. -/
def feederOffersUptoRow : OpenClaim := { program := "ytlkgeifmppadmaa", sum := "aa86b4981ee945700ab719a3e4f3766a575c8c85b86173c6791cf80f54d61c20", func := "broadsheet/broadsheetlaw19.FeederOffers", spec := "feederOffers", unfollowed := true, recurses := true, apart := false, narrowed := true }
def FeederOffersUptoSaid : Prop := feederOffersUptoRow.holds Try.pinned (OpenSpec.upto feederOffersSpec)

/-- 'broadsheetlaw19.FeederTwins', WHERE WHAT IT READS IS OF BULK AT MOST 1048576: true; the input reads as it did. -/
def feederTwinsUptoRow : OpenClaim := { program := "ytlkgeifmppadmaa", sum := "aa86b4981ee945700ab719a3e4f3766a575c8c85b86173c6791cf80f54d61c20", func := "broadsheet/broadsheetlaw19.FeederTwins", spec := "feederTwins", unfollowed := true, recurses := true, apart := false, narrowed := true }
def FeederTwinsUptoSaid : Prop := feederTwinsUptoRow.holds Try.pinned (OpenSpec.upto feederTwinsSpec)

/-- 'broadsheetlaw19.FeederAsks', WHERE WHAT IT READS IS OF BULK AT MOST 1048576: true; the input reads as it did. -/
def feederAsksUptoRow : OpenClaim := { program := "ytlkgeifmppadmaa", sum := "aa86b4981ee945700ab719a3e4f3766a575c8c85b86173c6791cf80f54d61c20", func := "broadsheet/broadsheetlaw19.FeederAsks", spec := "feederAsks", unfollowed := true, recurses := true, apart := false, narrowed := true }
def FeederAsksUptoSaid : Prop := feederAsksUptoRow.holds Try.pinned (OpenSpec.upto feederAsksSpec)

end Rows
end Go.Proofs.Ytlkgeifmppadmaa

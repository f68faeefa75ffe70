/-
  No cell of these rows narrows 'for every input' (looked for: loops, veiled, ifaces, maps, wideKeys, modest, calm, conditions, laid).
  DERIVED. THE GIVEN ROWS OF THIS SEAT. 6 by the template 'for every input the law returns true; each argument reads behind the call as it read before'; 0 by the template 'total and deterministic' (their statements: YtlccileccmiomaaTotals.lean).
  GIVEN WITH THE SEED: the statements are not yours to turn. If you find one false, say at which input.
  Laid BY PROGRAM, IN A SANDBOX (cutbox-rows.mjs): the forced cells as the released guide's own fill.sh prints them over the translation e3e52c4607867e3b… (all of the seat's roots in one cut). By AI agents, Wed Nov 11 2026. No macro, syntax, notation, axiom, sorry.
-/
import Derived.Test.YtlccileccmiomaaChecked
import GoSem.Claim
import GoSem.ClaimJoined
import GoSem.ClaimMapViews
import Derived.JoinedTies
import Derived.KernelRfl
namespace Go.Proofs.Ytlccileccmiomaa
/- THE CELL 'sum', in the pinned program and in every row, IS THE sha256 OF THE DUMP (.gsa) THAT YtlccileccmiomaaProg.lean LOADS. Nothing in Lean hashes anything: it is a label: what it is worth is what the hold of that sum in a sandbox is worth. -/
noncomputable def Try.pinned : Pinned := { name := "ytlccileccmiomaa", sum := "e3e52c4607867e3bd4b81a3172da56c76ea17f51bb0b626e50d59aa0aa49ee0c", checked := Try.checked }
namespace Rows
def none {H : Type} : Left H := { results := [], args := [] }

/-- 'broadsheetlaw3.AgendaOrders': WHATEVER THE INPUT: true; the input reads as it did. -/
def agendaOrdersSpec : ChangeSpec := { name := "agendaOrders", fn := fun _ => fun
  | [d] => { results := [.lit (.bool true)], args := [d] }
  | _ => none }
def agendaOrdersRow : OpenClaim := { program := "ytlccileccmiomaa", sum := "e3e52c4607867e3bd4b81a3172da56c76ea17f51bb0b626e50d59aa0aa49ee0c", func := "broadsheet/broadsheetlaw3.AgendaOrders", spec := "agendaOrders", unfollowed := true, recurses := true, apart := false }
def AgendaOrdersSaid : Prop := agendaOrdersRow.holds Try.pinned (OpenSpec.ofChange agendaOrdersSpec)

/-- ITS FALSE NEIGHBOUR: 'it returns false'. Refute it at one input. -/
def agendaOrdersWrong : ChangeSpec := { name := "agendaOrders", fn := fun _ => fun
  | [d] => { results := [.lit (.bool false)], args := [d] }
  | _ => none }
def AgendaOrdersWrongFalsely : Prop := agendaOrdersRow.holds Try.pinned (OpenSpec.ofChange agendaOrdersWrong)

/-- 'broadsheetlaw3.AgendaTakes': WHATEVER THE INPUT: true; the input reads as it did. -/
def agendaTakesSpec : ChangeSpec := { name := "agendaTakes", fn := fun _ => fun
  | [d1, d2] => { results := [.lit (.bool true)], args := [d1, d2] }
  | _ => none }
def agendaTakesRow : OpenClaim := { program := "ytlccileccmiomaa", sum := "e3e52c4607867e3bd4b81a3172da56c76ea17f51bb0b626e50d59aa0aa49ee0c", func := "broadsheet/broadsheetlaw3.AgendaTakes", spec := "agendaTakes", unfollowed := true, recurses := true, apart := false }
def AgendaTakesSaid : Prop := agendaTakesRow.holds Try.pinned (OpenSpec.ofChange agendaTakesSpec)

/-- ITS FALSE NEIGHBOUR: 'it returns false'. Refute it at one input. -/
def agendaTakesWrong : ChangeSpec := { name := "agendaTakes", fn := fun _ => fun
  | [d1, d2] => { results := [.lit (.bool false)], args := [d1, d2] }
  | _ => none }
def AgendaTakesWrongFalsely : Prop := agendaTakesRow.holds Try.pinned (OpenSpec.ofChange agendaTakesWrong)

/-- 'broadsheetlaw3.AgendaNexts': WHATEVER THE INPUT: true; the input reads as it did. -/
def agendaNextsSpec : ChangeSpec := { name := "agendaNexts", fn := fun _ => fun
  | [d] => { results := [.lit (.bool true)], args := [d] }
  | _ => none }
def agendaNextsRow : OpenClaim := { program := "ytlccileccmiomaa", sum := "e3e52c4607867e3bd4b81a3172da56c76ea17f51bb0b626e50d59aa0aa49ee0c", func := "broadsheet/broadsheetlaw3.AgendaNexts", spec := "agendaNexts", unfollowed := true, recurses := true, apart := false }
def AgendaNextsSaid : Prop := agendaNextsRow.holds Try.pinned (OpenSpec.ofChange agendaNextsSpec)

/-- ITS FALSE NEIGHBOUR: 'it returns false'. Refute it at one input. -/
def agendaNextsWrong : ChangeSpec := { name := "agendaNexts", fn := fun _ => fun
  | [d] => { results := [.lit (.bool false)], args := [d] }
  | _ => none }
def AgendaNextsWrongFalsely : Prop := agendaNextsRow.holds Try.pinned (OpenSpec.ofChange agendaNextsWrong)

/-- 'broadsheetlaw3.AgendaCancels': WHATEVER THE INPUT: true; the input reads as it did. -/
def agendaCancelsSpec : ChangeSpec := { name := "agendaCancels", fn := fun _ => fun
  | [d1, d2] => { results := [.lit (.bool true)], args := [d1, d2] }
  | _ => none }
def agendaCancelsRow : OpenClaim := { program := "ytlccileccmiomaa", sum := "e3e52c4607867e3bd4b81a3172da56c76ea17f51bb0b626e50d59aa0aa49ee0c", func := "broadsheet/broadsheetlaw3.AgendaCancels", spec := "agendaCancels", unfollowed := true, recurses := true, apart := false }
def AgendaCancelsSaid : Prop := agendaCancelsRow.holds Try.pinned (OpenSpec.ofChange agendaCancelsSpec)

/-- ITS FALSE NEIGHBOUR: 'it returns false'. Refute it at one input. -/
def agendaCancelsWrong : ChangeSpec := { name := "agendaCancels", fn := fun _ => fun
  | [d1, d2] => { results := [.lit (.bool false)], args := [d1, d2] }
  | _ => none }
def AgendaCancelsWrongFalsely : Prop := agendaCancelsRow.holds Try.pinned (OpenSpec.ofChange agendaCancelsWrong)

/-- 'broadsheetlaw3.AgendaNumbers': WHATEVER THE INPUT: true; the input reads as it did. -/
def agendaNumbersSpec : ChangeSpec := { name := "agendaNumbers", fn := fun _ => fun
  | [] => { results := [.lit (.bool true)], args := [] }
  | _ => none }
def agendaNumbersRow : OpenClaim := { program := "ytlccileccmiomaa", sum := "e3e52c4607867e3bd4b81a3172da56c76ea17f51bb0b626e50d59aa0aa49ee0c", func := "broadsheet/broadsheetlaw3.AgendaNumbers", spec := "agendaNumbers", unfollowed := true, recurses := true, apart := false }
def AgendaNumbersSaid : Prop := agendaNumbersRow.holds Try.pinned (OpenSpec.ofChange agendaNumbersSpec)

/-- ITS FALSE NEIGHBOUR: 'it returns false'. Refute it at one input. -/
def agendaNumbersWrong : ChangeSpec := { name := "agendaNumbers", fn := fun _ => fun
  | [] => { results := [.lit (.bool false)], args := [] }
  | _ => none }
def AgendaNumbersWrongFalsely : Prop := agendaNumbersRow.holds Try.pinned (OpenSpec.ofChange agendaNumbersWrong)

/-- 'broadsheetlaw3.AgendaPlays': WHATEVER THE INPUT: true; the input reads as it did. -/
def agendaPlaysSpec : ChangeSpec := { name := "agendaPlays", fn := fun _ => fun
  | [d] => { results := [.lit (.bool true)], args := [d] }
  | _ => none }
def agendaPlaysRow : OpenClaim := { program := "ytlccileccmiomaa", sum := "e3e52c4607867e3bd4b81a3172da56c76ea17f51bb0b626e50d59aa0aa49ee0c", func := "broadsheet/broadsheetlaw3.AgendaPlays", spec := "agendaPlays", unfollowed := true, recurses := true, apart := false }
def AgendaPlaysSaid : Prop := agendaPlaysRow.holds Try.pinned (OpenSpec.ofChange agendaPlaysSpec)

/-- ITS FALSE NEIGHBOUR: 'it returns false'. Refute it at one input. -/
def agendaPlaysWrong : ChangeSpec := { name := "agendaPlays", fn := fun _ => fun
  | [d] => { results := [.lit (.bool false)], args := [d] }
  | _ => none }
def AgendaPlaysWrongFalsely : Prop := agendaPlaysRow.holds Try.pinned (OpenSpec.ofChange agendaPlaysWrong)

/- THE SECOND FORM. 'bulk': how many values and letters a reading holds, each counted each time it is reached (what is shared counts as often as it is met; a slice's spare places count too). A statement '..UptoSaid' is the law's where the arguments, and the package variables that the reading takes, are together of bulk at most 1048576: NARROWER than '..Said'. Prove '..Said' where nothing that the law and all that it calls make is longer than what came in: it says more and counts as full. Else prove '..UptoSaid'. A law counts once. -/
mutual
def uptoBulk {H : Type} : DataW H → Nat
  | .lit (.string bytes) => bytes.length + 1
  | .lit _ => 1
  | .nil => 1
  | .ptr d => uptoBulk d + 1
  | .slice elems spare => uptoBulkAll elems + uptoBulkAll spare + 1
  | .agg parts => uptoBulkAll parts + 1
  | .iface _ d => uptoBulk d + 1
  | .map entries => uptoBulkEntries entries + 1
  | .held _ => 1
def uptoBulkAll {H : Type} : List (DataW H) → Nat
  | [] => 0
  | d :: r => uptoBulk d + uptoBulkAll r
def uptoBulkEntries {H : Type} : List (Lit × DataW H) → Nat
  | [] => 0
  | x :: r => uptoBulkEntry x + uptoBulkEntries r
def uptoBulkEntry {H : Type} : Lit × DataW H → Nat
  | (.string bytes, d) => bytes.length + uptoBulk d + 1
  | (_, d) => uptoBulk d + 1
 end
def uptoSmall : (H : Type) → List (DataW H) → Bool := fun _ ds => decide (uptoBulkAll ds ≤ 1048576)
def OpenSpec.upto (s : _root_.Go.ChangeSpec) : _root_.Go.OpenSpec := { _root_.Go.OpenSpec.ofChange s with cond := some uptoSmall }

/-- 'broadsheetlaw3.AgendaOrders', WHERE WHAT IT READS IS OF BULK AT MOST 1048576: true; the input reads as it did. -/
def agendaOrdersUptoRow : OpenClaim := { program := "ytlccileccmiomaa", sum := "e3e52c4607867e3bd4b81a3172da56c76ea17f51bb0b626e50d59aa0aa49ee0c", func := "broadsheet/broadsheetlaw3.AgendaOrders", spec := "agendaOrders", unfollowed := true, recurses := true, apart := false, narrowed := true }
def AgendaOrdersUptoSaid : Prop := agendaOrdersUptoRow.holds Try.pinned (OpenSpec.upto agendaOrdersSpec)

/-- 'broadsheetlaw3.AgendaTakes', WHERE WHAT IT READS IS OF BULK AT MOST 1048576: true; the input reads as it did. -/
def agendaTakesUptoRow : OpenClaim := { program := "ytlccileccmiomaa", sum := "e3e52c4607867e3bd4b81a3172da56c76ea17f51bb0b626e50d59aa0aa49ee0c", func := "broadsheet/broadsheetlaw3.AgendaTakes", spec := "agendaTakes", unfollowed := true, recurses := true, apart := false, narrowed := true }
def AgendaTakesUptoSaid : Prop := agendaTakesUptoRow.holds Try.pinned (OpenSpec.upto agendaTakesSpec)

/-- 'broadsheetlaw3.AgendaNexts', WHERE WHAT IT READS IS OF BULK AT MOST 1048576: true; the input reads as it did. -/
def agendaNextsUptoRow : OpenClaim := { program := "ytlccileccmiomaa", sum := "e3e52c4607867e3bd4b81a3172da56c76ea17f51bb0b626e50d59aa0aa49ee0c", func := "broadsheet/broadsheetlaw3.AgendaNexts", spec := "agendaNexts", unfollowed := true, recurses := true, apart := false, narrowed := true }
def AgendaNextsUptoSaid : Prop := agendaNextsUptoRow.holds Try.pinned (OpenSpec.upto agendaNextsSpec)

/-- 'broadsheetlaw3.AgendaCancels', WHERE WHAT IT READS IS OF BULK AT MOST 1048576: true; the input reads as it did. -/
def agendaCancelsUptoRow : OpenClaim := { program := "ytlccileccmiomaa", sum := "e3e52c4607867e3bd4b81a3172da56c76ea17f51bb0b626e50d59aa0aa49ee0c", func := "broadsheet/broadsheetlaw3.AgendaCancels", spec := "agendaCancels", unfollowed := true, recurses := true, apart := false, narrowed := true }
def AgendaCancelsUptoSaid : Prop := agendaCancelsUptoRow.holds Try.pinned (OpenSpec.upto agendaCancelsSpec)

/-- 'broadsheetlaw3.AgendaNumbers', WHERE WHAT IT READS IS OF BULK AT MOST 1048576: true; the input reads as it did. -/
def agendaNumbersUptoRow : OpenClaim := { program := "ytlccileccmiomaa", sum := "e3e52c4607867e3bd4b81a3172da56c76ea17f51bb0b626e50d59aa0aa49ee0c", func := "broadsheet/broadsheetlaw3.AgendaNumbers", spec := "agendaNumbers", unfollowed := true, recurses := true, apart := false, narrowed := true }
def AgendaNumbersUptoSaid : Prop := agendaNumbersUptoRow.holds Try.pinned (OpenSpec.upto agendaNumbersSpec)

/-- 'broadsheetlaw3.AgendaPlays', WHERE WHAT IT READS IS OF BULK AT MOST 1048576: true; the input reads as it did. -/
def agendaPlaysUptoRow : OpenClaim := { program := "ytlccileccmiomaa", sum := "e3e52c4607867e3bd4b81a3172da56c76ea17f51bb0b626e50d59aa0aa49ee0c", func := "broadsheet/broadsheetlaw3.AgendaPlays", spec := "agendaPlays", unfollowed := true, recurses := true, apart := false, narrowed := true }
def AgendaPlaysUptoSaid : Prop := agendaPlaysUptoRow.holds Try.pinned (OpenSpec.upto agendaPlaysSpec)

end Rows
end Go.Proofs.Ytlccileccmiomaa

/- The law AgendaPlays. Conditions: as each theorem states them. -/
import Derived.Test.YtlccileccmiomaaLawJ
namespace Go.Proofs.Ytlccileccmiomaa
open Go.RowKit
set_option linter.unusedVariables false

theorem plays_any (A : Option Addr) (c : Nat) (l : List (Int × Int × Int)) (w : World) (hx : ArgAsks w A l) :
    Calls Try.prog 8 #[.slice A l.length c] w fun e w' => e = .returned (.bool true) ∧ Below w.heap.size w w' := by
  have H := Lib.hid (play_any A c l w hx)
  clear hx
  go_enter Try.func8, Try.ntmps8
  go_wp2_with fail
  refine H.out.mono ?_
  rintro e w1 ⟨rfl, h1⟩
  have H1 := Lib.hid h1
  clear h1
  go_wp2_with fail
  refine (known_any _).mono ?_
  rintro e w2 ⟨rfl, h2⟩
  have H2 := Lib.hid (H1.out.trans (h2.mono H1.out.size))
  clear h2
  go_wp2
  go_ret
  exact ⟨rfl, H2.out⟩
end Go.Proofs.Ytlccileccmiomaa

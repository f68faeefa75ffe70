/- The program's copies of signatures, checkpoints, cosignatures. Conditions: as each theorem states them. -/
import Derived.Test.YtgeplpdcnanmnaaGreatZal
import Derived.Test.YtgeplpdcnanmnaaGreatZaw
import Derived.Test.YtgeplpdcnanmnaaGreatZaa
namespace Go.Proofs.YtgeplpdcnanmnaaGreat
open Go.RowKit
set_option linter.unusedVariables false
set_option linter.unusedSimpArgs false

def SigF (S : Nat → Prop) (w : World) (v : Value) (s : SigD) : Prop := ∃ p q, v = .agg #[.int .i64 s.index, p, q] ∧ RwsF S w p s.parts ∧ RwsF S w q s.path
theorem RwsF.below {S : Nat → Prop} {w w1 : World} {v : Value} {ls : List (List UInt8)} (h : RwsF S w v ls) (hb : Below w.heap.size w w1) : RwsF S w1 v ls :=
 h.chg (Chg.of_below (S := fun _ => False) hb) (fun _ _ h => h)

def BysF (S : Nat → Prop) (w : World) (v : Value) (l : List UInt8) : Prop := Bys w v l ∧ (0 < l.length → ∀ g, v.ownBlock = some g → S g)
theorem BysF.chg {S T : Nat → Prop} {w w1 : World} {v : Value} {l : List UInt8} (h : BysF S w v l) (hc : Chg w w1 T) (hS : ∀ g, S g → ¬ T g) : BysF S w1 v l := ⟨Sho.chgF h.1 h.2 hc hS, h.2⟩
theorem BysF.mono {S T : Nat → Prop} {w : World} {v : Value} {l : List UInt8} (h : BysF S w v l) (hS : ∀ g, S g → T g) : BysF T w v l := ⟨h.1, fun h0 g hg => hS g (h.2 h0 g hg)⟩
theorem BysF.below {S : Nat → Prop} {w w1 : World} {v : Value} {l : List UInt8} (h : BysF S w v l) (hb : Below w.heap.size w w1) : BysF S w1 v l := ⟨h.1.below hb, h.2⟩
theorem OwnB.foot {w : World} {base : Nat} {v : Value} {l : List UInt8} (h : OwnB w base v l) : BysF (fun g => base ≤ g ∧ g < w.heap.size) w v l := ⟨h.bys, fun _ g hg => World.ownsRow.lt h g hg⟩
def SgF (S : Nat → Prop) (w : World) (v : Value) (s : SgD) : Prop := ∃ r p q, v = .agg #[.int .i64 s.ck.num, r, .int .i64 s.sig.index, p, q] ∧ BysF S w r s.ck.root ∧ RwsF S w p s.sig.parts ∧ RwsF S w q s.sig.path
theorem under_signed : Tryz.prog.underlying 39 = some (.struct (Tryz.prog.fieldsOf 39)) := by kernel_rfl
theorem size_signed : (Tryz.prog.info? 39).map (·.size) = some 5 := by kernel_rfl
structure CgD where
 wit : Int
 sig : SigD
def CgV (w : World) (v : Value) (s : CgD) : Prop := ∃ p q, v = .agg #[.int .i64 s.wit, .int .i64 s.sig.index, p, q] ∧ Rws w p s.sig.parts ∧ Rws w q s.sig.path
def CgF (S : Nat → Prop) (w : World) (v : Value) (s : CgD) : Prop := ∃ p q, v = .agg #[.int .i64 s.wit, .int .i64 s.sig.index, p, q] ∧ RwsF S w p s.sig.parts ∧ RwsF S w q s.sig.path
theorem under_cosig : Tryz.prog.underlying 89 = some (.struct (Tryz.prog.fieldsOf 89)) := by kernel_rfl
theorem size_cosig : (Tryz.prog.info? 89).map (·.size) = some 4 := by kernel_rfl
end Go.Proofs.YtgeplpdcnanmnaaGreat

/- Words of this session over the model's worlds: which blocks a call has turned. No program in sight. The program's own SHA-256: its words, its rounds. Slices as lists of cells; appending whatever is shown to a row of one's own. No program in sight. Bytes in memory. Rows of bytes in memory. slices.Clone at bytes; bytes.Equal, hash.Same. Appending whatever is shown, and where the new row lies. No program in sight. A row of one's own whose frozen place, if it has one, lies behind its last cell (what a conversion of a string leaves): appending to it. No program in sight. Steps of a region that draws its order, one by one: an operation that yields, one that is not wanted. No program in sight. Slices of ints; broadsheetbook's Within. In a region that draws its order: a call that leaves the world as it is may be taken first. No program in sight. A region that draws its order, whose last operations write what its first ones read: a condition that holds till then. No program in sight. Words for the rows: an argument that is a slice of ints, opened. Conditions: as each theorem states them. -/
import Derived.Below
import Derived.Deep.Draws
import Derived.OwnWalk
import Derived.Laws.OwnMore
import Derived.WalkKit
import Derived.WalkSmall
import Derived.Lib.Hide
import Derived.ChangeKeysEq
import Derived.Laws.Entries
import Derived.Laws.CopyRow
import Derived.Lib.SliceRun
import Derived.Test.YtgeplpdcnanmnaaGreatProg
import Derived.KernelRfl
import Derived.Deep.QuietTactic
import Derived.BigQuiet
import Derived.BigRegion
import Derived.RegionTactic
import Derived.Laws.Tables
import Derived.Deep.RegionLaw
import Derived.Deep.AppendLies
import Derived.WalkSpells
import Derived.Lib.ConvBytes
import Derived.Lib.BufferRead
import Derived.Deep.RegionHeld3
import Derived.Test.YtgeplpdcnanmnaaGreatRows
import Derived.ProofKit
import Derived.OpenShut
import Derived.ShutString
import Derived.ChangeOld
import Derived.SizedLaws
import Derived.Lib.SmallJoins
namespace Go.Proofs.YtgeplpdcnanmnaaGreat
open Go.RowKit
set_option linter.unusedVariables false

structure Chg (w w' : World) (S : Nat → Prop) : Prop where
 os : w'.os = w.os
 tape : w'.tape = w.tape
 output : w'.output = w.output
 size : w.heap.size ≤ w'.heap.size
 block : ∀ k, k < w.heap.size → ¬ S k → w'.heap[k]? = w.heap[k]?
namespace Chg
variable {w w1 w2 : World} {S T : Nat → Prop}
theorem refl (w : World) (S : Nat → Prop) : Chg w w S := ⟨rfl, rfl, rfl, Nat.le_refl _, fun _ _ _ => rfl⟩
theorem mono (h : Chg w w1 S) (hS : ∀ k, k < w.heap.size → S k → T k) : Chg w w1 T := ⟨h.os, h.tape, h.output, h.size, fun k hk hn => h.block k hk (fun hs => hn (hS k hk hs))⟩
theorem trans (h : Chg w w1 S) (k : Chg w1 w2 T) (hT : ∀ i, i < w.heap.size → T i → S i) : Chg w w2 S :=
 ⟨k.os.trans h.os, k.tape.trans h.tape, k.output.trans h.output, Nat.le_trans h.size k.size, fun i hi hn => (k.block i (Nat.lt_of_lt_of_le hi h.size) (fun ht => hn (hT i hi ht))).trans (h.block i hi hn)⟩
theorem of_below (h : Below w.heap.size w w1) : Chg w w1 S := ⟨h.os, h.tape, h.output, h.size, fun k hk _ => h.block k hk⟩
theorem below {B : Nat} (h : Chg w w1 S) (hB : B ≤ w.heap.size) (hS : ∀ k, S k → B ≤ k) : Below B w w1 := ⟨h.os, h.tape, h.output, h.size, fun k hk => h.block k (by omega) (fun hs => by have := hS k hs; omega)⟩
theorem of_grown {row : Option Nat} (h : w.grownBy w1 row) : Chg w w1 (fun k => some k = row) := ⟨h.os, h.tape, h.output, h.size, fun k hk hn => h.block k hk hn⟩
theorem drew (h : Chg w w1 S) : Chg w w1.drew S := ⟨h.os, h.tape, h.output, h.size, h.block⟩
theorem drewN (h : Chg w w1 S) (n : Nat) : Chg w (w1.drewN n) S := ⟨h.os, h.tape, h.output, h.size, h.block⟩
theorem alloc (h : Chg w w1 S) (o : Obj) : Chg w (w1.alloc o) S := h.trans (of_below ((Below.refl _ _).alloc (Nat.le_refl _) o)) (T := fun _ => False) (fun _ _ h => h.elim)
theorem setCell (h : Chg w w1 S) (p : Addr) (v : Value) (hp : p.block < w.heap.size → S p.block) : Chg w (w1.setCell p v) S :=
 h.trans (T := fun k => k = p.block) ⟨rfl, rfl, rfl, by simp, fun k _ hk => Below.heap_setCell w1 p v k hk⟩ (fun i hi he => by subst he; exact hp hi)
theorem cell (h : Chg w w1 S) {a : Addr} (ha : a.block < w.heap.size) (hn : ¬ S a.block) : w1.cell? a = w.cell? a := World.cell?_of_block (h.block _ ha hn)
theorem frozen (h : Chg w w1 S) {a : Addr} (ha : a.block < w.heap.size) (hn : ¬ S a.block) : w1.frozen? a = w.frozen? a := World.frozen?_of_block (h.block _ ha hn)
end Chg

theorem blk_set (w : World) (g i : Nat) (cs : Array Value) (t : TypeId) (v : Value) (hg : w.heap[g]? = some (.cells cs t (0, 0))) :
  (w.setCell ⟨g, i, none⟩ v).heap[g]? = some (.cells (cs.setIfInBounds i v) t (0, 0)) := by
 simp [World.setCell, Array.getElem?_modify, hg]
theorem blk_new (w : World) (o : Obj) : (w.alloc o).heap[w.heap.size]? = some o := by
 show (w.heap.push o)[w.heap.size]? = _
 simp
def Blk (w : World) (b : Nat) (t : TypeId) (cs : List Value) : Prop := w.heap[b]? = some (.cells cs.toArray t (0, 0))
namespace Blk
variable {w w1 : World} {b : Nat} {t : TypeId} {cs : List Value} {S : Nat → Prop}
theorem lt (h : Blk w b t cs) : b < w.heap.size := (Array.getElem?_eq_some_iff.1 h).1
theorem cell (h : Blk w b t cs) (j : Nat) (u : Value) (hj : cs[j]? = some u) : w.cell? ⟨b, j, none⟩ = some u := by
 unfold Blk at h
 simp [World.cell?, h, hj]
theorem free (h : Blk w b t cs) (j : Nat) : w.frozen? ⟨b, j, none⟩ = false := by
 unfold Blk at h
 simp [World.frozen?, h]
theorem chg (h : Blk w b t cs) (hc : Chg w w1 S) (hn : ¬ S b) : Blk w1 b t cs := (hc.block b h.lt hn).trans h
theorem below (h : Blk w b t cs) (hc : Below w.heap.size w w1) : Blk w1 b t cs := (hc.block b h.lt).trans h
theorem alloc (h : Blk w b t cs) (o : Obj) : Blk (w.alloc o) b t cs := h.below ((Below.refl _ _).alloc (Nat.le_refl _) o)
theorem drewN (h : Blk w b t cs) (n : Nat) : Blk (w.drewN n) b t cs := h
theorem drew (h : Blk w b t cs) : Blk w.drew b t cs := h
theorem new (w : World) (t : TypeId) (cs : List Value) : Blk (w.alloc (.cells cs.toArray t)) w.heap.size t cs := by
 unfold Blk
 exact blk_new w _
theorem set (h : Blk w b t cs) (j : Nat) (v : Value) (hj : j < cs.length) : Blk (w.setCell ⟨b, j, none⟩ v) b t (cs.set j v) := by
 have e : (cs.toArray.setIfInBounds j v) = (cs.set j v).toArray := by simp
 have h2 := blk_set w b j cs.toArray t v h
 rw [e] at h2
 exact h2
theorem grown {row : Option Nat} (h : Blk w b t cs) (hg : w.grownBy w1 row) (hne : some b ≠ row) : Blk w1 b t cs := (hg.block b h.lt hne).trans h
theorem setOther (h : Blk w b t cs) (p : Addr) (v : Value) (hp : b ≠ p.block) : Blk (w.setCell p v) b t cs := (Below.heap_setCell w p v b hp).trans h
end Blk

theorem blk_setRow {w : World} {g : Nat} {te : TypeId} {cs : List Value} (hb : Blk w g te cs) (cs' : List Value) : Blk (w.setRow g cs'.toArray) g te cs' := setRow_heap w g cs.toArray cs'.toArray te (0, 0) hb
theorem chg_setRow (w : World) (g : Nat) (cs : Array Value) : Chg w (w.setRow g cs) (fun k => k = g) := by
 refine ⟨rfl, rfl, rfl, by simp [World.setRow], fun k _ hk => ?_⟩
 simp only [World.setRow, Array.getElem?_modify]
 rw [if_neg (fun e => hk e.symm)]

theorem grownBy_setCell (w : World) (p : Addr) (v : Value) : w.grownBy (w.setCell p v) (some p.block) := ⟨rfl, rfl, rfl, by simp, fun k _ hk => Below.heap_setCell w p v k (fun e => hk (by rw [e]))⟩
theorem ownsRow_set {w : World} {base : Nat} {e : TypeId} {size n : Nat} {v : Value} {xs : List Value} (h : w.ownsRow base e size v n xs) (p : Addr) (u : Value) (hne : v.ownBlock ≠ some p.block) : (w.setCell p u).ownsRow base e size v n xs :=
 h.kept (grownBy_setCell w p u) (.inr hne)
theorem ownsRow_chg {w w1 : World} {base : Nat} {e : TypeId} {size n : Nat} {v : Value} {xs : List Value} {S : Nat → Prop} (h : w.ownsRow base e size v n xs) (hc : Chg w w1 S) (hn : ∀ k, v.ownBlock = some k → ¬ S k) : w1.ownsRow base e size v n xs := by
 obtain ⟨h1, h2⟩ := h
 refine ⟨h1, ?_⟩
 rcases h2 with h2 | ⟨g, cap, cur, rfl, hg, hh, r⟩
 ·exact .inl h2
 ·have hlt : g < w.heap.size := (Array.getElem?_eq_some_iff.1 hh).1
  exact .inr ⟨g, cap, cur, rfl, hg, (hc.block g hlt (hn g rfl)).trans hh, r⟩
theorem calls_at {P : Program} {f : Nat} {args : Array Value} {W : World} {R : Ending → World → Prop} (Φ : World → Prop) (h : Φ W) (k : ∀ w1, Φ w1 → Calls P f args w1 R) : Calls P f args W R := k W h
theorem code_at {P : Program} {c : Code} {Q : Exit → Act → World → Prop} {a : Act} {W : World} (Φ : World → Prop) (h : Φ W) (k : ∀ w1, Φ w1 → Code.wp P c Q a w1) : Code.wp P c Q a W := k W h
theorem blk2 (w : World) (A B : List Value) (t1 t2 : TypeId) (w1 : World) (e : w1 = (w.alloc (.cells A.toArray t1)).alloc (.cells B.toArray t2)) :
  Below w.heap.size w w1 ∧ Blk w1 w.heap.size t1 A ∧ Blk w1 (w.heap.size + 1) t2 B := by
 subst e
 have b1 := Blk.new (w.alloc (.cells A.toArray t1)) t2 B
 rw [show (w.alloc (.cells A.toArray t1)).heap.size = w.heap.size + 1 by simp] at b1
 exact ⟨((Below.refl _ _).alloc (Nat.le_refl _) _).alloc (by simp) _, (Blk.new w t1 A).alloc _, b1⟩
theorem blk3 (w : World) (A B C : List Value) (t1 t2 t3 : TypeId) (w1 : World) (e : w1 = ((w.alloc (.cells A.toArray t1)).alloc (.cells B.toArray t2)).alloc (.cells C.toArray t3)) :
  Below w.heap.size w w1 ∧ Blk w1 w.heap.size t1 A ∧ Blk w1 (w.heap.size + 1) t2 B ∧ Blk w1 (w.heap.size + 1 + 1) t3 C := by
 subst e
 obtain ⟨h1, h2, h3⟩ := blk2 w A B t1 t2 _ rfl
 have b1 := Blk.new ((w.alloc (.cells A.toArray t1)).alloc (.cells B.toArray t2)) t3 C
 rw [show ((w.alloc (.cells A.toArray t1)).alloc (.cells B.toArray t2)).heap.size = w.heap.size + 1 + 1 by simp] at b1
 exact ⟨h1.alloc h1.size _, h2.alloc _, h3.alloc _, b1⟩
theorem quiet_here {P : Program} {f : FuncId} {args : Array Value} {w : World} {n : Nat} {v : Value} (h : Calls P f args (w.drewN n) fun e w' => e = .returned v ∧ w.drewN n = w') : Calls P f args (w.drewN n) fun e w'' => e = .returned v ∧ ∃ m, w'' = w.drewN m :=
 h.mono fun _ _ ⟨he, hm⟩ => ⟨he, n, hm.symm⟩
theorem quiet_there {P : Program} {f : FuncId} {args : Array Value} {w : World} {a n : Nat} {v : Value} (h : Calls P f args (w.drewN (a + n)) fun e w' => e = .returned v ∧ w.drewN (a + n) = w') : Calls P f args (w.drewN (a + n)) fun e w'' => e = .returned v ∧ ∃ m, w'' = w.drewN (a + m) :=
 h.mono fun _ _ ⟨he, hm⟩ => ⟨he, n, hm.symm⟩
theorem sa {α : Type} (i : Nat) (x : α) (l : List α) : l.toArray.setIfInBounds i x = (l.set i x).toArray := List.setIfInBounds_toArray ..
theorem sb {α : Type} (x y : α) (l : List α) : (x :: l).set 0 y = y :: l := rfl
theorem sc {α : Type} (x y : α) (n : Nat) (l : List α) : (x :: l).set (n + 1) y = x :: l.set n y := rfl
set_option linter.unusedSimpArgs false
def u32s (l : List Int) : List Value := l.map (Value.int .u32)
def rotr (n : Nat) (x : Int) : Int := bits .or .u32 (x * (2 ^ (32 - n) : Nat) % 4294967296) (x / (2 ^ n : Nat))
def sg0 (x : Int) : Int := bits .xor .u32 (bits .xor .u32 (rotr 7 x) (rotr 18 x)) (x / 8)
def sg1 (x : Int) : Int := bits .xor .u32 (bits .xor .u32 (rotr 17 x) (rotr 19 x)) (x / 1024)
def nx (l : List Int) : Int := (l.getD (l.length - 16) 0 + sg0 (l.getD (l.length - 15) 0) + l.getD (l.length - 7) 0 + sg1 (l.getD (l.length - 2) 0)) % 4294967296
def sch (l : List Int) : Nat → List Int
 | 0 => l
 | n + 1 => sch l n ++ [nx (sch l n)]
theorem sch_length (l : List Int) (n : Nat) : (sch l n).length = l.length + n := by
 induction n with
 | zero => rfl
 | succ n ih => show (sch l n ++ [_]).length = _; rw [List.length_append, ih]; rfl
def wordAt (l : List UInt8) (i j : Nat) : Int := ((l.drop (4 * i)).take j).foldl (fun x c => bits .or .u32 (x * 256 % 4294967296) (c.toNat : Nat)) 0
def words (l : List UInt8) (n : Nat) : List Int := (List.range n).map (fun i => wordAt l i 4)
theorem words_length (l : List UInt8) (n : Nat) : (words l n).length = n := by simp [words]
theorem words_succ (l : List UInt8) (n : Nat) : words l (n + 1) = words l n ++ [wordAt l n 4] := by simp [words, List.range_succ]
theorem wordAt_succ (l : List UInt8) (i j : Nat) (h : 4 * i + j < l.length) : wordAt l i (j + 1) = bits .or .u32 (wordAt l i j * 256 % 4294967296) (l[4 * i + j].toNat : Nat) := by
 unfold wordAt
 have h1 : j < (l.drop (4 * i)).length := by rw [List.length_drop]; omega
 rw [List.take_succ_eq_append_getElem h1, List.foldl_append]
 simp
def sched (l : List UInt8) : List Int := sch (words l 16) 48
theorem sched_length (l : List UInt8) : (sched l).length = 64 := by unfold sched; rw [sch_length, words_length]

section
variable {w : World} {b : Nat} {t : TypeId} {l r : List Int} {x : Int} {i : Nat}
theorem u32_at (h : Blk w b t (u32s (l ++ r))) (k : Nat) (hk : k < l.length) : w.cell? ⟨b, k, none⟩ = some (.int .u32 (l.getD k 0)) :=
 h.cell k _ (by rw [u32s, List.map_append, List.getElem?_append_left (by simpa using hk)]; simp [List.getElem?_eq_getElem hk, List.getD_eq_getElem?_getD])
theorem u32_get (h : Blk w b t (u32s l)) (k : Nat) (hk : k < l.length) : w.cell? ⟨b, k, none⟩ = some (.int .u32 (l.getD k 0)) :=
 u32_at (r := []) (by rwa [List.append_nil]) k hk
theorem u32_mid (h : Blk w b t (u32s (l ++ x :: r))) (hi : l.length = i) : w.cell? ⟨b, i, none⟩ = some (.int .u32 x) :=
 h.cell i _ (by subst hi; simp [u32s])
theorem u32_put (h : Blk w b t (u32s (l ++ x :: r))) (hi : l.length = i) (y : Int) : Blk (w.setCell ⟨b, i, none⟩ (.int .u32 y)) b t (u32s (l ++ y :: r)) := by
 have h2 := h.set i (.int .u32 y) (by subst hi; simp [u32s])
 have e : (u32s (l ++ x :: r)).set i (.int .u32 y) = u32s (l ++ y :: r) := by
  subst hi
  simp [u32s, List.set_append_right]
 rwa [e] at h2
end
theorem rep_succ (n k : Nat) (h : k = n + 1) : List.replicate k (0 : Int) = 0 :: List.replicate n 0 := by subst h; rfl
theorem u32s_one (l : List Int) : (u32s l).toArray.all (·.oneCell') = true := by simp [u32s, Value.oneCell']
theorem under_row64 : Tryz.prog.underlying 220 = some (.array 64 53) := by kernel_rfl
theorem under_row8 : Tryz.prog.underlying 219 = some (.array 8 53) := by kernel_rfl
theorem size_row64 (l : List Int) (h : l.length = 64) : (Tryz.prog.info? 220).map (·.size) = some (u32s l).toArray.size := by
 have : (Tryz.prog.info? 220).map (·.size) = some 64 := by kernel_rfl
 rw [this]; simp [u32s, h]
theorem size_row8 (l : List Int) (h : l.length = 8) : (Tryz.prog.info? 219).map (·.size) = some (u32s l).toArray.size := by
 have : (Tryz.prog.info? 219).map (·.size) = some 8 := by kernel_rfl
 rw [this]; simp [u32s, h]

def BysAt (w : World) (g o : Nat) (l : List UInt8) : Prop := ∀ k (h : k < l.length), w.cell? ⟨g, o + k, none⟩ = some (.int .u8 (l[k].toNat : Nat))

theorem or_comm32 (a b : Int) : bits .or .u32 a b = bits .or .u32 b a := by
 unfold bits
 simp only [BitVec.or_comm]
def Turns (n : Nat) : Prop := n = 2 ∨ n = 6 ∨ n = 7 ∨ n = 11 ∨ n = 13 ∨ n = 17 ∨ n = 18 ∨ n = 19 ∨ n = 22 ∨ n = 25
theorem rot_any (n : Nat) (hn : Turns n) (x : Int) (w : World) :
  Calls Tryz.prog 220 #[.int .u32 x, .int .i64 (-(n : Int))] w fun e w' => e = .returned (.int .u32 (rotr n x)) ∧ w = w' := by
 rcases hn with rfl | rfl | rfl | rfl | rfl | rfl | rfl | rfl | rfl | rfl
 ·have e1 : bits BinOp.and .u64 (IntKind.u64.wrap (-2)) 31 = 30 := by decide
  go_enter Tryz.func220, Tryz.ntmps220
  go_wp2
  go_ret
  exact ⟨rfl, rfl⟩
 ·have e1 : bits BinOp.and .u64 (IntKind.u64.wrap (-6)) 31 = 26 := by decide
  go_enter Tryz.func220, Tryz.ntmps220
  go_wp2
  go_ret
  exact ⟨rfl, rfl⟩
 ·have e1 : bits BinOp.and .u64 (IntKind.u64.wrap (-7)) 31 = 25 := by decide
  go_enter Tryz.func220, Tryz.ntmps220
  go_wp2
  go_ret
  exact ⟨rfl, rfl⟩
 ·have e1 : bits BinOp.and .u64 (IntKind.u64.wrap (-11)) 31 = 21 := by decide
  go_enter Tryz.func220, Tryz.ntmps220
  go_wp2
  go_ret
  exact ⟨rfl, rfl⟩
 ·have e1 : bits BinOp.and .u64 (IntKind.u64.wrap (-13)) 31 = 19 := by decide
  go_enter Tryz.func220, Tryz.ntmps220
  go_wp2
  go_ret
  exact ⟨rfl, rfl⟩
 ·have e1 : bits BinOp.and .u64 (IntKind.u64.wrap (-17)) 31 = 15 := by decide
  go_enter Tryz.func220, Tryz.ntmps220
  go_wp2
  go_ret
  exact ⟨rfl, rfl⟩
 ·have e1 : bits BinOp.and .u64 (IntKind.u64.wrap (-18)) 31 = 14 := by decide
  go_enter Tryz.func220, Tryz.ntmps220
  go_wp2
  go_ret
  exact ⟨rfl, rfl⟩
 ·have e1 : bits BinOp.and .u64 (IntKind.u64.wrap (-19)) 31 = 13 := by decide
  go_enter Tryz.func220, Tryz.ntmps220
  go_wp2
  go_ret
  exact ⟨rfl, rfl⟩
 ·have e1 : bits BinOp.and .u64 (IntKind.u64.wrap (-22)) 31 = 10 := by decide
  go_enter Tryz.func220, Tryz.ntmps220
  go_wp2
  go_ret
  exact ⟨rfl, rfl⟩
 ·have e1 : bits BinOp.and .u64 (IntKind.u64.wrap (-25)) 31 = 7 := by decide
  go_enter Tryz.func220, Tryz.ntmps220
  go_wp2
  go_ret
  exact ⟨rfl, rfl⟩
theorem right_any (n : Nat) (k : Int) (hk : k = n) (hn : Turns n) (x : Int) (w : World) :
  Calls Tryz.prog 217 #[.int .u32 x, .int .i64 k] w fun e w' => e = .returned (.int .u32 (rotr n x)) ∧ w = w' := by
 subst hk
 have H := Lib.hid (fun wz => rot_any n hn x wz)
 have hn2 : 2 ≤ n ∧ n ≤ 25 := by unfold Turns at hn; omega
 have ek : IntKind.i64.wrap (-(n : Int)) = -(n : Int) := IntWalk.i64_in _ (by omega)
 clear hn
 go_enter Tryz.func217, Tryz.ntmps217
 go_wp2_with fail
 refine (H.out _).mono ?_
 rintro e w' ⟨rfl, rfl⟩
 go_wp2
 go_ret
 exact ⟨rfl, rfl⟩

def TurnsZ (k : Int) : Prop := k = 2 ∨ k = 6 ∨ k = 7 ∨ k = 11 ∨ k = 13 ∨ k = 17 ∨ k = 18 ∨ k = 19 ∨ k = 22 ∨ k = 25
theorem right_z (k : Int) (hk : TurnsZ k) (x : Int) (w : World) :
  Calls Tryz.prog 217 #[.int .u32 x, .int .i64 k] w fun e w' => e = .returned (.int .u32 (rotr k.toNat x)) ∧ w = w' :=
 right_any k.toNat k (by unfold TurnsZ at hk; omega) (by unfold TurnsZ at hk; unfold Turns; omega) x w

set_option maxRecDepth 10000 in
set_option maxHeartbeats 2000000 in
theorem spread_any (g o c : Nat) (l : List UInt8) (hl : l.length = 64) (hc : 64 ≤ c) (w : World) (hg : g < w.heap.size) (hx : BysAt w g o l) :
  Calls Tryz.prog 216 #[.slice (some ⟨g, o, none⟩) 64 c] w fun e w' => e = .returned (.agg (u32s (sched l)).toArray) ∧ Below w.heap.size w w' := by
 have HX := Lib.hid hx
 clear hx
 have HL := Lib.hid hl
 clear hl
 go_enter Tryz.func216, Tryz.ntmps216
 go_wp2
 go_loopw [12] (fun v12 wr => ∃ (i : Nat), v12 = .int .i64 i ∧ i ≤ 16 ∧ Hid (Below w.heap.size w wr ∧ Blk wr (w.heap.size + 1) 220 (u32s (words l i ++ List.replicate (64 - i) 0)) ∧ Blk wr w.heap.size 220 (u32s (List.replicate 64 0)))) (fun v _ => 16 - (intOf v).toNat)
 case atStart =>
  have b0 : Blk (w.alloc (.cells (u32s (List.replicate 64 0)).toArray 220)) w.heap.size 220 (u32s (List.replicate 64 0)) := Blk.new w _ _
  have b1 := Blk.new (w.alloc (.cells (u32s (List.replicate 64 0)).toArray 220)) 220 (u32s (List.replicate 64 0))
  rw [show (w.alloc (.cells (u32s (List.replicate 64 0)).toArray 220)).heap.size = w.heap.size + 1 by simp] at b1
  exact ⟨0, rfl, by omega, Lib.hid ⟨((Below.refl _ _).alloc (Nat.le_refl _) _).alloc (by simp) _, b1, b0.alloc _⟩⟩
 case round =>
  obtain ⟨i, rfl, hi, HI⟩ := hrel
  by_cases hlt : i < 16
  ·go_wp2
   go_loopw [23] (fun v23 wr => ∃ (j : Nat), v23 = .int .i64 j ∧ j ≤ 4 ∧ Hid (Below w.heap.size w wr ∧ Blk wr (w.heap.size + 1) 220 (u32s (words l i ++ wordAt l i j :: List.replicate (63 - i) 0)) ∧ Blk wr w.heap.size 220 (u32s (List.replicate 64 0)))) (fun v _ => 4 - (intOf v).toNat)
   case atStart => exact ⟨0, rfl, by omega, Lib.hid ⟨HI.out.1, by have := HI.out.2.1; rwa [rep_succ (63 - i) (64 - i) (by omega)] at this, HI.out.2.2⟩⟩
   case round =>
    obtain ⟨j, rfl, hj, HJ⟩ := hrel
    by_cases hlt2 : j < 4
    ·have hlj : 4 * i + j < l.length := by rw [HL.out]; omega
     have p0 : wr.cell? ⟨g, o + 4 * i + j, none⟩ = some (.int .u8 (l[4 * i + j].toNat : Nat)) := by
      have := (HJ.out.1.cell (p := ⟨g, o + (4 * i + j), none⟩) hg).trans (HX.out _ hlj)
      rwa [← Nat.add_assoc] at this
     have p1 : wr.cell? ⟨w.heap.size + 1, i, none⟩ = some (.int .u32 (wordAt l i j)) := u32_mid HJ.out.2.1 (words_length l i)
     have p2 : wr.frozen? ⟨w.heap.size + 1, i, none⟩ = false := HJ.out.2.1.free i
     have HS := Lib.hid (wordAt_succ l i j hlj)
     have hb := l[4 * i + j].toNat_lt
     generalize l[4 * i + j] = b at *
     have eb : ((b.toNat : Nat) : Int) % 4294967296 = (b.toNat : Nat) := by omega
     generalize wordAt l i j = x at *
     go_wp2
     go_roundw
     case rel => exact ⟨j + 1, by go_num, by omega, Lib.hid ⟨HJ.out.1.setCell (by simp) _, by rw [HS.out]; exact u32_put HJ.out.2.1 (words_length l i) _, HJ.out.2.2.setOther _ _ (by simp)⟩⟩
     case measure => simp [intOf]; omega
    ·obtain rfl : j = 4 := by omega
     go_wp2
     go_roundw
     case rel => exact ⟨i + 1, by go_num, by omega, Lib.hid ⟨HJ.out.1, by have := HJ.out.2.1; rwa [words_succ, List.append_assoc, show 64 - (i + 1) = 63 - i by omega], HJ.out.2.2⟩⟩
     case measure => simp [intOf]; omega
  ·obtain rfl : i = 16 := by omega
   rw [show ((16 : Nat) : Int) = 16 from rfl]
   go_wp2
   go_loopw [7] (fun v7 wr => ∃ (i : Nat), v7 = .int .i64 i ∧ 16 ≤ i ∧ i ≤ 64 ∧ Hid (Below w.heap.size w wr ∧ Blk wr (w.heap.size + 1) 220 (u32s (sch (words l 16) (i - 16) ++ List.replicate (64 - i) 0)) ∧ Blk wr w.heap.size 220 (u32s (List.replicate 64 0)))) (fun v _ => 64 - (intOf v).toNat)
   case atStart => exact ⟨16, rfl, by omega, by omega, HI⟩
   case round =>
    clear HI
    obtain ⟨i, rfl, hi16, hi, HI⟩ := hrel
    have HLS : Hid ((sch (words l 16) (i - 16)).length = i) := Lib.hid (by rw [sch_length, words_length]; omega)
    by_cases hlt : i < 64
    ·have hb := HI.out.2.1
     rw [rep_succ (63 - i) (64 - i) (by omega)] at hb
     have HB := Lib.hid hb
     clear hb
     have q15 := u32_at HB.out (i - 15) (by rw [HLS.out]; omega)
     have q2 := u32_at HB.out (i - 2) (by rw [HLS.out]; omega)
     have q16 := u32_at HB.out (i - 16) (by rw [HLS.out]; omega)
     have q7 := u32_at HB.out (i - 7) (by rw [HLS.out]; omega)
     have q0 := u32_mid HB.out HLS.out
     have HN : Hid (nx (sch (words l 16) (i - 16)) = ((sch (words l 16) (i - 16)).getD (i - 16) 0 + sg0 ((sch (words l 16) (i - 16)).getD (i - 15) 0) + (sch (words l 16) (i - 16)).getD (i - 7) 0 + sg1 ((sch (words l 16) (i - 16)).getD (i - 2) 0)) % 4294967296) := Lib.hid (by unfold nx; rw [HLS.out])
     generalize (sch (words l 16) (i - 16)).getD (i - 15) 0 = x15 at *
     generalize (sch (words l 16) (i - 16)).getD (i - 2) 0 = x2 at *
     generalize (sch (words l 16) (i - 16)).getD (i - 16) 0 = x16 at *
     generalize (sch (words l 16) (i - 16)).getD (i - 7) 0 = x7 at *
     have t15 : ((i : Int) - 15).toNat = i - 15 := by omega
     have t2 : ((i : Int) - 2).toNat = i - 2 := by omega
     have t16 : ((i : Int) - 16).toNat = i - 16 := by omega
     have t7 : ((i : Int) - 7).toNat = i - 7 := by omega
     have b15 : (0 : Int) ≤ (i : Int) - 15 ∧ (i : Int) - 15 < 64 := by omega
     go_wp2
     go_quiet (fail)
     have f0 : (wr.drewN (nq + 1)).frozen? ⟨w.heap.size + 1, i, none⟩ = false := HB.out.free i
     go_wp2_with (go_at_call 217; (with_reducible refine (right_z _ (by unfold TurnsZ; omega) _ _).mono ?_); rintro e w' ⟨rfl, rfl⟩)
     rw [show bits BinOp.xor IntKind.u32 (bits BinOp.xor IntKind.u32 (rotr 7 x15) (rotr 18 x15)) (x15 / 8) = sg0 x15 from rfl, show bits BinOp.xor IntKind.u32 (bits BinOp.xor IntKind.u32 (rotr 17 x2) (rotr 19 x2)) (x2 / 1024) = sg1 x2 from rfl]
     generalize sg0 x15 = s0 at *
     generalize sg1 x2 = s1 at *
     go_region
     go_wp2
     go_roundw
     case rel =>
      refine ⟨i + 1, by go_num, by omega, by omega, Lib.hid ⟨(below_drewN HI.out.1 _).setCell (by simp) _, ?_, Blk.setOther (HI.out.2.2.drewN _) _ _ (by simp)⟩⟩
      rw [show i + 1 - 16 = i - 16 + 1 by omega]
      show Blk _ _ _ (u32s ((sch (words l 16) (i - 16) ++ [nx (sch (words l 16) (i - 16))]) ++ List.replicate (64 - (i + 1)) 0))
      rw [List.append_assoc, HN.out, show 64 - (i + 1) = 63 - i by omega]
      exact u32_put (HB.out.drewN _) HLS.out _
     case measure => simp [intOf]; omega
    ·obtain rfl : i = 64 := by omega
     have hb1 : Blk wr (w.heap.size + 1) 220 (u32s (sched l)) := by
      have := HI.out.2.1
      rwa [show List.replicate (64 - 64) (0 : Int) = [] from rfl, List.append_nil] at this
     have HB := Lib.hid (And.intro hb1 HI.out.2.2)
     have HBel := Lib.hid HI.out.1
     clear hb1 HI HLS
     have HSL := Lib.hid (sched_length l)
     generalize hS : sched l = S at *
     have HSS := Lib.hid hS
     clear hS
     go_wp2_with (first
      | (refine wpList_load_row rfl 220 (.tmp 3) rfl (w.heap.size + 1) rfl 220 (u32s S).toArray (0, 0) _ HB.out.1 under_row64 rfl (size_row64 S HSL.out) ?_)
      | (refine wpList_store_row rfl 220 (.tmp 2) (.tmp 81) rfl w.heap.size (u32s S).toArray rfl rfl 220 _ HB.out.2 (size_row64 S HSL.out) (by simp [u32s, HSL.out]) (u32s_one S) ?_))
     have hfin : Blk (wr.setRow w.heap.size (u32s S).toArray) w.heap.size 220 (u32s S) := blk_setRow HB.out.2 _
     refine bodyPost_ret (v := .agg (u32s S).toArray) ?_ ?_ ⟨by rw [HSS.out], ?_⟩
     ·exact results_cell_row Tryz.results216 _ _ w.heap.size 220 _ (0, 0) _ rfl hfin under_row64 rfl (size_row64 S HSL.out)
     ·rfl
     ·exact HBel.out.trans ((chg_setRow wr w.heap.size _).below HBel.out.size (fun k hk => by omega))
def Sho (w : World) (v : Value) (n k : Nat) (cs : List Value) : Prop :=
 cs.length = n * k ∧ ((n = 0 ∧ ∃ A c, v = .slice A 0 c) ∨ ∃ g o c, v = .slice (some ⟨g, o, none⟩) n c ∧ n ≤ c ∧ c ≤ maxLen ∧ g < w.heap.size ∧ ∀ j u, cs[j]? = some u → w.cell? ⟨g, o + j, none⟩ = some u)
namespace Sho
variable {w w1 : World} {v : Value} {n k : Nat} {cs : List Value}
theorem form (h : Sho w v n k cs) : ∃ A c, v = .slice A n c := by
 rcases h.2 with ⟨rfl, A, c, e⟩ | ⟨g, o, c, e, _⟩
 ·exact ⟨A, c, e⟩
 ·exact ⟨_, c, e⟩
theorem below (h : Sho w v n k cs) (hb : Below w.heap.size w w1) : Sho w1 v n k cs := by
 refine ⟨h.1, ?_⟩
 rcases h.2 with h0 | ⟨g, o, c, e, h1, h2, h3, h4⟩
 ·exact .inl h0
 ·exact .inr ⟨g, o, c, e, h1, h2, Nat.lt_of_lt_of_le h3 hb.size, fun j u hj => (hb.cell (p := ⟨g, o + j, none⟩) h3).trans (h4 j u hj)⟩
theorem chg {S : Nat → Prop} (h : Sho w v n k cs) (hc : Chg w w1 S) (hS : ∀ g, v.ownBlock = some g → ¬ S g) : Sho w1 v n k cs := by
 refine ⟨h.1, ?_⟩
 rcases h.2 with h0 | ⟨g, o, c, e, h1, h2, h3, h4⟩
 ·exact .inl h0
 ·exact .inr ⟨g, o, c, e, h1, h2, Nat.lt_of_lt_of_le h3 hc.size, fun j u hj => (hc.cell (a := ⟨g, o + j, none⟩) h3 (hS g (by rw [e]; rfl))).trans (h4 j u hj)⟩
theorem grown {row : Option Nat} (h : Sho w v n k cs) (hg : w.grownBy w1 row) (hS : ∀ g, v.ownBlock = some g → some g ≠ row) : Sho w1 v n k cs :=
 h.chg (Chg.of_grown hg) (fun g hg2 hs => hS g hg2 hs)
theorem lt (h : Sho w v n k cs) (hn : 0 < n) : ∀ g, v.ownBlock = some g → g < w.heap.size := by
 intro g hg
 rcases h.2 with ⟨rfl, _⟩ | ⟨g', o, c, rfl, h1, h2, h3, h4⟩
 ·omega
 ·have : g' = g := by simpa [Value.ownBlock] using hg
  omega
theorem cellAt {A : Option Addr} {m c : Nat} (h : Sho w (.slice A m c) n k cs) (j : Nat) (u : Value) (hj : cs[j]? = some u) : ∃ g o, A = some ⟨g, o, none⟩ ∧ g < w.heap.size ∧ n ≤ c ∧ c ≤ maxLen ∧ w.cell? ⟨g, o + j, none⟩ = some u := by
 have hlt := (List.getElem?_eq_some_iff.1 hj).1
 rcases h.2 with ⟨rfl, _⟩ | ⟨g, o, c', e, h1, h2, h3, h4⟩
 ·have := h.1; omega
 ·injection e with e1 e2 e3
  subst e3
  exact ⟨g, o, e1, h3, h1, h2, h4 j u hj⟩
theorem place {A : Option Addr} {m c : Nat} (h : Sho w (.slice A m c) n k cs) (hn : 0 < n) : ∃ g o, A = some ⟨g, o, none⟩ ∧ m = n ∧ g < w.heap.size ∧ n ≤ c ∧ c ≤ maxLen ∧ ∀ j u, cs[j]? = some u → w.cell? ⟨g, o + j, none⟩ = some u := by
 rcases h.2 with ⟨rfl, _⟩ | ⟨g, o, c', e, h1, h2, h3, h4⟩
 ·omega
 ·injection e with e1 e2 e3
  subst e3
  exact ⟨g, o, e1, e2, h3, h1, h2, h4⟩
theorem nil (w : World) (k : Nat) : Sho w (.slice none 0 0) 0 k [] := ⟨by simp, .inl ⟨rfl, _, _, rfl⟩⟩
theorem empty (w : World) (k : Nat) (A : Option Addr) (c : Nat) : Sho w (.slice A 0 c) 0 k [] := ⟨by simp, .inl ⟨rfl, _, _, rfl⟩⟩
theorem own {base : Nat} {e : TypeId} (h : w.ownsRow base e k v n cs) : Sho w v n k cs := by
 refine ⟨h.1, ?_⟩
 rcases h.2 with ⟨rfl, rfl⟩ | ⟨g, cap, cur, rfl, hb, hh, hle, hm, hs, ht⟩
 ·exact .inl ⟨rfl, _, _, rfl⟩
 ·refine .inr ⟨g, 0, cap, rfl, hle, hm, (Array.getElem?_eq_some_iff.1 hh).1, fun j u hj => ?_⟩
  have hlt := (List.getElem?_eq_some_iff.1 hj).1
  rw [← ht, List.getElem?_take_of_lt (by rw [h.1] at hlt; exact hlt)] at hj
  simp only [World.cell?, hh]
  simpa using hj
theorem new (w : World) (t : TypeId) (cs : List Value) (n k c : Nat) (hl : cs.length = n * k) (hc : n ≤ c) (hm : c ≤ maxLen) : Sho (w.alloc (.cells cs.toArray t)) (.slice (some ⟨w.heap.size, 0, none⟩) n c) n k cs :=
 ⟨hl, .inr ⟨_, 0, c, rfl, hc, hm, by simp, fun j u hj => by rw [Nat.zero_add]; exact (Blk.new w t cs).cell j u hj⟩⟩
theorem piece {g o c : Nat} {m : Nat} (h : Sho w (.slice (some ⟨g, o, none⟩) m c) n k cs) (hn : 0 < n) (a b c' : Nat) (hab : a + b ≤ n) (hb : b ≤ c') (hc' : c' ≤ maxLen) : Sho w (.slice (some ⟨g, o + a * k, none⟩) b c') b k ((cs.drop (a * k)).take (b * k)) := by
 obtain ⟨g', o', e, _, h3, h1, h2, h4⟩ := h.place hn
 injection e with e
 injection e with e1 e2
 subst e1 e2
 have hle : a * k + b * k ≤ cs.length := by rw [h.1, ← Nat.add_mul]; exact Nat.mul_le_mul_right _ hab
 refine ⟨by rw [List.length_take, List.length_drop]; omega, .inr ⟨_, _, c', rfl, hb, hc', h3, fun j u hj => ?_⟩⟩
 have hlt : j < b * k := by have := (List.getElem?_eq_some_iff.1 hj).1; rw [List.length_take] at this; omega
 rw [List.getElem?_take_of_lt hlt, List.getElem?_drop] at hj
 rw [Nat.add_assoc]
 exact h4 _ u hj
end Sho

def NewsOf (w : World) (x : Value) (m size : Nat) (news : List Value) : Prop :=
 news.length = m * size ∧ (∀ u ∈ news, u.oneCell' = true) ∧ ∃ A c, x = .slice A m c ∧ (m = 0 ∨ ∃ ad, A = some ad ∧ ∀ j u, news[j]? = some u → w.cell? (ad.add j) = some u)
theorem Sho.news {w : World} {v : Value} {n k : Nat} {cs : List Value} (h : Sho w v n k cs) (h1 : ∀ u ∈ cs, u.oneCell' = true) : NewsOf w v n k cs := by
 refine ⟨h.1, h1, ?_⟩
 rcases h.2 with ⟨rfl, A, c, e⟩ | ⟨g, o, c, e, _, _, _, h4⟩
 ·exact ⟨A, c, e, .inl rfl⟩
 ·exact ⟨_, c, e, .inr ⟨_, rfl, fun j u hj => by rw [Go.WideShapes.add_plain]; exact h4 j u hj⟩⟩
section
variable {P : Program} {w : World}
theorem run_append_none (t ty e : TypeId) (i : TypeInfo) (size base : Nat) (ht : P.underlying t = some (.slice e)) (hi : P.info? e = some i) (v : Value) (n : Nat) (xs : List Value) (hown : w.ownsRow base e size v n xs) (A : Option Addr) (c : Nat) :
  (Builtin.append_ #[t, t] ty #[v, .slice A 0 c]).run P w = .ok v w := by
 have hf : (Builtin.firstCells i.size 0 (.slice A 0 c)).run P w = .ok #[] w := by
  cases A <;> simp [Builtin.firstCells, loadCells, loadCellsFrom]
 rcases hown.2 with ⟨rfl, rfl⟩ | ⟨g, cap, cur, rfl, hbg, hg, hnc, hcm, hcs, htake⟩
 ·simp [Builtin.append_, run_underlying ht, sizeOf, typeInfo, hi, Builtin.lenOf, hf]
 ·simp [Builtin.append_, run_underlying ht, sizeOf, typeInfo, hi, Builtin.lenOf, hf, hnc, storeCells]
theorem run_append_any (base : Nat) (t ty e : TypeId) (i : TypeInfo) (z : Value) (size bytes : Nat) (ht : P.underlying t = some (.slice e)) (hi : P.info? e = some i) (hz : i.zero = some z)
  (hsize : i.size = size) (hby : i.bytes = bytes) (hzs : z.cells.size = size) (hsz : 0 < size)
  (v : Value) (n : Nat) (xs : List Value) (hown : w.ownsRow base e size v n xs)
  (x : Value) (m : Nat) (news : List Value) (hx : NewsOf w x m size news)
  (h63 : n + m ≤ maxLen) (hbytes : (n + m) * bytes ≤ 140737488355328) (hbase : base ≤ w.heap.size) :
  ∃ v' w', (Builtin.append_ #[t, t] ty #[v, x]).run P w = .ok v' w' ∧ w'.ownsRow base e size v' (n + m) (xs ++ news) ∧ w.grownBy w' v.ownBlock := by
 obtain ⟨hl, h1, A, c, rfl, hA⟩ := hx
 rcases hA with rfl | ⟨ad, rfl, hn⟩
 ·have hnil : news = [] := List.eq_nil_of_length_eq_zero (by simpa using hl)
  subst hnil
  exact ⟨v, w, run_append_none t ty e i size base ht hi v n xs hown A c, by simpa using hown, ⟨rfl, rfl, rfl, Nat.le_refl _, fun _ _ _ => rfl⟩⟩
 ·obtain ⟨v', w', hr, h2, h3, _⟩ := run_append_own (P := P) w base t ty e i z size bytes ht hi hz hsize hby hzs hsz v n xs hown ad m c news hl hn h1 h63 hbytes hbase
  exact ⟨v', w', hr, h2, h3⟩
theorem wpList_append_any {ops : Array Oper} {rest : List Oper} {o : Oper} {a : Act} {Q : Exit → Act → World → Prop} (hgd : o.guard = none) (s x : Operand) (t : TypeId)
  (ho : o.op = .call { callee := .builtin .append, args := #[s, x], argTypes := #[t, t] })
  (base : Nat) (e : TypeId) (i : TypeInfo) (z : Value) (size bytes : Nat) (ht : P.underlying t = some (.slice e)) (hi : P.info? e = some i) (hz : i.zero = some z)
  (hsize : i.size = size) (hby : i.bytes = bytes) (hzs : z.cells.size = size) (hsz : 0 < size)
  (v : Value) (n : Nat) (xs : List Value) (hs : a.eval s = v) (hown : w.ownsRow base e size v n xs)
  (y : Value) (m : Nat) (news : List Value) (hy : a.eval x = y) (hx : NewsOf w y m size news)
  (h63 : n + m ≤ maxLen) (hbytes : (n + m) * bytes ≤ 140737488355328) (hbase : base ≤ w.heap.size)
  (h : ∀ v' w', w'.ownsRow base e size v' (n + m) (xs ++ news) → w.grownBy w' v.ownBlock → wpList P ops Q rest (a.put o.dst v') w') : wpList P ops Q (o :: rest) a w :=
 wpList_plain hgd fun _ hK => by
  obtain ⟨v', w', hr, h2, h3⟩ := run_append_any (P := P) base t o.type e i z size bytes ht hi hz hsize hby hzs hsz v n xs hown y m news hx h63 hbytes hbase
  unfold Oper.wp execOp
  simp only [ho, resolve, invoke, builtin, Sem.run_bind, Sem.run_pure, Result.andThen_ok, List.map_toArray, List.map_cons, List.map_nil, hs, hy, hr]
  exact hK _ _ (h v' w' h2 h3)
theorem step_append_any {ops : Array Oper} {o : Oper} {a : Act} {K : Act → World → Prop} {Q : Exit → Act → World → Prop} {E : Prop} (hgd : o.guard = none) (s x : Operand) (t : TypeId)
  (ho : o.op = .call { callee := .builtin .append, args := #[s, x], argTypes := #[t, t] })
  (base : Nat) (e : TypeId) (i : TypeInfo) (z : Value) (size bytes : Nat) (ht : P.underlying t = some (.slice e)) (hi : P.info? e = some i) (hz : i.zero = some z)
  (hsize : i.size = size) (hby : i.bytes = bytes) (hzs : z.cells.size = size) (hsz : 0 < size)
  (v : Value) (n : Nat) (xs : List Value) (hs : a.eval s = v) (hown : w.ownsRow base e size v n xs)
  (y : Value) (m : Nat) (news : List Value) (hy : a.eval x = y) (hx : NewsOf w y m size news)
  (h63 : n + m ≤ maxLen) (hbytes : (n + m) * bytes ≤ 140737488355328) (hbase : base ≤ w.heap.size)
  (h : ∀ v' w', w'.ownsRow base e size v' (n + m) (xs ++ news) → w.grownBy w' v.ownBlock → K (a.put o.dst v') w') :
  if Region.wanted o (yielded ops a.tmps) = true then Oper.wp P o a w K Q else E := by
 have hw : Region.wanted o (yielded ops a.tmps) = true := by simp [Region.wanted, hgd]
 rw [if_pos hw]
 obtain ⟨v', w', hr, h2, h3⟩ := run_append_any (P := P) base t o.type e i z size bytes ht hi hz hsize hby hzs hsz v n xs hown y m news hx h63 hbytes hbase
 unfold Oper.wp execOp
 simp only [ho, resolve, invoke, builtin, Sem.run_bind, Sem.run_pure, Result.andThen_ok, List.map_toArray, List.map_cons, List.map_nil, hs, hy, hr]
 exact h v' w' h2 h3
end
theorem own_mono' {w : World} {b b' : Nat} {e : TypeId} {size n : Nat} {v : Value} {xs : List Value} (h : w.ownsRow b e size v n xs) (hb : b' ≤ b) : w.ownsRow b' e size v n xs := by
 refine ⟨h.1, ?_⟩
 rcases h.2 with h2 | ⟨g, cap, cur, e1, hg, r⟩
 ·exact .inl h2
 ·exact .inr ⟨g, cap, cur, e1, Nat.le_trans hb hg, r⟩
theorem own_none {w : World} {base g : Nat} {t : TypeId} {size : Nat} (h : Blk w g t []) (hb : base ≤ g) : w.ownsRow base t size (.slice (some ⟨g, 0, none⟩) 0 0) 0 [] :=
 ⟨by simp, .inr ⟨g, 0, #[], rfl, hb, h, Nat.le_refl _, Nat.zero_le _, by simp, by simp⟩⟩
theorem own_new {w : World} {base size n : Nat} (t : TypeId) (cs : List Value) (hl : cs.length = n * size) (hm : n ≤ maxLen) (hb : base ≤ w.heap.size) : (w.alloc (.cells cs.toArray t)).ownsRow base t size (.slice (some ⟨w.heap.size, 0, none⟩) n n) n cs :=
 ⟨hl, .inr ⟨_, n, cs.toArray, rfl, hb, Blk.new w t cs, Nat.le_refl _, hm, by simpa using hl, by simp [← hl]⟩⟩
theorem news1 (w : World) (t : TypeId) (u : Value) (h : u.oneCell' = true) : NewsOf (w.alloc (.cells #[u] t)) (.slice (some ⟨w.heap.size, 0, none⟩) 1 1) 1 1 [u] :=
 (Sho.new w t [u] 1 1 1 rfl (Nat.le_refl _) (by decide)).news (fun x hx => by simp at hx; subst hx; exact h)
theorem news1_drew (w : World) (t : TypeId) (u : Value) (h : u.oneCell' = true) : NewsOf (w.alloc (.cells #[u] t)).drew (.slice (some ⟨w.heap.size, 0, none⟩) 1 1) 1 1 [u] := news1 w t u h
def bys (l : List UInt8) : List Value := l.map (fun b => Value.int .u8 (b.toNat : Nat))
theorem bys_length (l : List UInt8) : (bys l).length = l.length := by simp [bys]
theorem bys_append (l m : List UInt8) : bys (l ++ m) = bys l ++ bys m := by simp [bys]
theorem bys_one (l : List UInt8) : ∀ u ∈ bys l, u.oneCell' = true := by
 intro u hu
 unfold bys at hu
 obtain ⟨b, _, rfl⟩ := List.mem_map.1 hu
 rfl
theorem bys_at (l : List UInt8) (k : Nat) (h : k < l.length) : (bys l)[k]? = some (.int .u8 (l[k].toNat : Nat)) := by simp [bys, List.getElem?_eq_getElem h]
theorem bys_drop (l : List UInt8) (n : Nat) : bys (l.drop n) = (bys l).drop n := by simp [bys, List.map_drop]
theorem bys_take (l : List UInt8) (n : Nat) : bys (l.take n) = (bys l).take n := by simp [bys, List.map_take]
def Bys (w : World) (v : Value) (l : List UInt8) : Prop := Sho w v l.length 1 (bys l)
def OwnB (w : World) (base : Nat) (v : Value) (l : List UInt8) : Prop := w.ownsRow base 5 1 v l.length (bys l)
theorem info_u8 : (Tryz.prog.info? 5).map (fun i => (i.zero, i.size, i.bytes)) = some (some (.int .u8 0), 1, 1) := by kernel_rfl
theorem OwnB.bys {w : World} {base : Nat} {v : Value} {l : List UInt8} (h : OwnB w base v l) : Bys w v l := Sho.own h
theorem OwnB.form {w : World} {base : Nat} {v : Value} {l : List UInt8} (h : OwnB w base v l) : ∃ A c, v = .slice A l.length c := h.bys.form
theorem OwnB.ge {w : World} {base : Nat} {v : Value} {l : List UInt8} (h : OwnB w base v l) {j : Nat} (e : v.ownBlock = some j) : base ≤ j := (World.ownsRow.lt h j e).1
theorem Bys.news {w : World} {v : Value} {l : List UInt8} (h : Bys w v l) : NewsOf w v l.length 1 (Go.Proofs.YtgeplpdcnanmnaaGreat.bys l) := Sho.news h (bys_one l)
theorem Bys.form {w : World} {v : Value} {l : List UInt8} (h : Bys w v l) : ∃ A c, v = .slice A l.length c := Sho.form h
theorem Bys.byteAt {w : World} {A : Option Addr} {m c : Nat} {l : List UInt8} (h : Bys w (.slice A m c) l) (k : Nat) (hk : k < l.length) : ∃ g o, A = some ⟨g, o, none⟩ ∧ g < w.heap.size ∧ l.length ≤ c ∧ c ≤ maxLen ∧ w.cell? ⟨g, o + k, none⟩ = some (.int .u8 (l[k].toNat : Nat)) :=
 Sho.cellAt h k _ (bys_at l k hk)
theorem Bys.place {w : World} {A : Option Addr} {m c : Nat} {l : List UInt8} (h : Bys w (.slice A m c) l) (hn : 0 < l.length) : ∃ g o, A = some ⟨g, o, none⟩ ∧ m = l.length ∧ g < w.heap.size ∧ l.length ≤ c ∧ c ≤ maxLen ∧ ∀ k (hk : k < l.length), w.cell? ⟨g, o + k, none⟩ = some (.int .u8 (l[k].toNat : Nat)) := by
 obtain ⟨g, o, e1, e2, h3, h1, h2, h4⟩ := Sho.place h hn
 exact ⟨g, o, e1, e2, h3, h1, h2, fun k hk => h4 k _ (bys_at l k hk)⟩
theorem Bys.below {w w1 : World} {v : Value} {l : List UInt8} (h : Bys w v l) (hb : Below w.heap.size w w1) : Bys w1 v l := Sho.below h hb
theorem Bys.new (w : World) (l : List UInt8) (n : Nat) (hn : l.length = n) (hm : n ≤ 1000000) : NewsOf (w.alloc (.cells (Go.Proofs.YtgeplpdcnanmnaaGreat.bys l).toArray 5)) (.slice (some ⟨w.heap.size, 0, none⟩) n n) n 1 (Go.Proofs.YtgeplpdcnanmnaaGreat.bys l) :=
 (Sho.new w 5 (Go.Proofs.YtgeplpdcnanmnaaGreat.bys l) n 1 n (by rw [bys_length]; omega) (Nat.le_refl _) (by unfold maxLen; omega)).news (bys_one l)
def ub (y : Int) : UInt8 := UInt8.ofNat (y % 256).toNat
theorem ub_val (y : Int) : (((ub y).toNat : Nat) : Int) = y % 256 := by
 have h : (ub y).toNat = (y % 256).toNat % 256 := UInt8.toNat_ofNat'
 rw [h]
 omega
theorem OwnB.append {w : World} {base : Nat} {v : Value} {l m : List UInt8} {n : Nat} (hn : m.length = n) (h : w.ownsRow base 5 1 v (l.length + n) (Go.Proofs.YtgeplpdcnanmnaaGreat.bys l ++ Go.Proofs.YtgeplpdcnanmnaaGreat.bys m)) : OwnB w base v (l ++ m) := by
 unfold OwnB
 rw [List.length_append, bys_append, hn]
 exact h
theorem OwnB.keep {w w1 : World} {base : Nat} {v : Value} {l : List UInt8} (h : OwnB w base v l) (hb : Below w.heap.size w w1) : OwnB w1 base v l := ownsRow_chg h (Chg.of_below (S := fun _ => False) hb) (fun _ _ h => h)
def lenV : Value → Nat | .slice _ n _ => n | _ => 0
theorem Bys.tail {w : World} {g o c m : Nat} {D : List UInt8} (h : Bys w (.slice (some ⟨g, o, Option.none⟩) m c) D) (h0 : 0 < D.length) (k : Nat) (hk : k ≤ D.length) : Bys w (.slice (some ⟨g, o + k, Option.none⟩) (D.length - k) (c - k)) (D.drop k) := by
 obtain ⟨g', o', e1, e2, h3, h1, h2, h4⟩ := Sho.place h h0
 have hp := Sho.piece h h0 k (D.length - k) (c - k) (by omega) (by omega) (by omega)
 unfold Bys
 rw [bys_drop, List.length_drop]
 rw [Nat.mul_one] at hp
 rwa [List.take_of_length_le (by rw [List.length_drop, bys_length]; omega)] at hp
theorem Bys.tail_end {w : World} {A : Option Addr} {c : Nat} {D : List UInt8} (k : Nat) (hk : D.length = k) : Bys w (.slice A (D.length - k) c) (D.drop k) := by
 unfold Bys
 rw [List.drop_of_length_le (by omega), show D.length - k = 0 by omega]
 exact Sho.empty w 1 A c
theorem Bys.new_drew (w : World) (l : List UInt8) (n : Nat) (hn : l.length = n) (hm : n ≤ 1000000) : NewsOf (w.alloc (.cells (Go.Proofs.YtgeplpdcnanmnaaGreat.bys l).toArray 5)).drew (.slice (some ⟨w.heap.size, 0, Option.none⟩) n n) n 1 (Go.Proofs.YtgeplpdcnanmnaaGreat.bys l) := Bys.new w l n hn hm
theorem OwnB.any {w : World} {base : Nat} {v : Value} {l : List UInt8} (h : OwnB w base v l) : w.ownsRow base 5 1 v l.length (Go.Proofs.YtgeplpdcnanmnaaGreat.bys l) := h
def Rws (w : World) (v : Value) (ls : List (List UInt8)) : Prop := ∃ us : List Value, Sho w v ls.length 1 us ∧ ∀ i (h : i < ls.length), ∃ u, us[i]? = some u ∧ Bys w u ls[i]
namespace Rws
variable {w w1 : World} {v : Value} {ls : List (List UInt8)}
theorem form (h : Rws w v ls) : ∃ A c, v = .slice A ls.length c := by
 obtain ⟨us, h1, _⟩ := h
 exact h1.form
theorem below (h : Rws w v ls) (hb : Below w.heap.size w w1) : Rws w1 v ls := by
 obtain ⟨us, h1, h2⟩ := h
 exact ⟨us, h1.below hb, fun i hi => by obtain ⟨u, e, hu⟩ := h2 i hi; exact ⟨u, e, hu.below hb⟩⟩
theorem at' {A : Option Addr} {n c : Nat} (h : Rws w (.slice A n c) ls) (i : Nat) (hi : i < ls.length) : ∃ g o u, A = some ⟨g, o, none⟩ ∧ g < w.heap.size ∧ n = ls.length ∧ ls.length ≤ c ∧ w.cell? ⟨g, o + i, none⟩ = some u ∧ Bys w u ls[i] := by
 obtain ⟨us, h1, h2⟩ := h
 obtain ⟨u, e, hu⟩ := h2 i hi
 obtain ⟨g, o, e1, e2, h3, h4, _, h5⟩ := h1.place (by omega)
 exact ⟨g, o, u, e1, h3, e2, h4, h5 i u e, hu⟩
theorem new (w : World) (t : TypeId) (us : List Value) (ls : List (List UInt8)) (n c : Nat) (hn : ls.length = n) (hl : us.length = ls.length) (hc : n ≤ c) (hm : c ≤ maxLen) (h : ∀ i u (hi : i < ls.length), us[i]? = some u → Bys w u ls[i]) : Rws (w.alloc (.cells us.toArray t)) (.slice (some ⟨w.heap.size, 0, none⟩) n c) ls := by
 subst hn
 refine ⟨us, Sho.new w t us ls.length 1 c (by omega) hc hm, fun i hi => ?_⟩
 have hi' : i < us.length := by omega
 exact ⟨us[i], List.getElem?_eq_getElem hi', (h i us[i] hi (List.getElem?_eq_getElem hi')).below ((Below.refl _ _).alloc (Nat.le_refl _) _)⟩
theorem nil (w : World) : Rws w (.slice none 0 0) [] := ⟨[], Sho.nil w 1, fun i hi => absurd hi (Nat.not_lt_zero _)⟩
end Rws
theorem new1 {w : World} (t : TypeId) {b : Nat} (hb : w.heap.size = b) {u : Value} {l : List UInt8} (h : Bys w u l) : Rws (w.alloc (.cells #[u] t)) (.slice (some ⟨b, 0, none⟩) 1 1) [l] := hb ▸
 Rws.new w t [u] [l] 1 1 rfl rfl (Nat.le_refl _) (by decide) (fun i x hi hx => by
  obtain rfl : i = 0 := by simpa using hi
  simp at hx; subst hx; exact h)
theorem new2 {w : World} (t : TypeId) {b : Nat} (hb : w.heap.size = b) {u u' : Value} {l l' : List UInt8} (h : Bys w u l) (h' : Bys w u' l') : Rws (w.alloc (.cells #[u, u'] t)) (.slice (some ⟨b, 0, none⟩) 2 2) [l, l'] := hb ▸
 Rws.new w t [u, u'] [l, l'] 2 2 rfl rfl (Nat.le_refl _) (by decide) (fun i x hi hx => by
  obtain rfl | rfl : i = 0 ∨ i = 1 := by simp at hi; omega
  ·simp at hx; subst hx; exact h
  ·simp at hx; subst hx; exact h')
theorem new3 {w : World} (t : TypeId) {b : Nat} (hb : w.heap.size = b) {u u' u'' : Value} {l l' l'' : List UInt8} (h : Bys w u l) (h' : Bys w u' l') (h'' : Bys w u'' l'') : Rws (w.alloc (.cells #[u, u', u''] t)) (.slice (some ⟨b, 0, none⟩) 3 3) [l, l', l''] := hb ▸
 Rws.new w t [u, u', u''] [l, l', l''] 3 3 rfl rfl (Nat.le_refl _) (by decide) (fun i x hi hx => by
  obtain rfl | rfl | rfl : i = 0 ∨ i = 1 ∨ i = 2 := by simp at hi; omega
  ·simp at hx; subst hx; exact h
  ·simp at hx; subst hx; exact h'
  ·simp at hx; subst hx; exact h'')
def OwnR (w : World) (base : Nat) (v : Value) (ls : List (List UInt8)) : Prop :=
 ∃ us, w.ownsRow base 24 1 v ls.length us ∧ ∀ i (h : i < ls.length), ∃ u, us[i]? = some u ∧ Bys w u ls[i] ∧ (0 < ls[i].length → u.ownBlock ≠ v.ownBlock ∧ ∀ g, u.ownBlock = some g → base ≤ g)
theorem OwnR.nil (w : World) (base : Nat) : OwnR w base (.slice none 0 0) [] := ⟨[], World.ownsRow_nil _ _ _ _, fun i h => absurd h (Nat.not_lt_zero _)⟩
theorem OwnR.rws {w : World} {base : Nat} {v : Value} {ls : List (List UInt8)} (h : OwnR w base v ls) : Rws w v ls := by
 obtain ⟨us, h1, h2⟩ := h
 exact ⟨us, Sho.own h1, fun i hi => by obtain ⟨u, e, hu, _⟩ := h2 i hi; exact ⟨u, e, hu⟩⟩
theorem OwnR.ge {w : World} {base : Nat} {v : Value} {ls : List (List UInt8)} (h : OwnR w base v ls) {j : Nat} (e : v.ownBlock = some j) : base ≤ j := by
 obtain ⟨us, h1, _⟩ := h
 exact (World.ownsRow.lt h1 j e).1
theorem OwnR.lt {w : World} {base : Nat} {v : Value} {ls : List (List UInt8)} (h : OwnR w base v ls) {j : Nat} (e : v.ownBlock = some j) : j < w.heap.size := by
 obtain ⟨us, h1, _⟩ := h
 exact (World.ownsRow.lt h1 j e).2
theorem OwnR.keep {w w1 : World} {base : Nat} {v : Value} {ls : List (List UInt8)} (h : OwnR w base v ls) (hb : Below w.heap.size w w1) : OwnR w1 base v ls := by
 obtain ⟨us, h1, h2⟩ := h
 exact ⟨us, ownsRow_chg h1 (Chg.of_below (S := fun _ => False) hb) (fun _ _ h => h), fun i hi => by obtain ⟨u, e, hu, hn⟩ := h2 i hi; exact ⟨u, e, hu.below hb, hn⟩⟩
theorem OwnR.push {w W : World} {base g cap : Nat} {v u : Value} {ls : List (List UInt8)} {l : List UInt8} {us : List Value} {t : TypeId} {cs : Array Value}
  (h1 : ∀ i (h : i < ls.length), ∃ u, us[i]? = some u ∧ Bys w u ls[i] ∧ (0 < ls[i].length → u.ownBlock ≠ v.ownBlock ∧ ∀ g, u.ownBlock = some g → base ≤ g)) (hl : us.length = ls.length)
  (hu : Bys w u l) (hun : 0 < l.length → u.ownBlock ≠ v.ownBlock ∧ ∀ g, u.ownBlock = some g → base ≤ g)
  (ho : W.ownsRow base 24 1 (.slice (some ⟨g, 0, none⟩) (ls.length + 1) cap) (ls.length + 1) (us ++ [u])) (hg : (w.alloc (.cells cs t)).grownBy W v.ownBlock) (hlie : v.ownBlock = some g ∨ g = w.heap.size + 1) :
  OwnR W base (.slice (some ⟨g, 0, none⟩) (ls.length + 1) cap) (ls ++ [l]) := by
 have keep : ∀ (x : Value) (m : List UInt8), Bys w x m → (0 < m.length → x.ownBlock ≠ v.ownBlock ∧ ∀ g, x.ownBlock = some g → base ≤ g) → Bys W x m ∧ (0 < m.length → x.ownBlock ≠ some g ∧ ∀ g, x.ownBlock = some g → base ≤ g) := by
  intro x m hx hn
  have hx1 : Bys (w.alloc (.cells cs t)) x m := hx.below ((Below.refl _ _).alloc (Nat.le_refl _) _)
  rcases Nat.eq_zero_or_pos m.length with h0 | h0
  ·have hm : m = [] := List.length_eq_zero_iff.1 h0
   subst hm
   obtain ⟨A, c, rfl⟩ := hx.form
   exact ⟨Sho.empty W 1 A c, fun h => absurd h (Nat.lt_irrefl _)⟩
  ·refine ⟨Sho.grown hx1 hg (fun q hq e => (hn h0).1 (by rw [hq, ← e])), fun _ => ⟨fun e => ?_, (hn h0).2⟩⟩
   rcases hlie with hlie | hlie
   ·exact (hn h0).1 (by rw [e, hlie])
   ·have := hx.lt h0 g e
    omega
 refine ⟨us ++ [u], by rw [List.length_append]; exact ho, fun i hi => ?_⟩
 by_cases hi' : i < ls.length
 ·obtain ⟨x, e, hx, hn⟩ := h1 i hi'
  obtain ⟨k1, k2⟩ := keep x ls[i] hx hn
  refine ⟨x, by rw [List.getElem?_append_left (by omega)]; exact e, ?_, ?_⟩
  ·rw [List.getElem_append_left hi']; exact k1
  ·rw [List.getElem_append_left hi']; exact k2
 ·have : i = ls.length := by simp at hi; omega
  subst this
  obtain ⟨k1, k2⟩ := keep u l hu hun
  refine ⟨u, by rw [List.getElem?_append_right (by omega), hl]; simp, ?_, ?_⟩
  ·rw [List.getElem_append_right (Nat.le_refl _)]; simpa using k1
  ·intro h0
   exact k2 (by rw [List.getElem_append_right (Nat.le_refl _)] at h0; simpa using h0)
def RwsF (S : Nat → Prop) (w : World) (v : Value) (ls : List (List UInt8)) : Prop :=
 ∃ us, Sho w v ls.length 1 us ∧ (0 < ls.length → ∀ g, v.ownBlock = some g → S g) ∧ ∀ i (h : i < ls.length), ∃ u, us[i]? = some u ∧ Bys w u ls[i] ∧ (0 < ls[i].length → ∀ g, u.ownBlock = some g → S g)
theorem RwsF.rws {S : Nat → Prop} {w : World} {v : Value} {ls : List (List UInt8)} (h : RwsF S w v ls) : Rws w v ls := by
 obtain ⟨us, h1, _, h2⟩ := h
 exact ⟨us, h1, fun i hi => by obtain ⟨u, e, hu, _⟩ := h2 i hi; exact ⟨u, e, hu⟩⟩
theorem Sho.chgF {S T : Nat → Prop} {w w1 : World} {v : Value} {n k : Nat} {cs : List Value} (h : Sho w v n k cs) (hf : 0 < n → ∀ g, v.ownBlock = some g → S g) (hc : Chg w w1 T) (hS : ∀ g, S g → ¬ T g) : Sho w1 v n k cs := by
 rcases Nat.eq_zero_or_pos n with h0 | h0
 ·subst h0
  obtain ⟨A, c, rfl⟩ := h.form
  have : cs = [] := List.length_eq_zero_iff.1 (by simpa using h.1)
  subst this
  exact Sho.empty w1 k A c
 ·exact h.chg hc (fun g hg => hS g (hf h0 g hg))
theorem RwsF.chg {S T : Nat → Prop} {w w1 : World} {v : Value} {ls : List (List UInt8)} (h : RwsF S w v ls) (hc : Chg w w1 T) (hS : ∀ g, S g → ¬ T g) : RwsF S w1 v ls := by
 obtain ⟨us, h1, hf, h2⟩ := h
 exact ⟨us, h1.chgF hf hc hS, hf, fun i hi => by obtain ⟨u, e, hu, hn⟩ := h2 i hi; exact ⟨u, e, Sho.chgF hu hn hc hS, hn⟩⟩
theorem RwsF.mono {S T : Nat → Prop} {w : World} {v : Value} {ls : List (List UInt8)} (h : RwsF S w v ls) (hS : ∀ g, S g → T g) : RwsF T w v ls := by
 obtain ⟨us, h1, hf, h2⟩ := h
 exact ⟨us, h1, fun h0 g hg => hS g (hf h0 g hg), fun i hi => by obtain ⟨u, e, hu, hn⟩ := h2 i hi; exact ⟨u, e, hu, fun h0 g hg => hS g (hn h0 g hg)⟩⟩
theorem OwnR.foot {w : World} {base : Nat} {v : Value} {ls : List (List UInt8)} (h : OwnR w base v ls) : RwsF (fun g => base ≤ g ∧ g < w.heap.size) w v ls := by
 have h' := h
 obtain ⟨us, h1, h2⟩ := h
 refine ⟨us, Sho.own h1, fun _ g hg => ⟨h'.ge hg, h'.lt hg⟩, fun i hi => ?_⟩
 obtain ⟨u, e, hu, hn⟩ := h2 i hi
 exact ⟨u, e, hu, fun h0 g hg => ⟨(hn h0).2 g hg, Sho.lt hu h0 g hg⟩⟩
theorem info_bytes : (Tryz.prog.info? 24).map (fun i => (i.zero, i.size, i.bytes)) = some (some (.slice none 0 0), 1, 24) := by kernel_rfl
theorem flat_take (ls : List (List UInt8)) (k : Nat) (h : k < ls.length) : (ls.take (k + 1)).flatten = (ls.take k).flatten ++ ls[k] := by
 rw [List.take_succ_eq_append_getElem h, List.flatten_append, List.flatten_cons, List.flatten_nil, List.append_nil]
theorem flat_le (ls : List (List UInt8)) (k : Nat) : (ls.take k).flatten.length ≤ ls.flatten.length := by
 conv => rhs; rw [← List.take_append_drop k ls, List.flatten_append, List.length_append]
 omega
theorem bys_u8 (b : UInt8) (t : Int) (h : ((b.toNat : Nat) : Int) = t) : bys [b] = [.int .u8 t] := by subst h; rfl
theorem Sho.none {w : World} {n k c : Nat} {cs : List Value} (h : Sho w (.slice Option.none n c) n k cs) : n = 0 := by
 rcases Nat.eq_zero_or_pos n with h0 | h0
 ·exact h0
 ·obtain ⟨g, o, e, _⟩ := h.place h0
  cases e
set_option maxHeartbeats 1000000 in
theorem eqnil_bytes (w : World) (a : Option Addr) (n c n' c' : Nat) : (binOp .eql 24 (.slice a n c) (.slice none n' c')).run Tryz.prog w = .ok (.bool a.isNone) w := Lib.run_eql_slice_nil w _ _ a n c n' c' Tryz.underlying24
set_option maxRecDepth 100000 in
theorem clone_any (v : Value) (l : List UInt8) (hsm : l.length ≤ 1000000000000) (w : World) (hx : Bys w v l) :
  Calls Tryz.prog 107 #[v] w fun e w' => ∃ v', e = .returned v' ∧ OwnB w' w.heap.size v' l ∧ Below w.heap.size w w' := by
 obtain ⟨i0, hi0, hz0, hz1, hz2⟩ := info_parts info_u8
 obtain ⟨A, c, rfl⟩ := hx.form
 cases A with
 | none =>
  have h0 := Sho.none hx
  have HL := Lib.hid (List.length_eq_zero_iff.1 h0)
  have qn := eqnil_bytes
  go_enter Tryz.func107, Tryz.ntmps107
  go_wp2
  go_ret
  exact ⟨_, rfl, by rw [HL.out]; exact World.ownsRow_nil _ _ _ _, Below.refl _ _⟩
 | some a =>
  have HX := Lib.hid (hx.below ((Below.refl w.heap.size w).alloc (Nat.le_refl _) (.cells #[] 5)))
  have HNB : Hid (Blk (w.alloc (.cells #[] 5)) w.heap.size 5 []) := Lib.hid (Blk.new w 5 [])
  clear hx
  have qn := eqnil_bytes
  go_enter Tryz.func107, Tryz.ntmps107
  go_wp2_with (at_builtin; (refine wpList_append_any rfl (.tmp 5) (.tmp 6) 24 rfl w.heap.size 5 i0 (.int .u8 0) 1 1 Tryz.underlying24 hi0 hz0 hz1 hz2 rfl (by decide) _ 0 [] rfl (own_none HNB.out (Nat.le_refl _)) _ l.length (bys l) rfl HX.out.news (by unfold maxLen; omega) (by omega) (by simp) ?_); intro v2 W2 hown2 hgrow2; have HB2 : Hid (Below w.heap.size w W2) := Lib.hid (((Below.refl w.heap.size w).alloc (Nat.le_refl _) _).grown hgrow2 (by simp) (fun k e => by have e' : some w.heap.size = some k := e; injection e' with e'; omega)); have HO2 : Hid (OwnB W2 w.heap.size v2 l) := Lib.hid (by unfold OwnB; simpa only [Nat.zero_add, List.nil_append] using hown2); clear hown2 hgrow2)
  go_ret
  exact ⟨_, rfl, HO2.out, HB2.out⟩
theorem run_string_bys (w : World) (v : Value) (l : List UInt8) (h : Bys w v l) : (convert 24 9 v).run Tryz.prog w = .ok (.string ⟨l.toArray⟩) w := by
 obtain ⟨A, c, rfl⟩ := h.form
 rcases Nat.eq_zero_or_pos l.length with h0 | h0
 ·have hl : l = [] := List.length_eq_zero_iff.1 h0
  subst hl
  cases A with
  | none => exact Lib.run_convert_nil_bytes w _ _ _ c Tryz.underlying24 Tryz.underlying5 Tryz.underlying9
  | some a => exact run_convert_bytes_back w _ _ _ a c [] Tryz.underlying24 Tryz.underlying5 Tryz.underlying9 (fun j hj => absurd hj (Nat.not_lt_zero _))
 ·obtain ⟨g, o, rfl, -, -, -, -, hc⟩ := h.place h0
  exact run_convert_bytes_back w _ _ _ ⟨g, o, none⟩ c l Tryz.underlying24 Tryz.underlying5 Tryz.underlying9 (fun j hj => by rw [Go.WideShapes.add_plain]; exact hc j hj)
set_option maxRecDepth 100000 in
theorem equal_any (u v : Value) (l m : List UInt8) (w : World) (hu : Bys w u l) (hv : Bys w v m) :
  Calls Tryz.prog 154 #[u, v] w fun e w' => e = .returned (.bool (l == m)) ∧ w = w' := by
 have c1 := run_string_bys w u l hu
 have c2 := run_string_bys w v m hv
 clear hu hv
 go_enter Tryz.func154, Tryz.ntmps154
 go_wp2
 go_ret
 exact ⟨rfl, rfl⟩
theorem same_bytes (u v : Value) (l m : List UInt8) (w : World) (hu : Bys w u l) (hv : Bys w v m) :
  Calls Tryz.prog 101 #[u, v] w fun e w' => e = .returned (.bool (l == m)) ∧ w = w' := by
 have H := Lib.hid (equal_any u v l m w hu hv)
 clear hu hv
 go_enter Tryz.func101, Tryz.ntmps101
 go_wp2_with fail
 refine H.out.mono ?_
 rintro e w' ⟨rfl, rfl⟩
 go_wp2
 go_ret
 exact ⟨rfl, rfl⟩
def LieOf (w : World) (v v' : Value) : Prop := v'.ownBlock = v.ownBlock ∨ ∃ q, v'.ownBlock = some q ∧ w.heap.size ≤ q
section
variable {P : Program} {w : World}
theorem run_append_lie (base : Nat) (t ty e : TypeId) (i : TypeInfo) (z : Value) (size bytes : Nat) (ht : P.underlying t = some (.slice e)) (hi : P.info? e = some i) (hz : i.zero = some z)
  (hsize : i.size = size) (hby : i.bytes = bytes) (hzs : z.cells.size = size) (hsz : 0 < size)
  (v : Value) (n : Nat) (xs : List Value) (hown : w.ownsRow base e size v n xs)
  (x : Value) (m : Nat) (news : List Value) (hx : NewsOf w x m size news)
  (h63 : n + m ≤ maxLen) (hbytes : (n + m) * bytes ≤ 140737488355328) (hbase : base ≤ w.heap.size) :
  ∃ v' w', (Builtin.append_ #[t, t] ty #[v, x]).run P w = .ok v' w' ∧ w'.ownsRow base e size v' (n + m) (xs ++ news) ∧ w.grownBy w' v.ownBlock ∧ LieOf w v v' := by
 obtain ⟨hl, h1, A, c, rfl, hA⟩ := hx
 rcases hA with rfl | ⟨ad, rfl, hn⟩
 ·have hnil : news = [] := List.eq_nil_of_length_eq_zero (by simpa using hl)
  subst hnil
  exact ⟨v, w, run_append_none t ty e i size base ht hi v n xs hown A c, by simpa using hown, ⟨rfl, rfl, rfl, Nat.le_refl _, fun _ _ _ => rfl⟩, .inl rfl⟩
 ·obtain ⟨v', w', hr, h2, h3, _, h5⟩ := run_append_own_at (P := P) w base t ty e i z size bytes ht hi hz hsize hby hzs hsz v n xs hown ad m c news hl hn h1 h63 hbytes hbase
  refine ⟨v', w', hr, h2, h3, ?_⟩
  rcases h5 with h5 | h5
  ·exact .inl h5
  ·exact .inr ⟨_, h5, Nat.le_refl _⟩
theorem wpList_append_lie {ops : Array Oper} {rest : List Oper} {o : Oper} {a : Act} {Q : Exit → Act → World → Prop} (hgd : o.guard = none) (s x : Operand) (t : TypeId)
  (ho : o.op = .call { callee := .builtin .append, args := #[s, x], argTypes := #[t, t] })
  (base : Nat) (e : TypeId) (i : TypeInfo) (z : Value) (size bytes : Nat) (ht : P.underlying t = some (.slice e)) (hi : P.info? e = some i) (hz : i.zero = some z)
  (hsize : i.size = size) (hby : i.bytes = bytes) (hzs : z.cells.size = size) (hsz : 0 < size)
  (v : Value) (n : Nat) (xs : List Value) (hs : a.eval s = v) (hown : w.ownsRow base e size v n xs)
  (y : Value) (m : Nat) (news : List Value) (hy : a.eval x = y) (hx : NewsOf w y m size news)
  (h63 : n + m ≤ maxLen) (hbytes : (n + m) * bytes ≤ 140737488355328) (hbase : base ≤ w.heap.size)
  (h : ∀ v' w', w'.ownsRow base e size v' (n + m) (xs ++ news) → w.grownBy w' v.ownBlock → LieOf w v v' → wpList P ops Q rest (a.put o.dst v') w') : wpList P ops Q (o :: rest) a w :=
 wpList_plain hgd fun _ hK => by
  obtain ⟨v', w', hr, h2, h3, h4⟩ := run_append_lie (P := P) base t o.type e i z size bytes ht hi hz hsize hby hzs hsz v n xs hown y m news hx h63 hbytes hbase
  unfold Oper.wp execOp
  simp only [ho, resolve, invoke, builtin, Sem.run_bind, Sem.run_pure, Result.andThen_ok, List.map_toArray, List.map_cons, List.map_nil, hs, hy, hr]
  exact hK _ _ (h v' w' h2 h3 h4)
theorem step_append_lie {ops : Array Oper} {o : Oper} {a : Act} {K : Act → World → Prop} {Q : Exit → Act → World → Prop} {E : Prop} (hgd : o.guard = none) (s x : Operand) (t : TypeId)
  (ho : o.op = .call { callee := .builtin .append, args := #[s, x], argTypes := #[t, t] })
  (base : Nat) (e : TypeId) (i : TypeInfo) (z : Value) (size bytes : Nat) (ht : P.underlying t = some (.slice e)) (hi : P.info? e = some i) (hz : i.zero = some z)
  (hsize : i.size = size) (hby : i.bytes = bytes) (hzs : z.cells.size = size) (hsz : 0 < size)
  (v : Value) (n : Nat) (xs : List Value) (hs : a.eval s = v) (hown : w.ownsRow base e size v n xs)
  (y : Value) (m : Nat) (news : List Value) (hy : a.eval x = y) (hx : NewsOf w y m size news)
  (h63 : n + m ≤ maxLen) (hbytes : (n + m) * bytes ≤ 140737488355328) (hbase : base ≤ w.heap.size)
  (h : ∀ v' w', w'.ownsRow base e size v' (n + m) (xs ++ news) → w.grownBy w' v.ownBlock → LieOf w v v' → K (a.put o.dst v') w') :
  if Region.wanted o (yielded ops a.tmps) = true then Oper.wp P o a w K Q else E := by
 have hw : Region.wanted o (yielded ops a.tmps) = true := by simp [Region.wanted, hgd]
 rw [if_pos hw]
 obtain ⟨v', w', hr, h2, h3, h4⟩ := run_append_lie (P := P) base t o.type e i z size bytes ht hi hz hsize hby hzs hsz v n xs hown y m news hx h63 hbytes hbase
 unfold Oper.wp execOp
 simp only [ho, resolve, invoke, builtin, Sem.run_bind, Sem.run_pure, Result.andThen_ok, List.map_toArray, List.map_cons, List.map_nil, hs, hy, hr]
 exact h v' w' h2 h3 h4
end
theorem LieOf.ne {w : World} {v v' : Value} {b : Nat} (h : LieOf w v v') (hne : v.ownBlock ≠ some b) (hb : b < w.heap.size) : v'.ownBlock ≠ some b := by
 rcases h with e | ⟨q, e, hq⟩
 ·rw [e]; exact hne
 ·rw [e]
  intro e2
  injection e2 with e2
  omega
def OwnG (w : World) (base : Nat) (e : TypeId) (size : Nat) (v : Value) (n : Nat) (xs : List Value) : Prop :=
 w.ownsRow base e size v n xs ∨
 (xs.length = n * size ∧ ∃ g cap cur fz, v = .slice (some ⟨g, 0, none⟩) n cap ∧ base ≤ g ∧ w.heap[g]? = some (.cells cur e fz) ∧ cur.size ≤ fz.1 ∧ n ≤ cap ∧ cap ≤ maxLen ∧ cur.size = cap * size ∧ cur.toList.take (n * size) = xs)
namespace OwnG
variable {w w1 : World} {base : Nat} {e : TypeId} {size n : Nat} {v : Value} {xs : List Value}
theorem sho (h : OwnG w base e size v n xs) : Sho w v n size xs := by
 rcases h with h | ⟨hl, g, cap, cur, fz, rfl, hb, hg, -, hn, hc, hs, ht⟩
 ·exact Sho.own h
 ·refine ⟨hl, .inr ⟨g, 0, cap, rfl, hn, hc, (Array.getElem?_eq_some_iff.1 hg).1, fun j u hj => ?_⟩⟩
  rw [← ht, List.getElem?_take] at hj
  split at hj
  ·simp only [World.cell?, hg, Nat.zero_add]
   simpa using hj
  ·cases hj
theorem lt (h : OwnG w base e size v n xs) : ∀ k, v.ownBlock = some k → base ≤ k ∧ k < w.heap.size := by
 rcases h with h | ⟨hl, g, cap, cur, fz, rfl, hb, hg, -⟩
 ·exact fun k hk => World.ownsRow.lt h k hk
 ·intro k hk
  simp [Value.ownBlock] at hk
  subst hk
  exact ⟨hb, (Array.getElem?_eq_some_iff.1 hg).1⟩
theorem chg {S : Nat → Prop} (h : OwnG w base e size v n xs) (hc : Chg w w1 S) (hn : ∀ k, v.ownBlock = some k → ¬ S k) : OwnG w1 base e size v n xs := by
 rcases h with h | ⟨hl, g, cap, cur, fz, rfl, hb, hg, r⟩
 ·exact .inl (ownsRow_chg h hc hn)
 ·exact .inr ⟨hl, g, cap, cur, fz, rfl, hb, (hc.block g (Array.getElem?_eq_some_iff.1 hg).1 (hn g (by simp [Value.ownBlock]))).trans hg, r⟩
theorem mono {b' : Nat} (h : OwnG w base e size v n xs) (hb : b' ≤ base) : OwnG w b' e size v n xs := by
 rcases h with h | ⟨hl, g, cap, cur, fz, rfl, hbg, r⟩
 ·exact .inl (own_mono' h hb)
 ·exact .inr ⟨hl, g, cap, cur, fz, rfl, Nat.le_trans hb hbg, r⟩
end OwnG
section
variable {P : Program} {w : World}
theorem store_seg (g o : Nat) (t : TypeId) (fz : Nat × Nat) (vs : List Value) : ∀ (i : Nat) (cur : Array Value) (w : World), w.heap[g]? = some (.cells cur t fz) → cur.size ≤ fz.1 → o + i + vs.length ≤ cur.size → (∀ v ∈ vs, v.oneCell' = true) →
  ∃ cur', cur'.size = cur.size ∧ cur'.toList.take (o + i + vs.length) = cur.toList.take (o + i) ++ vs ∧ (storeCells ⟨g, o, none⟩ vs i).run P w = .ok () (w.setRow g cur') := by
 induction vs with
 | nil =>
  intro i cur w hg _ _ _
  refine ⟨cur, rfl, by simp, ?_⟩
  rw [setRow_self w g cur t fz hg]
  rfl
 | cons v rest ih =>
  intro i cur w hg hf hl h1
  simp only [List.length_cons] at hl
  have hi : o + i < cur.size := by omega
  have ea : (⟨g, o, none⟩ : Addr).add i = ⟨g, o + i, none⟩ := Go.WideShapes.add_plain _ _ _
  have ec : w.cell? ⟨g, o + i, none⟩ = some cur[o + i] := by simp [World.cell?, hg, hi]
  have ef : w.frozen? ⟨g, o + i, none⟩ = false := by
   obtain ⟨lo, hi'⟩ := fz
   have : ¬ lo ≤ o + i := by simp only at hf; omega
   simp [World.frozen?, hg, this]
  have es : (store ((⟨g, o, none⟩ : Addr).add i) v).run P w = .ok () (w.setRow g (cur.setIfInBounds (o + i) v)) := by
   rw [ea, run_store P w _ v _ (h1 v (by simp)), ec]
   simp [ef, setCell_eq_setRow w g (o + i) cur t fz v hg]
  obtain ⟨cur', k1, k2, k3⟩ := ih (i + 1) (cur.setIfInBounds (o + i) v) (w.setRow g (cur.setIfInBounds (o + i) v)) (setRow_heap w g cur _ t _ hg) (by simpa using hf) (by simp; omega) (fun x hx => h1 x (by simp [hx]))
  refine ⟨cur', by simpa using k1, ?_, ?_⟩
  ·have e1 : o + i + (v :: rest).length = o + (i + 1) + rest.length := by simp; omega
   rw [e1, k2]
   have e2 : (cur.setIfInBounds (o + i) v).toList.take (o + (i + 1)) = cur.toList.take (o + i) ++ [v] := by
    have hlt : o + i < (cur.setIfInBounds (o + i) v).toList.length := by simpa using hi
    rw [show o + (i + 1) = (o + i) + 1 from rfl, List.take_succ_eq_append_getElem hlt]
    simp [Array.toList_setIfInBounds, List.take_set_of_le]
   rw [e2, List.append_assoc]
   rfl
  ·simp only [storeCells, Sem.run_bind, es, Result.andThen_ok, k3, setRow_setRow]

theorem run_append_g (base : Nat) (t ty e : TypeId) (i : TypeInfo) (z : Value) (size bytes : Nat) (ht : P.underlying t = some (.slice e)) (hi : P.info? e = some i) (hz : i.zero = some z)
  (hsize : i.size = size) (hby : i.bytes = bytes) (hzs : z.cells.size = size) (hsz : 0 < size)
  (v : Value) (n : Nat) (xs : List Value) (hown : OwnG w base e size v n xs)
  (x : Value) (m : Nat) (news : List Value) (hx : NewsOf w x m size news)
  (h63 : n + m ≤ maxLen) (hbytes : (n + m) * bytes ≤ 140737488355328) (hbase : base ≤ w.heap.size) :
  ∃ v' w', (Builtin.append_ #[t, t] ty #[v, x]).run P w = .ok v' w' ∧ OwnG w' base e size v' (n + m) (xs ++ news) ∧ w.grownBy w' v.ownBlock := by
 rcases hown with hown | ⟨hl, g, cap, cur, fz, rfl, hb, hg, hf, hn, hc, hs, htk⟩
 ·obtain ⟨v', w', r, h2, h3⟩ := run_append_any (P := P) base t ty e i z size bytes ht hi hz hsize hby hzs hsz v n xs hown x m news hx h63 hbytes hbase
  exact ⟨v', w', r, .inl h2, h3⟩
 ·subst hsize
  subst hby
  obtain ⟨hnl, h1, A, c, rfl, hA⟩ := hx
  rcases hA with rfl | ⟨ad, rfl, hnews⟩
  ·have hnil : news = [] := List.eq_nil_of_length_eq_zero (by simpa using hnl)
   subst hnil
   refine ⟨.slice (some ⟨g, 0, none⟩) n cap, w, ?_, .inr ⟨by simpa using hl, g, cap, cur, fz, rfl, hb, hg, hf, hn, hc, hs, by simpa using htk⟩, ⟨rfl, rfl, rfl, Nat.le_refl _, fun _ _ _ => rfl⟩⟩
   have hfc : (Builtin.firstCells i.size 0 (.slice A 0 c)).run P w = .ok #[] w := by
    cases A <;> simp [Builtin.firstCells, loadCells, loadCellsFrom]
   simp [Builtin.append_, run_underlying ht, sizeOf, typeInfo, hi, Builtin.lenOf, hfc, hn, storeCells]
  ·have hsm : n + m ≤ 9223372036854775807 := by simp only [maxLen] at h63; omega
   have hlen : (xs ++ news).length = (n + m) * i.size := by rw [List.length_append, hl, hnl, Nat.add_mul]
   by_cases hroom : n + m ≤ cap
   ·have hfit : n * i.size + news.length ≤ cur.size := by rw [hnl, hs, ← Nat.add_mul]; exact Nat.mul_le_mul_right _ hroom
    have hfc := run_firstCells_some (P := P) w i.size m ad m c news hnl hnews
    obtain ⟨cur', k1, k2, k3⟩ := store_seg (P := P) g (n * i.size) e fz news 0 cur w hg hf (by simpa using hfit) h1
    refine ⟨.slice (some ⟨g, 0, none⟩) (n + m) cap, w.setRow g cur', ?_, .inr ⟨hlen, g, cap, cur', fz, rfl, hb, setRow_heap w g cur _ e _ hg, by omega, hroom, hc, by omega, ?_⟩, ⟨rfl, rfl, rfl, by simp, fun k _ hk => setRow_other w g k _ (fun e => hk (by simp [Value.ownBlock, e]))⟩⟩
    ·simp [Builtin.append_, run_underlying ht, sizeOf, typeInfo, hi, Builtin.lenOf, hroom, hfc, Addr.add_lit, k3]
    ·rw [Nat.add_mul, ← hnl]
     rw [Nat.add_zero] at k2
     rw [k2, htk]
   ·have holds : ∀ j u, xs[j]? = some u → w.cell? ((⟨g, 0, none⟩ : Addr).add j) = some u := by
     intro j u hj
     rw [Go.WideShapes.add_plain, Nat.zero_add]
     rw [← htk, List.getElem?_take] at hj
     split at hj
     ·simp only [World.cell?, hg]
      simpa using hj
     ·cases hj
    have hr := run_append_grow (P := P) w t ty e i z ht hi hz ⟨g, 0, none⟩ n cap xs hl holds ad m c news hnl hnews (by omega) (by omega) (growslice_fits (by omega) hbytes)
    have hge := grownCap_ge w (n + m) cap e
    have hcm2 : grownCap w (n + m) cap e ≤ maxLen := grownCap_le_maxLen w (n + m) cap e h63
    refine ⟨_, _, hr, .inl ⟨hlen, .inr ⟨w.heap.size, _, _, rfl, hbase, heap_alloc_new w.drew _, hge, hcm2, ?_, ?_⟩⟩, ⟨rfl, rfl, rfl, by simp, fun k hk _ => heap_alloc_old w.drew _ hk⟩⟩
    ·simp only [Array.size_append, List.size_toArray, size_zeroCells, hzs, hl, hnl, ← Nat.add_mul]
     congr 1
     omega
    ·simp only [Array.toList_append, List.append_assoc]
     rw [← List.append_assoc, ← hlen]
     exact List.take_left
theorem wpList_append_g {ops : Array Oper} {rest : List Oper} {o : Oper} {a : Act} {Q : Exit → Act → World → Prop} (hgd : o.guard = none) (s x : Operand) (t : TypeId)
  (ho : o.op = .call { callee := .builtin .append, args := #[s, x], argTypes := #[t, t] })
  (base : Nat) (e : TypeId) (i : TypeInfo) (z : Value) (size bytes : Nat) (ht : P.underlying t = some (.slice e)) (hi : P.info? e = some i) (hz : i.zero = some z)
  (hsize : i.size = size) (hby : i.bytes = bytes) (hzs : z.cells.size = size) (hsz : 0 < size)
  (v : Value) (n : Nat) (xs : List Value) (hs : a.eval s = v) (hown : OwnG w base e size v n xs)
  (y : Value) (m : Nat) (news : List Value) (hy : a.eval x = y) (hx : NewsOf w y m size news)
  (h63 : n + m ≤ maxLen) (hbytes : (n + m) * bytes ≤ 140737488355328) (hbase : base ≤ w.heap.size)
  (h : ∀ v' w', OwnG w' base e size v' (n + m) (xs ++ news) → w.grownBy w' v.ownBlock → wpList P ops Q rest (a.put o.dst v') w') : wpList P ops Q (o :: rest) a w :=
 wpList_plain hgd fun _ hK => by
  obtain ⟨v', w', hr, h2, h3⟩ := run_append_g (P := P) base t o.type e i z size bytes ht hi hz hsize hby hzs hsz v n xs hown y m news hx h63 hbytes hbase
  unfold Oper.wp execOp
  simp only [ho, resolve, invoke, builtin, Sem.run_bind, Sem.run_pure, Result.andThen_ok, List.map_toArray, List.map_cons, List.map_nil, hs, hy, hr]
  exact hK _ _ (h v' w' h2 h3)
theorem step_append_g {ops : Array Oper} {o : Oper} {a : Act} {K : Act → World → Prop} {Q : Exit → Act → World → Prop} {E : Prop} (hgd : o.guard = none) (s x : Operand) (t : TypeId)
  (ho : o.op = .call { callee := .builtin .append, args := #[s, x], argTypes := #[t, t] })
  (base : Nat) (e : TypeId) (i : TypeInfo) (z : Value) (size bytes : Nat) (ht : P.underlying t = some (.slice e)) (hi : P.info? e = some i) (hz : i.zero = some z)
  (hsize : i.size = size) (hby : i.bytes = bytes) (hzs : z.cells.size = size) (hsz : 0 < size)
  (v : Value) (n : Nat) (xs : List Value) (hs : a.eval s = v) (hown : OwnG w base e size v n xs)
  (y : Value) (m : Nat) (news : List Value) (hy : a.eval x = y) (hx : NewsOf w y m size news)
  (h63 : n + m ≤ maxLen) (hbytes : (n + m) * bytes ≤ 140737488355328) (hbase : base ≤ w.heap.size)
  (h : ∀ v' w', OwnG w' base e size v' (n + m) (xs ++ news) → w.grownBy w' v.ownBlock → K (a.put o.dst v') w') :
  if Region.wanted o (yielded ops a.tmps) = true then Oper.wp P o a w K Q else E := by
 have hw : Region.wanted o (yielded ops a.tmps) = true := by simp [Region.wanted, hgd]
 rw [if_pos hw]
 obtain ⟨v', w', hr, h2, h3⟩ := run_append_g (P := P) base t o.type e i z size bytes ht hi hz hsize hby hzs hsz v n xs hown y m news hx h63 hbytes hbase
 unfold Oper.wp execOp
 simp only [ho, resolve, invoke, builtin, Sem.run_bind, Sem.run_pure, Result.andThen_ok, List.map_toArray, List.map_cons, List.map_nil, hs, hy, hr]
 exact h v' w' h2 h3
theorem bytes_own (w : World) (base : Nat) (e : TypeId) (s : ByteArray) (hb : base ≤ w.heap.size) (hm : s.size ≤ maxLen) :
  OwnG (Lib.bytesWorld w e s) base e 1 (.slice (some ⟨w.heap.size, 0, none⟩) s.size (grownCap w s.size 0 e)) s.size (s.data.toList.map fun b => Value.int .u8 b.toNat) ∧ Below w.heap.size w (Lib.bytesWorld w e s) := by
 have hge := grownCap_ge w s.size 0 e
 have hcm := grownCap_le_maxLen w s.size 0 e hm
 have hsz : (Lib.bytesCells w e s).size = grownCap w s.size 0 e := by
  have : s.data.size = s.size := rfl
  simp [Lib.bytesCells, this]
  try omega
 refine ⟨.inr ⟨by simp, w.heap.size, _, _, _, rfl, hb, Lib.bytesWorld_at_new w e s, Nat.le_refl _, hge, hcm, by rw [hsz, Nat.mul_one], ?_⟩, ⟨rfl, rfl, rfl, by rw [Lib.bytesWorld_size]; omega, fun k hk => Lib.bytesWorld_at_old w e s k hk⟩⟩
 have : s.data.size = s.size := rfl
 simp only [Lib.bytesCells, Array.toList_append, Array.toList_map, Nat.mul_one]
 rw [List.take_append_of_le_length (by simp <;> omega), List.take_of_length_le (by simp <;> omega)]
end
section
variable {P : Program} {ops : Array Oper} {Q : Exit → Act → World → Prop} {md : Region.Mode} {S : World → Prop}
theorem put_some (a : Act) (o : Oper) (d : Nat) (v : Value) (h : o.dst = some d) : a.put o.dst v = ⟨a.tmps.setIfInBounds d v, a.defers⟩ := by rw [h]; rfl
theorem take_yes (i d : Nat) {oi : Oper} {v : Value} {fuel : Nat} {listed : Array Bool} {a : Act} {w : World} (hi : ops[i]? = some oi) (hd : oi.dst = some d)
  (hs : Region.noSelect ops = true) (hf : Region.free md ops listed i = true) (hr : (Region.ready md ops listed).contains i = true)
  (hQ : ∀ c a w, Q (.panic c) (a.put oi.dst v) w → Q (.panic c) a w) (hS : S w) (hw : Region.wanted oi (yielded ops a.tmps) = true) (hy : ∀ w, S w → (execOp a.eval oi).run P w = .ok (.value v) w)
  (h : wpAnyH P md ops Q S fuel (listed.setIfInBounds i true) ⟨a.tmps.setIfInBounds d v, a.defers⟩ w) : wpAnyH P md ops Q S (fuel + 1) listed a w :=
 wpAnyH_take hi hs hf hr hQ (.inl ⟨hw, hy⟩) hS (by rw [put_some a oi d v hd]; exact h)
theorem take_no (i d : Nat) {oi : Oper} {fuel : Nat} {listed : Array Bool} {a : Act} {w : World} (hi : ops[i]? = some oi) (hd : oi.dst = some d)
  (hs : Region.noSelect ops = true) (hf : Region.free md ops listed i = true) (hr : (Region.ready md ops listed).contains i = true)
  (hQ : ∀ c a w, Q (.panic c) (a.put oi.dst undef) w → Q (.panic c) a w) (hS : S w) (hw : Region.wanted oi (yielded ops a.tmps) = false)
  (h : wpAnyH P md ops Q S fuel (listed.setIfInBounds i true) ⟨a.tmps.setIfInBounds d undef, a.defers⟩ w) : wpAnyH P md ops Q S (fuel + 1) listed a w :=
 wpAnyH_take hi hs hf hr hQ (.inr ⟨hw, rfl⟩) hS (by rw [put_some a oi d undef hd]; exact h)
theorem any_yes (i d : Nat) {oi : Oper} {v : Value} {fuel : Nat} {listed : Array Bool} {a : Act} {w : World} (hi : ops[i]? = some oi) (hd : oi.dst = some d)
  (hs : Region.noSelect ops = true) (hf : Region.free md ops listed i = true) (hr : (Region.ready md ops listed).contains i = true)
  (hQ : ∀ c a w, Q (.panic c) (a.put oi.dst v) w → Q (.panic c) a w) (hw : Region.wanted oi (yielded ops a.tmps) = true) (hy : ∀ w, (execOp a.eval oi).run P w = .ok (.value v) w)
  (h : wpAny P md ops Q fuel (listed.setIfInBounds i true) ⟨a.tmps.setIfInBounds d v, a.defers⟩ w) : wpAny P md ops Q (fuel + 1) listed a w :=
 wpAny_take hi hs hf hr hQ (.inl ⟨hw, hy⟩) (by rw [put_some a oi d v hd]; exact h)
end
section
variable {P : Program} {ops : Array Oper} {Q : Exit → Act → World → Prop} {md : Region.Mode} {S : World → Prop}
theorem ty (i d : Nat) {oi : Oper} {v : Value} {fuel : Nat} {listed : Array Bool} {a : Act} {w : World} (hi : ops[i]? = some oi) (hd : oi.dst = some d) (h : wpAnyH P md ops Q S fuel (listed.setIfInBounds i true) ⟨a.tmps.setIfInBounds d v, a.defers⟩ w)
    (hs : Region.noSelect ops = true := by kernel_rfl) (hf : Region.free md ops listed i = true := by kernel_rfl) (hr : (Region.ready md ops listed).contains i = true := by kernel_rfl) (hQ : ∀ c a w, Q (.panic c) (a.put oi.dst v) w → Q (.panic c) a w := by exact fun _ _ _ h => h) (hS : S w := by assumption) (hw : Region.wanted oi (yielded ops a.tmps) = true := by rfl)
    (hy : ∀ w, S w → (execOp a.eval oi).run P w = .ok (.value v) w := by (intro w hSw; (try dsimp only at hSw); go_simp; try with_reducible rfl)) : wpAnyH P md ops Q S (fuel + 1) listed a w := take_yes i d hi hd hs hf hr hQ hS hw hy h
theorem tn (i d : Nat) {oi : Oper} {fuel : Nat} {listed : Array Bool} {a : Act} {w : World} (hi : ops[i]? = some oi) (hd : oi.dst = some d) (h : wpAnyH P md ops Q S fuel (listed.setIfInBounds i true) ⟨a.tmps.setIfInBounds d undef, a.defers⟩ w)
    (hs : Region.noSelect ops = true := by kernel_rfl) (hf : Region.free md ops listed i = true := by kernel_rfl) (hr : (Region.ready md ops listed).contains i = true := by kernel_rfl) (hQ : ∀ c a w, Q (.panic c) (a.put oi.dst undef) w → Q (.panic c) a w := by exact fun _ _ _ h => h) (hS : S w := by assumption) (hw : Region.wanted oi (yielded ops a.tmps) = false := by rfl) : wpAnyH P md ops Q S (fuel + 1) listed a w := take_no i d hi hd hs hf hr hQ hS hw h
theorem ay (i d : Nat) {oi : Oper} {v : Value} {fuel : Nat} {listed : Array Bool} {a : Act} {w : World} (hi : ops[i]? = some oi) (hd : oi.dst = some d) (h : wpAny P md ops Q fuel (listed.setIfInBounds i true) ⟨a.tmps.setIfInBounds d v, a.defers⟩ w)
    (hs : Region.noSelect ops = true := by kernel_rfl) (hf : Region.free md ops listed i = true := by kernel_rfl) (hr : (Region.ready md ops listed).contains i = true := by kernel_rfl) (hQ : ∀ c a w, Q (.panic c) (a.put oi.dst v) w → Q (.panic c) a w := by exact fun _ _ _ h => h) (hw : Region.wanted oi (yielded ops a.tmps) = true := by rfl)
    (hy : ∀ w, (execOp a.eval oi).run P w = .ok (.value v) w := by (intro w; go_simp; try with_reducible rfl)) : wpAny P md ops Q (fuel + 1) listed a w := any_yes i d hi hd hs hf hr hQ hw hy h
theorem rd (i : Nat) {o : Oper} {fuel : Nat} {listed : Array Bool} {a : Act} {w : World} (hr : Region.ready md ops listed = [i]) (ho : ops[i]? = some o)
    (h : ∀ K' : Act → World → Prop, Shut (∀ a w, S w → (S w → wpAnyH P md ops Q S fuel (listed.setIfInBounds i true) a w) → K' a w) → if Region.wanted o (yielded ops a.tmps) = true then Oper.wp P o a w K' Q else K' (a.put o.dst undef) w) : wpAnyH P md ops Q S (fuel + 1) listed a w := wpAnyH_ready hr (by simp) (AllReadyH.cons ho h AllReadyH.nil)
end
set_option maxRecDepth 100000
set_option linter.unusedSimpArgs false



def withinZ (n lo hi : Int) : Int := if lo ≤ n ∧ n ≤ hi then n else lo + (if n.tmod (hi - lo + 1) < 0 then n.tmod (hi - lo + 1) + hi - lo + 1 else n.tmod (hi - lo + 1))
theorem withinZ_ge (n lo hi : Int) (h : lo ≤ hi) : lo ≤ withinZ n lo hi ∧ withinZ n lo hi ≤ hi := by
 unfold withinZ
 have h1 : (n.tmod (hi - lo + 1)).natAbs < (hi - lo + 1).natAbs := by
  rw [Int.natAbs_tmod]
  exact Nat.mod_lt _ (by omega)
 split
 ·assumption
 ·split <;> omega
set_option maxHeartbeats 1000000 in
theorem within_any (n lo hi : Int) (h0 : -1000000000000 ≤ lo) (h1 : lo ≤ hi) (h2 : hi ≤ 1000000000000) (w : World) :
  Calls Tryz.prog 10 #[.int .i64 n, .int .i64 lo, .int .i64 hi] w fun e w' => e = .returned (.int .i64 (withinZ n lo hi)) ∧ w = w' := by
 have hm : (n.tmod (hi - lo + 1)).natAbs < (hi - lo + 1).natAbs := by
  rw [Int.natAbs_tmod]
  exact Nat.mod_lt _ (by omega)
 have e1 : wrap64 (hi - lo) = hi - lo := by unfold wrap64; omega
 have e2 : wrap64 (hi - lo + 1) = hi - lo + 1 := by unfold wrap64; omega
 have e3 : wrap64 (n.tmod (hi - lo + 1)) = n.tmod (hi - lo + 1) := by unfold wrap64; omega
 have e4 : ((hi - lo + 1 : Int) == 0) = false := by simp; omega
 go_enter Tryz.func10, Tryz.ntmps10
 unfold withinZ
 by_cases c1 : lo ≤ n
 ·by_cases c2 : n ≤ hi
  ·rw [if_pos ⟨c1, c2⟩]
   go_wp2
   go_ret
   exact ⟨rfl, rfl⟩
  ·rw [if_neg (fun h => c2 h.2)]
   go_wp2
   all_goals go_ret
   all_goals exact ⟨rfl, rfl⟩
 ·rw [if_neg (fun h => c1 h.1)]
  go_wp2
  all_goals go_ret
  all_goals exact ⟨rfl, rfl⟩
section
variable {P : Program} {ops : Array Oper} {Q : Exit → Act → World → Prop} {md : Region.Mode} {S : World → Prop}
def Asks (P : Program) (ops : Array Oper) (S : World → Prop) (o : Oper) (v : Value) (a : Act) : Prop :=
 Region.wanted o (yielded ops a.tmps) = true ∧ ∃ f args, ∀ w, S w → (execOp a.eval o).run P w = .ok (.enter f args) w ∧ Calls P f args w fun e w' => e = .returned v ∧ w = w'
theorem Asks.same {o : Oper} {v : Value} {a b : Act} (h : Asks P ops S o v a) (he : execOp b.eval o = execOp a.eval o) (hw : Region.wanted o (yielded ops b.tmps) = Region.wanted o (yielded ops a.tmps)) : Asks P ops S o v b := by
 obtain ⟨h1, f, args, h2⟩ := h
 exact ⟨hw.trans h1, f, args, fun w hS => by rw [he]; exact h2 w hS⟩
theorem Asks.op {i : Nat} {o : Oper} {v : Value} {a : Act} (hi : ops[i]? = some o) (h : Asks P ops S o v a) {K : Act → World → Prop} {w : World} (hS : S w) (hK : K (a.put o.dst v) w) : wpOp P ops Q i K a w := by
 obtain ⟨h1, f, args, h2⟩ := h
 obtain ⟨h3, h4⟩ := h2 w hS
 unfold wpOp
 simp only [hi]
 rw [if_pos h1]
 refine .inl ?_
 unfold Oper.wp
 rw [h3]
 refine h4.mono ?_
 rintro e w' ⟨rfl, rfl⟩
 exact hK
theorem Asks.other {j : Nat} {o p : Oper} {v : Value} (hj : ops[j]? = some p) (hap : o.apart ops p = true) (ho : ∀ cs b, o.op ≠ .select cs b) (hp : ∀ cs b, p.op ≠ .select cs b)
  (hQ : ∀ c a w, Q (.panic c) (a.put o.dst v) w → Q (.panic c) a w) {K : Act → World → Prop} {a : Act} {w : World} (hA : Asks P ops S o v a) (h : wpOp P ops Q j K (a.put o.dst v) w) :
  wpOp P ops Q j (fun b u => Asks P ops S o v b ∧ K (b.put o.dst v) u) a w := by
 obtain ⟨a1, a2, a3⟩ := Oper.apart_spec hap
 have stay : ∀ (b : Act), Asks P ops S o v b → ∀ u, Asks P ops S o v (b.put p.dst u) := fun b hb u => hb.same (execOp_put o ho b p.dst u a3) (wanted_put o b p.dst u a3)
 have turn : ∀ (b : Act), Asks P ops S o v b → ∀ u w, K ((b.put o.dst v).put p.dst u) w → Asks P ops S o v (b.put p.dst u) ∧ K ((b.put p.dst u).put o.dst v) w := fun b hb u w hk => ⟨stay b hb u, by rw [← Act.put_comm b v u a2]; exact hk⟩
 unfold wpOp at h ⊢
 simp only [hj] at h ⊢
 rw [wanted_put p a o.dst v a1] at h
 cases hw : Region.wanted p (yielded ops a.tmps) with
 | false =>
  simp only [hw, Bool.false_eq_true, if_false] at h ⊢
  exact turn a hA undef w h
 | true =>
  simp only [hw, if_true] at h ⊢
  rcases h with h | ⟨h1, h2⟩
  ·refine .inl ?_
   unfold Oper.wp at h ⊢
   rw [execOp_put p hp a o.dst v a1] at h
   generalize (execOp a.eval p).run P w = r at *
   cases r with
   | halt x u =>
    cases x <;> simp only [Oper.upon] at h ⊢
    exact hQ _ _ _ h
   | ok n u =>
    cases n <;> simp only [Oper.upon] at h ⊢
    case value x => exact turn a hA x u h
    case skip => exact turn a hA undef u h
    case defer d =>
     have hd : Asks P ops S o v { a with defers := d :: a.defers } := hA.same rfl rfl
     refine ⟨stay _ hd _, ?_⟩
     rw [← Act.put_comm _ v undef a2, ← Act.put_defers]
     exact h
    case row r9 args => exact Rows.mono h fun x u' he => turn a hA x u' he
    case enter f args =>
     refine Calls.mono h fun e u' he => ?_
     cases e with
     | outgrown => exact he
     | panicked c => exact hQ _ _ _ he
     | returned x => exact turn a hA x u' he
  ·refine .inr ⟨?_, h2⟩
   unfold Oper.asks at h1 ⊢
   rw [execOp_put p hp a o.dst v a1] at h1
   exact h1
theorem asks_first {i : Nat} {o : Oper} {v : Value} (hi : ops[i]? = some o) (hsel : ∀ (j : Nat) (p : Oper) cs b, ops[j]? = some p → p.op ≠ .select cs b) (hQ : ∀ c a w, Q (.panic c) (a.put o.dst v) w → Q (.panic c) a w) :
  ∀ (fuel : Nat) (listed : Array Bool) (a : Act) (w : World), (∀ j p, ops[j]? = some p → j ≠ i → listed.getD j true = false → (∀ e ∈ p.after, Region.binds md e = true → e.on ≠ i) → o.apart ops p = true) →
   i ∈ Region.ready md ops listed → Asks P ops S o v a → S w → wpAnyH P md ops Q S fuel (listed.setIfInBounds i true) (a.put o.dst v) w → wpAnyH P md ops Q S (fuel + 1) listed a w
 | fuel, listed, a, w, hfree, hr, hA, hS, H => by
  refine ⟨fun h => absurd (h ▸ hr) List.not_mem_nil, fun j hj => ?_⟩
  by_cases hji : j = i
  ·subst hji
   exact hA.op hi hS ⟨hS, H⟩
  ·have hjr := ready_mono hj hji
   cases fuel with
   | zero => rw [H.1] at hjr; exact absurd hjr List.not_mem_nil
   | succ fuel =>
    obtain ⟨hun, p, hp, hall⟩ := mem_ready.1 hj
    have hno : ∀ e ∈ p.after, Region.binds md e = true → e.on ≠ i := fun e he hb heq => by
     have k1 := hall e he hb
     have k0 := (mem_ready.1 hr).1
     rw [heq] at k1
     by_cases hs : i < listed.size
     ·simp [hs] at k0 k1
      rw [k0] at k1
      exact Bool.noConfusion k1
     ·simp [Array.getElem?_eq_none (Nat.le_of_not_lt hs)] at k1
    have k2 := Asks.other hp (hfree j p hp hji hun hno) (fun cs b => hsel i o cs b hi) (fun cs b => hsel j p cs b hp) hQ hA (H.2 j hjr)
    refine wpOp_mono (fun b u k3 => ⟨k3.2.1, asks_first hi hsel hQ fuel (listed.setIfInBounds j true) b u (fun k q hk hki hu hn => hfree k q hk hki ?_ hn) (ready_mono hr (Ne.symm hji)) k3.1 k3.2.1 ?_⟩) k2
    ·by_cases hjk : j = k
     ·subst hjk; exact hun
     ·rw [getD_set_ne true hjk] at hu; exact hu
    ·rw [Array.setIfInBounds_comm _ _ hji]
     exact k3.2.2
theorem take_ask (i d : Nat) {oi : Oper} {v : Value} {fuel : Nat} {listed : Array Bool} {a : Act} {w : World} (f : FuncId) (args : Array Value) (hi : ops[i]? = some oi) (hd : oi.dst = some d)
  (hs : Region.noSelect ops = true) (hf : Region.free md ops listed i = true) (hr : (Region.ready md ops listed).contains i = true)
  (hQ : ∀ c a w, Q (.panic c) (a.put oi.dst v) w → Q (.panic c) a w) (hS : S w) (hw : Region.wanted oi (yielded ops a.tmps) = true) (hy : ∀ w, S w → (execOp a.eval oi).run P w = .ok (.enter f args) w)
  (hc : ∀ w, S w → Calls P f args w fun e w' => e = .returned v ∧ w = w')
  (h : wpAnyH P md ops Q S fuel (listed.setIfInBounds i true) ⟨a.tmps.setIfInBounds d v, a.defers⟩ w) : wpAnyH P md ops Q S (fuel + 1) listed a w :=
 asks_first hi (Region.noSelect_spec hs) hQ fuel listed a w (Region.free_spec hi hf) (by simpa using hr) ⟨hw, f, args, fun w hSw => ⟨hy w hSw, hc w hSw⟩⟩ hS (by rw [put_some a oi d v hd]; exact h)
theorem held_more {T : World → Prop} (hT : ∀ w, T w → S w) : ∀ (fuel : Nat) (listed : Array Bool) (a : Act) (w : World), wpAnyH P md ops Q T fuel listed a w → wpAnyH P md ops Q S fuel listed a w
 | 0, _, _, _, h => h
 | fuel + 1, listed, a, w, h => ⟨h.1, fun i hi => wpOp_mono (fun b u h2 => ⟨hT u h2.1, held_more hT fuel _ b u h2.2⟩) (h.2 i hi)⟩
end
section
variable {P : Program} {ops : Array Oper} {Q : Exit → Act → World → Prop} {md : Region.Mode} {S : World → Prop} {K : Nat}

def wpAnyT (P : Program) (md : Region.Mode) (ops : Array Oper) (Q : Exit → Act → World → Prop) (S : World → Prop) (K : Nat) : Nat → Array Bool → Act → World → Prop
 | 0, listed, a, w => Region.ready md ops listed = [] ∧ Q .normal a w
 | fuel + 1, listed, a, w =>
  (Region.ready md ops listed = [] → Q .normal a w) ∧
  ∀ i ∈ Region.ready md ops listed, wpOp P ops Q i (fun a' w' => (i < K → S w') ∧ wpAnyT P md ops Q S K fuel (listed.setIfInBounds i true) a' w') a w
theorem wpAny_of_T : ∀ (fuel : Nat) (listed : Array Bool) (a : Act) (w : World), wpAnyT P md ops Q S K fuel listed a w → wpAny P md ops Q fuel listed a w
 | 0, _, _, _, h => h
 | fuel + 1, _, _, _, h => ⟨h.1, fun i hi => wpOp_mono (fun a' w' h' => wpAny_of_T fuel _ a' w' h'.2) (h.2 i hi)⟩
def waitsB (md : Region.Mode) (ops : Array Oper) (K i : Nat) : Bool := (List.range ops.size).all (fun j => decide (j < K) || (match ops[j]? with | some o => o.after.any (fun e => Region.binds md e && e.on == i) | none => true))
theorem waits_spec {i : Nat} (h : waitsB md ops K i = true) : ∀ j oj, ops[j]? = some oj → (∀ e ∈ oj.after, Region.binds md e = true → e.on ≠ i) → j < K := by
 intro j oj hj hno
 have hlt : j < ops.size := (Array.getElem?_eq_some_iff.1 hj).1
 unfold waitsB at h
 rw [List.all_eq_true] at h
 have h1 := h j (List.mem_range.2 hlt)
 rw [hj] at h1
 simp only [Bool.or_eq_true, decide_eq_true_eq] at h1
 rcases h1 with h1 | h1
 ·exact h1
 ·obtain ⟨k, hk, hp⟩ := Array.any_eq_true.1 h1
  simp only [Bool.and_eq_true, beq_iff_eq] at hp
  exact absurd hp.2 (hno _ (Array.getElem_mem hk) hp.1)
theorem wpAnyT_first {i : Nat} {oi : Oper} {v : Value} (hi : ops[i]? = some oi) (hsel : ∀ (j : Nat) (o : Oper) cs b, ops[j]? = some o → o.op ≠ .select cs b)
  (hQ : ∀ c a w, Q (.panic c) (a.put oi.dst v) w → Q (.panic c) a w) (hwt : ∀ j oj, ops[j]? = some oj → (∀ e ∈ oj.after, Region.binds md e = true → e.on ≠ i) → j ≠ i → j < K) :
  ∀ (fuel : Nat) (listed : Array Bool) (a : Act) (w : World),
   (∀ j oj, ops[j]? = some oj → j ≠ i → listed.getD j true = false → (∀ e ∈ oj.after, Region.binds md e = true → e.on ≠ i) → oi.apart ops oj = true) →
   i ∈ Region.ready md ops listed → YieldsIf P ops S oi v a → S w →
   wpAnyT P md ops Q S K fuel (listed.setIfInBounds i true) (a.put oi.dst v) w → wpAnyT P md ops Q S K (fuel + 1) listed a w := by
 intro fuel
 induction fuel with
 | zero =>
  intro listed a w _ hr hy hS H
  refine ⟨fun h => (by rw [h] at hr; cases hr), fun j hj => ?_⟩
  by_cases hji : j = i
  ·subst hji; exact hy.wpOp hi hS ⟨fun _ => hS, H⟩
  ·have := ready_mono hj hji
   rw [H.1] at this
   cases this
 | succ fuel ih =>
  intro listed a w hfree hr hy hS H
  refine ⟨fun h => (by rw [h] at hr; cases hr), fun j hj => ?_⟩
  by_cases hji : j = i
  ·subst hji; exact hy.wpOp hi hS ⟨fun _ => hS, H⟩
  ·have h1 := H.2 j (ready_mono hj hji)
   obtain ⟨hjun, oj, hoj, hall⟩ := mem_ready.1 hj
   have hnot : ∀ e ∈ oj.after, Region.binds md e = true → e.on ≠ i := fun e he hb heq => by
    have h1 := hall e he hb
    have h0 := (mem_ready.1 hr).1
    rw [heq] at h1
    rcases Nat.lt_or_ge i listed.size with h' | h'
    ·simp [h'] at h0 h1; rw [h0] at h1; cases h1
    ·simp [Array.getElem?_eq_none h'] at h1
   have hjK : j < K := hwt j oj hoj hnot hji
   have h2 := wpOp_putIf hoj (hfree j oj hoj hji hjun hnot) (fun cs b => hsel i oi cs b hi) (fun cs b => hsel j oj cs b hoj) hQ hy h1
   have hfree' : ∀ k ok, ops[k]? = some ok → k ≠ i → (listed.setIfInBounds j true).getD k true = false →
     (∀ e ∈ ok.after, Region.binds md e = true → e.on ≠ i) → oi.apart ops ok = true := fun k ok hk hki hun hno => by
    refine hfree k ok hk hki ?_ hno
    by_cases hjk : j = k
    ·subst hjk; exact hjun
    ·rw [getD_set_ne true hjk] at hun; exact hun
   refine wpOp_mono (fun a' w' h3 => ⟨fun _ => h3.2.1 hjK, ih (listed.setIfInBounds j true) a' w' hfree' (ready_mono hr (Ne.symm hji)) h3.1 (h3.2.1 hjK) ?_⟩) h2
   rw [Array.setIfInBounds_comm _ _ hji]
   exact h3.2.2
theorem wpAnyT_take {i : Nat} {oi : Oper} {v : Value} {fuel : Nat} {listed : Array Bool} {a : Act} {w : World} (hi : ops[i]? = some oi)
  (hs : Region.noSelect ops = true) (hf : Region.free md ops listed i = true) (hr : (Region.ready md ops listed).contains i = true) (hw : waitsB md ops K i = true)
  (hQ : ∀ c a w, Q (.panic c) (a.put oi.dst v) w → Q (.panic c) a w) (hy : YieldsIf P ops S oi v a) (hS : S w)
  (h : wpAnyT P md ops Q S K fuel (listed.setIfInBounds i true) (a.put oi.dst v) w) : wpAnyT P md ops Q S K (fuel + 1) listed a w :=
 wpAnyT_first hi (Region.noSelect_spec hs) hQ (fun j oj hj hn _ => waits_spec hw j oj hj hn) fuel listed a w (Region.free_spec hi hf) (by simpa using hr) hy hS h
theorem takeT_yes (i d : Nat) {oi : Oper} {v : Value} {fuel : Nat} {listed : Array Bool} {a : Act} {w : World} (hi : ops[i]? = some oi) (hd : oi.dst = some d)
  (hs : Region.noSelect ops = true) (hf : Region.free md ops listed i = true) (hr : (Region.ready md ops listed).contains i = true) (hwt : waitsB md ops K i = true)
  (hQ : ∀ c a w, Q (.panic c) (a.put oi.dst v) w → Q (.panic c) a w) (hS : S w) (hw : Region.wanted oi (yielded ops a.tmps) = true) (hy : ∀ w, S w → (execOp a.eval oi).run P w = .ok (.value v) w)
  (h : wpAnyT P md ops Q S K fuel (listed.setIfInBounds i true) ⟨a.tmps.setIfInBounds d v, a.defers⟩ w) : wpAnyT P md ops Q S K (fuel + 1) listed a w :=
 wpAnyT_take hi hs hf hr hwt hQ (.inl ⟨hw, hy⟩) hS (by rw [put_some a oi d v hd]; exact h)
theorem wpAnyT_pure {i : Nat} {oi : Oper} {v : Value} (hi : ops[i]? = some oi) (hsel : ∀ (j : Nat) (o : Oper) cs b, ops[j]? = some o → o.op ≠ .select cs b)
  (hQ : ∀ c a w, Q (.panic c) (a.put oi.dst v) w → Q (.panic c) a w) (hK : K ≤ i) :
  ∀ (fuel : Nat) (listed : Array Bool) (a : Act) (w : World),
   (∀ j oj, ops[j]? = some oj → j ≠ i → listed.getD j true = false → (∀ e ∈ oj.after, Region.binds md e = true → e.on ≠ i) → oi.apart ops oj = true) →
   i ∈ Region.ready md ops listed → YieldsIf P ops (fun _ => True) oi v a →
   wpAnyT P md ops Q S K fuel (listed.setIfInBounds i true) (a.put oi.dst v) w → wpAnyT P md ops Q S K (fuel + 1) listed a w := by
 intro fuel
 induction fuel with
 | zero =>
  intro listed a w _ hr hy H
  refine ⟨fun h => (by rw [h] at hr; cases hr), fun j hj => ?_⟩
  by_cases hji : j = i
  ·subst hji; exact hy.wpOp hi True.intro ⟨fun h => absurd h (by omega), H⟩
  ·have := ready_mono hj hji
   rw [H.1] at this
   cases this
 | succ fuel ih =>
  intro listed a w hfree hr hy H
  refine ⟨fun h => (by rw [h] at hr; cases hr), fun j hj => ?_⟩
  by_cases hji : j = i
  ·subst hji; exact hy.wpOp hi True.intro ⟨fun h => absurd h (by omega), H⟩
  ·have h1 := H.2 j (ready_mono hj hji)
   obtain ⟨hjun, oj, hoj, hall⟩ := mem_ready.1 hj
   have hnot : ∀ e ∈ oj.after, Region.binds md e = true → e.on ≠ i := fun e he hb heq => by
    have h1 := hall e he hb
    have h0 := (mem_ready.1 hr).1
    rw [heq] at h1
    rcases Nat.lt_or_ge i listed.size with h' | h'
    ·simp [h'] at h0 h1; rw [h0] at h1; cases h1
    ·simp [Array.getElem?_eq_none h'] at h1
   have h2 := wpOp_putIf hoj (hfree j oj hoj hji hjun hnot) (fun cs b => hsel i oi cs b hi) (fun cs b => hsel j oj cs b hoj) hQ hy h1
   have hfree' : ∀ k ok, ops[k]? = some ok → k ≠ i → (listed.setIfInBounds j true).getD k true = false →
     (∀ e ∈ ok.after, Region.binds md e = true → e.on ≠ i) → oi.apart ops ok = true := fun k ok hk hki hun hno => by
    refine hfree k ok hk hki ?_ hno
    by_cases hjk : j = k
    ·subst hjk; exact hjun
    ·rw [getD_set_ne true hjk] at hun; exact hun
   refine wpOp_mono (fun a' w' h3 => ⟨h3.2.1, ih (listed.setIfInBounds j true) a' w' hfree' (ready_mono hr (Ne.symm hji)) h3.1 ?_⟩) h2
   rw [Array.setIfInBounds_comm _ _ hji]
   exact h3.2.2
theorem takeT_late (i d : Nat) {oi : Oper} {v : Value} {fuel : Nat} {listed : Array Bool} {a : Act} {w : World} (hi : ops[i]? = some oi) (hd : oi.dst = some d)
  (hs : Region.noSelect ops = true) (hf : Region.free md ops listed i = true) (hr : (Region.ready md ops listed).contains i = true) (hK : K ≤ i)
  (hQ : ∀ c a w, Q (.panic c) (a.put oi.dst v) w → Q (.panic c) a w) (hw : Region.wanted oi (yielded ops a.tmps) = true) (hy : ∀ w, (execOp a.eval oi).run P w = .ok (.value v) w)
  (h : wpAnyT P md ops Q S K fuel (listed.setIfInBounds i true) ⟨a.tmps.setIfInBounds d v, a.defers⟩ w) : wpAnyT P md ops Q S K (fuel + 1) listed a w :=
 wpAnyT_pure hi (Region.noSelect_spec hs) hQ hK fuel listed a w (Region.free_spec hi hf) (by simpa using hr) (.inl ⟨hw, fun w _ => hy w⟩) (by rw [put_some a oi d v hd]; exact h)
def AllReadyT (P : Program) (md : Region.Mode) (ops : Array Oper) (Q : Exit → Act → World → Prop) (S : World → Prop) (K fuel : Nat) (listed : Array Bool) (a : Act) (w : World) (rs : List Nat) : Prop :=
 ∀ i ∈ rs, wpOp P ops Q i (fun a' w' => (i < K → S w') ∧ wpAnyT P md ops Q S K fuel (listed.setIfInBounds i true) a' w') a w
theorem AllReadyT.nil {fuel : Nat} {listed : Array Bool} {a : Act} {w : World} : AllReadyT P md ops Q S K fuel listed a w [] := fun _ h => by cases h
theorem AllReadyT.cons {fuel : Nat} {listed : Array Bool} {a : Act} {w : World} {i : Nat} {o : Oper} {rs : List Nat} (ho : ops[i]? = some o)
  (h : ∀ K' : Act → World → Prop, Shut (∀ a w, (i < K → S w) → ((i < K → S w) → wpAnyT P md ops Q S K fuel (listed.setIfInBounds i true) a w) → K' a w) → if Region.wanted o (yielded ops a.tmps) = true then Oper.wp P o a w K' Q else K' (a.put o.dst undef) w)
  (hs : AllReadyT P md ops Q S K fuel listed a w rs) : AllReadyT P md ops Q S K fuel listed a w (i :: rs) := fun j hj => by
 rcases List.mem_cons.1 hj with rfl | hj
 ·exact wpOp_step ho (fun K' hK => h K' (fun a w hS hW => hK a w ⟨hS, hW hS⟩))
 ·exact hs j hj
theorem wpAnyT_ready {rs : List Nat} {fuel : Nat} {listed : Array Bool} {a : Act} {w : World} (hr : Region.ready md ops listed = rs) (hne : rs ≠ [])
  (h : AllReadyT P md ops Q S K fuel listed a w rs) : wpAnyT P md ops Q S K (fuel + 1) listed a w := ⟨fun h0 => absurd (hr ▸ h0) hne, hr ▸ h⟩
theorem wpAnyT_done {listed : Array Bool} {a : Act} {w : World} (hr : Region.ready md ops listed = []) (h : Q .normal a w) :
  ∀ fuel, wpAnyT P md ops Q S K fuel listed a w
 | 0 => ⟨hr, h⟩
 | _ + 1 => ⟨fun _ => h, by rw [hr]; simp⟩
theorem wp_region_drewT {id : Nat} {a : Act} {w : World} (K : Nat) (hm : P.follows .mixedOrders = true) (hS : S w.drew)
  (h : S w.drew → wpAnyT P .any ops Q S K ops.size (Array.replicate ops.size false) a w.drew) : (Code.region id ops true).wp P Q a w :=
 wp_region_any hm (wpAny_of_T _ _ _ _ (h hS))
end
section
variable {P : Program} {ops : Array Oper} {Q : Exit → Act → World → Prop} {md : Region.Mode} {S : World → Prop} {K : Nat}
theorem tt (i d : Nat) {oi : Oper} {v : Value} {fuel : Nat} {listed : Array Bool} {a : Act} {w : World} (hi : ops[i]? = some oi) (hd : oi.dst = some d) (h : wpAnyT P md ops Q S K fuel (listed.setIfInBounds i true) ⟨a.tmps.setIfInBounds d v, a.defers⟩ w)
    (hs : Region.noSelect ops = true := by kernel_rfl) (hf : Region.free md ops listed i = true := by kernel_rfl) (hr : (Region.ready md ops listed).contains i = true := by kernel_rfl) (hwt : waitsB md ops K i = true := by kernel_rfl) (hQ : ∀ c a w, Q (.panic c) (a.put oi.dst v) w → Q (.panic c) a w := by exact fun _ _ _ h => h) (hS : S w := by assumption) (hw : Region.wanted oi (yielded ops a.tmps) = true := by rfl)
    (hy : ∀ w, S w → (execOp a.eval oi).run P w = .ok (.value v) w := by (intro w hSw; (try dsimp only at hSw); go_simp; try with_reducible rfl)) : wpAnyT P md ops Q S K (fuel + 1) listed a w := takeT_yes i d hi hd hs hf hr hwt hQ hS hw hy h
theorem tl (i d : Nat) {oi : Oper} {v : Value} {fuel : Nat} {listed : Array Bool} {a : Act} {w : World} (hi : ops[i]? = some oi) (hd : oi.dst = some d) (h : wpAnyT P md ops Q S K fuel (listed.setIfInBounds i true) ⟨a.tmps.setIfInBounds d v, a.defers⟩ w)
    (hs : Region.noSelect ops = true := by kernel_rfl) (hf : Region.free md ops listed i = true := by kernel_rfl) (hr : (Region.ready md ops listed).contains i = true := by kernel_rfl) (hK : K ≤ i := by decide) (hQ : ∀ c a w, Q (.panic c) (a.put oi.dst v) w → Q (.panic c) a w := by exact fun _ _ _ h => h) (hw : Region.wanted oi (yielded ops a.tmps) = true := by rfl)
    (hy : ∀ w, (execOp a.eval oi).run P w = .ok (.value v) w := by (intro w; go_simp; try with_reducible rfl)) : wpAnyT P md ops Q S K (fuel + 1) listed a w := takeT_late i d hi hd hs hf hr hK hQ hw hy h
end
end Go.Proofs.YtgeplpdcnanmnaaGreat
namespace Go.Proofs.YtgeplpdcnanmnaaGreat.RowWords
open Go.ChangeShapes Go.WideShapes Go.ChangeAt Go.RowKit Go.Joins Go.Deep
set_option linter.unusedVariables false
theorem own : ownKnob Tryz.prog.godebug = none := by kernel_rfl
theorem laidOut : laidOutB Tryz.prog = true := by kernel_rfl
section
variable {H : Type} {enc : TypeId × Value → H} {w : World} {base : Nat} {spare : Nat → Bool} {held : Bool}
end
end Go.Proofs.YtgeplpdcnanmnaaGreat.RowWords

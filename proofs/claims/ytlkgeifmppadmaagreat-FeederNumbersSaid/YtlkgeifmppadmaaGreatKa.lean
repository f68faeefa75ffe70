/- Words of this session over the model's worlds: which blocks a call has turned. No program in sight. The program's own SHA-256: its words, its rounds. The program's own SHA-256: mixing a block in. The words of the rounds; the reference's turning and mixing. The reference's mixing of a block. Slices as lists of cells; appending whatever is shown to a row of one's own. No program in sight. Bytes in memory. SHA-256 as a plain function. slices.Chunk at bytes, 64 at a time. Rows of bytes in memory. slices.Clone at bytes; bytes.Equal, hash.Same. slices.Chunk at bytes: the iterator, and its stops. Conditions: as each theorem states them. -/
import Derived.Below
import Derived.Deep.Draws
import Derived.OwnWalk
import Derived.Laws.OwnMore
import Derived.WalkKit
import Derived.WalkSmall
import Derived.Lib.Hide
import Derived.ChangeKeysEq
import Derived.Laws.Entries
import Derived.Laws.CopyRow
import Derived.Lib.SliceRun
import Derived.Test.YtlkgeifmppadmaaGreatProg
import Derived.KernelRfl
import Derived.Deep.QuietTactic
import Derived.BigQuiet
import Derived.BigRegion
import Derived.RegionTactic
import Derived.Laws.Tables
import Derived.Great.BuildSlice
import Derived.Deep.RegionWith
import Derived.Deep.RegionLaw
import Derived.Deep.RegionHeld3
import Derived.StillTailTactics
import Derived.Deep.AppendLies
import Derived.RangeFuncNested
import Derived.RangeFuncBox
import Derived.RangeFuncLeaves
import Derived.RangeFuncCalls
import Derived.Shelf.Abstract
import Derived.OwnWalkIn
import Derived.TacticsInMore
import Derived.LoopNIn
import Derived.LoopIn
import Derived.Maps.AppendAt
import Derived.WalkSpells
import Derived.Lib.ConvBytes
import Derived.Lib.BufferRead
namespace Go.Proofs.YtlkgeifmppadmaaGreat
open Go.RowKit
set_option linter.unusedVariables false

structure Chg (w w' : World) (S : Nat → Prop) : Prop where
 os : w'.os = w.os
 tape : w'.tape = w.tape
 output : w'.output = w.output
 size : w.heap.size ≤ w'.heap.size
 block : ∀ k, k < w.heap.size → ¬ S k → w'.heap[k]? = w.heap[k]?
namespace Chg
variable {w w1 w2 : World} {S T : Nat → Prop}
theorem refl (w : World) (S : Nat → Prop) : Chg w w S := ⟨rfl, rfl, rfl, Nat.le_refl _, fun _ _ _ => rfl⟩
theorem mono (h : Chg w w1 S) (hS : ∀ k, k < w.heap.size → S k → T k) : Chg w w1 T := ⟨h.os, h.tape, h.output, h.size, fun k hk hn => h.block k hk (fun hs => hn (hS k hk hs))⟩
theorem trans (h : Chg w w1 S) (k : Chg w1 w2 T) (hT : ∀ i, i < w.heap.size → T i → S i) : Chg w w2 S :=
 ⟨k.os.trans h.os, k.tape.trans h.tape, k.output.trans h.output, Nat.le_trans h.size k.size, fun i hi hn => (k.block i (Nat.lt_of_lt_of_le hi h.size) (fun ht => hn (hT i hi ht))).trans (h.block i hi hn)⟩
theorem of_below (h : Below w.heap.size w w1) : Chg w w1 S := ⟨h.os, h.tape, h.output, h.size, fun k hk _ => h.block k hk⟩
theorem below {B : Nat} (h : Chg w w1 S) (hB : B ≤ w.heap.size) (hS : ∀ k, S k → B ≤ k) : Below B w w1 := ⟨h.os, h.tape, h.output, h.size, fun k hk => h.block k (by omega) (fun hs => by have := hS k hs; omega)⟩
theorem of_grown {row : Option Nat} (h : w.grownBy w1 row) : Chg w w1 (fun k => some k = row) := ⟨h.os, h.tape, h.output, h.size, fun k hk hn => h.block k hk hn⟩
theorem drew (h : Chg w w1 S) : Chg w w1.drew S := ⟨h.os, h.tape, h.output, h.size, h.block⟩
theorem drewN (h : Chg w w1 S) (n : Nat) : Chg w (w1.drewN n) S := ⟨h.os, h.tape, h.output, h.size, h.block⟩
theorem alloc (h : Chg w w1 S) (o : Obj) : Chg w (w1.alloc o) S := h.trans (of_below ((Below.refl _ _).alloc (Nat.le_refl _) o)) (T := fun _ => False) (fun _ _ h => h.elim)
theorem setCell (h : Chg w w1 S) (p : Addr) (v : Value) (hp : p.block < w.heap.size → S p.block) : Chg w (w1.setCell p v) S :=
 h.trans (T := fun k => k = p.block) ⟨rfl, rfl, rfl, by simp, fun k _ hk => Below.heap_setCell w1 p v k hk⟩ (fun i hi he => by subst he; exact hp hi)
theorem cell (h : Chg w w1 S) {a : Addr} (ha : a.block < w.heap.size) (hn : ¬ S a.block) : w1.cell? a = w.cell? a := World.cell?_of_block (h.block _ ha hn)
theorem frozen (h : Chg w w1 S) {a : Addr} (ha : a.block < w.heap.size) (hn : ¬ S a.block) : w1.frozen? a = w.frozen? a := World.frozen?_of_block (h.block _ ha hn)
end Chg

theorem blk_set (w : World) (g i : Nat) (cs : Array Value) (t : TypeId) (v : Value) (hg : w.heap[g]? = some (.cells cs t (0, 0))) :
  (w.setCell ⟨g, i, none⟩ v).heap[g]? = some (.cells (cs.setIfInBounds i v) t (0, 0)) := by
 simp [World.setCell, Array.getElem?_modify, hg]
theorem blk_new (w : World) (o : Obj) : (w.alloc o).heap[w.heap.size]? = some o := by
 show (w.heap.push o)[w.heap.size]? = _
 simp
def Blk (w : World) (b : Nat) (t : TypeId) (cs : List Value) : Prop := w.heap[b]? = some (.cells cs.toArray t (0, 0))
namespace Blk
variable {w w1 : World} {b : Nat} {t : TypeId} {cs : List Value} {S : Nat → Prop}
theorem lt (h : Blk w b t cs) : b < w.heap.size := (Array.getElem?_eq_some_iff.1 h).1
theorem cell (h : Blk w b t cs) (j : Nat) (u : Value) (hj : cs[j]? = some u) : w.cell? ⟨b, j, none⟩ = some u := by
 unfold Blk at h
 simp [World.cell?, h, hj]
theorem free (h : Blk w b t cs) (j : Nat) : w.frozen? ⟨b, j, none⟩ = false := by
 unfold Blk at h
 simp [World.frozen?, h]
theorem chg (h : Blk w b t cs) (hc : Chg w w1 S) (hn : ¬ S b) : Blk w1 b t cs := (hc.block b h.lt hn).trans h
theorem below (h : Blk w b t cs) (hc : Below w.heap.size w w1) : Blk w1 b t cs := (hc.block b h.lt).trans h
theorem alloc (h : Blk w b t cs) (o : Obj) : Blk (w.alloc o) b t cs := h.below ((Below.refl _ _).alloc (Nat.le_refl _) o)
theorem drewN (h : Blk w b t cs) (n : Nat) : Blk (w.drewN n) b t cs := h
theorem drew (h : Blk w b t cs) : Blk w.drew b t cs := h
theorem new (w : World) (t : TypeId) (cs : List Value) : Blk (w.alloc (.cells cs.toArray t)) w.heap.size t cs := by
 unfold Blk
 exact blk_new w _
theorem set (h : Blk w b t cs) (j : Nat) (v : Value) (hj : j < cs.length) : Blk (w.setCell ⟨b, j, none⟩ v) b t (cs.set j v) := by
 have e : (cs.toArray.setIfInBounds j v) = (cs.set j v).toArray := by simp
 have h2 := blk_set w b j cs.toArray t v h
 rw [e] at h2
 exact h2
theorem grown {row : Option Nat} (h : Blk w b t cs) (hg : w.grownBy w1 row) (hne : some b ≠ row) : Blk w1 b t cs := (hg.block b h.lt hne).trans h
theorem setOther (h : Blk w b t cs) (p : Addr) (v : Value) (hp : b ≠ p.block) : Blk (w.setCell p v) b t cs := (Below.heap_setCell w p v b hp).trans h
end Blk
theorem method_through {P : Program} {t e f : Nat} {name : String} (hf : (P.info? t).bind (fun i => (i.methods.find? (·.name == name)).map (fun m => (m.path, m.func))) = some (#[], some (f, false))) (hu : P.underlying t = some (.pointer e))
  (d : Nat) (a : Addr) (v : Value) (w : World) (h : (loadVar e a).run P w = .ok v w) : (method (d + 1) t (.pointer (some a)) name).run P w = .ok (f, v) w := by
 obtain ⟨i, hi, hf⟩ := Option.bind_eq_some_iff.1 hf
 obtain ⟨m, hm, hp⟩ := Option.map_eq_some_iff.1 hf
 simp only [Prod.mk.injEq] at hp
 obtain ⟨h1, h2⟩ := hp
 have hti : (typeInfo t).run P w = .ok i w := run_typeInfo (w := w) hi
 rw [method]
 simp only [Sem.run_bind, hti, Result.andThen_ok, hm, h1, h2]
 have hw : ∀ x y, Builtin.ssaWrapNilChk_ #[t] t #[.pointer (some a), strVal x, strVal y] = pure (.pointer (some a)) := fun _ _ => rfl
 have hus : (underlying t).run P w = .ok (.pointer e) w := run_underlying hu w
 unfold receiverAt
 simp only [follow, Sem.run_bind, Sem.run_pure, Result.andThen_ok, hus, Place.get, Array.isEmpty_empty, if_true, hw, asAddr, h]

theorem run_clear_at {P : Program} (w : World) (t e ty : TypeId) (z : Value) (ht : P.underlying t = some (.slice e)) (hv : ∀ w, (zeroValue e).run P w = .ok z w) (h1 : ∀ v ∈ z.cells.toList, v.oneCell' = true) (g o n c : Nat) (hn : 0 < n) (te : TypeId) (cs : List Value) (hb : Blk w g te cs) (ho : o + n * z.cells.size ≤ cs.length) :
    (Builtin.clear_ #[t] ty #[.slice (some ⟨g, o, none⟩) n c]).run P w = .ok (.tuple #[]) (w.setRow g (cs.take o ++ (Builtin.zeroCells z.cells n).toList ++ cs.drop (o + n * z.cells.size)).toArray) := by
  have hlen : (Builtin.zeroCells z.cells n).toList.length = n * z.cells.size := by simp [Builtin.zeroCells]
  have hall : ∀ v ∈ (Builtin.zeroCells z.cells n).toList, v.oneCell' = true := by
    intro v hv
    unfold Builtin.zeroCells at hv
    simp only [Array.toList_map, List.mem_map] at hv
    obtain ⟨i, hi, rfl⟩ := hv
    have hi2 : i < n * z.cells.size := by simpa using hi
    have hpos : 0 < z.cells.size := by rcases Nat.eq_zero_or_pos z.cells.size with h | h; · rw [h] at hi2; omega
                                       · exact h
    refine h1 _ ?_
    have hm : i % z.cells.size < z.cells.size := Nat.mod_lt _ hpos
    rw [getElem!_pos z.cells _ hm]
    exact Array.getElem_mem_toList hm
  have hst := run_storeCells_at (P := P) g o te (Builtin.zeroCells z.cells n).toList 0 cs.toArray w hb (by rw [hlen]; simpa using ho) hall
  simp only [Nat.add_zero, hlen] at hst
  obtain ⟨m, rfl⟩ : ∃ m, n = m + 1 := ⟨n - 1, by omega⟩
  simp [Builtin.clear_, run_underlying ht, hv, hst]
theorem blk_setRow {w : World} {g : Nat} {te : TypeId} {cs : List Value} (hb : Blk w g te cs) (cs' : List Value) : Blk (w.setRow g cs'.toArray) g te cs' := setRow_heap w g cs.toArray cs'.toArray te (0, 0) hb
theorem chg_setRow (w : World) (g : Nat) (cs : Array Value) : Chg w (w.setRow g cs) (fun k => k = g) := by
 refine ⟨rfl, rfl, rfl, by simp [World.setRow], fun k _ hk => ?_⟩
 simp only [World.setRow, Array.getElem?_modify]
 rw [if_neg (fun e => hk e.symm)]

theorem grownBy_setCell (w : World) (p : Addr) (v : Value) : w.grownBy (w.setCell p v) (some p.block) := ⟨rfl, rfl, rfl, by simp, fun k _ hk => Below.heap_setCell w p v k (fun e => hk (by rw [e]))⟩
theorem ownsRow_set {w : World} {base : Nat} {e : TypeId} {size n : Nat} {v : Value} {xs : List Value} (h : w.ownsRow base e size v n xs) (p : Addr) (u : Value) (hne : v.ownBlock ≠ some p.block) : (w.setCell p u).ownsRow base e size v n xs :=
 h.kept (grownBy_setCell w p u) (.inr hne)
theorem ownsRow_chg {w w1 : World} {base : Nat} {e : TypeId} {size n : Nat} {v : Value} {xs : List Value} {S : Nat → Prop} (h : w.ownsRow base e size v n xs) (hc : Chg w w1 S) (hn : ∀ k, v.ownBlock = some k → ¬ S k) : w1.ownsRow base e size v n xs := by
 obtain ⟨h1, h2⟩ := h
 refine ⟨h1, ?_⟩
 rcases h2 with h2 | ⟨g, cap, cur, rfl, hg, hh, r⟩
 ·exact .inl h2
 ·have hlt : g < w.heap.size := (Array.getElem?_eq_some_iff.1 hh).1
  exact .inr ⟨g, cap, cur, rfl, hg, (hc.block g hlt (hn g rfl)).trans hh, r⟩
theorem calls_at {P : Program} {f : Nat} {args : Array Value} {W : World} {R : Ending → World → Prop} (Φ : World → Prop) (h : Φ W) (k : ∀ w1, Φ w1 → Calls P f args w1 R) : Calls P f args W R := k W h
theorem code_at {P : Program} {c : Code} {Q : Exit → Act → World → Prop} {a : Act} {W : World} (Φ : World → Prop) (h : Φ W) (k : ∀ w1, Φ w1 → Code.wp P c Q a w1) : Code.wp P c Q a W := k W h
theorem blk2 (w : World) (A B : List Value) (t1 t2 : TypeId) (w1 : World) (e : w1 = (w.alloc (.cells A.toArray t1)).alloc (.cells B.toArray t2)) :
  Below w.heap.size w w1 ∧ Blk w1 w.heap.size t1 A ∧ Blk w1 (w.heap.size + 1) t2 B := by
 subst e
 have b1 := Blk.new (w.alloc (.cells A.toArray t1)) t2 B
 rw [show (w.alloc (.cells A.toArray t1)).heap.size = w.heap.size + 1 by simp] at b1
 exact ⟨((Below.refl _ _).alloc (Nat.le_refl _) _).alloc (by simp) _, (Blk.new w t1 A).alloc _, b1⟩
theorem blk3 (w : World) (A B C : List Value) (t1 t2 t3 : TypeId) (w1 : World) (e : w1 = ((w.alloc (.cells A.toArray t1)).alloc (.cells B.toArray t2)).alloc (.cells C.toArray t3)) :
  Below w.heap.size w w1 ∧ Blk w1 w.heap.size t1 A ∧ Blk w1 (w.heap.size + 1) t2 B ∧ Blk w1 (w.heap.size + 1 + 1) t3 C := by
 subst e
 obtain ⟨h1, h2, h3⟩ := blk2 w A B t1 t2 _ rfl
 have b1 := Blk.new ((w.alloc (.cells A.toArray t1)).alloc (.cells B.toArray t2)) t3 C
 rw [show ((w.alloc (.cells A.toArray t1)).alloc (.cells B.toArray t2)).heap.size = w.heap.size + 1 + 1 by simp] at b1
 exact ⟨h1.alloc h1.size _, h2.alloc _, h3.alloc _, b1⟩
theorem quiet_here {P : Program} {f : FuncId} {args : Array Value} {w : World} {n : Nat} {v : Value} (h : Calls P f args (w.drewN n) fun e w' => e = .returned v ∧ w.drewN n = w') : Calls P f args (w.drewN n) fun e w'' => e = .returned v ∧ ∃ m, w'' = w.drewN m :=
 h.mono fun _ _ ⟨he, hm⟩ => ⟨he, n, hm.symm⟩
theorem quiet_there {P : Program} {f : FuncId} {args : Array Value} {w : World} {a n : Nat} {v : Value} (h : Calls P f args (w.drewN (a + n)) fun e w' => e = .returned v ∧ w.drewN (a + n) = w') : Calls P f args (w.drewN (a + n)) fun e w'' => e = .returned v ∧ ∃ m, w'' = w.drewN (a + m) :=
 h.mono fun _ _ ⟨he, hm⟩ => ⟨he, n, hm.symm⟩
theorem sa {α : Type} (i : Nat) (x : α) (l : List α) : l.toArray.setIfInBounds i x = (l.set i x).toArray := List.setIfInBounds_toArray ..
theorem sb {α : Type} (x y : α) (l : List α) : (x :: l).set 0 y = y :: l := rfl
theorem sc {α : Type} (x y : α) (n : Nat) (l : List α) : (x :: l).set (n + 1) y = x :: l.set n y := rfl
set_option linter.unusedSimpArgs false
def u32s (l : List Int) : List Value := l.map (Value.int .u32)
def rotr (n : Nat) (x : Int) : Int := bits .or .u32 (x * (2 ^ (32 - n) : Nat) % 4294967296) (x / (2 ^ n : Nat))
def sg0 (x : Int) : Int := bits .xor .u32 (bits .xor .u32 (rotr 7 x) (rotr 18 x)) (x / 8)
def sg1 (x : Int) : Int := bits .xor .u32 (bits .xor .u32 (rotr 17 x) (rotr 19 x)) (x / 1024)
def nx (l : List Int) : Int := (l.getD (l.length - 16) 0 + sg0 (l.getD (l.length - 15) 0) + l.getD (l.length - 7) 0 + sg1 (l.getD (l.length - 2) 0)) % 4294967296
def sch (l : List Int) : Nat → List Int
 | 0 => l
 | n + 1 => sch l n ++ [nx (sch l n)]
theorem sch_length (l : List Int) (n : Nat) : (sch l n).length = l.length + n := by
 induction n with
 | zero => rfl
 | succ n ih => show (sch l n ++ [_]).length = _; rw [List.length_append, ih]; rfl
def wordAt (l : List UInt8) (i j : Nat) : Int := ((l.drop (4 * i)).take j).foldl (fun x c => bits .or .u32 (x * 256 % 4294967296) (c.toNat : Nat)) 0
def words (l : List UInt8) (n : Nat) : List Int := (List.range n).map (fun i => wordAt l i 4)
theorem words_length (l : List UInt8) (n : Nat) : (words l n).length = n := by simp [words]
theorem words_succ (l : List UInt8) (n : Nat) : words l (n + 1) = words l n ++ [wordAt l n 4] := by simp [words, List.range_succ]
theorem wordAt_succ (l : List UInt8) (i j : Nat) (h : 4 * i + j < l.length) : wordAt l i (j + 1) = bits .or .u32 (wordAt l i j * 256 % 4294967296) (l[4 * i + j].toNat : Nat) := by
 unfold wordAt
 have h1 : j < (l.drop (4 * i)).length := by rw [List.length_drop]; omega
 rw [List.take_succ_eq_append_getElem h1, List.foldl_append]
 simp
def sched (l : List UInt8) : List Int := sch (words l 16) 48
theorem sched_length (l : List UInt8) : (sched l).length = 64 := by unfold sched; rw [sch_length, words_length]

section
variable {w : World} {b : Nat} {t : TypeId} {l r : List Int} {x : Int} {i : Nat}
theorem u32_at (h : Blk w b t (u32s (l ++ r))) (k : Nat) (hk : k < l.length) : w.cell? ⟨b, k, none⟩ = some (.int .u32 (l.getD k 0)) :=
 h.cell k _ (by rw [u32s, List.map_append, List.getElem?_append_left (by simpa using hk)]; simp [List.getElem?_eq_getElem hk, List.getD_eq_getElem?_getD])
theorem u32_get (h : Blk w b t (u32s l)) (k : Nat) (hk : k < l.length) : w.cell? ⟨b, k, none⟩ = some (.int .u32 (l.getD k 0)) :=
 u32_at (r := []) (by rwa [List.append_nil]) k hk
theorem u32_mid (h : Blk w b t (u32s (l ++ x :: r))) (hi : l.length = i) : w.cell? ⟨b, i, none⟩ = some (.int .u32 x) :=
 h.cell i _ (by subst hi; simp [u32s])
theorem u32_put (h : Blk w b t (u32s (l ++ x :: r))) (hi : l.length = i) (y : Int) : Blk (w.setCell ⟨b, i, none⟩ (.int .u32 y)) b t (u32s (l ++ y :: r)) := by
 have h2 := h.set i (.int .u32 y) (by subst hi; simp [u32s])
 have e : (u32s (l ++ x :: r)).set i (.int .u32 y) = u32s (l ++ y :: r) := by
  subst hi
  simp [u32s, List.set_append_right]
 rwa [e] at h2
end
theorem rep_succ (n k : Nat) (h : k = n + 1) : List.replicate k (0 : Int) = 0 :: List.replicate n 0 := by subst h; rfl
theorem u32s_one (l : List Int) : (u32s l).toArray.all (·.oneCell') = true := by simp [u32s, Value.oneCell']
theorem under_row64 : Tryz.prog.underlying 146 = some (.array 64 124) := by kernel_rfl
theorem under_row8 : Tryz.prog.underlying 145 = some (.array 8 124) := by kernel_rfl
theorem size_row64 (l : List Int) (h : l.length = 64) : (Tryz.prog.info? 146).map (·.size) = some (u32s l).toArray.size := by
 have : (Tryz.prog.info? 146).map (·.size) = some 64 := by kernel_rfl
 rw [this]; simp [u32s, h]
theorem size_row8 (l : List Int) (h : l.length = 8) : (Tryz.prog.info? 145).map (·.size) = some (u32s l).toArray.size := by
 have : (Tryz.prog.info? 145).map (·.size) = some 8 := by kernel_rfl
 rw [this]; simp [u32s, h]

def BysAt (w : World) (g o : Nat) (l : List UInt8) : Prop := ∀ k (h : k < l.length), w.cell? ⟨g, o + k, none⟩ = some (.int .u8 (l[k].toNat : Nat))

theorem or_comm32 (a b : Int) : bits .or .u32 a b = bits .or .u32 b a := by
 unfold bits
 simp only [BitVec.or_comm]
def Turns (n : Nat) : Prop := n = 2 ∨ n = 6 ∨ n = 7 ∨ n = 11 ∨ n = 13 ∨ n = 17 ∨ n = 18 ∨ n = 19 ∨ n = 22 ∨ n = 25
theorem rot_any (n : Nat) (hn : Turns n) (x : Int) (w : World) :
  Calls Tryz.prog 111 #[.int .u32 x, .int .i64 (-(n : Int))] w fun e w' => e = .returned (.int .u32 (rotr n x)) ∧ w = w' := by
 rcases hn with rfl | rfl | rfl | rfl | rfl | rfl | rfl | rfl | rfl | rfl
 ·have e1 : bits BinOp.and .u64 (IntKind.u64.wrap (-2)) 31 = 30 := by decide
  go_enter Tryz.func111, Tryz.ntmps111
  go_wp2
  go_ret
  exact ⟨rfl, rfl⟩
 ·have e1 : bits BinOp.and .u64 (IntKind.u64.wrap (-6)) 31 = 26 := by decide
  go_enter Tryz.func111, Tryz.ntmps111
  go_wp2
  go_ret
  exact ⟨rfl, rfl⟩
 ·have e1 : bits BinOp.and .u64 (IntKind.u64.wrap (-7)) 31 = 25 := by decide
  go_enter Tryz.func111, Tryz.ntmps111
  go_wp2
  go_ret
  exact ⟨rfl, rfl⟩
 ·have e1 : bits BinOp.and .u64 (IntKind.u64.wrap (-11)) 31 = 21 := by decide
  go_enter Tryz.func111, Tryz.ntmps111
  go_wp2
  go_ret
  exact ⟨rfl, rfl⟩
 ·have e1 : bits BinOp.and .u64 (IntKind.u64.wrap (-13)) 31 = 19 := by decide
  go_enter Tryz.func111, Tryz.ntmps111
  go_wp2
  go_ret
  exact ⟨rfl, rfl⟩
 ·have e1 : bits BinOp.and .u64 (IntKind.u64.wrap (-17)) 31 = 15 := by decide
  go_enter Tryz.func111, Tryz.ntmps111
  go_wp2
  go_ret
  exact ⟨rfl, rfl⟩
 ·have e1 : bits BinOp.and .u64 (IntKind.u64.wrap (-18)) 31 = 14 := by decide
  go_enter Tryz.func111, Tryz.ntmps111
  go_wp2
  go_ret
  exact ⟨rfl, rfl⟩
 ·have e1 : bits BinOp.and .u64 (IntKind.u64.wrap (-19)) 31 = 13 := by decide
  go_enter Tryz.func111, Tryz.ntmps111
  go_wp2
  go_ret
  exact ⟨rfl, rfl⟩
 ·have e1 : bits BinOp.and .u64 (IntKind.u64.wrap (-22)) 31 = 10 := by decide
  go_enter Tryz.func111, Tryz.ntmps111
  go_wp2
  go_ret
  exact ⟨rfl, rfl⟩
 ·have e1 : bits BinOp.and .u64 (IntKind.u64.wrap (-25)) 31 = 7 := by decide
  go_enter Tryz.func111, Tryz.ntmps111
  go_wp2
  go_ret
  exact ⟨rfl, rfl⟩
theorem right_any (n : Nat) (k : Int) (hk : k = n) (hn : Turns n) (x : Int) (w : World) :
  Calls Tryz.prog 110 #[.int .u32 x, .int .i64 k] w fun e w' => e = .returned (.int .u32 (rotr n x)) ∧ w = w' := by
 subst hk
 have H := Lib.hid (fun wz => rot_any n hn x wz)
 have hn2 : 2 ≤ n ∧ n ≤ 25 := by unfold Turns at hn; omega
 have ek : IntKind.i64.wrap (-(n : Int)) = -(n : Int) := IntWalk.i64_in _ (by omega)
 clear hn
 go_enter Tryz.func110, Tryz.ntmps110
 go_wp2_with fail
 refine (H.out _).mono ?_
 rintro e w' ⟨rfl, rfl⟩
 go_wp2
 go_ret
 exact ⟨rfl, rfl⟩

def TurnsZ (k : Int) : Prop := k = 2 ∨ k = 6 ∨ k = 7 ∨ k = 11 ∨ k = 13 ∨ k = 17 ∨ k = 18 ∨ k = 19 ∨ k = 22 ∨ k = 25
theorem right_z (k : Int) (hk : TurnsZ k) (x : Int) (w : World) :
  Calls Tryz.prog 110 #[.int .u32 x, .int .i64 k] w fun e w' => e = .returned (.int .u32 (rotr k.toNat x)) ∧ w = w' :=
 right_any k.toNat k (by unfold TurnsZ at hk; omega) (by unfold TurnsZ at hk; unfold Turns; omega) x w

set_option maxRecDepth 10000 in
set_option maxHeartbeats 2000000 in
theorem spread_any (g o c : Nat) (l : List UInt8) (hl : l.length = 64) (hc : 64 ≤ c) (w : World) (hg : g < w.heap.size) (hx : BysAt w g o l) :
  Calls Tryz.prog 109 #[.slice (some ⟨g, o, none⟩) 64 c] w fun e w' => e = .returned (.agg (u32s (sched l)).toArray) ∧ Below w.heap.size w w' := by
 have HX := Lib.hid hx
 clear hx
 have HL := Lib.hid hl
 clear hl
 go_enter Tryz.func109, Tryz.ntmps109
 go_wp2
 go_loopw [12] (fun v12 wr => ∃ (i : Nat), v12 = .int .i64 i ∧ i ≤ 16 ∧ Hid (Below w.heap.size w wr ∧ Blk wr (w.heap.size + 1) 146 (u32s (words l i ++ List.replicate (64 - i) 0)) ∧ Blk wr w.heap.size 146 (u32s (List.replicate 64 0)))) (fun v _ => 16 - (intOf v).toNat)
 case atStart =>
  have b0 : Blk (w.alloc (.cells (u32s (List.replicate 64 0)).toArray 146)) w.heap.size 146 (u32s (List.replicate 64 0)) := Blk.new w _ _
  have b1 := Blk.new (w.alloc (.cells (u32s (List.replicate 64 0)).toArray 146)) 146 (u32s (List.replicate 64 0))
  rw [show (w.alloc (.cells (u32s (List.replicate 64 0)).toArray 146)).heap.size = w.heap.size + 1 by simp] at b1
  exact ⟨0, rfl, by omega, Lib.hid ⟨((Below.refl _ _).alloc (Nat.le_refl _) _).alloc (by simp) _, b1, b0.alloc _⟩⟩
 case round =>
  obtain ⟨i, rfl, hi, HI⟩ := hrel
  by_cases hlt : i < 16
  ·go_wp2
   go_loopw [23] (fun v23 wr => ∃ (j : Nat), v23 = .int .i64 j ∧ j ≤ 4 ∧ Hid (Below w.heap.size w wr ∧ Blk wr (w.heap.size + 1) 146 (u32s (words l i ++ wordAt l i j :: List.replicate (63 - i) 0)) ∧ Blk wr w.heap.size 146 (u32s (List.replicate 64 0)))) (fun v _ => 4 - (intOf v).toNat)
   case atStart => exact ⟨0, rfl, by omega, Lib.hid ⟨HI.out.1, by have := HI.out.2.1; rwa [rep_succ (63 - i) (64 - i) (by omega)] at this, HI.out.2.2⟩⟩
   case round =>
    obtain ⟨j, rfl, hj, HJ⟩ := hrel
    by_cases hlt2 : j < 4
    ·have hlj : 4 * i + j < l.length := by rw [HL.out]; omega
     have p0 : wr.cell? ⟨g, o + 4 * i + j, none⟩ = some (.int .u8 (l[4 * i + j].toNat : Nat)) := by
      have := (HJ.out.1.cell (p := ⟨g, o + (4 * i + j), none⟩) hg).trans (HX.out _ hlj)
      rwa [← Nat.add_assoc] at this
     have p1 : wr.cell? ⟨w.heap.size + 1, i, none⟩ = some (.int .u32 (wordAt l i j)) := u32_mid HJ.out.2.1 (words_length l i)
     have p2 : wr.frozen? ⟨w.heap.size + 1, i, none⟩ = false := HJ.out.2.1.free i
     have HS := Lib.hid (wordAt_succ l i j hlj)
     have hb := l[4 * i + j].toNat_lt
     generalize l[4 * i + j] = b at *
     have eb : ((b.toNat : Nat) : Int) % 4294967296 = (b.toNat : Nat) := by omega
     generalize wordAt l i j = x at *
     go_wp2
     go_roundw
     case rel => exact ⟨j + 1, by go_num, by omega, Lib.hid ⟨HJ.out.1.setCell (by simp) _, by rw [HS.out]; exact u32_put HJ.out.2.1 (words_length l i) _, HJ.out.2.2.setOther _ _ (by simp)⟩⟩
     case measure => simp [intOf]; omega
    ·obtain rfl : j = 4 := by omega
     go_wp2
     go_roundw
     case rel => exact ⟨i + 1, by go_num, by omega, Lib.hid ⟨HJ.out.1, by have := HJ.out.2.1; rwa [words_succ, List.append_assoc, show 64 - (i + 1) = 63 - i by omega], HJ.out.2.2⟩⟩
     case measure => simp [intOf]; omega
  ·obtain rfl : i = 16 := by omega
   rw [show ((16 : Nat) : Int) = 16 from rfl]
   go_wp2
   go_loopw [7] (fun v7 wr => ∃ (i : Nat), v7 = .int .i64 i ∧ 16 ≤ i ∧ i ≤ 64 ∧ Hid (Below w.heap.size w wr ∧ Blk wr (w.heap.size + 1) 146 (u32s (sch (words l 16) (i - 16) ++ List.replicate (64 - i) 0)) ∧ Blk wr w.heap.size 146 (u32s (List.replicate 64 0)))) (fun v _ => 64 - (intOf v).toNat)
   case atStart => exact ⟨16, rfl, by omega, by omega, HI⟩
   case round =>
    clear HI
    obtain ⟨i, rfl, hi16, hi, HI⟩ := hrel
    have HLS : Hid ((sch (words l 16) (i - 16)).length = i) := Lib.hid (by rw [sch_length, words_length]; omega)
    by_cases hlt : i < 64
    ·have hb := HI.out.2.1
     rw [rep_succ (63 - i) (64 - i) (by omega)] at hb
     have HB := Lib.hid hb
     clear hb
     have q15 := u32_at HB.out (i - 15) (by rw [HLS.out]; omega)
     have q2 := u32_at HB.out (i - 2) (by rw [HLS.out]; omega)
     have q16 := u32_at HB.out (i - 16) (by rw [HLS.out]; omega)
     have q7 := u32_at HB.out (i - 7) (by rw [HLS.out]; omega)
     have q0 := u32_mid HB.out HLS.out
     have HN : Hid (nx (sch (words l 16) (i - 16)) = ((sch (words l 16) (i - 16)).getD (i - 16) 0 + sg0 ((sch (words l 16) (i - 16)).getD (i - 15) 0) + (sch (words l 16) (i - 16)).getD (i - 7) 0 + sg1 ((sch (words l 16) (i - 16)).getD (i - 2) 0)) % 4294967296) := Lib.hid (by unfold nx; rw [HLS.out])
     generalize (sch (words l 16) (i - 16)).getD (i - 15) 0 = x15 at *
     generalize (sch (words l 16) (i - 16)).getD (i - 2) 0 = x2 at *
     generalize (sch (words l 16) (i - 16)).getD (i - 16) 0 = x16 at *
     generalize (sch (words l 16) (i - 16)).getD (i - 7) 0 = x7 at *
     have t15 : ((i : Int) - 15).toNat = i - 15 := by omega
     have t2 : ((i : Int) - 2).toNat = i - 2 := by omega
     have t16 : ((i : Int) - 16).toNat = i - 16 := by omega
     have t7 : ((i : Int) - 7).toNat = i - 7 := by omega
     have b15 : (0 : Int) ≤ (i : Int) - 15 ∧ (i : Int) - 15 < 64 := by omega
     go_wp2
     go_quiet (fail)
     have f0 : (wr.drewN (nq + 1)).frozen? ⟨w.heap.size + 1, i, none⟩ = false := HB.out.free i
     go_wp2_with (go_at_call 110; (with_reducible refine (right_z _ (by unfold TurnsZ; omega) _ _).mono ?_); rintro e w' ⟨rfl, rfl⟩)
     rw [show bits BinOp.xor IntKind.u32 (bits BinOp.xor IntKind.u32 (rotr 7 x15) (rotr 18 x15)) (x15 / 8) = sg0 x15 from rfl, show bits BinOp.xor IntKind.u32 (bits BinOp.xor IntKind.u32 (rotr 17 x2) (rotr 19 x2)) (x2 / 1024) = sg1 x2 from rfl]
     generalize sg0 x15 = s0 at *
     generalize sg1 x2 = s1 at *
     go_region
     go_wp2
     go_roundw
     case rel =>
      refine ⟨i + 1, by go_num, by omega, by omega, Lib.hid ⟨(below_drewN HI.out.1 _).setCell (by simp) _, ?_, Blk.setOther (HI.out.2.2.drewN _) _ _ (by simp)⟩⟩
      rw [show i + 1 - 16 = i - 16 + 1 by omega]
      show Blk _ _ _ (u32s ((sch (words l 16) (i - 16) ++ [nx (sch (words l 16) (i - 16))]) ++ List.replicate (64 - (i + 1)) 0))
      rw [List.append_assoc, HN.out, show 64 - (i + 1) = 63 - i by omega]
      exact u32_put (HB.out.drewN _) HLS.out _
     case measure => simp [intOf]; omega
    ·obtain rfl : i = 64 := by omega
     have hb1 : Blk wr (w.heap.size + 1) 146 (u32s (sched l)) := by
      have := HI.out.2.1
      rwa [show List.replicate (64 - 64) (0 : Int) = [] from rfl, List.append_nil] at this
     have HB := Lib.hid (And.intro hb1 HI.out.2.2)
     have HBel := Lib.hid HI.out.1
     clear hb1 HI HLS
     have HSL := Lib.hid (sched_length l)
     generalize hS : sched l = S at *
     have HSS := Lib.hid hS
     clear hS
     go_wp2_with (first
      | (refine wpList_load_row rfl 146 (.tmp 3) rfl (w.heap.size + 1) rfl 146 (u32s S).toArray (0, 0) _ HB.out.1 under_row64 rfl (size_row64 S HSL.out) ?_)
      | (refine wpList_store_row rfl 146 (.tmp 2) (.tmp 81) rfl w.heap.size (u32s S).toArray rfl rfl 146 _ HB.out.2 (size_row64 S HSL.out) (by simp [u32s, HSL.out]) (u32s_one S) ?_))
     have hfin : Blk (wr.setRow w.heap.size (u32s S).toArray) w.heap.size 146 (u32s S) := blk_setRow HB.out.2 _
     refine bodyPost_ret (v := .agg (u32s S).toArray) ?_ ?_ ⟨by rw [HSS.out], ?_⟩
     ·exact results_cell_row Tryz.results109 _ _ w.heap.size 146 _ (0, 0) _ rfl hfin under_row64 rfl (size_row64 S HSL.out)
     ·rfl
     ·exact HBel.out.trans ((chg_setRow wr w.heap.size _).below HBel.out.size (fun k hk => by omega))
def bg0 (x : Int) : Int := bits .xor .u32 (bits .xor .u32 (rotr 2 x) (rotr 13 x)) (rotr 22 x)
def bg1 (x : Int) : Int := bits .xor .u32 (bits .xor .u32 (rotr 6 x) (rotr 11 x)) (rotr 25 x)
def chs (e f g : Int) : Int := bits .xor .u32 (bits .and .u32 e f) (bits .and .u32 (bits .xor .u32 IntKind.u32.max e) g)
def maj (a b c : Int) : Int := bits .xor .u32 (bits .xor .u32 (bits .and .u32 a b) (bits .and .u32 a c)) (bits .and .u32 b c)
def rnd : List Int → Int → Int → List Int
 | [a, b, c, d, e, f, g, h], k, w => [(h + bg1 e + chs e f g + k + w + bg0 a + maj a b c) % 4294967296, a, b, c, (d + (h + bg1 e + chs e f g + k + w)) % 4294967296, e, f, g]
 | l, _, _ => l
def rnds (K W s : List Int) : Nat → List Int
 | 0 => s
 | n + 1 => rnd (rnds K W s n) (K.getD n 0) (W.getD n 0)
theorem rnd_length (s : List Int) (k w : Int) (h : s.length = 8) : (rnd s k w).length = 8 := by
 match s, h with
 | [a, b, c, d, e, f, g, h], _ => rfl
theorem rnds_length (K W s : List Int) (h : s.length = 8) (n : Nat) : (rnds K W s n).length = 8 := by
 induction n with
 | zero => exact h
 | succ n ih => exact rnd_length _ _ _ ih
theorem eight {s : List Int} (h : s.length = 8) : ∃ a b c d e f g i, s = [a, b, c, d, e, f, g, i] := by
 match s, h with
 | [a, b, c, d, e, f, g, h], _ => exact ⟨a, b, c, d, e, f, g, h, rfl⟩
def add32 (x y : Int) : Int := (x + y) % 4294967296
def mixF (K s : List Int) (l : List UInt8) : List Int := List.zipWith add32 s (rnds K (sched l) s 64)
theorem mixF_length (K s : List Int) (l : List UInt8) (h : s.length = 8) : (mixF K s l).length = 8 := by
 unfold mixF
 rw [List.length_zipWith, rnds_length K _ s h, h]; rfl

theorem u32_set {w : World} {b : Nat} {t : TypeId} {l : List Int} (h : Blk w b t (u32s l)) (i : Nat) (hi : i < l.length) (y : Int) : Blk (w.setCell ⟨b, i, none⟩ (.int .u32 y)) b t (u32s (l.set i y)) := by
 have h2 := h.set i (.int .u32 y) (by simpa [u32s] using hi)
 unfold u32s at h2 ⊢
 rwa [List.map_set]
theorem blk_set8 {w : World} {b : Nat} {t : TypeId} {A B C D E F G H : Int} (h : Blk w b t (u32s [A, B, C, D, E, F, G, H])) (A' B' C' D' E' F' G' H' : Int) :
  Blk ((((((((w.setCell ⟨b, 0, none⟩ (.int .u32 A')).setCell ⟨b, 1, none⟩ (.int .u32 B')).setCell ⟨b, 2, none⟩ (.int .u32 C')).setCell ⟨b, 3, none⟩ (.int .u32 D')).setCell ⟨b, 4, none⟩ (.int .u32 E')).setCell ⟨b, 5, none⟩ (.int .u32 F')).setCell ⟨b, 6, none⟩ (.int .u32 G')).setCell ⟨b, 7, none⟩ (.int .u32 H')) b t (u32s [A', B', C', D', E', F', G', H']) := by
 have h0 : Blk (w.setCell ⟨b, 0, none⟩ (.int .u32 A')) b t (u32s [A', B, C, D, E, F, G, H]) := u32_set h 0 (Nat.le_of_ble_eq_true rfl) _
 have h1 : Blk ((w.setCell ⟨b, 0, none⟩ (.int .u32 A')).setCell ⟨b, 1, none⟩ (.int .u32 B')) b t (u32s [A', B', C, D, E, F, G, H]) := u32_set h0 1 (Nat.le_of_ble_eq_true rfl) _
 have h2 : Blk (((w.setCell ⟨b, 0, none⟩ (.int .u32 A')).setCell ⟨b, 1, none⟩ (.int .u32 B')).setCell ⟨b, 2, none⟩ (.int .u32 C')) b t (u32s [A', B', C', D, E, F, G, H]) := u32_set h1 2 (Nat.le_of_ble_eq_true rfl) _
 have h3 : Blk ((((w.setCell ⟨b, 0, none⟩ (.int .u32 A')).setCell ⟨b, 1, none⟩ (.int .u32 B')).setCell ⟨b, 2, none⟩ (.int .u32 C')).setCell ⟨b, 3, none⟩ (.int .u32 D')) b t (u32s [A', B', C', D', E, F, G, H]) := u32_set h2 3 (Nat.le_of_ble_eq_true rfl) _
 have h4 : Blk (((((w.setCell ⟨b, 0, none⟩ (.int .u32 A')).setCell ⟨b, 1, none⟩ (.int .u32 B')).setCell ⟨b, 2, none⟩ (.int .u32 C')).setCell ⟨b, 3, none⟩ (.int .u32 D')).setCell ⟨b, 4, none⟩ (.int .u32 E')) b t (u32s [A', B', C', D', E', F, G, H]) := u32_set h3 4 (Nat.le_of_ble_eq_true rfl) _
 have h5 : Blk ((((((w.setCell ⟨b, 0, none⟩ (.int .u32 A')).setCell ⟨b, 1, none⟩ (.int .u32 B')).setCell ⟨b, 2, none⟩ (.int .u32 C')).setCell ⟨b, 3, none⟩ (.int .u32 D')).setCell ⟨b, 4, none⟩ (.int .u32 E')).setCell ⟨b, 5, none⟩ (.int .u32 F')) b t (u32s [A', B', C', D', E', F', G, H]) := u32_set h4 5 (Nat.le_of_ble_eq_true rfl) _
 have h6 : Blk (((((((w.setCell ⟨b, 0, none⟩ (.int .u32 A')).setCell ⟨b, 1, none⟩ (.int .u32 B')).setCell ⟨b, 2, none⟩ (.int .u32 C')).setCell ⟨b, 3, none⟩ (.int .u32 D')).setCell ⟨b, 4, none⟩ (.int .u32 E')).setCell ⟨b, 5, none⟩ (.int .u32 F')).setCell ⟨b, 6, none⟩ (.int .u32 G')) b t (u32s [A', B', C', D', E', F', G', H]) := u32_set h5 6 (Nat.le_of_ble_eq_true rfl) _
 have h7 : Blk ((((((((w.setCell ⟨b, 0, none⟩ (.int .u32 A')).setCell ⟨b, 1, none⟩ (.int .u32 B')).setCell ⟨b, 2, none⟩ (.int .u32 C')).setCell ⟨b, 3, none⟩ (.int .u32 D')).setCell ⟨b, 4, none⟩ (.int .u32 E')).setCell ⟨b, 5, none⟩ (.int .u32 F')).setCell ⟨b, 6, none⟩ (.int .u32 G')).setCell ⟨b, 7, none⟩ (.int .u32 H')) b t (u32s [A', B', C', D', E', F', G', H']) := u32_set h6 7 (Nat.le_of_ble_eq_true rfl) _
 exact h7
theorem chg_cell {w w1 : World} {b : Nat} (h : Chg w w1 (fun k => k = b)) (i : Nat) (v : Value) : Chg w (w1.setCell ⟨b, i, none⟩ v) (fun k => k = b) := h.setCell ⟨b, i, none⟩ v (fun _ => rfl)
theorem chg_set8 (w : World) (b : Nat) (A' B' C' D' E' F' G' H' : Value) :
  Chg w ((((((((w.setCell ⟨b, 0, none⟩ A').setCell ⟨b, 1, none⟩ B').setCell ⟨b, 2, none⟩ C').setCell ⟨b, 3, none⟩ D').setCell ⟨b, 4, none⟩ E').setCell ⟨b, 5, none⟩ F').setCell ⟨b, 6, none⟩ G').setCell ⟨b, 7, none⟩ H') (fun k => k = b) := by
 refine chg_cell ?_ 7 H'
 refine chg_cell ?_ 6 G'
 refine chg_cell ?_ 5 F'
 refine chg_cell ?_ 4 E'
 refine chg_cell ?_ 3 D'
 refine chg_cell ?_ 2 C'
 refine chg_cell ?_ 1 B'
 refine chg_cell ?_ 0 A'
 exact Chg.refl w _
theorem run_index64 (l : List Int) (hl : l.length = 64) (k : Nat) (hk : k < 64) (w : World) : (Instr.index 146 (.agg (u32s l).toArray) (.int .i64 k)).run Tryz.prog w = .ok (.int .u32 (l.getD k 0)) w := by
 have hu : ∀ w, (underlying 146).run Tryz.prog w = .ok (.array 64 124) w := fun w => run_underlying under_row64 w
 have hs := Tryz.sizeOf124
 simp only [Instr.index, Sem.run_bind, hu]
 go_simp
 have h1 : (k : Int) < 64 := by omega
 have h2 : (u32s l)[k]? = some (.int .u32 (l.getD k 0)) := by simp [u32s, List.getElem?_eq_getElem (show k < l.length by omega), List.getD_eq_getElem?_getD]
 rw [if_pos h1, h2]
 rw [List.getD_eq_getElem?_getD, List.getElem?_eq_getElem (show k < l.length by omega)]
 rfl

set_option maxRecDepth 10000 in
set_option maxHeartbeats 2000000 in
theorem mix_any (s K : List Int) (hs : s.length = 8) (hK : K.length = 64) (kb g o c : Nat) (l : List UInt8) (hl : l.length = 64) (hc : 64 ≤ c) (w : World) (hg : g < w.heap.size) (hx : BysAt w g o l) (hk : Blk w kb 146 (u32s K)) :
  Calls Tryz.prog 107 #[.agg (u32s s).toArray, .slice (some ⟨g, o, none⟩) 64 c, .pointer (some ⟨kb, 0, none⟩)] w fun e w' => e = .returned (.agg (u32s (mixF K s l)).toArray) ∧ Below w.heap.size w w' := by
 have HX := Lib.hid (And.intro hx hk)
 clear hx hk
 have HL := Lib.hid (And.intro hl hK)
 clear hl hK
 have HS := Lib.hid hs
 have HM : Hid (mixF K s l = List.zipWith add32 s (rnds K (sched l) s 64)) := Lib.hid rfl
 have HF := Lib.hid (mixF_length K s l hs)
 generalize mixF K s l = M at *
 obtain ⟨a, b, c1, d, e, f, g1, h8, rfl⟩ := eight hs
 clear hs
 show Calls Tryz.prog 107 #[.agg #[.int .u32 a, .int .u32 b, .int .u32 c1, .int .u32 d, .int .u32 e, .int .u32 f, .int .u32 g1, .int .u32 h8], .slice (some ⟨g, o, none⟩) 64 c, .pointer (some ⟨kb, 0, none⟩)] w _
 go_enter Tryz.func107, Tryz.ntmps107
 go_wp2_with fail
 refine calls_at (fun w1 => Below w.heap.size w w1 ∧ Blk w1 w.heap.size 145 (u32s [a, b, c1, d, e, f, g1, h8]) ∧ Blk w1 (w.heap.size + 1) 145 (u32s [0, 0, 0, 0, 0, 0, 0, 0]) ∧ Blk w1 (w.heap.size + 1 + 1) 145 (u32s [a, b, c1, d, e, f, g1, h8])) (blk3 w _ _ _ _ _ _ _ rfl) ?_
 intro w1 hw1
 have hgw : g < w1.heap.size := Nat.lt_of_lt_of_le hg hw1.1.size
 have HX1 := Lib.hid (show BysAt w1 g o l from fun k hk => (hw1.1.cell (p := ⟨g, o + k, none⟩) hg).trans (HX.out.1 k hk))
 have HW1 := Lib.hid hw1
 clear hw1
 refine (spread_any g o c l HL.out.1 hc w1 hgw HX1.out).mono ?_
 rintro e1 w2 ⟨rfl, h2⟩
 have HW := Lib.hid (And.intro (HW1.out.1.trans (h2.mono HW1.out.1.size)) (And.intro (HW1.out.2.1.below h2) (And.intro (HW1.out.2.2.1.below h2) (HW1.out.2.2.2.below h2))))
 clear h2 HW1 HX1 hgw
 have HSL := Lib.hid (sched_length l)
 generalize sched l = W at *
 go_wp2
 go_loopw [19] (fun v19 wr => ∃ (i : Nat), v19 = .int .i64 i ∧ i ≤ 64 ∧ Hid (Below w.heap.size w wr ∧ Blk wr w.heap.size 145 (u32s [a, b, c1, d, e, f, g1, h8]) ∧ Blk wr (w.heap.size + 1) 145 (u32s [0, 0, 0, 0, 0, 0, 0, 0]) ∧ Blk wr (w.heap.size + 1 + 1) 145 (u32s (rnds K W [a, b, c1, d, e, f, g1, h8] i)))) (fun v _ => 64 - (intOf v).toNat)
 case atStart => exact ⟨0, rfl, by omega, HW⟩
 case round =>
  obtain ⟨i, rfl, hi, HI⟩ := hrel
  by_cases hlt : i < 64
  ·have hix := run_index64 W HSL.out i hlt
   have hkc := u32_get (HX.out.2.chg (Chg.of_below (S := fun _ => False) ((HI.out.1).mono (Nat.le_refl _))) (fun h => h)) i (by rw [HL.out.2]; exact hlt)
   have HR : Hid (rnds K W [a, b, c1, d, e, f, g1, h8] (i + 1) = rnd (rnds K W [a, b, c1, d, e, f, g1, h8] i) (K.getD i 0) (W.getD i 0)) := Lib.hid rfl
   have hlen := rnds_length K W [a, b, c1, d, e, f, g1, h8] rfl i
   generalize W.getD i 0 = wi at *
   generalize K.getD i 0 = ki at *
   generalize rnds K W [a, b, c1, d, e, f, g1, h8] i = S0 at *
   obtain ⟨A, B, C, D, E, F, G, H, rfl⟩ := eight hlen
   clear hlen
   have q0 := u32_get HI.out.2.2.2 0 (by simp)
   have q1 := u32_get HI.out.2.2.2 1 (by simp)
   have q2 := u32_get HI.out.2.2.2 2 (by simp)
   have q3 := u32_get HI.out.2.2.2 3 (by simp)
   have q4 := u32_get HI.out.2.2.2 4 (by simp)
   have q5 := u32_get HI.out.2.2.2 5 (by simp)
   have q6 := u32_get HI.out.2.2.2 6 (by simp)
   have q7 := u32_get HI.out.2.2.2 7 (by simp)
   simp only [List.getD_cons_zero, List.getD_cons_succ] at q0 q1 q2 q3 q4 q5 q6 q7
   have ff : ∀ n k, (wr.drewN n).frozen? ⟨w.heap.size + 1 + 1, k, none⟩ = false := fun n k => HI.out.2.2.2.free k
   go_wp2
   go_quiet ((go_at_call 110; exact quiet_here (right_z _ (by unfold TurnsZ; omega) _ _)))
   go_wp2
   go_quiet (fail)
   go_wp2
   go_quiet ((go_at_call 110; exact quiet_there (right_z _ (by unfold TurnsZ; omega) _ _)))
   go_wp2
   have HN : Hid (∀ n, (Below w.heap.size w (wr.drewN n) ∧ Blk (wr.drewN n) w.heap.size 145 (u32s [a, b, c1, d, e, f, g1, h8]) ∧ Blk (wr.drewN n) (w.heap.size + 1) 145 (u32s [0, 0, 0, 0, 0, 0, 0, 0]) ∧ Blk (wr.drewN n) (w.heap.size + 1 + 1) 145 (u32s [A, B, C, D, E, F, G, H]))) := Lib.hid (fun n => ⟨below_drewN HI.out.1 n, HI.out.2.1, HI.out.2.2.1, HI.out.2.2.2⟩)
   clear ff q0 q1 q2 q3 q4 q5 q6 q7
   go_roundw
   case rel =>
    refine ⟨i + 1, by go_num, by omega, Lib.hid ?_⟩
    rw [HR.out]
    have hz := below_drewN HI.out.1
    exact ⟨(hz _).trans ((chg_set8 _ _ _ _ _ _ _ _ _ _).below (hz _).size (fun k hk => by omega)), Blk.chg (HI.out.2.1.drewN _) (chg_set8 _ _ _ _ _ _ _ _ _ _) (by omega), Blk.chg (HI.out.2.2.1.drewN _) (chg_set8 _ _ _ _ _ _ _ _ _ _) (by omega), blk_set8 (HI.out.2.2.2.drewN _) _ _ _ _ _ _ _ _⟩
   case measure => simp [intOf]; omega
  ·obtain rfl : i = 64 := by omega
   have hl8 := rnds_length K W [a, b, c1, d, e, f, g1, h8] rfl 64
   generalize rnds K W [a, b, c1, d, e, f, g1, h8] 64 = V at *
   have HV := Lib.hid hl8
   clear hl8 HW HSL
   rw [show ((64 : Nat) : Int) = 64 from rfl]
   go_wp2
   go_loopw [111] (fun v111 wr => ∃ (i : Nat), v111 = .int .i64 i ∧ i ≤ 8 ∧ Hid (Below w.heap.size w wr ∧ Blk wr w.heap.size 145 (u32s (M.take i ++ [a, b, c1, d, e, f, g1, h8].drop i)) ∧ Blk wr (w.heap.size + 1) 145 (u32s [0, 0, 0, 0, 0, 0, 0, 0]) ∧ Blk wr (w.heap.size + 1 + 1) 145 (u32s V))) (fun v _ => 8 - (intOf v).toNat)
   case atStart => exact ⟨0, rfl, by omega, HI⟩
   case round =>
    clear HI
    obtain ⟨i, rfl, hi, HI⟩ := hrel
    by_cases hlt : i < 8
    ·have hMi : Hid (M[i]'(by rw [HF.out]; exact hlt) = add32 ([a, b, c1, d, e, f, g1, h8].getD i 0) (V.getD i 0)) := Lib.hid (by
      have h1 : i < [a, b, c1, d, e, f, g1, h8].length := hlt
      have h2 : i < V.length := by rw [HV.out]; exact hlt
      simp only [HM.out, List.getElem_zipWith, List.getD_eq_getElem?_getD, List.getElem?_eq_getElem h1, List.getElem?_eq_getElem h2, Option.getD_some])
     have hcut : Hid (M.take i ++ [a, b, c1, d, e, f, g1, h8].drop i = M.take i ++ ([a, b, c1, d, e, f, g1, h8].getD i 0) :: [a, b, c1, d, e, f, g1, h8].drop (i + 1)) := Lib.hid (by
      have h1 : i < [a, b, c1, d, e, f, g1, h8].length := hlt
      rw [List.drop_eq_getElem_cons h1, List.getD_eq_getElem?_getD, List.getElem?_eq_getElem h1]; rfl)
     have hb := HI.out.2.1
     rw [hcut.out] at hb
     have hlen : (M.take i).length = i := by rw [List.length_take, HF.out]; omega
     have q0 := u32_mid hb hlen
     have HB := Lib.hid (And.intro hb hlen)
     clear hb hlen
     have q1 := u32_get HI.out.2.2.2 i (by rw [HV.out]; exact hlt)
     have ff : wr.drew.frozen? ⟨w.heap.size, i, none⟩ = false := HB.out.1.free i
     have HT : Hid (M.take (i + 1) = M.take i ++ [M[i]'(by rw [HF.out]; exact hlt)]) := Lib.hid (List.take_succ_eq_append_getElem (by rw [HF.out]; exact hlt))
     generalize [a, b, c1, d, e, f, g1, h8].getD i 0 = x at *
     generalize V.getD i 0 = y at *
     go_wp2
     go_region
     go_wp2
     go_roundw
     case rel =>
      refine ⟨i + 1, by go_num, by omega, Lib.hid ⟨HI.out.1.drew.setCell (Nat.le_refl _) _, ?_, Blk.setOther HI.out.2.2.1.drew _ _ (by simp), Blk.setOther HI.out.2.2.2.drew _ _ (fun e => by have e' : w.heap.size + 1 + 1 = w.heap.size := e; omega)⟩⟩
      rw [HT.out, hMi.out, List.append_assoc]
      exact u32_put HB.out.1.drew HB.out.2 _
     case measure => simp [intOf]; omega
    ·obtain rfl : i = 8 := by omega
     have hb := HI.out.2.1
     rw [List.take_of_length_le (by rw [HF.out]; decide), show [a, b, c1, d, e, f, g1, h8].drop 8 = [] from rfl, List.append_nil] at hb
     have HB := Lib.hid (And.intro hb HI.out.2.2.1)
     have HBel := Lib.hid HI.out.1
     clear hb HI
     go_wp2_with (first
      | (refine wpList_load_row rfl 145 (.tmp 3) rfl w.heap.size rfl 145 (u32s M).toArray (0, 0) _ HB.out.1 under_row8 rfl (size_row8 M HF.out) ?_)
      | (refine wpList_store_row rfl 145 (.tmp 6) (.tmp 123) rfl (w.heap.size + 1) (u32s M).toArray rfl rfl 145 _ HB.out.2 (size_row8 M HF.out) (by simp [u32s, HF.out]) (u32s_one M) ?_))
     have hfin : Blk (wr.setRow (w.heap.size + 1) (u32s M).toArray) (w.heap.size + 1) 145 (u32s M) := blk_setRow HB.out.2 _
     refine bodyPost_ret (v := .agg (u32s M).toArray) ?_ ?_ ⟨rfl, ?_⟩
     ·exact results_cell_row Tryz.results107 _ _ (w.heap.size + 1) 145 _ (0, 0) _ rfl hfin under_row8 rfl (size_row8 M HF.out)
     ·rfl
     ·exact HBel.out.trans ((chg_setRow wr (w.heap.size + 1) _).below HBel.out.size (fun k hk => by omega))
def shaK : List Int := [1116352408, 1899447441, 3049323471, 3921009573, 961987163, 1508970993, 2453635748, 2870763221, 3624381080, 310598401, 607225278, 1426881987, 1925078388, 2162078206, 2614888103, 3248222580, 3835390401, 4022224774, 264347078, 604807628, 770255983, 1249150122, 1555081692, 1996064986, 2554220882, 2821834349, 2952996808, 3210313671, 3336571891, 3584528711, 113926993, 338241895, 666307205, 773529912, 1294757372, 1396182291, 1695183700, 1986661051, 2177026350, 2456956037, 2730485921, 2820302411, 3259730800, 3345764771, 3516065817, 3600352804, 4094571909, 275423344, 430227734, 506948616, 659060556, 883997877, 958139571, 1322822218, 1537002063, 1747873779, 1955562222, 2024104815, 2227730452, 2361852424, 2428436474, 2756734187, 3204031479, 3329325298]
theorem shaK_length : shaK.length = 64 := by decide
theorem zero64 : (Tryz.prog.info? 146).bind (·.zero) = some (.agg (u32s (List.replicate 64 0)).toArray) := by kernel_rfl
theorem size_u32 : (Tryz.prog.info? 124).map (·.size) = some 1 := by kernel_rfl
set_option maxRecDepth 100000 in
set_option maxHeartbeats 2000000 in
theorem keys_any (w : World) : Calls Tryz.prog 105 #[] w fun e w' => e = .returned (.agg (u32s shaK).toArray) ∧ Below w.heap.size w w' := by
 have hz : ((Tryz.prog.info? 146).bind (·.zero)).map (·.cells.size) = some shaK.length := by rw [zero64]; rfl
 go_enter Tryz.func105, Tryz.ntmps105
 have HB : Hid (Blk (w.alloc (.cells (u32s (List.replicate 64 0)).toArray 146)) w.heap.size 146 (u32s (List.replicate 64 0))) := Lib.hid (Blk.new w _ _)
 go_wp2_with (first
  | (refine wpList_buildFlatArrTo rfl 146 124 64 _ rfl .u32 shaK (some 1) rfl under_row64 size_u32 hz (by kernel_rfl) ?_)
  | (refine wpList_store_rowTo rfl 146 (.tmp 0) (.tmp 1) rfl rfl w.heap.size (u32s shaK).toArray rfl rfl 146 (u32s (List.replicate 64 0)).toArray HB.out (size_row64 shaK shaK_length) rfl (u32s_one shaK) ?_))
 have hfin := blk_setRow HB.out (u32s shaK)
 refine bodyPost_ret (v := .agg (u32s shaK).toArray) ?_ ?_ ⟨rfl, ?_⟩
 ·exact results_cell_row Tryz.results105 _ _ w.heap.size 146 _ (0, 0) _ rfl hfin under_row64 rfl (size_row64 shaK shaK_length)
 ·rfl
 ·exact ((Below.refl w.heap.size w).alloc (Nat.le_refl _) _).trans ((chg_setRow _ w.heap.size _).below (by simp) (fun k hk => by omega))

theorem turn_any (k : Int) (hk : TurnsZ k) (x : Int) (w : World) : Calls Tryz.prog 103 #[.int .u32 x, .int .u64 k] w fun e w' => e = .returned (.int .u32 (rotr k.toNat x)) ∧ w = w' := by
 rcases hk with rfl | rfl | rfl | rfl | rfl | rfl | rfl | rfl | rfl | rfl
 all_goals
  go_enter Tryz.func103, Tryz.ntmps103
  go_wp2
  go_ret
  exact ⟨by rw [or_comm32]; rfl, rfl⟩
theorem turn_s (k : Int) (hk : TurnsZ k) (x : Int) (w : World) : Calls Tryz.prog 103 #[.int .u32 x, .int .u64 k] w fun e w' => e = .returned (.int .u32 (rotr k.toNat x)) ∧ w' = w :=
 (turn_any k hk x w).mono fun _ _ ⟨h1, h2⟩ => ⟨h1, h2.symm⟩
theorem or_add (x y i : Nat) (hx : x % 2 ^ i = 0) (hy : y < 2 ^ i) (h : x + y < 4294967296) : bits .or .u32 ((x : Nat) : Int) ((y : Nat) : Int) = ((x + y : Nat) : Int) := by
 rw [u32_or_nat x y (by omega) (by omega), nat_join i x y hx hy]
def w4 (a b c d : UInt8) : Int := bits .or .u32 (bits .or .u32 (bits .or .u32 ((a.toNat : Nat) * 16777216) ((b.toNat : Nat) * 65536)) ((c.toNat : Nat) * 256)) (d.toNat : Nat)
theorem w4_eq (a b c d : UInt8) : w4 a b c d = bits .or .u32 (bits .or .u32 (bits .or .u32 (bits .or .u32 (0 * 256 % 4294967296) (a.toNat : Nat) * 256 % 4294967296) (b.toNat : Nat) * 256 % 4294967296) (c.toNat : Nat) * 256 % 4294967296) (d.toNat : Nat) := by
 have ha := a.toNat_lt
 have hb := b.toNat_lt
 have hc := c.toNat_lt
 have hd := d.toNat_lt
 unfold w4
 generalize a.toNat = A at *
 generalize b.toNat = B at *
 generalize c.toNat = C at *
 generalize d.toNat = D at *
 have e1 : ((A : Nat) : Int) * 16777216 = ((A * 16777216 : Nat) : Int) := by omega
 have e2 : ((B : Nat) : Int) * 65536 = ((B * 65536 : Nat) : Int) := by omega
 have e3 : ((C : Nat) : Int) * 256 = ((C * 256 : Nat) : Int) := by omega
 have e0 : (0 : Int) * 256 % 4294967296 = ((0 : Nat) : Int) := rfl
 rw [e1, e2, e3, e0, or_add (A * 16777216) (B * 65536) 24 (by omega) (by omega) (by omega), or_add (A * 16777216 + B * 65536) (C * 256) 16 (by omega) (by omega) (by omega), or_add (A * 16777216 + B * 65536 + C * 256) D 8 (by omega) (by omega) (by omega)]
 rw [or_add 0 A 8 (by omega) (by omega) (by omega)]
 have f1 : ((0 + A : Nat) : Int) * 256 % 4294967296 = ((A * 256 : Nat) : Int) := by omega
 rw [f1, or_add (A * 256) B 8 (by omega) (by omega) (by omega)]
 have f2 : ((A * 256 + B : Nat) : Int) * 256 % 4294967296 = (((A * 256 + B) * 256 : Nat) : Int) := by omega
 rw [f2, or_add ((A * 256 + B) * 256) C 8 (by omega) (by omega) (by omega)]
 obtain ⟨X, hX, hX2⟩ : ∃ X, X = (A * 256 + B) * 256 + C ∧ X < 16777216 := ⟨_, rfl, by omega⟩
 have hY : A * 16777216 + B * 65536 + C * 256 + D = X * 256 + D := by omega
 rw [← hX, hY]
 have f3 : ((X : Nat) : Int) * 256 % 4294967296 = ((X * 256 : Nat) : Int) := by omega
 rw [f3, or_add (X * 256) D 8 (by omega) (by omega) (by omega)]
theorem wordAt4 (l : List UInt8) (i : Nat) (h : 4 * i + 3 < l.length) : wordAt l i 4 = w4 (l[4 * i]'(by omega)) (l[4 * i + 1]'(by omega)) (l[4 * i + 2]'(by omega)) l[4 * i + 3] := by
 rw [wordAt_succ l i 3 h, wordAt_succ l i 2 (by omega), wordAt_succ l i 1 (by omega), wordAt_succ l i 0 (by omega), w4_eq]
 rfl

theorem rnd_other (A B C D E F G H k w : Int) : rnd [A, B, C, D, E, F, G, H] k w = [(H + bg1 E + chs E F G + k + w + (bg0 A + maj A B C)) % 4294967296, A, B, C, (D + (H + bg1 E + chs E F G + k + w)) % 4294967296, E, F, G] := by
 show [(H + bg1 E + chs E F G + k + w + bg0 A + maj A B C) % 4294967296, A, B, C, (D + (H + bg1 E + chs E F G + k + w)) % 4294967296, E, F, G] = _
 rw [Int.add_assoc _ (bg0 A)]
set_option maxRecDepth 10000 in
set_option maxHeartbeats 2000000 in
theorem block_any (s K : List Int) (hs : s.length = 8) (hK : K.length = 64) (kb g o c : Nat) (l : List UInt8) (hl : l.length = 64) (hc : 64 ≤ c) (w : World) (hg : g < w.heap.size) (hx : BysAt w g o l) (hk : Blk w kb 146 (u32s K)) :
  Calls Tryz.prog 94 #[.agg (u32s s).toArray, .pointer (some ⟨kb, 0, none⟩), .slice (some ⟨g, o, none⟩) 64 c] w fun e w' => e = .returned (.agg (u32s (mixF K s l)).toArray) ∧ Below w.heap.size w w' := by
 have HX := Lib.hid (And.intro hx hk)
 clear hx hk
 have HL := Lib.hid (And.intro hl hK)
 clear hl hK
 have HS := Lib.hid hs
 have HM : Hid (mixF K s l = List.zipWith add32 s (rnds K (sched l) s 64)) := Lib.hid rfl
 have HF := Lib.hid (mixF_length K s l hs)
 generalize mixF K s l = M at *
 obtain ⟨a, b, c1, d, e, f, g1, h8, rfl⟩ := eight hs
 clear hs
 show Calls Tryz.prog 94 #[.agg #[.int .u32 a, .int .u32 b, .int .u32 c1, .int .u32 d, .int .u32 e, .int .u32 f, .int .u32 g1, .int .u32 h8], .pointer (some ⟨kb, 0, none⟩), .slice (some ⟨g, o, none⟩) 64 c] w _
 go_enter Tryz.func94, Tryz.ntmps94
 go_wp2
 refine code_at (fun w1 => Below w.heap.size w w1 ∧ Blk w1 w.heap.size 145 (u32s [a, b, c1, d, e, f, g1, h8]) ∧ Blk w1 (w.heap.size + 1) 145 (u32s [0, 0, 0, 0, 0, 0, 0, 0]) ∧ Blk w1 (w.heap.size + 1 + 1) 146 (u32s (List.replicate 64 0))) (blk3 w _ _ _ _ _ _ _ rfl) ?_
 intro w1 hw1
 have HW := Lib.hid hw1
 clear hw1
 go_loopw [8] (fun v8 wr => ∃ (i : Nat), v8 = .int .i64 i ∧ i ≤ 16 ∧ Hid (Below w.heap.size w wr ∧ Blk wr w.heap.size 145 (u32s [a, b, c1, d, e, f, g1, h8]) ∧ Blk wr (w.heap.size + 1) 145 (u32s [0, 0, 0, 0, 0, 0, 0, 0]) ∧ Blk wr (w.heap.size + 1 + 1) 146 (u32s (words l i ++ List.replicate (64 - i) 0)))) (fun v _ => 16 - (intOf v).toNat)
 case atStart => exact ⟨0, rfl, by omega, HW⟩
 case round =>
  obtain ⟨i, rfl, hi, HI⟩ := hrel
  by_cases hlt : i < 16
  ·have hb := HI.out.2.2.2
   rw [rep_succ (63 - i) (64 - i) (by omega)] at hb
   have HB := Lib.hid hb
   clear hb
   have hgc : ∀ k (h : k < l.length), wr.cell? ⟨g, o + k, none⟩ = some (.int .u8 (l[k].toNat : Nat)) := fun k hk => (HI.out.1.cell (p := ⟨g, o + k, none⟩) hg).trans (HX.out.1 k hk)
   have p0 := hgc (4 * i) (by rw [HL.out.1]; omega)
   have p1 := hgc (4 * i + 1) (by rw [HL.out.1]; omega)
   have p2 := hgc (4 * i + 2) (by rw [HL.out.1]; omega)
   have p3 := hgc (4 * i + 3) (by rw [HL.out.1]; omega)
   clear hgc
   have HW4 := Lib.hid (wordAt4 l i (by rw [HL.out.1]; omega))
   have q0 := u32_mid HB.out (words_length l i)
   have ff : wr.drew.frozen? ⟨w.heap.size + 1 + 1, i, none⟩ = false := HB.out.free i
   have h0 := (l[4 * i]'(by rw [HL.out.1]; omega)).toNat_lt
   have h1 := (l[4 * i + 1]'(by rw [HL.out.1]; omega)).toNat_lt
   have h2 := (l[4 * i + 2]'(by rw [HL.out.1]; omega)).toNat_lt
   have h3 := (l[4 * i + 3]'(by rw [HL.out.1]; omega)).toNat_lt
   generalize l[4 * i]'(by rw [HL.out.1]; omega) = b0 at *
   generalize l[4 * i + 1]'(by rw [HL.out.1]; omega) = b1 at *
   generalize l[4 * i + 2]'(by rw [HL.out.1]; omega) = b2 at *
   generalize l[4 * i + 3]'(by rw [HL.out.1]; omega) = b3 at *
   have eb0 : ((b0.toNat : Nat) : Int) % 4294967296 = (b0.toNat : Nat) := by omega
   have eb1 : ((b1.toNat : Nat) : Int) % 4294967296 = (b1.toNat : Nat) := by omega
   have eb2 : ((b2.toNat : Nat) : Int) % 4294967296 = (b2.toNat : Nat) := by omega
   have eb3 : ((b3.toNat : Nat) : Int) % 4294967296 = (b3.toNat : Nat) := by omega
   go_wp2
   go_region
   go_wp2
   go_roundw
   case rel =>
    refine ⟨i + 1, by go_num, by omega, Lib.hid ⟨HI.out.1.drew.setCell (by simp; omega) _, Blk.setOther HI.out.2.1.drew _ _ (fun e => by have e' : w.heap.size = w.heap.size + 1 + 1 := e; omega), Blk.setOther HI.out.2.2.1.drew _ _ (fun e => by have e' : w.heap.size + 1 = w.heap.size + 1 + 1 := e; omega), ?_⟩⟩
    rw [words_succ, HW4.out, List.append_assoc, show 64 - (i + 1) = 63 - i by omega]
    exact (u32_put HB.out (words_length l i) _).drew
   case measure => simp [intOf]; omega
  ·obtain rfl : i = 16 := by omega
   rw [show ((16 : Nat) : Int) = 16 from rfl]
   go_wp2
   go_loopw [9] (fun v9 wr => ∃ (i : Nat), v9 = .int .i64 i ∧ 16 ≤ i ∧ i ≤ 64 ∧ Hid (Below w.heap.size w wr ∧ Blk wr w.heap.size 145 (u32s [a, b, c1, d, e, f, g1, h8]) ∧ Blk wr (w.heap.size + 1) 145 (u32s [0, 0, 0, 0, 0, 0, 0, 0]) ∧ Blk wr (w.heap.size + 1 + 1) 146 (u32s (sch (words l 16) (i - 16) ++ List.replicate (64 - i) 0)))) (fun v _ => 64 - (intOf v).toNat)
   case atStart => exact ⟨16, rfl, by omega, by omega, HI⟩
   case round =>
    clear HI
    obtain ⟨i, rfl, hi16, hi, HI⟩ := hrel
    have HLS : Hid ((sch (words l 16) (i - 16)).length = i) := Lib.hid (by rw [sch_length, words_length]; omega)
    by_cases hlt : i < 64
    ·have hb := HI.out.2.2.2
     rw [rep_succ (63 - i) (64 - i) (by omega)] at hb
     have HB := Lib.hid hb
     clear hb
     have q15 := u32_at HB.out (i - 15) (by rw [HLS.out]; omega)
     have q2 := u32_at HB.out (i - 2) (by rw [HLS.out]; omega)
     have q16 := u32_at HB.out (i - 16) (by rw [HLS.out]; omega)
     have q7 := u32_at HB.out (i - 7) (by rw [HLS.out]; omega)
     have q0 := u32_mid HB.out HLS.out
     have HN : Hid (nx (sch (words l 16) (i - 16)) = ((sch (words l 16) (i - 16)).getD (i - 16) 0 + sg0 ((sch (words l 16) (i - 16)).getD (i - 15) 0) + (sch (words l 16) (i - 16)).getD (i - 7) 0 + sg1 ((sch (words l 16) (i - 16)).getD (i - 2) 0)) % 4294967296) := Lib.hid (by unfold nx; rw [HLS.out])
     generalize (sch (words l 16) (i - 16)).getD (i - 15) 0 = x15 at *
     generalize (sch (words l 16) (i - 16)).getD (i - 2) 0 = x2 at *
     generalize (sch (words l 16) (i - 16)).getD (i - 16) 0 = x16 at *
     generalize (sch (words l 16) (i - 16)).getD (i - 7) 0 = x7 at *
     have t15 : ((i : Int) - 15).toNat = i - 15 := by omega
     have t2 : ((i : Int) - 2).toNat = i - 2 := by omega
     have t16 : ((i : Int) - 16).toNat = i - 16 := by omega
     have t7 : ((i : Int) - 7).toNat = i - 7 := by omega
     have b15 : (0 : Int) ≤ (i : Int) - 15 ∧ (i : Int) - 15 < 64 := by omega
     go_wp2
     go_quiet (fail)
     have e16 : IntKind.i64.wrap ((i : Int) - 16) = (i : Int) - 16 := IntWalk.i64_in _ (by omega)
     have e7 : IntKind.i64.wrap ((i : Int) - 7) = (i : Int) - 7 := IntWalk.i64_in _ (by omega)
     have b16 : (0 : Int) ≤ (i : Int) - 16 ∧ (i : Int) - 16 < 64 := by omega
     have b7 : (0 : Int) ≤ (i : Int) - 7 ∧ (i : Int) - 7 < 64 := by omega
     have b8 : (16 : Int) ≤ (i : Int) ∧ (7 : Int) ≤ (i : Int) ∧ (i : Int) < 80 ∧ (i : Int) < 71 ∧ (i : Int) < 64 + 16 ∧ (i : Int) < 64 + 7 := by omega
     obtain ⟨b81, b82, b83, b84, b85, b86⟩ := b8
     have HB2 := Lib.hid (HB.out.drewN nq)
     have HI2 := Lib.hid (And.intro (below_drewN HI.out.1 nq) (And.intro (HI.out.2.1.drewN nq) (HI.out.2.2.1.drewN nq)))
     have r16 : (wr.drewN nq).cell? ⟨w.heap.size + 1 + 1, i - 16, none⟩ = some (.int .u32 x16) := q16
     have r7 : (wr.drewN nq).cell? ⟨w.heap.size + 1 + 1, i - 7, none⟩ = some (.int .u32 x7) := q7
     have r0 : (wr.drewN nq).cell? ⟨w.heap.size + 1 + 1, i, none⟩ = some (.int .u32 0) := q0
     clear q15 q2 q16 q7 q0
     generalize wr.drewN nq = wz at *
     have ff : wz.drew.frozen? ⟨w.heap.size + 1 + 1, i, none⟩ = false := HB2.out.free i
     go_wp2
     refine wp_region_still_tail 29 (by kernel_rfl) (by kernel_rfl) ?_
     simp only [List.take_succ_cons, List.take_zero, List.drop_succ_cons, List.drop_zero]
     repeat (first | still_step | still_call (turn_s _ (by unfold TurnsZ; omega) _ _))
     refine wpStill_nil ?_
     go_wp2
     rw [show bits BinOp.xor IntKind.u32 (bits BinOp.xor IntKind.u32 (rotr 7 x15) (rotr 18 x15)) (x15 / 8) = sg0 x15 from rfl, show bits BinOp.xor IntKind.u32 (bits BinOp.xor IntKind.u32 (rotr 17 x2) (rotr 19 x2)) (x2 / 1024) = sg1 x2 from rfl]
     go_roundw
     case rel =>
      refine ⟨i + 1, by go_num, by omega, by omega, Lib.hid ⟨HI2.out.1.drew.setCell (by simp; omega) _, Blk.setOther HI2.out.2.1.drew _ _ (fun e => by have e' : w.heap.size = w.heap.size + 1 + 1 := e; omega), Blk.setOther HI2.out.2.2.drew _ _ (fun e => by have e' : w.heap.size + 1 = w.heap.size + 1 + 1 := e; omega), ?_⟩⟩
      rw [show i + 1 - 16 = i - 16 + 1 by omega]
      show Blk _ _ _ (u32s ((sch (words l 16) (i - 16) ++ [nx (sch (words l 16) (i - 16))]) ++ List.replicate (64 - (i + 1)) 0))
      rw [List.append_assoc, HN.out, show 64 - (i + 1) = 63 - i by omega]
      exact u32_put HB2.out.drew HLS.out _
     case measure => simp [intOf]; omega
    ·obtain rfl : i = 64 := by omega
     have hb1 : Blk wr (w.heap.size + 1 + 1) 146 (u32s (sched l)) := by
      have := HI.out.2.2.2
      rwa [show List.replicate (64 - 64) (0 : Int) = [] from rfl, List.append_nil] at this
     have HW := Lib.hid (And.intro HI.out.1 (And.intro HI.out.2.1 (And.intro HI.out.2.2.1 hb1)))
     clear hb1 HI HLS
     have HSL := Lib.hid (sched_length l)
     generalize sched l = W at *
     have HZ : Hid (wr.heap.size = wr.heap.size) := Lib.hid rfl
     have q0 := u32_get HW.out.2.1 0 (by simp)
     have q1 := u32_get HW.out.2.1 1 (by simp)
     have q2 := u32_get HW.out.2.1 2 (by simp)
     have q3 := u32_get HW.out.2.1 3 (by simp)
     have q4 := u32_get HW.out.2.1 4 (by simp)
     have q5 := u32_get HW.out.2.1 5 (by simp)
     have q6 := u32_get HW.out.2.1 6 (by simp)
     have q7 := u32_get HW.out.2.1 7 (by simp)
     simp only [List.getD_cons_zero, List.getD_cons_succ] at q0 q1 q2 q3 q4 q5 q6 q7
     rw [show ((64 : Nat) : Int) = 64 from rfl]
     go_wp2
     have hlt12 : w.heap.size + 1 + 1 < wr.heap.size := HW.out.2.2.2.lt
     have bel1 := (Below.refl wr.heap.size wr).alloc (Nat.le_refl _) (.cells (u32s [a, b, c1, d, e, f, g1, h8]).toArray 145)
     refine code_at (fun w1 => Below w.heap.size w w1 ∧ Blk w1 w.heap.size 145 (u32s [a, b, c1, d, e, f, g1, h8]) ∧ Blk w1 (w.heap.size + 1) 145 (u32s [0, 0, 0, 0, 0, 0, 0, 0]) ∧ Blk w1 (w.heap.size + 1 + 1) 146 (u32s W) ∧ Blk w1 wr.heap.size 145 (u32s [a, b, c1, d, e, f, g1, h8])) ⟨HW.out.1.trans (bel1.mono HW.out.1.size), HW.out.2.1.below bel1, HW.out.2.2.1.below bel1, HW.out.2.2.2.below bel1, Blk.new wr 145 (u32s [a, b, c1, d, e, f, g1, h8])⟩ ?_
     intro w2 hw2
     have HW2 := Lib.hid hw2
     clear hw2 bel1 q0 q1 q2 q3 q4 q5 q6 q7 HW HZ
     generalize wr.heap.size = B at *
     go_loopw [13] (fun v13 wr => ∃ (i : Nat), v13 = .int .i64 i ∧ i ≤ 64 ∧ Hid (Below w.heap.size w wr ∧ Blk wr w.heap.size 145 (u32s [a, b, c1, d, e, f, g1, h8]) ∧ Blk wr (w.heap.size + 1) 145 (u32s [0, 0, 0, 0, 0, 0, 0, 0]) ∧ Blk wr (w.heap.size + 1 + 1) 146 (u32s W) ∧ Blk wr B 145 (u32s (rnds K W [a, b, c1, d, e, f, g1, h8] i)))) (fun v _ => 64 - (intOf v).toNat)
     case atStart => exact ⟨0, rfl, by omega, HW2⟩
     case round =>
      clear HW2
      obtain ⟨i, rfl, hi, HI⟩ := hrel
      by_cases hlt : i < 64
      ·have hkc := u32_get (HX.out.2.chg (Chg.of_below (S := fun _ => False) HI.out.1) (fun h => h)) i (by rw [HL.out.2]; exact hlt)
       have hwc := u32_get HI.out.2.2.2.1 i (by rw [HSL.out]; exact hlt)
       have HR : Hid (rnds K W [a, b, c1, d, e, f, g1, h8] (i + 1) = rnd (rnds K W [a, b, c1, d, e, f, g1, h8] i) (K.getD i 0) (W.getD i 0)) := Lib.hid rfl
       have hlen := rnds_length K W [a, b, c1, d, e, f, g1, h8] rfl i
       generalize W.getD i 0 = wi at *
       generalize K.getD i 0 = ki at *
       generalize rnds K W [a, b, c1, d, e, f, g1, h8] i = S0 at *
       obtain ⟨A, B1, C, D, E, F, G, H, rfl⟩ := eight hlen
       clear hlen
       have q0 := u32_get HI.out.2.2.2.2 0 (by simp)
       have q1 := u32_get HI.out.2.2.2.2 1 (by simp)
       have q2 := u32_get HI.out.2.2.2.2 2 (by simp)
       have q3 := u32_get HI.out.2.2.2.2 3 (by simp)
       have q4 := u32_get HI.out.2.2.2.2 4 (by simp)
       have q5 := u32_get HI.out.2.2.2.2 5 (by simp)
       have q6 := u32_get HI.out.2.2.2.2 6 (by simp)
       have q7 := u32_get HI.out.2.2.2.2 7 (by simp)
       simp only [List.getD_cons_zero, List.getD_cons_succ] at q0 q1 q2 q3 q4 q5 q6 q7
       have ff : ∀ n k, (wr.drewN n).frozen? ⟨B, k, none⟩ = false := fun n k => HI.out.2.2.2.2.free k
       go_wp2
       go_quiet (fail)
       go_wp2
       go_quiet ((go_at_call 103; exact quiet_there (turn_any _ (by unfold TurnsZ; omega) _ _)))
       go_wp2
       go_quiet ((go_at_call 103; exact quiet_there (turn_any _ (by unfold TurnsZ; omega) _ _)))
       go_wp2
       go_roundw
       case rel =>
        refine ⟨i + 1, by go_num, by omega, Lib.hid ?_⟩
        rw [HR.out, rnd_other]
        have hz := below_drewN HI.out.1
        exact ⟨(hz _).trans ((chg_set8 _ _ _ _ _ _ _ _ _ _).below (hz _).size (fun k hk => by omega)), Blk.chg (HI.out.2.1.drewN _) (chg_set8 _ _ _ _ _ _ _ _ _ _) (by omega), Blk.chg (HI.out.2.2.1.drewN _) (chg_set8 _ _ _ _ _ _ _ _ _ _) (by omega), Blk.chg (HI.out.2.2.2.1.drewN _) (chg_set8 _ _ _ _ _ _ _ _ _ _) (by omega), blk_set8 (HI.out.2.2.2.2.drewN _) _ _ _ _ _ _ _ _⟩
       case measure => simp [intOf]; omega
      ·obtain rfl : i = 64 := by omega
       have hl8 := rnds_length K W [a, b, c1, d, e, f, g1, h8] rfl 64
       generalize rnds K W [a, b, c1, d, e, f, g1, h8] 64 = V at *
       have HV := Lib.hid hl8
       clear hl8 HSL
       rw [show ((64 : Nat) : Int) = 64 from rfl]
       go_wp2
       go_loopw [18] (fun v18 wr => ∃ (i : Nat), v18 = .int .i64 i ∧ i ≤ 8 ∧ Hid (Below w.heap.size w wr ∧ Blk wr w.heap.size 145 (u32s (M.take i ++ [a, b, c1, d, e, f, g1, h8].drop i)) ∧ Blk wr (w.heap.size + 1) 145 (u32s [0, 0, 0, 0, 0, 0, 0, 0]) ∧ Blk wr B 145 (u32s V))) (fun v _ => 8 - (intOf v).toNat)
       case atStart => exact ⟨0, rfl, by omega, Lib.hid ⟨HI.out.1, HI.out.2.1, HI.out.2.2.1, HI.out.2.2.2.2⟩⟩
       case round =>
        clear HI
        obtain ⟨i, rfl, hi, HI⟩ := hrel
        by_cases hlt : i < 8
        ·have hMi : Hid (M[i]'(by rw [HF.out]; exact hlt) = add32 ([a, b, c1, d, e, f, g1, h8].getD i 0) (V.getD i 0)) := Lib.hid (by
          have h1 : i < [a, b, c1, d, e, f, g1, h8].length := hlt
          have h2 : i < V.length := by rw [HV.out]; exact hlt
          simp only [HM.out, List.getElem_zipWith, List.getD_eq_getElem?_getD, List.getElem?_eq_getElem h1, List.getElem?_eq_getElem h2, Option.getD_some])
         have hcut : Hid (M.take i ++ [a, b, c1, d, e, f, g1, h8].drop i = M.take i ++ ([a, b, c1, d, e, f, g1, h8].getD i 0) :: [a, b, c1, d, e, f, g1, h8].drop (i + 1)) := Lib.hid (by
          have h1 : i < [a, b, c1, d, e, f, g1, h8].length := hlt
          rw [List.drop_eq_getElem_cons h1, List.getD_eq_getElem?_getD, List.getElem?_eq_getElem h1]; rfl)
         have hb := HI.out.2.1
         rw [hcut.out] at hb
         have hlen : (M.take i).length = i := by rw [List.length_take, HF.out]; omega
         have q0 := u32_mid hb hlen
         have HB := Lib.hid (And.intro hb hlen)
         clear hb hlen
         have q1 := u32_get HI.out.2.2.2 i (by rw [HV.out]; exact hlt)
         have ff : wr.drew.frozen? ⟨w.heap.size, i, none⟩ = false := HB.out.1.free i
         have HT : Hid (M.take (i + 1) = M.take i ++ [M[i]'(by rw [HF.out]; exact hlt)]) := Lib.hid (List.take_succ_eq_append_getElem (by rw [HF.out]; exact hlt))
         generalize [a, b, c1, d, e, f, g1, h8].getD i 0 = x at *
         generalize V.getD i 0 = y at *
         go_wp2
         go_region
         go_wp2
         go_roundw
         case rel =>
          refine ⟨i + 1, by go_num, by omega, Lib.hid ⟨HI.out.1.drew.setCell (Nat.le_refl _) _, ?_, Blk.setOther HI.out.2.2.1.drew _ _ (by simp), Blk.setOther HI.out.2.2.2.drew _ _ (fun e => by have e' : B = w.heap.size := e; omega)⟩⟩
          rw [HT.out, hMi.out, List.append_assoc]
          exact u32_put HB.out.1.drew HB.out.2 _
         case measure => simp [intOf]; omega
        ·obtain rfl : i = 8 := by omega
         have hb := HI.out.2.1
         rw [List.take_of_length_le (by rw [HF.out]; decide), show [a, b, c1, d, e, f, g1, h8].drop 8 = [] from rfl, List.append_nil] at hb
         have HB := Lib.hid (And.intro hb HI.out.2.2.1)
         have HBel := Lib.hid HI.out.1
         clear hb HI
         go_wp2_with (first
          | (refine wpList_load_row rfl 145 (.tmp 3) rfl w.heap.size rfl 145 (u32s M).toArray (0, 0) _ HB.out.1 under_row8 rfl (size_row8 M HF.out) ?_)
          | (refine wpList_store_row rfl 145 (.tmp 6) (.tmp 195) rfl (w.heap.size + 1) (u32s M).toArray rfl rfl 145 _ HB.out.2 (size_row8 M HF.out) (by simp [u32s, HF.out]) (u32s_one M) ?_))
         have hfin : Blk (wr.setRow (w.heap.size + 1) (u32s M).toArray) (w.heap.size + 1) 145 (u32s M) := blk_setRow HB.out.2 _
         refine bodyPost_ret (v := .agg (u32s M).toArray) ?_ ?_ ⟨rfl, ?_⟩
         ·exact results_cell_row Tryz.results94 _ _ (w.heap.size + 1) 145 _ (0, 0) _ rfl hfin under_row8 rfl (size_row8 M HF.out)
         ·rfl
         ·exact HBel.out.trans ((chg_setRow wr (w.heap.size + 1) _).below HBel.out.size (fun k hk => by omega))
def Sho (w : World) (v : Value) (n k : Nat) (cs : List Value) : Prop :=
 cs.length = n * k ∧ ((n = 0 ∧ ∃ A c, v = .slice A 0 c) ∨ ∃ g o c, v = .slice (some ⟨g, o, none⟩) n c ∧ n ≤ c ∧ c ≤ maxLen ∧ g < w.heap.size ∧ ∀ j u, cs[j]? = some u → w.cell? ⟨g, o + j, none⟩ = some u)
namespace Sho
variable {w w1 : World} {v : Value} {n k : Nat} {cs : List Value}
theorem form (h : Sho w v n k cs) : ∃ A c, v = .slice A n c := by
 rcases h.2 with ⟨rfl, A, c, e⟩ | ⟨g, o, c, e, _⟩
 ·exact ⟨A, c, e⟩
 ·exact ⟨_, c, e⟩
theorem below (h : Sho w v n k cs) (hb : Below w.heap.size w w1) : Sho w1 v n k cs := by
 refine ⟨h.1, ?_⟩
 rcases h.2 with h0 | ⟨g, o, c, e, h1, h2, h3, h4⟩
 ·exact .inl h0
 ·exact .inr ⟨g, o, c, e, h1, h2, Nat.lt_of_lt_of_le h3 hb.size, fun j u hj => (hb.cell (p := ⟨g, o + j, none⟩) h3).trans (h4 j u hj)⟩
theorem chg {S : Nat → Prop} (h : Sho w v n k cs) (hc : Chg w w1 S) (hS : ∀ g, v.ownBlock = some g → ¬ S g) : Sho w1 v n k cs := by
 refine ⟨h.1, ?_⟩
 rcases h.2 with h0 | ⟨g, o, c, e, h1, h2, h3, h4⟩
 ·exact .inl h0
 ·exact .inr ⟨g, o, c, e, h1, h2, Nat.lt_of_lt_of_le h3 hc.size, fun j u hj => (hc.cell (a := ⟨g, o + j, none⟩) h3 (hS g (by rw [e]; rfl))).trans (h4 j u hj)⟩
theorem grown {row : Option Nat} (h : Sho w v n k cs) (hg : w.grownBy w1 row) (hS : ∀ g, v.ownBlock = some g → some g ≠ row) : Sho w1 v n k cs :=
 h.chg (Chg.of_grown hg) (fun g hg2 hs => hS g hg2 hs)
theorem lt (h : Sho w v n k cs) (hn : 0 < n) : ∀ g, v.ownBlock = some g → g < w.heap.size := by
 intro g hg
 rcases h.2 with ⟨rfl, _⟩ | ⟨g', o, c, rfl, h1, h2, h3, h4⟩
 ·omega
 ·have : g' = g := by simpa [Value.ownBlock] using hg
  omega
theorem place {A : Option Addr} {m c : Nat} (h : Sho w (.slice A m c) n k cs) (hn : 0 < n) : ∃ g o, A = some ⟨g, o, none⟩ ∧ m = n ∧ g < w.heap.size ∧ n ≤ c ∧ c ≤ maxLen ∧ ∀ j u, cs[j]? = some u → w.cell? ⟨g, o + j, none⟩ = some u := by
 rcases h.2 with ⟨rfl, _⟩ | ⟨g, o, c', e, h1, h2, h3, h4⟩
 ·omega
 ·injection e with e1 e2 e3
  subst e3
  exact ⟨g, o, e1, e2, h3, h1, h2, h4⟩
theorem nil (w : World) (k : Nat) : Sho w (.slice none 0 0) 0 k [] := ⟨by simp, .inl ⟨rfl, _, _, rfl⟩⟩
theorem empty (w : World) (k : Nat) (A : Option Addr) (c : Nat) : Sho w (.slice A 0 c) 0 k [] := ⟨by simp, .inl ⟨rfl, _, _, rfl⟩⟩
theorem own {base : Nat} {e : TypeId} (h : w.ownsRow base e k v n cs) : Sho w v n k cs := by
 refine ⟨h.1, ?_⟩
 rcases h.2 with ⟨rfl, rfl⟩ | ⟨g, cap, cur, rfl, hb, hh, hle, hm, hs, ht⟩
 ·exact .inl ⟨rfl, _, _, rfl⟩
 ·refine .inr ⟨g, 0, cap, rfl, hle, hm, (Array.getElem?_eq_some_iff.1 hh).1, fun j u hj => ?_⟩
  have hlt := (List.getElem?_eq_some_iff.1 hj).1
  rw [← ht, List.getElem?_take_of_lt (by rw [h.1] at hlt; exact hlt)] at hj
  simp only [World.cell?, hh]
  simpa using hj
theorem new (w : World) (t : TypeId) (cs : List Value) (n k c : Nat) (hl : cs.length = n * k) (hc : n ≤ c) (hm : c ≤ maxLen) : Sho (w.alloc (.cells cs.toArray t)) (.slice (some ⟨w.heap.size, 0, none⟩) n c) n k cs :=
 ⟨hl, .inr ⟨_, 0, c, rfl, hc, hm, by simp, fun j u hj => by rw [Nat.zero_add]; exact (Blk.new w t cs).cell j u hj⟩⟩
theorem piece {g o c : Nat} {m : Nat} (h : Sho w (.slice (some ⟨g, o, none⟩) m c) n k cs) (hn : 0 < n) (a b c' : Nat) (hab : a + b ≤ n) (hb : b ≤ c') (hc' : c' ≤ maxLen) : Sho w (.slice (some ⟨g, o + a * k, none⟩) b c') b k ((cs.drop (a * k)).take (b * k)) := by
 obtain ⟨g', o', e, _, h3, h1, h2, h4⟩ := h.place hn
 injection e with e
 injection e with e1 e2
 subst e1 e2
 have hle : a * k + b * k ≤ cs.length := by rw [h.1, ← Nat.add_mul]; exact Nat.mul_le_mul_right _ hab
 refine ⟨by rw [List.length_take, List.length_drop]; omega, .inr ⟨_, _, c', rfl, hb, hc', h3, fun j u hj => ?_⟩⟩
 have hlt : j < b * k := by have := (List.getElem?_eq_some_iff.1 hj).1; rw [List.length_take] at this; omega
 rw [List.getElem?_take_of_lt hlt, List.getElem?_drop] at hj
 rw [Nat.add_assoc]
 exact h4 _ u hj
end Sho

def NewsOf (w : World) (x : Value) (m size : Nat) (news : List Value) : Prop :=
 news.length = m * size ∧ (∀ u ∈ news, u.oneCell' = true) ∧ ∃ A c, x = .slice A m c ∧ (m = 0 ∨ ∃ ad, A = some ad ∧ ∀ j u, news[j]? = some u → w.cell? (ad.add j) = some u)
theorem Sho.news {w : World} {v : Value} {n k : Nat} {cs : List Value} (h : Sho w v n k cs) (h1 : ∀ u ∈ cs, u.oneCell' = true) : NewsOf w v n k cs := by
 refine ⟨h.1, h1, ?_⟩
 rcases h.2 with ⟨rfl, A, c, e⟩ | ⟨g, o, c, e, _, _, _, h4⟩
 ·exact ⟨A, c, e, .inl rfl⟩
 ·exact ⟨_, c, e, .inr ⟨_, rfl, fun j u hj => by rw [Go.WideShapes.add_plain]; exact h4 j u hj⟩⟩
section
variable {P : Program} {w : World}
theorem run_append_none (t ty e : TypeId) (i : TypeInfo) (size base : Nat) (ht : P.underlying t = some (.slice e)) (hi : P.info? e = some i) (v : Value) (n : Nat) (xs : List Value) (hown : w.ownsRow base e size v n xs) (A : Option Addr) (c : Nat) :
  (Builtin.append_ #[t, t] ty #[v, .slice A 0 c]).run P w = .ok v w := by
 have hf : (Builtin.firstCells i.size 0 (.slice A 0 c)).run P w = .ok #[] w := by
  cases A <;> simp [Builtin.firstCells, loadCells, loadCellsFrom]
 rcases hown.2 with ⟨rfl, rfl⟩ | ⟨g, cap, cur, rfl, hbg, hg, hnc, hcm, hcs, htake⟩
 ·simp [Builtin.append_, run_underlying ht, sizeOf, typeInfo, hi, Builtin.lenOf, hf]
 ·simp [Builtin.append_, run_underlying ht, sizeOf, typeInfo, hi, Builtin.lenOf, hf, hnc, storeCells]
theorem run_append_any (base : Nat) (t ty e : TypeId) (i : TypeInfo) (z : Value) (size bytes : Nat) (ht : P.underlying t = some (.slice e)) (hi : P.info? e = some i) (hz : i.zero = some z)
  (hsize : i.size = size) (hby : i.bytes = bytes) (hzs : z.cells.size = size) (hsz : 0 < size)
  (v : Value) (n : Nat) (xs : List Value) (hown : w.ownsRow base e size v n xs)
  (x : Value) (m : Nat) (news : List Value) (hx : NewsOf w x m size news)
  (h63 : n + m ≤ maxLen) (hbytes : (n + m) * bytes ≤ 140737488355328) (hbase : base ≤ w.heap.size) :
  ∃ v' w', (Builtin.append_ #[t, t] ty #[v, x]).run P w = .ok v' w' ∧ w'.ownsRow base e size v' (n + m) (xs ++ news) ∧ w.grownBy w' v.ownBlock := by
 obtain ⟨hl, h1, A, c, rfl, hA⟩ := hx
 rcases hA with rfl | ⟨ad, rfl, hn⟩
 ·have hnil : news = [] := List.eq_nil_of_length_eq_zero (by simpa using hl)
  subst hnil
  exact ⟨v, w, run_append_none t ty e i size base ht hi v n xs hown A c, by simpa using hown, ⟨rfl, rfl, rfl, Nat.le_refl _, fun _ _ _ => rfl⟩⟩
 ·obtain ⟨v', w', hr, h2, h3, _⟩ := run_append_own (P := P) w base t ty e i z size bytes ht hi hz hsize hby hzs hsz v n xs hown ad m c news hl hn h1 h63 hbytes hbase
  exact ⟨v', w', hr, h2, h3⟩
theorem wpList_append_any {ops : Array Oper} {rest : List Oper} {o : Oper} {a : Act} {Q : Exit → Act → World → Prop} (hgd : o.guard = none) (s x : Operand) (t : TypeId)
  (ho : o.op = .call { callee := .builtin .append, args := #[s, x], argTypes := #[t, t] })
  (base : Nat) (e : TypeId) (i : TypeInfo) (z : Value) (size bytes : Nat) (ht : P.underlying t = some (.slice e)) (hi : P.info? e = some i) (hz : i.zero = some z)
  (hsize : i.size = size) (hby : i.bytes = bytes) (hzs : z.cells.size = size) (hsz : 0 < size)
  (v : Value) (n : Nat) (xs : List Value) (hs : a.eval s = v) (hown : w.ownsRow base e size v n xs)
  (y : Value) (m : Nat) (news : List Value) (hy : a.eval x = y) (hx : NewsOf w y m size news)
  (h63 : n + m ≤ maxLen) (hbytes : (n + m) * bytes ≤ 140737488355328) (hbase : base ≤ w.heap.size)
  (h : ∀ v' w', w'.ownsRow base e size v' (n + m) (xs ++ news) → w.grownBy w' v.ownBlock → wpList P ops Q rest (a.put o.dst v') w') : wpList P ops Q (o :: rest) a w :=
 wpList_plain hgd fun _ hK => by
  obtain ⟨v', w', hr, h2, h3⟩ := run_append_any (P := P) base t o.type e i z size bytes ht hi hz hsize hby hzs hsz v n xs hown y m news hx h63 hbytes hbase
  unfold Oper.wp execOp
  simp only [ho, resolve, invoke, builtin, Sem.run_bind, Sem.run_pure, Result.andThen_ok, List.map_toArray, List.map_cons, List.map_nil, hs, hy, hr]
  exact hK _ _ (h v' w' h2 h3)
theorem step_append_any {ops : Array Oper} {o : Oper} {a : Act} {K : Act → World → Prop} {Q : Exit → Act → World → Prop} {E : Prop} (hgd : o.guard = none) (s x : Operand) (t : TypeId)
  (ho : o.op = .call { callee := .builtin .append, args := #[s, x], argTypes := #[t, t] })
  (base : Nat) (e : TypeId) (i : TypeInfo) (z : Value) (size bytes : Nat) (ht : P.underlying t = some (.slice e)) (hi : P.info? e = some i) (hz : i.zero = some z)
  (hsize : i.size = size) (hby : i.bytes = bytes) (hzs : z.cells.size = size) (hsz : 0 < size)
  (v : Value) (n : Nat) (xs : List Value) (hs : a.eval s = v) (hown : w.ownsRow base e size v n xs)
  (y : Value) (m : Nat) (news : List Value) (hy : a.eval x = y) (hx : NewsOf w y m size news)
  (h63 : n + m ≤ maxLen) (hbytes : (n + m) * bytes ≤ 140737488355328) (hbase : base ≤ w.heap.size)
  (h : ∀ v' w', w'.ownsRow base e size v' (n + m) (xs ++ news) → w.grownBy w' v.ownBlock → K (a.put o.dst v') w') :
  if Region.wanted o (yielded ops a.tmps) = true then Oper.wp P o a w K Q else E := by
 have hw : Region.wanted o (yielded ops a.tmps) = true := by simp [Region.wanted, hgd]
 rw [if_pos hw]
 obtain ⟨v', w', hr, h2, h3⟩ := run_append_any (P := P) base t o.type e i z size bytes ht hi hz hsize hby hzs hsz v n xs hown y m news hx h63 hbytes hbase
 unfold Oper.wp execOp
 simp only [ho, resolve, invoke, builtin, Sem.run_bind, Sem.run_pure, Result.andThen_ok, List.map_toArray, List.map_cons, List.map_nil, hs, hy, hr]
 exact h v' w' h2 h3
end
theorem own_mono' {w : World} {b b' : Nat} {e : TypeId} {size n : Nat} {v : Value} {xs : List Value} (h : w.ownsRow b e size v n xs) (hb : b' ≤ b) : w.ownsRow b' e size v n xs := by
 refine ⟨h.1, ?_⟩
 rcases h.2 with h2 | ⟨g, cap, cur, e1, hg, r⟩
 ·exact .inl h2
 ·exact .inr ⟨g, cap, cur, e1, Nat.le_trans hb hg, r⟩
theorem own_none {w : World} {base g : Nat} {t : TypeId} {size : Nat} (h : Blk w g t []) (hb : base ≤ g) : w.ownsRow base t size (.slice (some ⟨g, 0, none⟩) 0 0) 0 [] :=
 ⟨by simp, .inr ⟨g, 0, #[], rfl, hb, h, Nat.le_refl _, Nat.zero_le _, by simp, by simp⟩⟩
theorem own_new {w : World} {base size n : Nat} (t : TypeId) (cs : List Value) (hl : cs.length = n * size) (hm : n ≤ maxLen) (hb : base ≤ w.heap.size) : (w.alloc (.cells cs.toArray t)).ownsRow base t size (.slice (some ⟨w.heap.size, 0, none⟩) n n) n cs :=
 ⟨hl, .inr ⟨_, n, cs.toArray, rfl, hb, Blk.new w t cs, Nat.le_refl _, hm, by simpa using hl, by simp [← hl]⟩⟩
theorem news1 (w : World) (t : TypeId) (u : Value) (h : u.oneCell' = true) : NewsOf (w.alloc (.cells #[u] t)) (.slice (some ⟨w.heap.size, 0, none⟩) 1 1) 1 1 [u] :=
 (Sho.new w t [u] 1 1 1 rfl (Nat.le_refl _) (by decide)).news (fun x hx => by simp at hx; subst hx; exact h)
theorem news1_drew (w : World) (t : TypeId) (u : Value) (h : u.oneCell' = true) : NewsOf (w.alloc (.cells #[u] t)).drew (.slice (some ⟨w.heap.size, 0, none⟩) 1 1) 1 1 [u] := news1 w t u h
def bys (l : List UInt8) : List Value := l.map (fun b => Value.int .u8 (b.toNat : Nat))
theorem bys_length (l : List UInt8) : (bys l).length = l.length := by simp [bys]
theorem bys_append (l m : List UInt8) : bys (l ++ m) = bys l ++ bys m := by simp [bys]
theorem bys_one (l : List UInt8) : ∀ u ∈ bys l, u.oneCell' = true := by
 intro u hu
 unfold bys at hu
 obtain ⟨b, _, rfl⟩ := List.mem_map.1 hu
 rfl
theorem bys_at (l : List UInt8) (k : Nat) (h : k < l.length) : (bys l)[k]? = some (.int .u8 (l[k].toNat : Nat)) := by simp [bys, List.getElem?_eq_getElem h]
theorem bys_drop (l : List UInt8) (n : Nat) : bys (l.drop n) = (bys l).drop n := by simp [bys, List.map_drop]
def Bys (w : World) (v : Value) (l : List UInt8) : Prop := Sho w v l.length 1 (bys l)
def OwnB (w : World) (base : Nat) (v : Value) (l : List UInt8) : Prop := w.ownsRow base 5 1 v l.length (bys l)
theorem info_u8 : (Tryz.prog.info? 5).map (fun i => (i.zero, i.size, i.bytes)) = some (some (.int .u8 0), 1, 1) := by kernel_rfl
theorem OwnB.bys {w : World} {base : Nat} {v : Value} {l : List UInt8} (h : OwnB w base v l) : Bys w v l := Sho.own h
theorem OwnB.form {w : World} {base : Nat} {v : Value} {l : List UInt8} (h : OwnB w base v l) : ∃ A c, v = .slice A l.length c := h.bys.form
theorem OwnB.ge {w : World} {base : Nat} {v : Value} {l : List UInt8} (h : OwnB w base v l) {j : Nat} (e : v.ownBlock = some j) : base ≤ j := (World.ownsRow.lt h j e).1
theorem Bys.news {w : World} {v : Value} {l : List UInt8} (h : Bys w v l) : NewsOf w v l.length 1 (Go.Proofs.YtlkgeifmppadmaaGreat.bys l) := Sho.news h (bys_one l)
theorem Bys.form {w : World} {v : Value} {l : List UInt8} (h : Bys w v l) : ∃ A c, v = .slice A l.length c := Sho.form h
theorem Bys.place {w : World} {A : Option Addr} {m c : Nat} {l : List UInt8} (h : Bys w (.slice A m c) l) (hn : 0 < l.length) : ∃ g o, A = some ⟨g, o, none⟩ ∧ m = l.length ∧ g < w.heap.size ∧ l.length ≤ c ∧ c ≤ maxLen ∧ ∀ k (hk : k < l.length), w.cell? ⟨g, o + k, none⟩ = some (.int .u8 (l[k].toNat : Nat)) := by
 obtain ⟨g, o, e1, e2, h3, h1, h2, h4⟩ := Sho.place h hn
 exact ⟨g, o, e1, e2, h3, h1, h2, fun k hk => h4 k _ (bys_at l k hk)⟩
theorem Bys.below {w w1 : World} {v : Value} {l : List UInt8} (h : Bys w v l) (hb : Below w.heap.size w w1) : Bys w1 v l := Sho.below h hb
theorem Bys.new (w : World) (l : List UInt8) (n : Nat) (hn : l.length = n) (hm : n ≤ 1000000) : NewsOf (w.alloc (.cells (Go.Proofs.YtlkgeifmppadmaaGreat.bys l).toArray 5)) (.slice (some ⟨w.heap.size, 0, none⟩) n n) n 1 (Go.Proofs.YtlkgeifmppadmaaGreat.bys l) :=
 (Sho.new w 5 (Go.Proofs.YtlkgeifmppadmaaGreat.bys l) n 1 n (by rw [bys_length]; omega) (Nat.le_refl _) (by unfold maxLen; omega)).news (bys_one l)
def ub (y : Int) : UInt8 := UInt8.ofNat (y % 256).toNat
theorem ub_val (y : Int) : (((ub y).toNat : Nat) : Int) = y % 256 := by
 have h : (ub y).toNat = (y % 256).toNat % 256 := UInt8.toNat_ofNat'
 rw [h]
 omega
theorem OwnB.append {w : World} {base : Nat} {v : Value} {l m : List UInt8} {n : Nat} (hn : m.length = n) (h : w.ownsRow base 5 1 v (l.length + n) (Go.Proofs.YtlkgeifmppadmaaGreat.bys l ++ Go.Proofs.YtlkgeifmppadmaaGreat.bys m)) : OwnB w base v (l ++ m) := by
 unfold OwnB
 rw [List.length_append, bys_append, hn]
 exact h
theorem OwnB.keep {w w1 : World} {base : Nat} {v : Value} {l : List UInt8} (h : OwnB w base v l) (hb : Below w.heap.size w w1) : OwnB w1 base v l := ownsRow_chg h (Chg.of_below (S := fun _ => False) hb) (fun _ _ h => h)
def lenV : Value → Nat | .slice _ n _ => n | _ => 0
theorem Bys.tail {w : World} {g o c m : Nat} {D : List UInt8} (h : Bys w (.slice (some ⟨g, o, Option.none⟩) m c) D) (h0 : 0 < D.length) (k : Nat) (hk : k ≤ D.length) : Bys w (.slice (some ⟨g, o + k, Option.none⟩) (D.length - k) (c - k)) (D.drop k) := by
 obtain ⟨g', o', e1, e2, h3, h1, h2, h4⟩ := Sho.place h h0
 have hp := Sho.piece h h0 k (D.length - k) (c - k) (by omega) (by omega) (by omega)
 unfold Bys
 rw [bys_drop, List.length_drop]
 rw [Nat.mul_one] at hp
 rwa [List.take_of_length_le (by rw [List.length_drop, bys_length]; omega)] at hp
theorem Bys.tail_end {w : World} {A : Option Addr} {c : Nat} {D : List UInt8} (k : Nat) (hk : D.length = k) : Bys w (.slice A (D.length - k) c) (D.drop k) := by
 unfold Bys
 rw [List.drop_of_length_le (by omega), show D.length - k = 0 by omega]
 exact Sho.empty w 1 A c
theorem Bys.new_drew (w : World) (l : List UInt8) (n : Nat) (hn : l.length = n) (hm : n ≤ 1000000) : NewsOf (w.alloc (.cells (Go.Proofs.YtlkgeifmppadmaaGreat.bys l).toArray 5)).drew (.slice (some ⟨w.heap.size, 0, Option.none⟩) n n) n 1 (Go.Proofs.YtlkgeifmppadmaaGreat.bys l) := Bys.new w l n hn hm
theorem OwnB.any {w : World} {base : Nat} {v : Value} {l : List UInt8} (h : OwnB w base v l) : w.ownsRow base 5 1 v l.length (Go.Proofs.YtlkgeifmppadmaaGreat.bys l) := h
def shaH : List Int := [1779033703, 3144134277, 1013904242, 2773480762, 1359893119, 2600822924, 528734635, 1541459225]
def shaRun (s : List Int) (f : List UInt8) : Nat → List Int
 | 0 => s
 | n + 1 => mixF shaK (shaRun s f n) ((f.drop (64 * n)).take 64)
theorem shaRun_length (s : List Int) (f : List UInt8) (h : s.length = 8) (n : Nat) : (shaRun s f n).length = 8 := by
 induction n with
 | zero => exact h
 | succ n ih => exact mixF_length _ _ _ ih
theorem shaRun_more (s : List Int) (f g : List UInt8) : ∀ n, 64 * n ≤ f.length → shaRun s (f ++ g) n = shaRun s f n
 | 0, _ => rfl
 | n + 1, h => by
  show mixF shaK (shaRun s (f ++ g) n) _ = mixF shaK (shaRun s f n) _
  rw [shaRun_more s f g n (by omega), List.drop_append_of_le_length (by omega), List.take_append_of_le_length (by rw [List.length_drop]; omega)]
def zn (n : Nat) : Nat := (119 - n % 64) % 64
theorem zn_at (n : Nat) : (n + 1 + zn n) % 64 = 56 := by unfold zn; omega
theorem zn_first (n j : Nat) (h : (n + 1 + j) % 64 = 56) (hj : j ≤ zn n) : j = zn n := by unfold zn at *; omega
def lens (n : Nat) : Nat → List UInt8
 | 0 => []
 | j + 1 => lens n j ++ [ub ((n : Int) * 8 / (2 ^ (8 * (7 - j)) : Nat))]
theorem lens_length (n j : Nat) : (lens n j).length = j := by
 induction j with
 | zero => rfl
 | succ j ih => show (lens n j ++ [_]).length = _; rw [List.length_append, ih]; rfl
def pad (l : List UInt8) (j : Nat) : List UInt8 := l ++ 128 :: List.replicate j 0
theorem pad_length (l : List UInt8) (j : Nat) : (pad l j).length = l.length + 1 + j := by simp [pad]; omega
def full (l : List UInt8) : List UInt8 := pad l (zn l.length) ++ lens l.length 8
theorem full_length (l : List UInt8) : (full l).length = l.length + 1 + zn l.length + 8 := by unfold full; rw [List.length_append, pad_length, lens_length]
theorem full_cut (l : List UInt8) : (full l).length % 64 = 0 := by
 rw [full_length]
 have := zn_at l.length
 omega
def be4 (x : Int) : List UInt8 := [ub (x / 16777216), ub (x / 65536), ub (x / 256), ub x]
def outs (s : List Int) : Nat → List UInt8
 | 0 => []
 | j + 1 => outs s j ++ be4 (s.getD j 0)
theorem outs_length (s : List Int) (j : Nat) : (outs s j).length = 4 * j := by
 induction j with
 | zero => rfl
 | succ j ih => show (outs s j ++ be4 _).length = _; rw [List.length_append, ih]; rfl
def sha (l : List UInt8) : List UInt8 := outs (shaRun shaH (full l) ((full l).length / 64)) 8
theorem sha_length (l : List UInt8) : (sha l).length = 32 := outs_length _ _
end Go.Proofs.YtlkgeifmppadmaaGreat
namespace Go.Proofs.YtlkgeifmppadmaaGreat
open Go.RowKit Go.Shelf
attribute [local go_sem] Oper.semAt_some
set_option linter.unusedVariables false
set_option linter.unusedSimpArgs false

structure BelX (n h : Nat) (w w' : World) : Prop where
 os : w'.os = w.os
 tape : w'.tape = w.tape
 output : w'.output = w.output
 size : w.heap.size ≤ w'.heap.size
 block : ∀ k, k < n → k ≠ h → w'.heap[k]? = w.heap[k]?
namespace BelX
variable {n h : Nat} {w w1 w2 : World}
theorem refl (n h : Nat) (w : World) : BelX n h w w := ⟨rfl, rfl, rfl, Nat.le_refl _, fun _ _ _ => rfl⟩
theorem trans (a : BelX n h w w1) (b : BelX n h w1 w2) : BelX n h w w2 := ⟨b.os.trans a.os, b.tape.trans a.tape, b.output.trans a.output, Nat.le_trans a.size b.size, fun k hk hn => (b.block k hk hn).trans (a.block k hk hn)⟩
theorem drew (a : BelX n h w w1) : BelX n h w w1.drew := ⟨a.os, a.tape, a.output, a.size, a.block⟩
theorem cell (a : BelX n h w w1) {p : Addr} (hp : p.block < n) (hn : p.block ≠ h) : w1.cell? p = w.cell? p := World.cell?_of_block (a.block _ hp hn)
theorem of_below {n' : Nat} (a : Below n' w w1) (hn : n ≤ n') : BelX n h w w1 := ⟨a.os, a.tape, a.output, a.size, fun k hk _ => a.block k (Nat.lt_of_lt_of_le hk hn)⟩
end BelX
theorem belX_b {n h : Nat} {w : World} (hn : n ≤ w.heap.size) (W : World) (l : Nat) (o o' : Obj) (hl : w.heap.size ≤ l) (hh : W.heap[l]? = some o) (h1 : o.isCells = false) (h2 : o.isWalk = false) : BelX n h W (W.putObj l o') :=
 .of_below (belowK_b (n₀ := n) hn W l o o' hl hh h1 h2) (Nat.le_refl _)
theorem grown_drew0 (w : World) : w.grownBy w.drew none := ⟨rfl, rfl, rfl, Nat.le_refl _, fun _ _ _ => rfl⟩

set_option maxRecDepth 100000 in
set_option maxHeartbeats 2000000 in
theorem chunk1_in (F : Fence) (n : Nat) (hF : F.fn 108) (hro : F.round = none) (hn : 1 ≤ n) (lp Bs Bn n₀ h g m cap : Nat) (hm : 64 * m ≤ cap) (hcap : cap ≤ maxLen) (hsm : 64 * m < 100000000000000) (hBs0 : Bs < n₀) (hBs1 : Bs ≠ h) (hBn0 : Bn < n₀) (hBn1 : Bn ≠ h) (J Jx : Nat → World → Prop)
  (W : World) (hn₀ : n₀ ≤ W.heap.size) (hJ : AbidesFrom W.heap.size J)
  (hY : ∀ x W, J x W → x < m → YieldAt F (n - 1) Tryz.prog lp #[.slice (some ⟨g, 64 * x, none⟩) 64 64] W fun e W' =>
   (e = .returned (.bool true) ∧ J (x + 1) W' ∧ BelX n₀ h W W') ∨ (e = .returned (.bool false) ∧ Jx (x + 1) W'))
  (hBs : W.cell? ⟨Bs, 0, none⟩ = some (.slice (some ⟨g, 0, none⟩) (64 * m : Nat) cap)) (hBn : W.cell? ⟨Bn, 0, none⟩ = some (.int .i64 64)) (h0 : J 0 W) :
  CallsIn F n Tryz.prog 108 #[.func (.yield lp) #[] #[], .pointer (some ⟨Bs, 0, none⟩), .pointer (some ⟨Bn, 0, none⟩)] W fun e W' => (∃ v, e = .returned v) ∧
   (J m W' ∨ (∃ k, k ≤ m ∧ Jx k W')) := by
 refine callsIn_of_wp Tryz.func108 rfl hF ?_ hro
 simp only [Tryz.ntmps108, List.size_toArray, List.length_cons, List.length_nil, Nat.reduceAdd, Nat.reduceSub, Array.replicate_succ, Array.replicate_zero, List.push_toArray, List.append_toArray, List.nil_append, List.cons_append]
 gi_wp2
 gi_loopw [4] (fun i wr => ∃ k : Nat, k ≤ m ∧ i = .int .i64 (64 * k) ∧ Hid (J k wr ∧ BelX n₀ h W wr))
  (fun i _ => 64 * m - (intOf i).toNat)
 case atStart => exact ⟨0, Nat.zero_le _, rfl, Lib.hid ⟨h0, BelX.refl _ _ _⟩⟩
 case round =>
  obtain ⟨k, hk, rfl, HI⟩ := hrel
  have p0 := (HI.out.2.cell (p := ⟨Bs, 0, none⟩) hBs0 hBs1).trans hBs
  have p1 := (HI.out.2.cell (p := ⟨Bn, 0, none⟩) hBn0 hBn1).trans hBn
  by_cases hlt : k < m
  ·have y1 : (64 : Int) * (k : Int) < ((64 * m : Nat) : Int) := by omega
   have y2 : (0 : Int) ≤ 64 * (k : Int) := by omega
   have y3 : (64 : Int) ≤ ((64 * m : Nat) : Int) - 64 * (k : Int) := by omega
   have et : (64 * (k : Int)).toNat = 64 * k := by omega
   have ec : ¬ cap = 64 * k := by omega
   have el : ¬ (((64 * m - 64 * k : Nat) : Int) < 64) := by omega
   have ew : IntKind.i64.wrap (64 * (k : Int) + 64) = 64 * (k : Int) + 64 := IntWalk.i64_in _ (by omega)
   have et2 : (64 * (k : Int) + 64).toNat = 64 * k + 64 := by omega
   have es : 64 * k + 64 - 64 * k = 64 := by omega
   have eb : (64 : Int) * (k : Int) + 64 ≤ (cap : Int) := by omega
   have ez : ¬ (64 = 0) := by decide
   have e9 : ¬ (64 * k + 64 = 64 * k) := by omega
   have hJ2 : J k wr.drew := hJ _ _ _ none HI.out.1 (grown_drew0 _) (fun r e => by cases e)
   obtain ⟨fn, tmps, assign, body, hy, hR⟩ := hY k _ hJ2 hlt
   clear hJ2
   gi_wp2
   gi_region
   all_goals
    gi_wp2
    refine hR.mono ?_
    rintro e W3 (⟨rfl, hJ3, hk3⟩ | ⟨rfl, hJx3⟩)
    ·have HJ3 := Lib.hid (And.intro hJ3 hk3)
     have p2 := ((HI.out.2.drew.trans hk3).cell (p := ⟨Bn, 0, none⟩) hBn0 hBn1).trans hBn
     clear hJ3 hk3
     gi_wp2
     go_roundw
     case rel => exact ⟨k + 1, by omega, by go_num, Lib.hid ⟨HJ3.out.1, HI.out.2.drew.trans HJ3.out.2⟩⟩
     case measure => simp [intOf]; omega
    ·have HJ3 := Lib.hid hJx3
     clear hJx3
     gi_wp2
     refine bodyPost_ret (results_none rfl _ _ _) rfl ?_
     exact ⟨⟨_, rfl⟩, .inr ⟨_, by omega, HJ3.out⟩⟩
  ·obtain rfl : k = m := by omega
   gi_wp2
   go_end0
   exact ⟨⟨_, rfl⟩, .inl HI.out.1⟩
end Go.Proofs.YtlkgeifmppadmaaGreat
namespace Go.Proofs.YtlkgeifmppadmaaGreat
open Go.RowKit
set_option linter.unusedVariables false

def Rws (w : World) (v : Value) (ls : List (List UInt8)) : Prop := ∃ us : List Value, Sho w v ls.length 1 us ∧ ∀ i (h : i < ls.length), ∃ u, us[i]? = some u ∧ Bys w u ls[i]
namespace Rws
variable {w w1 : World} {v : Value} {ls : List (List UInt8)}
theorem form (h : Rws w v ls) : ∃ A c, v = .slice A ls.length c := by
 obtain ⟨us, h1, _⟩ := h
 exact h1.form
theorem below (h : Rws w v ls) (hb : Below w.heap.size w w1) : Rws w1 v ls := by
 obtain ⟨us, h1, h2⟩ := h
 exact ⟨us, h1.below hb, fun i hi => by obtain ⟨u, e, hu⟩ := h2 i hi; exact ⟨u, e, hu.below hb⟩⟩
theorem at' {A : Option Addr} {n c : Nat} (h : Rws w (.slice A n c) ls) (i : Nat) (hi : i < ls.length) : ∃ g o u, A = some ⟨g, o, none⟩ ∧ g < w.heap.size ∧ n = ls.length ∧ ls.length ≤ c ∧ w.cell? ⟨g, o + i, none⟩ = some u ∧ Bys w u ls[i] := by
 obtain ⟨us, h1, h2⟩ := h
 obtain ⟨u, e, hu⟩ := h2 i hi
 obtain ⟨g, o, e1, e2, h3, h4, _, h5⟩ := h1.place (by omega)
 exact ⟨g, o, u, e1, h3, e2, h4, h5 i u e, hu⟩
theorem new (w : World) (t : TypeId) (us : List Value) (ls : List (List UInt8)) (n c : Nat) (hn : ls.length = n) (hl : us.length = ls.length) (hc : n ≤ c) (hm : c ≤ maxLen) (h : ∀ i u (hi : i < ls.length), us[i]? = some u → Bys w u ls[i]) : Rws (w.alloc (.cells us.toArray t)) (.slice (some ⟨w.heap.size, 0, none⟩) n c) ls := by
 subst hn
 refine ⟨us, Sho.new w t us ls.length 1 c (by omega) hc hm, fun i hi => ?_⟩
 have hi' : i < us.length := by omega
 exact ⟨us[i], List.getElem?_eq_getElem hi', (h i us[i] hi (List.getElem?_eq_getElem hi')).below ((Below.refl _ _).alloc (Nat.le_refl _) _)⟩
theorem nil (w : World) : Rws w (.slice none 0 0) [] := ⟨[], Sho.nil w 1, fun i hi => absurd hi (Nat.not_lt_zero _)⟩
end Rws
theorem new1 {w : World} (t : TypeId) {b : Nat} (hb : w.heap.size = b) {u : Value} {l : List UInt8} (h : Bys w u l) : Rws (w.alloc (.cells #[u] t)) (.slice (some ⟨b, 0, none⟩) 1 1) [l] := hb ▸
 Rws.new w t [u] [l] 1 1 rfl rfl (Nat.le_refl _) (by decide) (fun i x hi hx => by
  obtain rfl : i = 0 := by simpa using hi
  simp at hx; subst hx; exact h)
theorem new2 {w : World} (t : TypeId) {b : Nat} (hb : w.heap.size = b) {u u' : Value} {l l' : List UInt8} (h : Bys w u l) (h' : Bys w u' l') : Rws (w.alloc (.cells #[u, u'] t)) (.slice (some ⟨b, 0, none⟩) 2 2) [l, l'] := hb ▸
 Rws.new w t [u, u'] [l, l'] 2 2 rfl rfl (Nat.le_refl _) (by decide) (fun i x hi hx => by
  obtain rfl | rfl : i = 0 ∨ i = 1 := by simp at hi; omega
  ·simp at hx; subst hx; exact h
  ·simp at hx; subst hx; exact h')
theorem new3 {w : World} (t : TypeId) {b : Nat} (hb : w.heap.size = b) {u u' u'' : Value} {l l' l'' : List UInt8} (h : Bys w u l) (h' : Bys w u' l') (h'' : Bys w u'' l'') : Rws (w.alloc (.cells #[u, u', u''] t)) (.slice (some ⟨b, 0, none⟩) 3 3) [l, l', l''] := hb ▸
 Rws.new w t [u, u', u''] [l, l', l''] 3 3 rfl rfl (Nat.le_refl _) (by decide) (fun i x hi hx => by
  obtain rfl | rfl | rfl : i = 0 ∨ i = 1 ∨ i = 2 := by simp at hi; omega
  ·simp at hx; subst hx; exact h
  ·simp at hx; subst hx; exact h'
  ·simp at hx; subst hx; exact h'')
def OwnR (w : World) (base : Nat) (v : Value) (ls : List (List UInt8)) : Prop :=
 ∃ us, w.ownsRow base 26 1 v ls.length us ∧ ∀ i (h : i < ls.length), ∃ u, us[i]? = some u ∧ Bys w u ls[i] ∧ (0 < ls[i].length → u.ownBlock ≠ v.ownBlock ∧ ∀ g, u.ownBlock = some g → base ≤ g)
theorem OwnR.nil (w : World) (base : Nat) : OwnR w base (.slice none 0 0) [] := ⟨[], World.ownsRow_nil _ _ _ _, fun i h => absurd h (Nat.not_lt_zero _)⟩
theorem OwnR.rws {w : World} {base : Nat} {v : Value} {ls : List (List UInt8)} (h : OwnR w base v ls) : Rws w v ls := by
 obtain ⟨us, h1, h2⟩ := h
 exact ⟨us, Sho.own h1, fun i hi => by obtain ⟨u, e, hu, _⟩ := h2 i hi; exact ⟨u, e, hu⟩⟩
theorem OwnR.ge {w : World} {base : Nat} {v : Value} {ls : List (List UInt8)} (h : OwnR w base v ls) {j : Nat} (e : v.ownBlock = some j) : base ≤ j := by
 obtain ⟨us, h1, _⟩ := h
 exact (World.ownsRow.lt h1 j e).1
theorem OwnR.lt {w : World} {base : Nat} {v : Value} {ls : List (List UInt8)} (h : OwnR w base v ls) {j : Nat} (e : v.ownBlock = some j) : j < w.heap.size := by
 obtain ⟨us, h1, _⟩ := h
 exact (World.ownsRow.lt h1 j e).2
theorem OwnR.keep {w w1 : World} {base : Nat} {v : Value} {ls : List (List UInt8)} (h : OwnR w base v ls) (hb : Below w.heap.size w w1) : OwnR w1 base v ls := by
 obtain ⟨us, h1, h2⟩ := h
 exact ⟨us, ownsRow_chg h1 (Chg.of_below (S := fun _ => False) hb) (fun _ _ h => h), fun i hi => by obtain ⟨u, e, hu, hn⟩ := h2 i hi; exact ⟨u, e, hu.below hb, hn⟩⟩
theorem OwnR.push {w W : World} {base g cap : Nat} {v u : Value} {ls : List (List UInt8)} {l : List UInt8} {us : List Value} {t : TypeId} {cs : Array Value}
  (h1 : ∀ i (h : i < ls.length), ∃ u, us[i]? = some u ∧ Bys w u ls[i] ∧ (0 < ls[i].length → u.ownBlock ≠ v.ownBlock ∧ ∀ g, u.ownBlock = some g → base ≤ g)) (hl : us.length = ls.length)
  (hu : Bys w u l) (hun : 0 < l.length → u.ownBlock ≠ v.ownBlock ∧ ∀ g, u.ownBlock = some g → base ≤ g)
  (ho : W.ownsRow base 26 1 (.slice (some ⟨g, 0, none⟩) (ls.length + 1) cap) (ls.length + 1) (us ++ [u])) (hg : (w.alloc (.cells cs t)).grownBy W v.ownBlock) (hlie : v.ownBlock = some g ∨ g = w.heap.size + 1) :
  OwnR W base (.slice (some ⟨g, 0, none⟩) (ls.length + 1) cap) (ls ++ [l]) := by
 have keep : ∀ (x : Value) (m : List UInt8), Bys w x m → (0 < m.length → x.ownBlock ≠ v.ownBlock ∧ ∀ g, x.ownBlock = some g → base ≤ g) → Bys W x m ∧ (0 < m.length → x.ownBlock ≠ some g ∧ ∀ g, x.ownBlock = some g → base ≤ g) := by
  intro x m hx hn
  have hx1 : Bys (w.alloc (.cells cs t)) x m := hx.below ((Below.refl _ _).alloc (Nat.le_refl _) _)
  rcases Nat.eq_zero_or_pos m.length with h0 | h0
  ·have hm : m = [] := List.length_eq_zero_iff.1 h0
   subst hm
   obtain ⟨A, c, rfl⟩ := hx.form
   exact ⟨Sho.empty W 1 A c, fun h => absurd h (Nat.lt_irrefl _)⟩
  ·refine ⟨Sho.grown hx1 hg (fun q hq e => (hn h0).1 (by rw [hq, ← e])), fun _ => ⟨fun e => ?_, (hn h0).2⟩⟩
   rcases hlie with hlie | hlie
   ·exact (hn h0).1 (by rw [e, hlie])
   ·have := hx.lt h0 g e
    omega
 refine ⟨us ++ [u], by rw [List.length_append]; exact ho, fun i hi => ?_⟩
 by_cases hi' : i < ls.length
 ·obtain ⟨x, e, hx, hn⟩ := h1 i hi'
  obtain ⟨k1, k2⟩ := keep x ls[i] hx hn
  refine ⟨x, by rw [List.getElem?_append_left (by omega)]; exact e, ?_, ?_⟩
  ·rw [List.getElem_append_left hi']; exact k1
  ·rw [List.getElem_append_left hi']; exact k2
 ·have : i = ls.length := by simp at hi; omega
  subst this
  obtain ⟨k1, k2⟩ := keep u l hu hun
  refine ⟨u, by rw [List.getElem?_append_right (by omega), hl]; simp, ?_, ?_⟩
  ·rw [List.getElem_append_right (Nat.le_refl _)]; simpa using k1
  ·intro h0
   exact k2 (by rw [List.getElem_append_right (Nat.le_refl _)] at h0; simpa using h0)
def RwsF (S : Nat → Prop) (w : World) (v : Value) (ls : List (List UInt8)) : Prop :=
 ∃ us, Sho w v ls.length 1 us ∧ (0 < ls.length → ∀ g, v.ownBlock = some g → S g) ∧ ∀ i (h : i < ls.length), ∃ u, us[i]? = some u ∧ Bys w u ls[i] ∧ (0 < ls[i].length → ∀ g, u.ownBlock = some g → S g)
theorem RwsF.rws {S : Nat → Prop} {w : World} {v : Value} {ls : List (List UInt8)} (h : RwsF S w v ls) : Rws w v ls := by
 obtain ⟨us, h1, _, h2⟩ := h
 exact ⟨us, h1, fun i hi => by obtain ⟨u, e, hu, _⟩ := h2 i hi; exact ⟨u, e, hu⟩⟩
theorem Sho.chgF {S T : Nat → Prop} {w w1 : World} {v : Value} {n k : Nat} {cs : List Value} (h : Sho w v n k cs) (hf : 0 < n → ∀ g, v.ownBlock = some g → S g) (hc : Chg w w1 T) (hS : ∀ g, S g → ¬ T g) : Sho w1 v n k cs := by
 rcases Nat.eq_zero_or_pos n with h0 | h0
 ·subst h0
  obtain ⟨A, c, rfl⟩ := h.form
  have : cs = [] := List.length_eq_zero_iff.1 (by simpa using h.1)
  subst this
  exact Sho.empty w1 k A c
 ·exact h.chg hc (fun g hg => hS g (hf h0 g hg))
theorem RwsF.chg {S T : Nat → Prop} {w w1 : World} {v : Value} {ls : List (List UInt8)} (h : RwsF S w v ls) (hc : Chg w w1 T) (hS : ∀ g, S g → ¬ T g) : RwsF S w1 v ls := by
 obtain ⟨us, h1, hf, h2⟩ := h
 exact ⟨us, h1.chgF hf hc hS, hf, fun i hi => by obtain ⟨u, e, hu, hn⟩ := h2 i hi; exact ⟨u, e, Sho.chgF hu hn hc hS, hn⟩⟩
theorem RwsF.mono {S T : Nat → Prop} {w : World} {v : Value} {ls : List (List UInt8)} (h : RwsF S w v ls) (hS : ∀ g, S g → T g) : RwsF T w v ls := by
 obtain ⟨us, h1, hf, h2⟩ := h
 exact ⟨us, h1, fun h0 g hg => hS g (hf h0 g hg), fun i hi => by obtain ⟨u, e, hu, hn⟩ := h2 i hi; exact ⟨u, e, hu, fun h0 g hg => hS g (hn h0 g hg)⟩⟩
theorem OwnR.foot {w : World} {base : Nat} {v : Value} {ls : List (List UInt8)} (h : OwnR w base v ls) : RwsF (fun g => base ≤ g ∧ g < w.heap.size) w v ls := by
 have h' := h
 obtain ⟨us, h1, h2⟩ := h
 refine ⟨us, Sho.own h1, fun _ g hg => ⟨h'.ge hg, h'.lt hg⟩, fun i hi => ?_⟩
 obtain ⟨u, e, hu, hn⟩ := h2 i hi
 exact ⟨u, e, hu, fun h0 g hg => ⟨(hn h0).2 g hg, Sho.lt hu h0 g hg⟩⟩
theorem info_bytes : (Tryz.prog.info? 26).map (fun i => (i.zero, i.size, i.bytes)) = some (some (.slice none 0 0), 1, 24) := by kernel_rfl
theorem flat_take (ls : List (List UInt8)) (k : Nat) (h : k < ls.length) : (ls.take (k + 1)).flatten = (ls.take k).flatten ++ ls[k] := by
 rw [List.take_succ_eq_append_getElem h, List.flatten_append, List.flatten_cons, List.flatten_nil, List.append_nil]
theorem flat_le (ls : List (List UInt8)) (k : Nat) : (ls.take k).flatten.length ≤ ls.flatten.length := by
 conv => rhs; rw [← List.take_append_drop k ls, List.flatten_append, List.length_append]
 omega
theorem bys_u8 (b : UInt8) (t : Int) (h : ((b.toNat : Nat) : Int) = t) : bys [b] = [.int .u8 t] := by subst h; rfl
set_option linter.unusedSimpArgs false
theorem Sho.none {w : World} {n k c : Nat} {cs : List Value} (h : Sho w (.slice Option.none n c) n k cs) : n = 0 := by
 rcases Nat.eq_zero_or_pos n with h0 | h0
 ·exact h0
 ·obtain ⟨g, o, e, _⟩ := h.place h0
  cases e
set_option maxHeartbeats 1000000 in
theorem eqnil_bytes (w : World) (a : Option Addr) (n c n' c' : Nat) : (binOp .eql 26 (.slice a n c) (.slice none n' c')).run Tryz.prog w = .ok (.bool a.isNone) w := Lib.run_eql_slice_nil w _ _ a n c n' c' Tryz.underlying26
set_option maxRecDepth 100000 in
theorem clone_any (v : Value) (l : List UInt8) (hsm : l.length ≤ 1000000000000) (w : World) (hx : Bys w v l) :
  Calls Tryz.prog 49 #[v] w fun e w' => ∃ v', e = .returned v' ∧ OwnB w' w.heap.size v' l ∧ Below w.heap.size w w' := by
 obtain ⟨i0, hi0, hz0, hz1, hz2⟩ := info_parts info_u8
 obtain ⟨A, c, rfl⟩ := hx.form
 cases A with
 | none =>
  have h0 := Sho.none hx
  have HL := Lib.hid (List.length_eq_zero_iff.1 h0)
  have qn := eqnil_bytes
  go_enter Tryz.func49, Tryz.ntmps49
  go_wp2
  go_ret
  exact ⟨_, rfl, by rw [HL.out]; exact World.ownsRow_nil _ _ _ _, Below.refl _ _⟩
 | some a =>
  have HX := Lib.hid (hx.below ((Below.refl w.heap.size w).alloc (Nat.le_refl _) (.cells #[] 5)))
  have HNB : Hid (Blk (w.alloc (.cells #[] 5)) w.heap.size 5 []) := Lib.hid (Blk.new w 5 [])
  clear hx
  have qn := eqnil_bytes
  go_enter Tryz.func49, Tryz.ntmps49
  go_wp2_with (at_builtin; (refine wpList_append_any rfl (.tmp 5) (.tmp 6) 26 rfl w.heap.size 5 i0 (.int .u8 0) 1 1 Tryz.underlying26 hi0 hz0 hz1 hz2 rfl (by decide) _ 0 [] rfl (own_none HNB.out (Nat.le_refl _)) _ l.length (bys l) rfl HX.out.news (by unfold maxLen; omega) (by omega) (by simp) ?_); intro v2 W2 hown2 hgrow2; have HB2 : Hid (Below w.heap.size w W2) := Lib.hid (((Below.refl w.heap.size w).alloc (Nat.le_refl _) _).grown hgrow2 (by simp) (fun k e => by have e' : some w.heap.size = some k := e; injection e' with e'; omega)); have HO2 : Hid (OwnB W2 w.heap.size v2 l) := Lib.hid (by unfold OwnB; simpa only [Nat.zero_add, List.nil_append] using hown2); clear hown2 hgrow2)
  go_ret
  exact ⟨_, rfl, HO2.out, HB2.out⟩
theorem run_string_bys (w : World) (v : Value) (l : List UInt8) (h : Bys w v l) : (convert 26 9 v).run Tryz.prog w = .ok (.string ⟨l.toArray⟩) w := by
 obtain ⟨A, c, rfl⟩ := h.form
 rcases Nat.eq_zero_or_pos l.length with h0 | h0
 ·have hl : l = [] := List.length_eq_zero_iff.1 h0
  subst hl
  cases A with
  | none => exact Lib.run_convert_nil_bytes w _ _ _ c Tryz.underlying26 Tryz.underlying5 Tryz.underlying9
  | some a => exact run_convert_bytes_back w _ _ _ a c [] Tryz.underlying26 Tryz.underlying5 Tryz.underlying9 (fun j hj => absurd hj (Nat.not_lt_zero _))
 ·obtain ⟨g, o, rfl, -, -, -, -, hc⟩ := h.place h0
  exact run_convert_bytes_back w _ _ _ ⟨g, o, none⟩ c l Tryz.underlying26 Tryz.underlying5 Tryz.underlying9 (fun j hj => by rw [Go.WideShapes.add_plain]; exact hc j hj)
set_option maxRecDepth 100000 in
theorem equal_any (u v : Value) (l m : List UInt8) (w : World) (hu : Bys w u l) (hv : Bys w v m) :
  Calls Tryz.prog 72 #[u, v] w fun e w' => e = .returned (.bool (l == m)) ∧ w = w' := by
 have c1 := run_string_bys w u l hu
 have c2 := run_string_bys w v m hv
 clear hu hv
 go_enter Tryz.func72, Tryz.ntmps72
 go_wp2
 go_ret
 exact ⟨rfl, rfl⟩
theorem same_bytes (u v : Value) (l m : List UInt8) (w : World) (hu : Bys w u l) (hv : Bys w v m) :
  Calls Tryz.prog 47 #[u, v] w fun e w' => e = .returned (.bool (l == m)) ∧ w = w' := by
 have H := Lib.hid (equal_any u v l m w hu hv)
 clear hu hv
 go_enter Tryz.func47, Tryz.ntmps47
 go_wp2_with fail
 refine H.out.mono ?_
 rintro e w' ⟨rfl, rfl⟩
 go_wp2
 go_ret
 exact ⟨rfl, rfl⟩
end Go.Proofs.YtlkgeifmppadmaaGreat
namespace Go.Proofs.YtlkgeifmppadmaaGreat
open Go.RowKit Go.Shelf
attribute [local go_sem] Oper.semAt_some
set_option linter.unusedVariables false
set_option linter.unusedSimpArgs false

set_option maxHeartbeats 1000000 in
theorem chunk_any (A : Option Addr) (len cap : Nat) (w : World) :
  Calls Tryz.prog 106 #[.slice A len cap, .int .i64 64] w fun e w' => e = .returned (.func (.func 108) #[] #[.pointer (some ⟨w.heap.size, 0, none⟩), .pointer (some ⟨w.heap.size + 1, 0, none⟩)]) ∧ w' = (w.alloc (.cells #[.slice A len cap] 26)).alloc (.cells #[.int .i64 64] 3) := by
 have hk := blk2 w [.slice A len cap] [.int .i64 64] 26 3 _ rfl
 have c0 := hk.2.2.cell 0 _ rfl
 clear hk
 go_enter Tryz.func106, Tryz.ntmps106
 go_wp2
 go_ret
 exact ⟨rfl, rfl⟩
def fins (m k : Nat) : List (Fin m) := (List.finRange m).take k
theorem fins_succ {m k : Nat} (h : k < m) : fins m (k + 1) = fins m k ++ [⟨k, h⟩] := by
 unfold fins
 rw [List.take_succ_eq_append_getElem (by simpa using h)]
 simp
theorem fins_length {m k : Nat} (h : k ≤ m) : (fins m k).length = k := by
 unfold fins
 rw [List.length_take, List.length_finRange]
 omega
theorem chunk_stops (F : Fence) (n : Nat) (hF : F.fn 108) (hro : F.round = none) (hn : 1 ≤ n) (Bs Bn n₀ h g m cap : Nat) (hm : 64 * m ≤ cap) (hcap : cap ≤ maxLen) (hsm : 64 * m < 100000000000000) (hBs0 : Bs < n₀) (hBs1 : Bs ≠ h) (hBn0 : Bn < n₀) (hBn1 : Bn ≠ h) (w : World) (hn₀ : n₀ ≤ w.heap.size)
  (hBs : w.cell? ⟨Bs, 0, none⟩ = some (.slice (some ⟨g, 0, none⟩) (64 * m : Nat) cap)) (hBn : w.cell? ⟨Bn, 0, none⟩ = some (.int .i64 64)) :
  SeqStopsK F n Tryz.prog 108 #[.pointer (some ⟨Bs, 0, none⟩), .pointer (some ⟨Bn, 0, none⟩)] (fun x : Fin m => #[Value.slice (some ⟨g, 64 * x.val, none⟩) 64 64]) (BelX n₀ h) (fun ys => ys = fins m m) (fun pre => True) m w := fun lp J Jx W hW hJ _ hY h0 => by
 refine (chunk1_in F n hF hro hn lp Bs Bn n₀ h g m cap hm hcap hsm hBs0 hBs1 hBn0 hBn1 (fun k W => J (fins m k) W) (fun k W => Jx (fins m k) W) W (Nat.le_trans hn₀ hW.size) (fun s X Y row hs hg hr => hJ _ X Y row hs hg hr)
  (fun x W' hj hx => ?_) ((hW.cell (p := ⟨Bs, 0, none⟩) (Nat.lt_of_lt_of_le hBs0 hn₀)).trans hBs) ((hW.cell (p := ⟨Bn, 0, none⟩) (Nat.lt_of_lt_of_le hBn0 hn₀)).trans hBn) h0).mono ?_
 ·have := hY (fins m x) ⟨x, hx⟩ W' hj (by rw [fins_length (by omega)]; exact hx)
  rw [fins_succ hx]
  exact this
 ·rintro e W' ⟨he, h | ⟨k, _, h⟩⟩
  ·exact ⟨he, .inl ⟨_, rfl, h⟩⟩
  ·exact ⟨he, .inr ⟨_, trivial, h⟩⟩
end Go.Proofs.YtlkgeifmppadmaaGreat

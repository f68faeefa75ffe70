/- Words of this session over the model's worlds: which blocks a call has turned. No program in sight. Conditions: none. -/
import Derived.Below
import Derived.Deep.Draws
import Derived.OwnWalk
import Derived.Laws.OwnMore
import Derived.WalkKit
import Derived.WalkSmall
import Derived.Lib.Hide
import Derived.ChangeKeysEq
import Derived.Laws.Entries
import Derived.Laws.CopyRow
import Derived.Lib.SliceRun
namespace Go.Proofs.Ytlccileccmiomaa
open Go.RowKit
set_option linter.unusedVariables false

/-- From w to w' no block has turned but those of S, and new ones. -/
structure Chg (w w' : World) (S : Nat → Prop) : Prop where
  os : w'.os = w.os
  tape : w'.tape = w.tape
  output : w'.output = w.output
  size : w.heap.size ≤ w'.heap.size
  block : ∀ k, k < w.heap.size → ¬ S k → w'.heap[k]? = w.heap[k]?
namespace Chg
variable {w w1 w2 : World} {S T : Nat → Prop}
theorem refl (w : World) (S : Nat → Prop) : Chg w w S := ⟨rfl, rfl, rfl, Nat.le_refl _, fun _ _ _ => rfl⟩
theorem mono (h : Chg w w1 S) (hS : ∀ k, k < w.heap.size → S k → T k) : Chg w w1 T := ⟨h.os, h.tape, h.output, h.size, fun k hk hn => h.block k hk (fun hs => hn (hS k hk hs))⟩
theorem trans (h : Chg w w1 S) (k : Chg w1 w2 T) (hT : ∀ i, i < w.heap.size → T i → S i) : Chg w w2 S :=
  ⟨k.os.trans h.os, k.tape.trans h.tape, k.output.trans h.output, Nat.le_trans h.size k.size, fun i hi hn => (k.block i (Nat.lt_of_lt_of_le hi h.size) (fun ht => hn (hT i hi ht))).trans (h.block i hi hn)⟩
theorem of_below (h : Below w.heap.size w w1) : Chg w w1 S := ⟨h.os, h.tape, h.output, h.size, fun k hk _ => h.block k hk⟩
theorem below {B : Nat} (h : Chg w w1 S) (hB : B ≤ w.heap.size) (hS : ∀ k, S k → B ≤ k) : Below B w w1 := ⟨h.os, h.tape, h.output, h.size, fun k hk => h.block k (by omega) (fun hs => by have := hS k hs; omega)⟩
theorem belowW (h : Chg w w1 (fun _ => False)) : Below w.heap.size w w1 := h.below (Nat.le_refl _) (fun _ hk => hk.elim)
theorem of_grown {row : Option Nat} (h : w.grownBy w1 row) : Chg w w1 (fun k => some k = row) := ⟨h.os, h.tape, h.output, h.size, fun k hk hn => h.block k hk hn⟩
theorem drew (h : Chg w w1 S) : Chg w w1.drew S := ⟨h.os, h.tape, h.output, h.size, h.block⟩
theorem drewN (h : Chg w w1 S) (n : Nat) : Chg w (w1.drewN n) S := ⟨h.os, h.tape, h.output, h.size, h.block⟩
theorem alloc (h : Chg w w1 S) (o : Obj) : Chg w (w1.alloc o) S := h.trans (of_below ((Below.refl _ _).alloc (Nat.le_refl _) o)) (T := fun _ => False) (fun _ _ h => h.elim)
theorem setCell (h : Chg w w1 S) (p : Addr) (v : Value) (hp : p.block < w.heap.size → S p.block) : Chg w (w1.setCell p v) S :=
  h.trans (T := fun k => k = p.block) ⟨rfl, rfl, rfl, by simp, fun k _ hk => Below.heap_setCell w1 p v k hk⟩ (fun i hi he => by subst he; exact hp hi)
theorem cell (h : Chg w w1 S) {a : Addr} (ha : a.block < w.heap.size) (hn : ¬ S a.block) : w1.cell? a = w.cell? a := World.cell?_of_block (h.block _ ha hn)
theorem frozen (h : Chg w w1 S) {a : Addr} (ha : a.block < w.heap.size) (hn : ¬ S a.block) : w1.frozen? a = w.frozen? a := World.frozen?_of_block (h.block _ ha hn)
end Chg

theorem blk_set (w : World) (g i : Nat) (cs : Array Value) (t : TypeId) (v : Value) (hg : w.heap[g]? = some (.cells cs t (0, 0))) :
    (w.setCell ⟨g, i, none⟩ v).heap[g]? = some (.cells (cs.setIfInBounds i v) t (0, 0)) := by
  simp [World.setCell, Array.getElem?_modify, hg]
theorem blk_new (w : World) (o : Obj) : (w.alloc o).heap[w.heap.size]? = some o := by
  show (w.heap.push o)[w.heap.size]? = _
  simp
/-- A block known whole. -/
def Blk (w : World) (b : Nat) (t : TypeId) (cs : List Value) : Prop := w.heap[b]? = some (.cells cs.toArray t (0, 0))
namespace Blk
variable {w w1 : World} {b : Nat} {t : TypeId} {cs : List Value} {S : Nat → Prop}
theorem lt (h : Blk w b t cs) : b < w.heap.size := (Array.getElem?_eq_some_iff.1 h).1
theorem cell (h : Blk w b t cs) (j : Nat) (u : Value) (hj : cs[j]? = some u) : w.cell? ⟨b, j, none⟩ = some u := by
  unfold Blk at h
  simp [World.cell?, h, hj]
theorem free (h : Blk w b t cs) (j : Nat) : w.frozen? ⟨b, j, none⟩ = false := by
  unfold Blk at h
  simp [World.frozen?, h]
theorem chg (h : Blk w b t cs) (hc : Chg w w1 S) (hn : ¬ S b) : Blk w1 b t cs := (hc.block b h.lt hn).trans h
theorem below (h : Blk w b t cs) (hc : Below w.heap.size w w1) : Blk w1 b t cs := (hc.block b h.lt).trans h
theorem alloc (h : Blk w b t cs) (o : Obj) : Blk (w.alloc o) b t cs := h.below ((Below.refl _ _).alloc (Nat.le_refl _) o)
theorem drewN (h : Blk w b t cs) (n : Nat) : Blk (w.drewN n) b t cs := h
theorem drew (h : Blk w b t cs) : Blk w.drew b t cs := h
theorem new (w : World) (t : TypeId) (cs : List Value) : Blk (w.alloc (.cells cs.toArray t)) w.heap.size t cs := by
  unfold Blk
  exact blk_new w _
theorem set (h : Blk w b t cs) (j : Nat) (v : Value) (hj : j < cs.length) : Blk (w.setCell ⟨b, j, none⟩ v) b t (cs.set j v) := by
  have e : (cs.toArray.setIfInBounds j v) = (cs.set j v).toArray := by simp
  have h2 := blk_set w b j cs.toArray t v h
  rw [e] at h2
  exact h2
theorem grown {row : Option Nat} (h : Blk w b t cs) (hg : w.grownBy w1 row) (hne : some b ≠ row) : Blk w1 b t cs := (hg.block b h.lt hne).trans h
theorem setOther (h : Blk w b t cs) (p : Addr) (v : Value) (hp : b ≠ p.block) : Blk (w.setCell p v) b t cs := (Below.heap_setCell w p v b hp).trans h
end Blk
/-- A value method found through a pointer. -/
theorem method_through {P : Program} {t e f : Nat} {name : String} (hf : (P.info? t).bind (fun i => (i.methods.find? (·.name == name)).map (fun m => (m.path, m.func))) = some (#[], some (f, false))) (hu : P.underlying t = some (.pointer e))
    (d : Nat) (a : Addr) (v : Value) (w : World) (h : (loadVar e a).run P w = .ok v w) : (method (d + 1) t (.pointer (some a)) name).run P w = .ok (f, v) w := by
  obtain ⟨i, hi, hf⟩ := Option.bind_eq_some_iff.1 hf
  obtain ⟨m, hm, hp⟩ := Option.map_eq_some_iff.1 hf
  simp only [Prod.mk.injEq] at hp
  obtain ⟨h1, h2⟩ := hp
  have hti : (typeInfo t).run P w = .ok i w := run_typeInfo (w := w) hi
  rw [method]
  simp only [Sem.run_bind, hti, Result.andThen_ok, hm, h1, h2]
  have hw : ∀ x y, Builtin.ssaWrapNilChk_ #[t] t #[.pointer (some a), strVal x, strVal y] = pure (.pointer (some a)) := fun _ _ => rfl
  have hus : (underlying t).run P w = .ok (.pointer e) w := run_underlying hu w
  unfold receiverAt
  simp only [follow, Sem.run_bind, Sem.run_pure, Result.andThen_ok, hus, Place.get, Array.isEmpty_empty, if_true, hw, asAddr, h]

/-- 'clear' on a slice of structs. -/
theorem run_clear_at {P : Program} (w : World) (t e ty : TypeId) (z : Value) (ht : P.underlying t = some (.slice e)) (hv : ∀ w, (zeroValue e).run P w = .ok z w) (h1 : ∀ v ∈ z.cells.toList, v.oneCell' = true) (g o n c : Nat) (hn : 0 < n) (te : TypeId) (cs : List Value) (hb : Blk w g te cs) (ho : o + n * z.cells.size ≤ cs.length) :
    (Builtin.clear_ #[t] ty #[.slice (some ⟨g, o, none⟩) n c]).run P w = .ok (.tuple #[]) (w.setRow g (cs.take o ++ (Builtin.zeroCells z.cells n).toList ++ cs.drop (o + n * z.cells.size)).toArray) := by
  have hlen : (Builtin.zeroCells z.cells n).toList.length = n * z.cells.size := by simp [Builtin.zeroCells]
  have hall : ∀ v ∈ (Builtin.zeroCells z.cells n).toList, v.oneCell' = true := by
    intro v hv
    unfold Builtin.zeroCells at hv
    simp only [Array.toList_map, List.mem_map] at hv
    obtain ⟨i, hi, rfl⟩ := hv
    have hi2 : i < n * z.cells.size := by simpa using hi
    have hpos : 0 < z.cells.size := by rcases Nat.eq_zero_or_pos z.cells.size with h | h; · rw [h] at hi2; omega
                                       · exact h
    refine h1 _ ?_
    have hm : i % z.cells.size < z.cells.size := Nat.mod_lt _ hpos
    rw [getElem!_pos z.cells _ hm]
    exact Array.getElem_mem_toList hm
  have hst := run_storeCells_at (P := P) g o te (Builtin.zeroCells z.cells n).toList 0 cs.toArray w hb (by rw [hlen]; simpa using ho) hall
  simp only [Nat.add_zero, hlen] at hst
  obtain ⟨m, rfl⟩ : ∃ m, n = m + 1 := ⟨n - 1, by omega⟩
  simp [Builtin.clear_, run_underlying ht, hv, hst]
theorem blk_setRow {w : World} {g : Nat} {te : TypeId} {cs : List Value} (hb : Blk w g te cs) (cs' : List Value) : Blk (w.setRow g cs'.toArray) g te cs' := setRow_heap w g cs.toArray cs'.toArray te (0, 0) hb
theorem chg_setRow (w : World) (g : Nat) (cs : Array Value) : Chg w (w.setRow g cs) (fun k => k = g) := by
  refine ⟨rfl, rfl, rfl, by simp [World.setRow], fun k _ hk => ?_⟩
  simp only [World.setRow, Array.getElem?_modify]
  rw [if_neg (fun e => hk e.symm)]

theorem grownBy_setCell (w : World) (p : Addr) (v : Value) : w.grownBy (w.setCell p v) (some p.block) := ⟨rfl, rfl, rfl, by simp, fun k _ hk => Below.heap_setCell w p v k (fun e => hk (by rw [e]))⟩
/-- A store into another block. -/
theorem ownsRow_set {w : World} {base : Nat} {e : TypeId} {size n : Nat} {v : Value} {xs : List Value} (h : w.ownsRow base e size v n xs) (p : Addr) (u : Value) (hne : v.ownBlock ≠ some p.block) : (w.setCell p u).ownsRow base e size v n xs :=
  h.kept (grownBy_setCell w p u) (.inr hne)
theorem ownsRow_chg {w w1 : World} {base : Nat} {e : TypeId} {size n : Nat} {v : Value} {xs : List Value} {S : Nat → Prop} (h : w.ownsRow base e size v n xs) (hc : Chg w w1 S) (hn : ∀ k, v.ownBlock = some k → ¬ S k) : w1.ownsRow base e size v n xs := by
  obtain ⟨h1, h2⟩ := h
  refine ⟨h1, ?_⟩
  rcases h2 with h2 | ⟨g, cap, cur, rfl, hg, hh, r⟩
  · exact .inl h2
  · have hlt : g < w.heap.size := (Array.getElem?_eq_some_iff.1 hh).1
    exact .inr ⟨g, cap, cur, rfl, hg, (hc.block g hlt (hn g rfl)).trans hh, r⟩
end Go.Proofs.Ytlccileccmiomaa

/- SHA-256 as a plain function. slices.Chunk at bytes, 64 at a time. Rows of bytes in memory. slices.Clone at bytes; bytes.Equal, hash.Same. slices.Chunk at bytes: the iterator, and its stops. The reference's SHA-256. Conditions: as each theorem states them. -/
import Derived.Test.YtlkgeifmppadmaaGreatKa
import Derived.RangeFuncNested
import Derived.RangeFuncBox
import Derived.RangeFuncLeaves
import Derived.RangeFuncCalls
import Derived.Shelf.Abstract
import Derived.WalkKit
import Derived.OwnWalkIn
import Derived.TacticsInMore
import Derived.LoopNIn
import Derived.LoopIn
import Derived.Maps.AppendAt
import Derived.WalkSpells
import Derived.Lib.ConvBytes
import Derived.Lib.BufferRead
import Derived.Laws.CopyRow
namespace Go.Proofs.YtlkgeifmppadmaaGreat
open Go.RowKit
set_option linter.unusedVariables false

def shaH : List Int := [1779033703, 3144134277, 1013904242, 2773480762, 1359893119, 2600822924, 528734635, 1541459225]
def shaRun (s : List Int) (f : List UInt8) : Nat → List Int
  | 0 => s
  | n + 1 => mixF shaK (shaRun s f n) ((f.drop (64 * n)).take 64)
theorem shaRun_length (s : List Int) (f : List UInt8) (h : s.length = 8) (n : Nat) : (shaRun s f n).length = 8 := by
  induction n with
  | zero => exact h
  | succ n ih => exact mixF_length _ _ _ ih
theorem shaRun_more (s : List Int) (f g : List UInt8) : ∀ n, 64 * n ≤ f.length → shaRun s (f ++ g) n = shaRun s f n
  | 0, _ => rfl
  | n + 1, h => by
    show mixF shaK (shaRun s (f ++ g) n) _ = mixF shaK (shaRun s f n) _
    rw [shaRun_more s f g n (by omega), List.drop_append_of_le_length (by omega), List.take_append_of_le_length (by rw [List.length_drop]; omega)]
def zn (n : Nat) : Nat := (119 - n % 64) % 64
theorem zn_at (n : Nat) : (n + 1 + zn n) % 64 = 56 := by unfold zn; omega
theorem zn_first (n j : Nat) (h : (n + 1 + j) % 64 = 56) (hj : j ≤ zn n) : j = zn n := by unfold zn at *; omega
def lens (n : Nat) : Nat → List UInt8
  | 0 => []
  | j + 1 => lens n j ++ [ub ((n : Int) * 8 / (2 ^ (8 * (7 - j)) : Nat))]
theorem lens_length (n j : Nat) : (lens n j).length = j := by
  induction j with
  | zero => rfl
  | succ j ih => show (lens n j ++ [_]).length = _; rw [List.length_append, ih]; rfl
def pad (l : List UInt8) (j : Nat) : List UInt8 := l ++ 128 :: List.replicate j 0
theorem pad_length (l : List UInt8) (j : Nat) : (pad l j).length = l.length + 1 + j := by simp [pad]; omega
theorem pad_succ (l : List UInt8) (j : Nat) : pad l (j + 1) = pad l j ++ [0] := by
  unfold pad
  rw [List.append_assoc, List.cons_append, ← List.replicate_succ']
def full (l : List UInt8) : List UInt8 := pad l (zn l.length) ++ lens l.length 8
theorem full_length (l : List UInt8) : (full l).length = l.length + 1 + zn l.length + 8 := by unfold full; rw [List.length_append, pad_length, lens_length]
theorem full_cut (l : List UInt8) : (full l).length % 64 = 0 := by
  rw [full_length]
  have := zn_at l.length
  omega
def be4 (x : Int) : List UInt8 := [ub (x / 16777216), ub (x / 65536), ub (x / 256), ub x]
def outs (s : List Int) : Nat → List UInt8
  | 0 => []
  | j + 1 => outs s j ++ be4 (s.getD j 0)
theorem outs_length (s : List Int) (j : Nat) : (outs s j).length = 4 * j := by
  induction j with
  | zero => rfl
  | succ j ih => show (outs s j ++ be4 _).length = _; rw [List.length_append, ih]; rfl
/-- SHA-256. -/
def sha (l : List UInt8) : List UInt8 := outs (shaRun shaH (full l) ((full l).length / 64)) 8
theorem sha_length (l : List UInt8) : (sha l).length = 32 := outs_length _ _
theorem bys_be4 (x : Int) : bys (be4 x) = [.int .u8 (x / 16777216 % 256), .int .u8 (x / 65536 % 256), .int .u8 (x / 256 % 256), .int .u8 (x % 256)] := by
  simp only [bys, be4, List.map_cons, List.map_nil, ub_val]
end Go.Proofs.YtlkgeifmppadmaaGreat
namespace Go.Proofs.YtlkgeifmppadmaaGreat
open Go.RowKit Go.Shelf
attribute [local go_sem] Oper.semAt_some
set_option linter.unusedVariables false
set_option linter.unusedSimpArgs false

/-- All blocks below n stand, but for the block h. -/
structure BelX (n h : Nat) (w w' : World) : Prop where
  os : w'.os = w.os
  tape : w'.tape = w.tape
  output : w'.output = w.output
  size : w.heap.size ≤ w'.heap.size
  block : ∀ k, k < n → k ≠ h → w'.heap[k]? = w.heap[k]?
namespace BelX
variable {n h : Nat} {w w1 w2 : World}
theorem refl (n h : Nat) (w : World) : BelX n h w w := ⟨rfl, rfl, rfl, Nat.le_refl _, fun _ _ _ => rfl⟩
theorem trans (a : BelX n h w w1) (b : BelX n h w1 w2) : BelX n h w w2 := ⟨b.os.trans a.os, b.tape.trans a.tape, b.output.trans a.output, Nat.le_trans a.size b.size, fun k hk hn => (b.block k hk hn).trans (a.block k hk hn)⟩
theorem drew (a : BelX n h w w1) : BelX n h w w1.drew := ⟨a.os, a.tape, a.output, a.size, a.block⟩
theorem cell (a : BelX n h w w1) {p : Addr} (hp : p.block < n) (hn : p.block ≠ h) : w1.cell? p = w.cell? p := World.cell?_of_block (a.block _ hp hn)
theorem of_below {n' : Nat} (a : Below n' w w1) (hn : n ≤ n') : BelX n h w w1 := ⟨a.os, a.tape, a.output, a.size, fun k hk _ => a.block k (Nat.lt_of_lt_of_le hk hn)⟩
end BelX
theorem belX_b {n h : Nat} {w : World} (hn : n ≤ w.heap.size) (W : World) (l : Nat) (o o' : Obj) (hl : w.heap.size ≤ l) (hh : W.heap[l]? = some o) (h1 : o.isCells = false) (h2 : o.isWalk = false) : BelX n h W (W.putObj l o') :=
  .of_below (belowK_b (n₀ := n) hn W l o o' hl hh h1 h2) (Nat.le_refl _)
theorem range_snoc (k : Nat) : List.range (k + 1) = List.range k ++ [k] := List.range_succ
theorem range_pre {k m : Nat} (h : k ≤ m) : List.range k <+: List.range m := by
  obtain ⟨d, rfl⟩ : ∃ d, m = k + d := ⟨m - k, by omega⟩
  rw [List.range_add]
  exact List.prefix_append _ _
theorem grown_drew0 (w : World) : w.grownBy w.drew none := ⟨rfl, rfl, rfl, Nat.le_refl _, fun _ _ _ => rfl⟩

set_option maxRecDepth 100000 in
set_option maxHeartbeats 2000000 in
theorem chunk1_in (F : Fence) (n : Nat) (hF : F.fn 108) (hro : F.round = none) (hn : 1 ≤ n) (lp Bs Bn n₀ h g m cap : Nat) (hm : 64 * m ≤ cap) (hcap : cap ≤ maxLen) (hsm : 64 * m < 100000000000000) (hBs0 : Bs < n₀) (hBs1 : Bs ≠ h) (hBn0 : Bn < n₀) (hBn1 : Bn ≠ h) (J Jx : Nat → World → Prop)
    (W : World) (hn₀ : n₀ ≤ W.heap.size) (hJ : AbidesFrom W.heap.size J)
    (hY : ∀ x W, J x W → x < m → YieldAt F (n - 1) Tryz.prog lp #[.slice (some ⟨g, 64 * x, none⟩) 64 64] W fun e W' =>
      (e = .returned (.bool true) ∧ J (x + 1) W' ∧ BelX n₀ h W W') ∨ (e = .returned (.bool false) ∧ Jx (x + 1) W'))
    (hBs : W.cell? ⟨Bs, 0, none⟩ = some (.slice (some ⟨g, 0, none⟩) (64 * m : Nat) cap)) (hBn : W.cell? ⟨Bn, 0, none⟩ = some (.int .i64 64)) (h0 : J 0 W) :
    CallsIn F n Tryz.prog 108 #[.func (.yield lp) #[] #[], .pointer (some ⟨Bs, 0, none⟩), .pointer (some ⟨Bn, 0, none⟩)] W fun e W' => (∃ v, e = .returned v) ∧
      (J m W' ∨ (∃ k, k ≤ m ∧ Jx k W')) := by
  refine callsIn_of_wp Tryz.func108 rfl hF ?_ hro
  simp only [Tryz.ntmps108, List.size_toArray, List.length_cons, List.length_nil, Nat.reduceAdd, Nat.reduceSub, Array.replicate_succ, Array.replicate_zero, List.push_toArray, List.append_toArray, List.nil_append, List.cons_append]
  gi_wp2
  gi_loopw [4] (fun i wr => ∃ k : Nat, k ≤ m ∧ i = .int .i64 (64 * k) ∧ Hid (J k wr ∧ BelX n₀ h W wr))
    (fun i _ => 64 * m - (intOf i).toNat)
  case atStart => exact ⟨0, Nat.zero_le _, rfl, Lib.hid ⟨h0, BelX.refl _ _ _⟩⟩
  case round =>
    obtain ⟨k, hk, rfl, HI⟩ := hrel
    have p0 := (HI.out.2.cell (p := ⟨Bs, 0, none⟩) hBs0 hBs1).trans hBs
    have p1 := (HI.out.2.cell (p := ⟨Bn, 0, none⟩) hBn0 hBn1).trans hBn
    by_cases hlt : k < m
    · have y1 : (64 : Int) * (k : Int) < ((64 * m : Nat) : Int) := by omega
      have y2 : (0 : Int) ≤ 64 * (k : Int) := by omega
      have y3 : (64 : Int) ≤ ((64 * m : Nat) : Int) - 64 * (k : Int) := by omega
      have et : (64 * (k : Int)).toNat = 64 * k := by omega
      have ec : ¬ cap = 64 * k := by omega
      have el : ¬ (((64 * m - 64 * k : Nat) : Int) < 64) := by omega
      have ew : IntKind.i64.wrap (64 * (k : Int) + 64) = 64 * (k : Int) + 64 := IntWalk.i64_in _ (by omega)
      have et2 : (64 * (k : Int) + 64).toNat = 64 * k + 64 := by omega
      have es : 64 * k + 64 - 64 * k = 64 := by omega
      have eb : (64 : Int) * (k : Int) + 64 ≤ (cap : Int) := by omega
      have ez : ¬ (64 = 0) := by decide
      have e9 : ¬ (64 * k + 64 = 64 * k) := by omega
      have hJ2 : J k wr.drew := hJ _ _ _ none HI.out.1 (grown_drew0 _) (fun r e => by cases e)
      obtain ⟨fn, tmps, assign, body, hy, hR⟩ := hY k _ hJ2 hlt
      clear hJ2
      gi_wp2
      gi_region
      all_goals
        gi_wp2
        refine hR.mono ?_
        rintro e W3 (⟨rfl, hJ3, hk3⟩ | ⟨rfl, hJx3⟩)
        · have HJ3 := Lib.hid (And.intro hJ3 hk3)
          have p2 := ((HI.out.2.drew.trans hk3).cell (p := ⟨Bn, 0, none⟩) hBn0 hBn1).trans hBn
          clear hJ3 hk3
          gi_wp2
          go_roundw
          case rel => exact ⟨k + 1, by omega, by go_num, Lib.hid ⟨HJ3.out.1, HI.out.2.drew.trans HJ3.out.2⟩⟩
          case measure => simp [intOf]; omega
        · have HJ3 := Lib.hid hJx3
          clear hJx3
          gi_wp2
          refine bodyPost_ret (results_none rfl _ _ _) rfl ?_
          exact ⟨⟨_, rfl⟩, .inr ⟨_, by omega, HJ3.out⟩⟩
    · obtain rfl : k = m := by omega
      gi_wp2
      go_end0
      exact ⟨⟨_, rfl⟩, .inl HI.out.1⟩
end Go.Proofs.YtlkgeifmppadmaaGreat
namespace Go.Proofs.YtlkgeifmppadmaaGreat
open Go.RowKit
set_option linter.unusedVariables false

/-- The slice v shows the texts ls. -/
def Rws (w : World) (v : Value) (ls : List (List UInt8)) : Prop := ∃ us : List Value, Sho w v ls.length 1 us ∧ ∀ i (h : i < ls.length), ∃ u, us[i]? = some u ∧ Bys w u ls[i]
namespace Rws
variable {w w1 : World} {v : Value} {ls : List (List UInt8)}
theorem form (h : Rws w v ls) : ∃ A c, v = .slice A ls.length c := by
  obtain ⟨us, h1, _⟩ := h
  exact h1.form
theorem below (h : Rws w v ls) (hb : Below w.heap.size w w1) : Rws w1 v ls := by
  obtain ⟨us, h1, h2⟩ := h
  exact ⟨us, h1.below hb, fun i hi => by obtain ⟨u, e, hu⟩ := h2 i hi; exact ⟨u, e, hu.below hb⟩⟩
/-- One of them. -/
theorem at' {A : Option Addr} {n c : Nat} (h : Rws w (.slice A n c) ls) (i : Nat) (hi : i < ls.length) : ∃ g o u, A = some ⟨g, o, none⟩ ∧ g < w.heap.size ∧ n = ls.length ∧ ls.length ≤ c ∧ w.cell? ⟨g, o + i, none⟩ = some u ∧ Bys w u ls[i] := by
  obtain ⟨us, h1, h2⟩ := h
  obtain ⟨u, e, hu⟩ := h2 i hi
  obtain ⟨g, o, e1, e2, h3, h4, _, h5⟩ := h1.place (by omega)
  exact ⟨g, o, u, e1, h3, e2, h4, h5 i u e, hu⟩
/-- A new block that holds texts. -/
theorem new (w : World) (t : TypeId) (us : List Value) (ls : List (List UInt8)) (n c : Nat) (hn : ls.length = n) (hl : us.length = ls.length) (hc : n ≤ c) (hm : c ≤ maxLen) (h : ∀ i u (hi : i < ls.length), us[i]? = some u → Bys w u ls[i]) : Rws (w.alloc (.cells us.toArray t)) (.slice (some ⟨w.heap.size, 0, none⟩) n c) ls := by
  subst hn
  refine ⟨us, Sho.new w t us ls.length 1 c (by omega) hc hm, fun i hi => ?_⟩
  have hi' : i < us.length := by omega
  exact ⟨us[i], List.getElem?_eq_getElem hi', (h i us[i] hi (List.getElem?_eq_getElem hi')).below ((Below.refl _ _).alloc (Nat.le_refl _) _)⟩
theorem nil (w : World) : Rws w (.slice none 0 0) [] := ⟨[], Sho.nil w 1, fun i hi => absurd hi (Nat.not_lt_zero _)⟩
end Rws
theorem new1 {w : World} (t : TypeId) {b : Nat} (hb : w.heap.size = b) {u : Value} {l : List UInt8} (h : Bys w u l) : Rws (w.alloc (.cells #[u] t)) (.slice (some ⟨b, 0, none⟩) 1 1) [l] := hb ▸
  Rws.new w t [u] [l] 1 1 rfl rfl (Nat.le_refl _) (by decide) (fun i x hi hx => by
    obtain rfl : i = 0 := by simpa using hi
    simp at hx; subst hx; exact h)
theorem new2 {w : World} (t : TypeId) {b : Nat} (hb : w.heap.size = b) {u u' : Value} {l l' : List UInt8} (h : Bys w u l) (h' : Bys w u' l') : Rws (w.alloc (.cells #[u, u'] t)) (.slice (some ⟨b, 0, none⟩) 2 2) [l, l'] := hb ▸
  Rws.new w t [u, u'] [l, l'] 2 2 rfl rfl (Nat.le_refl _) (by decide) (fun i x hi hx => by
    obtain rfl | rfl : i = 0 ∨ i = 1 := by simp at hi; omega
    · simp at hx; subst hx; exact h
    · simp at hx; subst hx; exact h')
theorem new3 {w : World} (t : TypeId) {b : Nat} (hb : w.heap.size = b) {u u' u'' : Value} {l l' l'' : List UInt8} (h : Bys w u l) (h' : Bys w u' l') (h'' : Bys w u'' l'') : Rws (w.alloc (.cells #[u, u', u''] t)) (.slice (some ⟨b, 0, none⟩) 3 3) [l, l', l''] := hb ▸
  Rws.new w t [u, u', u''] [l, l', l''] 3 3 rfl rfl (Nat.le_refl _) (by decide) (fun i x hi hx => by
    obtain rfl | rfl | rfl : i = 0 ∨ i = 1 ∨ i = 2 := by simp at hi; omega
    · simp at hx; subst hx; exact h
    · simp at hx; subst hx; exact h'
    · simp at hx; subst hx; exact h'')
/-- A row of one's own, of texts. -/
def OwnR (w : World) (base : Nat) (v : Value) (ls : List (List UInt8)) : Prop :=
  ∃ us, w.ownsRow base 26 1 v ls.length us ∧ ∀ i (h : i < ls.length), ∃ u, us[i]? = some u ∧ Bys w u ls[i] ∧ (0 < ls[i].length → u.ownBlock ≠ v.ownBlock ∧ ∀ g, u.ownBlock = some g → base ≤ g)
theorem OwnR.nil (w : World) (base : Nat) : OwnR w base (.slice none 0 0) [] := ⟨[], World.ownsRow_nil _ _ _ _, fun i h => absurd h (Nat.not_lt_zero _)⟩
theorem OwnR.rws {w : World} {base : Nat} {v : Value} {ls : List (List UInt8)} (h : OwnR w base v ls) : Rws w v ls := by
  obtain ⟨us, h1, h2⟩ := h
  exact ⟨us, Sho.own h1, fun i hi => by obtain ⟨u, e, hu, _⟩ := h2 i hi; exact ⟨u, e, hu⟩⟩
theorem OwnR.ge {w : World} {base : Nat} {v : Value} {ls : List (List UInt8)} (h : OwnR w base v ls) {j : Nat} (e : v.ownBlock = some j) : base ≤ j := by
  obtain ⟨us, h1, _⟩ := h
  exact (World.ownsRow.lt h1 j e).1
theorem OwnR.lt {w : World} {base : Nat} {v : Value} {ls : List (List UInt8)} (h : OwnR w base v ls) {j : Nat} (e : v.ownBlock = some j) : j < w.heap.size := by
  obtain ⟨us, h1, _⟩ := h
  exact (World.ownsRow.lt h1 j e).2
theorem OwnR.keep {w w1 : World} {base : Nat} {v : Value} {ls : List (List UInt8)} (h : OwnR w base v ls) (hb : Below w.heap.size w w1) : OwnR w1 base v ls := by
  obtain ⟨us, h1, h2⟩ := h
  exact ⟨us, ownsRow_chg h1 (Chg.of_below (S := fun _ => False) hb) (fun _ _ h => h), fun i hi => by obtain ⟨u, e, hu, hn⟩ := h2 i hi; exact ⟨u, e, hu.below hb, hn⟩⟩
theorem OwnR.mono {w : World} {b b' : Nat} {v : Value} {ls : List (List UInt8)} (h : OwnR w b v ls) (hb : b' ≤ b) : OwnR w b' v ls := by
  obtain ⟨us, h1, h2⟩ := h
  exact ⟨us, own_mono' h1 hb, fun i hi => by obtain ⟨u, e, hu, hn⟩ := h2 i hi; exact ⟨u, e, hu, fun h => ⟨(hn h).1, fun g hg => Nat.le_trans hb ((hn h).2 g hg)⟩⟩⟩
/-- One text more. -/
theorem OwnR.push {w W : World} {base g cap : Nat} {v u : Value} {ls : List (List UInt8)} {l : List UInt8} {us : List Value} {t : TypeId} {cs : Array Value}
    (h1 : ∀ i (h : i < ls.length), ∃ u, us[i]? = some u ∧ Bys w u ls[i] ∧ (0 < ls[i].length → u.ownBlock ≠ v.ownBlock ∧ ∀ g, u.ownBlock = some g → base ≤ g)) (hl : us.length = ls.length)
    (hu : Bys w u l) (hun : 0 < l.length → u.ownBlock ≠ v.ownBlock ∧ ∀ g, u.ownBlock = some g → base ≤ g)
    (ho : W.ownsRow base 26 1 (.slice (some ⟨g, 0, none⟩) (ls.length + 1) cap) (ls.length + 1) (us ++ [u])) (hg : (w.alloc (.cells cs t)).grownBy W v.ownBlock) (hlie : v.ownBlock = some g ∨ g = w.heap.size + 1) :
    OwnR W base (.slice (some ⟨g, 0, none⟩) (ls.length + 1) cap) (ls ++ [l]) := by
  have keep : ∀ (x : Value) (m : List UInt8), Bys w x m → (0 < m.length → x.ownBlock ≠ v.ownBlock ∧ ∀ g, x.ownBlock = some g → base ≤ g) → Bys W x m ∧ (0 < m.length → x.ownBlock ≠ some g ∧ ∀ g, x.ownBlock = some g → base ≤ g) := by
    intro x m hx hn
    have hx1 : Bys (w.alloc (.cells cs t)) x m := hx.below ((Below.refl _ _).alloc (Nat.le_refl _) _)
    rcases Nat.eq_zero_or_pos m.length with h0 | h0
    · have hm : m = [] := List.length_eq_zero_iff.1 h0
      subst hm
      obtain ⟨A, c, rfl⟩ := hx.form
      exact ⟨Sho.empty W 1 A c, fun h => absurd h (Nat.lt_irrefl _)⟩
    · refine ⟨Sho.grown hx1 hg (fun q hq e => (hn h0).1 (by rw [hq, ← e])), fun _ => ⟨fun e => ?_, (hn h0).2⟩⟩
      rcases hlie with hlie | hlie
      · exact (hn h0).1 (by rw [e, hlie])
      · have := hx.lt h0 g e
        omega
  refine ⟨us ++ [u], by rw [List.length_append]; exact ho, fun i hi => ?_⟩
  by_cases hi' : i < ls.length
  · obtain ⟨x, e, hx, hn⟩ := h1 i hi'
    obtain ⟨k1, k2⟩ := keep x ls[i] hx hn
    refine ⟨x, by rw [List.getElem?_append_left (by omega)]; exact e, ?_, ?_⟩
    · rw [List.getElem_append_left hi']; exact k1
    · rw [List.getElem_append_left hi']; exact k2
  · have : i = ls.length := by simp at hi; omega
    subst this
    obtain ⟨k1, k2⟩ := keep u l hu hun
    refine ⟨u, by rw [List.getElem?_append_right (by omega), hl]; simp, ?_, ?_⟩
    · rw [List.getElem_append_right (Nat.le_refl _)]; simpa using k1
    · intro h0
      exact k2 (by rw [List.getElem_append_right (Nat.le_refl _)] at h0; simpa using h0)
/-- Texts whose blocks meet S. -/
def RwsF (S : Nat → Prop) (w : World) (v : Value) (ls : List (List UInt8)) : Prop :=
  ∃ us, Sho w v ls.length 1 us ∧ (0 < ls.length → ∀ g, v.ownBlock = some g → S g) ∧ ∀ i (h : i < ls.length), ∃ u, us[i]? = some u ∧ Bys w u ls[i] ∧ (0 < ls[i].length → ∀ g, u.ownBlock = some g → S g)
theorem RwsF.rws {S : Nat → Prop} {w : World} {v : Value} {ls : List (List UInt8)} (h : RwsF S w v ls) : Rws w v ls := by
  obtain ⟨us, h1, _, h2⟩ := h
  exact ⟨us, h1, fun i hi => by obtain ⟨u, e, hu, _⟩ := h2 i hi; exact ⟨u, e, hu⟩⟩
theorem Sho.chgF {S T : Nat → Prop} {w w1 : World} {v : Value} {n k : Nat} {cs : List Value} (h : Sho w v n k cs) (hf : 0 < n → ∀ g, v.ownBlock = some g → S g) (hc : Chg w w1 T) (hS : ∀ g, S g → ¬ T g) : Sho w1 v n k cs := by
  rcases Nat.eq_zero_or_pos n with h0 | h0
  · subst h0
    obtain ⟨A, c, rfl⟩ := h.form
    have : cs = [] := List.length_eq_zero_iff.1 (by simpa using h.1)
    subst this
    exact Sho.empty w1 k A c
  · exact h.chg hc (fun g hg => hS g (hf h0 g hg))
theorem RwsF.chg {S T : Nat → Prop} {w w1 : World} {v : Value} {ls : List (List UInt8)} (h : RwsF S w v ls) (hc : Chg w w1 T) (hS : ∀ g, S g → ¬ T g) : RwsF S w1 v ls := by
  obtain ⟨us, h1, hf, h2⟩ := h
  exact ⟨us, h1.chgF hf hc hS, hf, fun i hi => by obtain ⟨u, e, hu, hn⟩ := h2 i hi; exact ⟨u, e, Sho.chgF hu hn hc hS, hn⟩⟩
theorem RwsF.mono {S T : Nat → Prop} {w : World} {v : Value} {ls : List (List UInt8)} (h : RwsF S w v ls) (hS : ∀ g, S g → T g) : RwsF T w v ls := by
  obtain ⟨us, h1, hf, h2⟩ := h
  exact ⟨us, h1, fun h0 g hg => hS g (hf h0 g hg), fun i hi => by obtain ⟨u, e, hu, hn⟩ := h2 i hi; exact ⟨u, e, hu, fun h0 g hg => hS g (hn h0 g hg)⟩⟩
theorem OwnR.foot {w : World} {base : Nat} {v : Value} {ls : List (List UInt8)} (h : OwnR w base v ls) : RwsF (fun g => base ≤ g ∧ g < w.heap.size) w v ls := by
  have h' := h
  obtain ⟨us, h1, h2⟩ := h
  refine ⟨us, Sho.own h1, fun _ g hg => ⟨h'.ge hg, h'.lt hg⟩, fun i hi => ?_⟩
  obtain ⟨u, e, hu, hn⟩ := h2 i hi
  exact ⟨u, e, hu, fun h0 g hg => ⟨(hn h0).2 g hg, Sho.lt hu h0 g hg⟩⟩
theorem info_bytes : (Tryz.prog.info? 26).map (fun i => (i.zero, i.size, i.bytes)) = some (some (.slice none 0 0), 1, 24) := by kernel_rfl
theorem flat_take (ls : List (List UInt8)) (k : Nat) (h : k < ls.length) : (ls.take (k + 1)).flatten = (ls.take k).flatten ++ ls[k] := by
  rw [List.take_succ_eq_append_getElem h, List.flatten_append, List.flatten_cons, List.flatten_nil, List.append_nil]
theorem flat_le (ls : List (List UInt8)) (k : Nat) : (ls.take k).flatten.length ≤ ls.flatten.length := by
  conv => rhs; rw [← List.take_append_drop k ls, List.flatten_append, List.length_append]
  omega
/-- The hash of a tag and texts. -/
theorem bys_u8 (b : UInt8) (t : Int) (h : ((b.toNat : Nat) : Int) = t) : bys [b] = [.int .u8 t] := by subst h; rfl
end Go.Proofs.YtlkgeifmppadmaaGreat
namespace Go.Proofs.YtlkgeifmppadmaaGreat
open Go.RowKit
set_option linter.unusedVariables false
set_option linter.unusedSimpArgs false

theorem Sho.none {w : World} {n k c : Nat} {cs : List Value} (h : Sho w (.slice Option.none n c) n k cs) : n = 0 := by
  rcases Nat.eq_zero_or_pos n with h0 | h0
  · exact h0
  · obtain ⟨g, o, e, _⟩ := h.place h0
    cases e
set_option maxHeartbeats 1000000 in
theorem eqnil_bytes (w : World) (a : Option Addr) (n c n' c' : Nat) : (binOp .eql 26 (.slice a n c) (.slice none n' c')).run Tryz.prog w = .ok (.bool a.isNone) w := Lib.run_eql_slice_nil w _ _ a n c n' c' Tryz.underlying26
set_option maxRecDepth 100000 in
theorem clone_any (v : Value) (l : List UInt8) (hsm : l.length ≤ 1000000000000) (w : World) (hx : Bys w v l) :
    Calls Tryz.prog 49 #[v] w fun e w' => ∃ v', e = .returned v' ∧ OwnB w' w.heap.size v' l ∧ Below w.heap.size w w' := by
  obtain ⟨i0, hi0, hz0, hz1, hz2⟩ := info_parts info_u8
  obtain ⟨A, c, rfl⟩ := hx.form
  cases A with
  | none =>
    have h0 := Sho.none hx
    have HL := Lib.hid (List.length_eq_zero_iff.1 h0)
    have qn := eqnil_bytes
    go_enter Tryz.func49, Tryz.ntmps49
    go_wp2
    go_ret
    exact ⟨_, rfl, by rw [HL.out]; exact World.ownsRow_nil _ _ _ _, Below.refl _ _⟩
  | some a =>
    have HX := Lib.hid (hx.below ((Below.refl w.heap.size w).alloc (Nat.le_refl _) (.cells #[] 5)))
    have HNB : Hid (Blk (w.alloc (.cells #[] 5)) w.heap.size 5 []) := Lib.hid (Blk.new w 5 [])
    clear hx
    have qn := eqnil_bytes
    go_enter Tryz.func49, Tryz.ntmps49
    go_wp2_with (at_builtin; (refine wpList_append_any rfl (.tmp 5) (.tmp 6) 26 rfl w.heap.size 5 i0 (.int .u8 0) 1 1 Tryz.underlying26 hi0 hz0 hz1 hz2 rfl (by decide) _ 0 [] rfl (own_none HNB.out (Nat.le_refl _)) _ l.length (bys l) rfl HX.out.news (by unfold maxLen; omega) (by omega) (by simp) ?_); intro v2 W2 hown2 hgrow2; have HB2 : Hid (Below w.heap.size w W2) := Lib.hid (((Below.refl w.heap.size w).alloc (Nat.le_refl _) _).grown hgrow2 (by simp) (fun k e => by have e' : some w.heap.size = some k := e; injection e' with e'; omega)); have HO2 : Hid (OwnB W2 w.heap.size v2 l) := Lib.hid (by unfold OwnB; simpa only [Nat.zero_add, List.nil_append] using hown2); clear hown2 hgrow2)
    go_ret
    exact ⟨_, rfl, HO2.out, HB2.out⟩
theorem run_string_bys (w : World) (v : Value) (l : List UInt8) (h : Bys w v l) : (convert 26 9 v).run Tryz.prog w = .ok (.string ⟨l.toArray⟩) w := by
  obtain ⟨A, c, rfl⟩ := h.form
  rcases Nat.eq_zero_or_pos l.length with h0 | h0
  · have hl : l = [] := List.length_eq_zero_iff.1 h0
    subst hl
    cases A with
    | none => exact Lib.run_convert_nil_bytes w _ _ _ c Tryz.underlying26 Tryz.underlying5 Tryz.underlying9
    | some a => exact run_convert_bytes_back w _ _ _ a c [] Tryz.underlying26 Tryz.underlying5 Tryz.underlying9 (fun j hj => absurd hj (Nat.not_lt_zero _))
  · obtain ⟨g, o, rfl, -, -, -, -, hc⟩ := h.place h0
    exact run_convert_bytes_back w _ _ _ ⟨g, o, none⟩ c l Tryz.underlying26 Tryz.underlying5 Tryz.underlying9 (fun j hj => by rw [Go.WideShapes.add_plain]; exact hc j hj)
set_option maxRecDepth 100000 in
theorem equal_any (u v : Value) (l m : List UInt8) (w : World) (hu : Bys w u l) (hv : Bys w v m) :
    Calls Tryz.prog 72 #[u, v] w fun e w' => e = .returned (.bool (l == m)) ∧ w = w' := by
  have c1 := run_string_bys w u l hu
  have c2 := run_string_bys w v m hv
  clear hu hv
  go_enter Tryz.func72, Tryz.ntmps72
  go_wp2
  go_ret
  exact ⟨rfl, rfl⟩
theorem same_bytes (u v : Value) (l m : List UInt8) (w : World) (hu : Bys w u l) (hv : Bys w v m) :
    Calls Tryz.prog 47 #[u, v] w fun e w' => e = .returned (.bool (l == m)) ∧ w = w' := by
  have H := Lib.hid (equal_any u v l m w hu hv)
  clear hu hv
  go_enter Tryz.func47, Tryz.ntmps47
  go_wp2_with fail
  refine H.out.mono ?_
  rintro e w' ⟨rfl, rfl⟩
  go_wp2
  go_ret
  exact ⟨rfl, rfl⟩
end Go.Proofs.YtlkgeifmppadmaaGreat
namespace Go.Proofs.YtlkgeifmppadmaaGreat
open Go.RowKit Go.Shelf
attribute [local go_sem] Oper.semAt_some
set_option linter.unusedVariables false
set_option linter.unusedSimpArgs false

set_option maxHeartbeats 1000000 in
theorem chunk_any (A : Option Addr) (len cap : Nat) (w : World) :
    Calls Tryz.prog 106 #[.slice A len cap, .int .i64 64] w fun e w' => e = .returned (.func (.func 108) #[] #[.pointer (some ⟨w.heap.size, 0, none⟩), .pointer (some ⟨w.heap.size + 1, 0, none⟩)]) ∧ w' = (w.alloc (.cells #[.slice A len cap] 26)).alloc (.cells #[.int .i64 64] 3) := by
  have hk := blk2 w [.slice A len cap] [.int .i64 64] 26 3 _ rfl
  have c0 := hk.2.2.cell 0 _ rfl
  clear hk
  go_enter Tryz.func106, Tryz.ntmps106
  go_wp2
  go_ret
  exact ⟨rfl, rfl⟩
def fins (m k : Nat) : List (Fin m) := (List.finRange m).take k
theorem fins_succ {m k : Nat} (h : k < m) : fins m (k + 1) = fins m k ++ [⟨k, h⟩] := by
  unfold fins
  rw [List.take_succ_eq_append_getElem (by simpa using h)]
  simp
theorem fins_length {m k : Nat} (h : k ≤ m) : (fins m k).length = k := by
  unfold fins
  rw [List.length_take, List.length_finRange]
  omega
theorem chunk_stops (F : Fence) (n : Nat) (hF : F.fn 108) (hro : F.round = none) (hn : 1 ≤ n) (Bs Bn n₀ h g m cap : Nat) (hm : 64 * m ≤ cap) (hcap : cap ≤ maxLen) (hsm : 64 * m < 100000000000000) (hBs0 : Bs < n₀) (hBs1 : Bs ≠ h) (hBn0 : Bn < n₀) (hBn1 : Bn ≠ h) (w : World) (hn₀ : n₀ ≤ w.heap.size)
    (hBs : w.cell? ⟨Bs, 0, none⟩ = some (.slice (some ⟨g, 0, none⟩) (64 * m : Nat) cap)) (hBn : w.cell? ⟨Bn, 0, none⟩ = some (.int .i64 64)) :
    SeqStopsK F n Tryz.prog 108 #[.pointer (some ⟨Bs, 0, none⟩), .pointer (some ⟨Bn, 0, none⟩)] (fun x : Fin m => #[Value.slice (some ⟨g, 64 * x.val, none⟩) 64 64]) (BelX n₀ h) (fun ys => ys = fins m m) (fun pre => True) m w := fun lp J Jx W hW hJ _ hY h0 => by
  refine (chunk1_in F n hF hro hn lp Bs Bn n₀ h g m cap hm hcap hsm hBs0 hBs1 hBn0 hBn1 (fun k W => J (fins m k) W) (fun k W => Jx (fins m k) W) W (Nat.le_trans hn₀ hW.size) (fun s X Y row hs hg hr => hJ _ X Y row hs hg hr)
    (fun x W' hj hx => ?_) ((hW.cell (p := ⟨Bs, 0, none⟩) (Nat.lt_of_lt_of_le hBs0 hn₀)).trans hBs) ((hW.cell (p := ⟨Bn, 0, none⟩) (Nat.lt_of_lt_of_le hBn0 hn₀)).trans hBn) h0).mono ?_
  · have := hY (fins m x) ⟨x, hx⟩ W' hj (by rw [fins_length (by omega)]; exact hx)
    rw [fins_succ hx]
    exact this
  · rintro e W' ⟨he, h | ⟨k, _, h⟩⟩
    · exact ⟨he, .inl ⟨_, rfl, h⟩⟩
    · exact ⟨he, .inr ⟨_, trivial, h⟩⟩
end Go.Proofs.YtlkgeifmppadmaaGreat
namespace Go.Proofs.YtlkgeifmppadmaaGreat
open Go.RowKit
set_option linter.unusedVariables false
set_option linter.unusedSimpArgs false

set_option maxRecDepth 100000 in
set_option maxHeartbeats 2000000 in
theorem constants_any (w : World) : Calls Tryz.prog 93 #[] w fun e w' => e = .returned (.agg (u32s shaK).toArray) ∧ Below w.heap.size w w' := by
  have hz : ((Tryz.prog.info? 146).bind (·.zero)).map (·.cells.size) = some shaK.length := by rw [zero64]; rfl
  go_enter Tryz.func93, Tryz.ntmps93
  have HB : Hid (Blk (w.alloc (.cells (u32s (List.replicate 64 0)).toArray 146)) w.heap.size 146 (u32s (List.replicate 64 0))) := Lib.hid (Blk.new w _ _)
  go_wp2_with (first
    | (refine wpList_buildFlatArrTo rfl 146 124 64 _ rfl .u32 shaK (some 1) rfl under_row64 size_u32 hz (by kernel_rfl) ?_)
    | (refine wpList_store_rowTo rfl 146 (.tmp 0) (.tmp 1) rfl rfl w.heap.size (u32s shaK).toArray rfl rfl 146 (u32s (List.replicate 64 0)).toArray HB.out (size_row64 shaK shaK_length) rfl (u32s_one shaK) ?_))
  have hfin := blk_setRow HB.out (u32s shaK)
  refine bodyPost_ret (v := .agg (u32s shaK).toArray) ?_ ?_ ⟨rfl, ?_⟩
  · exact results_cell_row Tryz.results93 _ _ w.heap.size 146 _ (0, 0) _ rfl hfin under_row64 rfl (size_row64 shaK shaK_length)
  · rfl
  · exact ((Below.refl w.heap.size w).alloc (Nat.le_refl _) _).trans ((chg_setRow _ w.heap.size _).below (by simp) (fun k hk => by omega))
theorem block_8 (a b c d e f g1 h : Int) (kb g o c1 : Nat) (l : List UInt8) (hl : l.length = 64) (hc : 64 ≤ c1) (w : World) (hg : g < w.heap.size) (hx : BysAt w g o l) (hk : Blk w kb 146 (u32s shaK)) :
    Calls Tryz.prog 94 #[.agg #[.int .u32 a, .int .u32 b, .int .u32 c, .int .u32 d, .int .u32 e, .int .u32 f, .int .u32 g1, .int .u32 h], .pointer (some ⟨kb, 0, none⟩), .slice (some ⟨g, o, none⟩) 64 c1] w fun e1 w' => e1 = .returned (.agg (u32s (mixF shaK [a, b, c, d, e, f, g1, h] l)).toArray) ∧ Below w.heap.size w w' :=
  block_any [a, b, c, d, e, f, g1, h] shaK rfl shaK_length kb g o c1 l hl hc w hg hx hk

set_option maxRecDepth 100000 in
set_option maxHeartbeats 4000000 in
theorem rsum_any (v : Value) (l : List UInt8) (hsm : l.length ≤ 1000000000000) (w : World) (hx : Bys w v l) :
    Calls Tryz.prog 71 #[v] w fun e w' => ∃ v', e = .returned v' ∧ OwnB w' w.heap.size v' (sha l) ∧ Below w.heap.size w w' := by
  obtain ⟨i0, hi0, hz0, hz1, hz2⟩ := info_parts info_u8
  obtain ⟨A, c, rfl⟩ := hx.form
  have HX := Lib.hid hx
  clear hx
  go_enter Tryz.func71, Tryz.ntmps71
  go_wp2_with fail
  have bel0 := (Below.refl w.heap.size w).alloc (Nat.le_refl _) (.cells (u32s shaH).toArray 145)
  refine calls_at (fun w1 => Below w.heap.size w w1 ∧ Blk w1 w.heap.size 145 (u32s shaH)) ⟨bel0, Blk.new w 145 (u32s shaH)⟩ ?_
  clear bel0
  intro w1 hw1
  refine (constants_any w1).mono ?_
  rintro e w2 ⟨rfl, h2⟩
  have HW := Lib.hid (And.intro (hw1.1.trans (h2.mono hw1.1.size)) (hw1.2.below h2))
  clear hw1 h2
  have HB4 : Hid (Blk (w2.alloc (.cells (u32s (List.replicate 64 0)).toArray 146)) w2.heap.size 146 (u32s (List.replicate 64 0))) := Lib.hid (Blk.new w2 _ _)
  go_wp2_with (refine wpList_store_row rfl 146 (.tmp 4) (.tmp 11) rfl w2.heap.size (u32s shaK).toArray rfl rfl 146 _ HB4.out (size_row64 shaK shaK_length) rfl (u32s_one shaK) ?_)
  refine code_at (fun w3 => Below w.heap.size w w3 ∧ Blk w3 w.heap.size 145 (u32s shaH) ∧ Blk w3 w2.heap.size 146 (u32s shaK) ∧ w.heap.size < w2.heap.size) ⟨(HW.out.1.alloc HW.out.1.size _).trans ((chg_setRow _ w2.heap.size _).below (by simp; have := HW.out.1.size; omega) (fun k hk => by have := HW.out.1.size; omega)), (HW.out.2.alloc _).chg (chg_setRow _ w2.heap.size _) (by have := HW.out.2.lt; omega), blk_setRow HB4.out (u32s shaK), HW.out.2.lt⟩ ?_
  intro w3 hw3
  have HW3 := Lib.hid hw3
  have HWB : Hid (w.heap.size < w2.heap.size) := Lib.hid hw3.2.2.2
  clear hw3 HW HB4
  generalize w2.heap.size = B4 at *
  go_loopw [0] (fun v0 wr => ∃ (n : Nat), 64 * n ≤ l.length ∧ Hid (Below w.heap.size w wr ∧ Blk wr w.heap.size 145 (u32s (shaRun shaH l n)) ∧ Blk wr B4 146 (u32s shaK) ∧ Bys wr v0 (l.drop (64 * n)) ∧ (0 < (l.drop (64 * n)).length → ∀ q, v0.ownBlock = some q → q < w.heap.size))) (fun v _ => lenV v)
  case atStart => exact ⟨0, by omega, Lib.hid ⟨HW3.out.1, HW3.out.2.1, HW3.out.2.2.1, HX.out.below HW3.out.1, fun h0 => HX.out.lt h0⟩⟩
  case round =>
    obtain ⟨n, hn, HI⟩ := hrel
    obtain ⟨A0, c0, rfl⟩ := HI.out.2.2.2.1.form
    have HD : Hid ((l.drop (64 * n)).length + 64 * n = l.length) := Lib.hid (by rw [List.length_drop]; omega)
    generalize hDe : l.drop (64 * n) = D at *
    have HDE := Lib.hid hDe
    clear hDe
    by_cases hlt : 64 ≤ D.length
    · obtain ⟨g, o, rfl, -, hg, hc1, hc2, hcells⟩ := HI.out.2.2.2.1.place (by omega)
      have hgw : g < w.heap.size := HI.out.2.2.2.2 (by omega) g rfl
      have HBA : Hid (BysAt wr g o (D.take 64)) := Lib.hid (fun k hk => by
        have hk' : k < D.length := by rw [List.length_take] at hk; omega
        rw [List.getElem_take]; exact hcells k hk')
      clear hcells
      have hlen := shaRun_length shaH l rfl n
      have HR : Hid (shaRun shaH l (n + 1) = mixF shaK (shaRun shaH l n) (D.take 64)) := Lib.hid (by rw [← HDE.out]; rfl)
      generalize shaRun shaH l n = S0 at *
      obtain ⟨a, b, c2, d, e, f, g2, h8, rfl⟩ := eight hlen
      clear hlen
      have q0 := u32_get HI.out.2.1 0 (by simp)
      have q1 := u32_get HI.out.2.1 1 (by simp)
      have q2 := u32_get HI.out.2.1 2 (by simp)
      have q3 := u32_get HI.out.2.1 3 (by simp)
      have q4 := u32_get HI.out.2.1 4 (by simp)
      have q5 := u32_get HI.out.2.1 5 (by simp)
      have q6 := u32_get HI.out.2.1 6 (by simp)
      have q7 := u32_get HI.out.2.1 7 (by simp)
      simp only [List.getD_cons_zero, List.getD_cons_succ] at q0 q1 q2 q3 q4 q5 q6 q7
      have hc64 : (64 : Int) ≤ (c0 : Int) := by omega
      go_wp2
      refine wp_region_still_tail 3 (by kernel_rfl) (by kernel_rfl) ?_
      simp only [List.take_succ_cons, List.take_zero, List.drop_succ_cons, List.drop_zero]
      change wpStill _ _ wr.drew _ _ _
      still_step
      still_step
      still_step
      refine wpStill_nil ?_
      change wpList _ _ _ _ _ wr.drew
      clear q0 q1 q2 q3 q4 q5 q6 q7
      have HV := Lib.hid (And.intro HI.out.1.drew (And.intro HI.out.2.1.drew (And.intro HI.out.2.2.1.drew (show Bys wr.drew (.slice (some ⟨g, o, none⟩) D.length c0) D from HI.out.2.2.2.1))))
      have HBA2 : Hid (BysAt wr.drew g o (D.take 64)) := HBA
      have hg2 : g < wr.drew.heap.size := hg
      clear HBA HI
      generalize wr.drew = wz at *
      go_wp2_with fail
      refine (block_8 a b c2 d e f g2 h8 B4 g o c0 (D.take 64) (by rw [List.length_take]; omega) (by omega) _ hg2 HBA2.out HV.out.2.2.1).mono ?_
      rintro e1 w4 ⟨rfl, h4⟩
      have HM := Lib.hid (mixF_length shaK [a, b, c2, d, e, f, g2, h8] (D.take 64) rfl)
      generalize mixF shaK [a, b, c2, d, e, f, g2, h8] (D.take 64) = M at *
      have HU := Lib.hid (And.intro (HV.out.1.trans (h4.mono HV.out.1.size)) (And.intro (HV.out.2.1.below h4) (And.intro (HV.out.2.2.1.below h4) (HV.out.2.2.2.below h4))))
      clear h4 HV HBA2
      have hB : w.heap.size < B4 := HW3.out.2.2.2
      go_wp2_with (refine wpList_store_row rfl 145 (.tmp 3) (.tmp 20) rfl w.heap.size (u32s M).toArray rfl rfl 145 _ HU.out.2.1 (size_row8 M HM.out) (by simp [u32s, HM.out]) (u32s_one M) ?_)
      go_roundw
      case rel =>
        have hch := chg_setRow w4 w.heap.size (u32s M).toArray
        refine ⟨n + 1, by have := HD.out; omega, Lib.hid ⟨HU.out.1.trans (hch.below HU.out.1.size (fun k hk => by omega)), by rw [HR.out]; exact blk_setRow HU.out.2.1 (u32s M), HU.out.2.2.1.chg hch (by omega), ?_, ?_⟩⟩
        · rw [show 64 * (n + 1) = 64 * n + 64 by omega, ← List.drop_drop, HDE.out]
          by_cases hc : c0 = 64
          · rw [if_pos hc]
            exact Bys.tail_end 64 (by omega)
          · rw [if_neg hc]
            exact Sho.chg (HU.out.2.2.2.tail (by omega) 64 hlt) hch (fun q hq e => by have : g = q := by simpa [Value.ownBlock] using hq
                                                                                      omega)
        · intro _ q hq
          have : g = q := by
            by_cases hc : c0 = 64
            · rw [if_pos hc] at hq; simpa [Value.ownBlock] using hq
            · rw [if_neg hc] at hq; simpa [Value.ownBlock] using hq
          omega
      case measure => simp [lenV]; omega
    · have hD64 : D.length < 64 := by omega
      have hdf : decide ((64 : Int) ≤ (D.length : Int)) = false := by simp; omega
      have hDc : D.length ≤ 1000 := by omega
      have hnn : n ≤ 1000000000000 := by omega
      have HE : Hid (shaRun shaH l n = shaRun shaH (full l) n ∧ (full l).drop (64 * n) = D ++ 128 :: List.replicate (zn l.length) 0 ++ lens l.length 8) := Lib.hid ⟨by unfold full pad; rw [List.append_assoc, shaRun_more _ _ _ _ hn], by
        unfold full pad
        rw [List.append_assoc, List.drop_append_of_le_length hn, HDE.out, List.append_assoc]⟩
      have HV := HI
      clear HI HX HW3
      have hwr : w.heap.size ≤ wr.heap.size := HV.out.1.size
      have hB4 : Hid (B4 < wr.heap.size) := Lib.hid HV.out.2.2.1.lt
      have HNB : Hid (Blk (wr.alloc (.cells #[] 5)) wr.heap.size 5 []) := Lib.hid (Blk.new wr 5 [])
      have hal : Below wr.heap.size wr (wr.alloc (.cells #[] 5)) := (Below.refl _ _).alloc (Nat.le_refl _) _
      have HAL := Lib.hid hal
      have HSZ : Hid (wr.heap.size ≤ (wr.alloc (.cells #[] 5)).heap.size) := Lib.hid hal.size
      have HBD : Hid (Bys (wr.alloc (.cells #[] 5)) (.slice A0 D.length c0) D) := Lib.hid (HV.out.2.2.2.1.below hal)
      clear hal
      go_wp2_with (at_builtin; (first
        | ((refine wpList_append_any rfl (.tmp 23) (.tmp 24) 26 rfl wr.heap.size 5 i0 (.int .u8 0) 1 1 Tryz.underlying26 hi0 hz0 hz1 hz2 rfl (by decide) _ 0 [] rfl (own_none HNB.out (Nat.le_refl _)) _ D.length (bys D) rfl HBD.out.news (by unfold maxLen; omega) (by omega) HSZ.out ?_); intro v1 W1 hown1 hgrow1
           have HB1 : Hid (Below wr.heap.size wr W1) := Lib.hid (HAL.out.grown hgrow1 HSZ.out (fun k e => by have e' : some wr.heap.size = some k := e; injection e' with e'; omega))
           have HS1 : Hid (wr.heap.size ≤ W1.heap.size) := Lib.hid (Nat.le_trans HSZ.out hgrow1.size)
           have HO1 : Hid (OwnB W1 wr.heap.size v1 D) := Lib.hid (by unfold OwnB; simpa only [Nat.zero_add, List.nil_append] using hown1)
           clear hown1 hgrow1)
        | ((refine wpList_append_any rfl (.tmp 25) (.tmp 26) 26 rfl wr.heap.size 5 i0 (.int .u8 0) 1 1 Tryz.underlying26 hi0 hz0 hz1 hz2 rfl (by decide) _ D.length (bys D) rfl (World.ownsRow.alloc HO1.out _) _ 1 (bys [128]) rfl (Bys.new W1 [128] 1 rfl (by decide)) (by unfold maxLen; omega) (by omega) (by simp; have := HS1.out; omega) ?_); intro v2 W2 hown2 hgrow2
           have HB2 : Hid (Below wr.heap.size wr W2) := Lib.hid (HB1.out.trans (((Below.refl wr.heap.size W1).alloc HS1.out _).grown hgrow2 (by simp; have := HS1.out; omega) (fun k e => HO1.out.ge e)))
           have HS2 : Hid (wr.heap.size ≤ W2.heap.size) := Lib.hid (Nat.le_trans (by simp; have := HS1.out; omega) hgrow2.size)
           have HO2 : Hid (OwnB W2 wr.heap.size v2 (D ++ [128])) := Lib.hid (OwnB.append rfl hown2)
           clear hown2 hgrow2)))
      obtain ⟨wo, rfl⟩ : ∃ wo : World, wo = wr := ⟨_, rfl⟩
      have HDM : Hid ((l.length : Nat) % 64 = D.length ∧ zn l.length < 64) := Lib.hid ⟨by have := HD.out; omega, by unfold zn; omega⟩
      have HSO : Hid (wo.heap.size ≤ W2.heap.size) := HS2
      go_loopw [6] (fun v6 wr => ∃ (j : Nat) (Q : List UInt8), j ≤ zn l.length ∧ Q.length = D.length + 1 + j ∧ Hid (Q = D ++ 128 :: List.replicate j 0 ∧ True ∧ Below wo.heap.size W2 wr ∧ OwnB wr wo.heap.size v6 Q)) (fun v _ => 200 - lenV v)
      case atStart => exact ⟨0, D ++ [128], Nat.zero_le _, by simp, Lib.hid ⟨rfl, trivial, Below.refl _ _, HO2.out⟩⟩
      case round =>
        obtain ⟨j, Q, hj, hQl, HQ⟩ := hrel
        obtain ⟨A6, c6, rfl⟩ := HQ.out.2.2.2.form
        have hQb : Q.length ≤ 200 := by have := HDM.out.2; omega
        have HQL := Lib.hid hQl
        clear hQl
        by_cases hz : j = zn l.length
        · have hb : ((((Q.length : Nat) : Int) % 64) != 56) = false := by
            have h1 := zn_at l.length
            have h2 := HQL.out
            have h3 := HDM.out.1
            have : ((Q.length : Nat) : Int) % 64 = 56 := by omega
            simp [this]
          have HZ := Lib.hid hz
          clear hz
          go_wp2
          have HQ3 := Lib.hid (show Q = D ++ 128 :: List.replicate (zn l.length) 0 ∧ Below wo.heap.size W2 wr ∧ OwnB wr wo.heap.size (.slice A6 Q.length c6) Q from ⟨by rw [HQ.out.1, HZ.out], HQ.out.2.2.1, HQ.out.2.2.2⟩)
          have HP : Hid (Q.length ≤ 200) := Lib.hid hQb
          clear HQ hb hQb HQL
          generalize hQ0 : Q = Q0 at *
          clear hQ0
          go_loopw [6, 7] (fun v6 v7 wr => ∃ (j : Nat) (Q : List UInt8) (i : Int), v7 = .int .i64 i ∧ (-1 ≤ i ∧ i ≤ 7) ∧ Q.length ≤ 200 + j ∧ Hid (Q = Q0 ++ lens l.length j ∧ i = 7 - (j : Int) ∧ Below wo.heap.size W2 wr ∧ OwnB wr wo.heap.size v6 Q)) (fun _ v _ => (intOf v + 1).toNat)
          case atStart => exact ⟨0, Q0, 7, rfl, by decide, by have := HP.out; omega, Lib.hid ⟨by simp [lens], rfl, HQ3.out.2.1, HQ3.out.2.2⟩⟩
          case round =>
            obtain ⟨j, Q, i, rfl, hi, hQl, HQ⟩ := hrel
            obtain ⟨A6, c6, rfl⟩ := HQ.out.2.2.2.form
            by_cases hi1 : i = -1
            · obtain rfl : j = 8 := by have := HQ.out.2.1; omega
              subst hi1
              have HFQ : Hid ((full l).drop (64 * n) = Q ∧ (full l).length = 64 * n + Q.length ∧ Q.length % 64 = 0) := Lib.hid (by
                have h1 : (full l).drop (64 * n) = Q := by rw [HE.out.2, HQ.out.1, HQ3.out.1]
                have h2 : (full l).length = 64 * n + Q.length := by
                  have := full_length l
                  have h3 := congrArg List.length h1
                  rw [List.length_drop] at h3
                  omega
                have h4 := full_cut l
                exact ⟨h1, h2, by omega⟩)
              have hbw : Below wo.heap.size wo wr := HB2.out.trans HQ.out.2.2.1
              have HR2 := Lib.hid (show Below w.heap.size w wr ∧ Blk wr w.heap.size 145 (u32s (shaRun shaH (full l) n)) ∧ Blk wr B4 146 (u32s shaK) from ⟨HV.out.1.trans (hbw.mono HV.out.1.size), by rw [← HE.out.1]; exact HV.out.2.1.below hbw, HV.out.2.2.1.below hbw⟩)
              have HOQ := Lib.hid HQ.out.2.2.2
              have hwo : w.heap.size < wo.heap.size := HV.out.2.1.lt
              have hQl2 : Q.length ≤ 208 := by omega
              clear HQ hbw HQ3 hi
              go_wp2
              go_loopw [6] (fun v6 wr => ∃ (m : Nat), 64 * m ≤ Q.length ∧ Hid (Below w.heap.size w wr ∧ Blk wr w.heap.size 145 (u32s (shaRun shaH (full l) (n + m))) ∧ Blk wr B4 146 (u32s shaK) ∧ Bys wr v6 (Q.drop (64 * m)) ∧ (∀ q, v6.ownBlock = some q → wo.heap.size ≤ q))) (fun v _ => lenV v)
              case atStart => exact ⟨0, by omega, Lib.hid ⟨HR2.out.1, HR2.out.2.1, HR2.out.2.2, HOQ.out.bys, fun q hq => OwnB.ge HOQ.out hq⟩⟩
              case round =>
                obtain ⟨m, hm, HI⟩ := hrel
                obtain ⟨A6, c6, rfl⟩ := HI.out.2.2.2.1.form
                have HD2 : Hid ((Q.drop (64 * m)).length + 64 * m = Q.length) := Lib.hid (by rw [List.length_drop]; omega)
                generalize hDe : Q.drop (64 * m) = E at *
                have HEE := Lib.hid hDe
                clear hDe
                by_cases hlt : 0 < E.length
                · have hlt0 : (0 : Int) < (E.length : Int) := by omega
                  have hE64 : 64 ≤ E.length := by have := HD2.out; have := HFQ.out.2.2; omega
                  obtain ⟨g, o, rfl, -, hg, hc1, hc2, hcells⟩ := HI.out.2.2.2.1.place (by omega)
                  have hgw : wo.heap.size ≤ g := HI.out.2.2.2.2 g rfl
                  have HBA : Hid (BysAt wr g o (E.take 64)) := Lib.hid (fun k hk => by
                    have hk' : k < E.length := by rw [List.length_take] at hk; omega
                    rw [List.getElem_take]; exact hcells k hk')
                  clear hcells
                  have hlen := shaRun_length shaH (full l) rfl (n + m)
                  have HR : Hid (shaRun shaH (full l) (n + (m + 1)) = mixF shaK (shaRun shaH (full l) (n + m)) (E.take 64)) := Lib.hid (by
                    show mixF shaK (shaRun shaH (full l) (n + m)) (((full l).drop (64 * (n + m))).take 64) = _
                    rw [Nat.mul_add, ← List.drop_drop, HFQ.out.1, HEE.out])
                  generalize shaRun shaH (full l) (n + m) = S0 at *
                  obtain ⟨a, b, c2, d, e, f, g2, h8, rfl⟩ := eight hlen
                  clear hlen
                  have q0 := u32_get HI.out.2.1 0 (by simp)
                  have q1 := u32_get HI.out.2.1 1 (by simp)
                  have q2 := u32_get HI.out.2.1 2 (by simp)
                  have q3 := u32_get HI.out.2.1 3 (by simp)
                  have q4 := u32_get HI.out.2.1 4 (by simp)
                  have q5 := u32_get HI.out.2.1 5 (by simp)
                  have q6 := u32_get HI.out.2.1 6 (by simp)
                  have q7 := u32_get HI.out.2.1 7 (by simp)
                  simp only [List.getD_cons_zero, List.getD_cons_succ] at q0 q1 q2 q3 q4 q5 q6 q7
                  have hc64 : (64 : Int) ≤ (c6 : Int) := by omega
                  go_wp2
                  refine wp_region_still_tail 3 (by kernel_rfl) (by kernel_rfl) ?_
                  simp only [List.take_succ_cons, List.take_zero, List.drop_succ_cons, List.drop_zero]
                  change wpStill _ _ wr.drew _ _ _
                  still_step
                  still_step
                  still_step
                  refine wpStill_nil ?_
                  change wpList _ _ _ _ _ wr.drew
                  clear q0 q1 q2 q3 q4 q5 q6 q7
                  have HV2 := Lib.hid (And.intro HI.out.1.drew (And.intro HI.out.2.1.drew (And.intro HI.out.2.2.1.drew (show Bys wr.drew (.slice (some ⟨g, o, none⟩) E.length c6) E from HI.out.2.2.2.1))))
                  have HBA2 : Hid (BysAt wr.drew g o (E.take 64)) := HBA
                  have hg2 : g < wr.drew.heap.size := hg
                  clear HBA HI
                  generalize wr.drew = wz at *
                  go_wp2_with fail
                  refine (block_8 a b c2 d e f g2 h8 B4 g o c6 (E.take 64) (by rw [List.length_take]; omega) (by omega) _ hg2 HBA2.out HV2.out.2.2.1).mono ?_
                  rintro e1 w4 ⟨rfl, h4⟩
                  have HM := Lib.hid (mixF_length shaK [a, b, c2, d, e, f, g2, h8] (E.take 64) rfl)
                  generalize mixF shaK [a, b, c2, d, e, f, g2, h8] (E.take 64) = M at *
                  have HU := Lib.hid (And.intro (HV2.out.1.trans (h4.mono HV2.out.1.size)) (And.intro (HV2.out.2.1.below h4) (And.intro (HV2.out.2.2.1.below h4) (HV2.out.2.2.2.below h4))))
                  clear h4 HV2 HBA2
                  have hB : w.heap.size < B4 := HWB.out
                  go_wp2_with (refine wpList_store_row rfl 145 (.tmp 3) (.tmp 56) rfl w.heap.size (u32s M).toArray rfl rfl 145 _ HU.out.2.1 (size_row8 M HM.out) (by simp [u32s, HM.out]) (u32s_one M) ?_)
                  go_roundw
                  case rel =>
                    have hch := chg_setRow w4 w.heap.size (u32s M).toArray
                    refine ⟨m + 1, by have := HD2.out; omega, Lib.hid ⟨HU.out.1.trans (hch.below HU.out.1.size (fun k hk => by omega)), by rw [HR.out]; exact blk_setRow HU.out.2.1 (u32s M), HU.out.2.2.1.chg hch (by omega), ?_, ?_⟩⟩
                    · rw [show 64 * (m + 1) = 64 * m + 64 by omega, ← List.drop_drop, HEE.out]
                      by_cases hc : c6 = 64
                      · rw [if_pos hc]
                        exact Bys.tail_end 64 (by omega)
                      · rw [if_neg hc]
                        exact Sho.chg (HU.out.2.2.2.tail (by omega) 64 hE64) hch (fun q hq e => by have : g = q := by simpa [Value.ownBlock] using hq
                                                                                                   omega)
                    · intro q hq
                      have : g = q := by
                        by_cases hc : c6 = 64
                        · rw [if_pos hc] at hq; simpa [Value.ownBlock] using hq
                        · rw [if_neg hc] at hq; simpa [Value.ownBlock] using hq
                      omega
                  case measure => simp [lenV]; omega
                · have hE0 : E.length = 0 := by omega
                  have HS : Hid (shaRun shaH (full l) (n + m) = shaRun shaH (full l) ((full l).length / 64)) := Lib.hid (by
                    have h1 := HD2.out
                    have h2 := HFQ.out.2.1
                    rw [show (full l).length / 64 = n + m by omega])
                  have hbb := HI.out.2.1
                  rw [HS.out] at hbb
                  have HT := Lib.hid (And.intro HI.out.1 hbb)
                  have HL8 := Lib.hid (shaRun_length shaH (full l) rfl ((full l).length / 64))
                  clear hbb HI
                  generalize hSS : shaRun shaH (full l) ((full l).length / 64) = S at *
                  have HSS := Lib.hid hSS
                  clear hSS
                  have hEi : ((E.length : Nat) : Int) = 0 := by omega
                  have HEI := Lib.hid hEi
                  clear hEi
                  have hE1 : ¬ (0 : Int) < (E.length : Int) := by omega
                  obtain ⟨wo2, rfl⟩ : ∃ wo2 : World, wo2 = wr := ⟨_, rfl⟩
                  have hwo2 : w.heap.size < wo2.heap.size := HT.out.2.lt
                  go_wp2
                  go_loopw [8, 9] (fun v8 v9 wr => ∃ (j : Nat), v9 = .int .i64 j ∧ j ≤ 8 ∧ Hid (Below wo2.heap.size wo2 wr ∧ OwnB wr wo2.heap.size v8 (outs S j))) (fun _ v _ => 8 - (intOf v).toNat)
                  case atStart => exact ⟨0, rfl, by decide, Lib.hid ⟨Below.refl _ _, World.ownsRow_nil _ _ _ _⟩⟩
                  case round =>
                    obtain ⟨j, rfl, hj, HJ⟩ := hrel
                    by_cases hlt8 : j < 8
                    · have HBS := Lib.hid ((HT.out.2.chg (Chg.of_below (S := fun _ => False) HJ.out.1) (fun h => h)))
                      have qx := u32_get HBS.out j (by rw [HL8.out]; exact hlt8)
                      have HOS : Hid (outs S (j + 1) = outs S j ++ be4 (S.getD j 0)) := Lib.hid rfl
                      have hol : (outs S j).length ≤ 32 := by rw [outs_length]; omega
                      generalize S.getD j 0 = x at *
                      have e1 : x / 16777216 % 256 = (((ub (x / 16777216)).toNat : Nat) : Int) := (ub_val _).symm
                      have e2 : x / 65536 % 256 = (((ub (x / 65536)).toNat : Nat) : Int) := (ub_val _).symm
                      have e3 : x / 256 % 256 = (((ub (x / 256)).toNat : Nat) : Int) := (ub_val _).symm
                      have e4 : x % 256 = (((ub x).toNat : Nat) : Int) := (ub_val _).symm
                      have f1 : IntKind.u8.wrap (x / 16777216) = (((ub (x / 16777216)).toNat : Nat) : Int) := by rw [IntKind.wrap_u8]; exact (ub_val _).symm
                      have f2 : IntKind.u8.wrap (x / 65536) = (((ub (x / 65536)).toNat : Nat) : Int) := by rw [IntKind.wrap_u8]; exact (ub_val _).symm
                      have f3 : IntKind.u8.wrap (x / 256) = (((ub (x / 256)).toNat : Nat) : Int) := by rw [IntKind.wrap_u8]; exact (ub_val _).symm
                      have f4 : IntKind.u8.wrap x = (((ub x).toNat : Nat) : Int) := by rw [IntKind.wrap_u8]; exact (ub_val _).symm
                      have HBE : Hid (be4 x = [ub (x / 16777216), ub (x / 65536), ub (x / 256), ub x]) := Lib.hid rfl
                      generalize ub (x / 16777216) = b1 at *
                      generalize ub (x / 65536) = b2 at *
                      generalize ub (x / 256) = b3 at *
                      generalize ub x = b4 at *
                      go_wp2
                      go_region_law (first
                        | ((refine step_append_any rfl (.tmp 63) (.tmp 83) 26 rfl wo2.heap.size 5 i0 (.int .u8 0) 1 1 Tryz.underlying26 hi0 hz0 hz1 hz2 rfl (by decide) _ (outs S j).length (bys (outs S j)) rfl (by first | exact (HJ.out.2).any | exact World.ownsRow.alloc HJ.out.2 _) _ 4 (bys [b1, b2, b3, b4]) rfl (by first | exact Bys.new _ [b1, b2, b3, b4] 4 rfl (by decide) | exact Bys.new_drew _ [b1, b2, b3, b4] 4 rfl (by decide)) (by unfold maxLen; omega) (by omega) (by simp; have := HJ.out.1.size; omega) ?_); intro v2 W9 hown2 hgrow2
                           have HB9 : Hid (Below wo2.heap.size wo2 W9) := Lib.hid (HJ.out.1.trans (by first | exact ((((Below.refl wo2.heap.size wr).drew.alloc HJ.out.1.size _)).grown hgrow2 (by simp; have := HJ.out.1.size; omega) (fun k e => OwnB.ge HJ.out.2 e)) | exact ((((Below.refl wo2.heap.size wr).alloc HJ.out.1.size _).drew).grown hgrow2 (by simp; have := HJ.out.1.size; omega) (fun k e => OwnB.ge HJ.out.2 e))))
                           have HO9 : Hid (OwnB W9 wo2.heap.size v2 (outs S j ++ [b1, b2, b3, b4])) := Lib.hid (OwnB.append rfl hown2)
                           clear hown2 hgrow2))
                      all_goals
                        go_wp2
                        go_roundw
                        case rel => exact ⟨j + 1, by go_num, by omega, Lib.hid ⟨HB9.out, by rw [HOS.out, HBE.out]; exact HO9.out⟩⟩
                        case measure => simp [intOf]; omega
                    · obtain rfl : j = 8 := by omega
                      go_wp2
                      go_ret
                      exact ⟨_, rfl, own_mono' (by have := HJ.out.2; unfold OwnB at *; rw [← HSS.out] at this; exact this) (Nat.le_of_lt hwo2), HT.out.1.trans (HJ.out.1.mono (Nat.le_of_lt hwo2))⟩
            · have hij : j = (7 - i).toNat := by have := HQ.out.2.1; omega
              obtain rfl | rfl | rfl | rfl | rfl | rfl | rfl | rfl : i = 7 ∨ i = 6 ∨ i = 5 ∨ i = 4 ∨ i = 3 ∨ i = 2 ∨ i = 1 ∨ i = 0 := by omega
              all_goals (subst hij; simp only [Int.reduceSub, Int.reduceToNat] at HQ hQl)
              · have eb : (l.length : Int) * 8 / 72057594037927936 = (((ub ((l.length : Int) * 8 / 72057594037927936)).toNat : Nat) : Int) := by rw [ub_val]; omega
                have HL8 : Hid (lens l.length (0 + 1) = lens l.length 0 ++ [ub ((l.length : Int) * 8 / 72057594037927936)]) := Lib.hid (rfl)
                generalize ub ((l.length : Int) * 8 / 72057594037927936) = bb at *
                go_wp2_with (at_builtin; (refine wpList_append_any rfl (.tmp 39) (.tmp 48) 26 rfl wo.heap.size 5 i0 (.int .u8 0) 1 1 Tryz.underlying26 hi0 hz0 hz1 hz2 rfl (by decide) _ Q.length (bys Q) rfl (World.ownsRow.alloc HQ.out.2.2.2 _) _ 1 (bys [bb]) rfl (Bys.new wr [bb] 1 rfl (by decide)) (by unfold maxLen; omega) (by omega) (by simp; have := HQ.out.2.2.1.size; have := HSO.out; omega) ?_); intro v2 W2 hown2 hgrow2; have HBX : Hid (Below wo.heap.size wr W2) := Lib.hid (((Below.refl wo.heap.size wr).alloc (by have := HQ.out.2.2.1.size; have := HSO.out; omega) _).grown hgrow2 (by simp; have := HQ.out.2.2.1.size; have := HSO.out; omega) (fun k e => OwnB.ge HQ.out.2.2.2 e)); have HOX : Hid (OwnB W2 wo.heap.size v2 (Q ++ [bb])) := Lib.hid (OwnB.append rfl hown2); clear hown2 hgrow2)
                go_roundw
                case rel => exact ⟨0 + 1, _, 7 - 1, rfl, by omega, by rw [List.length_append]; show Q.length + 1 ≤ _; omega, Lib.hid ⟨by rw [HQ.out.1, HL8.out, List.append_assoc], by decide, HQ.out.2.2.1.trans (HBX.out), HOX.out⟩⟩
                case measure => simp [intOf]
              · have eb : (l.length : Int) * 8 / 281474976710656 = (((ub ((l.length : Int) * 8 / 281474976710656)).toNat : Nat) : Int) := by rw [ub_val]; omega
                have HL8 : Hid (lens l.length (1 + 1) = lens l.length 1 ++ [ub ((l.length : Int) * 8 / 281474976710656)]) := Lib.hid (rfl)
                generalize ub ((l.length : Int) * 8 / 281474976710656) = bb at *
                go_wp2_with (at_builtin; (refine wpList_append_any rfl (.tmp 39) (.tmp 48) 26 rfl wo.heap.size 5 i0 (.int .u8 0) 1 1 Tryz.underlying26 hi0 hz0 hz1 hz2 rfl (by decide) _ Q.length (bys Q) rfl (World.ownsRow.alloc HQ.out.2.2.2 _) _ 1 (bys [bb]) rfl (Bys.new wr [bb] 1 rfl (by decide)) (by unfold maxLen; omega) (by omega) (by simp; have := HQ.out.2.2.1.size; have := HSO.out; omega) ?_); intro v2 W2 hown2 hgrow2; have HBX : Hid (Below wo.heap.size wr W2) := Lib.hid (((Below.refl wo.heap.size wr).alloc (by have := HQ.out.2.2.1.size; have := HSO.out; omega) _).grown hgrow2 (by simp; have := HQ.out.2.2.1.size; have := HSO.out; omega) (fun k e => OwnB.ge HQ.out.2.2.2 e)); have HOX : Hid (OwnB W2 wo.heap.size v2 (Q ++ [bb])) := Lib.hid (OwnB.append rfl hown2); clear hown2 hgrow2)
                go_roundw
                case rel => exact ⟨1 + 1, _, 6 - 1, rfl, by omega, by rw [List.length_append]; show Q.length + 1 ≤ _; omega, Lib.hid ⟨by rw [HQ.out.1, HL8.out, List.append_assoc], by decide, HQ.out.2.2.1.trans (HBX.out), HOX.out⟩⟩
                case measure => simp [intOf]
              · have eb : (l.length : Int) * 8 / 1099511627776 = (((ub ((l.length : Int) * 8 / 1099511627776)).toNat : Nat) : Int) := by rw [ub_val]; omega
                have HL8 : Hid (lens l.length (2 + 1) = lens l.length 2 ++ [ub ((l.length : Int) * 8 / 1099511627776)]) := Lib.hid (rfl)
                generalize ub ((l.length : Int) * 8 / 1099511627776) = bb at *
                go_wp2_with (at_builtin; (refine wpList_append_any rfl (.tmp 39) (.tmp 48) 26 rfl wo.heap.size 5 i0 (.int .u8 0) 1 1 Tryz.underlying26 hi0 hz0 hz1 hz2 rfl (by decide) _ Q.length (bys Q) rfl (World.ownsRow.alloc HQ.out.2.2.2 _) _ 1 (bys [bb]) rfl (Bys.new wr [bb] 1 rfl (by decide)) (by unfold maxLen; omega) (by omega) (by simp; have := HQ.out.2.2.1.size; have := HSO.out; omega) ?_); intro v2 W2 hown2 hgrow2; have HBX : Hid (Below wo.heap.size wr W2) := Lib.hid (((Below.refl wo.heap.size wr).alloc (by have := HQ.out.2.2.1.size; have := HSO.out; omega) _).grown hgrow2 (by simp; have := HQ.out.2.2.1.size; have := HSO.out; omega) (fun k e => OwnB.ge HQ.out.2.2.2 e)); have HOX : Hid (OwnB W2 wo.heap.size v2 (Q ++ [bb])) := Lib.hid (OwnB.append rfl hown2); clear hown2 hgrow2)
                go_roundw
                case rel => exact ⟨2 + 1, _, 5 - 1, rfl, by omega, by rw [List.length_append]; show Q.length + 1 ≤ _; omega, Lib.hid ⟨by rw [HQ.out.1, HL8.out, List.append_assoc], by decide, HQ.out.2.2.1.trans (HBX.out), HOX.out⟩⟩
                case measure => simp [intOf]
              · have eb : ((l.length : Int) * 8 / 4294967296) % 256 = (((ub ((l.length : Int) * 8 / 4294967296)).toNat : Nat) : Int) := (ub_val _).symm
                have HL8 : Hid (lens l.length (3 + 1) = lens l.length 3 ++ [ub ((l.length : Int) * 8 / 4294967296)]) := Lib.hid (rfl)
                generalize ub ((l.length : Int) * 8 / 4294967296) = bb at *
                go_wp2_with (at_builtin; (refine wpList_append_any rfl (.tmp 39) (.tmp 48) 26 rfl wo.heap.size 5 i0 (.int .u8 0) 1 1 Tryz.underlying26 hi0 hz0 hz1 hz2 rfl (by decide) _ Q.length (bys Q) rfl (World.ownsRow.alloc HQ.out.2.2.2 _) _ 1 (bys [bb]) rfl (Bys.new wr [bb] 1 rfl (by decide)) (by unfold maxLen; omega) (by omega) (by simp; have := HQ.out.2.2.1.size; have := HSO.out; omega) ?_); intro v2 W2 hown2 hgrow2; have HBX : Hid (Below wo.heap.size wr W2) := Lib.hid (((Below.refl wo.heap.size wr).alloc (by have := HQ.out.2.2.1.size; have := HSO.out; omega) _).grown hgrow2 (by simp; have := HQ.out.2.2.1.size; have := HSO.out; omega) (fun k e => OwnB.ge HQ.out.2.2.2 e)); have HOX : Hid (OwnB W2 wo.heap.size v2 (Q ++ [bb])) := Lib.hid (OwnB.append rfl hown2); clear hown2 hgrow2)
                go_roundw
                case rel => exact ⟨3 + 1, _, 4 - 1, rfl, by omega, by rw [List.length_append]; show Q.length + 1 ≤ _; omega, Lib.hid ⟨by rw [HQ.out.1, HL8.out, List.append_assoc], by decide, HQ.out.2.2.1.trans (HBX.out), HOX.out⟩⟩
                case measure => simp [intOf]
              · have eb : ((l.length : Int) * 8 / 16777216) % 256 = (((ub ((l.length : Int) * 8 / 16777216)).toNat : Nat) : Int) := (ub_val _).symm
                have HL8 : Hid (lens l.length (4 + 1) = lens l.length 4 ++ [ub ((l.length : Int) * 8 / 16777216)]) := Lib.hid (rfl)
                generalize ub ((l.length : Int) * 8 / 16777216) = bb at *
                go_wp2_with (at_builtin; (refine wpList_append_any rfl (.tmp 39) (.tmp 48) 26 rfl wo.heap.size 5 i0 (.int .u8 0) 1 1 Tryz.underlying26 hi0 hz0 hz1 hz2 rfl (by decide) _ Q.length (bys Q) rfl (World.ownsRow.alloc HQ.out.2.2.2 _) _ 1 (bys [bb]) rfl (Bys.new wr [bb] 1 rfl (by decide)) (by unfold maxLen; omega) (by omega) (by simp; have := HQ.out.2.2.1.size; have := HSO.out; omega) ?_); intro v2 W2 hown2 hgrow2; have HBX : Hid (Below wo.heap.size wr W2) := Lib.hid (((Below.refl wo.heap.size wr).alloc (by have := HQ.out.2.2.1.size; have := HSO.out; omega) _).grown hgrow2 (by simp; have := HQ.out.2.2.1.size; have := HSO.out; omega) (fun k e => OwnB.ge HQ.out.2.2.2 e)); have HOX : Hid (OwnB W2 wo.heap.size v2 (Q ++ [bb])) := Lib.hid (OwnB.append rfl hown2); clear hown2 hgrow2)
                go_roundw
                case rel => exact ⟨4 + 1, _, 3 - 1, rfl, by omega, by rw [List.length_append]; show Q.length + 1 ≤ _; omega, Lib.hid ⟨by rw [HQ.out.1, HL8.out, List.append_assoc], by decide, HQ.out.2.2.1.trans (HBX.out), HOX.out⟩⟩
                case measure => simp [intOf]
              · have eb : ((l.length : Int) * 8 / 65536) % 256 = (((ub ((l.length : Int) * 8 / 65536)).toNat : Nat) : Int) := (ub_val _).symm
                have HL8 : Hid (lens l.length (5 + 1) = lens l.length 5 ++ [ub ((l.length : Int) * 8 / 65536)]) := Lib.hid (rfl)
                generalize ub ((l.length : Int) * 8 / 65536) = bb at *
                go_wp2_with (at_builtin; (refine wpList_append_any rfl (.tmp 39) (.tmp 48) 26 rfl wo.heap.size 5 i0 (.int .u8 0) 1 1 Tryz.underlying26 hi0 hz0 hz1 hz2 rfl (by decide) _ Q.length (bys Q) rfl (World.ownsRow.alloc HQ.out.2.2.2 _) _ 1 (bys [bb]) rfl (Bys.new wr [bb] 1 rfl (by decide)) (by unfold maxLen; omega) (by omega) (by simp; have := HQ.out.2.2.1.size; have := HSO.out; omega) ?_); intro v2 W2 hown2 hgrow2; have HBX : Hid (Below wo.heap.size wr W2) := Lib.hid (((Below.refl wo.heap.size wr).alloc (by have := HQ.out.2.2.1.size; have := HSO.out; omega) _).grown hgrow2 (by simp; have := HQ.out.2.2.1.size; have := HSO.out; omega) (fun k e => OwnB.ge HQ.out.2.2.2 e)); have HOX : Hid (OwnB W2 wo.heap.size v2 (Q ++ [bb])) := Lib.hid (OwnB.append rfl hown2); clear hown2 hgrow2)
                go_roundw
                case rel => exact ⟨5 + 1, _, 2 - 1, rfl, by omega, by rw [List.length_append]; show Q.length + 1 ≤ _; omega, Lib.hid ⟨by rw [HQ.out.1, HL8.out, List.append_assoc], by decide, HQ.out.2.2.1.trans (HBX.out), HOX.out⟩⟩
                case measure => simp [intOf]
              · have eb : ((l.length : Int) * 8 / 256) % 256 = (((ub ((l.length : Int) * 8 / 256)).toNat : Nat) : Int) := (ub_val _).symm
                have HL8 : Hid (lens l.length (6 + 1) = lens l.length 6 ++ [ub ((l.length : Int) * 8 / 256)]) := Lib.hid (rfl)
                generalize ub ((l.length : Int) * 8 / 256) = bb at *
                go_wp2_with (at_builtin; (refine wpList_append_any rfl (.tmp 39) (.tmp 48) 26 rfl wo.heap.size 5 i0 (.int .u8 0) 1 1 Tryz.underlying26 hi0 hz0 hz1 hz2 rfl (by decide) _ Q.length (bys Q) rfl (World.ownsRow.alloc HQ.out.2.2.2 _) _ 1 (bys [bb]) rfl (Bys.new wr [bb] 1 rfl (by decide)) (by unfold maxLen; omega) (by omega) (by simp; have := HQ.out.2.2.1.size; have := HSO.out; omega) ?_); intro v2 W2 hown2 hgrow2; have HBX : Hid (Below wo.heap.size wr W2) := Lib.hid (((Below.refl wo.heap.size wr).alloc (by have := HQ.out.2.2.1.size; have := HSO.out; omega) _).grown hgrow2 (by simp; have := HQ.out.2.2.1.size; have := HSO.out; omega) (fun k e => OwnB.ge HQ.out.2.2.2 e)); have HOX : Hid (OwnB W2 wo.heap.size v2 (Q ++ [bb])) := Lib.hid (OwnB.append rfl hown2); clear hown2 hgrow2)
                go_roundw
                case rel => exact ⟨6 + 1, _, 1 - 1, rfl, by omega, by rw [List.length_append]; show Q.length + 1 ≤ _; omega, Lib.hid ⟨by rw [HQ.out.1, HL8.out, List.append_assoc], by decide, HQ.out.2.2.1.trans (HBX.out), HOX.out⟩⟩
                case measure => simp [intOf]
              · have eb : ((l.length : Int) * 8) % 256 = (((ub ((l.length : Int) * 8)).toNat : Nat) : Int) := (ub_val _).symm
                have HL8 : Hid (lens l.length (7 + 1) = lens l.length 7 ++ [ub ((l.length : Int) * 8)]) := Lib.hid (by rw [show (l.length : Int) * 8 = (l.length : Int) * 8 / ((2 ^ (8 * (7 - 7)) : Nat) : Int) by simp]; rfl)
                generalize ub ((l.length : Int) * 8) = bb at *
                go_wp2_with (at_builtin; (refine wpList_append_any rfl (.tmp 39) (.tmp 48) 26 rfl wo.heap.size 5 i0 (.int .u8 0) 1 1 Tryz.underlying26 hi0 hz0 hz1 hz2 rfl (by decide) _ Q.length (bys Q) rfl (World.ownsRow.alloc HQ.out.2.2.2 _) _ 1 (bys [bb]) rfl (Bys.new wr [bb] 1 rfl (by decide)) (by unfold maxLen; omega) (by omega) (by simp; have := HQ.out.2.2.1.size; have := HSO.out; omega) ?_); intro v2 W2 hown2 hgrow2; have HBX : Hid (Below wo.heap.size wr W2) := Lib.hid (((Below.refl wo.heap.size wr).alloc (by have := HQ.out.2.2.1.size; have := HSO.out; omega) _).grown hgrow2 (by simp; have := HQ.out.2.2.1.size; have := HSO.out; omega) (fun k e => OwnB.ge HQ.out.2.2.2 e)); have HOX : Hid (OwnB W2 wo.heap.size v2 (Q ++ [bb])) := Lib.hid (OwnB.append rfl hown2); clear hown2 hgrow2)
                go_roundw
                case rel => exact ⟨7 + 1, _, 0 - 1, rfl, by omega, by rw [List.length_append]; show Q.length + 1 ≤ _; omega, Lib.hid ⟨by rw [HQ.out.1, HL8.out, List.append_assoc], by decide, HQ.out.2.2.1.trans (HBX.out), HOX.out⟩⟩
                case measure => simp [intOf]
        · have hb : ((((Q.length : Nat) : Int) % 64) != 56) = true := by
            have h2 := HQL.out
            have h3 := HDM.out.1
            have h4 : (l.length + 1 + j) % 64 ≠ 56 := fun h => hz (zn_first _ _ h hj)
            have : ((Q.length : Nat) : Int) % 64 ≠ 56 := by omega
            simp [this]
          have HZ := Lib.hid hz
          clear hz
          go_wp2_with (at_builtin; (refine wpList_append_any rfl (.tmp 32) (.tmp 33) 26 rfl wo.heap.size 5 i0 (.int .u8 0) 1 1 Tryz.underlying26 hi0 hz0 hz1 hz2 rfl (by decide) _ Q.length (bys Q) rfl (World.ownsRow.alloc HQ.out.2.2.2 _) _ 1 (bys [0]) rfl (Bys.new wr [0] 1 rfl (by decide)) (by unfold maxLen; omega) (by omega) (by simp; have := HQ.out.2.2.1.size; have := HSO.out; omega) ?_); intro v3 W3 hown3 hgrow3; have HBX : Hid (Below wo.heap.size wr W3) := Lib.hid (((Below.refl wo.heap.size wr).alloc (by have := HQ.out.2.2.1.size; have := HSO.out; omega) _).grown hgrow3 (by simp; have := HQ.out.2.2.1.size; have := HSO.out; omega) (fun k e => OwnB.ge HQ.out.2.2.2 e)); have HOX : Hid (OwnB W3 wo.heap.size v3 (Q ++ [0])) := Lib.hid (OwnB.append rfl hown3); clear hown3 hgrow3)
          obtain ⟨A3, c3, rfl⟩ := HOX.out.form
          go_roundw
          case rel => exact ⟨j + 1, Q ++ [0], by have := HZ.out; omega, by rw [List.length_append]; have := HQL.out; simp; omega, Lib.hid ⟨by rw [HQ.out.1, List.append_assoc, List.cons_append, ← List.replicate_succ'], trivial, HQ.out.2.2.1.trans HBX.out, HOX.out⟩⟩
          case measure => simp [lenV]; have := HQL.out; have := HDM.out.2; omega
end Go.Proofs.YtlkgeifmppadmaaGreat

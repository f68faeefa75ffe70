/- Bundles: the plain law: what is judged, what the law makes. No walk. A bundle as a value. A bundle whose row of cosignatures is one's own. No walk. What the law makes is small. No walk. Bundles as bytes: the plain law: what is read, what is written. No walk. Checkpoints, cosignatures and bundles as bytes: the plain law. No walk. The program's signatures are read: sign.some, Decode. Words for the rows of the bundle's laws: an argument that is a Draw, and bytes, opened. Conditions: as each theorem states them. -/
import Derived.Test.YtgeplpdcnanmnaaGreatZbn
import Derived.Test.YtgeplpdcnanmnaaGreatZaj
import Derived.Test.YtgeplpdcnanmnaaGreatZah
import Derived.Test.YtgeplpdcnanmnaaGreatZbj
import Derived.Test.YtgeplpdcnanmnaaGreatZaa
import Derived.Test.YtgeplpdcnanmnaaGreatZbi
import Derived.Test.YtgeplpdcnanmnaaGreatZaz
import Derived.Test.YtgeplpdcnanmnaaGreatZao
import Derived.Test.YtgeplpdcnanmnaaGreatZbe
import Derived.Test.YtgeplpdcnanmnaaGreatZaq
import Derived.Test.YtgeplpdcnanmnaaGreatZay
import Derived.Test.YtgeplpdcnanmnaaGreatZbc
import Derived.Test.YtgeplpdcnanmnaaGreatZal
import Derived.Test.YtgeplpdcnanmnaaGreatZap
import Derived.Deep.DeepCutAuto
import Derived.Test.YtgeplpdcnanmnaaGreatRows
import Derived.WalkKit
import Derived.ProofKit
import Derived.OpenShut
import Derived.Deep.Slices
import Derived.Deep.Fields
import Derived.ChangeSame
import Derived.Lib.SmallJoins
namespace Go.Proofs.YtgeplpdcnanmnaaGreat
open Go.RowKit
set_option linter.unusedVariables false
set_option linter.unusedSimpArgs false

structure BunD where
 man : List UInt8
 prf : PrD
 sg : SgD
 cos : List CgD
def prfOk (b : BunD) : Bool := decide (b.prf.size = b.sg.ck.num) && prfB b.prf (leafH b.man) b.sg.ck.root
def cntN (p : PolD) (b : BunD) : Nat := (seenN p b.sg.ck b.cos b.cos.length).length
def bchk (p : PolD) (b : BunD) : Int :=
 if polB p = false then 1 else if decB b.man = false then 12 else if ckVerB p.log b.sg = false then 30 else if prfOk b = false then 31 else if (cntN p b : Int) < p.quorum then 33 else 0
theorem bchk_pol {p : PolD} {b : BunD} (h : polB p = false) : bchk p b = 1 := by unfold bchk; rw [if_pos h]
theorem bchk_zero {p : PolD} {b : BunD} : bchk p b = 0 ↔ polB p = true ∧ decB b.man = true ∧ ckVerB p.log b.sg = true ∧ prfOk b = true ∧ p.quorum ≤ (cntN p b : Int) := by
 unfold bchk
 cases polB p
 ·simp
 cases decB b.man
 ·simp
 cases ckVerB p.log b.sg
 ·simp
 cases prfOk b
 ·simp
 by_cases h : (cntN p b : Int) < p.quorum
 ·simp [h]
 ·simp [h]; omega
theorem seenN_pol {p p' : PolD} (c : CkD) (gs : List CgD) (hp : polB p = true) (hp' : polB p' = true) (hw : p.wits = p'.wits) : ∀ n, seenN p c gs n = seenN p' c gs n
 | 0 => rfl
 | n + 1 => by
  have ih := seenN_pol c gs hp hp' hw n
  unfold seenN
  rw [ih]
  unfold cgVerB
  rw [hp, hp', hw]
theorem quorum_law (k : Nat) (h1 : 1 ≤ k) (h3 : k ≤ 3) (b : BunD) (q : Int) (hq : 1 ≤ q) (hq2 : q ≤ (k : Int)) (h : bchk (polS k q) b = 0) : q ≤ (b.cos.length : Int) ∧ ∀ q', 1 ≤ q' → q' ≤ q → bchk (polS k q') b = 0 := by
 obtain ⟨a1, a2, a3, a4, a5⟩ := bchk_zero.1 h
 have l5 : q ≤ (cntN (polS k q) b : Int) := a5
 have l6 : cntN (polS k q) b ≤ b.cos.length := seenN_le _ _ _ _
 refine ⟨by omega, fun q' h' hle => bchk_zero.2 ⟨pol_right k q' h1 h3 h' (by omega), a2, a3, a4, ?_⟩⟩
 have e : cntN (polS k q') b = cntN (polS k q) b := by
  unfold cntN
  rw [seenN_pol b.sg.ck b.cos (pol_right k q' h1 h3 h' (by omega)) a1 rfl]
 show q' ≤ (cntN (polS k q') b : Int)
 omega
theorem quorum_past (k : Nat) (b : BunD) : bchk (polS k ((k : Int) + 1)) b = 1 := by
 refine bchk_pol ?_
 have lw : (polS k ((k : Int) + 1)).wits.length = k := witS_length k
 have lq : (polS k ((k : Int) + 1)).quorum = (k : Int) + 1 := rfl
 unfold polB
 rw [lw, lq, decide_eq_false (show ¬ (k : Int) + 1 ≤ (k : Int) by omega)]
 simp
def nameL (n : Int) : List UInt8 :=
 if withinZ n 0 1000 % 4 = 0 then [112, 117, 109, 112] else if withinZ n 0 1000 % 4 = 1 then [118, 97, 108, 118, 101] else if withinZ n 0 1000 % 4 = 2 then [97] else [103, 97, 117, 103, 101, 111, 102, 116, 104, 101, 108, 111, 110, 103, 101, 115, 116, 110, 97, 109]
def manI (n v f : Int) : ManD := ⟨nameL n, 1 + withinZ v 0 100000 % 9, hashS f, [ub f]⟩
def itemI (n v f : Int) : List UInt8 := encM (manI n v f)
theorem nameL_ok (n : Int) : nameB (nameL n) = true := by
 unfold nameL
 split
 ·decide
 split
 ·decide
 split
 ·decide
 ·decide
theorem manI_ok (n v f : Int) : manB (manI n v f) = true := by
 have h : manB (manI n v f) = (nameB (nameL n) && (decide (0 < 1 + withinZ v 0 100000 % 9) && (decide ((hashS f).length = 32) && decide (([ub f] : List UInt8).length ≤ 64)))) := rfl
 rw [h, nameL_ok, hashS_length, decide_eq_true (show 0 < 1 + withinZ v 0 100000 % 9 by omega)]
 rfl
theorem itemI_ok (n v f : Int) : decB (itemI n v f) = true := (dec_enc _ (manI_ok n v f) (by show 1 + withinZ v 0 100000 % 9 < 4294967296; omega)).2
theorem nameL_length (n : Int) : (nameL n).length ≤ 20 := by
 unfold nameL
 split
 ·decide
 split
 ·decide
 split
 ·decide
 ·decide
theorem itemI_length (n v f : Int) : (itemI n v f).length ≤ 62 ∧ 1 ≤ (itemI n v f).length := by
 have h1 := nameL_length n
 have h2 := hashS_length f
 have h : (itemI n v f).length = 1 + (2 + ((nameL n).length + (4 + ((hashS f).length + (2 + 1))))) := by
  show (encM (manI n v f)).length = _
  unfold encM
  simp only [List.length_append, be4_length]
  rfl
 omega
structure DrD where
 leaves : Int
 leaf : Int
 cosigs : Int
 wrong : Int
 at' : Int
 turn : UInt8
def itemsL (n : Nat) : List (List UInt8) := (List.range n).map (fun i : Nat => itemI (i : Int) ((i : Int) / 4) ((i : Int) / 36))
theorem itemsL_succ (n : Nat) : itemsL (n + 1) = itemsL n ++ [itemI (n : Int) ((n : Int) / 4) ((n : Int) / 36)] := by simp [itemsL, List.range_succ]
theorem itemsL_length (n : Nat) : (itemsL n).length = n := by simp [itemsL]
theorem itemsL_get (n i : Nat) (h : i < n) : (itemsL n).getD i [] = itemI (i : Int) ((i : Int) / 4) ((i : Int) / 36) := by
 unfold itemsL
 rw [List.getD_eq_getElem?_getD, List.getElem?_map, List.getElem?_range h]
 rfl
def leavesL (l : List (List UInt8)) : List (List UInt8) := l.map leafH
theorem leavesL_length (l : List (List UInt8)) : (leavesL l).length = l.length := by simp [leavesL]
theorem leavesL_32 (l : List (List UInt8)) : ∀ x ∈ leavesL l, x.length = 32 := by
 intro x hx
 simp only [leavesL, List.mem_map] at hx
 obtain ⟨y, _, rfl⟩ := hx
 exact leafH_length y
def ckT (n : Nat) : CkD := ⟨(n : Int), rootL (leavesL (itemsL n))⟩
theorem ckT_ok (n : Nat) (h : n ≤ 256) : ckB (ckT n) = true := by
 have h1 : (ckT n).root.length = 32 := rootL_32 _ (leavesL_32 _)
 have h2 : (ckT n).num = (n : Int) := rfl
 unfold ckB
 rw [h1, h2, decide_eq_true (show (0 : Int) ≤ (n : Int) by omega), decide_eq_true (show (n : Int) ≤ 256 by omega)]
 rfl
def cosL (c : CkD) (ix : Int) (m : Nat) : List CgD := (List.range m).map (fun i : Nat => ⟨(i : Int), signS (seedS ((i : Int) + 1)) ix (bodyS tagCo c)⟩)
theorem cosL_succ (c : CkD) (ix : Int) (m : Nat) : cosL c ix (m + 1) = cosL c ix m ++ [⟨(m : Int), signS (seedS ((m : Int) + 1)) ix (bodyS tagCo c)⟩] := by simp [cosL, List.range_succ]
theorem cosL_length (c : CkD) (ix : Int) (m : Nat) : (cosL c ix m).length = m := by simp [cosL]
def rightT (n k m : Nat) : BunD := ⟨(itemsL n).getD k [], ⟨(k : Int), (n : Int), inclL (leavesL (itemsL n)) k⟩, ⟨ckT n, signS (seedS 0) ((n : Int) % 16) (bodyS tagCk (ckT n))⟩, cosL (ckT n) ((n : Int) % 16) m⟩
def zCg : CgD := ⟨0, ⟨0, [], []⟩⟩
def wrongD (b : BunD) (x : DrD) : BunD :=
 if x.wrong = 1 then { b with man := b.man.set (withinZ x.at' 0 ((b.man.length : Int) - 1)).toNat (b.man.getD (withinZ x.at' 0 ((b.man.length : Int) - 1)).toNat 0 ^^^ x.turn) }
 else if x.wrong = 2 then { b with prf := { b.prf with index := b.prf.index + 1 } }
 else if x.wrong = 3 then { b with prf := { b.prf with path := b.prf.path ++ [hashS 1] } }
 else if x.wrong = 4 then { b with sg := { b.sg with ck := { b.sg.ck with num := b.sg.ck.num - 1 } } }
 else if x.wrong = 5 then { b with sg := { b.sg with sig := { b.sg.sig with index := bits .xor .i64 b.sg.sig.index 1 } } }
 else if x.wrong = 6 then (if 0 < b.cos.length then { b with cos := b.cos.getD (b.cos.length - 1) zCg :: b.cos.take (b.cos.length - 1) ++ [b.cos.getD (b.cos.length - 1) zCg] } else b)
 else if x.wrong = 7 then (if 0 < b.cos.length then { b with cos := b.cos.set 0 { b.cos.getD 0 zCg with wit := 3 } } else b)
 else if x.wrong = 8 then { b with prf := { b.prf with size := b.prf.size + 1 } }
 else b
def drN (x : DrD) : Nat := (withinZ x.leaves 1 20).toNat
def drK (x : DrD) : Nat := (withinZ x.leaf 0 ((drN x : Int) - 1)).toNat
def drM (x : DrD) (k : Nat) : Nat := (withinZ x.cosigs 0 (k : Int)).toNat
def madeD (x : DrD) (k : Nat) : BunD := wrongD (rightT (drN x) (drK x) (drM x k)) x
theorem cg_ver (k : Nat) (q : Int) (hk : 1 ≤ k) (hk3 : k ≤ 3) (hq : 1 ≤ q) (hq2 : q ≤ (k : Int)) (c : CkD) (hc : ckB c = true) (i : Nat) (hi : i < k) (ix : Int) (h0 : 0 ≤ ix) (h1 : ix < 16) : cgVerB (polS k q) c ⟨(i : Int), signS (seedS ((i : Int) + 1)) ix (bodyS tagCo c)⟩ = true := by
 have hw : (polS k q).wits = witS k := rfl
 have hg : (witS k).getD i [] = ownerS (seedS ((i : Int) + 1)) := by
  unfold witS
  rw [List.getD_eq_getElem?_getD, List.getElem?_map, List.getElem?_range hi]
  rfl
 have hv := verify_of (seedS ((i : Int) + 1)) ix h0 h1 (bodyS tagCo c)
 unfold cgVerB
 rw [pol_right k q hk hk3 hq hq2, hc, hw, witS_length]
 show (true && (true && (decide (0 ≤ (i : Int)) && (decide ((i : Int) < ((k : Nat) : Int)) && verifyB ((witS k).getD (i : Int).toNat []) (bodyS tagCo c) (signS (seedS ((i : Int) + 1)) ix (bodyS tagCo c)))))) = true
 rw [Int.toNat_natCast, hg, hv, decide_eq_true (show (0 : Int) ≤ (i : Int) by omega), decide_eq_true (show (i : Int) < ((k : Nat) : Int) by omega)]
 rfl
theorem cosL_get (c : CkD) (ix : Int) (m i : Nat) (h : i < m) : (cosL c ix m).getD i ⟨0, ⟨0, [], []⟩⟩ = ⟨(i : Int), signS (seedS ((i : Int) + 1)) ix (bodyS tagCo c)⟩ := by
 unfold cosL
 rw [List.getD_eq_getElem?_getD, List.getElem?_map, List.getElem?_range h]
 rfl
theorem seen_made (k : Nat) (q : Int) (hk : 1 ≤ k) (hk3 : k ≤ 3) (hq : 1 ≤ q) (hq2 : q ≤ (k : Int)) (c : CkD) (hc : ckB c = true) (ix : Int) (h0 : 0 ≤ ix) (h1 : ix < 16) (m : Nat) (hm : m ≤ k) : ∀ j, j ≤ m → (seenN (polS k q) c (cosL c ix m) j).length = j ∧ ∀ y ∈ seenN (polS k q) c (cosL c ix m) j, y < (j : Int)
 | 0, _ => ⟨rfl, fun y hy => absurd hy (by simp [seenN])⟩
 | j + 1, hj => by
  obtain ⟨i1, i2⟩ := seen_made k q hk hk3 hq hq2 c hc ix h0 h1 m hm j (by omega)
  have hg := cosL_get c ix m j (by omega)
  have hv := cg_ver k q hk hk3 hq hq2 c hc j (by omega) ix h0 h1
  have e : seenN (polS k q) c (cosL c ix m) (j + 1) = (j : Int) :: seenN (polS k q) c (cosL c ix m) j := by
   show (if cgVerB (polS k q) c ((cosL c ix m).getD j ⟨0, ⟨0, [], []⟩⟩) = true ∧ ((cosL c ix m).getD j ⟨0, ⟨0, [], []⟩⟩).wit ∉ seenN (polS k q) c (cosL c ix m) j then ((cosL c ix m).getD j ⟨0, ⟨0, [], []⟩⟩).wit :: seenN (polS k q) c (cosL c ix m) j else seenN (polS k q) c (cosL c ix m) j) = _
   rw [hg, if_pos ⟨hv, fun h => by have := i2 _ h; exact absurd this (Int.lt_irrefl _)⟩]
  rw [e]
  refine ⟨by rw [List.length_cons, i1], fun y hy => ?_⟩
  rcases List.mem_cons.1 hy with rfl | hy
  ·omega
  ·have := i2 y hy; omega
theorem right_prf (n k m : Nat) (hk : k < n) (hn : n ≤ 256) : prfOk (rightT n k m) = true := by
 have hl : k < (leavesL (itemsL n)).length := by rw [leavesL_length, itemsL_length]; exact hk
 have h := prf_incl (leavesL (itemsL n)) k hl (leavesL_32 _) (by rw [leavesL_length, itemsL_length]; omega)
 have e1 : (leavesL (itemsL n))[k]'hl = leafH ((itemsL n).getD k []) := by
  have hi : k < (itemsL n).length := by rw [itemsL_length]; exact hk
  simp only [leavesL, List.getElem_map, List.getD_eq_getElem?_getD, List.getElem?_eq_getElem hi]
  rfl
 rw [leavesL_length, itemsL_length, e1] at h
 show (decide ((n : Int) = (n : Int)) && prfB ⟨(k : Int), (n : Int), inclL (leavesL (itemsL n)) k⟩ (leafH ((itemsL n).getD k [])) (rootL (leavesL (itemsL n)))) = true
 rw [h, decide_eq_true rfl]
 rfl
theorem right_sig (n k m j : Nat) (q : Int) (hn : n ≤ 256) : ckVerB (polS j q).log (rightT n k m).sg = true := by
 have h := verify_of (seedS 0) ((n : Int) % 16) (by omega) (by omega) (bodyS tagCk (ckT n))
 show (ckB (ckT n) && verifyB (ownerS (seedS 0)) (bodyS tagCk (ckT n)) (signS (seedS 0) ((n : Int) % 16) (bodyS tagCk (ckT n)))) = true
 rw [h, ckT_ok n hn]
 rfl
theorem right_man (n k m : Nat) (hk : k < n) : decB (rightT n k m).man = true := by
 show decB ((itemsL n).getD k []) = true
 rw [itemsL_get n k hk]
 exact itemI_ok _ _ _
theorem right_ok (n k m j : Nat) (q : Int) (hk : k < n) (hn : n ≤ 256) (hj : 1 ≤ j) (hj3 : j ≤ 3) (hq : 1 ≤ q) (hq2 : q ≤ (j : Int)) (hm : m ≤ j) : bchk (polS j q) (rightT n k m) = if (m : Int) < q then 33 else 0 := by
 have hc : cntN (polS j q) (rightT n k m) = m := by
  show (seenN (polS j q) (ckT n) (cosL (ckT n) ((n : Int) % 16) m) (cosL (ckT n) ((n : Int) % 16) m).length).length = m
  rw [cosL_length]
  exact (seen_made j q hj hj3 hq hq2 (ckT n) (ckT_ok n hn) ((n : Int) % 16) (by omega) (by omega) m hm m (Nat.le_refl _)).1
 have hq' : (polS j q).quorum = q := rfl
 unfold bchk
 rw [pol_right j q hj hj3 hq hq2, right_man n k m hk, right_sig n k m j q hn, right_prf n k m hk hn, hc, hq']
 simp
def drB : DrD := ⟨5, 2, 2, 0, 0, 0⟩
def drC : DrD := ⟨5, 2, 1, 6, 0, 0⟩
theorem known_b : bchk (polS 2 2) (madeD drB 2) = 0 := by
 have e : madeD drB 2 = rightT 5 2 2 := rfl
 rw [e, right_ok 5 2 2 2 2 (by decide) (by decide) (by decide) (by decide) (by decide) (by decide) (by decide)]
 decide
theorem known_c : bchk (polS 2 2) (madeD drC 2) = 33 := by
 have e : madeD drC 2 = { rightT 5 2 1 with cos := [⟨((0 : Nat) : Int), signS (seedS (((0 : Nat) : Int) + 1)) (((5 : Nat) : Int) % 16) (bodyS tagCo (ckT 5))⟩, ⟨((0 : Nat) : Int), signS (seedS (((0 : Nat) : Int) + 1)) (((5 : Nat) : Int) % 16) (bodyS tagCo (ckT 5))⟩] } := rfl
 have hv := cg_ver 2 2 (by decide) (by decide) (by decide) (by decide) (ckT 5) (ckT_ok 5 (by decide)) 0 (by decide) (((5 : Nat) : Int) % 16) (by decide) (by decide)
 have hm := right_man 5 2 1 (by decide)
 have hs := right_sig 5 2 1 2 2 (by decide)
 have hp := right_prf 5 2 1 (by decide) (by decide)
 have hpol := pol_right 2 2 (by decide) (by decide) (by decide) (by decide)
 rw [e]
 generalize signS (seedS (((0 : Nat) : Int) + 1)) (((5 : Nat) : Int) % 16) (bodyS tagCo (ckT 5)) = g at *
 have hc : cntN (polS 2 2) { rightT 5 2 1 with cos := [⟨((0 : Nat) : Int), g⟩, ⟨((0 : Nat) : Int), g⟩] } = 1 := by
  have e0 : seenN (polS 2 2) (ckT 5) [⟨((0 : Nat) : Int), g⟩, ⟨((0 : Nat) : Int), g⟩] 1 = [((0 : Nat) : Int)] := by
   show (if cgVerB (polS 2 2) (ckT 5) ⟨((0 : Nat) : Int), g⟩ = true ∧ ((0 : Nat) : Int) ∉ ([] : List Int) then _ else _) = _
   rw [if_pos ⟨hv, by simp⟩]
   rfl
  show (seenN (polS 2 2) (ckT 5) [⟨((0 : Nat) : Int), g⟩, ⟨((0 : Nat) : Int), g⟩] 2).length = 1
  show (if cgVerB (polS 2 2) (ckT 5) ⟨((0 : Nat) : Int), g⟩ = true ∧ ((0 : Nat) : Int) ∉ seenN (polS 2 2) (ckT 5) [⟨((0 : Nat) : Int), g⟩, ⟨((0 : Nat) : Int), g⟩] 1 then _ else seenN (polS 2 2) (ckT 5) [⟨((0 : Nat) : Int), g⟩, ⟨((0 : Nat) : Int), g⟩] 1).length = 1
  rw [e0, if_neg (by simp)]
  rfl
 unfold bchk
 have e1 : decB { rightT 5 2 1 with cos := [⟨((0 : Nat) : Int), g⟩, ⟨((0 : Nat) : Int), g⟩] }.man = true := hm
 have e2 : ckVerB (polS 2 2).log { rightT 5 2 1 with cos := [⟨((0 : Nat) : Int), g⟩, ⟨((0 : Nat) : Int), g⟩] }.sg = true := hs
 have e3 : prfOk { rightT 5 2 1 with cos := [⟨((0 : Nat) : Int), g⟩, ⟨((0 : Nat) : Int), g⟩] } = true := hp
 have hq' : (polS 2 2).quorum = 2 := rfl
 rw [hpol, e1, e2, e3, hc, hq']
 decide
def BunV (w : World) (v : Value) (b : BunD) : Prop := ∃ m p r q s c, v = .agg #[m, .int .i64 b.prf.index, .int .i64 b.prf.size, p, .int .i64 b.sg.ck.num, r, .int .i64 b.sg.sig.index, q, s, c] ∧ Bys w m b.man ∧ Rws w p b.prf.path ∧ Bys w r b.sg.ck.root ∧ Rws w q b.sg.sig.parts ∧ Rws w s b.sg.sig.path ∧ CgsV w c b.cos
def BunX (w : World) (m p r q s c : Value) (b : BunD) : Prop := Bys w m b.man ∧ Rws w p b.prf.path ∧ Bys w r b.sg.ck.root ∧ Rws w q b.sg.sig.parts ∧ Rws w s b.sg.sig.path ∧ CgsV w c b.cos
theorem BunX.below {w w1 : World} {m p r q s c : Value} {b : BunD} (h : BunX w m p r q s c b) (hb : Below w.heap.size w w1) : BunX w1 m p r q s c b := by
 obtain ⟨h1, h2, h3, h4, h5, h6⟩ := h
 exact ⟨h1.below hb, h2.below hb, h3.below hb, h4.below hb, h5.below hb, h6.below hb⟩
structure SmallBun (b : BunD) : Prop where
 man : b.man.length ≤ 1000000000
 path : b.prf.path.length ≤ 1000000000
 paths : ∀ x ∈ b.prf.path, x.length ≤ 1000000
 index : -1000000 ≤ b.prf.index ∧ b.prf.index ≤ 1000000
 size : -1000000 ≤ b.prf.size ∧ b.prf.size ≤ 60000
 num : -1000000 ≤ b.sg.ck.num ∧ b.sg.ck.num ≤ 1000000
 root : b.sg.ck.root.length ≤ 100000000
 sig : SmallSig b.sg.sig
 sigs : ∀ g ∈ b.cos, SmallSig g.sig
 cos : b.cos.length ≤ 1000000
 wits : ∀ g ∈ b.cos, -1000000 ≤ g.wit ∧ g.wit ≤ 1000000
def CosO (D : Nat → Prop) (w : World) (base : Nat) (v : Value) (ls : List CgD) : Prop := ∃ us, w.ownsRow base 89 4 v ls.length us ∧ CgRow (fun g => D g ∧ v.ownBlock ≠ some g) w us ls
theorem CosO.nil (D : Nat → Prop) (w : World) (base : Nat) : CosO D w base (.slice none 0 0) [] := ⟨[], World.ownsRow_nil _ _ _ _, CgRow.nil _ _⟩
theorem CosO.cgsv {D : Nat → Prop} {w : World} {base : Nat} {v : Value} {ls : List CgD} (h : CosO D w base v ls) : CgsV w v ls := by
 obtain ⟨us, h1, h2⟩ := h
 exact ⟨us, Sho.own h1, h2.mono (fun _ _ => True.intro)⟩
theorem CosO.form {D : Nat → Prop} {w : World} {base : Nat} {v : Value} {ls : List CgD} (h : CosO D w base v ls) : ∃ A c, v = .slice A ls.length c := h.cgsv.form
theorem CosO.chg {D : Nat → Prop} {w w1 : World} {base : Nat} {v : Value} {ls : List CgD} {S : Nat → Prop} (h : CosO D w base v ls) (hc : Chg w w1 S) (hS : ∀ g, g < w.heap.size → D g → v.ownBlock ≠ some g → ¬ S g) (hn : ∀ g, v.ownBlock = some g → ¬ S g) : CosO D w1 base v ls := by
 obtain ⟨us, h1, h2⟩ := h
 exact ⟨us, ownsRow_chg h1 hc hn, (h2.cut.chg hc (fun g hg => hS g hg.2 hg.1.1 hg.1.2)).mono (fun g hg => hg.1)⟩
theorem CosO.push {D : Nat → Prop} {w W : World} {base : Nat} {v v' : Value} {ls : List CgD} {us new : List Value} {g : CgD} (hr : CgRow (fun g => D g ∧ v.ownBlock ≠ some g) w us ls) (hn : CgRow (fun g => D g ∧ v.ownBlock ≠ some g) w new [g])
  (hown : W.ownsRow base 89 4 v' (ls.length + 1) (us ++ new)) (hc : Chg w W (fun k => v.ownBlock = some k)) (hlie : v'.ownBlock = v.ownBlock ∨ ∃ q, v'.ownBlock = some q ∧ w.heap.size ≤ q) : CosO D W base v' (ls ++ [g]) := by
 refine ⟨us ++ new, by rw [List.length_append]; exact hown, ?_⟩
 refine ((hr.snoc hn).cut.chg hc (fun k hk e => hk.1.2 e)).mono (fun x hx => ⟨hx.1.1, fun e => ?_⟩)
 rcases hlie with e1 | ⟨q, e1, hq⟩
 ·exact hx.1.2 (by rw [← e1]; exact e)
 ·rw [e1] at e
  injection e with e
  have := hx.2
  omega
def BunO (D : Nat → Prop) (w : World) (base : Nat) (m p r q s c : Value) (b : BunD) : Prop :=
 BysF (fun g => D g ∧ c.ownBlock ≠ some g) w m b.man ∧ RwsF (fun g => D g ∧ c.ownBlock ≠ some g) w p b.prf.path ∧ BysF (fun g => D g ∧ c.ownBlock ≠ some g) w r b.sg.ck.root ∧ RwsF (fun g => D g ∧ c.ownBlock ≠ some g) w q b.sg.sig.parts ∧ RwsF (fun g => D g ∧ c.ownBlock ≠ some g) w s b.sg.sig.path ∧ CosO D w base c b.cos
theorem BunO.chg {D : Nat → Prop} {w w1 : World} {base : Nat} {m p r q s c : Value} {b : BunD} {S : Nat → Prop} (h : BunO D w base m p r q s c b) (hc : Chg w w1 S) (hS : ∀ g, g < w.heap.size → D g → c.ownBlock ≠ some g → ¬ S g) (hn : ∀ g, c.ownBlock = some g → ¬ S g) : BunO D w1 base m p r q s c b := by
 obtain ⟨h1, h2, h3, h4, h5, h6⟩ := h
 exact ⟨(h1.cut.chg hc (fun g hg => hS g hg.2 hg.1.1 hg.1.2)).mono (fun g hg => hg.1), (h2.cut.chg hc (fun g hg => hS g hg.2 hg.1.1 hg.1.2)).mono (fun g hg => hg.1), (h3.cut.chg hc (fun g hg => hS g hg.2 hg.1.1 hg.1.2)).mono (fun g hg => hg.1), (h4.cut.chg hc (fun g hg => hS g hg.2 hg.1.1 hg.1.2)).mono (fun g hg => hg.1), (h5.cut.chg hc (fun g hg => hS g hg.2 hg.1.1 hg.1.2)).mono (fun g hg => hg.1), h6.chg hc hS hn⟩
theorem BunO.below {D : Nat → Prop} {w w1 : World} {base : Nat} {m p r q s c : Value} {b : BunD} (h : BunO D w base m p r q s c b) (hb : Below w.heap.size w w1) : BunO D w1 base m p r q s c b := h.chg (Chg.of_below (S := fun _ => False) hb) (fun _ _ _ _ h => h) (fun _ _ h => h)
theorem BunO.row {D : Nat → Prop} {w W : World} {base : Nat} {m p r q s c c' : Value} {b : BunD} {cos : List CgD} (h : BunO D w base m p r q s c b) (hc : Chg w W (fun k => c.ownBlock = some k)) (hlie : c'.ownBlock = c.ownBlock ∨ ∃ q, c'.ownBlock = some q ∧ w.heap.size ≤ q) (hn : CosO D W base c' cos) : BunO D W base m p r q s c' { b with cos := cos } := by
 obtain ⟨h1, h2, h3, h4, h5, h6⟩ := h
 have hT : ∀ g, (D g ∧ c.ownBlock ≠ some g) ∧ g < w.heap.size → D g ∧ c'.ownBlock ≠ some g := fun g hg => ⟨hg.1.1, fun e => by
  rcases hlie with e1 | ⟨q, e1, hq⟩
  ·exact hg.1.2 (by rw [← e1]; exact e)
  ·rw [e1] at e
   injection e with e
   have := hg.2
   omega⟩
 exact ⟨(h1.cut.chg hc (fun g hg e => hg.1.2 e)).mono hT, (h2.cut.chg hc (fun g hg e => hg.1.2 e)).mono hT, (h3.cut.chg hc (fun g hg e => hg.1.2 e)).mono hT, (h4.cut.chg hc (fun g hg e => hg.1.2 e)).mono hT, (h5.cut.chg hc (fun g hg e => hg.1.2 e)).mono hT, hn⟩
def CgsF (S : Nat → Prop) (w : World) (v : Value) (gs : List CgD) : Prop := ∃ us, Sho w v gs.length 4 us ∧ (0 < gs.length → ∀ g, v.ownBlock = some g → S g) ∧ CgRow S w us gs
theorem CgsF.cgsv {S : Nat → Prop} {w : World} {v : Value} {gs : List CgD} (h : CgsF S w v gs) : CgsV w v gs := by
 obtain ⟨us, h1, _, h2⟩ := h
 exact ⟨us, h1, h2.mono (fun _ _ => True.intro)⟩
theorem CgsF.chg {S T : Nat → Prop} {w w1 : World} {v : Value} {gs : List CgD} (h : CgsF S w v gs) (hc : Chg w w1 T) (hS : ∀ g, S g → ¬ T g) : CgsF S w1 v gs := by
 obtain ⟨us, h1, hf, h2⟩ := h
 exact ⟨us, h1.chgF hf hc hS, hf, h2.chg hc hS⟩
theorem CgsF.mono {S T : Nat → Prop} {w : World} {v : Value} {gs : List CgD} (h : CgsF S w v gs) (hS : ∀ g, S g → T g) : CgsF T w v gs := by
 obtain ⟨us, h1, hf, h2⟩ := h
 exact ⟨us, h1, fun h0 g hg => hS g (hf h0 g hg), h2.mono hS⟩
theorem CgsF.nil (S : Nat → Prop) (w : World) : CgsF S w (.slice none 0 0) [] := ⟨[], Sho.nil w 4, fun h => absurd h (Nat.lt_irrefl _), CgRow.nil _ _⟩
def BunF (S : Nat → Prop) (w : World) (m p r q s c : Value) (b : BunD) : Prop := BysF S w m b.man ∧ RwsF S w p b.prf.path ∧ BysF S w r b.sg.ck.root ∧ RwsF S w q b.sg.sig.parts ∧ RwsF S w s b.sg.sig.path ∧ CgsF S w c b.cos
theorem BunF.bunx {S : Nat → Prop} {w : World} {m p r q s c : Value} {b : BunD} (h : BunF S w m p r q s c b) : BunX w m p r q s c b := by
 obtain ⟨h1, h2, h3, h4, h5, h6⟩ := h
 exact ⟨h1.1, h2.rws, h3.1, h4.rws, h5.rws, h6.cgsv⟩
theorem BunF.chg {S T : Nat → Prop} {w w1 : World} {m p r q s c : Value} {b : BunD} (h : BunF S w m p r q s c b) (hc : Chg w w1 T) (hS : ∀ g, S g → ¬ T g) : BunF S w1 m p r q s c b := by
 obtain ⟨h1, h2, h3, h4, h5, h6⟩ := h
 exact ⟨h1.chg hc hS, h2.chg hc hS, h3.chg hc hS, h4.chg hc hS, h5.chg hc hS, h6.chg hc hS⟩
theorem BunF.mono {S T : Nat → Prop} {w : World} {m p r q s c : Value} {b : BunD} (h : BunF S w m p r q s c b) (hS : ∀ g, S g → T g) : BunF T w m p r q s c b := by
 obtain ⟨h1, h2, h3, h4, h5, h6⟩ := h
 exact ⟨h1.mono hS, h2.mono hS, h3.mono hS, h4.mono hS, h5.mono hS, h6.mono hS⟩
theorem BunF.below {S : Nat → Prop} {w w1 : World} {m p r q s c : Value} {b : BunD} (h : BunF S w m p r q s c b) (hb : Below w.heap.size w w1) : BunF S w1 m p r q s c b := h.chg (Chg.of_below (S := fun _ => False) hb) (fun _ _ h => h)
theorem BunO.foot {D : Nat → Prop} {w : World} {base : Nat} {m p r q s c : Value} {b : BunD} (h : BunO D w base m p r q s c b) (hD : ∀ g, base ≤ g → D g) : BunF (fun g => D g ∧ g < w.heap.size) w m p r q s c b := by
 obtain ⟨h1, h2, h3, h4, h5, us, h6, h7⟩ := h
 exact ⟨h1.cut.mono (fun g hg => ⟨hg.1.1, hg.2⟩), h2.cut.mono (fun g hg => ⟨hg.1.1, hg.2⟩), h3.cut.mono (fun g hg => ⟨hg.1.1, hg.2⟩), h4.cut.mono (fun g hg => ⟨hg.1.1, hg.2⟩), h5.cut.mono (fun g hg => ⟨hg.1.1, hg.2⟩), us, Sho.own h6, fun _ g hg => ⟨hD g (World.ownsRow.lt h6 g hg).1, (World.ownsRow.lt h6 g hg).2⟩, h7.cut.mono (fun g hg => ⟨hg.1.1, hg.2⟩)⟩
theorem BunF.own {D : Nat → Prop} {w : World} {base : Nat} {m p r q s : Value} {b : BunD} (h : BunF D w m p r q s (.slice none 0 0) b) (h0 : b.cos = []) : BunO D w base m p r q s (.slice none 0 0) b := by
 obtain ⟨h1, h2, h3, h4, h5, h6⟩ := h
 have hT : ∀ g, D g → D g ∧ (Value.slice none 0 0).ownBlock ≠ some g := fun g hg => ⟨hg, fun e => by cases e⟩
 exact ⟨h1.mono hT, h2.mono hT, h3.mono hT, h4.mono hT, h5.mono hT, by rw [h0]; exact CosO.nil _ _ _⟩
theorem Rws.cut {w : World} {v : Value} {ls : List (List UInt8)} (h : Rws w v ls) : RwsF (fun g => g < w.heap.size) w v ls := by
 obtain ⟨us, h1, h2⟩ := h
 exact ⟨us, h1, fun h0 g hg => h1.lt h0 g hg, fun i hi => by obtain ⟨u, e, hu⟩ := h2 i hi; exact ⟨u, e, hu, fun h0 g hg => Sho.lt hu h0 g hg⟩⟩
theorem Bys.cut {w : World} {v : Value} {l : List UInt8} (h : Bys w v l) : BysF (fun g => g < w.heap.size) w v l := ⟨h, fun h0 g hg => Sho.lt h h0 g hg⟩
def NoByte (cs : List Value) : Prop := ∀ (j : Nat) (u : Value), cs[j]? = some u → ∀ z : Int, u ≠ Value.int .u8 z
theorem Bys.apart {w : World} {v : Value} {l : List UInt8} {b : Nat} {t : TypeId} {cs : List Value} (h : Bys w v l) (hb : Blk w b t cs) (hcs : NoByte cs) (h0 : 0 < l.length) : v.ownBlock ≠ some b := by
 intro e
 obtain ⟨A, c, rfl⟩ := h.form
 obtain ⟨g, o, rfl, -, -, -, -, hc⟩ := h.place h0
 have e2 : g = b := by injection e
 subst e2
 have h1 := hc 0 h0
 unfold Blk at hb
 simp only [World.cell?, hb] at h1
 rw [List.getElem?_toArray] at h1
 exact hcs _ _ h1 _ rfl
theorem OwnV.apart {w : World} {base : Nat} {v : Value} {ls : List (List UInt8)} {b : Nat} {t : TypeId} {cs : List Value} (h : OwnV w base v ls) (hb : Blk w b t cs) (hcs : NoByte cs) (hlt : b < base) : RwsF (fun g => g ≠ b ∧ g < w.heap.size) w v ls := by
 obtain ⟨us, h1, h2⟩ := h
 exact ⟨us, Sho.own h1, fun _ g hg => ⟨fun e => by have := (World.ownsRow.lt h1 g hg).1; omega, (World.ownsRow.lt h1 g hg).2⟩, fun i hi => by obtain ⟨u, e, hu, _⟩ := h2 i hi; exact ⟨u, e, hu, fun h0 g hg => ⟨fun e2 => hu.apart hb hcs h0 (by rw [hg, e2]), Sho.lt hu h0 g hg⟩⟩⟩
theorem rwsF_push {S : Nat → Prop} {w W : World} {base : Nat} {v v' u : Value} {ls : List (List UInt8)} {l : List UInt8} {us : List Value} (hl : us.length = ls.length)
  (h1 : ∀ i (h : i < ls.length), ∃ u, us[i]? = some u ∧ Bys w u ls[i] ∧ (0 < ls[i].length → ∀ g, u.ownBlock = some g → S g ∧ v.ownBlock ≠ some g)) (hu : Bys w u l) (hun : 0 < l.length → ∀ g, u.ownBlock = some g → S g ∧ v.ownBlock ≠ some g)
  (ho : W.ownsRow base 24 1 v' (ls.length + 1) (us ++ [u])) (hc : Chg w W (fun k => v.ownBlock = some k)) (hS : ∀ g, base ≤ g → S g) : RwsF S W v' (ls ++ [l]) := by
 have keep : ∀ (x : Value) (m : List UInt8), Bys w x m → (0 < m.length → ∀ g, x.ownBlock = some g → S g ∧ v.ownBlock ≠ some g) → BysF S W x m := fun x m hx hn =>
  ⟨Sho.chgF hx (S := fun g => S g ∧ v.ownBlock ≠ some g) hn hc (fun g hg e => hg.2 e), fun h0 g hg => (hn h0 g hg).1⟩
 refine ⟨us ++ [u], by rw [List.length_append]; exact Sho.own ho, fun _ g hg => hS g (World.ownsRow.lt ho g hg).1, fun i hi => ?_⟩
 by_cases hi' : i < ls.length
 ·obtain ⟨x, e, hx, hn⟩ := h1 i hi'
  have k := keep x _ hx hn
  refine ⟨x, by rw [List.getElem?_append_left (by omega)]; exact e, ?_, ?_⟩
  ·rw [List.getElem_append_left hi']; exact k.1
  ·rw [List.getElem_append_left hi']; exact k.2
 ·have e : i = ls.length := by simp at hi; omega
  subst e
  have k := keep u l hu hun
  refine ⟨u, by rw [List.getElem?_append_right (by omega), hl]; simp, ?_, ?_⟩
  ·rw [List.getElem_append_right (Nat.le_refl _)]; simpa using k.1
  ·intro hp
   exact k.2 (by rw [List.getElem_append_right (Nat.le_refl _)] at hp; simpa using hp)
theorem CgRow.app {D : Nat → Prop} {w : World} {us new : List Value} {ls ms : List CgD} (h : CgRow D w us ls) (hn : CgRow D w new ms) : CgRow D w (us ++ new) (ls ++ ms) := by
 refine ⟨by rw [List.length_append, List.length_append, h.1, hn.1]; omega, fun i hi => ?_⟩
 have hl := h.1
 by_cases hlt : i < ls.length
 ·obtain ⟨p, q, h1, h2, h3, h4, h5, h6⟩ := h.2 i hlt
  rw [List.getElem_append_left hlt]
  refine ⟨p, q, ?_, ?_, ?_, ?_, h5, h6⟩
  ·rw [List.getElem?_append_left (by omega)]; exact h1
  ·rw [List.getElem?_append_left (by omega)]; exact h2
  ·rw [List.getElem?_append_left (by omega)]; exact h3
  ·rw [List.getElem?_append_left (by omega)]; exact h4
 ·obtain ⟨k, rfl⟩ : ∃ k, i = ls.length + k := ⟨i - ls.length, by omega⟩
  have hk : k < ms.length := by rw [List.length_append] at hi; omega
  obtain ⟨p, q, h1, h2, h3, h4, h5, h6⟩ := hn.2 k hk
  rw [List.getElem_append_right (by omega)]
  have e0 : ls.length + k - ls.length = k := by omega
  simp only [e0]
  have e2 : ∀ j, (us ++ new)[(ls.length + k) * 4 + j]? = new[k * 4 + j]? := fun j => by
   rw [List.getElem?_append_right (by omega)]
   congr 1
   omega
  exact ⟨p, q, (e2 0).trans h1, (e2 1).trans h2, (e2 2).trans h3, (e2 3).trans h4, h5, h6⟩
theorem CgRow.take {D : Nat → Prop} {w : World} {us : List Value} {ls : List CgD} (h : CgRow D w us ls) (n : Nat) (hn : n ≤ ls.length) : CgRow D w (us.take (n * 4)) (ls.take n) := by
 have hl := h.1
 refine ⟨by rw [List.length_take, List.length_take]; omega, fun i hi => ?_⟩
 have hi2 : i < n := by rw [List.length_take] at hi; omega
 obtain ⟨p, q, h1, h2, h3, h4, h5, h6⟩ := h.2 i (by omega)
 rw [List.getElem_take]
 refine ⟨p, q, ?_, ?_, ?_, ?_, h5, h6⟩
 ·rw [List.getElem?_take_of_lt (by omega)]; exact h1
 ·rw [List.getElem?_take_of_lt (by omega)]; exact h2
 ·rw [List.getElem?_take_of_lt (by omega)]; exact h3
 ·rw [List.getElem?_take_of_lt (by omega)]; exact h4
theorem CgRow.at1 {D : Nat → Prop} {w : World} {us : List Value} {ls : List CgD} (h : CgRow D w us ls) (i : Nat) (hi : i < ls.length) : ∃ P cp Q cq, us[i * 4]? = some (.int .i64 (ls.getD i zCg).wit) ∧ us[i * 4 + 1]? = some (.int .i64 (ls.getD i zCg).sig.index) ∧ us[i * 4 + 2]? = some (.slice P (ls.getD i zCg).sig.parts.length cp) ∧ us[i * 4 + 3]? = some (.slice Q (ls.getD i zCg).sig.path.length cq) ∧ RwsF D w (.slice P (ls.getD i zCg).sig.parts.length cp) (ls.getD i zCg).sig.parts ∧ RwsF D w (.slice Q (ls.getD i zCg).sig.path.length cq) (ls.getD i zCg).sig.path ∧
  CgRow D w [.int .i64 (ls.getD i zCg).wit, .int .i64 (ls.getD i zCg).sig.index, .slice P (ls.getD i zCg).sig.parts.length cp, .slice Q (ls.getD i zCg).sig.path.length cq] [ls.getD i zCg] := by
 obtain ⟨p, q, h1, h2, h3, h4, h5, h6⟩ := h.2 i hi
 have e : ls.getD i zCg = ls[i] := by rw [List.getD_eq_getElem?_getD, List.getElem?_eq_getElem hi]; rfl
 rw [e]
 obtain ⟨P, cp, rfl⟩ := h5.rws.form
 obtain ⟨Q, cq, rfl⟩ := h6.rws.form
 refine ⟨P, cp, Q, cq, h1, h2, h3, h4, h5, h6, rfl, fun j hj => ?_⟩
 obtain rfl : j = 0 := by simpa using hj
 exact ⟨_, _, rfl, rfl, rfl, rfl, h5, h6⟩
theorem CgRow.wit0 {D : Nat → Prop} {w : World} {us : List Value} {ls : List CgD} (h : CgRow D w us ls) (h0 : 0 < ls.length) (z : Int) : CgRow D w (us.set 0 (.int .i64 z)) (ls.set 0 { ls.getD 0 zCg with wit := z }) := by
 have hl := h.1
 refine ⟨by rw [List.length_set, List.length_set]; exact hl, fun i hi => ?_⟩
 have hi2 : i < ls.length := by rw [List.length_set] at hi; exact hi
 obtain ⟨p, q, h1, h2, h3, h4, h5, h6⟩ := h.2 i hi2
 by_cases e0 : i = 0
 ·subst e0
  have e : ls.getD 0 zCg = ls[0] := by rw [List.getD_eq_getElem?_getD, List.getElem?_eq_getElem h0]; rfl
  rw [List.getElem_set_self, e]
  refine ⟨p, q, ?_, ?_, ?_, ?_, h5, h6⟩
  ·rw [List.getElem?_set_self (by omega)]
  ·rw [List.getElem?_set_ne (by omega)]; exact h2
  ·rw [List.getElem?_set_ne (by omega)]; exact h3
  ·rw [List.getElem?_set_ne (by omega)]; exact h4
 ·rw [List.getElem_set_ne (by omega)]
  refine ⟨p, q, ?_, ?_, ?_, ?_, h5, h6⟩
  ·rw [List.getElem?_set_ne (by omega)]; exact h1
  ·rw [List.getElem?_set_ne (by omega)]; exact h2
  ·rw [List.getElem?_set_ne (by omega)]; exact h3
  ·rw [List.getElem?_set_ne (by omega)]; exact h4
theorem own_block {w : World} {base k n : Nat} {t : TypeId} {v : Value} {us : List Value} (h : w.ownsRow base t k v n us) (hn : 0 < n) : ∃ g cap rest, v = .slice (some ⟨g, 0, none⟩) n cap ∧ base ≤ g ∧ Blk w g t (us ++ rest) ∧ n ≤ cap ∧ cap ≤ maxLen ∧ us.length + rest.length = cap * k := by
 obtain ⟨hl, h2⟩ := h
 rcases h2 with ⟨_, h2⟩ | ⟨g, cap, cur, he, hb, hh, hle, hm, hs, ht⟩
 ·omega
 ·have hcl : cur.toList.length = cap * k := by rw [← hs]; exact Array.length_toList
  refine ⟨g, cap, cur.toList.drop (n * k), he, hb, ?_, hle, hm, ?_⟩
  ·unfold Blk
   rw [← ht, List.take_append_drop]
   exact hh
  ·rw [← ht, List.length_take, List.length_drop, hcl]
   have := Nat.mul_le_mul_right k hle
   omega
theorem sho_blk {w : World} {g cap n k : Nat} {t : TypeId} {cs rest : List Value} (hb : Blk w g t (cs ++ rest)) (hl : cs.length = n * k) (hc : n ≤ cap) (hm : cap ≤ maxLen) : Sho w (.slice (some ⟨g, 0, none⟩) n cap) n k cs :=
 ⟨hl, .inr ⟨g, 0, cap, rfl, hc, hm, hb.lt, fun j u hj => by
  rw [Nat.zero_add]
  refine hb.cell j u ?_
  rw [List.getElem?_append_left (List.getElem?_eq_some_iff.1 hj).1]
  exact hj⟩⟩
theorem CgRow.ones {D : Nat → Prop} {w : World} {us : List Value} {ls : List CgD} (h : CgRow D w us ls) : ∀ u ∈ us, u.oneCell' = true := by
 intro u hu
 obtain ⟨j, hj, e⟩ := List.getElem_of_mem hu
 have hl := h.1
 have hd : j / 4 < ls.length := by omega
 obtain ⟨p, q, h1, h2, h3, h4, h5, h6⟩ := h.2 (j / 4) hd
 have hu' : us[j]? = some u := by rw [List.getElem?_eq_getElem hj, e]
 obtain ⟨P, c1, rfl⟩ := h5.rws.form
 obtain ⟨Q, c2, rfl⟩ := h6.rws.form
 have hm : j = j / 4 * 4 ∨ j = j / 4 * 4 + 1 ∨ j = j / 4 * 4 + 2 ∨ j = j / 4 * 4 + 3 := by omega
 rcases hm with hm | hm | hm | hm
 ·rw [hm, h1] at hu'; injection hu' with hu'; subst hu'; rfl
 ·rw [hm, h2] at hu'; injection hu' with hu'; subst hu'; rfl
 ·rw [hm, h3] at hu'; injection hu' with hu'; subst hu'; rfl
 ·rw [hm, h4] at hu'; injection hu' with hu'; subst hu'; rfl
theorem rows_one {w : World} {us : List Value} {ls : List (List UInt8)} (hl : us.length = ls.length) (h : ∀ i (h : i < ls.length), ∃ u, us[i]? = some u ∧ Bys w u ls[i]) : ∀ u ∈ us, u.oneCell' = true := by
 intro u hu
 obtain ⟨j, hj, e⟩ := List.getElem_of_mem hu
 obtain ⟨x, h1, h2⟩ := h j (by omega)
 rw [List.getElem?_eq_getElem hj, e] at h1
 injection h1 with h1
 subst h1
 obtain ⟨A, c, rfl⟩ := h2.form
 rfl
theorem OwnV.apart2 {w : World} {base : Nat} {v : Value} {ls : List (List UInt8)} {b b' : Nat} {t t' : TypeId} {cs cs' : List Value} (h : OwnV w base v ls) (hb : Blk w b t cs) (hcs : NoByte cs) (hlt : b < base) (hb' : Blk w b' t' cs') (hcs' : NoByte cs') (hlt' : b' < base) : RwsF (fun g => g ≠ b ∧ g ≠ b') w v ls := by
 obtain ⟨us, h1, h2⟩ := h
 exact ⟨us, Sho.own h1, fun _ g hg => by have := (World.ownsRow.lt h1 g hg).1; exact ⟨by omega, by omega⟩, fun i hi => by obtain ⟨u, e, hu, _⟩ := h2 i hi; exact ⟨u, e, hu, fun h0 g hg => ⟨fun e2 => hu.apart hb hcs h0 (by rw [hg, e2]), fun e2 => hu.apart hb' hcs' h0 (by rw [hg, e2])⟩⟩⟩
theorem bun_cells {m p r q s c : Value} {a b d e : Int} (hm : ∀ z : Int, m ≠ Value.int .u8 z) (hp : ∀ z : Int, p ≠ Value.int .u8 z) (hr : ∀ z : Int, r ≠ Value.int .u8 z) (hq : ∀ z : Int, q ≠ Value.int .u8 z) (hs : ∀ z : Int, s ≠ Value.int .u8 z) (hc : ∀ z : Int, c ≠ Value.int .u8 z) : NoByte [m, .int .i64 a, .int .i64 b, p, .int .i64 d, r, .int .i64 e, q, s, c] := by
 intro j u hj z
 have hu : u ∈ [m, .int .i64 a, .int .i64 b, p, .int .i64 d, r, .int .i64 e, q, s, c] := List.mem_of_getElem? hj
 simp only [List.mem_cons, List.not_mem_nil, or_false] at hu
 rcases hu with rfl | rfl | rfl | rfl | rfl | rfl | rfl | rfl | rfl | rfl
 ·exact hm z
 ·intro h; injection h with h; cases h
 ·intro h; injection h with h; cases h
 ·exact hp z
 ·intro h; injection h with h; cases h
 ·exact hr z
 ·intro h; injection h with h; cases h
 ·exact hq z
 ·exact hs z
 ·exact hc z
theorem under_bun : Tryz.prog.underlying 42 = some (.struct (Tryz.prog.fieldsOf 42)) := by kernel_rfl
theorem size_bun : (Tryz.prog.info? 42).map (·.size) = some 10 := by kernel_rfl
theorem info_cosigB : (Tryz.prog.info? 89).map (fun i => (i.zero, i.size, i.bytes)) = some (some (.agg #[.int .i64 0, .int .i64 0, .slice none 0 0, .slice none 0 0]), 4, 64) := by kernel_rfl
theorem bunC_store {w : World} {zb : Nat} (hB : Blk w zb 42 [.slice none 0 0, .int .i64 0, .int .i64 0, .slice none 0 0, .int .i64 0, .slice none 0 0, .int .i64 0, .slice none 0 0, .slice none 0 0, .slice none 0 0]) (u0 u1 u2 u3 u4 u5 u6 u7 u8 u9 : Value) (W : World) (hW : W = ((((((((((w.setCell ⟨zb, 0, none⟩ u0).setCell ⟨zb, 1, none⟩ u1).setCell ⟨zb, 2, none⟩ u2).setCell ⟨zb, 3, none⟩ u3).setCell ⟨zb, 4, none⟩ u4).setCell ⟨zb, 5, none⟩ u5).setCell ⟨zb, 6, none⟩ u6).setCell ⟨zb, 7, none⟩ u7).setCell ⟨zb, 8, none⟩ u8).setCell ⟨zb, 9, none⟩ u9)) : Blk W zb 42 [u0, u1, u2, u3, u4, u5, u6, u7, u8, u9] ∧ Chg w W (fun k => k = zb) := by
 subst hW
 exact ⟨((((((((((hB.set 0 u0 (by simp)).set 1 u1 (by simp)).set 2 u2 (by simp)).set 3 u3 (by simp)).set 4 u4 (by simp)).set 5 u5 (by simp)).set 6 u6 (by simp)).set 7 u7 (by simp)).set 8 u8 (by simp)).set 9 u9 (by simp)), (chg_cell (chg_cell (chg_cell (chg_cell (chg_cell (chg_cell (chg_cell (chg_cell (chg_cell (chg_cell (Chg.refl _ _) 0 _) 1 _) 2 _) 3 _) 4 _) 5 _) 6 _) 7 _) 8 _) 9 _)⟩
structure TightB (b : BunD) : Prop where
 man : b.man.length ≤ 62
 path : b.prf.path.length ≤ 20
 paths : ∀ x ∈ b.prf.path, x.length ≤ 32
 index : 0 ≤ b.prf.index ∧ b.prf.index ≤ 20
 size : 0 ≤ b.prf.size ∧ b.prf.size ≤ 20
 num : 0 ≤ b.sg.ck.num ∧ b.sg.ck.num ≤ 20
 root : b.sg.ck.root.length ≤ 32
 sig : SmallSig b.sg.sig
 sigs : ∀ g ∈ b.cos, SmallSig g.sig
 cos : b.cos.length ≤ 10
 wits : ∀ g ∈ b.cos, 0 ≤ g.wit ∧ g.wit ≤ 10
theorem TightB.small {b : BunD} (h : TightB b) : SmallBun b :=
 ⟨by have := h.man; omega, by have := h.path; omega, fun x hx => by have := h.paths x hx; omega, by have := h.index; omega, by have := h.size; omega, by have := h.num; omega, by have := h.root; omega, h.sig, h.sigs, by have := h.cos; omega, fun g hg => by have := h.wits g hg; omega⟩
theorem cosL_mem {c : CkD} {ix : Int} {m : Nat} {g : CgD} (h : g ∈ cosL c ix m) : ∃ i : Nat, i < m ∧ g = ⟨(i : Int), signS (seedS ((i : Int) + 1)) ix (bodyS tagCo c)⟩ := by
 unfold cosL at h
 rw [List.mem_map] at h
 obtain ⟨i, hi, e⟩ := h
 exact ⟨i, List.mem_range.1 hi, e.symm⟩
theorem tight_right (n k m : Nat) (hn : n ≤ 20) (hk : k < n) (hm : m ≤ 10) : TightB (rightT n k m) := by
 have hl : (leavesL (itemsL n)).length = n := by rw [leavesL_length, itemsL_length]
 refine ⟨?_, ?_, ?_, ⟨?_, ?_⟩, ⟨?_, ?_⟩, ⟨?_, ?_⟩, ?_, ?_, ?_, ?_, ?_⟩
 ·show ((itemsL n).getD k []).length ≤ 62
  rw [itemsL_get n k hk]
  exact (itemI_length _ _ _).1
 ·show (inclL (leavesL (itemsL n)) k).length ≤ 20
  rw [incl_length _ k (by omega), hl]
  exact Nat.le_trans (longN_le n k) hn
 ·intro x hx
  have := incl_32 _ (leavesL (itemsL n)) k (Nat.le_refl _) (leavesL_32 _) x hx
  omega
 ·show (0 : Int) ≤ (k : Int); omega
 ·show (k : Int) ≤ 20; omega
 ·show (0 : Int) ≤ (n : Int); omega
 ·show (n : Int) ≤ 20; omega
 ·show (0 : Int) ≤ (n : Int); omega
 ·show (n : Int) ≤ 20; omega
 ·show (rootL (leavesL (itemsL n))).length ≤ 32
  rw [rootL_32 _ (leavesL_32 _)]
  exact Nat.le_refl _
 ·exact small_of (seedS 0) ((n : Int) % 16) (by omega) (by omega) _
 ·intro g hg
  obtain ⟨i, hi, rfl⟩ := cosL_mem hg
  exact small_of _ _ (by omega) (by omega) _
 ·show (cosL _ _ m).length ≤ 10
  rw [cosL_length]; exact hm
 ·intro g hg
  obtain ⟨i, hi, rfl⟩ := cosL_mem hg
  exact ⟨by show (0 : Int) ≤ (i : Int); omega, by show (i : Int) ≤ 10; omega⟩
theorem getD_memC (l : List CgD) (i : Nat) (h : i < l.length) : l.getD i zCg ∈ l := by
 rw [List.getD_eq_getElem?_getD, List.getElem?_eq_getElem h]
 exact List.getElem_mem h
theorem small_wrong {b : BunD} (x : DrD) (h : TightB b) : SmallBun (wrongD b x) := by
 have s := h.small
 obtain ⟨i0, i1⟩ := h.index
 obtain ⟨z0, z1⟩ := h.size
 obtain ⟨n0, n1⟩ := h.num
 unfold wrongD
 split
 ·refine { s with man := ?_ }
  show (b.man.set _ _).length ≤ _
  rw [List.length_set]
  exact s.man
 split
 ·refine { s with index := ?_ }
  show -1000000 ≤ b.prf.index + 1 ∧ b.prf.index + 1 ≤ 1000000
  omega
 split
 ·refine { s with path := ?_, paths := ?_ }
  ·show (b.prf.path ++ [hashS 1]).length ≤ _
   have := h.path
   simp; omega
  ·intro y hy
   have hy2 : y ∈ b.prf.path ++ [hashS 1] := hy
   rw [List.mem_append] at hy2
   rcases hy2 with h1 | h1
   ·exact s.paths y h1
   ·obtain rfl : y = hashS 1 := by simpa using h1
    rw [hashS_length]; decide
 split
 ·refine { s with num := ?_ }
  show -1000000 ≤ b.sg.ck.num - 1 ∧ b.sg.ck.num - 1 ≤ 1000000
  omega
 split
 ·exact { s with }
 split
 ·split
  ·rename_i h0
   have hl := getD_memC b.cos (b.cos.length - 1) (by omega)
   have hm : ∀ g ∈ b.cos.getD (b.cos.length - 1) zCg :: b.cos.take (b.cos.length - 1) ++ [b.cos.getD (b.cos.length - 1) zCg], g ∈ b.cos := by
    intro g hg
    rw [List.cons_append, List.mem_cons, List.mem_append, List.mem_singleton] at hg
    rcases hg with rfl | h1 | rfl
    ·exact hl
    ·exact List.mem_of_mem_take h1
    ·exact hl
   refine { s with sigs := fun g hg => s.sigs g (hm g hg), cos := ?_, wits := fun g hg => s.wits g (hm g hg) }
   show (b.cos.getD (b.cos.length - 1) zCg :: b.cos.take (b.cos.length - 1) ++ [b.cos.getD (b.cos.length - 1) zCg]).length ≤ _
   have := h.cos
   simp; omega
  ·exact s
 split
 ·split
  ·rename_i h0
   have hl := getD_memC b.cos 0 h0
   have hm : ∀ g ∈ b.cos.set 0 { b.cos.getD 0 zCg with wit := 3 }, SmallSig g.sig ∧ -1000000 ≤ g.wit ∧ g.wit ≤ 1000000 := by
    intro g hg
    rcases List.mem_or_eq_of_mem_set hg with h1 | rfl
    ·exact ⟨s.sigs g h1, s.wits g h1⟩
    ·exact ⟨show SmallSig (b.cos.getD 0 zCg).sig from s.sigs _ hl, by show -1000000 ≤ (3 : Int) ∧ (3 : Int) ≤ 1000000; omega⟩
   refine { s with sigs := fun g hg => (hm g hg).1, cos := ?_, wits := fun g hg => (hm g hg).2 }
   show (b.cos.set 0 _).length ≤ _
   rw [List.length_set]
   exact s.cos
  ·exact s
 split
 ·refine { s with size := ?_ }
  show -1000000 ≤ b.prf.size + 1 ∧ b.prf.size + 1 ≤ 60000
  omega
 ·exact s
theorem drN_le (x : DrD) : 1 ≤ drN x ∧ drN x ≤ 20 := by
 have := withinZ_ge x.leaves 1 20 (by omega)
 unfold drN
 omega
theorem drK_lt (x : DrD) : drK x < drN x := by
 have h1 := drN_le x
 have := withinZ_ge x.leaf 0 ((drN x : Int) - 1) (by omega)
 unfold drK
 omega
theorem drM_le (x : DrD) (k : Nat) : drM x k ≤ k := by
 have := withinZ_ge x.cosigs 0 (k : Int) (by omega)
 unfold drM
 omega
theorem small_made (x : DrD) (k : Nat) (hk : k ≤ 10) : SmallBun (madeD x k) :=
 small_wrong x (tight_right _ _ _ (drN_le x).2 (drK_lt x) (Nat.le_trans (drM_le x k) hk))
def someN (r : RdD) : Nat → RdD
 | 0 => r
 | n + 1 => rtakN (someN r n) 32
def someV (r : RdD) : Nat → List (List UInt8)
 | 0 => []
 | n + 1 => someV r n ++ [rtakV (someN r n) 32]
theorem someV_length (r : RdD) (n : Nat) : (someV r n).length = n := by
 induction n with
 | zero => rfl
 | succ n ih => show (someV r n ++ _).length = _; rw [List.length_append, ih]; rfl
theorem rtak_good (l : List UInt8) (n : Int) (h0 : 0 ≤ n) (h : n ≤ (l.length : Int)) : rtakV ⟨l, false⟩ n = l.take n.toNat ∧ rtakN ⟨l, false⟩ n = ⟨l.drop n.toNat, false⟩ := by
 have e : rtakB ⟨l, false⟩ n = true := by unfold rtakB; simp [h0, h]
 unfold rtakV rtakN
 rw [if_pos e, if_pos e]
 exact ⟨rfl, rfl⟩
theorem rtak_out (l : List UInt8) (b : Bool) (n : Int) (h : (l.length : Int) < n) : rtakV ⟨l, b⟩ n = [] ∧ rtakN ⟨l, b⟩ n = ⟨[], true⟩ := rtak_short (by unfold rtakB; simp; omega)
theorem someN_bad (l : List UInt8) (n : Nat) : someN ⟨l, true⟩ (n + 1) = ⟨[], true⟩ := by
 induction n with
 | zero => exact (rtak_bad 32 rfl).2
 | succ n ih => show rtakN (someN _ (n + 1)) 32 = _; rw [ih]; exact (rtak_bad 32 rfl).2
theorem someN_good (l : List UInt8) (n : Nat) : someN ⟨l, false⟩ n = if 32 * n ≤ l.length then ⟨l.drop (32 * n), false⟩ else ⟨[], true⟩ := by
 induction n with
 | zero => rw [if_pos (Nat.zero_le _)]; rfl
 | succ n ih =>
  show rtakN (someN ⟨l, false⟩ n) 32 = _
  rw [ih]
  by_cases h : 32 * n ≤ l.length
  ·rw [if_pos h]
   by_cases h2 : 32 * (n + 1) ≤ l.length
   ·rw [if_pos h2, (rtak_good _ 32 (by decide) (by rw [List.length_drop]; omega)).2, List.drop_drop]
    congr 1
   ·rw [if_neg h2, (rtak_out _ _ 32 (by rw [List.length_drop]; omega)).2]
  ·rw [if_neg h, if_neg (by omega), (rtak_bad 32 rfl).2]
theorem someV_32 (l : List UInt8) (n : Nat) (h : 32 * n ≤ l.length) : ∀ x ∈ someV ⟨l, false⟩ n, x.length = 32 := by
 induction n with
 | zero => intro x hx; exact absurd hx (by simp [someV])
 | succ n ih =>
  intro x hx
  rcases List.mem_append.1 (show x ∈ someV ⟨l, false⟩ n ++ [rtakV (someN ⟨l, false⟩ n) 32] from hx) with hx | hx
  ·exact ih (by omega) x hx
  ·rw [List.mem_singleton.1 hx, someN_good, if_pos (by omega), (rtak_good _ 32 (by decide) (by rw [List.length_drop]; omega)).1, List.length_take, List.length_drop]
   show min 32 _ = 32
   omega
def sdP (b : List UInt8) : SigD := ⟨rnumV ⟨b, false⟩ 4, someV (rtakN ⟨b, false⟩ 4) 64, someV (someN (rtakN ⟨b, false⟩ 4) 64) 4⟩
def sdR (b : List UInt8) : RdD := someN (someN (rtakN ⟨b, false⟩ 4) 64) 4
def sdB (b : List UInt8) : Bool := rend (sdR b) && rightB (sdP b)
theorem sdB_ref (b : List UInt8) : sdB b = (decide (b.length = 2180) && decide (rnumV ⟨b, false⟩ 4 < 16)) := by
 have hn := rnumV_lt ⟨b, false⟩ 4 (by decide)
 by_cases h4 : 4 ≤ b.length
 ·have e0 := (rtak_good b 4 (by decide) (by omega)).2
  have e1 := someN_good (b.drop 4) 64
  have hl : (b.drop (4 : Int).toNat).length = b.length - 4 := List.length_drop
  have hl' : (b.drop 4).length = b.length - 4 := List.length_drop
  by_cases h : b.length = 2180
  ·rw [if_pos (by omega)] at e1
   have e2 := someN_good ((b.drop 4).drop (32 * 64)) 4
   rw [if_pos (by rw [List.length_drop, hl']; omega)] at e2
   have er : sdR b = ⟨((b.drop 4).drop (32 * 64)).drop (32 * 4), false⟩ := by
    unfold sdR
    rw [e0]
    show someN (someN ⟨b.drop 4, false⟩ 64) 4 = _
    rw [e1, e2]
   have hr : rend (sdR b) = true := by
    rw [er]
    unfold rend
    simp only [List.length_drop]
    simp
    omega
   have h5 := someV_32 (b.drop 4) 64 (by omega)
   have h6 := someV_32 ((b.drop 4).drop (32 * 64)) 4 (by rw [List.length_drop, hl']; omega)
   have ep : sdP b = ⟨rnumV ⟨b, false⟩ 4, someV ⟨b.drop 4, false⟩ 64, someV ⟨(b.drop 4).drop (32 * 64), false⟩ 4⟩ := by
    unfold sdP
    rw [e0]
    show (⟨_, someV ⟨b.drop 4, false⟩ 64, someV (someN ⟨b.drop 4, false⟩ 64) 4⟩ : SigD) = _
    rw [e1]
   have a1 : (someV ⟨b.drop 4, false⟩ 64).all len32 = true := by
    rw [List.all_eq_true]; intro x hx; simp [len32, h5 x hx]
   have a2 : (someV ⟨(b.drop 4).drop (32 * 64), false⟩ 4).all len32 = true := by
    rw [List.all_eq_true]; intro x hx; simp [len32, h6 x hx]
   unfold sdB
   rw [hr, ep]
   unfold rightB
   rw [a1, a2, someV_length, someV_length, decide_eq_true h]
   show (true && (decide (0 ≤ rnumV ⟨b, false⟩ 4) && decide (rnumV ⟨b, false⟩ 4 < 16) && decide ((64 : Nat) = 64) && decide ((4 : Nat) = 4) && (true && true))) = (true && decide (rnumV ⟨b, false⟩ 4 < 16))
   rw [decide_eq_true (show 0 ≤ rnumV ⟨b, false⟩ 4 from hn.1)]
   simp
  ·rw [decide_eq_false h, Bool.false_and]
   unfold sdB
   have hr : rend (sdR b) = false := by
    unfold sdR
    rw [e0]
    show rend (someN (someN ⟨b.drop 4, false⟩ 64) 4) = false
    rw [e1]
    by_cases h64 : 32 * 64 ≤ (b.drop 4).length
    ·rw [if_pos h64, someN_good]
     split
     ·rename_i h7
      rw [List.length_drop, hl'] at h7
      unfold rend
      simp only [List.length_drop]
      simp
      omega
     ·rfl
    ·rw [if_neg h64, someN_bad]
     rfl
   rw [hr, Bool.false_and]
 ·have e0 := (rtak_out b false 4 (by omega)).2
  have hr : rend (sdR b) = false := by
   unfold sdR
   rw [e0, someN_bad, someN_bad]
   rfl
  unfold sdB
  rw [hr, Bool.false_and, decide_eq_false (by omega), Bool.false_and]
def sgGetR (r : RdD) : RdD := rtakN (rtakN (rtakN r 4) 32) 2180
def sgGetP (r : RdD) : SgD := ⟨⟨rnumV r 4, rtakV (rtakN r 4) 32⟩, sdP (rtakV (rtakN (rtakN r 4) 32) 2180)⟩
def sgGetB (r : RdD) : Bool := sdB (rtakV (rtakN (rtakN r 4) 32) 2180) && ckB ⟨rnumV r 4, rtakV (rtakN r 4) 32⟩
def cgGetR (r : RdD) : RdD := rtakN (rtakN r 1) 2180
def cgGetP (r : RdD) : CgD := ⟨rnumV r 1, sdP (rtakV (rtakN r 1) 2180)⟩
def cgGetB (r : RdD) : Bool := sdB (rtakV (rtakN r 1) 2180) && (decide (0 ≤ rnumV r 1) && decide (rnumV r 1 < 4))
theorem sdB_nil : sdB [] = false := by rw [sdB_ref]; rfl
theorem rtakN_bad (r : RdD) (n : Int) (h : r.bad = true) : (rtakN r n).bad = true := by rw [(rtak_bad n h).2]
theorem sgGet_bad {r : RdD} (h : (sgGetR r).bad = true) : sgGetB r = false := by
 unfold sgGetB
 by_cases hb : rtakB (rtakN (rtakN r 4) 32) 2180 = true
 ·exfalso
  have e : sgGetR r = ⟨(rtakN (rtakN r 4) 32).l.drop (2180 : Int).toNat, false⟩ := by unfold sgGetR; exact if_pos hb
  rw [e] at h
  exact Bool.noConfusion h
 ·rw [(rtak_short (by simpa using hb)).1, sdB_nil, Bool.false_and]
def cosN (r : RdD) : Nat → RdD
 | 0 => r
 | n + 1 => cgGetR (cosN r n)
def cosV (r : RdD) : Nat → List CgD
 | 0 => []
 | n + 1 => cosV r n ++ [cgGetP (cosN r n)]
def cosB (r : RdD) : Nat → Bool
 | 0 => true
 | n + 1 => cosB r n && cgGetB (cosN r n)
def bd1 (l : List UInt8) : RdD := rtxtR ⟨l, false⟩ 65535
def bd3 (l : List UInt8) : RdD := rtakN (rtakN (bd1 l) 4) 4
def bdK (l : List UInt8) : Nat := (rnumV (bd3 l) 1).toNat
def bd4 (l : List UInt8) : RdD := rtakN (bd3 l) 1
def bd5 (l : List UInt8) : RdD := someN (bd4 l) (bdK l)
def bd6 (l : List UInt8) : RdD := sgGetR (bd5 l)
def bdM (l : List UInt8) : Nat := (rnumV (bd6 l) 1).toNat
def bd7 (l : List UInt8) : RdD := rtakN (bd6 l) 1
def bd8 (l : List UInt8) : RdD := cosN (bd7 l) (bdM l)
def bdP (l : List UInt8) : BunD := ⟨rtxtV ⟨l, false⟩ 65535, ⟨rnumV (bd1 l) 4, rnumV (rtakN (bd1 l) 4) 4, someV (bd4 l) (bdK l)⟩, sgGetP (bd5 l), cosV (bd7 l) (bdM l)⟩
def numB (n : Int) : Bool := decide (0 ≤ n) && decide (n ≤ 256)
def bdB (l : List UInt8) : Bool := sgGetB (bd5 l) && (cosB (bd7 l) (bdM l) && (rend (bd8 l) && (numB (bdP l).prf.index && (numB (bdP l).prf.size && pathB (bdP l).prf.path))))
def zBun : BunD := ⟨[], ⟨0, 0, []⟩, ⟨⟨0, []⟩, ⟨0, [], []⟩⟩, []⟩
def bdV (l : List UInt8) : BunD := if bdB l = true then bdP l else zBun
theorem someN_length (r : RdD) (n : Nat) : (someN r n).l.length ≤ r.l.length := by
 induction n with
 | zero => exact Nat.le_refl _
 | succ n ih => exact Nat.le_trans (rtakN_length _ _) ih
theorem some_push {wr w2 W : World} {B g cap : Nat} {v : Value} {ls : List (List UInt8)} {x : List UInt8} {A1 : Option Addr} {c1 : Nat} (hO : OwnR wr B v ls) (hsz : B ≤ wr.heap.size) (hx : OwnB w2 wr.heap.size (.slice A1 x.length c1) x)
  {us : List Value} (hu : ∀ i (h : i < ls.length), ∃ u, us[i]? = some u ∧ Bys w2 u ls[i] ∧ (0 < ls[i].length → u.ownBlock ≠ v.ownBlock ∧ ∀ g, u.ownBlock = some g → B ≤ g)) (hl : us.length = ls.length)
  (ho : W.ownsRow B 24 1 (.slice (some ⟨g, 0, none⟩) (ls.length + 1) cap) (ls.length + 1) (us ++ [.slice A1 x.length c1])) (hg : (w2.alloc (.cells #[.slice A1 x.length c1] 24)).grownBy W v.ownBlock) (hlie : v.ownBlock = some g ∨ g = w2.heap.size + 1) :
  OwnR W B (.slice (some ⟨g, 0, none⟩) (ls.length + 1) cap) (ls ++ [x]) := by
 refine OwnR.push hu hl hx.bys (fun h0 => ⟨fun e => ?_, fun g hg => Nat.le_trans hsz (hx.ge hg)⟩) ho hg hlie
 cases hq : v.ownBlock with
 | none =>
  rw [hq] at e
  obtain ⟨g', o', e1, _⟩ := hx.bys.place h0
  subst e1
  cases e
 | some q =>
  have h1 := hO.lt hq
  rw [hq] at e
  have h2 := hx.ge e
  omega
def SmI (D : Nat → Prop) (w wr : World) (b : Nat) (r : RdD) (v : Value) (k : Nat) : Prop := Chg w wr (fun g => g = b) ∧ OwnR wr w.heap.size v (someV r k) ∧ RdW D wr b (someN r k)
set_option maxRecDepth 100000 in
set_option maxHeartbeats 4000000 in
theorem some_any (D : Nat → Prop) (b : Nat) (r : RdD) (n : Nat) (hn : n ≤ 1000) (hsm : r.l.length ≤ 1000000000) (w : World) (hD : ∀ g, D g → g < w.heap.size) (h : RdW D w b r) :
  Calls Tryz.prog 186 #[.pointer (some ⟨b, 0, none⟩), .int .i64 n] w fun e w' => ∃ v, e = .returned v ∧ OwnR w' w.heap.size v (someV r n) ∧ RdW D w' b (someN r n) ∧ Chg w w' (fun g => g = b) := by
 obtain ⟨i0, hi0, hz0, hz1, hz2⟩ := info_parts info_bytes
 have HD := Lib.hid hD
 have hbl := h.lt
 have HI0 : Hid (SmI D w w b r (.slice none 0 0) 0) := Lib.hid ⟨Chg.refl _ _, OwnR.nil _ _, h⟩
 have HRW := Lib.hid (fun (k : Nat) (wz : World) (z : RdW D wz b (someN r k)) => raw_any D b (someN r k) 32 (Nat.le_trans (someN_length r k) hsm) wz z)
 have HL := Lib.hid (fun k => someV_length r k)
 have HS : Hid (∀ k, someV r (k + 1) = someV r k ++ [rtakV (someN r k) 32] ∧ someN r (k + 1) = rtakN (someN r k) 32) := Lib.hid (fun k => ⟨rfl, rfl⟩)
 have HX : Hid (∀ k, (rtakV (someN r k) 32).length ≤ 32) := Lib.hid (fun k => by have := rtakV_n (someN r k) 32; omega)
 clear h hD
 go_enter Tryz.func186, Tryz.ntmps186
 go_wp2
 go_loopw [5, 7] (fun v5 v7 wr => ∃ k : Nat, v7 = .int .i64 k ∧ k ≤ n ∧ Hid (SmI D w wr b r v5 k)) (fun _ v _ => n - (intOf v).toNat)
 case atStart => exact ⟨0, rfl, Nat.zero_le _, HI0⟩
 case round =>
  clear HI0
  obtain ⟨k, rfl, hk, HJ⟩ := hrel
  by_cases hlt : k < n
  ·have hlti : (k : Int) < (n : Int) := by omega
   have HR := Lib.hid (HRW.out k wr HJ.out.2.2)
   have HSK := Lib.hid (HS.out k)
   have hal : (someV r k).length = k := HL.out k
   have HAL := Lib.hid hal
   have hal2 : (someV r k).length ≤ 1000 := by omega
   have HXK := Lib.hid (HX.out k)
   have hsz := HJ.out.1.size
   have HJ1 := Lib.hid HJ.out.2.1
   have HJ0 := Lib.hid HJ.out.1
   clear HJ hal
   obtain ⟨A8, c8, rfl⟩ := HJ1.out.rws.form
   generalize rtakV (someN r k) 32 = X at *
   generalize rtakN (someN r k) 32 = R2 at *
   generalize someV r k = L at *
   go_wp2_with fail
   refine HR.out.mono ?_
   rintro e w2 ⟨v2, rfl, h1, h2, h3⟩
   obtain ⟨A2, c2, rfl⟩ := h1.form
   obtain ⟨us, hu1, hu2⟩ := HJ1.out.chgT h3 (fun g hg _ e => by have e2 : g = b := e; omega)
   have H2 := Lib.hid (And.intro h1 (And.intro h2 (And.intro h3 (And.intro hu1 hu2))))
   have hsz2 := h3.size
   clear h1 h2 h3 hu1 hu2
   go_wp2_with (at_builtin; (refine wpList_append_lies _ rfl (.tmp 9) (.tmp 12) 28 rfl w.heap.size 24 i0 (.slice none 0 0) 1 24 Tryz.underlying28 hi0 hz0 hz1 hz2 rfl (by decide) _ L.length us rfl (World.ownsRow.alloc H2.out.2.2.2.1 _) ⟨w2.heap.size, 0, none⟩ 1 1 [.slice A2 X.length c2] rfl rfl (World.news_of_block (blk_new _ _)) (by simp [Value.oneCell']) (by decide) (by unfold maxLen; omega) (by omega) (by simp; omega) (w2.heap.size + 1) (by simp) ?_); intro g3 c3 W3 hown3 hgrow3 hlie3 hlt3)
   have HN : Hid (SmI D w W3 b r (.slice (some ⟨g3, 0, none⟩) (L.length + 1) c3) (k + 1)) := Lib.hid (by
    obtain ⟨q1, q2, q3, q4, q5⟩ := H2.out
    have hc5 : Chg w2 W3 (fun g => (Value.slice A8 L.length c8).ownBlock = some g) := ((Chg.refl w2 _).alloc _).trans (Chg.of_grown hgrow3) (fun i _ h => h.symm)
    have hge : ∀ g, (Value.slice A8 L.length c8).ownBlock = some g → w.heap.size ≤ g := fun g hg => HJ1.out.ge hg
    refine ⟨(HJ0.out.trans q3 (fun _ _ h => h)).trans (T := fun g => (Value.slice A8 L.length c8).ownBlock = some g) hc5 (fun i hi h => by have := hge i h; omega), ?_, ?_⟩
    ·rw [HSK.out.1]
     exact some_push HJ1.out hsz q1 q5 (by have := q4.1; omega) hown3 hgrow3 hlie3
    ·rw [HSK.out.2]
     exact q2.chg hc5 (fun g hg e => by have h1 := HD.out g hg; have h2 := hge g e; omega) (fun e => by have h2 := hge b e; omega))
   clear hown3 hgrow3 hlie3 hlt3
   go_roundw
   case rel => exact ⟨k + 1, by go_num, by omega, HN⟩
   case measure => simp [intOf]; omega
  ·obtain rfl : k = n := by omega
   have hnl : ¬ (k : Int) < (k : Int) := by omega
   obtain ⟨A8, c8, rfl⟩ := HJ.out.2.1.rws.form
   go_wp2
   go_ret
   exact ⟨_, rfl, HJ.out.2.1, HJ.out.2.2, HJ.out.1⟩
end Go.Proofs.YtgeplpdcnanmnaaGreat
namespace Go.Proofs.YtgeplpdcnanmnaaGreat.RowWords
open Go.ChangeShapes Go.WideShapes Go.ChangeAt Go.RowKit Go.Deep
set_option linter.unusedVariables false
section
variable {H : Type} {enc : TypeId × Value → H} {w : World} {base : Nat} {spare : Nat → Bool} {held : Bool}
theorem draw_struct : ∃ f0 f1 f2 f3 f4 f5 : Field, Tryz.prog.underlying 23 = some (.struct #[f0, f1, f2, f3, f4, f5]) ∧ (f0.type = 3 ∧ f1.type = 3 ∧ f2.type = 3 ∧ f3.type = 3 ∧ f4.type = 3 ∧ f5.type = 5) ∧ f0.offset = 0 ∧ f1.offset = 1 ∧ f2.offset = 2 ∧ f3.offset = 3 ∧ f4.offset = 4 ∧ f5.offset = 5 := ⟨_, _, _, _, _, _, Tryz.underlying23, ⟨rfl, rfl, rfl, rfl, rfl, rfl⟩, rfl, rfl, rfl, rfl, rfl, rfl⟩
theorem draw_size : Tryz.prog.cellsOf 23 = 6 := by kernel_rfl
theorem int20_size : Tryz.prog.cellsOf 3 = 1 := by kernel_rfl
theorem u820_size : Tryz.prog.cellsOf 5 = 1 := by kernel_rfl
theorem one_int20 {fuel : Nat} {cs : List Value} {x : DataW H × List MemPlace} (h : DataW.trod enc Tryz.prog w base spare held fuel 3 cs = some x) : ∃ n : Int, cs = [.int .i64 n] := by
 obtain ⟨n, e, _⟩ := DataW.trod_int Tryz.underlying3 h
 exact ⟨n, e⟩
theorem u8_of {n : Int} (h : (Lit.int .u8 n).wf = true) : ∃ b : UInt8, n = ((b.toNat : Nat) : Int) := by
 have h2 : 0 ≤ n ∧ n < 256 := by
  simp only [Lit.wf, Bool.and_eq_true, decide_eq_true_eq] at h
  have e1 : IntKind.u8.min = 0 := rfl
  have e2 : IntKind.u8.max = 255 := rfl
  omega
 exact ⟨UInt8.ofNat n.toNat, by rw [UInt8.toNat_ofNat']; omega⟩
theorem one_u820 {fuel : Nat} {cs : List Value} {x : DataW H × List MemPlace} (h : DataW.trod enc Tryz.prog w base spare held fuel 5 cs = some x) : ∃ b : UInt8, cs = [.int .u8 ((b.toNat : Nat) : Int)] := by
 obtain ⟨n, e, hx, hw⟩ := DataW.trod_int Tryz.underlying5 h
 obtain ⟨b, rfl⟩ := u8_of hw
 exact ⟨b, e⟩
set_option maxRecDepth 100000 in
theorem args_draw {r : Reach} {b0 : Nat} {v : Value} {d : DataW H} {p : List MemPlace} (hv : Value.okWide Tryz.prog w r b0 23 v) (h : DataW.Trod enc Tryz.prog w base spare held 23 v d p) :
  ∃ x : DrD, v = .agg #[.int .i64 x.leaves, .int .i64 x.leaf, .int .i64 x.cosigs, .int .i64 x.wrong, .int .i64 x.at', .int .u8 x.turn.toNat] := by
 obtain ⟨f0, f1, f2, f3, f4, f5, hs, ⟨e0, e1, e2, e3, e4, e5⟩, o0, o1, o2, o3, o4, o5⟩ := draw_struct
 obtain ⟨cs, rfl, hsz⟩ := okWide_struct hs hv
 obtain ⟨fuel, hf⟩ := h
 obtain ⟨ys, n', hn', hy, hlen, hyl, hfl⟩ := DataW.trod_struct hs hf
 have g0 := hfl 0 f0 rfl
 have g1 := hfl 1 f1 rfl
 have g2 := hfl 2 f2 rfl
 have g3 := hfl 3 f3 rfl
 have g4 := hfl 4 f4 rfl
 have g5 := hfl 5 f5 rfl
 rw [e0, o0, int20_size] at g0
 rw [e1, o1, int20_size] at g1
 rw [e2, o2, int20_size] at g2
 rw [e3, o3, int20_size] at g3
 rw [e4, o4, int20_size] at g4
 rw [e5, o5, u820_size] at g5
 rw [draw_size] at hsz
 obtain ⟨l⟩ := cs
 match l, hsz with
 | [c0, c1, c2, c3, c4, c5], _ =>
  have yk : ∀ k, k < 6 → ∃ y, ys[k]? = some y := fun k hk => ⟨_, List.getElem?_eq_getElem (by rw [hyl]; simpa using hk)⟩
  obtain ⟨y0, hy0⟩ := yk 0 (by decide)
  obtain ⟨y1, hy1⟩ := yk 1 (by decide)
  obtain ⟨y2, hy2⟩ := yk 2 (by decide)
  obtain ⟨y3, hy3⟩ := yk 3 (by decide)
  obtain ⟨y4, hy4⟩ := yk 4 (by decide)
  obtain ⟨y5, hy5⟩ := yk 5 (by decide)
  rw [hy0] at g0
  rw [hy1] at g1
  rw [hy2] at g2
  rw [hy3] at g3
  rw [hy4] at g4
  rw [hy5] at g5
  obtain ⟨n0, k0⟩ := one_int20 g0
  obtain ⟨n1, k1⟩ := one_int20 g1
  obtain ⟨n2, k2⟩ := one_int20 g2
  obtain ⟨n3, k3⟩ := one_int20 g3
  obtain ⟨n4, k4⟩ := one_int20 g4
  obtain ⟨n5, k5⟩ := one_u820 g5
  have k0' : c0 = .int .i64 n0 := by simpa [Value.cells] using k0
  have k1' : c1 = .int .i64 n1 := by simpa [Value.cells] using k1
  have k2' : c2 = .int .i64 n2 := by simpa [Value.cells] using k2
  have k3' : c3 = .int .i64 n3 := by simpa [Value.cells] using k3
  have k4' : c4 = .int .i64 n4 := by simpa [Value.cells] using k4
  have k5' : c5 = .int .u8 ((n5.toNat : Nat) : Int) := by simpa [Value.cells] using k5
  subst k0' k1' k2' k3' k4' k5'
  exact ⟨⟨n0, n1, n2, n3, n4, n5⟩, rfl⟩
theorem args_bytes {A : Option Addr} {len cap : Nat} {d : DataW H} {p : List MemPlace} (h : DataW.Trod enc Tryz.prog w base spare held 24 (.slice A len cap) d p) : ∃ l : List UInt8, l.length = len ∧ Bys w (.slice A len cap) l := by
 obtain ⟨fuel, hf⟩ := h
 rcases open_ints Tryz.underlying24 Tryz.underlying5 (by kernel_rfl) hf with ⟨hcs, _⟩ | ⟨x, l, c, zs, hcs, _, hl, hm, hz, _, hcell, hwz⟩
 ·simp [Value.cells] at hcs
  obtain ⟨rfl, rfl, rfl⟩ := hcs
  exact ⟨[], rfl, Sho.nil w 1⟩
 ·simp [Value.cells] at hcs
  obtain ⟨rfl, rfl, rfl⟩ := hcs
  have hle : len ≤ zs.length := by
   have hz' := hz
   split at hz'
   ·rw [hz']; exact hl
   ·rw [hz']; exact Nat.le_refl _
  have hex : ∀ n, n ≤ len → ∃ l : List UInt8, l.length = n ∧ ∀ k (hk : k < l.length), zs.getD k 0 = ((l[k].toNat : Nat) : Int) := by
   intro n
   induction n with
   | zero => exact fun _ => ⟨[], rfl, fun k hk => absurd hk (Nat.not_lt_zero _)⟩
   | succ n ih =>
    intro hn
    obtain ⟨l, hl, hc⟩ := ih (by omega)
    have hn2 : n < zs.length := by omega
    have hw := hwz (zs.getD n 0) (by rw [List.getD_eq_getElem?_getD, List.getElem?_eq_getElem hn2]; exact List.getElem_mem hn2)
    obtain ⟨b, hb⟩ := u8_of hw
    refine ⟨l ++ [b], by simp [hl], fun k hk => ?_⟩
    by_cases e : k < l.length
    ·rw [List.getElem_append_left e]; exact hc k e
    ·have : k = n := by simp at hk; omega
     subst this
     rw [List.getElem_append_right (by omega)]
     simp only [hl, Nat.sub_self, List.getElem_cons_zero]
     exact hb
  obtain ⟨l, hl2, hc⟩ := hex len (Nat.le_refl _)
  refine ⟨l, hl2, ?_⟩
  subst hl2
  refine ⟨by rw [bys_length, Nat.mul_one], ?_⟩
  rcases Nat.eq_zero_or_pos l.length with h0 | h0
  ·exact .inl ⟨h0, _, _, by rw [h0]⟩
  ·obtain ⟨b, off, rfl, hc2⟩ := ints_at hcell (by omega)
   refine .inr ⟨b, off, cap, rfl, hl, hm, World.block_lt_of_cell? w _ (hc2 0 (by omega)), fun j u hj => ?_⟩
   have hjl : j < l.length := by have := (List.getElem?_eq_some_iff.1 hj).1; rw [bys_length] at this; exact this
   rw [hc2 j (by omega), hc j hjl, ← hj, bys_at l j hjl]
end
end Go.Proofs.YtgeplpdcnanmnaaGreat.RowWords

/- Bytes that are read and written, and manifests: the plain law. No program in sight. Conditions: as each theorem states them. -/
import Derived.Test.YtgeplpdcnanmnaaGreatZae
namespace Go.Proofs.YtgeplpdcnanmnaaGreat
open Go.RowKit
set_option linter.unusedVariables false
set_option linter.unusedSimpArgs false

structure RdD where
 l : List UInt8
 bad : Bool
def rtakB (r : RdD) (n : Int) : Bool := !r.bad && (decide (0 ≤ n) && decide (n ≤ (r.l.length : Int)))
def rtakV (r : RdD) (n : Int) : List UInt8 := if rtakB r n = true then r.l.take n.toNat else []
def rtakN (r : RdD) (n : Int) : RdD := if rtakB r n = true then ⟨r.l.drop n.toNat, false⟩ else ⟨[], true⟩
def numL (bs : List UInt8) : Int := bs.foldl (fun v c => (v * 256 + ((c.toNat : Nat) : Int)) % 4294967296) 0
def rnumV (r : RdD) (n : Int) : Int := numL (rtakV r n)
def rtxtN (r : RdD) (most : Int) : Int := if most < rnumV r 2 then -1 else rnumV r 2
def rtxtV (r : RdD) (most : Int) : List UInt8 := rtakV (rtakN r 2) (rtxtN r most)
def rtxtR (r : RdD) (most : Int) : RdD := rtakN (rtakN r 2) (rtxtN r most)
def rend (r : RdD) : Bool := !r.bad && decide (r.l.length = 0)
theorem numL_bounds (bs : List UInt8) : 0 ≤ numL bs ∧ numL bs < 4294967296 := by
 have h : ∀ (bs : List UInt8) (a : Int), 0 ≤ a ∧ a < 4294967296 → 0 ≤ bs.foldl (fun v c => (v * 256 + ((c.toNat : Nat) : Int)) % 4294967296) a ∧ bs.foldl (fun v c => (v * 256 + ((c.toNat : Nat) : Int)) % 4294967296) a < 4294967296 := fun bs => by
  induction bs with
  | nil => intro a h; exact h
  | cons c bs ih => intro a h; exact ih _ (by show 0 ≤ (a * 256 + ((c.toNat : Nat) : Int)) % 4294967296 ∧ (a * 256 + ((c.toNat : Nat) : Int)) % 4294967296 < 4294967296; omega)
 exact h bs 0 (by decide)
theorem numL_snoc (bs : List UInt8) (c : UInt8) : numL (bs ++ [c]) = (numL bs * 256 + ((c.toNat : Nat) : Int)) % 4294967296 := by
 unfold numL
 rw [List.foldl_append]
 rfl
theorem numL_one (a : UInt8) : numL [a] = ((a.toNat : Nat) : Int) := by
 have h := a.toNat_lt
 show (0 * 256 + ((a.toNat : Nat) : Int)) % 4294967296 = _
 omega
theorem numL_two (a b : UInt8) : numL [a, b] = ((a.toNat : Nat) : Int) * 256 + ((b.toNat : Nat) : Int) := by
 have h := a.toNat_lt
 have h2 := b.toNat_lt
 show ((0 * 256 + ((a.toNat : Nat) : Int)) % 4294967296 * 256 + ((b.toNat : Nat) : Int)) % 4294967296 = _
 omega
theorem numL_four (a b c d : UInt8) : numL [a, b, c, d] = ((a.toNat : Nat) : Int) * 16777216 + ((b.toNat : Nat) : Int) * 65536 + ((c.toNat : Nat) : Int) * 256 + ((d.toNat : Nat) : Int) := by
 have h := a.toNat_lt
 have h2 := b.toNat_lt
 have h3 := c.toNat_lt
 have h4 := d.toNat_lt
 show ((((0 * 256 + ((a.toNat : Nat) : Int)) % 4294967296 * 256 + ((b.toNat : Nat) : Int)) % 4294967296 * 256 + ((c.toNat : Nat) : Int)) % 4294967296 * 256 + ((d.toNat : Nat) : Int)) % 4294967296 = _
 omega
def be1 (x : Int) : List UInt8 := [ub x]
def be2 (x : Int) : List UInt8 := [ub (x / 256), ub x]
theorem be1_num (x : Int) (h0 : 0 ≤ x) (h1 : x < 256) : numL (be1 x) = x := by
 unfold be1
 rw [numL_one, ub_val]
 omega
theorem be2_num (x : Int) (h0 : 0 ≤ x) (h1 : x < 65536) : numL (be2 x) = x := by
 unfold be2
 rw [numL_two, ub_val, ub_val]
 omega
theorem be4_num (x : Int) (h0 : 0 ≤ x) (h1 : x < 4294967296) : numL (be4 x) = x := by
 unfold be4
 rw [numL_four, ub_val, ub_val, ub_val, ub_val]
 omega
theorem rtak_app (a b : List UInt8) (n : Int) (h : n = (a.length : Int)) : rtakV ⟨a ++ b, false⟩ n = a ∧ rtakN ⟨a ++ b, false⟩ n = ⟨b, false⟩ := by
 subst h
 have e : rtakB ⟨a ++ b, false⟩ (a.length : Int) = true := by
  unfold rtakB
  simp
  omega
 unfold rtakV rtakN
 rw [if_pos e, if_pos e]
 simp
theorem rtak_short {r : RdD} {n : Int} (h : rtakB r n = false) : rtakV r n = [] ∧ rtakN r n = ⟨[], true⟩ := by
 unfold rtakV rtakN
 rw [h]
 exact ⟨rfl, rfl⟩
theorem rtak_bad {r : RdD} (n : Int) (h : r.bad = true) : rtakV r n = [] ∧ rtakN r n = ⟨[], true⟩ := rtak_short (by unfold rtakB; rw [h]; rfl)
theorem rtakV_length (r : RdD) (n : Int) : (rtakV r n).length ≤ r.l.length := by
 unfold rtakV
 split
 ·rw [List.length_take]; omega
 ·exact Nat.zero_le _
theorem rtakV_n (r : RdD) (n : Int) : ((rtakV r n).length : Int) ≤ max n 0 := by
 unfold rtakV
 split
 ·rw [List.length_take]; omega
 ·simp; omega
theorem rtakN_length (r : RdD) (n : Int) : (rtakN r n).l.length ≤ r.l.length := by
 unfold rtakN
 split
 ·rw [List.length_drop]; omega
 ·exact Nat.zero_le _
theorem rnum_app (a b : List UInt8) (n : Int) (h : n = (a.length : Int)) : rnumV ⟨a ++ b, false⟩ n = numL a := by
 unfold rnumV
 rw [(rtak_app a b n h).1]
theorem rtxt_app (x b : List UInt8) (most : Int) (h : (x.length : Int) ≤ most) (h2 : x.length < 65536) : rtxtV ⟨be2 x.length ++ (x ++ b), false⟩ most = x ∧ rtxtR ⟨be2 x.length ++ (x ++ b), false⟩ most = ⟨b, false⟩ := by
 have e := rtak_app (be2 (x.length : Int)) (x ++ b) 2 rfl
 have e1 : rnumV ⟨be2 (x.length : Int) ++ (x ++ b), false⟩ 2 = (x.length : Int) := by
  rw [rnum_app (be2 (x.length : Int)) _ 2 rfl, be2_num _ (by omega) (by omega)]
 have e2 : rtxtN ⟨be2 (x.length : Int) ++ (x ++ b), false⟩ most = (x.length : Int) := by
  unfold rtxtN
  rw [e1, if_neg (by omega)]
 unfold rtxtV rtxtR
 rw [e.2, e2]
 exact rtak_app x b _ rfl
structure ManD where
 name : List UInt8
 ver : Int
 fw : List UInt8
 notes : List UInt8
def nameB (s : List UInt8) : Bool := decide (1 ≤ s.length) && (decide (s.length ≤ 20) && s.all (fun c => decide (97 ≤ c.toNat ∧ c.toNat ≤ 122)))
def manB (m : ManD) : Bool := nameB m.name && (decide (0 < m.ver) && (decide (m.fw.length = 32) && decide (m.notes.length ≤ 64)))
def encM (m : ManD) : List UInt8 := be1 77 ++ (be2 m.name.length ++ (m.name ++ (be4 m.ver ++ (m.fw ++ (be2 m.notes.length ++ m.notes)))))
def decP (b : List UInt8) : ManD := ⟨rtxtV (rtakN ⟨b, false⟩ 1) 20, rnumV (rtxtR (rtakN ⟨b, false⟩ 1) 20) 4, rtakV (rtakN (rtxtR (rtakN ⟨b, false⟩ 1) 20) 4) 32, rtxtV (rtakN (rtakN (rtxtR (rtakN ⟨b, false⟩ 1) 20) 4) 32) 64⟩
def decR (b : List UInt8) : RdD := rtxtR (rtakN (rtakN (rtxtR (rtakN ⟨b, false⟩ 1) 20) 4) 32) 64
def decB (b : List UInt8) : Bool := decide (rnumV ⟨b, false⟩ 1 = 77) && (rend (decR b) && manB (decP b))
theorem dec_enc (m : ManD) (h : manB m = true) (hv : m.ver < 4294967296) : decP (encM m) = m ∧ decB (encM m) = true := by
 have h' := h
 unfold manB nameB at h'
 simp only [Bool.and_eq_true, decide_eq_true_eq] at h'
 obtain ⟨⟨n1, n2, n3⟩, v0, f0, t0⟩ := h'
 have e0 := rtak_app (be1 77) (be2 m.name.length ++ (m.name ++ (be4 m.ver ++ (m.fw ++ (be2 m.notes.length ++ m.notes))))) 1 rfl
 have e1 := rtxt_app m.name (be4 m.ver ++ (m.fw ++ (be2 m.notes.length ++ m.notes))) 20 (by omega) (by omega)
 have e2 := rtak_app (be4 m.ver) (m.fw ++ (be2 m.notes.length ++ m.notes)) 4 rfl
 have e3 := rtak_app m.fw (be2 m.notes.length ++ m.notes) 32 (by omega)
 have e4 := rtxt_app m.notes [] 64 (by omega) (by omega)
 rw [List.append_nil] at e4
 have d0 : rtakN ⟨encM m, false⟩ 1 = ⟨be2 m.name.length ++ (m.name ++ (be4 m.ver ++ (m.fw ++ (be2 m.notes.length ++ m.notes)))), false⟩ := e0.2
 have dk : rnumV ⟨encM m, false⟩ 1 = 77 := by
  unfold encM
  rw [rnum_app (be1 77) _ 1 rfl, be1_num 77 (by decide) (by decide)]
 have d1 : decP (encM m) = m := by
  unfold decP
  rw [d0, e1.1, e1.2, e2.2, e3.1, e3.2, e4.1, rnum_app (be4 m.ver) _ 4 rfl, be4_num _ (by omega) hv]
 refine ⟨d1, ?_⟩
 unfold decB
 rw [d1, h, dk]
 unfold decR
 rw [d0, e1.2, e2.2, e3.2, e4.2]
 rfl
end Go.Proofs.YtgeplpdcnanmnaaGreat

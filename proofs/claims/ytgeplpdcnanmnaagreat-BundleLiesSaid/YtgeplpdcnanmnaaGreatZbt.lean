/- bundle.Decode. Conditions: as each theorem states them. -/
import Derived.Test.YtgeplpdcnanmnaaGreatZbs
import Derived.Test.YtgeplpdcnanmnaaGreatZbo
import Derived.Test.YtgeplpdcnanmnaaGreatZaz
import Derived.Test.YtgeplpdcnanmnaaGreatZaa
namespace Go.Proofs.YtgeplpdcnanmnaaGreat
open Go.RowKit
set_option linter.unusedVariables false
set_option linter.unusedSimpArgs false

def bdE (l : List UInt8) : Int := if bdB l = true then 0 else 12
theorem under_bundle : Tryz.prog.underlying 42 = some (.struct (Tryz.prog.fieldsOf 42)) := by kernel_rfl
theorem size_bundle : (Tryz.prog.info? 42).map (·.size) = some 10 := by kernel_rfl
theorem info_cosig20 : (Tryz.prog.info? 89).map (fun i => (i.zero, i.size, i.bytes)) = some (some (.agg #[.int .i64 0, .int .i64 0, .slice none 0 0, .slice none 0 0]), 4, 64) := by kernel_rfl
theorem number_any2 (n : Int) (w : World) :
  Calls Tryz.prog 76 #[.int .i64 n] w fun e w' => e = .returned (.bool (numB n)) ∧ w = w' := by
 have HN : Hid (numB n = (decide (0 ≤ n) && decide (n ≤ 256))) := Lib.hid rfl
 generalize numB n = NB at *
 go_enter Tryz.func76, Tryz.ntmps76
 by_cases h0 : 0 ≤ n
 ·by_cases h1 : n ≤ 256
  ·go_wp2
   go_ret
   rw [HN.out]
   exact ⟨by simp; omega, rfl⟩
  ·go_wp2
   go_ret
   rw [HN.out]
   exact ⟨by simp; omega, rfl⟩
 ·go_wp2
  go_ret
  rw [HN.out]
  exact ⟨by simp; omega, rfl⟩
theorem cos_push {w2 W3 : World} {base : Nat} {v v' : Value} {ls : List CgD} {us new : List Value} {g : CgD} (hr : CgRow (fun g => base ≤ g ∧ g < w2.heap.size ∧ v.ownBlock ≠ some g) w2 us ls) (hn : CgRow (fun x => base ≤ x ∧ x < w2.heap.size ∧ v.ownBlock ≠ some x) w2 new [g])
  (hown : W3.ownsRow base 89 4 v' (ls.length + 1) (us ++ new)) (hc : Chg w2 W3 (fun k => v.ownBlock = some k)) (hlie : v'.ownBlock = v.ownBlock ∨ ∃ q, v'.ownBlock = some q ∧ w2.heap.size ≤ q) : OwnC W3 base v' (ls ++ [g]) := by
 have hs := hc.size
 refine ⟨us ++ new, by rw [List.length_append]; exact hown, ?_⟩
 refine ((hr.snoc hn).chg hc (fun k hk e => hk.2.2 e)).mono (fun x hx => ⟨hx.1, by have := hx.2.1; omega, fun e => ?_⟩)
 rcases hlie with e1 | ⟨q, e1, hq⟩
 ·exact hx.2.2 (by rw [← e1]; exact e)
 ·rw [e1] at e
  injection e with e
  have := hx.2.1
  omega
theorem bad_keeps (r : RdD) : ∀ (j n : Nat), j ≤ n → (someN r j).bad = true → (someN r n).bad = true := fun j n hjn h => by
  induction n with
  | zero => obtain rfl : j = 0 := by omega
            exact h
  | succ n ih =>
    by_cases e : j = n + 1
    · subst e; exact h
    · exact rtakN_bad _ 32 (ih (by omega))
theorem sgGet_bad0 {r : RdD} (h : r.bad = true) : sgGetB r = false := sgGet_bad (rtakN_bad _ 2180 (rtakN_bad _ 32 (rtakN_bad _ 4 h)))
theorem bdB_bad {l : List UInt8} (j : Nat) (hj : j ≤ bdK l) (h : (someN (bd4 l) j).bad = true) : bdB l = false := by
 have h5 : sgGetB (bd5 l) = false := sgGet_bad0 (bad_keeps (bd4 l) j (bdK l) hj h)
 unfold bdB
 rw [h5]
 rfl
theorem cosB_mono (r : RdD) : ∀ (i n : Nat), i ≤ n → cosB r i = false → cosB r n = false := fun i n hin h => by
  induction n with
  | zero => obtain rfl : i = 0 := by omega
            exact h
  | succ n ih =>
    by_cases e : i = n + 1
    · subst e; exact h
    · show (cosB r n && cgGetB (cosN r n)) = false
      rw [ih (by omega)]
      rfl
theorem cosN_length (r : RdD) (n : Nat) : (cosN r n).l.length ≤ r.l.length := by
 induction n with
 | zero => exact Nat.le_refl _
 | succ n ih => exact Nat.le_trans (rtakN_length _ _) (Nat.le_trans (rtakN_length _ _) ih)
theorem bun_store {w : World} {zb : Nat} (hB : Blk w zb 42 [.slice none 0 0, .int .i64 0, .int .i64 0, .slice none 0 0, .int .i64 0, .slice none 0 0, .int .i64 0, .slice none 0 0, .slice none 0 0, .slice none 0 0]) (u0 u1 u2 u3 u4 u5 u6 u7 u8 u9 : Value) (W : World) (hW : W = ((((((((((w.setCell ⟨zb, 0, none⟩ u0).setCell ⟨zb, 1, none⟩ u1).setCell ⟨zb, 2, none⟩ u2).setCell ⟨zb, 3, none⟩ u3).setCell ⟨zb, 4, none⟩ u4).setCell ⟨zb, 5, none⟩ u5).setCell ⟨zb, 6, none⟩ u6).setCell ⟨zb, 7, none⟩ u7).setCell ⟨zb, 8, none⟩ u8).setCell ⟨zb, 9, none⟩ u9)) : Blk W zb 42 [u0, u1, u2, u3, u4, u5, u6, u7, u8, u9] ∧ Chg w W (fun k => k = zb) := by
 subst hW
 exact ⟨((((((((((hB.set 0 u0 (by simp)).set 1 u1 (by simp)).set 2 u2 (by simp)).set 3 u3 (by simp)).set 4 u4 (by simp)).set 5 u5 (by simp)).set 6 u6 (by simp)).set 7 u7 (by simp)).set 8 u8 (by simp)).set 9 u9 (by simp)), (chg_cell (chg_cell (chg_cell (chg_cell (chg_cell (chg_cell (chg_cell (chg_cell (chg_cell (chg_cell (Chg.refl _ _) 0 _) 1 _) 2 _) 3 _) 4 _) 5 _) 6 _) 7 _) 8 _) 9 _)⟩
def Bl2 (D : Nat → Prop) (w10 wr : World) (rb bb B2 : Nat) (r : RdD) (m : Value) (IX SZ : Int) (pv : Value) (num : Int) (rv : Value) (ix : Int) (p q : Value) (i : Nat) : Prop := Chg w10 wr (fun k => k = rb ∨ k = bb ∨ B2 ≤ k) ∧ RdW D wr rb (cosN r i) ∧ ∃ A c ls, ls.length = i ∧ (cosB r i = true → ls = cosV r i) ∧ Blk wr bb 42 [m, .int .i64 IX, .int .i64 SZ, pv, .int .i64 num, rv, .int .i64 ix, p, q, .slice A i c] ∧ OwnC wr B2 (.slice A i c) ls
theorem sgO_of {r : RdD} (h : sgGetB r = true) : sgO r = sgGetP r := by unfold sgO; rw [if_pos h]
theorem cgO_of {r : RdD} (h : cgGetB r = true) : cgO r = cgGetP r := by unfold cgO; rw [if_pos h]
def StopP (p : Prop) : Prop := p
theorem stopP {p : Prop} (h : StopP p) : p := h
theorem bd_store5 {w : World} {b : Nat} {T : TypeId} {a0 a1 a2 a3 a4 a5 a6 a7 a8 a9 : Value} (h : Blk w b T [a0, a1, a2, a3, a4, a5, a6, a7, a8, a9]) (b4 b5 b6 b7 b8 : Value) (o : Obj) :
  Blk ((((((w.setCell ⟨b, 4, none⟩ b4).setCell ⟨b, 5, none⟩ b5).setCell ⟨b, 6, none⟩ b6).setCell ⟨b, 7, none⟩ b7).setCell ⟨b, 8, none⟩ b8).alloc o) b T [a0, a1, a2, a3, b4, b5, b6, b7, b8, a9] ∧
  Chg w ((((((w.setCell ⟨b, 4, none⟩ b4).setCell ⟨b, 5, none⟩ b5).setCell ⟨b, 6, none⟩ b6).setCell ⟨b, 7, none⟩ b7).setCell ⟨b, 8, none⟩ b8).alloc o) (fun k => k = b) := by
 have h4 := h.set 4 b4 (by simp)
 have h5 := h4.set 5 b5 (by simp)
 have h6 := h5.set 6 b6 (by simp)
 have h7 := h6.set 7 b7 (by simp)
 have h8 := h7.set 8 b8 (by simp)
 have c4 := chg_cell (Chg.refl w (fun k => k = b)) 4 b4
 have c5 := chg_cell c4 5 b5
 have c6 := chg_cell c5 6 b6
 have c7 := chg_cell c6 7 b7
 have c8 := chg_cell c7 8 b8
 exact ⟨h8.alloc o, c8.alloc o⟩
theorem bd_store4 {w : World} {b : Nat} {T : TypeId} {a0 a1 a2 a3 : Value} (h : Blk w b T [a0, a1, a2, a3]) (b0 b1 b2 b3 : Value) :
  Blk ((((w.setCell ⟨b, 0, none⟩ b0).setCell ⟨b, 1, none⟩ b1).setCell ⟨b, 2, none⟩ b2).setCell ⟨b, 3, none⟩ b3) b T [b0, b1, b2, b3] ∧
  Chg w ((((w.setCell ⟨b, 0, none⟩ b0).setCell ⟨b, 1, none⟩ b1).setCell ⟨b, 2, none⟩ b2).setCell ⟨b, 3, none⟩ b3) (fun k => k = b) := by
 have h4 := h.set 0 b0 (by simp)
 have h5 := h4.set 1 b1 (by simp)
 have h6 := h5.set 2 b2 (by simp)
 have h7 := h6.set 3 b3 (by simp)
 have c4 := chg_cell (Chg.refl w (fun k => k = b)) 0 b0
 have c5 := chg_cell c4 1 b1
 have c6 := chg_cell c5 2 b2
 have c7 := chg_cell c6 3 b3
 exact ⟨h7, c7⟩
theorem bd_fin (l : List UInt8) (j : Nat) (hj : j = bdK l ∨ ((someN (bd4 l) j).bad = true ∧ j ≤ bdK l)) (i : Nat) (hi : i = (rnumV (sgGetR (someN (bd4 l) j)) 1).toNat ∨ ((sgGetB (someN (bd4 l) j) && cosB (rtakN (sgGetR (someN (bd4 l) j)) 1) i) = false ∧ i ≤ (rnumV (sgGetR (someN (bd4 l) j)) 1).toNat)) :
  bdB l = ((sgGetB (someN (bd4 l) j) && cosB (rtakN (sgGetR (someN (bd4 l) j)) 1) i) && (rend (cosN (rtakN (sgGetR (someN (bd4 l) j)) 1) i) && (numB (rnumV (bd1 l) 4) && (numB (rnumV (rtakN (bd1 l) 4) 4) && pathB (someV (bd4 l) j))))) ∧ (bdB l = true → bdP l = ⟨rtxtV ⟨l, false⟩ 65535, ⟨rnumV (bd1 l) 4, rnumV (rtakN (bd1 l) 4) 4, someV (bd4 l) j⟩, sgGetP (someN (bd4 l) j), cosV (rtakN (sgGetR (someN (bd4 l) j)) 1) i⟩) := by
 rcases hj with rfl | ⟨hb, hle⟩
 ·have e5 : someN (bd4 l) (bdK l) = bd5 l := rfl
  rw [e5] at hi ⊢
  have e6 : sgGetR (bd5 l) = bd6 l := rfl
  rw [e6] at hi ⊢
  have e7 : rtakN (bd6 l) 1 = bd7 l := rfl
  rw [e7] at hi ⊢
  have hM : (rnumV (bd6 l) 1).toNat = bdM l := rfl
  rw [hM] at hi
  have hB : bdB l = (sgGetB (bd5 l) && (cosB (bd7 l) (bdM l) && (rend (bd8 l) && (numB (rnumV (bd1 l) 4) && (numB (rnumV (rtakN (bd1 l) 4) 4) && pathB (someV (bd4 l) (bdK l))))))) := rfl
  rcases hi with rfl | ⟨hf, hle⟩
  ·exact ⟨by rw [hB, Bool.and_assoc]; rfl, fun _ => rfl⟩
  ·have hB2 : bdB l = false := by
    rw [hB]
    cases hs : sgGetB (bd5 l) with
    | false => rfl
    | true =>
     rw [hs, Bool.true_and] at hf
     rw [cosB_mono _ _ _ hle hf]
     rfl
   exact ⟨by rw [hB2, hf]; rfl, fun h => by rw [hB2] at h; exact Bool.noConfusion h⟩
 ·have hs := sgGet_bad0 hb
  have hB2 := bdB_bad j hle hb
  exact ⟨by rw [hB2, hs]; rfl, fun h => by rw [hB2] at h; exact Bool.noConfusion h⟩
def Bl1 (D : Nat → Prop) (w5 wr : World) (rb bb B0 : Nat) (r : RdD) (m : Value) (IX SZ : Int) (j : Nat) : Prop := Chg w5 wr (fun k => k = rb ∨ k = bb ∨ B0 ≤ k) ∧ RdW D wr rb (someN r j) ∧ ∃ A c, Blk wr bb 42 [m, .int .i64 IX, .int .i64 SZ, .slice A j c, .int .i64 0, .slice none 0 0, .int .i64 0, .slice none 0 0, .slice none 0 0, .slice none 0 0] ∧ OwnR wr B0 (.slice A j c) (someV r j)
set_option maxRecDepth 100000 in
set_option maxHeartbeats 16000000 in
theorem bdec_any (v : Value) (l : List UInt8) (hsm : l.length ≤ 1000000000) (w : World) (hv : Bys w v l) :
  Calls Tryz.prog 28 #[v] w fun e w' => ∃ u, e = .returned (.tuple #[u, .int .i64 (bdE l)]) ∧ BunV w' u (bdV l) ∧ Below w.heap.size w w' := by
 obtain ⟨i0, hi0, hz0, hz1, hz2⟩ := info_parts info_bytes
 obtain ⟨A, c, rfl⟩ := hv.form
 have hz := (Below.refl w.heap.size w).alloc (Nat.le_refl _) (.cells #[.slice none 0 0, .int .i64 0, .int .i64 0, .slice none 0 0, .int .i64 0, .slice none 0 0, .int .i64 0, .slice none 0 0, .slice none 0 0, .slice none 0 0] 42)
 have HZ0 := Lib.hid (And.intro (Blk.new w 42 [.slice none 0 0, .int .i64 0, .int .i64 0, .slice none 0 0, .int .i64 0, .slice none 0 0, .int .i64 0, .slice none 0 0, .slice none 0 0, .slice none 0 0]) (And.intro hz (hv.below hz)))
 clear hz hv
 go_enter Tryz.func28, Tryz.ntmps28
 go_wp2_with fail
 refine calls_at (fun w0 => Blk w0 w.heap.size 42 [.slice none 0 0, .int .i64 0, .int .i64 0, .slice none 0 0, .int .i64 0, .slice none 0 0, .int .i64 0, .slice none 0 0, .slice none 0 0, .slice none 0 0] ∧ Below w.heap.size w w0 ∧ Bys w0 (.slice A l.length c) l) HZ0.out ?_
 rintro w0 ⟨k0, kb, kv⟩
 have hzl := k0.lt
 clear HZ0
 generalize hzb : w.heap.size = zb at *
 have HZB := Lib.hid hzb
 clear hzb
 refine (read_any _ l (by omega) w0 kv).mono ?_
 rintro e w1 ⟨rb, rfl, h1, h2, h3⟩
 have hzr : zb < rb := by omega
 have HZ := Lib.hid (k0.below h3)
 have HB := Lib.hid (kb.trans (h3.mono (by have := kb.size; omega)))
 have HR := Lib.hid h1
 clear h1 h2 h3 k0 kb kv hzl
 have HD : Hid (∀ g, (fun g => w0.heap.size ≤ g ∧ g < rb) g → g < rb) := Lib.hid (fun g h => h.2)
 generalize (fun g => w0.heap.size ≤ g ∧ g < rb) = D at *
 have hs1 : (bd1 l).l.length ≤ 1000000000 := Nat.le_trans (Nat.le_trans (rtakN_length _ _) (rtakN_length _ _)) hsm
 have hs2 : (rtakN (bd1 l) 4).l.length ≤ 1000000000 := Nat.le_trans (rtakN_length _ _) hs1
 have hs3 : (bd3 l).l.length ≤ 1000000000 := Nat.le_trans (rtakN_length _ _) hs2
 have hs4 : (bd4 l).l.length ≤ 1000000000 := Nat.le_trans (rtakN_length _ _) hs3
 have HBY := Lib.hid (fun (wz : World) (z : RdW D wz rb ⟨l, false⟩) => bytes_any D rb ⟨l, false⟩ 65535 (by decide) hsm wz z)
 have HN1 := Lib.hid (fun (wz : World) (z : RdW D wz rb (bd1 l)) => num_any D rb (bd1 l) hs1 wz z)
 have HN2 := Lib.hid (fun (wz : World) (z : RdW D wz rb (rtakN (bd1 l) 4)) => num_any D rb (rtakN (bd1 l) 4) hs2 wz z)
 have HN3 := Lib.hid (fun (wz : World) (z : RdW D wz rb (bd3 l)) => byte_any D rb (bd3 l) hs3 wz z)
 change Hid (∀ (wz : World), RdW D wz rb ⟨l, false⟩ → Calls Tryz.prog 89 #[.pointer (some ⟨rb, 0, none⟩), .int .i64 65535] wz fun e w' => ∃ v, e = .returned v ∧ OwnB w' wz.heap.size v (rtxtV ⟨l, false⟩ 65535) ∧ RdW D w' rb (bd1 l) ∧ Chg wz w' (fun k => k = rb)) at HBY
 change Hid (∀ (wz : World), RdW D wz rb (rtakN (bd1 l) 4) → Calls Tryz.prog 90 #[.pointer (some ⟨rb, 0, none⟩)] wz fun e w' => e = .returned (.int .u32 (rnumV (rtakN (bd1 l) 4) 4)) ∧ RdW D w' rb (bd3 l) ∧ Chg wz w' (fun k => k = rb)) at HN2
 change Hid (∀ (wz : World), RdW D wz rb (bd3 l) → Calls Tryz.prog 91 #[.pointer (some ⟨rb, 0, none⟩)] wz fun e w' => e = .returned (.int .u8 (rnumV (bd3 l) 1)) ∧ RdW D w' rb (bd4 l) ∧ Chg wz w' (fun k => k = rb)) at HN3
 have hv1 := rnumV_lt (bd1 l) 4 (by decide)
 have hv1a : 0 ≤ rnumV (bd1 l) 4 := hv1.1
 have hv1b : rnumV (bd1 l) 4 < 4294967296 := hv1.2
 have hv2 := rnumV_lt (rtakN (bd1 l) 4) 4 (by decide)
 have hv2a : 0 ≤ rnumV (rtakN (bd1 l) 4) 4 := hv2.1
 have hv2b : rnumV (rtakN (bd1 l) 4) 4 < 4294967296 := hv2.2
 have hv3 := rnumV_lt (bd3 l) 1 (by decide)
 have hv3a : 0 ≤ rnumV (bd3 l) 1 := hv3.1
 have hv3b : rnumV (bd3 l) 1 < 256 := hv3.2
 have hkn : rnumV (bd3 l) 1 = ((bdK l : Nat) : Int) := by unfold bdK; omega
 rw [hkn] at HN3 hv3b
 clear hv1 hv2 hv3 hs1 hs2 hs3 hv3a hkn
 have HFN := Lib.hid (bd_fin l)
 have hs4k := hs4
 have HBP : Hid (bdP l = ⟨rtxtV ⟨l, false⟩ 65535, ⟨rnumV (bd1 l) 4, rnumV (rtakN (bd1 l) 4) 4, someV (bd4 l) (bdK l)⟩, sgGetP (bd5 l), cosV (bd7 l) (bdM l)⟩) := Lib.hid rfl
 have HBB : Hid (bdB l = (sgGetB (bd5 l) && (cosB (bd7 l) (bdM l) && (rend (bd8 l) && (numB (rnumV (bd1 l) 4) && (numB (rnumV (rtakN (bd1 l) 4) 4) && pathB (someV (bd4 l) (bdK l)))))))) := Lib.hid rfl
 have HB5 : Hid (bd5 l = someN (bd4 l) (bdK l)) := Lib.hid rfl
 have HBAD := Lib.hid (fun (j : Nat) (hj : j ≤ bdK l) (h : (someN (bd4 l) j).bad = true) => bdB_bad j hj h)
 generalize rtxtV ⟨l, false⟩ 65535 = MN at *
 generalize rnumV (rtakN (bd1 l) 4) 4 = SZ at *
 generalize rnumV (bd1 l) 4 = IX at *
 generalize rtakN (bd1 l) 4 = r2 at *
 generalize bd1 l = r1 at *
 generalize bd3 l = r3 at *
 generalize bd4 l = r4 at *
 generalize bdK l = KN at *
 go_wp2_with fail
 refine (HBY.out _ HR.out).mono ?_
 rintro e w2 ⟨vm, rfl, h1, h2, h3⟩
 obtain ⟨M, cm, rfl⟩ := h1.form
 have hrl := HR.out.lt
 have HM := Lib.hid (h1.foot.mono (T := fun g => rb < g ∧ g < w2.heap.size) (fun g hg => ⟨Nat.lt_of_lt_of_le hrl hg.1, hg.2⟩))
 replace HR := Lib.hid h2
 replace HZ := Lib.hid (HZ.out.chg h3 (by omega))
 replace HB := Lib.hid (HB.out.trans (h3.below (by have := HB.out.size; have := HZB.out; omega) (fun k hk => by have h9 : k = rb := hk; omega)))
 clear h1 h2 h3 hrl HBY
 go_wp2_with fail
 refine calls_at (fun w3 => Blk w3 w2.heap.size 42 [.slice M MN.length cm, .int .i64 0, .int .i64 0, .slice none 0 0, .int .i64 0, .slice none 0 0, .int .i64 0, .slice none 0 0, .slice none 0 0, .slice none 0 0] ∧ Below w2.heap.size w2 w3) ⟨Blk.new _ _ [.slice M MN.length cm, .int .i64 0, .int .i64 0, .slice none 0 0, .int .i64 0, .slice none 0 0, .int .i64 0, .slice none 0 0, .slice none 0 0, .slice none 0 0], (Below.refl _ _).alloc (Nat.le_refl _) _⟩ ?_
 rintro w3 ⟨kS, kb⟩
 have hrb : rb < w2.heap.size := HR.out.lt
 have HBK := Lib.hid kS
 have hb3 := kS.lt
 replace HM := Lib.hid (HM.out.below kb)
 replace HR := Lib.hid (HR.out.below kb)
 replace HZ := Lib.hid (HZ.out.below kb)
 replace HB := Lib.hid (HB.out.trans (kb.mono (by have := HB.out.size; have := HZB.out; omega)))
 generalize w2.heap.size = bb at *
 clear kS kb
 refine (HN1.out _ HR.out).mono ?_
 rintro e w4 ⟨rfl, h1, h2⟩
 replace HM := Lib.hid (HM.out.chg h2 (fun g hg e => by have h9 := hg.1; have h8 : g = rb := e; omega))
 replace HR := Lib.hid h1
 replace HZ := Lib.hid (HZ.out.chg h2 (by omega))
 replace HBK := Lib.hid (HBK.out.chg h2 (by omega))
 replace HB := Lib.hid (HB.out.trans (h2.below (by have := HB.out.size; have := HZB.out; omega) (fun k hk => by have h9 : k = rb := hk; omega)))
 have hsz4 := h2.size
 clear h1 h2 HN1
 go_wp2_with fail
 refine (HN2.out _ HR.out).mono ?_
 rintro e w5 ⟨rfl, h1, h2⟩
 replace HM := Lib.hid (HM.out.chg h2 (fun g hg e => by have h9 := hg.1; have h8 : g = rb := e; omega))
 replace HR := Lib.hid h1
 replace HZ := Lib.hid (HZ.out.chg h2 (by omega))
 replace HBK := Lib.hid (HBK.out.chg h2 (by omega))
 replace HB := Lib.hid (HB.out.trans (h2.below (by have := HB.out.size; have := HZB.out; omega) (fun k hk => by have h9 : k = rb := hk; omega)))
 have hsz5 := h2.size
 clear h1 h2 HN2
 have y1 := HBK.out.free 1
 have y2 := HBK.out.free 2
 have z1 := HBK.out.cell 1 _ rfl
 have z2 := HBK.out.cell 2 _ rfl
 go_wp2_with fail
 refine calls_at (fun w6 => Blk w6 bb 42 [.slice M MN.length cm, .int .i64 IX, .int .i64 SZ, .slice none 0 0, .int .i64 0, .slice none 0 0, .int .i64 0, .slice none 0 0, .slice none 0 0, .slice none 0 0] ∧ Chg w5 w6 (fun k => k = bb)) ⟨(HBK.out.set 1 (.int .i64 IX) (by simp)).set 2 (.int .i64 SZ) (by simp), chg_cell (chg_cell (Chg.refl _ _) 1 _) 2 _⟩ ?_
 clear y1 y2 z1 z2
 rintro w6 ⟨kS, h2⟩
 replace HM := Lib.hid (HM.out.chg h2 (fun g hg e => by have h9 := hg.2; have h8 : g = bb := e; omega))
 replace HR := Lib.hid (HR.out.chg h2 (fun g hg e => by have h9 := HD.out g hg; have h8 : g = bb := e; omega) (by omega))
 replace HZ := Lib.hid (HZ.out.chg h2 (by omega))
 replace HBK := Lib.hid kS
 replace HB := Lib.hid (HB.out.trans (h2.below (by have := HB.out.size; have := HZB.out; omega) (fun k hk => by have h9 : k = bb := hk; omega)))
 have hsz6 := h2.size
 clear kS h2
 refine (HN3.out _ HR.out).mono ?_
 rintro e w7 ⟨rfl, h1, h2⟩
 replace HM := Lib.hid (HM.out.chg h2 (fun g hg e => by have h9 := hg.1; have h8 : g = rb := e; omega))
 replace HR := Lib.hid h1
 replace HZ := Lib.hid (HZ.out.chg h2 (by omega))
 replace HBK := Lib.hid (HBK.out.chg h2 (by omega))
 replace HB := Lib.hid (HB.out.trans (h2.below (by have := HB.out.size; have := HZB.out; omega) (fun k hk => by have h9 : k = rb := hk; omega)))
 have hsz7 := h2.size
 have hbB : bb < w7.heap.size := HBK.out.lt
 clear h1 h2 HN3 hsz4 hsz5 hsz6 hsz7 hb3
 generalize hB0 : w7.heap.size = B0 at *
 have HB0 := Lib.hid hB0
 have hsm4 := hs4
 clear hB0 hs4
 have HL0 : Hid (Bl1 D w7 w7 rb bb B0 r4 (.slice M MN.length cm) IX SZ 0) := Lib.hid ⟨Chg.refl _ _, HR.out, none, 0, HBK.out, OwnR.nil _ _⟩
 have HRW := Lib.hid (fun (k : Nat) (wz : World) (z : RdW D wz rb (someN r4 k)) => raw_any D rb (someN r4 k) 32 (Nat.le_trans (someN_length r4 k) hsm4) wz z)
 have HLV := Lib.hid (fun k => someV_length r4 k)
 have HSS : Hid (∀ k, someV r4 (k + 1) = someV r4 k ++ [rtakV (someN r4 k) 32] ∧ someN r4 (k + 1) = rtakN (someN r4 k) 32) := Lib.hid (fun k => ⟨rfl, rfl⟩)
 go_wp2
 go_loopw [6] (fun v6 wr => ∃ j : Nat, v6 = .int .u8 ((KN - j : Nat) : Int) ∧ j ≤ KN ∧ Hid (Bl1 D w7 wr rb bb B0 r4 (.slice M MN.length cm) IX SZ j)) (fun v _ => (intOf v).toNat)
 case atStart => exact ⟨0, rfl, Nat.zero_le _, HL0⟩
 case round =>
  clear HL0
  obtain ⟨j, rfl, hj, HJ⟩ := hrel
  by_cases hcont : j < KN ∧ (someN r4 j).bad = false
  ·obtain ⟨hlt, hbad⟩ := hcont
   have hpos : 0 < KN - j := by omega
   have hpos2 : (0 : Int) < ((KN - j : Nat) : Int) := by omega
   have HBA := Lib.hid (bad_any D rb (someN r4 j) wr HJ.out.2.1)
   rw [hbad] at HBA
   obtain ⟨q1, q2, A8, c8, q3, q4⟩ := HJ.out
   have HQ := Lib.hid (And.intro q1 (And.intro q2 (And.intro q3 q4)))
   have HR := Lib.hid (fun wz z => HRW.out j wz z)
   have HSK := Lib.hid (HSS.out j)
   have HAL := Lib.hid (HLV.out j)
   clear q1 q2 q3 q4 HJ hbad
   generalize rtakV (someN r4 j) 32 = X at *
   generalize rtakN (someN r4 j) 32 = R2 at *
   go_wp2_with fail
   refine HBA.out.mono ?_
   rintro e w' ⟨rfl, rfl⟩
   go_upto_region 7 with fail
   have hsz1 : B0 ≤ wr.heap.size := by have := HQ.out.1.size; have := HB0.out; omega
   have HQ9 := Lib.hid (And.intro (HQ.out.2.1.below (Below.refl _ _).drew) (And.intro HQ.out.2.2.1.drew (HQ.out.2.2.2.keep (Below.refl _ _).drew)))
   have z3 := HQ9.out.2.1.cell 3 _ rfl
   refine wp_region_drewT 7 (S := fun w' => w'.cell? ⟨bb, 3, none⟩ = some (.slice A8 j c8)) (by kernel_rfl) z3 (fun hHeld => ?_)
   have hd : Chg wr wr.drew (fun _ => False) := (Chg.refl _ _).drew
   have HDR := Lib.hid hd
   clear hd
   generalize wr.drew = wd at *
   refine tt 0 37 rfl rfl ?_; simp only [sa, sb, sc]
   refine tt 1 38 rfl rfl ?_; simp only [sa, sb, sc]
   refine tt 2 39 rfl rfl ?_; simp only [sa, sb, sc]
   refine tt 3 40 rfl rfl ?_; simp only [sa, sb, sc]
   refine wpAnyT_ready (rs := [4]) (by kernel_rfl) (by simp) (.cons rfl (fun K hK => ?_) .nil)
   go_simp
   go_at_call 93
   refine (HR.out _ HQ9.out.1).mono ?_
   rintro e w2 ⟨v2, rfl, h1, h2, h3⟩
   obtain ⟨A2, c2, rfl⟩ := h1.form
   obtain ⟨us, hu1, hu2⟩ := HQ9.out.2.2.chgT h3 (fun g hg _ e => by have e2 : g = rb := e; omega)
   have hszd : B0 ≤ wd.heap.size := by have := HDR.out.size; omega
   have H2 := Lib.hid (And.intro h1 (And.intro h2 (And.intro h3 (And.intro hu1 (And.intro hu2 (HQ9.out.2.1.chg h3 (by omega)))))))
   have hsz2 := h3.size
   have x3 := H2.out.2.2.2.2.2.cell 3 _ rfl
   clear h1 h2 h3 hu1 hu2
   try dsimp only
   refine hK.out _ _ (fun _ => x3) (fun hHeld4' => ?_)
   have hHeld4 := hHeld4' (by decide)
   clear hHeld4'
   clear hK K; try simp only [Act.put, sa, sb, sc]
   refine wpAnyT_ready (rs := [5]) (by kernel_rfl) (by simp) (.cons rfl (fun K hK => ?_) .nil)
   go_simp
   have hal2 := (Below.refl w2.heap.size w2).alloc (Nat.le_refl _) (.cells #[.slice A2 X.length c2] 24)
   have x3' := (H2.out.2.2.2.2.2.below hal2).cell 3 _ rfl
   clear hal2
   refine hK.out _ _ (fun _ => x3') (fun hHeld5' => ?_)
   have hHeld5 := hHeld5' (by decide)
   clear hHeld5'
   clear hK K; try simp only [Act.put, sa, sb, sc]
   refine wpAnyT_ready (rs := [6]) (by kernel_rfl) (by simp) (.cons rfl (fun K hK => ?_) .nil)
   skip
   refine step_append_lies _ (by rfl) (.tmp 39) (.tmp 42) 28 (by rfl) B0 24 i0 (.slice none 0 0) 1 24 Tryz.underlying28 hi0 hz0 hz1 hz2 rfl (by omega) _ j us (by rfl) (World.ownsRow.alloc (by have := H2.out.2.2.2.1; rw [HAL.out] at this; exact this) _) ⟨w2.heap.size, 0, none⟩ 1 1 [.slice A2 X.length c2] (by rfl) (by rfl) (World.news_of_block (blk_new _ _)) (by simp [Value.oneCell']) (by omega) (by unfold maxLen; omega) (by omega) (by simp; omega) (w2.heap.size + 1) (by simp) ?_
   intro g3 c3 W3 hown3 hgrow3 hlie3 hlt3
   have H3 : Hid (OwnR W3 B0 (.slice (some ⟨g3, 0, none⟩) (j + 1) c3) (someV r4 (j + 1)) ∧ RdW D W3 rb (someN r4 (j + 1)) ∧ Blk W3 bb 42 [.slice M MN.length cm, .int .i64 IX, .int .i64 SZ, .slice A8 j c8, .int .i64 0, .slice none 0 0, .int .i64 0, .slice none 0 0, .slice none 0 0, .slice none 0 0] ∧ Chg w7 W3 (fun k => k = rb ∨ k = bb ∨ B0 ≤ k)) := Lib.hid (by
    obtain ⟨p1, p2, p3, p4, p5, p6⟩ := H2.out
    have hc5 : Chg w2 W3 (fun g => (Value.slice A8 j c8).ownBlock = some g) := ((Chg.refl w2 _).alloc _).trans (Chg.of_grown hgrow3) (fun i _ h => h.symm)
    have hge : ∀ g, (Value.slice A8 j c8).ownBlock = some g → B0 ≤ g := fun g hg => HQ9.out.2.2.ge hg
    refine ⟨?_, ?_, p6.chg hc5 (fun e => by have := hge bb e; omega), ((HQ.out.1.trans HDR.out (fun _ _ h => h.elim)).trans p3 (fun _ _ h => .inl h)).trans hc5 (fun i _ h => .inr (.inr (hge i h)))⟩
    ·rw [HSK.out.1]
     have hq := some_push (ls := someV r4 j) HQ9.out.2.2 hszd p1 p5 (by have := p4.1; rw [HAL.out] at *; omega) (by rw [HAL.out]; exact hown3) hgrow3 hlie3
     rw [HAL.out] at hq
     exact hq
    ·rw [HSK.out.2]
     exact p2.chg hc5 (fun g hg e => by have h1 := HD.out g hg; have h2 := hge g e; omega) (fun e => by have h2 := hge rb e; omega))
   have x4 := H3.out.2.2.1.cell 3 _ rfl
   have f4 := H3.out.2.2.1.free 3
   clear hown3 hgrow3 hlie3 hlt3
   simp only [Act.put, List.getElem_toArray, List.getElem_cons_succ, List.getElem_cons_zero, List.setIfInBounds_toArray, List.set_cons_zero, List.set_cons_succ]
   refine hK.out _ _ (fun _ => x4) (fun hHeld6' => ?_)
   have hHeld6 := hHeld6' (by decide)
   clear hHeld6'
   clear hK K; try simp only [Act.put, sa, sb, sc]
   refine tl 7 44 rfl rfl ?_; simp only [sa, sb, sc]
   refine tl 8 45 rfl rfl ?_; simp only [sa, sb, sc]
   refine wpAnyT_ready (rs := [9]) (by kernel_rfl) (by simp) (.cons rfl (fun K hK => ?_) .nil)
   go_simp
   have hst : Chg W3 (W3.setCell ⟨bb, 3, none⟩ (.slice (some ⟨g3, 0, none⟩) (j + 1) c3)) (fun k => k = bb) := chg_cell (Chg.refl _ _) 3 _
   have HN9 : Hid (Bl1 D w7 (W3.setCell ⟨bb, 3, none⟩ (.slice (some ⟨g3, 0, none⟩) (j + 1) c3)) rb bb B0 r4 (.slice M MN.length cm) IX SZ (j + 1)) := Lib.hid ⟨H3.out.2.2.2.trans hst (fun _ _ h => .inr (.inl h)), H3.out.2.1.chg hst (fun g hg e => by have h1 := HD.out g hg; have h2 : g = bb := e; omega) (by omega), some ⟨g3, 0, none⟩, c3, H3.out.2.2.1.set 3 _ (by simp), H3.out.1.chgT hst (fun g hg _ e => by have h2 : g = bb := e; omega)⟩
   clear hst
   refine hK.out _ _ (fun h => absurd h (by decide)) (fun _ => ?_)
   clear hK K; try simp only [Act.put, sa, sb, sc]
   refine wpAnyT_done (by kernel_rfl) ?_ _
   clear hHeld z3
   go_wp2
   go_roundw
   case rel => exact ⟨j + 1, by go_num, by omega, HN9⟩
   case measure => simp [intOf]; omega
  ·have hex : (KN - j = 0 ∧ j = KN) ∨ (0 < KN - j ∧ (someN r4 j).bad = true) := by
    by_cases h1 : j < KN
    ·exact .inr ⟨by omega, by cases h2 : (someN r4 j).bad with
      | true => rfl
      | false => exact absurd ⟨h1, h2⟩ hcont⟩
    ·exact .inl ⟨by omega, by omega⟩
   have HFJ := Lib.hid (HFN.out j (hex.elim (fun h => .inl h.2) (fun h => .inr ⟨h.2, hj⟩)))
   obtain ⟨q1, q2, A8, c8, q3, q4⟩ := HJ.out
   have HCH := Lib.hid q1
   replace HR := Lib.hid q2
   replace HBK := Lib.hid q3
   have HPS := Lib.hid (show RwsF (fun g => B0 ≤ g) wr (.slice A8 j c8) (someV r4 j) from q4.foot.mono (fun g hg => hg.1))
   have hjl := HLV.out j
   have HBA := Lib.hid (bad_any D rb (someN r4 j) wr q2)
   have hsj : (someN r4 j).l.length ≤ 1000000000 := Nat.le_trans (someN_length r4 j) hsm4
   clear q1 q2 q3 q4 HJ hcont HRW HSS HLV hs4k HBAD HB5 HBB HBP
   rw [← hjl] at HBK HPS
   have hszr : B0 ≤ wr.heap.size := by have := HCH.out.size; have := HB0.out; omega
   replace HM := Lib.hid ((HM.out.mono (T := fun g => rb < g ∧ g < bb) (fun g hg => hg)).chg HCH.out (fun g hg e => by have h1 := hg.1; have h2 := hg.2; rcases e with e | e | e <;> omega))
   replace HZ := Lib.hid (HZ.out.chg HCH.out (fun e => by rcases e with e | e | e <;> omega))
   replace HB := Lib.hid (HB.out.trans (HCH.out.below (by have := HB.out.size; have := HZB.out; omega) (fun k hk => by rcases hk with e | e | e <;> omega)))
   have HGT := Lib.hid (fun (wz : World) (hz : ∀ g, D g → g < wz.heap.size) (z : RdW D wz rb (someN r4 j)) => pckget_any D rb (someN r4 j) hsj wz hz z)
   have hs6 : (sgGetR (someN r4 j)).l.length ≤ 1000000000 := Nat.le_trans (rtakN_length _ _) (Nat.le_trans (rtakN_length _ _) (Nat.le_trans (rtakN_length _ _) hsj))
   have hs7 : (rtakN (sgGetR (someN r4 j)) 1).l.length ≤ 1000000000 := Nat.le_trans (rtakN_length _ _) hs6
   have HBT := Lib.hid (fun (wz : World) (z : RdW D wz rb (sgGetR (someN r4 j))) => byte_any D rb (sgGetR (someN r4 j)) hs6 wz z)
   have hmv := rnumV_lt (sgGetR (someN r4 j)) 1 (by decide)
   have hmva : 0 ≤ rnumV (sgGetR (someN r4 j)) 1 := hmv.1
   have hmvb : rnumV (sgGetR (someN r4 j)) 1 < 256 := hmv.2
   obtain ⟨MK, hMK⟩ := Int.eq_ofNat_of_zero_le hmva
   rw [hMK, Int.toNat_natCast] at HFJ
   rw [hMK] at HBT hmvb
   have HSO := Lib.hid (fun (h : sgGetB (someN r4 j) = true) => sgO_of h)
   have hbadc : ∀ h : 0 < KN - j ∧ (someN r4 j).bad = true, (someN r4 j).bad = true := fun h => h.2
   have HBC := Lib.hid hbadc
   clear hmv hmva hMK hsj hs6 hbadc
   generalize sgGetP (someN r4 j) = SP at *
   generalize sgO (someN r4 j) = SG at *
   generalize sgGetB (someN r4 j) = OK0 at *
   generalize rtakN (sgGetR (someN r4 j)) 1 = r7 at *
   generalize sgGetR (someN r4 j) = r6 at *
   generalize (someN r4 j).bad = BD at *
   generalize someN r4 j = rho at *
   generalize hPSe : someV r4 j = PS at *
   have HJL := Lib.hid hjl
   have HPSE := Lib.hid hPSe
   clear hPSe hjl
   generalize hq : KN - j = qq at *
   have HQQ := Lib.hid hq
   clear hq
   rcases hex with ⟨h0, -⟩ | ⟨h0, h1⟩
   case' inl =>
    subst h0
    go_wp2_with fail
   case' inr =>
    subst h1
    have h0i : (0 : Int) < ((qq : Nat) : Int) := by omega
    go_wp2_with fail
    refine HBA.out.mono ?_
    rintro e w' ⟨rfl, rfl⟩
    go_wp2_with fail
   all_goals
    refine (HGT.out _ (fun g hg => by have := HD.out g hg; omega) HR.out).mono ?_
    rintro e w8 ⟨u8, rfl, h1, h2, h3⟩
    obtain ⟨vr, vp, vq, rfl, k0, k1, k2⟩ := h1
    obtain ⟨R, cr, rfl⟩ := k0.1.form
    obtain ⟨P, cp, rfl⟩ := k1.rws.form
    obtain ⟨Q, cq, rfl⟩ := k2.rws.form
    have hszz : bb < wr.heap.size := by omega
    have HRT := Lib.hid (k0.mono (T := fun g => bb < g) (fun g hg => by have h9 : wr.heap.size < g := hg; omega))
    have HPP := Lib.hid (k1.mono (T := fun g => bb < g) (fun g hg => by have h9 : wr.heap.size < g := hg; omega))
    have HPQ := Lib.hid (k2.mono (T := fun g => bb < g) (fun g hg => by have h9 : wr.heap.size < g := hg; omega))
    replace HR := Lib.hid h2
    replace HM := Lib.hid (HM.out.chg h3 (fun g hg e => by have h1 := hg.1; have h9 : g = rb := e; omega))
    replace HPS := Lib.hid (HPS.out.chg h3 (fun g hg e => by have h8 : B0 ≤ g := hg; have h9 : g = rb := e; omega))
    replace HZ := Lib.hid (HZ.out.chg h3 (by omega))
    replace HBK := Lib.hid (HBK.out.chg h3 (by omega))
    replace HB := Lib.hid (HB.out.trans (h3.below (by have := HB.out.size; have := HZB.out; omega) (fun k hk => by have h9 : k = rb := hk; omega)))
    have hsz8 := h3.size
    have hlt8 : bb < w8.heap.size := by omega
    clear h2 h3 k0 k1 k2 HGT
    have z4 := HBK.out.cell 4 _ rfl
    have z5 := HBK.out.cell 5 _ rfl
    have z6 := HBK.out.cell 6 _ rfl
    have z7 := HBK.out.cell 7 _ rfl
    have z8 := HBK.out.cell 8 _ rfl
    have y4 := HBK.out.free 4
    have y5 := HBK.out.free 5
    have y6 := HBK.out.free 6
    have y7 := HBK.out.free 7
    have y8 := HBK.out.free 8
    go_wp2_with fail
    refine calls_at (fun w9 => Blk w9 bb 42 [.slice M MN.length cm, .int .i64 IX, .int .i64 SZ, .slice A8 PS.length c8, .int .i64 SG.ck.num, .slice R SG.ck.root.length cr, .int .i64 SG.sig.index, .slice P SG.sig.parts.length cp, .slice Q SG.sig.path.length cq, .slice none 0 0] ∧ Chg w8 w9 (fun k => k = bb)) (bd_store5 HBK.out _ _ _ _ _ _) ?_
    clear z4 z5 z6 z7 z8 y4 y5 y6 y7 y8
    rintro w9 ⟨kS, h2⟩
    replace HBK := Lib.hid kS
    replace HM := Lib.hid (HM.out.chg h2 (fun g hg e => by have h1 := hg.2; have h9 : g = bb := e; omega))
    replace HPS := Lib.hid (HPS.out.chg h2 (fun g hg e => by have h8 : B0 ≤ g := hg; have h9 : g = bb := e; omega))
    replace HRT := Lib.hid (HRT.out.chg h2 (fun g hg e => by have h8 : bb < g := hg; have h9 : g = bb := e; omega))
    replace HPP := Lib.hid (HPP.out.chg h2 (fun g hg e => by have h8 : bb < g := hg; have h9 : g = bb := e; omega))
    replace HPQ := Lib.hid (HPQ.out.chg h2 (fun g hg e => by have h8 : bb < g := hg; have h9 : g = bb := e; omega))
    replace HR := Lib.hid (HR.out.chg h2 (fun g hg e => by have h1 := HD.out g hg; have h9 : g = bb := e; omega) (by omega))
    replace HZ := Lib.hid (HZ.out.chg h2 (by omega))
    replace HB := Lib.hid (HB.out.trans (h2.below (by have := HB.out.size; have := HZB.out; omega) (fun k hk => by have h9 : k = bb := hk; omega)))
    have hsz9 := h2.size
    clear kS h2
    refine (HBT.out _ HR.out).mono ?_
    rintro e w10 ⟨rfl, h1, h2⟩
    replace HBK := Lib.hid (HBK.out.chg h2 (by omega))
    replace HM := Lib.hid (HM.out.chg h2 (fun g hg e => by have h1 := hg.1; have h9 : g = rb := e; omega))
    replace HPS := Lib.hid ((HPS.out.chg h2 (fun g hg e => by have h8 : B0 ≤ g := hg; have h9 : g = rb := e; omega)).cut)
    replace HRT := Lib.hid ((HRT.out.chg h2 (fun g hg e => by have h8 : bb < g := hg; have h9 : g = rb := e; omega)).cut)
    replace HPP := Lib.hid ((HPP.out.chg h2 (fun g hg e => by have h8 : bb < g := hg; have h9 : g = rb := e; omega)).cut)
    replace HPQ := Lib.hid ((HPQ.out.chg h2 (fun g hg e => by have h8 : bb < g := hg; have h9 : g = rb := e; omega)).cut)
    replace HR := Lib.hid h1
    replace HZ := Lib.hid (HZ.out.chg h2 (by omega))
    replace HB := Lib.hid (HB.out.trans (h2.below (by have := HB.out.size; have := HZB.out; omega) (fun k hk => by have h9 : k = rb := hk; omega)))
    have hsz10 := h2.size
    have hbB2 : bb < w10.heap.size := HBK.out.lt
    clear h1 h2 HBT hsz8 hsz9 hsz10 hlt8 hszz hszr
    generalize hB2e : w10.heap.size = B2 at *
    have HB2e := Lib.hid hB2e
    clear hB2e
    obtain ⟨i1, hj0, hj1, hj2, hj3⟩ := info_parts info_cosig20
    have HL2 : Hid (Bl2 D w10 w10 rb bb B2 r7 (.slice M MN.length cm) IX SZ (.slice A8 PS.length c8) SG.ck.num (.slice R SG.ck.root.length cr) SG.sig.index (.slice P SG.sig.parts.length cp) (.slice Q SG.sig.path.length cq) 0) := Lib.hid ⟨Chg.refl _ _, HR.out, none, 0, [], rfl, fun _ => rfl, HBK.out, OwnC.nil _ _⟩
    have HGC := Lib.hid (fun (k : Nat) (wz : World) (hz : ∀ g, D g → g < wz.heap.size) (z : RdW D wz rb (cosN r7 k)) => pcgget_any D rb (cosN r7 k) (Nat.le_trans (cosN_length r7 k) hs7) wz hz z)
    have HCS : Hid (∀ k, cosV r7 (k + 1) = cosV r7 k ++ [cgGetP (cosN r7 k)] ∧ cosN r7 (k + 1) = cgGetR (cosN r7 k) ∧ cosB r7 (k + 1) = (cosB r7 k && cgGetB (cosN r7 k))) := Lib.hid (fun k => ⟨rfl, rfl, rfl⟩)
    have HCO := Lib.hid (fun (k : Nat) (h : cgGetB (cosN r7 k) = true) => cgO_of h)
    have hok0 : OK0 = (OK0 && cosB r7 0) := by rw [show cosB r7 0 = true from rfl, Bool.and_true]
    have HOK0 := Lib.hid hok0
    clear hok0
    go_wp2
    go_loopw [8, 9] (fun v8 v9 wr => ∃ i : Nat, v9 = .int .u8 ((MK - i : Nat) : Int) ∧ v8 = .bool (OK0 && cosB r7 i) ∧ i ≤ MK ∧ Hid (Bl2 D w10 wr rb bb B2 r7 (.slice M MN.length cm) IX SZ (.slice A8 PS.length c8) SG.ck.num (.slice R SG.ck.root.length cr) SG.sig.index (.slice P SG.sig.parts.length cp) (.slice Q SG.sig.path.length cq) i)) (fun _ v _ => (intOf v).toNat)
    case atStart => exact ⟨0, rfl, by rw [← HOK0.out], Nat.zero_le _, HL2⟩
    case round =>
     clear HL2
     obtain ⟨i, rfl, rfl, hi, HJ2⟩ := hrel
     by_cases hc2 : i < MK ∧ (OK0 && cosB r7 i) = true
     ·obtain ⟨hlt, hok⟩ := hc2
      rw [hok]
      obtain ⟨q1, q2, A9, c9, ls, q3, q4, q5, q6⟩ := HJ2.out
      have HQ2 := Lib.hid (And.intro q1 (And.intro q2 (And.intro q3 (And.intro q4 (And.intro q5 q6)))))
      have hpos2 : (0 : Int) < ((MK - i : Nat) : Int) := by omega
      have hpos3 : 0 < MK - i := by omega
      have HG := Lib.hid (fun wz hz z => HGC.out i wz hz z)
      have HCK := Lib.hid (HCS.out i)
      have HCI := Lib.hid (HCO.out i)
      have HOK := Lib.hid hok
      have hbw : bb < wr.heap.size := q5.lt
      have hB2w : B2 ≤ wr.heap.size := by have := q1.size; have := HB2e.out; omega
      clear q1 q2 q3 q4 q5 q6 HJ2 hok
      generalize cgO (cosN r7 i) = CG at *
      generalize cgGetP (cosN r7 i) = CP at *
      generalize cgGetB (cosN r7 i) = OK1 at *
      generalize cgGetR (cosN r7 i) = r8 at *
      go_wp2_with fail
      refine calls_at (fun w11 => Blk w11 wr.heap.size 89 [.int .i64 0, .int .i64 0, .slice none 0 0, .slice none 0 0] ∧ Below wr.heap.size wr w11) ⟨Blk.new _ _ [.int .i64 0, .int .i64 0, .slice none 0 0, .slice none 0 0], (Below.refl _ _).alloc (Nat.le_refl _) _⟩ ?_
      rintro w11 ⟨kS, kb⟩
      have HS := Lib.hid kS
      have hcl := kS.lt
      have HKB := Lib.hid kb
      clear kS kb
      refine (HG.out _ (fun g hg => by have := HD.out g hg; have := HKB.out.size; omega) (HQ2.out.2.1.below HKB.out)).mono ?_
      rintro e w12 ⟨u12, rfl, h1, h2, h3⟩
      obtain ⟨vp9, vq9, rfl, k1, k2⟩ := h1
      obtain ⟨P9, cp9, rfl⟩ := k1.rws.form
      obtain ⟨Q9, cq9, rfl⟩ := k2.rws.form
      have HS12 := Lib.hid (HS.out.chg h3 (by omega))
      have HC12 := Lib.hid (And.intro k1 (And.intro k2 (And.intro h2 h3)))
      clear h2 h3 k1 k2
      have z0 := HS12.out.cell 0 _ rfl
      have z1 := HS12.out.cell 1 _ rfl
      have z2 := HS12.out.cell 2 _ rfl
      have z3 := HS12.out.cell 3 _ rfl
      have y0 := HS12.out.free 0
      have y1 := HS12.out.free 1
      have y2 := HS12.out.free 2
      have y3 := HS12.out.free 3
      go_upto_region 15 with fail
      refine code_at (fun w13 => Blk w13 wr.heap.size 89 [.int .i64 CG.wit, .int .i64 CG.sig.index, .slice P9 CG.sig.parts.length cp9, .slice Q9 CG.sig.path.length cq9] ∧ Chg w12 w13 (fun k => k = wr.heap.size)) (bd_store4 HS12.out _ _ _ _) ?_
      clear z0 z1 z2 z3 y0 y1 y2 y3
      rintro w13 ⟨kC, h5⟩
      have hcb : B2 ≤ wr.heap.size := hB2w
      have HX13 : Hid (Chg wr w13 (fun k => k = rb) ∧ wr.heap.size ≤ w13.heap.size ∧ RdW D w13 rb r8 ∧ Blk w13 bb 42 [.slice M MN.length cm, .int .i64 IX, .int .i64 SZ, .slice A8 PS.length c8, .int .i64 SG.ck.num, .slice R SG.ck.root.length cr, .int .i64 SG.sig.index, .slice P SG.sig.parts.length cp, .slice Q SG.sig.path.length cq, .slice A9 i c9] ∧ OwnC w13 B2 (.slice A9 i c9) ls) := Lib.hid (by
       obtain ⟨k1, k2, h2, h3⟩ := HC12.out
       obtain ⟨p1, p2, p3, p4, p5, p6⟩ := HQ2.out
       have hch : Chg wr w13 (fun k => k = rb) := ((Chg.of_below (S := fun k => k = rb) HKB.out).trans h3 (fun _ _ h => h)).trans h5 (fun i hi h => by have h9 : i = wr.heap.size := h; omega)
       refine ⟨hch, hch.size, h2.chg h5 (fun g hg e => by have h1 := HD.out g hg; have h9 : g = wr.heap.size := e; omega) (by omega), p5.chg hch (by omega), ?_⟩
       obtain ⟨us, o1, o2⟩ := p6
       have hs13 := hch.size
       exact ⟨us, ownsRow_chg o1 hch (fun k hk e => by have h1 := (World.ownsRow.lt o1 k hk).1; have h9 : k = rb := e; omega), (o2.chg hch (fun g hg e => by have h1 := hg.1; have h9 : g = rb := e; omega)).mono (fun g hg => ⟨hg.1, by have := hg.2.1; omega, hg.2.2⟩)⟩)
      have HE13 : Hid (RwsF (fun g => wr.heap.size < g) w13 (.slice P9 CG.sig.parts.length cp9) CG.sig.parts ∧ RwsF (fun g => wr.heap.size < g) w13 (.slice Q9 CG.sig.path.length cq9) CG.sig.path) := Lib.hid (by
       obtain ⟨k1, k2, h2, h3⟩ := HC12.out
       exact ⟨(k1.chg h5 (fun g hg e => by have h8 : w11.heap.size < g := hg; have h9 : g = wr.heap.size := e; omega)).mono (fun g hg => by have h8 : w11.heap.size < g := hg; omega), (k2.chg h5 (fun g hg e => by have h8 : w11.heap.size < g := hg; have h9 : g = wr.heap.size := e; omega)).mono (fun g hg => by have h8 : w11.heap.size < g := hg; omega)⟩)
      obtain ⟨us, o1, o2⟩ := HX13.out.2.2.2.2
      have HU := Lib.hid (And.intro o1 o2)
      have hbl13 := HX13.out.2.2.2.1.lt
      have x9 := HX13.out.2.2.2.1.cell 9 _ rfl
      have x0 := kC.cell 0 _ rfl
      have x1 := kC.cell 1 _ rfl
      have x2 := kC.cell 2 _ rfl
      have x3 := kC.cell 3 _ rfl
      have hsz13 := HX13.out.2.1
      have hlsi : ls.length = i := HQ2.out.2.2.1
      have HLS := Lib.hid hlsi
      clear o1 o2 kC h5 hlsi
      have hMKi : i < 256 := by omega
      go_wp2_with (at_builtin; (refine stopP ?_))
      unfold StopP
      refine wpList_append_lie rfl (.tmp 68) (.tmp 70) 40 rfl B2 89 i1 (.agg #[.int .i64 0, .int .i64 0, .slice none 0 0, .slice none 0 0]) 4 64 Tryz.underlying40 hj0 hj1 hj2 hj3 rfl (by decide) _ ls.length us rfl (World.ownsRow.alloc HU.out.1 _) _ 1 [.int .i64 CG.wit, .int .i64 CG.sig.index, .slice P9 CG.sig.parts.length cp9, .slice Q9 CG.sig.path.length cq9] rfl ((Sho.new w13 89 [.int .i64 CG.wit, .int .i64 CG.sig.index, .slice P9 CG.sig.parts.length cp9, .slice Q9 CG.sig.path.length cq9] 1 4 1 rfl (Nat.le_refl _) (by decide)).news (fun u hu => by simp at hu; rcases hu with rfl | rfl | rfl | rfl <;> rfl)) (by rw [HLS.out]; unfold maxLen; omega) (by rw [HLS.out]; omega) (by simp; omega) ?_
      intro v2 W2 hown2 hgrow2 hlie2
      obtain ⟨A2, c2, rfl⟩ := (Sho.own hown2).form
      simp only [HLS.out] at hown2 hgrow2 hlie2 ⊢
      have H2 : Hid (Chg wr W2 (fun k => k = rb ∨ k = bb ∨ B2 ≤ k) ∧ RdW D W2 rb r8 ∧ Blk W2 bb 42 [.slice M MN.length cm, .int .i64 IX, .int .i64 SZ, .slice A8 PS.length c8, .int .i64 SG.ck.num, .slice R SG.ck.root.length cr, .int .i64 SG.sig.index, .slice P SG.sig.parts.length cp, .slice Q SG.sig.path.length cq, .slice A9 i c9] ∧ OwnC W2 B2 (.slice A2 (i + 1) c2) (ls ++ [CG])) := Lib.hid (by
       obtain ⟨p1, p2, p3, p4, p5⟩ := HX13.out
       have hc2 : Chg w13 W2 (fun g => (Value.slice A9 i c9).ownBlock = some g) := ((Chg.refl w13 _).alloc _).trans (Chg.of_grown hgrow2) (fun i _ h => h.symm)
       have hge : ∀ g, (Value.slice A9 i c9).ownBlock = some g → B2 ≤ g := fun g hg => (World.ownsRow.lt HU.out.1 g hg).1
       have hlo : ∀ g, (Value.slice A9 i c9).ownBlock = some g → g < wr.heap.size := fun g hg => by
        obtain ⟨us', t1, t2⟩ := HQ2.out.2.2.2.2.2
        exact (World.ownsRow.lt t1 g hg).2
       have hn : CgRow (fun x => B2 ≤ x ∧ x < w13.heap.size ∧ (Value.slice A9 i c9).ownBlock ≠ some x) w13 [.int .i64 CG.wit, .int .i64 CG.sig.index, .slice P9 CG.sig.parts.length cp9, .slice Q9 CG.sig.path.length cq9] [CG] := ⟨rfl, fun k hk => by
        obtain rfl : k = 0 := by simpa using hk
        exact ⟨_, _, rfl, rfl, rfl, rfl, HE13.out.1.cut.mono (fun g hg => ⟨by have h9 : wr.heap.size < g := hg.1; omega, hg.2, fun e => by have h9 : wr.heap.size < g := hg.1; have := hlo g e; omega⟩), HE13.out.2.cut.mono (fun g hg => ⟨by have h9 : wr.heap.size < g := hg.1; omega, hg.2, fun e => by have h9 : wr.heap.size < g := hg.1; have := hlo g e; omega⟩)⟩⟩
       refine ⟨((Chg.refl wr (fun k => k = rb ∨ k = bb ∨ B2 ≤ k)).trans p1 (fun _ _ h => .inl h)).trans hc2 (fun x _ h => .inr (.inr (hge x h))), p3.chg hc2 (fun g hg e => by have h1 := HD.out g hg; have h2 := hge g e; omega) (fun e => by have h2 := hge rb e; omega), p4.chg hc2 (fun e => by have := hge bb e; omega), ?_⟩
       have hl : (Value.slice A2 (i + 1) c2).ownBlock = (Value.slice A9 i c9).ownBlock ∨ ∃ q, (Value.slice A2 (i + 1) c2).ownBlock = some q ∧ w13.heap.size ≤ q := by
        rcases hlie2 with e1 | ⟨q, e1, hq⟩
        ·exact .inl e1
        ·exact .inr ⟨q, e1, Nat.le_trans (Below.size ((Below.refl w13.heap.size w13).alloc (Nat.le_refl _) _)) hq⟩
       exact cos_push HU.out.2 hn (by rw [HLS.out]; exact hown2) hc2 hl)
      have x10 := H2.out.2.2.1.cell 9 _ rfl
      have y9 := H2.out.2.2.1.free 9
      clear x9 x0 x1 x2 x3
      clear hown2 hgrow2 hlie2
      go_wp2
      have HN : Hid (Bl2 D w10 (W2.setCell ⟨bb, 9, none⟩ (.slice A2 (i + 1) c2)) rb bb B2 r7 (.slice M MN.length cm) IX SZ (.slice A8 PS.length c8) SG.ck.num (.slice R SG.ck.root.length cr) SG.sig.index (.slice P SG.sig.parts.length cp) (.slice Q SG.sig.path.length cq) (i + 1)) := Lib.hid (by
       obtain ⟨p1, p2, p3, p4⟩ := H2.out
       obtain ⟨k1, k2, k3⟩ := HCK.out
       have hst : Chg W2 (W2.setCell ⟨bb, 9, none⟩ (.slice A2 (i + 1) c2)) (fun k => k = bb) := chg_cell (Chg.refl _ _) 9 _
       obtain ⟨vs, t1, t2⟩ := p4
       refine ⟨(HQ2.out.1.trans p1 (fun _ _ h => h)).trans hst (fun _ _ h => .inr (.inl h)), ?_, A2, c2, ls ++ [CG], by simp [HLS.out], ?_, p3.set 9 _ (by simp), ?_⟩
       ·rw [k2]
        exact p2.chg hst (fun g hg e => by have h1 := HD.out g hg; have h2 : g = bb := e; omega) (by omega)
       ·intro h
        rw [k3, Bool.and_eq_true] at h
        rw [k1, HCI.out h.2, HQ2.out.2.2.2.1 h.1]
       ·exact ⟨vs, ownsRow_chg t1 hst (fun k hk e => by have h1 := (World.ownsRow.lt t1 k hk).1; have h2 : k = bb := e; omega), (t2.chg hst (fun g hg e => by have h1 := hg.1; have h2 : g = bb := e; omega)).mono (fun g hg => ⟨hg.1, by have := hg.2.1; have := hst.size; omega, hg.2.2⟩)⟩)
      have HOKN : OK1 = (OK0 && cosB r7 (i + 1)) := by
       have h1 := HOK.out
       rw [HCK.out.2.2, ← Bool.and_assoc, h1, Bool.true_and]
      have HOKM := Lib.hid HOKN
      clear HOKN
      go_roundw
      case rel => exact ⟨i + 1, by go_num, by rw [← HOKM.out], by omega, HN⟩
      case measure => simp [intOf]; omega
     ·have hex2 : (MK - i = 0 ∧ i = MK) ∨ (0 < MK - i ∧ (OK0 && cosB r7 i) = false) := by
       by_cases h1 : i < MK
       ·exact .inr ⟨by omega, by cases h2 : (OK0 && cosB r7 i) with
         | true => exact absurd ⟨h1, h2⟩ hc2
         | false => rfl⟩
       ·exact .inl ⟨by omega, by omega⟩
      have hFI := HFJ.out i (hex2.elim (fun h => .inl h.2) (fun h => .inr ⟨h.2, hi⟩))
      have HFB := Lib.hid hFI.1
      have HFP := Lib.hid hFI.2
      obtain ⟨q1, q2, A9, c9, ls, q3, q4, q5, q6⟩ := HJ2.out
      have HT := Lib.hid (fun (h : (OK0 && cosB r7 i) = true) => by rw [Bool.and_eq_true] at h; exact (And.intro (HSO.out h.1) (q4 h.2)))
      have HBK2 := Lib.hid q5
      have HCO2 := Lib.hid q6
      have HLS := Lib.hid q3
      have HGE := Lib.hid (end_any D rb (cosN r7 i) wr q2)
      have hbs : bb < w10.heap.size := HBK.out.lt
      have HM2 := Lib.hid (HM.out.chg q1 (fun g hg e => by have h1 := hg.1; have h2 := hg.2; rcases e with h9 | h9 | h9 <;> omega))
      have HPS2 := Lib.hid (HPS.out.chg q1 (fun g hg e => by have h1 := hg.1; have h2 := hg.2; rcases e with h9 | h9 | h9 <;> omega))
      have HRT2 := Lib.hid (HRT.out.chg q1 (fun g hg e => by have h1 := hg.1; have h2 := hg.2; rcases e with h9 | h9 | h9 <;> omega))
      have HPP2 := Lib.hid (HPP.out.chg q1 (fun g hg e => by have h1 := hg.1; have h2 := hg.2; rcases e with h9 | h9 | h9 <;> omega))
      have HPQ2 := Lib.hid (HPQ.out.chg q1 (fun g hg e => by have h1 := hg.1; have h2 := hg.2; rcases e with h9 | h9 | h9 <;> omega))
      have HZ2 := Lib.hid (HZ.out.chg q1 (fun e => by rcases e with h9 | h9 | h9 <;> omega))
      have HB2 := Lib.hid (HB.out.trans (q1.below (by have := HB.out.size; have := HB2e.out; omega) (fun k hk => by rcases hk with h9 | h9 | h9 <;> omega)))
      have HPSE2 : Hid (someV r4 PS.length = PS) := Lib.hid (by rw [HJL.out]; exact HPSE.out)
      have hPL : PS.length ≤ 1000000000 := by have := HJL.out; omega
      have HPR := Lib.hid (pathright_any (.slice A8 PS.length c8) PS hPL wr (by have h := HPS2.out.rws; rw [HPSE2.out] at h; exact h))
      have HN1 := Lib.hid (number_any2 IX wr)
      have HN2 := Lib.hid (number_any2 SZ wr)
      clear HJ2 q1 q2 q3 q4 q5 q6 hFI hc2 HBK HM HPS HRT HPP HPQ HZ HB HR HSO HFJ HCO HCS HGC
      generalize (OK0 && cosB r7 i) = OKK at *
      generalize cosV r7 i = CV at *
      generalize rend (cosN r7 i) = E1 at *
      generalize numB IX = E2 at *
      generalize numB SZ = E3 at *
      generalize pathB PS = E4 at *
      generalize hq2 : MK - i = kk at *
      clear hq2
      have x1 := HBK2.out.cell 1 _ rfl
      have x2 := HBK2.out.cell 2 _ rfl
      have x3 := HBK2.out.cell 3 _ rfl
      rcases hex2 with ⟨rfl, -⟩ | ⟨hk0, rfl⟩
      case' inr =>
       have hk1 : (0 : Int) < ((kk : Nat) : Int) := by omega
       have z0 := HZ2.out.cell 0 _ rfl
       have z1 := HZ2.out.cell 1 _ rfl
       have z2 := HZ2.out.cell 2 _ rfl
       have z3 := HZ2.out.cell 3 _ rfl
       have z4 := HZ2.out.cell 4 _ rfl
       have z5 := HZ2.out.cell 5 _ rfl
       have z6 := HZ2.out.cell 6 _ rfl
       have z7 := HZ2.out.cell 7 _ rfl
       have z8 := HZ2.out.cell 8 _ rfl
       have z9 := HZ2.out.cell 9 _ rfl
       have y0 := HZ2.out.free 0
       have y1 := HZ2.out.free 1
       have y2 := HZ2.out.free 2
       have y3 := HZ2.out.free 3
       have y4 := HZ2.out.free 4
       have y5 := HZ2.out.free 5
       have y6 := HZ2.out.free 6
       have y7 := HZ2.out.free 7
       have y8 := HZ2.out.free 8
       have y9 := HZ2.out.free 9
       go_wp2_with fail
       have HF0 : Hid (bdB l = false) := Lib.hid (by rw [HFB.out]; rfl)
       have hst := bun_store HZ2.out (.slice none 0 0) (.int .i64 0) (.int .i64 0) (.slice none 0 0) (.int .i64 0) (.slice none 0 0) (.int .i64 0) (.slice none 0 0) (.slice none 0 0) (.slice none 0 0) _ rfl
       rw [show bdE l = 12 from by unfold bdE; rw [HF0.out]; rfl, show bdV l = zBun from by unfold bdV; rw [HF0.out]; rfl]
       refine bodyPost_ret (v := .tuple #[.agg [.slice none 0 0, .int .i64 0, .int .i64 0, .slice none 0 0, .int .i64 0, .slice none 0 0, .int .i64 0, .slice none 0 0, .slice none 0 0, .slice none 0 0].toArray, .int .i64 12]) ?_ ?_ ⟨_, rfl, ⟨_, _, _, _, _, _, rfl, Sho.nil _ 1, Rws.nil _, Sho.nil _ 1, Rws.nil _, Rws.nil _, ⟨[], Sho.nil _ 4, CgRow.nil _ _⟩⟩, ?_⟩
       ·exact results_row_tmp Tryz.results28 _ _ zb 42 _ (0, 0) _ rfl hst.1 under_bundle rfl size_bundle _ rfl
       ·rfl
       ·rw [HZB.out]
        exact HB2.out.trans (hst.2.below (by have := HB2.out.size; have := HZB.out; omega) (fun k hk => Nat.le_of_eq hk.symm))
      case' inl =>
       cases OKK
       case' false =>
        have z0 := HZ2.out.cell 0 _ rfl
        have z1 := HZ2.out.cell 1 _ rfl
        have z2 := HZ2.out.cell 2 _ rfl
        have z3 := HZ2.out.cell 3 _ rfl
        have z4 := HZ2.out.cell 4 _ rfl
        have z5 := HZ2.out.cell 5 _ rfl
        have z6 := HZ2.out.cell 6 _ rfl
        have z7 := HZ2.out.cell 7 _ rfl
        have z8 := HZ2.out.cell 8 _ rfl
        have z9 := HZ2.out.cell 9 _ rfl
        have y0 := HZ2.out.free 0
        have y1 := HZ2.out.free 1
        have y2 := HZ2.out.free 2
        have y3 := HZ2.out.free 3
        have y4 := HZ2.out.free 4
        have y5 := HZ2.out.free 5
        have y6 := HZ2.out.free 6
        have y7 := HZ2.out.free 7
        have y8 := HZ2.out.free 8
        have y9 := HZ2.out.free 9
        go_wp2_with fail
        have HF0 : Hid (bdB l = false) := Lib.hid (by rw [HFB.out]; rfl)
        have hst := bun_store HZ2.out (.slice none 0 0) (.int .i64 0) (.int .i64 0) (.slice none 0 0) (.int .i64 0) (.slice none 0 0) (.int .i64 0) (.slice none 0 0) (.slice none 0 0) (.slice none 0 0) _ rfl
        rw [show bdE l = 12 from by unfold bdE; rw [HF0.out]; rfl, show bdV l = zBun from by unfold bdV; rw [HF0.out]; rfl]
        refine bodyPost_ret (v := .tuple #[.agg [.slice none 0 0, .int .i64 0, .int .i64 0, .slice none 0 0, .int .i64 0, .slice none 0 0, .int .i64 0, .slice none 0 0, .slice none 0 0, .slice none 0 0].toArray, .int .i64 12]) ?_ ?_ ⟨_, rfl, ⟨_, _, _, _, _, _, rfl, Sho.nil _ 1, Rws.nil _, Sho.nil _ 1, Rws.nil _, Rws.nil _, ⟨[], Sho.nil _ 4, CgRow.nil _ _⟩⟩, ?_⟩
        ·exact results_row_tmp Tryz.results28 _ _ zb 42 _ (0, 0) _ rfl hst.1 under_bundle rfl size_bundle _ rfl
        ·rfl
        ·rw [HZB.out]
         exact HB2.out.trans (hst.2.below (by have := HB2.out.size; have := HZB.out; omega) (fun k hk => Nat.le_of_eq hk.symm))
       case' true =>
        go_wp2_with fail
        refine HGE.out.mono ?_
        rintro e w' ⟨rfl, rfl⟩
        cases E1
        case' false =>
         have z0 := HZ2.out.cell 0 _ rfl
         have z1 := HZ2.out.cell 1 _ rfl
         have z2 := HZ2.out.cell 2 _ rfl
         have z3 := HZ2.out.cell 3 _ rfl
         have z4 := HZ2.out.cell 4 _ rfl
         have z5 := HZ2.out.cell 5 _ rfl
         have z6 := HZ2.out.cell 6 _ rfl
         have z7 := HZ2.out.cell 7 _ rfl
         have z8 := HZ2.out.cell 8 _ rfl
         have z9 := HZ2.out.cell 9 _ rfl
         have y0 := HZ2.out.free 0
         have y1 := HZ2.out.free 1
         have y2 := HZ2.out.free 2
         have y3 := HZ2.out.free 3
         have y4 := HZ2.out.free 4
         have y5 := HZ2.out.free 5
         have y6 := HZ2.out.free 6
         have y7 := HZ2.out.free 7
         have y8 := HZ2.out.free 8
         have y9 := HZ2.out.free 9
         go_wp2_with fail
         have HF0 : Hid (bdB l = false) := Lib.hid (by rw [HFB.out]; rfl)
         have hst := bun_store HZ2.out (.slice none 0 0) (.int .i64 0) (.int .i64 0) (.slice none 0 0) (.int .i64 0) (.slice none 0 0) (.int .i64 0) (.slice none 0 0) (.slice none 0 0) (.slice none 0 0) _ rfl
         rw [show bdE l = 12 from by unfold bdE; rw [HF0.out]; rfl, show bdV l = zBun from by unfold bdV; rw [HF0.out]; rfl]
         refine bodyPost_ret (v := .tuple #[.agg [.slice none 0 0, .int .i64 0, .int .i64 0, .slice none 0 0, .int .i64 0, .slice none 0 0, .int .i64 0, .slice none 0 0, .slice none 0 0, .slice none 0 0].toArray, .int .i64 12]) ?_ ?_ ⟨_, rfl, ⟨_, _, _, _, _, _, rfl, Sho.nil _ 1, Rws.nil _, Sho.nil _ 1, Rws.nil _, Rws.nil _, ⟨[], Sho.nil _ 4, CgRow.nil _ _⟩⟩, ?_⟩
         ·exact results_row_tmp Tryz.results28 _ _ zb 42 _ (0, 0) _ rfl hst.1 under_bundle rfl size_bundle _ rfl
         ·rfl
         ·rw [HZB.out]
          exact HB2.out.trans (hst.2.below (by have := HB2.out.size; have := HZB.out; omega) (fun k hk => Nat.le_of_eq hk.symm))
        case' true =>
         go_wp2_with fail
         refine HN1.out.mono ?_
         rintro e w' ⟨rfl, rfl⟩
         cases E2
         case' false =>
          have z0 := HZ2.out.cell 0 _ rfl
          have z1 := HZ2.out.cell 1 _ rfl
          have z2 := HZ2.out.cell 2 _ rfl
          have z3 := HZ2.out.cell 3 _ rfl
          have z4 := HZ2.out.cell 4 _ rfl
          have z5 := HZ2.out.cell 5 _ rfl
          have z6 := HZ2.out.cell 6 _ rfl
          have z7 := HZ2.out.cell 7 _ rfl
          have z8 := HZ2.out.cell 8 _ rfl
          have z9 := HZ2.out.cell 9 _ rfl
          have y0 := HZ2.out.free 0
          have y1 := HZ2.out.free 1
          have y2 := HZ2.out.free 2
          have y3 := HZ2.out.free 3
          have y4 := HZ2.out.free 4
          have y5 := HZ2.out.free 5
          have y6 := HZ2.out.free 6
          have y7 := HZ2.out.free 7
          have y8 := HZ2.out.free 8
          have y9 := HZ2.out.free 9
          go_wp2_with fail
          have HF0 : Hid (bdB l = false) := Lib.hid (by rw [HFB.out]; rfl)
          have hst := bun_store HZ2.out (.slice none 0 0) (.int .i64 0) (.int .i64 0) (.slice none 0 0) (.int .i64 0) (.slice none 0 0) (.int .i64 0) (.slice none 0 0) (.slice none 0 0) (.slice none 0 0) _ rfl
          rw [show bdE l = 12 from by unfold bdE; rw [HF0.out]; rfl, show bdV l = zBun from by unfold bdV; rw [HF0.out]; rfl]
          refine bodyPost_ret (v := .tuple #[.agg [.slice none 0 0, .int .i64 0, .int .i64 0, .slice none 0 0, .int .i64 0, .slice none 0 0, .int .i64 0, .slice none 0 0, .slice none 0 0, .slice none 0 0].toArray, .int .i64 12]) ?_ ?_ ⟨_, rfl, ⟨_, _, _, _, _, _, rfl, Sho.nil _ 1, Rws.nil _, Sho.nil _ 1, Rws.nil _, Rws.nil _, ⟨[], Sho.nil _ 4, CgRow.nil _ _⟩⟩, ?_⟩
          ·exact results_row_tmp Tryz.results28 _ _ zb 42 _ (0, 0) _ rfl hst.1 under_bundle rfl size_bundle _ rfl
          ·rfl
          ·rw [HZB.out]
           exact HB2.out.trans (hst.2.below (by have := HB2.out.size; have := HZB.out; omega) (fun k hk => Nat.le_of_eq hk.symm))
         case' true =>
          go_wp2_with fail
          refine HN2.out.mono ?_
          rintro e w' ⟨rfl, rfl⟩
          cases E3
          case' false =>
           have z0 := HZ2.out.cell 0 _ rfl
           have z1 := HZ2.out.cell 1 _ rfl
           have z2 := HZ2.out.cell 2 _ rfl
           have z3 := HZ2.out.cell 3 _ rfl
           have z4 := HZ2.out.cell 4 _ rfl
           have z5 := HZ2.out.cell 5 _ rfl
           have z6 := HZ2.out.cell 6 _ rfl
           have z7 := HZ2.out.cell 7 _ rfl
           have z8 := HZ2.out.cell 8 _ rfl
           have z9 := HZ2.out.cell 9 _ rfl
           have y0 := HZ2.out.free 0
           have y1 := HZ2.out.free 1
           have y2 := HZ2.out.free 2
           have y3 := HZ2.out.free 3
           have y4 := HZ2.out.free 4
           have y5 := HZ2.out.free 5
           have y6 := HZ2.out.free 6
           have y7 := HZ2.out.free 7
           have y8 := HZ2.out.free 8
           have y9 := HZ2.out.free 9
           go_wp2_with fail
           have HF0 : Hid (bdB l = false) := Lib.hid (by rw [HFB.out]; rfl)
           have hst := bun_store HZ2.out (.slice none 0 0) (.int .i64 0) (.int .i64 0) (.slice none 0 0) (.int .i64 0) (.slice none 0 0) (.int .i64 0) (.slice none 0 0) (.slice none 0 0) (.slice none 0 0) _ rfl
           rw [show bdE l = 12 from by unfold bdE; rw [HF0.out]; rfl, show bdV l = zBun from by unfold bdV; rw [HF0.out]; rfl]
           refine bodyPost_ret (v := .tuple #[.agg [.slice none 0 0, .int .i64 0, .int .i64 0, .slice none 0 0, .int .i64 0, .slice none 0 0, .int .i64 0, .slice none 0 0, .slice none 0 0, .slice none 0 0].toArray, .int .i64 12]) ?_ ?_ ⟨_, rfl, ⟨_, _, _, _, _, _, rfl, Sho.nil _ 1, Rws.nil _, Sho.nil _ 1, Rws.nil _, Rws.nil _, ⟨[], Sho.nil _ 4, CgRow.nil _ _⟩⟩, ?_⟩
           ·exact results_row_tmp Tryz.results28 _ _ zb 42 _ (0, 0) _ rfl hst.1 under_bundle rfl size_bundle _ rfl
           ·rfl
           ·rw [HZB.out]
            exact HB2.out.trans (hst.2.below (by have := HB2.out.size; have := HZB.out; omega) (fun k hk => Nat.le_of_eq hk.symm))
          case' true =>
           go_wp2_with fail
           refine HPR.out.mono ?_
           rintro e w20 ⟨rfl, hb20⟩
           have hb21 := HB2.out.trans (hb20.mono (by have h1 := HB2.out.size; have h2 := HZB.out; omega))
           replace HB2 := Lib.hid hb21
           replace HM2 := Lib.hid (HM2.out.chg (Chg.of_below (S := fun _ => False) hb20) (fun _ _ h => h))
           replace HPS2 := Lib.hid (HPS2.out.below hb20)
           replace HRT2 := Lib.hid (HRT2.out.chg (Chg.of_below (S := fun _ => False) hb20) (fun _ _ h => h))
           replace HPP2 := Lib.hid (HPP2.out.below hb20)
           replace HPQ2 := Lib.hid (HPQ2.out.below hb20)
           replace HZ2 := Lib.hid (HZ2.out.below hb20)
           replace HBK2 := Lib.hid (HBK2.out.below hb20)
           replace HCO2 := Lib.hid (HCO2.out.below hb20)
           clear hb20 hb21 x1 x2 x3
           cases E4
           case' false =>
            have z0 := HZ2.out.cell 0 _ rfl
            have z1 := HZ2.out.cell 1 _ rfl
            have z2 := HZ2.out.cell 2 _ rfl
            have z3 := HZ2.out.cell 3 _ rfl
            have z4 := HZ2.out.cell 4 _ rfl
            have z5 := HZ2.out.cell 5 _ rfl
            have z6 := HZ2.out.cell 6 _ rfl
            have z7 := HZ2.out.cell 7 _ rfl
            have z8 := HZ2.out.cell 8 _ rfl
            have z9 := HZ2.out.cell 9 _ rfl
            have y0 := HZ2.out.free 0
            have y1 := HZ2.out.free 1
            have y2 := HZ2.out.free 2
            have y3 := HZ2.out.free 3
            have y4 := HZ2.out.free 4
            have y5 := HZ2.out.free 5
            have y6 := HZ2.out.free 6
            have y7 := HZ2.out.free 7
            have y8 := HZ2.out.free 8
            have y9 := HZ2.out.free 9
            go_wp2_with fail
            have HF0 : Hid (bdB l = false) := Lib.hid (by rw [HFB.out]; rfl)
            have hst := bun_store HZ2.out (.slice none 0 0) (.int .i64 0) (.int .i64 0) (.slice none 0 0) (.int .i64 0) (.slice none 0 0) (.int .i64 0) (.slice none 0 0) (.slice none 0 0) (.slice none 0 0) _ rfl
            rw [show bdE l = 12 from by unfold bdE; rw [HF0.out]; rfl, show bdV l = zBun from by unfold bdV; rw [HF0.out]; rfl]
            refine bodyPost_ret (v := .tuple #[.agg [.slice none 0 0, .int .i64 0, .int .i64 0, .slice none 0 0, .int .i64 0, .slice none 0 0, .int .i64 0, .slice none 0 0, .slice none 0 0, .slice none 0 0].toArray, .int .i64 12]) ?_ ?_ ⟨_, rfl, ⟨_, _, _, _, _, _, rfl, Sho.nil _ 1, Rws.nil _, Sho.nil _ 1, Rws.nil _, Rws.nil _, ⟨[], Sho.nil _ 4, CgRow.nil _ _⟩⟩, ?_⟩
            ·exact results_row_tmp Tryz.results28 _ _ zb 42 _ (0, 0) _ rfl hst.1 under_bundle rfl size_bundle _ rfl
            ·rfl
            ·rw [HZB.out]
             exact HB2.out.trans (hst.2.below (by have := HB2.out.size; have := HZB.out; omega) (fun k hk => Nat.le_of_eq hk.symm))
           case' true =>
            have x0 := HBK2.out.cell 0 _ rfl
            have x1 := HBK2.out.cell 1 _ rfl
            have x2 := HBK2.out.cell 2 _ rfl
            have x3 := HBK2.out.cell 3 _ rfl
            have x4 := HBK2.out.cell 4 _ rfl
            have x5 := HBK2.out.cell 5 _ rfl
            have x6 := HBK2.out.cell 6 _ rfl
            have x7 := HBK2.out.cell 7 _ rfl
            have x8 := HBK2.out.cell 8 _ rfl
            have x9 := HBK2.out.cell 9 _ rfl
            have z0 := HZ2.out.cell 0 _ rfl
            have z1 := HZ2.out.cell 1 _ rfl
            have z2 := HZ2.out.cell 2 _ rfl
            have z3 := HZ2.out.cell 3 _ rfl
            have z4 := HZ2.out.cell 4 _ rfl
            have z5 := HZ2.out.cell 5 _ rfl
            have z6 := HZ2.out.cell 6 _ rfl
            have z7 := HZ2.out.cell 7 _ rfl
            have z8 := HZ2.out.cell 8 _ rfl
            have z9 := HZ2.out.cell 9 _ rfl
            have y0 := HZ2.out.free 0
            have y1 := HZ2.out.free 1
            have y2 := HZ2.out.free 2
            have y3 := HZ2.out.free 3
            have y4 := HZ2.out.free 4
            have y5 := HZ2.out.free 5
            have y6 := HZ2.out.free 6
            have y7 := HZ2.out.free 7
            have y8 := HZ2.out.free 8
            have y9 := HZ2.out.free 9
            go_wp2_with fail
            have HF0 : Hid (bdB l = true) := Lib.hid (by rw [HFB.out]; rfl)
            have HF1 := Lib.hid (HFP.out HF0.out)
            have hst := bun_store HZ2.out (.slice M MN.length cm) (.int .i64 IX) (.int .i64 SZ) (.slice A8 PS.length c8) (.int .i64 SG.ck.num) (.slice R SG.ck.root.length cr) (.int .i64 SG.sig.index) (.slice P SG.sig.parts.length cp) (.slice Q SG.sig.path.length cq) (.slice A9 i c9) _ rfl
            rw [show bdE l = 0 from by unfold bdE; rw [HF0.out]; rfl, show bdV l = ⟨MN, ⟨IX, SZ, PS⟩, SG, ls⟩ from by unfold bdV; rw [HF0.out, if_pos rfl, HF1.out, (HT.out (by trivial)).1, (HT.out (by trivial)).2]]
            refine bodyPost_ret (v := .tuple #[.agg [.slice M MN.length cm, .int .i64 IX, .int .i64 SZ, .slice A8 PS.length c8, .int .i64 SG.ck.num, .slice R SG.ck.root.length cr, .int .i64 SG.sig.index, .slice P SG.sig.parts.length cp, .slice Q SG.sig.path.length cq, .slice A9 i c9].toArray, .int .i64 0]) ?_ ?_ ⟨_, rfl, ⟨_, _, _, _, _, _, rfl, ?_, ?_, ?_, ?_, ?_, ?_⟩, ?_⟩
            ·exact results_row_tmp Tryz.results28 _ _ zb 42 _ (0, 0) _ rfl hst.1 under_bundle rfl size_bundle _ rfl
            ·rfl
            ·exact (HM2.out.chg hst.2 (fun g hg e => by have h1 := hg.1; have h2 : g = zb := e; omega)).1
            ·have h := (HPS2.out.chg hst.2 (fun g hg e => by have h1 := hg.1; have h2 : g = zb := e; omega)).rws
             rw [HPSE2.out] at h
             exact h
            ·exact (HRT2.out.chg hst.2 (fun g hg e => by have h1 := hg.1; have h2 : g = zb := e; omega)).1
            ·exact (HPP2.out.chg hst.2 (fun g hg e => by have h1 := hg.1; have h2 : g = zb := e; omega)).rws
            ·exact (HPQ2.out.chg hst.2 (fun g hg e => by have h1 := hg.1; have h2 : g = zb := e; omega)).rws
            ·obtain ⟨us, o1, o2⟩ := HCO2.out
             exact ⟨us, Sho.own (ownsRow_chg o1 hst.2 (fun k hk e => by have h1 := (World.ownsRow.lt o1 k hk).1; have h2 : k = zb := e; omega)), (o2.chg hst.2 (fun g hg e => by have h1 := hg.1; have h2 : g = zb := e; omega)).mono (fun _ _ => True.intro)⟩
            ·rw [HZB.out]
             exact HB2.out.trans (hst.2.below (by have := HB2.out.size; have := HZB.out; omega) (fun k hk => Nat.le_of_eq hk.symm))
end Go.Proofs.YtgeplpdcnanmnaaGreat

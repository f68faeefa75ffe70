/- wire's Reader: Read, Byte, Num, Bytes, End, Bad. manifest's name and Right. The reference's manifests: Name, Right. Conditions: as each theorem states them. -/
import Derived.Test.YtgeplpdcnanmnaaGreatZbc
namespace Go.Proofs.YtgeplpdcnanmnaaGreat
open Go.RowKit
set_option linter.unusedVariables false
set_option linter.unusedSimpArgs false

theorem numL_lt : ∀ (bs : List UInt8) (k : Nat), bs.length ≤ k → k ≤ 4 → numL bs < 256 ^ k
 | bs, 0, h, _ => by
  obtain rfl : bs = [] := List.length_eq_zero_iff.1 (by omega)
  decide
 | bs, k + 1, h, hk => by
  rcases List.eq_nil_or_concat bs with rfl | ⟨l, c, rfl⟩
  ·have : (0 : Int) < 256 ^ (k + 1) := Int.pow_pos (by decide)
   exact this
  ·have ih := numL_lt l k (by simp at h; omega) (by omega)
   have hb := numL_bounds l
   have hc := c.toNat_lt
   rw [List.concat_eq_append, numL_snoc]
   have e : (256 : Int) ^ (k + 1) = 256 ^ k * 256 := Int.pow_succ ..
   rw [e]
   generalize (256 : Int) ^ k = X at *
   have h1 : (numL l * 256 + ((c.toNat : Nat) : Int)) % 4294967296 ≤ numL l * 256 + ((c.toNat : Nat) : Int) := by omega
   omega
theorem rnumV_lt (r : RdD) (k : Nat) (hk : k ≤ 4) : 0 ≤ rnumV r k ∧ rnumV r k < 256 ^ k := ⟨(numL_bounds _).1, numL_lt _ k (by have := rtakV_n r k; omega) hk⟩
set_option maxRecDepth 100000 in
theorem byte_any (D : Nat → Prop) (b : Nat) (r : RdD) (hsm : r.l.length ≤ 1000000000) (w : World) (h : RdW D w b r) :
  Calls Tryz.prog 91 #[.pointer (some ⟨b, 0, none⟩)] w fun e w' => e = .returned (.int .u8 (rnumV r 1)) ∧ RdW D w' b (rtakN r 1) ∧ Chg w w' (fun k => k = b) := by
 have HT := Lib.hid (number_any D b r 1 hsm w h)
 have hl := rnumV_lt r 1 (by decide)
 have hl1 : rnumV r 1 < 256 := hl.2
 have hl0 : 0 ≤ rnumV r 1 := hl.1
 clear h hl
 generalize rnumV r 1 = NV at *
 generalize rtakN r 1 = N at *
 go_enter Tryz.func91, Tryz.ntmps91
 go_wp2_with fail
 refine HT.out.mono ?_
 rintro e w1 ⟨rfl, h1, h2⟩
 have H1 := Lib.hid (And.intro h1 h2)
 clear h1 h2
 have em : NV % 256 = NV := by omega
 go_wp2
 go_ret
 exact ⟨by simp [em], H1.out.1, H1.out.2⟩
set_option maxRecDepth 100000 in
theorem num_any (D : Nat → Prop) (b : Nat) (r : RdD) (hsm : r.l.length ≤ 1000000000) (w : World) (h : RdW D w b r) :
  Calls Tryz.prog 90 #[.pointer (some ⟨b, 0, none⟩)] w fun e w' => e = .returned (.int .u32 (rnumV r 4)) ∧ RdW D w' b (rtakN r 4) ∧ Chg w w' (fun k => k = b) := by
 have HT := Lib.hid (number_any D b r 4 hsm w h)
 clear h
 generalize rnumV r 4 = NV at *
 generalize rtakN r 4 = N at *
 go_enter Tryz.func90, Tryz.ntmps90
 go_wp2_with fail
 refine HT.out.mono ?_
 rintro e w1 ⟨rfl, h1, h2⟩
 have H1 := Lib.hid (And.intro h1 h2)
 clear h1 h2
 go_wp2
 go_ret
 exact ⟨rfl, H1.out.1, H1.out.2⟩
set_option maxRecDepth 100000 in
theorem bytes_any (D : Nat → Prop) (b : Nat) (r : RdD) (most : Int) (hm : 0 ≤ most ∧ most ≤ 1000000) (hsm : r.l.length ≤ 1000000000) (w : World) (h : RdW D w b r) :
  Calls Tryz.prog 89 #[.pointer (some ⟨b, 0, none⟩), .int .i64 most] w fun e w' => ∃ v, e = .returned v ∧ OwnB w' w.heap.size v (rtxtV r most) ∧ RdW D w' b (rtxtR r most) ∧ Chg w w' (fun k => k = b) := by
 have HT := Lib.hid (number_any D b r 2 hsm w h)
 have hl := rnumV_lt r 2 (by decide)
 have hl1 : rnumV r 2 < 65536 := hl.2
 have hl0 : 0 ≤ rnumV r 2 := hl.1
 have HR := Lib.hid (fun (n : Int) (wz : World) (z : RdW D wz b (rtakN r 2)) => raw_any D b (rtakN r 2) n (by have := rtakN_length r 2; omega) wz z)
 have HV : Hid (rtxtV r most = rtakV (rtakN r 2) (if most < rnumV r 2 then -1 else rnumV r 2) ∧ rtxtR r most = rtakN (rtakN r 2) (if most < rnumV r 2 then -1 else rnumV r 2)) := Lib.hid ⟨rfl, rfl⟩
 clear h hl
 generalize rtxtV r most = TV at *
 generalize rtxtR r most = TN at *
 generalize rnumV r 2 = NV at *
 generalize rtakN r 2 = N at *
 go_enter Tryz.func89, Tryz.ntmps89
 go_wp2_with fail
 refine HT.out.mono ?_
 rintro e w1 ⟨rfl, h1, h2⟩
 have H1 := Lib.hid (And.intro h1 h2)
 clear h1 h2
 have hmx : max most 0 = most := by omega
 by_cases hgt : most < NV
 ·have HX : Hid (TV = rtakV N (-1) ∧ TN = rtakN N (-1)) := Lib.hid (by have := HV.out; rw [if_pos hgt] at this; exact this)
  clear HV
  go_wp2_with fail
  refine (HR.out (-1) _ H1.out.1).mono ?_
  rintro e w2 ⟨v2, rfl, h1, h2, h3⟩
  obtain ⟨A2, c2, rfl⟩ := h1.form
  have H2 : Hid (OwnB w2 w.heap.size (.slice A2 (rtakV N (-1)).length c2) (rtakV N (-1)) ∧ RdW D w2 b (rtakN N (-1)) ∧ Chg w w2 (fun k => k = b)) := Lib.hid ⟨own_mono' h1 H1.out.2.size, h2, H1.out.2.trans h3 (fun _ _ h => h)⟩
  clear h1 h2 h3
  go_wp2
  go_ret
  rw [HX.out.1, HX.out.2]
  exact ⟨_, rfl, H2.out.1, H2.out.2.1, H2.out.2.2⟩
 ·have HX : Hid (TV = rtakV N NV ∧ TN = rtakN N NV) := Lib.hid (by have := HV.out; rw [if_neg hgt] at this; exact this)
  clear HV
  go_wp2_with fail
  refine (HR.out NV _ H1.out.1).mono ?_
  rintro e w2 ⟨v2, rfl, h1, h2, h3⟩
  obtain ⟨A2, c2, rfl⟩ := h1.form
  have H2 : Hid (OwnB w2 w.heap.size (.slice A2 (rtakV N NV).length c2) (rtakV N NV) ∧ RdW D w2 b (rtakN N NV) ∧ Chg w w2 (fun k => k = b)) := Lib.hid ⟨own_mono' h1 H1.out.2.size, h2, H1.out.2.trans h3 (fun _ _ h => h)⟩
  clear h1 h2 h3
  go_wp2
  go_ret
  rw [HX.out.1, HX.out.2]
  exact ⟨_, rfl, H2.out.1, H2.out.2.1, H2.out.2.2⟩
set_option maxRecDepth 100000 in
theorem end_any (D : Nat → Prop) (b : Nat) (r : RdD) (w : World) (h : RdW D w b r) :
  Calls Tryz.prog 96 #[.pointer (some ⟨b, 0, none⟩)] w fun e w' => e = .returned (.bool (rend r)) ∧ w = w' := by
 obtain ⟨v, hb, hs, hd⟩ := h
 obtain ⟨l, bad⟩ := r
 have c0 := hb.cell 0 _ rfl
 have c1 := hb.cell 1 _ rfl
 obtain ⟨A, c, rfl⟩ := Sho.form hs.sho
 have HE : Hid (rend ⟨l, bad⟩ = (!bad && decide (l.length = 0))) := Lib.hid rfl
 generalize rend ⟨l, bad⟩ = RE at *
 clear hb hs hd
 dsimp only at c0 c1
 generalize l.length = n at *
 go_enter Tryz.func96, Tryz.ntmps96
 cases bad
 ·go_wp2
  go_ret
  rw [HE.out]
  refine ⟨congrArg Ending.returned (congrArg Value.bool ?_), rfl⟩
  rw [Bool.eq_iff_iff]
  simp
 ·go_wp2
  go_ret
  rw [HE.out]
  exact ⟨rfl, rfl⟩
set_option maxRecDepth 100000 in
theorem bad_any (D : Nat → Prop) (b : Nat) (r : RdD) (w : World) (h : RdW D w b r) :
  Calls Tryz.prog 92 #[.pointer (some ⟨b, 0, none⟩)] w fun e w' => e = .returned (.bool r.bad) ∧ w = w' := by
 obtain ⟨v, hb, hs, hd⟩ := h
 have c1 := hb.cell 1 _ rfl
 clear hb hs hd
 generalize r.bad = bad at *
 go_enter Tryz.func92, Tryz.ntmps92
 go_wp2
 go_ret
 exact ⟨rfl, rfl⟩
set_option maxRecDepth 100000 in
theorem read_any (v : Value) (l : List UInt8) (hsm : l.length ≤ 1000000000000) (w : World) (hv : Bys w v l) :
  Calls Tryz.prog 88 #[v] w fun e w' => ∃ b, e = .returned (.pointer (some ⟨b, 0, none⟩)) ∧ RdW (fun g => w.heap.size ≤ g ∧ g < b) w' b ⟨l, false⟩ ∧ w.heap.size ≤ b ∧ Below w.heap.size w w' := by
 obtain ⟨A, c, rfl⟩ := hv.form
 have HC := Lib.hid (clone_any _ l hsm w hv)
 clear hv
 go_enter Tryz.func88, Tryz.ntmps88
 go_wp2_with fail
 refine HC.out.mono ?_
 rintro e w1 ⟨v1, rfl, h1, h2⟩
 obtain ⟨A1, c1, rfl⟩ := h1.form
 have hbx := (Below.refl w1.heap.size w1).alloc (Nat.le_refl _) (.cells #[.slice A1 l.length c1, .bool false] 197)
 have hfo : ShoP (fun g => w.heap.size ≤ g ∧ g < w1.heap.size) w1 (.slice A1 l.length c1) l.length 1 (bys l) := ShoP.own h1
 have H1 := Lib.hid (And.intro (hfo.chg (Chg.of_below (S := fun _ => False) hbx) (fun _ _ h => h)) (And.intro h2.size (h2.trans (hbx.mono h2.size))))
 clear h1 h2 hbx hfo
 go_wp2
 go_ret
 exact ⟨_, rfl, ⟨_, Blk.new w1 197 [.slice A1 l.length c1, .bool false], H1.out.1, fun h => by have := h.2; omega⟩, H1.out.2.1, H1.out.2.2⟩
def MaV (w : World) (v : Value) (m : ManD) : Prop := ∃ f n, v = .agg #[.string ⟨m.name.toArray⟩, .int .u32 m.ver, f, n] ∧ Bys w f m.fw ∧ Bys w n m.notes
def lowB (c : UInt8) : Bool := decide (97 ≤ c.toNat ∧ c.toNat ≤ 122)
theorem all_take (l : List UInt8) (k : Nat) (h : k < l.length) : (l.take (k + 1)).all lowB = ((l.take k).all lowB && lowB l[k]) := by
 rw [List.take_succ_eq_append_getElem h, List.all_append]
 simp
theorem all_short (l : List UInt8) (k : Nat) (h : k < l.length) (hb : lowB l[k] = false) : l.all lowB = false := by
 rw [List.all_eq_false]
 exact ⟨l[k], List.getElem_mem h, by rw [hb]; decide⟩
set_option maxRecDepth 100000 in
set_option maxHeartbeats 1000000 in
theorem name_any (l : List UInt8) (hsm : l.length ≤ 1000000000) (w : World) :
  Calls Tryz.prog 176 #[.string ⟨l.toArray⟩] w fun e w' => e = .returned (.bool (nameB l)) ∧ w = w' := by
 obtain ⟨S, hS⟩ : ∃ S : ByteArray, S = ⟨l.toArray⟩ := ⟨_, rfl⟩
 rw [← hS]
 have hz : S.size = l.length := by rw [hS]; rfl
 have HA : Hid (∀ k (h : k < l.length) (h2 : k < S.size), (S[k]'h2).toNat = l[k].toNat) := Lib.hid (by subst hS; intro k h h2; rfl)
 have HN : Hid (nameB l = (decide (1 ≤ l.length) && (decide (l.length ≤ 20) && l.all lowB))) := Lib.hid rfl
 have HAT := Lib.hid (all_take l)
 have HSH := Lib.hid (all_short l)
 have HLB : Hid (∀ k (h : k < l.length), lowB l[k] = decide (97 ≤ l[k].toNat ∧ l[k].toNat ≤ 122)) := Lib.hid (fun k h => rfl)
 have HEN : Hid (l.take l.length = l) := Lib.hid List.take_length
 have H0 : Hid ((l.take 0).all lowB = true) := Lib.hid rfl
 clear hS
 go_enter Tryz.func176, Tryz.ntmps176
 by_cases h1 : l.length < 1
 ·go_wp2
  go_ret
  rw [HN.out, decide_eq_false (by omega)]
  exact ⟨rfl, rfl⟩
 by_cases h2 : 20 < l.length
 ·go_wp2
  go_ret
  rw [HN.out, decide_eq_false (show ¬ l.length ≤ 20 by omega)]
  exact ⟨by simp, rfl⟩
 go_wp2
 go_loopw [3, 14] (fun v3 v14 wr => ∃ k : Nat, v14 = .int .i64 k ∧ k ≤ l.length ∧ Hid ((l.take k).all lowB = true) ∧ wr = w) (fun _ v _ => l.length - (intOf v).toNat)
 case atStart => exact ⟨0, rfl, Nat.zero_le _, H0, rfl⟩
 case round =>
  obtain ⟨k, rfl, hk, HI, rfl⟩ := hrel
  by_cases hlt : k < l.length
  ·have hks : k < S.size := by omega
   have ha := HA.out k hlt hks
   have hat := HAT.out k hlt
   have hlb := HLB.out k hlt
   have hsh := HSH.out k hlt
   have hub := l[k].toNat_lt
   rw [HI.out, hlb] at hat
   rw [hlb] at hsh
   have HB := Lib.hid (And.intro hat hsh)
   clear hat hlb hsh
   generalize l[k].toNat = X at *
   by_cases hx1 : X < 97
   ·have hf := HB.out.2 (decide_eq_false (by omega))
    go_wp2
    go_ret
    rw [HN.out, hf]
    exact ⟨by simp, rfl⟩
   by_cases hx2 : 122 < X
   ·have hf := HB.out.2 (decide_eq_false (by omega))
    go_wp2
    go_ret
    rw [HN.out, hf]
    exact ⟨by simp, rfl⟩
   have HT : Hid ((l.take (k + 1)).all lowB = true) := Lib.hid (by rw [HB.out.1, decide_eq_true (show 97 ≤ X ∧ X ≤ 122 by omega)]; rfl)
   go_wp2
   go_roundw
   case rel => exact ⟨k + 1, by go_num, by omega, HT, trivial⟩
   case measure => simp [intOf]; omega
  ·obtain rfl : k = l.length := by omega
   have HX : Hid (l.all lowB = true) := Lib.hid (by have := HI.out; rw [HEN.out] at this; exact this)
   go_wp2
   go_ret
   rw [HN.out, HX.out, decide_eq_true (show 1 ≤ l.length by omega), decide_eq_true (show l.length ≤ 20 by omega)]
   exact ⟨rfl, rfl⟩
set_option maxRecDepth 100000 in
set_option maxHeartbeats 1000000 in
theorem mright_any (v : Value) (m : ManD) (hsm : m.name.length ≤ 1000000000) (hv0 : 0 ≤ m.ver) (w : World) (hv : MaV w v m) :
  Calls Tryz.prog 128 #[v] w fun e w' => e = .returned (.bool (manB m)) ∧ Below w.heap.size w w' := by
 obtain ⟨f, n, rfl, h1, h2⟩ := hv
 obtain ⟨A, c, rfl⟩ := h1.form
 obtain ⟨A', c', rfl⟩ := h2.form
 obtain ⟨name, ver, fw, notes⟩ := m
 have HN := Lib.hid (fun wz : World => name_any name hsm wz)
 have HM : Hid (manB ⟨name, ver, fw, notes⟩ = (nameB name && (decide (0 < ver) && (decide (fw.length = 32) && decide (notes.length ≤ 64))))) := Lib.hid rfl
 have hb := (Below.refl w.heap.size w).alloc (Nat.le_refl _) (.cells #[.string ⟨name.toArray⟩, .int .u32 ver, .slice A fw.length c, .slice A' notes.length c'] 55)
 clear h1 h2
 dsimp only at *
 generalize manB ⟨name, ver, fw, notes⟩ = R at *
 generalize fw.length = fl at *
 generalize notes.length = nl at *
 go_enter Tryz.func128, Tryz.ntmps128
 go_wp2_with fail
 refine (HN.out _).mono ?_
 rintro e w1 ⟨rfl, rfl⟩
 cases hnb : nameB name
 ·go_wp2
  go_ret
  rw [HM.out, hnb]
  exact ⟨rfl, hb⟩
 by_cases q1 : 0 < ver
 ·by_cases q2 : fl = 32
  ·subst q2
   go_wp2
   go_ret
   rw [HM.out, hnb, decide_eq_true q1]
   refine ⟨congrArg Ending.returned (congrArg Value.bool ?_), hb⟩
   rw [Bool.eq_iff_iff]
   simp
   omega
  ·go_wp2
   go_ret
   rw [HM.out, hnb, decide_eq_true q1, decide_eq_false q2]
   exact ⟨rfl, hb⟩
 ·go_wp2
  go_ret
  rw [HM.out, hnb, decide_eq_false (show ¬ 0 < ver by omega)]
  exact ⟨rfl, hb⟩
set_option maxRecDepth 100000 in
set_option maxHeartbeats 1000000 in
theorem r9name_any (l : List UInt8) (hsm : l.length ≤ 1000000000) (w : World) :
  Calls Tryz.prog 138 #[.string ⟨l.toArray⟩] w fun e w' => e = .returned (.bool (nameB l)) ∧ w = w' := by
 obtain ⟨S, hS⟩ : ∃ S : ByteArray, S = ⟨l.toArray⟩ := ⟨_, rfl⟩
 rw [← hS]
 have hz : S.size = l.length := by rw [hS]; rfl
 have HA : Hid (∀ k (h : k < l.length) (h2 : k < S.size), (S[k]'h2).toNat = l[k].toNat) := Lib.hid (by subst hS; intro k h h2; rfl)
 have HN : Hid (nameB l = (decide (1 ≤ l.length) && (decide (l.length ≤ 20) && l.all lowB))) := Lib.hid rfl
 have HAT := Lib.hid (all_take l)
 have HSH := Lib.hid (all_short l)
 have HLB : Hid (∀ k (h : k < l.length), lowB l[k] = decide (97 ≤ l[k].toNat ∧ l[k].toNat ≤ 122)) := Lib.hid (fun k h => rfl)
 have HEN : Hid (l.take l.length = l) := Lib.hid List.take_length
 have H0 : Hid ((l.take 0).all lowB = true) := Lib.hid rfl
 clear hS
 go_enter Tryz.func138, Tryz.ntmps138
 go_wp2
 go_loopw [3] (fun v3 wr => ∃ k : Nat, v3 = .int .i64 k ∧ k ≤ l.length ∧ Hid ((l.take k).all lowB = true) ∧ wr = w) (fun v _ => l.length - (intOf v).toNat)
 case atStart => exact ⟨0, rfl, Nat.zero_le _, H0, rfl⟩
 case round =>
  obtain ⟨k, rfl, hk, HI, rfl⟩ := hrel
  by_cases hlt : k < l.length
  ·have hks : k < S.size := by omega
   have ha := HA.out k hlt hks
   have hat := HAT.out k hlt
   have hlb := HLB.out k hlt
   have hsh := HSH.out k hlt
   have hub := l[k].toNat_lt
   rw [HI.out, hlb] at hat
   rw [hlb] at hsh
   have HB := Lib.hid (And.intro hat hsh)
   clear hat hlb hsh
   generalize l[k].toNat = X at *
   by_cases hx1 : X < 97
   ·have hf := HB.out.2 (decide_eq_false (by omega))
    have HZ : Hid (nameB l = false) := Lib.hid (by rw [HN.out, hf]; simp)
    clear hf
    go_wp2
    go_ret
    rw [HZ.out]
    exact ⟨rfl, rfl⟩
   by_cases hx2 : 122 < X
   ·have hf := HB.out.2 (decide_eq_false (by omega))
    have HZ : Hid (nameB l = false) := Lib.hid (by rw [HN.out, hf]; simp)
    clear hf
    go_wp2
    go_ret
    rw [HZ.out]
    exact ⟨rfl, rfl⟩
   have HT : Hid ((l.take (k + 1)).all lowB = true) := Lib.hid (by rw [HB.out.1, decide_eq_true (show 97 ≤ X ∧ X ≤ 122 by omega)]; rfl)
   go_wp2
   go_roundw
   case rel => exact ⟨k + 1, by go_num, by omega, HT, trivial⟩
   case measure => simp [intOf]; omega
  ·obtain rfl : k = l.length := by omega
   have HX : Hid (l.all lowB = true) := Lib.hid (by have := HI.out; rw [HEN.out] at this; exact this)
   by_cases h1 : 1 ≤ l.length
   ·by_cases h2 : l.length ≤ 20
    ·have HZ : Hid (nameB l = true) := Lib.hid (by rw [HN.out, HX.out, decide_eq_true h1, decide_eq_true h2]; rfl)
     go_wp2
     go_ret
     rw [HZ.out]
     exact ⟨by simp <;> omega, rfl⟩
    ·have HZ : Hid (nameB l = false) := Lib.hid (by rw [HN.out, HX.out, decide_eq_true h1, decide_eq_false h2]; rfl)
     go_wp2
     go_ret
     rw [HZ.out]
     exact ⟨by simp <;> omega, rfl⟩
   ·have HZ : Hid (nameB l = false) := Lib.hid (by rw [HN.out, HX.out, decide_eq_false h1]; rfl)
    go_wp2
    go_ret
    rw [HZ.out]
    exact ⟨by simp <;> omega, rfl⟩
set_option maxRecDepth 100000 in
set_option maxHeartbeats 1000000 in
theorem r9right_any (v : Value) (m : ManD) (hsm : m.name.length ≤ 1000000000) (hv0 : 0 ≤ m.ver) (w : World) (hv : MaV w v m) :
  Calls Tryz.prog 64 #[v] w fun e w' => e = .returned (.bool (manB m)) ∧ Below w.heap.size w w' := by
 obtain ⟨f, n, rfl, h1, h2⟩ := hv
 obtain ⟨A, c, rfl⟩ := h1.form
 obtain ⟨A', c', rfl⟩ := h2.form
 obtain ⟨name, ver, fw, notes⟩ := m
 have HN := Lib.hid (fun wz : World => r9name_any name hsm wz)
 have HM : Hid (manB ⟨name, ver, fw, notes⟩ = (nameB name && (decide (0 < ver) && (decide (fw.length = 32) && decide (notes.length ≤ 64))))) := Lib.hid rfl
 have hb := (Below.refl w.heap.size w).alloc (Nat.le_refl _) (.cells #[.string ⟨name.toArray⟩, .int .u32 ver, .slice A fw.length c, .slice A' notes.length c'] 55)
 clear h1 h2
 dsimp only at *
 generalize manB ⟨name, ver, fw, notes⟩ = R at *
 generalize fw.length = fl at *
 generalize notes.length = nl at *
 go_enter Tryz.func64, Tryz.ntmps64
 go_wp2_with fail
 refine (HN.out _).mono ?_
 rintro e w1 ⟨rfl, rfl⟩
 cases hnb : nameB name
 ·go_wp2
  go_ret
  rw [HM.out, hnb]
  exact ⟨rfl, hb⟩
 by_cases q1 : 0 < ver
 ·by_cases q2 : fl = 32
  ·subst q2
   go_wp2
   go_ret
   rw [HM.out, hnb, decide_eq_true q1]
   refine ⟨congrArg Ending.returned (congrArg Value.bool ?_), hb⟩
   rw [Bool.eq_iff_iff]
   simp
   omega
  ·go_wp2
   go_ret
   rw [HM.out, hnb, decide_eq_true q1, decide_eq_false q2]
   exact ⟨rfl, hb⟩
 ·go_wp2
  go_ret
  rw [HM.out, hnb, decide_eq_false (show ¬ 0 < ver by omega)]
  exact ⟨rfl, hb⟩
end Go.Proofs.YtgeplpdcnanmnaaGreat

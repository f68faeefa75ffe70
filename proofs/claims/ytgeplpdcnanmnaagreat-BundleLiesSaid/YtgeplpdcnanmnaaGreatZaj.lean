/- The reference's Tagged. The reference's keys that sign once: secrets, what is shown, the public part. Proofs in a tree: the plain law. No program in sight. Conditions: as each theorem states them. -/
import Derived.Test.YtgeplpdcnanmnaaGreatZag
import Derived.Test.YtgeplpdcnanmnaaGreatZaa
namespace Go.Proofs.YtgeplpdcnanmnaaGreat
open Go.RowKit
set_option linter.unusedVariables false
set_option linter.unusedSimpArgs false

def tagH (b : UInt8) (ls : List (List UInt8)) : List UInt8 := sha (b :: ls.flatten)
theorem tagH_length (b : UInt8) (ls : List (List UInt8)) : (tagH b ls).length = 32 := sha_length _
set_option maxRecDepth 100000 in
set_option maxHeartbeats 1000000 in
theorem rtag_any (t : Int) (b : UInt8) (hb : ((b.toNat : Nat) : Int) = t) (v : Value) (ls : List (List UInt8)) (hsm : ls.flatten.length ≤ 100000000000) (hls : ls.length ≤ 100000000000) (w : World) (hx : Rws w v ls) :
  Calls Tryz.prog 59 #[.int .u8 t, v] w fun e w' => ∃ v', e = .returned v' ∧ OwnB w' w.heap.size v' (tagH b ls) ∧ Below w.heap.size w w' := by
 obtain ⟨i0, hi0, hz0, hz1, hz2⟩ := info_parts info_u8
 obtain ⟨A, c, rfl⟩ := hx.form
 have HX := Lib.hid (And.intro hx (bys_u8 b t hb))
 clear hx hb
 go_enter Tryz.func59, Tryz.ntmps59
 go_wp2
 go_loopw [5, 6] (fun v5 v6 wr => ∃ k : Nat, v6 = .int .i64 k ∧ k ≤ ls.length ∧ Hid (Below w.heap.size w wr ∧ OwnB wr w.heap.size v5 (b :: (ls.take k).flatten))) (fun _ v _ => ls.length - (intOf v).toNat)
 case atStart => exact ⟨0, rfl, Nat.zero_le _, Lib.hid ⟨(Below.refl _ _).alloc (Nat.le_refl _) _, by
  have := own_new (w := w) (base := w.heap.size) (size := 1) (n := 1) 5 [.int .u8 t] rfl (by decide) (Nat.le_refl _)
  show World.ownsRow _ _ _ _ _ 1 (bys [b])
  rw [HX.out.2]
  exact this⟩⟩
 case round =>
  obtain ⟨k, rfl, hk, HI⟩ := hrel
  have hlen : (b :: (ls.take k).flatten).length ≤ 100000000001 := by have := flat_le ls k; simp only [List.length_cons]; omega
  by_cases hlt : k < ls.length
  ·obtain ⟨g, o, u, rfl, hg, -, -, hcu, hbu⟩ := HX.out.1.at' k hlt
   have p0 := (HI.out.1.cell (p := ⟨g, o + k, none⟩) hg).trans hcu
   have HU := Lib.hid (hbu.below HI.out.1)
   have HT := Lib.hid (flat_take ls k hlt)
   have hlk : (b :: (ls.take k).flatten).length + ls[k].length ≤ 100000000001 := by have := flat_le ls (k + 1); rw [HT.out, List.length_append] at this; simp only [List.length_cons]; omega
   generalize ls[k] = x at *
   generalize (ls.take k).flatten = D at *
   have hsz := HI.out.1.size
   clear hcu hbu
   go_wp2_with (at_builtin; (refine wpList_append_any rfl (.tmp 15) (.tmp 19) 24 rfl w.heap.size 5 i0 (.int .u8 0) 1 1 Tryz.underlying24 hi0 hz0 hz1 hz2 rfl (by decide) _ _ _ rfl HI.out.2.any _ x.length (bys x) rfl HU.out.news (by unfold maxLen; omega) (by omega) hsz ?_); intro v2 W2 hown2 hgrow2; have HB2 : Hid (Below w.heap.size w W2) := Lib.hid (HI.out.1.grown hgrow2 hsz (fun k e => OwnB.ge HI.out.2 e)); have HO2 : Hid (OwnB W2 w.heap.size v2 ((b :: D) ++ x)) := Lib.hid (OwnB.append rfl hown2); clear hown2 hgrow2)
   go_roundw
   case rel => exact ⟨k + 1, by go_num, by omega, Lib.hid ⟨HB2.out, by rw [HT.out]; exact HO2.out⟩⟩
   case measure => simp [intOf]; omega
  ·obtain rfl : k = ls.length := by omega
   have HO := HI.out.2
   rw [List.take_length] at HO
   have HO2 := Lib.hid HO
   have hlen2 : (b :: ls.flatten).length ≤ 1000000000000 := by simp only [List.length_cons]; omega
   clear HO
   have HB := Lib.hid HI.out.1
   clear HI
   go_wp2_with fail
   refine (rsum_any _ (b :: ls.flatten) hlen2 wr HO2.out.bys).mono ?_
   rintro e w2 ⟨v', rfl, h1, h2⟩
   have HF := Lib.hid (And.intro h1 h2)
   clear h1 h2
   go_wp2
   go_ret
   exact ⟨_, rfl, own_mono' HF.out.1 HB.out.size, HB.out.trans (HF.out.2.mono HB.out.size)⟩
def RetB (w : World) (l : List UInt8) (e : Ending) (w' : World) : Prop := ∃ v', e = .returned v' ∧ OwnB w' w.heap.size v' l ∧ Below w.heap.size w w'

set_option maxRecDepth 100000 in
theorem rnum_any (base : Nat) (v : Value) (l : List UInt8) (n : Int) (hsm : l.length ≤ 1000000000000) (w : World) (hb : base ≤ w.heap.size) (ho : OwnB w base v l) :
  Calls Tryz.prog 70 #[v, .int .u32 n] w fun e w' => ∃ v', e = .returned v' ∧ OwnB w' base v' (l ++ be4 n) ∧ Below base w w' ∧ Chg w w' (fun k => v.ownBlock = some k) := by
 obtain ⟨i0, hi0, hz0, hz1, hz2⟩ := info_parts info_u8
 have HO := Lib.hid ho
 clear ho
 have e1 : n / 16777216 % 256 = (((ub (n / 16777216)).toNat : Nat) : Int) := (ub_val _).symm
 have e2 : n / 65536 % 256 = (((ub (n / 65536)).toNat : Nat) : Int) := (ub_val _).symm
 have e3 : n / 256 % 256 = (((ub (n / 256)).toNat : Nat) : Int) := (ub_val _).symm
 have e4 : n % 256 = (((ub n).toNat : Nat) : Int) := (ub_val _).symm
 have HBE : Hid (be4 n = [ub (n / 16777216), ub (n / 65536), ub (n / 256), ub n]) := Lib.hid rfl
 generalize ub (n / 16777216) = b1 at *
 generalize ub (n / 65536) = b2 at *
 generalize ub (n / 256) = b3 at *
 generalize ub n = b4 at *
 generalize hbe : be4 n = B at *
 go_enter Tryz.func70, Tryz.ntmps70
 go_wp2_with (at_builtin; (refine wpList_append_any rfl (.tmp 5) (.tmp 17) 24 rfl base 5 i0 (.int .u8 0) 1 1 Tryz.underlying24 hi0 hz0 hz1 hz2 rfl (by decide) _ _ _ rfl (World.ownsRow.alloc HO.out _) _ 4 (bys [b1, b2, b3, b4]) rfl (Bys.new w [b1, b2, b3, b4] 4 rfl (by decide)) (by unfold maxLen; omega) (by omega) (by simp; omega) ?_); intro v2 W2 hown2 hgrow2; have HB2 : Hid (Below base w W2) := Lib.hid (((Below.refl base w).alloc hb _).grown hgrow2 (by simp; omega) (fun k e => OwnB.ge HO.out e)); have HC2 : Hid (Chg w W2 (fun k => v.ownBlock = some k)) := Lib.hid (((Chg.refl w _).alloc _).trans (Chg.of_grown hgrow2) (fun i _ h => h.symm)); have HO2 : Hid (OwnB W2 base v2 (l ++ [b1, b2, b3, b4])) := Lib.hid (OwnB.append rfl hown2); clear hown2 hgrow2)
 go_ret
 exact ⟨_, rfl, by rw [HBE.out]; exact HO2.out, HB2.out, HC2.out⟩

def secretS (seed : List UInt8) (key bit side : Int) : List UInt8 := tagH 10 [seed, be4 key, [ub bit, ub side]]
def shownS (seed : List UInt8) (key bit side : Int) : List UInt8 := tagH 11 [secretS seed key bit side]
theorem secretS_length (seed : List UInt8) (key bit side : Int) : (secretS seed key bit side).length = 32 := tagH_length _ _
theorem shownS_length (seed : List UInt8) (key bit side : Int) : (shownS seed key bit side).length = 32 := tagH_length _ _
theorem be4_length (n : Int) : (be4 n).length = 4 := rfl

set_option maxRecDepth 100000 in
set_option maxHeartbeats 1000000 in
theorem rsecret_any (v : Value) (seed : List UInt8) (key bit side : Int) (hk : 0 ≤ key ∧ key < 1000) (hb : 0 ≤ bit ∧ bit < 256) (hs : 0 ≤ side ∧ side < 256) (hsm : seed.length ≤ 1000000000) (w : World) (hx : Bys w v seed) :
  Calls Tryz.prog 171 #[v, .int .i64 key, .int .i64 bit, .int .i64 side] w (RetB w (secretS seed key bit side)) := by
 obtain ⟨A, c, rfl⟩ := hx.form
 have HX := Lib.hid hx
 clear hx
 have HSS : Hid (secretS seed key bit side = tagH 10 [seed, be4 key, [ub bit, ub side]]) := Lib.hid rfl
 generalize secretS seed key bit side = SS at *
 have eb : bit = (((ub bit).toNat : Nat) : Int) := by rw [ub_val]; omega
 have es : side = (((ub side).toNat : Nat) : Int) := by rw [ub_val]; omega
 generalize ub bit = bb at *
 generalize ub side = sb at *
 subst eb es
 go_enter Tryz.func171, Tryz.ntmps171
 go_wp2_with fail
 refine (rnum_any w.heap.size _ [] key (by decide) w (Nat.le_refl _) (World.ownsRow_nil _ _ _ _)).mono ?_
 rintro e w1 ⟨v1, rfl, h1, h2, -⟩
 obtain ⟨A1, c1, rfl⟩ := h1.form
 have H1 := Lib.hid (And.intro h2 (And.intro (show Bys w1 _ (be4 key) from h1.bys) (HX.out.below h2)))
 clear h1 h2
 go_wp2_with fail
 have hal := (Below.refl w1.heap.size w1).alloc (Nat.le_refl _) (.cells (bys [bb, sb]).toArray 5)
 have hbb : Bys (w1.alloc (.cells (bys [bb, sb]).toArray 5)) (.slice (some ⟨w1.heap.size, 0, none⟩) 2 2) [bb, sb] := Sho.new w1 5 (bys [bb, sb]) 2 1 2 rfl (Nat.le_refl _) (by decide)
 have hal2 := (Below.refl w1.heap.size (w1.alloc (.cells (bys [bb, sb]).toArray 5))).alloc (by simp) (.cells #[.slice A seed.length c, .slice A1 ([] ++ be4 key).length c1, .slice (some ⟨w1.heap.size, 0, none⟩) 2 2] 24)
 refine (rtag_any 10 10 rfl _ [seed, be4 key, [bb, sb]] (by simp [be4_length]; omega) (by simp) _ (new3 24 (b := w1.heap.size + 1) (by simp) (H1.out.2.2.below hal) (H1.out.2.1.below hal) hbb)).mono ?_
 rintro e w2 ⟨v2, rfl, h1, h2⟩
 have H2 := Lib.hid (And.intro h1 (hal.trans (hal2.trans (h2.mono (by simp; omega)))))
 have hsz := hal2.size
 have hsz0 := hal.size
 clear h1 h2 hal hal2 hbb
 go_wp2
 go_ret
 exact ⟨_, rfl, by rw [HSS.out]; exact own_mono' H2.out.1 (by have := H1.out.1.size; omega), H1.out.1.trans (H2.out.2.mono H1.out.1.size)⟩
set_option maxRecDepth 100000 in
set_option maxHeartbeats 1000000 in
theorem rshown_any (v : Value) (seed : List UInt8) (key bit side : Int) (hk : 0 ≤ key ∧ key < 1000) (hb : 0 ≤ bit ∧ bit < 256) (hs : 0 ≤ side ∧ side < 256) (hsm : seed.length ≤ 1000000000) (w : World) (hx : Bys w v seed) :
  Calls Tryz.prog 172 #[v, .int .i64 key, .int .i64 bit, .int .i64 side] w (RetB w (shownS seed key bit side)) := by
 have HS := Lib.hid (rsecret_any v seed key bit side hk hb hs hsm w hx)
 obtain ⟨A, c, rfl⟩ := hx.form
 clear hx hk hb hs
 have HSS : Hid (shownS seed key bit side = tagH 11 [secretS seed key bit side]) := Lib.hid rfl
 have HL := Lib.hid (secretS_length seed key bit side)
 generalize secretS seed key bit side = S at *
 generalize shownS seed key bit side = SS at *
 go_enter Tryz.func172, Tryz.ntmps172
 go_wp2_with fail
 refine HS.out.mono ?_
 rintro e w1 ⟨v1, rfl, h1, h2⟩
 obtain ⟨A1, c1, rfl⟩ := h1.form
 have H1 := Lib.hid (And.intro h2 h1.bys)
 clear h1 h2 HS
 have hal := (Below.refl w1.heap.size w1).alloc (Nat.le_refl _) (.cells #[.slice A1 S.length c1] 24)
 go_wp2_with fail
 refine (rtag_any 11 11 rfl _ [S] (by simp; have := HL.out; omega) (by simp) _ (new1 24 (b := w1.heap.size) rfl H1.out.2)).mono ?_
 rintro e w2 ⟨v2, rfl, h1, h2⟩
 have H2 := Lib.hid (And.intro h1 (hal.trans (h2.mono (by simp))))
 clear h1 h2 hal
 go_wp2
 go_ret
 exact ⟨_, rfl, by rw [HSS.out]; exact own_mono' H2.out.1 (by have := H1.out.1.size; simp; omega), H1.out.1.trans (H2.out.2.mono H1.out.1.size)⟩

def digS (msg : List UInt8) : Int := wordAt (tagH 13 [msg]) 0 4
set_option maxRecDepth 100000 in
set_option maxHeartbeats 1000000 in
theorem rdigest_any (v : Value) (msg : List UInt8) (hsm : msg.length ≤ 1000000000) (w : World) (hx : Bys w v msg) :
  Calls Tryz.prog 170 #[v] w fun e w' => e = .returned (.int .u32 (digS msg)) ∧ Below w.heap.size w w' := by
 obtain ⟨A, c, rfl⟩ := hx.form
 have HX := Lib.hid hx
 clear hx
 have hL := tagH_length 13 [msg]
 have HD : Hid (∀ (h : 3 < (tagH 13 [msg]).length), digS msg = w4 ((tagH 13 [msg])[0]'(Nat.lt_of_le_of_lt (Nat.zero_le _) h)) ((tagH 13 [msg])[1]'(Nat.lt_of_le_of_lt (by decide) h)) ((tagH 13 [msg])[2]'(Nat.lt_of_le_of_lt (by decide) h)) ((tagH 13 [msg])[3]'h)) := Lib.hid (fun h => wordAt4 _ 0 h)
 generalize digS msg = DS at *
 generalize hTE : tagH 13 [msg] = T at *
 have HTE := Lib.hid hTE
 clear hTE
 go_enter Tryz.func170, Tryz.ntmps170
 have hal := (Below.refl w.heap.size w).alloc (Nat.le_refl _) (.cells #[.slice A msg.length c] 24)
 go_wp2_with fail
 have HT := Lib.hid (rtag_any 13 13 rfl _ [msg] (by simp; omega) (by simp) _ (new1 24 (b := w.heap.size) rfl HX.out))
 rw [HTE.out] at HT
 refine HT.out.mono ?_
 rintro e w1 ⟨v1, rfl, h1, h2⟩
 obtain ⟨A1, c1, rfl⟩ := h1.form
 obtain ⟨g, o, rfl, -, hg, hc1, -, hcells⟩ := h1.bys.place (by omega)
 have H1 := Lib.hid (hal.trans (h2.mono (by simp)))
 have h3 : 3 < T.length := by omega
 have p0 := hcells 0 (by omega)
 have p1 := hcells 1 (by omega)
 have p2 := hcells 2 (by omega)
 have p3 := hcells 3 h3
 rw [Nat.add_zero] at p0
 have HD2 := Lib.hid (HD.out h3)
 have t0 := (T[0]'(by omega)).toNat_lt
 have t1 := (T[1]'(by omega)).toNat_lt
 have t2 := (T[2]'(by omega)).toNat_lt
 have t3 := (T[3]'(by omega)).toNat_lt
 clear HD HT h1 h2 hal hcells
 generalize T[0]'(by omega) = b0 at *
 generalize T[1]'(by omega) = b1 at *
 generalize T[2]'(by omega) = b2 at *
 generalize T[3]'h3 = b3 at *
 have eb0 : ((b0.toNat : Nat) : Int) % 4294967296 = (b0.toNat : Nat) := by omega
 have eb1 : ((b1.toNat : Nat) : Int) % 4294967296 = (b1.toNat : Nat) := by omega
 have eb2 : ((b2.toNat : Nat) : Int) % 4294967296 = (b2.toNat : Nat) := by omega
 have eb3 : ((b3.toNat : Nat) : Int) % 4294967296 = (b3.toNat : Nat) := by omega
 have hl32 : (0 : Int) < (T.length : Int) ∧ (1 : Int) < (T.length : Int) ∧ (2 : Int) < (T.length : Int) ∧ (3 : Int) < (T.length : Int) := by omega
 obtain ⟨hl0, hl1, hl2, hl3⟩ := hl32
 have HLT := Lib.hid hL
 clear hL h3
 go_wp2
 go_quiet (fail)
 go_wp2
 go_ret
 exact ⟨by rw [HD2.out]; rfl, below_drewN H1.out _⟩
def splitN (n : Nat) : Nat := if n < 2 then 0 else 2 ^ Nat.log2 (n - 1)
theorem splitN_lt {n : Nat} (h : 2 ≤ n) : 1 ≤ splitN n ∧ splitN n < n := by
 unfold splitN
 rw [if_neg (by omega)]
 have h1 := Nat.log2_self_le (n := n - 1) (by omega)
 have h2 : 0 < 2 ^ Nat.log2 (n - 1) := Nat.two_pow_pos _
 omega
theorem splitN_le {n : Nat} (h : 2 ≤ n) : n ≤ 2 * splitN n := by
 unfold splitN
 rw [if_neg (by omega)]
 have h1 := Nat.lt_log2_self (n := n - 1)
 rw [Nat.pow_succ] at h1
 omega
theorem splitN_small {n : Nat} (h : n < 2) : splitN n = 0 := if_pos h
theorem splitN_of {n j : Nat} (h : 2 ≤ n) (h1 : 2 ^ j < n) (h2 : n ≤ 2 * 2 ^ j) : 2 ^ j = splitN n := by
 unfold splitN
 rw [if_neg (by omega)]
 congr 1
 symm
 rw [Nat.log2_eq_iff (by omega)]
 rw [Nat.pow_succ]
 omega
def leafH (b : List UInt8) : List UInt8 := tagH 0 [b]
def nodeH (l r : List UInt8) : List UInt8 := tagH 1 [l, r]
theorem leafH_length (b : List UInt8) : (leafH b).length = 32 := tagH_length _ _
theorem nodeH_length (l r : List UInt8) : (nodeH l r).length = 32 := tagH_length _ _
def rootL (l : List (List UInt8)) : List UInt8 :=
 if h : l.length < 2 then (if l.length = 0 then sha [] else l.headD [])
 else nodeH (rootL (l.take (splitN l.length))) (rootL (l.drop (splitN l.length)))
termination_by l.length
decreasing_by
 ·have := splitN_lt (n := l.length) (by omega); rw [List.length_take]; omega
 ·have := splitN_lt (n := l.length) (by omega); rw [List.length_drop]; omega
def inclL (l : List (List UInt8)) (i : Nat) : List (List UInt8) :=
 if h : l.length < 2 then []
 else if i < splitN l.length then inclL (l.take (splitN l.length)) i ++ [rootL (l.drop (splitN l.length))]
 else inclL (l.drop (splitN l.length)) (i - splitN l.length) ++ [rootL (l.take (splitN l.length))]
termination_by l.length
decreasing_by
 ·have := splitN_lt (n := l.length) (by omega); rw [List.length_take]; omega
 ·have := splitN_lt (n := l.length) (by omega); rw [List.length_drop]; omega
def longN (n i : Nat) : Nat :=
 if h : n < 2 then 0
 else if i < splitN n then 1 + longN (splitN n) i
 else 1 + longN (n - splitN n) (i - splitN n)
termination_by n
decreasing_by
 ·have := splitN_lt (n := n) (by omega); omega
 ·have := splitN_lt (n := n) (by omega); omega
def leadT : List (List UInt8) → Nat → Nat → List UInt8 → List UInt8 × Bool
 | [], _, n, leaf => if n < 2 then (leaf, true) else ([], false)
 | x :: r, i, n, leaf => if n < 2 then (leaf, false) else if i < splitN n then (nodeH (leadT r i (splitN n) leaf).1 x, (leadT r i (splitN n) leaf).2) else (nodeH x (leadT r (i - splitN n) (n - splitN n) leaf).1, (leadT r (i - splitN n) (n - splitN n) leaf).2)
theorem longN_small {n i : Nat} (h : n < 2) : longN n i = 0 := by rw [longN, dif_pos h]
theorem longN_left {n i : Nat} (h : 2 ≤ n) (hi : i < splitN n) : longN n i = 1 + longN (splitN n) i := by rw [longN, dif_neg (by omega), if_pos hi]
theorem longN_right {n i : Nat} (h : 2 ≤ n) (hi : ¬ i < splitN n) : longN n i = 1 + longN (n - splitN n) (i - splitN n) := by rw [longN, dif_neg (by omega), if_neg hi]
theorem longN_le : ∀ (n i : Nat), longN n i ≤ n := fun n => by
 induction n using Nat.strongRecOn with
 | _ n ih =>
  intro i
  by_cases h : n < 2
  ·rw [longN_small h]; omega
  ·have hs := splitN_lt (n := n) (by omega)
   by_cases hi : i < splitN n
   ·rw [longN_left (by omega) hi]
    have := ih (splitN n) hs.2 i
    omega
   ·rw [longN_right (by omega) hi]
    have := ih (n - splitN n) (by omega) (i - splitN n)
    omega
theorem leadT_fits : ∀ (l : List (List UInt8)) (i n : Nat) (leaf : List UInt8), (leadT l i n leaf).2 = decide (l.length = longN n i)
 | [], i, n, leaf => by
  unfold leadT
  by_cases h : n < 2
  ·rw [if_pos h, longN_small h]; rfl
  ·rw [if_neg h]
   by_cases hi : i < splitN n
   ·rw [longN_left (by omega) hi]; simp; omega
   ·rw [longN_right (by omega) hi]; simp; omega
 | x :: r, i, n, leaf => by
  unfold leadT
  by_cases h : n < 2
  ·rw [if_pos h, longN_small h]; rfl
  ·rw [if_neg h]
   by_cases hi : i < splitN n
   ·rw [if_pos hi, longN_left (by omega) hi]
    show (leadT r i (splitN n) leaf).2 = _
    rw [leadT_fits r]
    simp only [List.length_cons, decide_eq_decide]
    omega
   ·rw [if_neg hi, longN_right (by omega) hi]
    show (leadT r (i - splitN n) (n - splitN n) leaf).2 = _
    rw [leadT_fits r]
    simp only [List.length_cons, decide_eq_decide]
    omega
theorem leadT_le : ∀ (l : List (List UInt8)) (i n : Nat) (leaf : List UInt8), (leadT l i n leaf).1.length ≤ leaf.length + 32
 | [], i, n, leaf => by
  unfold leadT
  split
  ·exact Nat.le_add_right _ _
  ·exact Nat.zero_le _
 | x :: r, i, n, leaf => by
  unfold leadT
  split
  ·exact Nat.le_add_right _ _
  ·split
   ·have := nodeH_length (leadT r i (splitN n) leaf).1 x; show (nodeH _ _).length ≤ _; omega
   ·have := nodeH_length x (leadT r (i - splitN n) (n - splitN n) leaf).1; show (nodeH _ _).length ≤ _; omega
theorem rootL_one {l : List (List UInt8)} (h : l.length = 1) : rootL l = l.headD [] := by rw [rootL, dif_pos (by omega), if_neg (by omega)]
theorem rootL_zero : rootL [] = sha [] := by rw [rootL, dif_pos (by decide)]; rfl
theorem rootL_more {l : List (List UInt8)} (h : 2 ≤ l.length) : rootL l = nodeH (rootL (l.take (splitN l.length))) (rootL (l.drop (splitN l.length))) := by rw [rootL, dif_neg (by omega)]
theorem rootL_32 (l : List (List UInt8)) (hl : ∀ x ∈ l, x.length = 32) : (rootL l).length = 32 := by
 by_cases h : 2 ≤ l.length
 ·rw [rootL_more h]; exact nodeH_length _ _
 ·cases l with
  | nil => rw [rootL_zero]; exact sha_length []
  | cons x r =>
   have : (x :: r).length = 1 := by simp at h ⊢; omega
   rw [rootL_one this]
   exact hl x List.mem_cons_self
theorem incl_small {l : List (List UInt8)} {i : Nat} (h : l.length < 2) : inclL l i = [] := by rw [inclL, dif_pos h]
theorem incl_left {l : List (List UInt8)} {i : Nat} (h : 2 ≤ l.length) (hi : i < splitN l.length) : inclL l i = inclL (l.take (splitN l.length)) i ++ [rootL (l.drop (splitN l.length))] := by rw [inclL, dif_neg (by omega), if_pos hi]
theorem incl_right {l : List (List UInt8)} {i : Nat} (h : 2 ≤ l.length) (hi : ¬ i < splitN l.length) : inclL l i = inclL (l.drop (splitN l.length)) (i - splitN l.length) ++ [rootL (l.take (splitN l.length))] := by rw [inclL, dif_neg (by omega), if_neg hi]
theorem lead_incl : ∀ (m : Nat) (l : List (List UInt8)) (i : Nat), l.length ≤ m → (hi : i < l.length) → leadT (inclL l i).reverse i l.length l[i] = (rootL l, true)
  | 0, l, i, hm, hi => by omega
  | m + 1, l, i, hm, hi => by
    by_cases h : 2 ≤ l.length
    · have hs := splitN_lt h
      have e1 : (l.take (splitN l.length)).length = splitN l.length := by rw [List.length_take]; omega
      have e2 : (l.drop (splitN l.length)).length = l.length - splitN l.length := List.length_drop
      by_cases hk : i < splitN l.length
      · have ih := lead_incl m (l.take (splitN l.length)) i (by omega) (by omega)
        have e3 : (l.take (splitN l.length))[i]'(by omega) = l[i] := List.getElem_take ..
        rw [e3, e1] at ih
        rw [incl_left h hk, List.reverse_append, List.reverse_singleton, List.singleton_append]
        unfold leadT
        rw [if_neg (by omega), if_pos hk, ih, rootL_more h]
      · have ih := lead_incl m (l.drop (splitN l.length)) (i - splitN l.length) (by omega) (by omega)
        have e3 : (l.drop (splitN l.length))[i - splitN l.length]'(by omega) = l[i] := by
          rw [List.getElem_drop]
          congr 1
          omega
        rw [e3, e2] at ih
        rw [incl_right h hk, List.reverse_append, List.reverse_singleton, List.singleton_append]
        unfold leadT
        rw [if_neg (by omega), if_neg hk, ih, rootL_more h]
    · rw [incl_small (by omega)]
      show leadT [] i l.length l[i] = _
      unfold leadT
      rw [if_pos (by omega), rootL_one (by omega)]
      cases l with
      | nil => exact absurd hi (by simp)
      | cons x r =>
        have : i = 0 := by have h1 : (x :: r).length < 2 := by omega
                           omega
        subst this
        rfl
theorem incl_32 : ∀ (m : Nat) (l : List (List UInt8)) (i : Nat), l.length ≤ m → (∀ x ∈ l, x.length = 32) → ∀ x ∈ inclL l i, x.length = 32
 | 0, l, i, hm, hl, x, hx => by
  rw [incl_small (by omega)] at hx
  exact absurd hx (by simp)
 | m + 1, l, i, hm, hl, x, hx => by
  by_cases h : 2 ≤ l.length
  ·have hs := splitN_lt h
   have e1 : (l.take (splitN l.length)).length = splitN l.length := by rw [List.length_take]; omega
   have e2 : (l.drop (splitN l.length)).length = l.length - splitN l.length := List.length_drop
   by_cases hk : i < splitN l.length
   ·rw [incl_left h hk] at hx
    rcases List.mem_append.1 hx with hx | hx
    ·exact incl_32 m _ i (by omega) (fun y hy => hl y (List.mem_of_mem_take hy)) x hx
    ·rw [List.mem_singleton.1 hx]
     exact rootL_32 _ (fun y hy => hl y (List.mem_of_mem_drop hy))
   ·rw [incl_right h hk] at hx
    rcases List.mem_append.1 hx with hx | hx
    ·exact incl_32 m _ _ (by omega) (fun y hy => hl y (List.mem_of_mem_drop hy)) x hx
    ·rw [List.mem_singleton.1 hx]
     exact rootL_32 _ (fun y hy => hl y (List.mem_of_mem_take hy))
  ·rw [incl_small (by omega)] at hx
   exact absurd hx (by simp)
theorem incl_length (l : List (List UInt8)) (i : Nat) (hi : i < l.length) : (inclL l i).length = longN l.length i := by
 have h := leadT_fits (inclL l i).reverse i l.length l[i]
 rw [lead_incl l.length l i (Nat.le_refl _) hi, List.length_reverse] at h
 exact (of_decide_eq_true h.symm)
theorem longN_log : ∀ (j n i : Nat), n ≤ 2 ^ j → longN n i ≤ j
 | 0, n, i, h => by
  rw [longN_small (by simpa using Nat.lt_of_le_of_lt h (by decide : 2 ^ 0 < 2))]
  exact Nat.zero_le _
 | j + 1, n, i, h => by
  by_cases h2 : n < 2
  ·rw [longN_small h2]; exact Nat.zero_le _
  ·have hs := splitN_lt (n := n) (by omega)
   have hl := splitN_le (n := n) (by omega)
   have hk : splitN n ≤ 2 ^ j := by
    unfold splitN at hs ⊢
    rw [if_neg h2] at hs ⊢
    have h3 : 2 ^ Nat.log2 (n - 1) < 2 ^ (j + 1) := by omega
    have h4 : Nat.log2 (n - 1) < j + 1 := (Nat.pow_lt_pow_iff_right (by decide)).1 h3
    exact Nat.pow_le_pow_right (by decide) (by omega)
   by_cases hi : i < splitN n
   ·rw [longN_left (by omega) hi]
    have := longN_log j (splitN n) i hk
    omega
   ·rw [longN_right (by omega) hi]
    have := longN_log j (n - splitN n) (i - splitN n) (by omega)
    omega
structure PrD where
 index : Int
 size : Int
 path : List (List UInt8)
def pathB (l : List (List UInt8)) : Bool := decide (l.length ≤ 16) && l.all (fun x => decide (x.length = 32))
def leadB (p : PrD) (leaf : List UInt8) : Bool := pathB p.path && (decide (leaf.length = 32) && (decide (0 ≤ p.index) && (decide (p.index < p.size) && (leadT p.path.reverse p.index.toNat p.size.toNat leaf).2)))
def leadV (p : PrD) (leaf : List UInt8) : List UInt8 := (leadT p.path.reverse p.index.toNat p.size.toNat leaf).1
def prfB (p : PrD) (leaf root : List UInt8) : Bool := leadB p leaf && (leadV p leaf == root)
theorem prf_incl (l : List (List UInt8)) (i : Nat) (hi : i < l.length) (h32 : ∀ x ∈ l, x.length = 32) (hn : l.length ≤ 65536) : prfB ⟨(i : Int), (l.length : Int), inclL l i⟩ l[i] (rootL l) = true := by
 have h := lead_incl l.length l i (Nat.le_refl _) hi
 have hp : pathB (inclL l i) = true := by
  unfold pathB
  rw [incl_length l i hi, decide_eq_true (longN_log 16 _ _ hn), Bool.true_and, List.all_eq_true]
  intro x hx
  simpa using incl_32 l.length l i (Nat.le_refl _) h32 x hx
 unfold prfB leadB leadV
 simp only [Int.toNat_natCast]
 rw [h, hp, h32 _ (List.getElem_mem hi)]
 simp
 omega
end Go.Proofs.YtgeplpdcnanmnaaGreat

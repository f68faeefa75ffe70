/- The program's tagged sums. The program's digests. tree's Split, Node, Leaf; manifest's ID; the reference's. Conditions: as each theorem states them. -/
import Derived.Test.YtgeplpdcnanmnaaGreatZak
import Derived.Test.YtgeplpdcnanmnaaGreatZaj
import Derived.Test.YtgeplpdcnanmnaaGreatZal
import Derived.Test.YtgeplpdcnanmnaaGreatProg
import Derived.Deep.DeepCutAuto
namespace Go.Proofs.YtgeplpdcnanmnaaGreat
open Go.RowKit
set_option linter.unusedVariables false
set_option linter.unusedSimpArgs false


set_option maxRecDepth 100000 in
set_option maxHeartbeats 1000000 in
theorem ptag_any (t : Int) (b : UInt8) (hb : ((b.toNat : Nat) : Int) = t) (v : Value) (ls : List (List UInt8)) (hsm : ls.flatten.length ≤ 100000000000) (hls : ls.length ≤ 100000000000) (w : World) (hx : Rws w v ls) :
  Calls Tryz.prog 180 #[.int .u8 t, v] w fun e w' => ∃ v', e = .returned v' ∧ OwnB w' w.heap.size v' (tagH b ls) ∧ Below w.heap.size w w' := by
 obtain ⟨i0, hi0, hz0, hz1, hz2⟩ := info_parts info_u8
 obtain ⟨A, c, rfl⟩ := hx.form
 have HX := Lib.hid (And.intro hx (bys_u8 b t hb))
 clear hx hb
 go_enter Tryz.func180, Tryz.ntmps180
 go_wp2
 go_loopw [5, 12] (fun v5 v6 wr => ∃ k : Nat, v6 = .int .i64 k ∧ k ≤ ls.length ∧ Hid (Below w.heap.size w wr ∧ OwnB wr w.heap.size v5 (b :: (ls.take k).flatten))) (fun _ v _ => ls.length - (intOf v).toNat)
 case atStart => exact ⟨0, rfl, Nat.zero_le _, Lib.hid ⟨(Below.refl _ _).alloc (Nat.le_refl _) _, by
  have := own_new (w := w) (base := w.heap.size) (size := 1) (n := 1) 5 [.int .u8 t] rfl (by decide) (Nat.le_refl _)
  show World.ownsRow _ _ _ _ _ 1 (bys [b])
  rw [HX.out.2]
  exact this⟩⟩
 case round =>
  obtain ⟨k, rfl, hk, HI⟩ := hrel
  have hlen : (b :: (ls.take k).flatten).length ≤ 100000000001 := by have := flat_le ls k; simp only [List.length_cons]; omega
  by_cases hlt : k < ls.length
  ·obtain ⟨g, o, u, rfl, hg, -, -, hcu, hbu⟩ := HX.out.1.at' k hlt
   have p0 := (HI.out.1.cell (p := ⟨g, o + k, none⟩) hg).trans hcu
   have HU := Lib.hid (hbu.below HI.out.1)
   have HT := Lib.hid (flat_take ls k hlt)
   have hlk : (b :: (ls.take k).flatten).length + ls[k].length ≤ 100000000001 := by have := flat_le ls (k + 1); rw [HT.out, List.length_append] at this; simp only [List.length_cons]; omega
   generalize ls[k] = x at *
   generalize (ls.take k).flatten = D at *
   have hsz := HI.out.1.size
   clear hcu hbu
   go_wp2_with (at_builtin; (refine wpList_append_any rfl (.tmp 16) (.tmp 17) 24 rfl w.heap.size 5 i0 (.int .u8 0) 1 1 Tryz.underlying24 hi0 hz0 hz1 hz2 rfl (by decide) _ _ _ rfl HI.out.2.any _ x.length (bys x) rfl HU.out.news (by unfold maxLen; omega) (by omega) hsz ?_); intro v2 W2 hown2 hgrow2; have HB2 : Hid (Below w.heap.size w W2) := Lib.hid (HI.out.1.grown hgrow2 hsz (fun k e => OwnB.ge HI.out.2 e)); have HO2 : Hid (OwnB W2 w.heap.size v2 ((b :: D) ++ x)) := Lib.hid (OwnB.append rfl hown2); clear hown2 hgrow2)
   go_roundw
   case rel => exact ⟨k + 1, by go_num, by omega, Lib.hid ⟨HB2.out, by rw [HT.out]; exact HO2.out⟩⟩
   case measure => simp [intOf]; omega
  ·obtain rfl : k = ls.length := by omega
   have HO := HI.out.2
   rw [List.take_length] at HO
   have HO2 := Lib.hid HO
   have hlen2 : (b :: ls.flatten).length ≤ 1000000000000 := by simp only [List.length_cons]; omega
   clear HO
   have HB := Lib.hid HI.out.1
   clear HI
   go_wp2_with fail
   refine (psum_any _ (b :: ls.flatten) hlen2 wr HO2.out.bys).mono ?_
   rintro e w2 ⟨v', rfl, h1, h2⟩
   have HF := Lib.hid (And.intro h1 h2)
   clear h1 h2
   go_wp2
   go_ret
   exact ⟨_, rfl, own_mono' HF.out.1 HB.out.size, HB.out.trans (HF.out.2.mono HB.out.size)⟩
set_option maxRecDepth 100000 in
set_option maxHeartbeats 1000000 in
theorem pdigest_any (v : Value) (msg : List UInt8) (hsm : msg.length ≤ 1000000000) (w : World) (hx : Bys w v msg) :
  Calls Tryz.prog 200 #[v] w fun e w' => e = .returned (.int .u32 (digS msg)) ∧ Below w.heap.size w w' := by
 obtain ⟨A, c, rfl⟩ := hx.form
 have HX := Lib.hid hx
 clear hx
 have hL := tagH_length 13 [msg]
 have HD : Hid (digS msg = wordAt (tagH 13 [msg]) 0 4) := Lib.hid rfl
 generalize digS msg = DS at *
 generalize hTE : tagH 13 [msg] = T at *
 have HTE := Lib.hid hTE
 clear hTE
 go_enter Tryz.func200, Tryz.ntmps200
 have hal := (Below.refl w.heap.size w).alloc (Nat.le_refl _) (.cells #[.slice A msg.length c] 24)
 go_wp2_with fail
 have HT := Lib.hid (ptag_any 13 13 rfl _ [msg] (by simp; omega) (by simp) _ (new1 24 (b := w.heap.size) rfl HX.out))
 rw [HTE.out] at HT
 refine HT.out.mono ?_
 rintro e w1 ⟨v1, rfl, h1, h2⟩
 obtain ⟨A1, c1, rfl⟩ := h1.form
 obtain ⟨g, o, rfl, -, hg, hc1, -, hcells⟩ := h1.bys.place (by omega)
 have H1 := Lib.hid (hal.trans (h2.mono (by simp)))
 have HC : Hid (∀ k, k < 4 → ∃ x : Nat, x < 256 ∧ w1.cell? ⟨g, o + k, none⟩ = some (.int .u8 x) ∧ wordAt T 0 (k + 1) = bits .or .u32 (wordAt T 0 k * 256 % 4294967296) x) := Lib.hid (fun k hk => by
  have hkT : k < T.length := by omega
  refine ⟨T[k].toNat, T[k].toNat_lt, hcells k hkT, ?_⟩
  have := wordAt_succ T 0 k (by omega)
  simpa using this)
 have HLT := Lib.hid hL
 have hc4 : (4 : Int) ≤ (c1 : Int) := by omega
 have hw0 : Hid (wordAt T 0 0 = 0) := Lib.hid (by simp [wordAt])
 clear HT h1 h2 hal hcells hL
 generalize T.length = TL at *
 go_wp2
 go_loopw [3, 11] (fun v3 v11 wr => ∃ k : Nat, v3 = .int .u32 (wordAt T 0 k) ∧ v11 = .int .i64 k ∧ k ≤ 4 ∧ Hid (Below w1.heap.size w1 wr)) (fun _ v _ => 4 - (intOf v).toNat)
 case atStart => exact ⟨0, by rw [hw0.out], rfl, by decide, Lib.hid (Below.refl _ _)⟩
 case round =>
  obtain ⟨k, rfl, rfl, hk, HI⟩ := hrel
  by_cases hlt : k < 4
  ·obtain ⟨x, hx, hc, hw⟩ := HC.out k hlt
   have p0 := (HI.out.cell (p := ⟨g, o + k, none⟩) hg).trans hc
   have HWS := Lib.hid hw
   have ex : ((x : Nat) : Int) % 4294967296 = (x : Nat) := by omega
   clear hc hw
   generalize wordAt T 0 k = X at *
   go_wp2
   go_roundw
   case rel => exact ⟨k + 1, by rw [HWS.out], by go_num, by omega, HI⟩
   case measure => simp [intOf]; omega
  ·obtain rfl : k = 4 := by omega
   go_wp2
   go_ret
   exact ⟨by rw [HD.out]; rfl, H1.out.trans (HI.out.mono H1.out.size)⟩

theorem told_any (d : Int) (j : Nat) (s : Int) (hj : j < 32) (w : World) :
  Calls Tryz.prog 201 #[.int .u32 d, .int .i64 j, .int .i64 s] w fun e w' => e = .returned (.bool (bitS d j == s)) ∧ w = w' := by
 have es : IntKind.i64.wrap (31 - (j : Int)) = 31 - (j : Int) := IntWalk.i64_in _ (by omega)
 have et : (31 - (j : Int)).toNat = 31 - j := by omega
 have HB : Hid (bitS d j = wrap64 (bits .and .u32 (d / 2 ^ (31 - j)) 1)) := Lib.hid rfl
 go_enter Tryz.func201, Tryz.ntmps201
 go_wp2
 go_ret
 exact ⟨by rw [HB.out]; rfl, rfl⟩
def tabL : ByteArray := ⟨((([0, 1, 2, 2, 3, 3, 3, 3, 4, 4, 4, 4, 4, 4, 4, 4, 5, 5, 5, 5, 5, 5, 5, 5, 5, 5, 5, 5, 5, 5, 5, 5, 6, 6, 6, 6, 6, 6, 6, 6, 6, 6, 6, 6, 6, 6, 6, 6, 6, 6, 6, 6, 6, 6, 6, 6, 6, 6, 6, 6, 6, 6, 6, 6] : List UInt8).append [7, 7, 7, 7, 7, 7, 7, 7, 7, 7, 7, 7, 7, 7, 7, 7, 7, 7, 7, 7, 7, 7, 7, 7, 7, 7, 7, 7, 7, 7, 7, 7, 7, 7, 7, 7, 7, 7, 7, 7, 7, 7, 7, 7, 7, 7, 7, 7, 7, 7, 7, 7, 7, 7, 7, 7, 7, 7, 7, 7, 7, 7, 7, 7]).append (([8, 8, 8, 8, 8, 8, 8, 8, 8, 8, 8, 8, 8, 8, 8, 8, 8, 8, 8, 8, 8, 8, 8, 8, 8, 8, 8, 8, 8, 8, 8, 8, 8, 8, 8, 8, 8, 8, 8, 8, 8, 8, 8, 8, 8, 8, 8, 8, 8, 8, 8, 8, 8, 8, 8, 8, 8, 8, 8, 8, 8, 8, 8, 8] : List UInt8).append [8, 8, 8, 8, 8, 8, 8, 8, 8, 8, 8, 8, 8, 8, 8, 8, 8, 8, 8, 8, 8, 8, 8, 8, 8, 8, 8, 8, 8, 8, 8, 8, 8, 8, 8, 8, 8, 8, 8, 8, 8, 8, 8, 8, 8, 8, 8, 8, 8, 8, 8, 8, 8, 8, 8, 8, 8, 8, 8, 8, 8, 8, 8, 8])).toArray⟩
def bitsN (x : Nat) : Nat := if x = 0 then 0 else Nat.log2 x + 1
theorem tab_ok : ∀ k : Fin 256, (tabL.data.toList.getD k.val 0).toNat = bitsN k.val := by decide +kernel
theorem tab_size : tabL.size = 256 := by kernel_rfl
theorem bits_split {n : Nat} (h : 2 ≤ n) : splitN n = 2 ^ (bitsN (n - 1) - 1) := by
 unfold splitN bitsN
 rw [if_neg (by omega), if_neg (by omega)]
 rfl
theorem bitsN_shift {x : Nat} (h : 256 ≤ x) : bitsN x = 8 + bitsN (x / 256) := by
 unfold bitsN
 rw [if_neg (by omega), if_neg (by omega)]
 have h1 : x.log2 = (x / 256).log2 + 8 := by
  rw [Nat.log2_eq_iff (by omega)]
  have h2 := Nat.log2_self_le (n := x / 256) (by omega)
  have h3 := Nat.lt_log2_self (n := x / 256)
  rw [Nat.pow_succ] at h3
  rw [show (x / 256).log2 + 8 + 1 = (x / 256).log2 + 9 from rfl, Nat.pow_add, Nat.pow_add]
  omega
 omega
theorem bitsN_le {x : Nat} (h : x < 65536) : bitsN x ≤ 16 := by
 unfold bitsN
 split
 ·exact Nat.zero_le _
 ·have : x.log2 < 16 := (Nat.log2_lt (by omega)).2 h
  omega
set_option maxRecDepth 100000 in
set_option maxHeartbeats 1000000 in
theorem len64_any (x : Int) (h0 : 0 ≤ x) (h : x < 65536) (w : World) :
  Calls Tryz.prog 219 #[.int .u64 x] w fun e w' => e = .returned (.int .i64 (bitsN x.toNat)) ∧ w = w' := by
 have HLE := Lib.hid (bitsN_le (x := x.toNat) (by omega))
 obtain ⟨TB, hTB⟩ : ∃ TB, TB = tabL := ⟨_, rfl⟩
 have hs : TB.size = 256 := by rw [hTB]; exact tab_size
 have he : Hid (∀ k, k < 256 → ∀ (h : k < TB.size), (TB[k]'h).toNat = bitsN k) := Lib.hid (by
  subst hTB
  intro k hk h
  have h1 := tab_ok ⟨k, hk⟩
  simp only [] at h1
  have e : (tabL[k]'h) = tabL.data.toList.getD k 0 := by
   show tabL.data[k]'_ = _
   rw [List.getD_eq_getElem?_getD, List.getElem?_eq_getElem (by simpa using h)]
   rfl
  rw [e, h1])
 unfold tabL at hTB
 go_enter Tryz.func219, Tryz.ntmps219
 rw [← hTB]
 clear hTB
 by_cases hx : x < 256
 ·have hk := he.out x.toNat (by omega) (by omega)
  have hxs : x.toNat < TB.size := by omega
  go_wp2
  go_ret
  have hb := HLE.out
  refine ⟨congrArg Ending.returned (congrArg (Value.int .i64) ?_), rfl⟩
  have e1 : wrap64 ((bitsN x.toNat : Nat) : Int) = ((bitsN x.toNat : Nat) : Int) := IntWalk.wrap64_in _ (by omega)
  rw [e1, e1]
 ·have HB := Lib.hid (bitsN_shift (x := x.toNat) (by omega))
  have hk := he.out (x / 256).toNat (by omega) (by omega)
  have hxs : (x / 256).toNat < TB.size := by omega
  go_wp2
  go_ret
  have hb := HLE.out
  have hb2 := HB.out
  have e3 : (x / 256).toNat = x.toNat / 256 := by omega
  refine ⟨congrArg Ending.returned (congrArg (Value.int .i64) ?_), rfl⟩
  have e1 : wrap64 ((bitsN (x.toNat / 256) : Nat) : Int) = ((bitsN (x.toNat / 256) : Nat) : Int) := IntWalk.wrap64_in _ (by omega)
  have e2 : wrap64 (8 + ((bitsN (x.toNat / 256) : Nat) : Int)) = 8 + ((bitsN (x.toNat / 256) : Nat) : Int) := IntWalk.wrap64_in _ (by omega)
  rw [e3, e1, e2]
  omega
set_option maxRecDepth 100000 in
set_option maxHeartbeats 1000000 in
theorem len_any (x : Int) (h0 : 0 ≤ x) (h : x < 65536) (w : World) :
  Calls Tryz.prog 213 #[.int .u64 x] w fun e w' => e = .returned (.int .i64 (bitsN x.toNat)) ∧ w = w' := by
 have HC := Lib.hid (fun wz : World => len64_any x h0 h wz)
 generalize bitsN x.toNat = bn at *
 go_enter Tryz.func213, Tryz.ntmps213
 go_wp2_with fail
 refine (HC.out _).mono ?_
 rintro e w' ⟨rfl, rfl⟩
 go_wp2
 go_ret
 exact ⟨rfl, rfl⟩
set_option maxRecDepth 100000 in
set_option maxHeartbeats 1000000 in
theorem split_any (n : Int) (h1 : n ≤ 60000) (w : World) :
  Calls Tryz.prog 195 #[.int .i64 n] w fun e w' => e = .returned (.int .i64 (splitN n.toNat)) ∧ w = w' := by
 by_cases hn : n < 2
 ·have HS : Hid (splitN n.toNat = 0) := Lib.hid (splitN_small (by omega))
  go_enter Tryz.func195, Tryz.ntmps195
  go_wp2
  go_ret
  rw [HS.out]
  exact ⟨rfl, rfl⟩
 ·have HB := Lib.hid (bits_split (n := n.toNat) (by omega))
  have HL := Lib.hid (bitsN_le (x := n.toNat - 1) (by omega))
  have H1 : Hid (1 ≤ bitsN (n.toNat - 1)) := Lib.hid (by unfold bitsN; rw [if_neg (by omega)]; omega)
  have HC := Lib.hid (fun wz : World => len_any (n - 1) (by omega) (by omega) wz)
  have e0 : (n - 1).toNat = n.toNat - 1 := by omega
  rw [e0] at HC
  clear e0
  generalize bitsN (n.toNat - 1) = bn at *
  generalize splitN n.toNat = sn at *
  go_enter Tryz.func195, Tryz.ntmps195
  go_wp2_with fail
  refine (HC.out _).mono ?_
  rintro e w' ⟨rfl, rfl⟩
  have hbn := HL.out
  have hb1 := H1.out
  go_wp2
  go_ret
  have hp : 2 ^ (bn - 1) ≤ 2 ^ 15 := Nat.pow_le_pow_right (by decide) (by omega)
  have e : ((2 ^ (bn - 1) : Nat) : Int) = (2 : Int) ^ (bn - 1) := by simp
  refine ⟨congrArg Ending.returned (congrArg (Value.int .i64) ?_), rfl⟩
  rw [HB.out, ← e]
  have key : ∀ M : Nat, M ≤ 32768 → wrap64 (M : Int) = (M : Int) := fun M hM => IntWalk.wrap64_in _ (by omega)
  exact key _ hp
set_option maxRecDepth 100000 in
set_option maxHeartbeats 1000000 in
theorem node_any (u v : Value) (l m : List UInt8) (hl : l.length ≤ 1000000000) (hm : m.length ≤ 1000000000) (w : World) (hu : Bys w u l) (hv : Bys w v m) :
  Calls Tryz.prog 196 #[u, v] w (RetB w (nodeH l m)) := by
 obtain ⟨A, c, rfl⟩ := hu.form
 obtain ⟨A', c', rfl⟩ := hv.form
 have HX := Lib.hid (And.intro hu hv)
 clear hu hv
 have HT := Lib.hid (fun (wz : World) (vz : Value) (z : Rws wz vz [l, m]) => ptag_any 1 1 rfl vz [l, m] (by simp; omega) (by simp) wz z)
 change Hid (∀ (wz : World) (vz : Value) (z : Rws wz vz [l, m]), Calls Tryz.prog 180 #[.int .u8 1, vz] wz fun e w' => ∃ v', e = .returned v' ∧ OwnB w' wz.heap.size v' (nodeH l m) ∧ Below wz.heap.size wz w') at HT
 generalize nodeH l m = T at *
 have hal := (Below.refl w.heap.size w).alloc (Nat.le_refl _) (.cells #[.slice A l.length c, .slice A' m.length c'] 24)
 go_enter Tryz.func196, Tryz.ntmps196
 go_wp2_with fail
 refine (HT.out _ _ (new2 24 (b := w.heap.size) rfl HX.out.1 HX.out.2)).mono ?_
 rintro e w1 ⟨v1, rfl, h1, h2⟩
 obtain ⟨A1, c1, rfl⟩ := h1.form
 have h1' : OwnB w1 w.heap.size (.slice A1 T.length c1) T := own_mono' h1 (by simp)
 have H1 := Lib.hid (And.intro h1' (hal.trans (h2.mono (by simp))))
 clear h1'
 clear h1 h2 hal
 go_wp2
 go_ret
 exact ⟨_, rfl, H1.out.1, H1.out.2⟩
set_option maxRecDepth 100000 in
set_option maxHeartbeats 1000000 in
theorem leaf_any (u : Value) (l : List UInt8) (hl : l.length ≤ 1000000000) (w : World) (hu : Bys w u l) :
  Calls Tryz.prog 136 #[u] w (RetB w (leafH l)) := by
 obtain ⟨A, c, rfl⟩ := hu.form
 have HX := Lib.hid hu
 clear hu
 have HT := Lib.hid (fun (wz : World) (vz : Value) (z : Rws wz vz [l]) => ptag_any 0 0 rfl vz [l] (by simp; omega) (by simp) wz z)
 change Hid (∀ (wz : World) (vz : Value) (z : Rws wz vz [l]), Calls Tryz.prog 180 #[.int .u8 0, vz] wz fun e w' => ∃ v', e = .returned v' ∧ OwnB w' wz.heap.size v' (leafH l) ∧ Below wz.heap.size wz w') at HT
 generalize leafH l = T at *
 have hal := (Below.refl w.heap.size w).alloc (Nat.le_refl _) (.cells #[.slice A l.length c] 24)
 go_enter Tryz.func136, Tryz.ntmps136
 go_wp2_with fail
 refine (HT.out _ _ (new1 24 (b := w.heap.size) rfl HX.out)).mono ?_
 rintro e w1 ⟨v1, rfl, h1, h2⟩
 obtain ⟨A1, c1, rfl⟩ := h1.form
 have h1' : OwnB w1 w.heap.size (.slice A1 T.length c1) T := own_mono' h1 (by simp)
 have H1 := Lib.hid (And.intro h1' (hal.trans (h2.mono (by simp))))
 clear h1'
 clear h1 h2 hal
 go_wp2
 go_ret
 exact ⟨_, rfl, H1.out.1, H1.out.2⟩
set_option maxRecDepth 100000 in
set_option maxHeartbeats 1000000 in
theorem rnode_any (u v : Value) (l m : List UInt8) (hl : l.length ≤ 1000000000) (hm : m.length ≤ 1000000000) (w : World) (hu : Bys w u l) (hv : Bys w v m) :
  Calls Tryz.prog 126 #[u, v] w (RetB w (nodeH l m)) := by
 obtain ⟨A, c, rfl⟩ := hu.form
 obtain ⟨A', c', rfl⟩ := hv.form
 have HX := Lib.hid (And.intro hu hv)
 clear hu hv
 have HT := Lib.hid (fun (wz : World) (vz : Value) (z : Rws wz vz [l, m]) => rtag_any 1 1 rfl vz [l, m] (by simp; omega) (by simp) wz z)
 change Hid (∀ (wz : World) (vz : Value) (z : Rws wz vz [l, m]), Calls Tryz.prog 59 #[.int .u8 1, vz] wz fun e w' => ∃ v', e = .returned v' ∧ OwnB w' wz.heap.size v' (nodeH l m) ∧ Below wz.heap.size wz w') at HT
 generalize nodeH l m = T at *
 have hal := (Below.refl w.heap.size w).alloc (Nat.le_refl _) (.cells #[.slice A l.length c, .slice A' m.length c'] 24)
 go_enter Tryz.func126, Tryz.ntmps126
 go_wp2_with fail
 refine (HT.out _ _ (new2 24 (b := w.heap.size) rfl HX.out.1 HX.out.2)).mono ?_
 rintro e w1 ⟨v1, rfl, h1, h2⟩
 obtain ⟨A1, c1, rfl⟩ := h1.form
 have h1' : OwnB w1 w.heap.size (.slice A1 T.length c1) T := own_mono' h1 (by simp)
 have H1 := Lib.hid (And.intro h1' (hal.trans (h2.mono (by simp))))
 clear h1'
 clear h1 h2 hal
 go_wp2
 go_ret
 exact ⟨_, rfl, H1.out.1, H1.out.2⟩
set_option maxRecDepth 100000 in
set_option maxHeartbeats 1000000 in
theorem rleaf_any (u : Value) (l : List UInt8) (hl : l.length ≤ 1000000000) (w : World) (hu : Bys w u l) :
  Calls Tryz.prog 19 #[u] w (RetB w (leafH l)) := by
 obtain ⟨A, c, rfl⟩ := hu.form
 have HX := Lib.hid hu
 clear hu
 have HT := Lib.hid (fun (wz : World) (vz : Value) (z : Rws wz vz [l]) => rtag_any 0 0 rfl vz [l] (by simp; omega) (by simp) wz z)
 change Hid (∀ (wz : World) (vz : Value) (z : Rws wz vz [l]), Calls Tryz.prog 59 #[.int .u8 0, vz] wz fun e w' => ∃ v', e = .returned v' ∧ OwnB w' wz.heap.size v' (leafH l) ∧ Below wz.heap.size wz w') at HT
 generalize leafH l = T at *
 have hal := (Below.refl w.heap.size w).alloc (Nat.le_refl _) (.cells #[.slice A l.length c] 24)
 go_enter Tryz.func19, Tryz.ntmps19
 go_wp2_with fail
 refine (HT.out _ _ (new1 24 (b := w.heap.size) rfl HX.out)).mono ?_
 rintro e w1 ⟨v1, rfl, h1, h2⟩
 obtain ⟨A1, c1, rfl⟩ := h1.form
 have h1' : OwnB w1 w.heap.size (.slice A1 T.length c1) T := own_mono' h1 (by simp)
 have H1 := Lib.hid (And.intro h1' (hal.trans (h2.mono (by simp))))
 clear h1'
 clear h1 h2 hal
 go_wp2
 go_ret
 exact ⟨_, rfl, H1.out.1, H1.out.2⟩
set_option maxRecDepth 100000 in
theorem id_any (u : Value) (l : List UInt8) (hl : l.length ≤ 1000000000) (w : World) (hu : Bys w u l) :
  Calls Tryz.prog 54 #[u] w (RetB w (leafH l)) := by
 obtain ⟨A, c, rfl⟩ := hu.form
 have HL := Lib.hid (leaf_any _ l hl w hu)
 go_enter Tryz.func54, Tryz.ntmps54
 go_wp2_with fail
 refine HL.out.mono ?_
 rintro e w1 ⟨v1, rfl, h1, h2⟩
 obtain ⟨A1, c1, rfl⟩ := h1.form
 have H1 := Lib.hid (And.intro h1 h2)
 clear h1 h2
 go_wp2
 go_ret
 exact ⟨_, rfl, H1.out.1, H1.out.2⟩
end Go.Proofs.YtgeplpdcnanmnaaGreat

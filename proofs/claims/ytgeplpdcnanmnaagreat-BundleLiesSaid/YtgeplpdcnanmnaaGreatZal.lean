/- The reference's keys that sign once: the public part, signing, the root. The reference's owners' signatures: what is right, what verifies, what is the same. The program's copies of texts. Conditions: as each theorem states them. -/
import Derived.Test.YtgeplpdcnanmnaaGreatZaj
import Derived.Test.YtgeplpdcnanmnaaGreatZaa
namespace Go.Proofs.YtgeplpdcnanmnaaGreat
open Go.RowKit
set_option linter.unusedVariables false
set_option linter.unusedSimpArgs false

def pubAcc (seed : List UInt8) (key : Int) : Nat → List UInt8
 | 0 => []
 | j + 1 => pubAcc seed key j ++ shownS seed key j 0 ++ shownS seed key j 1
theorem pubAcc_length (seed : List UInt8) (key : Int) (j : Nat) : (pubAcc seed key j).length = 64 * j := by
 induction j with
 | zero => rfl
 | succ j ih => show (pubAcc seed key j ++ shownS seed key j 0 ++ shownS seed key j 1).length = _; rw [List.length_append, List.length_append, ih, shownS_length, shownS_length]; omega
def publicS (seed : List UInt8) (key : Int) : List UInt8 := tagH 12 [pubAcc seed key 32]
theorem publicS_length (seed : List UInt8) (key : Int) : (publicS seed key).length = 32 := tagH_length _ _
set_option maxRecDepth 100000 in
set_option maxHeartbeats 2000000 in
theorem rpublic_any (v : Value) (seed : List UInt8) (key : Int) (hk : 0 ≤ key ∧ key < 1000) (hsm : seed.length ≤ 1000000000) (w : World) (hx : Bys w v seed) :
  Calls Tryz.prog 123 #[v, .int .i64 key] w (RetB w (publicS seed key)) := by
 obtain ⟨i0, hi0, hz0, hz1, hz2⟩ := info_parts info_u8
 obtain ⟨A, c, rfl⟩ := hx.form
 have HX := Lib.hid hx
 clear hx
 have HPS : Hid (publicS seed key = tagH 12 [pubAcc seed key 32]) := Lib.hid rfl
 generalize publicS seed key = PS at *
 go_enter Tryz.func123, Tryz.ntmps123
 go_wp2
 go_loopw [5, 6] (fun v5 v6 wr => ∃ j : Nat, v6 = .int .i64 j ∧ j ≤ 32 ∧ Hid (Below w.heap.size w wr ∧ OwnB wr w.heap.size v5 (pubAcc seed key j))) (fun _ v _ => 32 - (intOf v).toNat)
 case atStart => exact ⟨0, rfl, by decide, Lib.hid ⟨Below.refl _ _, World.ownsRow_nil _ _ _ _⟩⟩
 case round =>
  obtain ⟨j, rfl, hj, HI⟩ := hrel
  have hlen := pubAcc_length seed key j
  by_cases hlt : j < 32
  ·have HC0 := Lib.hid (fun (wz : World) (hz : Bys wz (.slice A seed.length c) seed) => rshown_any (.slice A seed.length c) seed key j 0 hk (by omega) (by decide) hsm wz hz)
   have HC1 := Lib.hid (fun (wz : World) (hz : Bys wz (.slice A seed.length c) seed) => rshown_any (.slice A seed.length c) seed key j 1 hk (by omega) (by decide) hsm wz hz)
   have HACC : Hid (pubAcc seed key (j + 1) = pubAcc seed key j ++ shownS seed key j 0 ++ shownS seed key j 1) := Lib.hid rfl
   have HL0 := Lib.hid (shownS_length seed key j 0)
   have HL1 := Lib.hid (shownS_length seed key j 1)
   have hD : (pubAcc seed key j).length ≤ 10000 := by omega
   generalize shownS seed key j 0 = S0 at *
   generalize shownS seed key j 1 = S1 at *
   generalize pubAcc seed key j = D at *
   clear hlen
   have hsz := HI.out.1.size
   obtain ⟨A5, c5, rfl⟩ := HI.out.2.form
   go_wp2_with fail
   refine (HC0.out wr (HX.out.below HI.out.1)).mono ?_
   rintro e w1 ⟨v1, rfl, h1, h2⟩
   obtain ⟨A1, c1, rfl⟩ := h1.form
   have H1 := Lib.hid (And.intro (HI.out.1.trans (h2.mono hsz)) (And.intro (HI.out.2.keep h2) h1.bys))
   have hsz1 := H1.out.1.size
   clear h1 h2
   go_wp2_with (at_builtin; (refine wpList_append_any rfl (.tmp 11) (.tmp 15) 24 rfl w.heap.size 5 i0 (.int .u8 0) 1 1 Tryz.underlying24 hi0 hz0 hz1 hz2 rfl (by decide) _ _ _ rfl H1.out.2.1.any _ S0.length (bys S0) rfl H1.out.2.2.news (by have := HL0.out; unfold maxLen; omega) (by have := HL0.out; omega) hsz1 ?_); intro v2 W2 hown2 hgrow2; have HB2 : Hid (Below w.heap.size w W2) := Lib.hid (H1.out.1.grown hgrow2 hsz1 (fun k e => OwnB.ge H1.out.2.1 e)); have HO2 : Hid (OwnB W2 w.heap.size v2 (D ++ S0)) := Lib.hid (OwnB.append rfl hown2); clear hown2 hgrow2)
   have hDS : (D ++ S0).length ≤ 20000 := by rw [List.length_append, HL0.out]; omega
   generalize hE : D ++ S0 = E at *
   have HE := Lib.hid hE
   clear hE
   obtain ⟨A2, c2, rfl⟩ := HO2.out.form
   refine (HC1.out W2 (HX.out.below HB2.out)).mono ?_
   rintro e w3 ⟨v3, rfl, h1, h2⟩
   obtain ⟨A3, c3, rfl⟩ := h1.form
   have H3 := Lib.hid (And.intro (HB2.out.trans (h2.mono HB2.out.size)) (And.intro (HO2.out.keep h2) h1.bys))
   have hsz3 := H3.out.1.size
   clear h1 h2
   go_wp2_with (at_builtin; (refine wpList_append_any rfl (.tmp 16) (.tmp 20) 24 rfl w.heap.size 5 i0 (.int .u8 0) 1 1 Tryz.underlying24 hi0 hz0 hz1 hz2 rfl (by decide) _ _ _ rfl H3.out.2.1.any _ S1.length (bys S1) rfl H3.out.2.2.news (by have := HL1.out; unfold maxLen; omega) (by have := HL1.out; omega) hsz3 ?_); intro v4 W4 hown4 hgrow4; have HB4 : Hid (Below w.heap.size w W4) := Lib.hid (H3.out.1.grown hgrow4 hsz3 (fun k e => OwnB.ge H3.out.2.1 e)); have HO4 : Hid (OwnB W4 w.heap.size v4 (E ++ S1)) := Lib.hid (OwnB.append rfl hown4); clear hown4 hgrow4)
   go_roundw
   case rel => exact ⟨j + 1, by go_num, by omega, Lib.hid ⟨HB4.out, by rw [HACC.out]; have := HO4.out; rwa [← HE.out] at this⟩⟩
   case measure => simp [intOf]; omega
  ·obtain rfl : j = 32 := by omega
   have HB := Lib.hid HI.out.1
   have hle : (pubAcc seed key 32).length ≤ 2048 := by omega
   clear hlen
   generalize pubAcc seed key 32 = PA at *
   have hsz := HI.out.1.size
   obtain ⟨A5, c5, rfl⟩ := HI.out.2.form
   have HT := Lib.hid (rtag_any 12 12 rfl _ [PA] (by simp; omega) (by simp) _ (new1 24 (b := wr.heap.size) rfl HI.out.2.bys))
   rw [← HPS.out] at HT
   have hal := (Below.refl wr.heap.size wr).alloc (Nat.le_refl _) (.cells #[.slice A5 PA.length c5] 24)
   go_wp2_with fail
   refine HT.out.mono ?_
   rintro e w2 ⟨v2, rfl, h1, h2⟩
   have H2 := Lib.hid (And.intro h1 (hal.trans (h2.mono (by simp))))
   clear h1 h2 hal
   go_wp2
   go_ret
   exact ⟨_, rfl, own_mono' H2.out.1 (by simp; omega), HB.out.trans (H2.out.2.mono hsz)⟩

def bitS (d : Int) (j : Nat) : Int := wrap64 (bits .and .u32 (d / 2 ^ (31 - j)) 1)
def partS (seed : List UInt8) (key d : Int) (j s : Nat) : List UInt8 := if (bitS d j == (s : Int)) = true then secretS seed key j s else shownS seed key j s
theorem partS_length (seed : List UInt8) (key d : Int) (j s : Nat) : (partS seed key d j s).length = 32 := by
 unfold partS
 split
 ·exact secretS_length _ _ _ _
 ·exact shownS_length _ _ _ _
def sigAcc (seed : List UInt8) (key d : Int) : Nat → List (List UInt8)
 | 0 => []
 | n + 1 => sigAcc seed key d n ++ [partS seed key d (n / 2) (n % 2)]
theorem sigAcc_length (seed : List UInt8) (key d : Int) (n : Nat) : (sigAcc seed key d n).length = n := by
 induction n with
 | zero => rfl
 | succ n ih => show (sigAcc seed key d n ++ [_]).length = _; rw [List.length_append, ih]; rfl
def partsS (seed : List UInt8) (key : Int) (msg : List UInt8) : List (List UInt8) := sigAcc seed key (digS msg) 64
theorem partsS_length (seed : List UInt8) (key : Int) (msg : List UInt8) : (partsS seed key msg).length = 64 := sigAcc_length _ _ _ _
def RetR (w : World) (ls : List (List UInt8)) (e : Ending) (w' : World) : Prop := ∃ v', e = .returned v' ∧ OwnR w' w.heap.size v' ls ∧ Below w.heap.size w w'
theorem retr_push {wr w1 W : World} {B : Nat} {v : Value} {ls : List (List UInt8)} {x : List UInt8} {A1 : Option Addr} {c1 g cap : Nat}
  (hO : OwnR wr B v ls) (hsz : B ≤ wr.heap.size) (hb : Below wr.heap.size wr w1) (hx : OwnB w1 wr.heap.size (.slice A1 x.length c1) x)
  {us : List Value} (hu : ∀ i (h : i < ls.length), ∃ u, us[i]? = some u ∧ Bys w1 u ls[i] ∧ (0 < ls[i].length → u.ownBlock ≠ v.ownBlock ∧ ∀ g, u.ownBlock = some g → B ≤ g)) (hl : us.length = ls.length)
  (ho : W.ownsRow B 24 1 (.slice (some ⟨g, 0, none⟩) (ls.length + 1) cap) (ls.length + 1) (us ++ [.slice A1 x.length c1])) (hg : (w1.alloc (.cells #[.slice A1 x.length c1] 24)).grownBy W v.ownBlock) (hlie : v.ownBlock = some g ∨ g = w1.heap.size + 1) :
  OwnR W B (.slice (some ⟨g, 0, none⟩) (ls.length + 1) cap) (ls ++ [x]) ∧ Below B wr W := by
 refine ⟨OwnR.push hu hl hx.bys (fun h0 => ⟨fun e => ?_, fun g hg => Nat.le_trans hsz (hx.ge hg)⟩) ho hg hlie, ?_⟩
 ·cases hq : v.ownBlock with
  | none =>
   rw [hq] at e
   obtain ⟨g', o', e1, _⟩ := hx.bys.place h0
   subst e1
   cases e
  | some q =>
   have h1 := hO.lt hq
   rw [hq] at e
   have h2 := hx.ge e
   omega
 ·exact (hb.mono hsz).trans (((Below.refl B w1).alloc (Nat.le_trans hsz hb.size) _).grown hg (by have := hb.size; simp; omega) (fun k e => hO.ge e))

set_option maxRecDepth 100000 in
set_option maxHeartbeats 2000000 in
theorem rsign_any (v u : Value) (seed msg : List UInt8) (key : Int) (hk : 0 ≤ key ∧ key < 1000) (hsm : seed.length ≤ 1000000000) (hsm2 : msg.length ≤ 1000000000) (w : World) (hx : Bys w v seed) (hy : Bys w u msg) :
  Calls Tryz.prog 119 #[v, .int .i64 key, u] w (RetR w (partsS seed key msg)) := by
 obtain ⟨i0, hi0, hz0, hz1, hz2⟩ := info_parts info_bytes
 obtain ⟨A, c, rfl⟩ := hx.form
 obtain ⟨B, d, rfl⟩ := hy.form
 have HX := Lib.hid (And.intro hx hy)
 have HPS : Hid (partsS seed key msg = sigAcc seed key (digS msg) 64) := Lib.hid rfl
 generalize partsS seed key msg = PS at *
 clear hx hy
 go_enter Tryz.func119, Tryz.ntmps119
 go_wp2_with fail
 refine (rdigest_any _ msg hsm2 w HX.out.2).mono ?_
 rintro e w1 ⟨rfl, h1⟩
 have H1 := Lib.hid h1
 generalize digS msg = D at *
 clear h1
 go_wp2
 go_loopw [8, 9] (fun v8 v9 wr => ∃ j : Nat, v9 = .int .i64 j ∧ j ≤ 32 ∧ Hid (Below w.heap.size w wr ∧ OwnR wr w.heap.size v8 (sigAcc seed key D (2 * j)))) (fun _ v _ => 32 - (intOf v).toNat)
 case atStart => exact ⟨0, rfl, by decide, Lib.hid ⟨H1.out, OwnR.nil _ _⟩⟩
 case round =>
  obtain ⟨j, rfl, hj, HI⟩ := hrel
  by_cases hlt : j < 32
  ·have es : IntKind.i64.wrap (31 - (j : Int)) = 31 - (j : Int) := IntWalk.i64_in _ (by omega)
   have hdj : decide ((j : Int) < 32) = true := by simp; omega
   go_wp2
   go_loopw [8, 10] (fun v8 v10 wr => ∃ s : Nat, v10 = .int .i64 s ∧ s ≤ 2 ∧ Hid (Below w.heap.size w wr ∧ OwnR wr w.heap.size v8 (sigAcc seed key D (2 * j + s)))) (fun _ v _ => 2 - (intOf v).toNat)
   case atStart => exact ⟨0, rfl, by decide, HI⟩
   case round =>
    clear HI
    obtain ⟨s, rfl, hs, HJ⟩ := hrel
    by_cases hlt2 : s < 2
    ·have HSEC := Lib.hid (fun (wz : World) (hz : Bys wz (.slice A seed.length c) seed) => rsecret_any (.slice A seed.length c) seed key j s hk (by omega) (by omega) hsm wz hz)
     have HSHO := Lib.hid (fun (wz : World) (hz : Bys wz (.slice A seed.length c) seed) => rshown_any (.slice A seed.length c) seed key j s hk (by omega) (by omega) hsm wz hz)
     have HACC : Hid (sigAcc seed key D (2 * j + s + 1) = sigAcc seed key D (2 * j + s) ++ [partS seed key D j s]) := Lib.hid (by
      show sigAcc seed key D (2 * j + s) ++ [partS seed key D ((2 * j + s) / 2) ((2 * j + s) % 2)] = _
      rw [show (2 * j + s) / 2 = j by omega, show (2 * j + s) % 2 = s by omega])
     have hal : (sigAcc seed key D (2 * j + s)).length ≤ 100 := by rw [sigAcc_length]; omega
     have HPART : Hid (partS seed key D j s = if (bitS D j == (s : Int)) = true then secretS seed key j s else shownS seed key j s) := Lib.hid rfl
     have ebit : wrap64 (bits BinOp.and IntKind.u32 (D / 2 ^ (31 - j)) 1) = bitS D j := rfl
     have hl1 := Lib.hid (secretS_length seed key j s)
     have hl2 := Lib.hid (shownS_length seed key j s)
     generalize partS seed key D j s = PT at *
     generalize secretS seed key j s = SE at *
     generalize shownS seed key j s = SH at *
     generalize bitS D j = BI at *
     generalize sigAcc seed key D (2 * j + s) = L at *
     have hsz := HJ.out.1.size
     obtain ⟨A8, c8, rfl⟩ := HJ.out.2.rws.form
     by_cases hbit : (BI == (s : Int)) = true
     ·have HPT : Hid (PT = SE) := Lib.hid (by rw [HPART.out, if_pos hbit])
      go_wp2_with fail
      refine (HSEC.out wr (HX.out.1.below HJ.out.1)).mono ?_
      rintro e w2 ⟨v2, rfl, h1, h2⟩
      obtain ⟨A2, c2, rfl⟩ := h1.form
      obtain ⟨us, hu1, hu2⟩ := HJ.out.2.keep h2
      have H2 := Lib.hid (And.intro h1 (And.intro h2 (And.intro hu1 hu2)))
      have hsz2 := h2.size
      clear h1 h2 hu1 hu2
      go_wp2_with (at_builtin; (refine wpList_append_lies _ rfl (.tmp 30) (.tmp 36) 28 rfl w.heap.size 24 i0 (.slice none 0 0) 1 24 Tryz.underlying28 hi0 hz0 hz1 hz2 rfl (by decide) _ L.length us rfl (World.ownsRow.alloc H2.out.2.2.1 _) ⟨w2.heap.size, 0, none⟩ 1 1 [.slice A2 SE.length c2] rfl rfl (World.news_of_block (blk_new _ _)) (by simp [Value.oneCell']) (by decide) (by unfold maxLen; omega) (by omega) (by simp; omega) (w2.heap.size + 1) (by simp) ?_); intro g3 c3 W3 hown3 hgrow3 hlie3 hlt3)
      have HR3 := Lib.hid (retr_push HJ.out.2 hsz H2.out.2.1 H2.out.1 H2.out.2.2.2 (by have := H2.out.2.2.1.1; omega) hown3 hgrow3 hlie3)
      go_roundw
      case rel => exact ⟨s + 1, by go_num, by omega, Lib.hid ⟨HJ.out.1.trans HR3.out.2, by rw [← Nat.add_assoc, HACC.out, HPT.out]; exact HR3.out.1⟩⟩
      case measure => simp [intOf]; omega
     ·have hbf : (BI == (s : Int)) = false := by simpa using hbit
      have HPT : Hid (PT = SH) := Lib.hid (by rw [HPART.out, if_neg hbit])
      have HBIT := Lib.hid hbit
      clear hbit
      go_wp2_with fail
      refine (HSHO.out wr (HX.out.1.below HJ.out.1)).mono ?_
      rintro e w2 ⟨v2, rfl, h1, h2⟩
      obtain ⟨A2, c2, rfl⟩ := h1.form
      obtain ⟨us, hu1, hu2⟩ := HJ.out.2.keep h2
      have H2 := Lib.hid (And.intro h1 (And.intro h2 (And.intro hu1 hu2)))
      have hsz2 := h2.size
      clear h1 h2 hu1 hu2
      go_wp2_with (at_builtin; (refine wpList_append_lies _ rfl (.tmp 38) (.tmp 44) 28 rfl w.heap.size 24 i0 (.slice none 0 0) 1 24 Tryz.underlying28 hi0 hz0 hz1 hz2 rfl (by decide) _ L.length us rfl (World.ownsRow.alloc H2.out.2.2.1 _) ⟨w2.heap.size, 0, none⟩ 1 1 [.slice A2 SH.length c2] rfl rfl (World.news_of_block (blk_new _ _)) (by simp [Value.oneCell']) (by decide) (by unfold maxLen; omega) (by omega) (by simp; omega) (w2.heap.size + 1) (by simp) ?_); intro g3 c3 W3 hown3 hgrow3 hlie3 hlt3)
      have HR3 := Lib.hid (retr_push HJ.out.2 hsz H2.out.2.1 H2.out.1 H2.out.2.2.2 (by have := H2.out.2.2.1.1; omega) hown3 hgrow3 hlie3)
      go_roundw
      case rel => exact ⟨s + 1, by go_num, by omega, Lib.hid ⟨HJ.out.1.trans HR3.out.2, by rw [← Nat.add_assoc, HACC.out, HPT.out]; exact HR3.out.1⟩⟩
      case measure => simp [intOf]; omega
    ·obtain rfl : s = 2 := by omega
     go_wp2
     go_roundw
     case rel => exact ⟨j + 1, by go_num, by omega, HJ⟩
     case measure => simp [intOf]; omega
  ·obtain rfl : j = 32 := by omega
   go_wp2
   go_ret
   exact ⟨_, rfl, by rw [HPS.out]; exact HI.out.2, HI.out.1⟩
def rootPart (d : Int) (i : Nat) (p : List UInt8) : List UInt8 := if (bitS d (i / 2) == ((i % 2 : Nat) : Int)) = true then tagH 11 [p] else p
def rootAcc (d : Int) (ls : List (List UInt8)) : Nat → List UInt8
 | 0 => []
 | i + 1 => rootAcc d ls i ++ rootPart d i (ls.getD i [])
def rootS (msg : List UInt8) (ls : List (List UInt8)) : List UInt8 := tagH 12 [rootAcc (digS msg) ls 64]
theorem rootPart_length (d : Int) (i : Nat) (p : List UInt8) (h : p.length = 32) : (rootPart d i p).length = 32 := by
 unfold rootPart
 split
 ·exact tagH_length _ _
 ·exact h
set_option maxRecDepth 100000 in
set_option maxHeartbeats 2000000 in
theorem rroot_any (v u : Value) (msg : List UInt8) (ls : List (List UInt8)) (h64 : ls.length = 64) (h32 : ∀ i (h : i < ls.length), ls[i].length = 32) (hsm : msg.length ≤ 1000000000) (w : World) (hx : Bys w v msg) (hy : Rws w u ls) :
  Calls Tryz.prog 139 #[v, u] w fun e w' => ∃ v', e = .returned (.tuple #[v', .bool true]) ∧ OwnB w' w.heap.size v' (rootS msg ls) ∧ Below w.heap.size w w' := by
 obtain ⟨i0, hi0, hz0, hz1, hz2⟩ := info_parts info_u8
 obtain ⟨A, c, rfl⟩ := hx.form
 obtain ⟨B, d, rfl⟩ := hy.form
 have HX := Lib.hid (And.intro hx hy)
 have H64 := Lib.hid h64
 have H32 := Lib.hid h32
 have HRS : Hid (rootS msg ls = tagH 12 [rootAcc (digS msg) ls 64]) := Lib.hid rfl
 generalize rootS msg ls = RS at *
 have hne : (((ls.length : Nat) : Int) != 64) = false := by simp [h64]
 clear hx hy h64 h32
 go_enter Tryz.func139, Tryz.ntmps139
 go_wp2_with fail
 refine (rdigest_any _ msg hsm w HX.out.1).mono ?_
 rintro e w1 ⟨rfl, h1⟩
 have H1 := Lib.hid h1
 generalize digS msg = D at *
 clear h1 hne
 go_wp2
 go_loopw [7, 8] (fun v7 v8 wr => ∃ i : Nat, v8 = .int .i64 i ∧ i ≤ ls.length ∧ Hid (Below w.heap.size w wr ∧ OwnB wr w.heap.size v7 (rootAcc D ls i) ∧ (rootAcc D ls i).length = 32 * i)) (fun _ v _ => ls.length - (intOf v).toNat)
 case atStart => exact ⟨0, rfl, Nat.zero_le _, Lib.hid ⟨H1.out, World.ownsRow_nil _ _ _ _, rfl⟩⟩
 case round =>
  obtain ⟨i, rfl, hi, HI⟩ := hrel
  by_cases hlt : i < ls.length
  ·have hi64 : i < 64 := by have := H64.out; omega
   obtain ⟨g, o, up, rfl, hg, -, -, hcu, hbu⟩ := HX.out.2.at' i hlt
   have p0 := (HI.out.1.cell (p := ⟨g, o + i, none⟩) hg).trans hcu
   have HBU := hbu.below HI.out.1
   obtain ⟨A9, c9, rfl⟩ := HBU.form
   have HU := Lib.hid HBU
   have HL := Lib.hid (H32.out i hlt)
   have HACC : Hid (rootAcc D ls (i + 1) = rootAcc D ls i ++ rootPart D i ls[i]) := Lib.hid (by
    show rootAcc D ls i ++ rootPart D i (ls.getD i []) = _
    rw [List.getD_eq_getElem?_getD, List.getElem?_eq_getElem hlt]; rfl)
   have HPART : Hid (rootPart D i ls[i] = if (bitS D (i / 2) == ((i % 2 : Nat) : Int)) = true then tagH 11 [ls[i]] else ls[i]) := Lib.hid rfl
   have hpl := Lib.hid (rootPart_length D i ls[i] HL.out)
   have hnl : (((ls[i].length : Nat) : Int) != 32) = false := by simp [HL.out]
   have hal : (rootAcc D ls i).length ≤ 10000 := by have := HI.out.2.2; omega
   have ebit : wrap64 (bits BinOp.and IntKind.u32 (D / 2 ^ (31 - i / 2)) 1) = bitS D (i / 2) := rfl
   have HTG := Lib.hid (fun (wz : World) (hz : Bys wz (.slice A9 ls[i].length c9) ls[i]) => rtag_any 11 11 rfl _ [ls[i]] (by simp; have := HL.out; omega) (by simp) _ (new1 24 (b := wz.heap.size) rfl hz))
   have htl := Lib.hid (tagH_length 11 [ls[i]])
   clear hcu hbu HBU
   generalize rootPart D i ls[i] = PT at *
   generalize tagH 11 [ls[i]] = TG at *
   generalize ls[i] = P at *
   generalize bitS D (i / 2) = BI at *
   have hsz := HI.out.1.size
   obtain ⟨A7, c7, rfl⟩ := HI.out.2.1.form
   have HII := Lib.hid HI.out
   generalize rootAcc D ls i = RA at *
   by_cases hbit : (BI == (i : Int) % 2) = true
   ·have HPT : Hid (PT = TG) := Lib.hid (by rw [HPART.out, if_pos (by simpa using hbit)])
    go_wp2_with fail
    have hal1 := (Below.refl wr.heap.size wr).alloc (Nat.le_refl _) (.cells #[.slice A9 P.length c9] 24)
    refine (HTG.out wr HU.out).mono ?_
    rintro e w2 ⟨v2, rfl, h1, h2⟩
    obtain ⟨A2, c2, rfl⟩ := h1.form
    have hb2 := hal1.trans (h2.mono (by simp))
    have H2 := Lib.hid (And.intro (HI.out.1.trans (hb2.mono hsz)) (And.intro (HI.out.2.1.keep hb2) h1.bys))
    have hsz2 := H2.out.1.size
    clear h1 h2 hb2 hal1
    go_wp2_with (at_builtin; (refine wpList_append_any rfl (.tmp 45) (.tmp 46) 24 rfl w.heap.size 5 i0 (.int .u8 0) 1 1 Tryz.underlying24 hi0 hz0 hz1 hz2 rfl (by decide) _ _ _ rfl H2.out.2.1.any _ TG.length (bys TG) rfl H2.out.2.2.news (by have := htl.out; unfold maxLen; omega) (by have := htl.out; omega) hsz2 ?_); intro v4 W4 hown4 hgrow4)
    have HB4 : Hid (Below w.heap.size w W4) := Lib.hid (H2.out.1.grown hgrow4 hsz2 (fun k e => OwnB.ge H2.out.2.1 e))
    have HO4 : Hid (OwnB W4 w.heap.size v4 (RA ++ TG)) := Lib.hid (OwnB.append rfl hown4)
    go_roundw
    case rel => exact ⟨i + 1, by go_num, by omega, Lib.hid ⟨HB4.out, by rw [HACC.out, HPT.out]; exact HO4.out, by rw [HACC.out, HPT.out, List.length_append, HI.out.2.2, htl.out]; omega⟩⟩
    case measure => simp [intOf]; omega
   ·have hbf : (BI == (i : Int) % 2) = false := by simpa using hbit
    have HPT : Hid (PT = P) := Lib.hid (by rw [HPART.out, if_neg (by simpa using hbit)])
    have HBIT := Lib.hid hbit
    clear hbit
    go_wp2_with (at_builtin; (refine wpList_append_any rfl (.tmp 45) (.tmp 46) 24 rfl w.heap.size 5 i0 (.int .u8 0) 1 1 Tryz.underlying24 hi0 hz0 hz1 hz2 rfl (by decide) _ _ _ rfl HI.out.2.1.any _ P.length (bys P) rfl HU.out.news (by have := HL.out; unfold maxLen; omega) (by have := HL.out; omega) hsz ?_); intro v4 W4 hown4 hgrow4)
    have HB4 : Hid (Below w.heap.size w W4) := Lib.hid (HI.out.1.grown hgrow4 hsz (fun k e => OwnB.ge HI.out.2.1 e))
    have HO4 : Hid (OwnB W4 w.heap.size v4 (RA ++ P)) := Lib.hid (OwnB.append rfl hown4)
    go_roundw
    case rel => exact ⟨i + 1, by go_num, by omega, Lib.hid ⟨HB4.out, by rw [HACC.out, HPT.out]; exact HO4.out, by rw [HACC.out, HPT.out, List.length_append, HI.out.2.2, HL.out]; omega⟩⟩
    case measure => simp [intOf]; omega
  ·have hi64 : Hid (i = 64) := Lib.hid (by have := H64.out; omega)
   have HB := Lib.hid HI.out.1
   have hsz := HI.out.1.size
   have hrl : (rootAcc D ls i).length ≤ 10000 := by have := HI.out.2.2; have := hi64.out; omega
   have HRA : Hid (rootAcc D ls i = rootAcc D ls 64) := Lib.hid (by rw [hi64.out])
   obtain ⟨A7, c7, rfl⟩ := HI.out.2.1.form
   have HO := Lib.hid HI.out.2.1
   generalize rootAcc D ls i = RA at *
   have HT := Lib.hid (rtag_any 12 12 rfl _ [RA] (by simp; omega) (by simp) _ (new1 24 (b := wr.heap.size) rfl HO.out.bys))
   rw [HRA.out, ← HRS.out, ← HRA.out] at HT
   have hal := (Below.refl wr.heap.size wr).alloc (Nat.le_refl _) (.cells #[.slice A7 RA.length c7] 24)
   go_wp2_with fail
   refine HT.out.mono ?_
   rintro e w2 ⟨v2, rfl, h1, h2⟩
   have H2 := Lib.hid (And.intro h1 (hal.trans (h2.mono (by simp))))
   clear h1 h2 hal
   go_wp2
   go_ret2
   exact ⟨_, rfl, own_mono' H2.out.1 (by simp; omega), HB.out.trans (H2.out.2.mono hsz)⟩
structure SigD where
 index : Int
 parts : List (List UInt8)
 path : List (List UInt8)
def SigV (w : World) (v : Value) (s : SigD) : Prop := ∃ p q, v = .agg #[.int .i64 s.index, p, q] ∧ Rws w p s.parts ∧ Rws w q s.path
def len32 (l : List UInt8) : Bool := l.length == 32
def rightB (s : SigD) : Bool := (decide (0 ≤ s.index) && decide (s.index < 16) && decide (s.parts.length = 64) && decide (s.path.length = 4)) && (s.parts.all len32 && s.path.all len32)
theorem rightB_facts {s : SigD} (h : rightB s = true) : 0 ≤ s.index ∧ s.index < 16 ∧ s.parts.length = 64 ∧ s.path.length = 4 ∧ (∀ i (h : i < s.parts.length), s.parts[i].length = 32) ∧ ∀ i (h : i < s.path.length), s.path[i].length = 32 := by
 simp only [rightB, Bool.and_eq_true, decide_eq_true_eq, List.all_eq_true, len32, beq_iff_eq] at h
 obtain ⟨⟨⟨⟨h1, h2⟩, h3⟩, h4⟩, h5, h6⟩ := h
 exact ⟨h1, h2, h3, h4, fun i hi => h5 _ (List.getElem_mem hi), fun i hi => h6 _ (List.getElem_mem hi)⟩
theorem all32_not {ls : List (List UInt8)} (i : Nat) (h : i < ls.length) (hn : ls[i].length ≠ 32) : ls.all len32 = false := by
 rw [List.all_eq_false]
 exact ⟨_, List.getElem_mem h, by simp [len32, hn]⟩
theorem all32_of {ls : List (List UInt8)} (h : ∀ i (h : i < ls.length), ls[i].length = 32) : ls.all len32 = true := by
 rw [List.all_eq_true]
 intro x hx
 obtain ⟨i, hi, rfl⟩ := List.getElem_of_mem hx
 simp [len32, h i hi]

set_option maxRecDepth 100000 in
set_option maxHeartbeats 2000000 in
theorem rright_any (v : Value) (s : SigD) (hp : s.parts.length ≤ 1000000000) (hq : s.path.length ≤ 1000000000) (hl : ∀ i (h : i < s.parts.length), s.parts[i].length ≤ 1000000000) (hl2 : ∀ i (h : i < s.path.length), s.path[i].length ≤ 1000000000) (w : World) (hv : SigV w v s) :
  Calls Tryz.prog 73 #[v] w fun e w' => e = .returned (.bool (rightB s)) ∧ Below w.heap.size w w' := by
 obtain ⟨p, q, rfl, h1, h2⟩ := hv
 obtain ⟨P, cp, rfl⟩ := h1.form
 obtain ⟨Q, cq, rfl⟩ := h2.form
 have HB0 := Lib.hid ((Below.refl w.heap.size w).alloc (Nat.le_refl _) (.cells #[.int .i64 s.index, .slice P s.parts.length cp, .slice Q s.path.length cq] 37))
 have HR := Lib.hid (And.intro h1 h2)
 have HL := Lib.hid (And.intro hl hl2)
 have HRB : Hid (rightB s = ((decide (0 ≤ s.index) && decide (s.index < 16) && decide (s.parts.length = 64) && decide (s.path.length = 4)) && (s.parts.all len32 && s.path.all len32))) := Lib.hid rfl
 clear h1 h2 hl hl2
 generalize rightB s = RB at *
 generalize s.index = ix at *
 generalize s.parts = Ps at *
 generalize s.path = Qs at *
 go_enter Tryz.func73, Tryz.ntmps73
 by_cases hok : 0 ≤ ix ∧ ix < 16 ∧ Ps.length = 64 ∧ Qs.length = 4
 ·obtain ⟨k1, k2, k3, k4⟩ := hok
  have HK := Lib.hid (And.intro k3 k4)
  have HRB2 : Hid (RB = (Ps.all len32 && Qs.all len32)) := Lib.hid (by rw [HRB.out]; simp [k1, k2, k3, k4])
  have n3 : (((Ps.length : Nat) : Int) != 64) = false := by simp [k3]
  have n4 : (((Qs.length : Nat) : Int) != 4) = false := by simp [k4]
  clear k3 k4
  have HX2 : Hid (Blk ((w.alloc (.cells #[.int .i64 ix, .slice P Ps.length cp, .slice Q Qs.length cq] 37)).alloc (.cells #[.slice P Ps.length cp, .slice Q Qs.length cq] 28)) (w.heap.size + 1) 28 [.slice P Ps.length cp, .slice Q Qs.length cq]) := Lib.hid (blk2 w _ _ _ _ _ rfl).2.2
  go_wp2
  go_loopw [32] (fun v32 wr => ∃ k : Nat, v32 = .int .i64 k ∧ k ≤ 2 ∧ Hid (Below w.heap.size w wr ∧ Blk wr (w.heap.size + 1) 28 [.slice P Ps.length cp, .slice Q Qs.length cq] ∧ (1 ≤ k → Ps.all len32 = true) ∧ (2 ≤ k → Qs.all len32 = true))) (fun v _ => 2 - (intOf v).toNat)
  case atStart => exact ⟨0, rfl, by decide, Lib.hid ⟨HB0.out.alloc (by simp) _, HX2.out, fun h => by omega, fun h => by omega⟩⟩
  case round =>
   obtain ⟨k, rfl, hk, HI⟩ := hrel
   by_cases hlt : k < 2
   ·obtain ⟨A, c, L, hc, HL2⟩ : ∃ A c L, wr.cell? ⟨w.heap.size + 1, k, none⟩ = some (.slice A (List.length L) c) ∧ Hid (Rws w (.slice A (List.length L) c) L ∧ L.length ≤ 1000000000 ∧ (∀ i (h : i < L.length), L[i].length ≤ 1000000000) ∧ ((k = 0 ∧ L = Ps) ∨ (k = 1 ∧ L = Qs))) := by
     obtain rfl | rfl : k = 0 ∨ k = 1 := by omega
     ·exact ⟨P, cp, Ps, HI.out.2.1.cell 0 _ rfl, Lib.hid ⟨HR.out.1, hp, HL.out.1, .inl ⟨rfl, rfl⟩⟩⟩
     ·exact ⟨Q, cq, Qs, HI.out.2.1.cell 1 _ rfl, Lib.hid ⟨HR.out.2, hq, HL.out.2, .inr ⟨rfl, rfl⟩⟩⟩
    have hLm : L.length ≤ 1000000000 := HL2.out.2.1
    go_wp2
    go_loopw [5] (fun v5 wr => ∃ i : Nat, v5 = .int .i64 i ∧ i ≤ L.length ∧ Hid (Below w.heap.size w wr ∧ Blk wr (w.heap.size + 1) 28 [.slice P Ps.length cp, .slice Q Qs.length cq] ∧ ∀ j (h : j < L.length), j < i → L[j].length = 32)) (fun v _ => L.length - (intOf v).toNat)
    case atStart => exact ⟨0, rfl, Nat.zero_le _, Lib.hid ⟨HI.out.1, HI.out.2.1, fun j h hj => by omega⟩⟩
    case round =>
     obtain ⟨i, rfl, hi, HJ⟩ := hrel
     by_cases hlt2 : i < L.length
     ·obtain ⟨g, o, u, rfl, hg, -, -, hcu, hbu⟩ := HL2.out.1.at' i hlt2
      have p0 := (HJ.out.1.cell (p := ⟨g, o + i, none⟩) hg).trans hcu
      obtain ⟨A9, c9, rfl⟩ := hbu.form
      have hl9 := HL2.out.2.2.1 i hlt2
      clear hcu hbu hc
      by_cases h32 : L[i].length = 32
      ·have hnl : (((L[i].length : Nat) : Int) != 32) = false := by simp [h32]
       have H32 := Lib.hid h32
       clear h32
       go_wp2
       go_roundw
       case rel => exact ⟨i + 1, by go_num, by omega, Lib.hid ⟨HJ.out.1, HJ.out.2.1, fun j h hj => by
        by_cases e : j = i
        ·subst e; exact H32.out
        ·exact HJ.out.2.2 j h (by omega)⟩⟩
       case measure => simp [intOf]; omega
      ·have hnl : (((L[i].length : Nat) : Int) != 32) = true := by simp; omega
       have HF : Hid (RB = false) := Lib.hid (by
        rw [HRB2.out]
        have := all32_not i hlt2 h32
        rcases HL2.out.2.2.2 with ⟨_, rfl⟩ | ⟨_, rfl⟩
        ·rw [this]; rfl
        ·rw [this, Bool.and_false])
       have H32 := Lib.hid h32
       clear h32
       go_wp2
       go_ret
       exact ⟨by rw [HF.out]; rfl, HJ.out.1⟩
     ·have HA : Hid (L.all len32 = true) := Lib.hid (all32_of (fun j h => HJ.out.2.2 j h (by omega)))
      go_wp2
      go_roundw
      case rel => exact ⟨k + 1, by go_num, by omega, Lib.hid ⟨HJ.out.1, HJ.out.2.1, fun h => by
       rcases HL2.out.2.2.2 with ⟨rfl, rfl⟩ | ⟨rfl, rfl⟩
       ·exact HA.out
       ·exact HI.out.2.2.1 (Nat.le_refl _), fun h => by
       rcases HL2.out.2.2.2 with ⟨rfl, rfl⟩ | ⟨rfl, rfl⟩
       ·omega
       ·exact HA.out⟩⟩
      case measure => simp [intOf]; omega
   ·obtain rfl : k = 2 := by omega
    have HT : Hid (RB = true) := Lib.hid (by rw [HRB2.out, HI.out.2.2.1 (by decide), HI.out.2.2.2 (Nat.le_refl _)]; rfl)
    go_wp2
    go_ret
    exact ⟨by rw [HT.out]; rfl, HI.out.1⟩
 ·have HF : Hid (RB = false) := Lib.hid (by
   rw [HRB.out]
   have : (decide (0 ≤ ix) && decide (ix < 16) && decide (Ps.length = 64) && decide (Qs.length = 4)) = false := by
    rw [Bool.eq_false_iff]
    intro h
    simp only [Bool.and_eq_true, decide_eq_true_eq] at h
    exact hok ⟨h.1.1.1, h.1.1.2, h.1.2, h.2⟩
   rw [this, Bool.false_and])
  by_cases k1 : ix < 0
  ·go_wp2
   go_ret
   exact ⟨by rw [HF.out]; rfl, HB0.out⟩
  ·by_cases k2 : 16 ≤ ix
   ·go_wp2
    go_ret
    exact ⟨by rw [HF.out]; rfl, HB0.out⟩
   ·by_cases k3 : Ps.length = 64
    ·have k4 : Qs.length ≠ 4 := fun h => hok ⟨by omega, by omega, k3, h⟩
     have n3 : (((Ps.length : Nat) : Int) != 64) = false := by simp [k3]
     have n4 : (((Qs.length : Nat) : Int) != 4) = true := by simp; omega
     clear k3 k4 hok
     go_wp2
     go_ret
     exact ⟨by rw [HF.out]; rfl, HB0.out⟩
    ·have n3 : (((Ps.length : Nat) : Int) != 64) = true := by simp; omega
     clear k3 hok
     go_wp2
     go_ret
     exact ⟨by rw [HF.out]; rfl, HB0.out⟩
end Go.Proofs.YtgeplpdcnanmnaaGreat

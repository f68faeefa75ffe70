/- The reference's keys that sign once: the public part, signing, the root. The program's digests. The reference's owners' signatures: what is right, what verifies, what is the same. The reference's owners' signatures: what verifies. The reference's owners: their trees of keys. The reference's owners: their key, their signatures. A row of texts of one's own, its elements anywhere but in the row's own block. The program's root of a signature made once. The program's signatures: what is right. The program's signatures: Right. The program's signatures: Verify. Appending whatever is shown, and where the new row lies. No program in sight. The program's writer of bytes. The reference's owners sign. The reference's checkpoints: what is right, what is the same. Conditions: as each theorem states them. -/
import Derived.Test.YtlkgeifmppadmaaGreatKb
import Derived.Test.YtlkgeifmppadmaaGreatKa
import Derived.Deep.RegionHeld3
namespace Go.Proofs.YtlkgeifmppadmaaGreat
open Go.RowKit
set_option linter.unusedVariables false
set_option linter.unusedSimpArgs false

def pubAcc (seed : List UInt8) (key : Int) : Nat → List UInt8
 | 0 => []
 | j + 1 => pubAcc seed key j ++ shownS seed key j 0 ++ shownS seed key j 1
theorem pubAcc_length (seed : List UInt8) (key : Int) (j : Nat) : (pubAcc seed key j).length = 64 * j := by
 induction j with
 | zero => rfl
 | succ j ih => show (pubAcc seed key j ++ shownS seed key j 0 ++ shownS seed key j 1).length = _; rw [List.length_append, List.length_append, ih, shownS_length, shownS_length]; omega
def publicS (seed : List UInt8) (key : Int) : List UInt8 := tagH 12 [pubAcc seed key 32]
theorem publicS_length (seed : List UInt8) (key : Int) : (publicS seed key).length = 32 := tagH_length _ _
set_option maxRecDepth 100000 in
set_option maxHeartbeats 2000000 in
theorem rpublic_any (v : Value) (seed : List UInt8) (key : Int) (hk : 0 ≤ key ∧ key < 1000) (hsm : seed.length ≤ 1000000000) (w : World) (hx : Bys w v seed) :
  Calls Tryz.prog 43 #[v, .int .i64 key] w (RetB w (publicS seed key)) := by
 obtain ⟨i0, hi0, hz0, hz1, hz2⟩ := info_parts info_u8
 obtain ⟨A, c, rfl⟩ := hx.form
 have HX := Lib.hid hx
 clear hx
 have HPS : Hid (publicS seed key = tagH 12 [pubAcc seed key 32]) := Lib.hid rfl
 generalize publicS seed key = PS at *
 go_enter Tryz.func43, Tryz.ntmps43
 go_wp2
 go_loopw [5, 6] (fun v5 v6 wr => ∃ j : Nat, v6 = .int .i64 j ∧ j ≤ 32 ∧ Hid (Below w.heap.size w wr ∧ OwnB wr w.heap.size v5 (pubAcc seed key j))) (fun _ v _ => 32 - (intOf v).toNat)
 case atStart => exact ⟨0, rfl, by decide, Lib.hid ⟨Below.refl _ _, World.ownsRow_nil _ _ _ _⟩⟩
 case round =>
  obtain ⟨j, rfl, hj, HI⟩ := hrel
  have hlen := pubAcc_length seed key j
  by_cases hlt : j < 32
  ·have HC0 := Lib.hid (fun (wz : World) (hz : Bys wz (.slice A seed.length c) seed) => rshown_any (.slice A seed.length c) seed key j 0 hk (by omega) (by decide) hsm wz hz)
   have HC1 := Lib.hid (fun (wz : World) (hz : Bys wz (.slice A seed.length c) seed) => rshown_any (.slice A seed.length c) seed key j 1 hk (by omega) (by decide) hsm wz hz)
   have HACC : Hid (pubAcc seed key (j + 1) = pubAcc seed key j ++ shownS seed key j 0 ++ shownS seed key j 1) := Lib.hid rfl
   have HL0 := Lib.hid (shownS_length seed key j 0)
   have HL1 := Lib.hid (shownS_length seed key j 1)
   have hD : (pubAcc seed key j).length ≤ 10000 := by omega
   generalize shownS seed key j 0 = S0 at *
   generalize shownS seed key j 1 = S1 at *
   generalize pubAcc seed key j = D at *
   clear hlen
   have hsz := HI.out.1.size
   obtain ⟨A5, c5, rfl⟩ := HI.out.2.form
   go_wp2_with fail
   refine (HC0.out wr (HX.out.below HI.out.1)).mono ?_
   rintro e w1 ⟨v1, rfl, h1, h2⟩
   obtain ⟨A1, c1, rfl⟩ := h1.form
   have H1 := Lib.hid (And.intro (HI.out.1.trans (h2.mono hsz)) (And.intro (HI.out.2.keep h2) h1.bys))
   have hsz1 := H1.out.1.size
   clear h1 h2
   go_wp2_with (at_builtin; (refine wpList_append_any rfl (.tmp 11) (.tmp 15) 26 rfl w.heap.size 5 i0 (.int .u8 0) 1 1 Tryz.underlying26 hi0 hz0 hz1 hz2 rfl (by decide) _ _ _ rfl H1.out.2.1.any _ S0.length (bys S0) rfl H1.out.2.2.news (by have := HL0.out; unfold maxLen; omega) (by have := HL0.out; omega) hsz1 ?_); intro v2 W2 hown2 hgrow2; have HB2 : Hid (Below w.heap.size w W2) := Lib.hid (H1.out.1.grown hgrow2 hsz1 (fun k e => OwnB.ge H1.out.2.1 e)); have HO2 : Hid (OwnB W2 w.heap.size v2 (D ++ S0)) := Lib.hid (OwnB.append rfl hown2); clear hown2 hgrow2)
   have hDS : (D ++ S0).length ≤ 20000 := by rw [List.length_append, HL0.out]; omega
   generalize hE : D ++ S0 = E at *
   have HE := Lib.hid hE
   clear hE
   obtain ⟨A2, c2, rfl⟩ := HO2.out.form
   refine (HC1.out W2 (HX.out.below HB2.out)).mono ?_
   rintro e w3 ⟨v3, rfl, h1, h2⟩
   obtain ⟨A3, c3, rfl⟩ := h1.form
   have H3 := Lib.hid (And.intro (HB2.out.trans (h2.mono HB2.out.size)) (And.intro (HO2.out.keep h2) h1.bys))
   have hsz3 := H3.out.1.size
   clear h1 h2
   go_wp2_with (at_builtin; (refine wpList_append_any rfl (.tmp 16) (.tmp 20) 26 rfl w.heap.size 5 i0 (.int .u8 0) 1 1 Tryz.underlying26 hi0 hz0 hz1 hz2 rfl (by decide) _ _ _ rfl H3.out.2.1.any _ S1.length (bys S1) rfl H3.out.2.2.news (by have := HL1.out; unfold maxLen; omega) (by have := HL1.out; omega) hsz3 ?_); intro v4 W4 hown4 hgrow4; have HB4 : Hid (Below w.heap.size w W4) := Lib.hid (H3.out.1.grown hgrow4 hsz3 (fun k e => OwnB.ge H3.out.2.1 e)); have HO4 : Hid (OwnB W4 w.heap.size v4 (E ++ S1)) := Lib.hid (OwnB.append rfl hown4); clear hown4 hgrow4)
   go_roundw
   case rel => exact ⟨j + 1, by go_num, by omega, Lib.hid ⟨HB4.out, by rw [HACC.out]; have := HO4.out; rwa [← HE.out] at this⟩⟩
   case measure => simp [intOf]; omega
  ·obtain rfl : j = 32 := by omega
   have HB := Lib.hid HI.out.1
   have hle : (pubAcc seed key 32).length ≤ 2048 := by omega
   clear hlen
   generalize pubAcc seed key 32 = PA at *
   have hsz := HI.out.1.size
   obtain ⟨A5, c5, rfl⟩ := HI.out.2.form
   have HT := Lib.hid (rtag_any 12 12 rfl _ [PA] (by simp; omega) (by simp) _ (new1 26 (b := wr.heap.size) rfl HI.out.2.bys))
   rw [← HPS.out] at HT
   have hal := (Below.refl wr.heap.size wr).alloc (Nat.le_refl _) (.cells #[.slice A5 PA.length c5] 26)
   go_wp2_with fail
   refine HT.out.mono ?_
   rintro e w2 ⟨v2, rfl, h1, h2⟩
   have H2 := Lib.hid (And.intro h1 (hal.trans (h2.mono (by simp))))
   clear h1 h2 hal
   go_wp2
   go_ret
   exact ⟨_, rfl, own_mono' H2.out.1 (by simp; omega), HB.out.trans (H2.out.2.mono hsz)⟩

def bitS (d : Int) (j : Nat) : Int := wrap64 (bits .and .u32 (d / 2 ^ (31 - j)) 1)
def partS (seed : List UInt8) (key d : Int) (j s : Nat) : List UInt8 := if (bitS d j == (s : Int)) = true then secretS seed key j s else shownS seed key j s
theorem partS_length (seed : List UInt8) (key d : Int) (j s : Nat) : (partS seed key d j s).length = 32 := by
 unfold partS
 split
 ·exact secretS_length _ _ _ _
 ·exact shownS_length _ _ _ _
def sigAcc (seed : List UInt8) (key d : Int) : Nat → List (List UInt8)
 | 0 => []
 | n + 1 => sigAcc seed key d n ++ [partS seed key d (n / 2) (n % 2)]
theorem sigAcc_length (seed : List UInt8) (key d : Int) (n : Nat) : (sigAcc seed key d n).length = n := by
 induction n with
 | zero => rfl
 | succ n ih => show (sigAcc seed key d n ++ [_]).length = _; rw [List.length_append, ih]; rfl
def partsS (seed : List UInt8) (key : Int) (msg : List UInt8) : List (List UInt8) := sigAcc seed key (digS msg) 64
theorem partsS_length (seed : List UInt8) (key : Int) (msg : List UInt8) : (partsS seed key msg).length = 64 := sigAcc_length _ _ _ _
def RetR (w : World) (ls : List (List UInt8)) (e : Ending) (w' : World) : Prop := ∃ v', e = .returned v' ∧ OwnR w' w.heap.size v' ls ∧ Below w.heap.size w w'
theorem retr_push {wr w1 W : World} {B : Nat} {v : Value} {ls : List (List UInt8)} {x : List UInt8} {A1 : Option Addr} {c1 g cap : Nat}
  (hO : OwnR wr B v ls) (hsz : B ≤ wr.heap.size) (hb : Below wr.heap.size wr w1) (hx : OwnB w1 wr.heap.size (.slice A1 x.length c1) x)
  {us : List Value} (hu : ∀ i (h : i < ls.length), ∃ u, us[i]? = some u ∧ Bys w1 u ls[i] ∧ (0 < ls[i].length → u.ownBlock ≠ v.ownBlock ∧ ∀ g, u.ownBlock = some g → B ≤ g)) (hl : us.length = ls.length)
  (ho : W.ownsRow B 26 1 (.slice (some ⟨g, 0, none⟩) (ls.length + 1) cap) (ls.length + 1) (us ++ [.slice A1 x.length c1])) (hg : (w1.alloc (.cells #[.slice A1 x.length c1] 26)).grownBy W v.ownBlock) (hlie : v.ownBlock = some g ∨ g = w1.heap.size + 1) :
  OwnR W B (.slice (some ⟨g, 0, none⟩) (ls.length + 1) cap) (ls ++ [x]) ∧ Below B wr W := by
 refine ⟨OwnR.push hu hl hx.bys (fun h0 => ⟨fun e => ?_, fun g hg => Nat.le_trans hsz (hx.ge hg)⟩) ho hg hlie, ?_⟩
 ·cases hq : v.ownBlock with
  | none =>
   rw [hq] at e
   obtain ⟨g', o', e1, _⟩ := hx.bys.place h0
   subst e1
   cases e
  | some q =>
   have h1 := hO.lt hq
   rw [hq] at e
   have h2 := hx.ge e
   omega
 ·exact (hb.mono hsz).trans (((Below.refl B w1).alloc (Nat.le_trans hsz hb.size) _).grown hg (by have := hb.size; simp; omega) (fun k e => hO.ge e))

set_option maxRecDepth 100000 in
set_option maxHeartbeats 2000000 in
theorem rsign_any (v u : Value) (seed msg : List UInt8) (key : Int) (hk : 0 ≤ key ∧ key < 1000) (hsm : seed.length ≤ 1000000000) (hsm2 : msg.length ≤ 1000000000) (w : World) (hx : Bys w v seed) (hy : Bys w u msg) :
  Calls Tryz.prog 50 #[v, .int .i64 key, u] w (RetR w (partsS seed key msg)) := by
 obtain ⟨i0, hi0, hz0, hz1, hz2⟩ := info_parts info_bytes
 obtain ⟨A, c, rfl⟩ := hx.form
 obtain ⟨B, d, rfl⟩ := hy.form
 have HX := Lib.hid (And.intro hx hy)
 have HPS : Hid (partsS seed key msg = sigAcc seed key (digS msg) 64) := Lib.hid rfl
 generalize partsS seed key msg = PS at *
 clear hx hy
 go_enter Tryz.func50, Tryz.ntmps50
 go_wp2_with fail
 refine (rdigest_any _ msg hsm2 w HX.out.2).mono ?_
 rintro e w1 ⟨rfl, h1⟩
 have H1 := Lib.hid h1
 generalize digS msg = D at *
 clear h1
 go_wp2
 go_loopw [8, 9] (fun v8 v9 wr => ∃ j : Nat, v9 = .int .i64 j ∧ j ≤ 32 ∧ Hid (Below w.heap.size w wr ∧ OwnR wr w.heap.size v8 (sigAcc seed key D (2 * j)))) (fun _ v _ => 32 - (intOf v).toNat)
 case atStart => exact ⟨0, rfl, by decide, Lib.hid ⟨H1.out, OwnR.nil _ _⟩⟩
 case round =>
  obtain ⟨j, rfl, hj, HI⟩ := hrel
  by_cases hlt : j < 32
  ·have es : IntKind.i64.wrap (31 - (j : Int)) = 31 - (j : Int) := IntWalk.i64_in _ (by omega)
   have hdj : decide ((j : Int) < 32) = true := by simp; omega
   go_wp2
   go_loopw [8, 10] (fun v8 v10 wr => ∃ s : Nat, v10 = .int .i64 s ∧ s ≤ 2 ∧ Hid (Below w.heap.size w wr ∧ OwnR wr w.heap.size v8 (sigAcc seed key D (2 * j + s)))) (fun _ v _ => 2 - (intOf v).toNat)
   case atStart => exact ⟨0, rfl, by decide, HI⟩
   case round =>
    clear HI
    obtain ⟨s, rfl, hs, HJ⟩ := hrel
    by_cases hlt2 : s < 2
    ·have HSEC := Lib.hid (fun (wz : World) (hz : Bys wz (.slice A seed.length c) seed) => rsecret_any (.slice A seed.length c) seed key j s hk (by omega) (by omega) hsm wz hz)
     have HSHO := Lib.hid (fun (wz : World) (hz : Bys wz (.slice A seed.length c) seed) => rshown_any (.slice A seed.length c) seed key j s hk (by omega) (by omega) hsm wz hz)
     have HACC : Hid (sigAcc seed key D (2 * j + s + 1) = sigAcc seed key D (2 * j + s) ++ [partS seed key D j s]) := Lib.hid (by
      show sigAcc seed key D (2 * j + s) ++ [partS seed key D ((2 * j + s) / 2) ((2 * j + s) % 2)] = _
      rw [show (2 * j + s) / 2 = j by omega, show (2 * j + s) % 2 = s by omega])
     have hal : (sigAcc seed key D (2 * j + s)).length ≤ 100 := by rw [sigAcc_length]; omega
     have HPART : Hid (partS seed key D j s = if (bitS D j == (s : Int)) = true then secretS seed key j s else shownS seed key j s) := Lib.hid rfl
     have ebit : wrap64 (bits BinOp.and IntKind.u32 (D / 2 ^ (31 - j)) 1) = bitS D j := rfl
     have hl1 := Lib.hid (secretS_length seed key j s)
     have hl2 := Lib.hid (shownS_length seed key j s)
     generalize partS seed key D j s = PT at *
     generalize secretS seed key j s = SE at *
     generalize shownS seed key j s = SH at *
     generalize bitS D j = BI at *
     generalize sigAcc seed key D (2 * j + s) = L at *
     have hsz := HJ.out.1.size
     obtain ⟨A8, c8, rfl⟩ := HJ.out.2.rws.form
     by_cases hbit : (BI == (s : Int)) = true
     ·have HPT : Hid (PT = SE) := Lib.hid (by rw [HPART.out, if_pos hbit])
      go_wp2_with fail
      refine (HSEC.out wr (HX.out.1.below HJ.out.1)).mono ?_
      rintro e w2 ⟨v2, rfl, h1, h2⟩
      obtain ⟨A2, c2, rfl⟩ := h1.form
      obtain ⟨us, hu1, hu2⟩ := HJ.out.2.keep h2
      have H2 := Lib.hid (And.intro h1 (And.intro h2 (And.intro hu1 hu2)))
      have hsz2 := h2.size
      clear h1 h2 hu1 hu2
      go_wp2_with (at_builtin; (refine wpList_append_lies _ rfl (.tmp 30) (.tmp 36) 27 rfl w.heap.size 26 i0 (.slice none 0 0) 1 24 Tryz.underlying27 hi0 hz0 hz1 hz2 rfl (by decide) _ L.length us rfl (World.ownsRow.alloc H2.out.2.2.1 _) ⟨w2.heap.size, 0, none⟩ 1 1 [.slice A2 SE.length c2] rfl rfl (World.news_of_block (blk_new _ _)) (by simp [Value.oneCell']) (by decide) (by unfold maxLen; omega) (by omega) (by simp; omega) (w2.heap.size + 1) (by simp) ?_); intro g3 c3 W3 hown3 hgrow3 hlie3 hlt3)
      have HR3 := Lib.hid (retr_push HJ.out.2 hsz H2.out.2.1 H2.out.1 H2.out.2.2.2 (by have := H2.out.2.2.1.1; omega) hown3 hgrow3 hlie3)
      go_roundw
      case rel => exact ⟨s + 1, by go_num, by omega, Lib.hid ⟨HJ.out.1.trans HR3.out.2, by rw [← Nat.add_assoc, HACC.out, HPT.out]; exact HR3.out.1⟩⟩
      case measure => simp [intOf]; omega
     ·have hbf : (BI == (s : Int)) = false := by simpa using hbit
      have HPT : Hid (PT = SH) := Lib.hid (by rw [HPART.out, if_neg hbit])
      have HBIT := Lib.hid hbit
      clear hbit
      go_wp2_with fail
      refine (HSHO.out wr (HX.out.1.below HJ.out.1)).mono ?_
      rintro e w2 ⟨v2, rfl, h1, h2⟩
      obtain ⟨A2, c2, rfl⟩ := h1.form
      obtain ⟨us, hu1, hu2⟩ := HJ.out.2.keep h2
      have H2 := Lib.hid (And.intro h1 (And.intro h2 (And.intro hu1 hu2)))
      have hsz2 := h2.size
      clear h1 h2 hu1 hu2
      go_wp2_with (at_builtin; (refine wpList_append_lies _ rfl (.tmp 38) (.tmp 44) 27 rfl w.heap.size 26 i0 (.slice none 0 0) 1 24 Tryz.underlying27 hi0 hz0 hz1 hz2 rfl (by decide) _ L.length us rfl (World.ownsRow.alloc H2.out.2.2.1 _) ⟨w2.heap.size, 0, none⟩ 1 1 [.slice A2 SH.length c2] rfl rfl (World.news_of_block (blk_new _ _)) (by simp [Value.oneCell']) (by decide) (by unfold maxLen; omega) (by omega) (by simp; omega) (w2.heap.size + 1) (by simp) ?_); intro g3 c3 W3 hown3 hgrow3 hlie3 hlt3)
      have HR3 := Lib.hid (retr_push HJ.out.2 hsz H2.out.2.1 H2.out.1 H2.out.2.2.2 (by have := H2.out.2.2.1.1; omega) hown3 hgrow3 hlie3)
      go_roundw
      case rel => exact ⟨s + 1, by go_num, by omega, Lib.hid ⟨HJ.out.1.trans HR3.out.2, by rw [← Nat.add_assoc, HACC.out, HPT.out]; exact HR3.out.1⟩⟩
      case measure => simp [intOf]; omega
    ·obtain rfl : s = 2 := by omega
     go_wp2
     go_roundw
     case rel => exact ⟨j + 1, by go_num, by omega, HJ⟩
     case measure => simp [intOf]; omega
  ·obtain rfl : j = 32 := by omega
   go_wp2
   go_ret
   exact ⟨_, rfl, by rw [HPS.out]; exact HI.out.2, HI.out.1⟩
def rootPart (d : Int) (i : Nat) (p : List UInt8) : List UInt8 := if (bitS d (i / 2) == ((i % 2 : Nat) : Int)) = true then tagH 11 [p] else p
def rootAcc (d : Int) (ls : List (List UInt8)) : Nat → List UInt8
 | 0 => []
 | i + 1 => rootAcc d ls i ++ rootPart d i (ls.getD i [])
def rootS (msg : List UInt8) (ls : List (List UInt8)) : List UInt8 := tagH 12 [rootAcc (digS msg) ls 64]
theorem rootPart_length (d : Int) (i : Nat) (p : List UInt8) (h : p.length = 32) : (rootPart d i p).length = 32 := by
 unfold rootPart
 split
 ·exact tagH_length _ _
 ·exact h
set_option maxRecDepth 100000 in
set_option maxHeartbeats 2000000 in
theorem rroot_any (v u : Value) (msg : List UInt8) (ls : List (List UInt8)) (h64 : ls.length = 64) (h32 : ∀ i (h : i < ls.length), ls[i].length = 32) (hsm : msg.length ≤ 1000000000) (w : World) (hx : Bys w v msg) (hy : Rws w u ls) :
  Calls Tryz.prog 90 #[v, u] w fun e w' => ∃ v', e = .returned (.tuple #[v', .bool true]) ∧ OwnB w' w.heap.size v' (rootS msg ls) ∧ Below w.heap.size w w' := by
 obtain ⟨i0, hi0, hz0, hz1, hz2⟩ := info_parts info_u8
 obtain ⟨A, c, rfl⟩ := hx.form
 obtain ⟨B, d, rfl⟩ := hy.form
 have HX := Lib.hid (And.intro hx hy)
 have H64 := Lib.hid h64
 have H32 := Lib.hid h32
 have HRS : Hid (rootS msg ls = tagH 12 [rootAcc (digS msg) ls 64]) := Lib.hid rfl
 generalize rootS msg ls = RS at *
 have hne : (((ls.length : Nat) : Int) != 64) = false := by simp [h64]
 clear hx hy h64 h32
 go_enter Tryz.func90, Tryz.ntmps90
 go_wp2_with fail
 refine (rdigest_any _ msg hsm w HX.out.1).mono ?_
 rintro e w1 ⟨rfl, h1⟩
 have H1 := Lib.hid h1
 generalize digS msg = D at *
 clear h1 hne
 go_wp2
 go_loopw [7, 8] (fun v7 v8 wr => ∃ i : Nat, v8 = .int .i64 i ∧ i ≤ ls.length ∧ Hid (Below w.heap.size w wr ∧ OwnB wr w.heap.size v7 (rootAcc D ls i) ∧ (rootAcc D ls i).length = 32 * i)) (fun _ v _ => ls.length - (intOf v).toNat)
 case atStart => exact ⟨0, rfl, Nat.zero_le _, Lib.hid ⟨H1.out, World.ownsRow_nil _ _ _ _, rfl⟩⟩
 case round =>
  obtain ⟨i, rfl, hi, HI⟩ := hrel
  by_cases hlt : i < ls.length
  ·have hi64 : i < 64 := by have := H64.out; omega
   obtain ⟨g, o, up, rfl, hg, -, -, hcu, hbu⟩ := HX.out.2.at' i hlt
   have p0 := (HI.out.1.cell (p := ⟨g, o + i, none⟩) hg).trans hcu
   have HBU := hbu.below HI.out.1
   obtain ⟨A9, c9, rfl⟩ := HBU.form
   have HU := Lib.hid HBU
   have HL := Lib.hid (H32.out i hlt)
   have HACC : Hid (rootAcc D ls (i + 1) = rootAcc D ls i ++ rootPart D i ls[i]) := Lib.hid (by
    show rootAcc D ls i ++ rootPart D i (ls.getD i []) = _
    rw [List.getD_eq_getElem?_getD, List.getElem?_eq_getElem hlt]; rfl)
   have HPART : Hid (rootPart D i ls[i] = if (bitS D (i / 2) == ((i % 2 : Nat) : Int)) = true then tagH 11 [ls[i]] else ls[i]) := Lib.hid rfl
   have hpl := Lib.hid (rootPart_length D i ls[i] HL.out)
   have hnl : (((ls[i].length : Nat) : Int) != 32) = false := by simp [HL.out]
   have hal : (rootAcc D ls i).length ≤ 10000 := by have := HI.out.2.2; omega
   have ebit : wrap64 (bits BinOp.and IntKind.u32 (D / 2 ^ (31 - i / 2)) 1) = bitS D (i / 2) := rfl
   have HTG := Lib.hid (fun (wz : World) (hz : Bys wz (.slice A9 ls[i].length c9) ls[i]) => rtag_any 11 11 rfl _ [ls[i]] (by simp; have := HL.out; omega) (by simp) _ (new1 26 (b := wz.heap.size) rfl hz))
   have htl := Lib.hid (tagH_length 11 [ls[i]])
   clear hcu hbu HBU
   generalize rootPart D i ls[i] = PT at *
   generalize tagH 11 [ls[i]] = TG at *
   generalize ls[i] = P at *
   generalize bitS D (i / 2) = BI at *
   have hsz := HI.out.1.size
   obtain ⟨A7, c7, rfl⟩ := HI.out.2.1.form
   have HII := Lib.hid HI.out
   generalize rootAcc D ls i = RA at *
   by_cases hbit : (BI == (i : Int) % 2) = true
   ·have HPT : Hid (PT = TG) := Lib.hid (by rw [HPART.out, if_pos (by simpa using hbit)])
    go_wp2_with fail
    have hal1 := (Below.refl wr.heap.size wr).alloc (Nat.le_refl _) (.cells #[.slice A9 P.length c9] 26)
    refine (HTG.out wr HU.out).mono ?_
    rintro e w2 ⟨v2, rfl, h1, h2⟩
    obtain ⟨A2, c2, rfl⟩ := h1.form
    have hb2 := hal1.trans (h2.mono (by simp))
    have H2 := Lib.hid (And.intro (HI.out.1.trans (hb2.mono hsz)) (And.intro (HI.out.2.1.keep hb2) h1.bys))
    have hsz2 := H2.out.1.size
    clear h1 h2 hb2 hal1
    go_wp2_with (at_builtin; (refine wpList_append_any rfl (.tmp 45) (.tmp 46) 26 rfl w.heap.size 5 i0 (.int .u8 0) 1 1 Tryz.underlying26 hi0 hz0 hz1 hz2 rfl (by decide) _ _ _ rfl H2.out.2.1.any _ TG.length (bys TG) rfl H2.out.2.2.news (by have := htl.out; unfold maxLen; omega) (by have := htl.out; omega) hsz2 ?_); intro v4 W4 hown4 hgrow4)
    have HB4 : Hid (Below w.heap.size w W4) := Lib.hid (H2.out.1.grown hgrow4 hsz2 (fun k e => OwnB.ge H2.out.2.1 e))
    have HO4 : Hid (OwnB W4 w.heap.size v4 (RA ++ TG)) := Lib.hid (OwnB.append rfl hown4)
    go_roundw
    case rel => exact ⟨i + 1, by go_num, by omega, Lib.hid ⟨HB4.out, by rw [HACC.out, HPT.out]; exact HO4.out, by rw [HACC.out, HPT.out, List.length_append, HI.out.2.2, htl.out]; omega⟩⟩
    case measure => simp [intOf]; omega
   ·have hbf : (BI == (i : Int) % 2) = false := by simpa using hbit
    have HPT : Hid (PT = P) := Lib.hid (by rw [HPART.out, if_neg (by simpa using hbit)])
    have HBIT := Lib.hid hbit
    clear hbit
    go_wp2_with (at_builtin; (refine wpList_append_any rfl (.tmp 45) (.tmp 46) 26 rfl w.heap.size 5 i0 (.int .u8 0) 1 1 Tryz.underlying26 hi0 hz0 hz1 hz2 rfl (by decide) _ _ _ rfl HI.out.2.1.any _ P.length (bys P) rfl HU.out.news (by have := HL.out; unfold maxLen; omega) (by have := HL.out; omega) hsz ?_); intro v4 W4 hown4 hgrow4)
    have HB4 : Hid (Below w.heap.size w W4) := Lib.hid (HI.out.1.grown hgrow4 hsz (fun k e => OwnB.ge HI.out.2.1 e))
    have HO4 : Hid (OwnB W4 w.heap.size v4 (RA ++ P)) := Lib.hid (OwnB.append rfl hown4)
    go_roundw
    case rel => exact ⟨i + 1, by go_num, by omega, Lib.hid ⟨HB4.out, by rw [HACC.out, HPT.out]; exact HO4.out, by rw [HACC.out, HPT.out, List.length_append, HI.out.2.2, HL.out]; omega⟩⟩
    case measure => simp [intOf]; omega
  ·have hi64 : Hid (i = 64) := Lib.hid (by have := H64.out; omega)
   have HB := Lib.hid HI.out.1
   have hsz := HI.out.1.size
   have hrl : (rootAcc D ls i).length ≤ 10000 := by have := HI.out.2.2; have := hi64.out; omega
   have HRA : Hid (rootAcc D ls i = rootAcc D ls 64) := Lib.hid (by rw [hi64.out])
   obtain ⟨A7, c7, rfl⟩ := HI.out.2.1.form
   have HO := Lib.hid HI.out.2.1
   generalize rootAcc D ls i = RA at *
   have HT := Lib.hid (rtag_any 12 12 rfl _ [RA] (by simp; omega) (by simp) _ (new1 26 (b := wr.heap.size) rfl HO.out.bys))
   rw [HRA.out, ← HRS.out, ← HRA.out] at HT
   have hal := (Below.refl wr.heap.size wr).alloc (Nat.le_refl _) (.cells #[.slice A7 RA.length c7] 26)
   go_wp2_with fail
   refine HT.out.mono ?_
   rintro e w2 ⟨v2, rfl, h1, h2⟩
   have H2 := Lib.hid (And.intro h1 (hal.trans (h2.mono (by simp))))
   clear h1 h2 hal
   go_wp2
   go_ret2
   exact ⟨_, rfl, own_mono' H2.out.1 (by simp; omega), HB.out.trans (H2.out.2.mono hsz)⟩
set_option maxRecDepth 100000 in
set_option maxHeartbeats 1000000 in
theorem pdigest_any (v : Value) (msg : List UInt8) (hsm : msg.length ≤ 1000000000) (w : World) (hx : Bys w v msg) :
  Calls Tryz.prog 96 #[v] w fun e w' => e = .returned (.int .u32 (digS msg)) ∧ Below w.heap.size w w' := by
 obtain ⟨A, c, rfl⟩ := hx.form
 have HX := Lib.hid hx
 clear hx
 have hL := tagH_length 13 [msg]
 have HD : Hid (digS msg = wordAt (tagH 13 [msg]) 0 4) := Lib.hid rfl
 generalize digS msg = DS at *
 generalize hTE : tagH 13 [msg] = T at *
 have HTE := Lib.hid hTE
 clear hTE
 go_enter Tryz.func96, Tryz.ntmps96
 have hal := (Below.refl w.heap.size w).alloc (Nat.le_refl _) (.cells #[.slice A msg.length c] 26)
 go_wp2_with fail
 have HT := Lib.hid (ptag_any 13 13 rfl _ [msg] (by simp; omega) (by simp) _ (new1 26 (b := w.heap.size) rfl HX.out))
 rw [HTE.out] at HT
 refine HT.out.mono ?_
 rintro e w1 ⟨v1, rfl, h1, h2⟩
 obtain ⟨A1, c1, rfl⟩ := h1.form
 obtain ⟨g, o, rfl, -, hg, hc1, -, hcells⟩ := h1.bys.place (by omega)
 have H1 := Lib.hid (hal.trans (h2.mono (by simp)))
 have HC : Hid (∀ k, k < 4 → ∃ x : Nat, x < 256 ∧ w1.cell? ⟨g, o + k, none⟩ = some (.int .u8 x) ∧ wordAt T 0 (k + 1) = bits .or .u32 (wordAt T 0 k * 256 % 4294967296) x) := Lib.hid (fun k hk => by
  have hkT : k < T.length := by omega
  refine ⟨T[k].toNat, T[k].toNat_lt, hcells k hkT, ?_⟩
  have := wordAt_succ T 0 k (by omega)
  simpa using this)
 have HLT := Lib.hid hL
 have hc4 : (4 : Int) ≤ (c1 : Int) := by omega
 have hw0 : Hid (wordAt T 0 0 = 0) := Lib.hid (by simp [wordAt])
 clear HT h1 h2 hal hcells hL
 generalize T.length = TL at *
 go_wp2
 go_loopw [3, 11] (fun v3 v11 wr => ∃ k : Nat, v3 = .int .u32 (wordAt T 0 k) ∧ v11 = .int .i64 k ∧ k ≤ 4 ∧ Hid (Below w1.heap.size w1 wr)) (fun _ v _ => 4 - (intOf v).toNat)
 case atStart => exact ⟨0, by rw [hw0.out], rfl, by decide, Lib.hid (Below.refl _ _)⟩
 case round =>
  obtain ⟨k, rfl, rfl, hk, HI⟩ := hrel
  by_cases hlt : k < 4
  ·obtain ⟨x, hx, hc, hw⟩ := HC.out k hlt
   have p0 := (HI.out.cell (p := ⟨g, o + k, none⟩) hg).trans hc
   have HWS := Lib.hid hw
   have ex : ((x : Nat) : Int) % 4294967296 = (x : Nat) := by omega
   clear hc hw
   generalize wordAt T 0 k = X at *
   go_wp2
   go_roundw
   case rel => exact ⟨k + 1, by rw [HWS.out], by go_num, by omega, HI⟩
   case measure => simp [intOf]; omega
  ·obtain rfl : k = 4 := by omega
   go_wp2
   go_ret
   exact ⟨by rw [HD.out]; rfl, H1.out.trans (HI.out.mono H1.out.size)⟩

theorem told_any (d : Int) (j : Nat) (s : Int) (hj : j < 32) (w : World) :
  Calls Tryz.prog 97 #[.int .u32 d, .int .i64 j, .int .i64 s] w fun e w' => e = .returned (.bool (bitS d j == s)) ∧ w = w' := by
 have es : IntKind.i64.wrap (31 - (j : Int)) = 31 - (j : Int) := IntWalk.i64_in _ (by omega)
 have et : (31 - (j : Int)).toNat = 31 - j := by omega
 have HB : Hid (bitS d j = wrap64 (bits .and .u32 (d / 2 ^ (31 - j)) 1)) := Lib.hid rfl
 go_enter Tryz.func97, Tryz.ntmps97
 go_wp2
 go_ret
 exact ⟨by rw [HB.out]; rfl, rfl⟩
structure SigD where
 index : Int
 parts : List (List UInt8)
 path : List (List UInt8)
def SigV (w : World) (v : Value) (s : SigD) : Prop := ∃ p q, v = .agg #[.int .i64 s.index, p, q] ∧ Rws w p s.parts ∧ Rws w q s.path
def len32 (l : List UInt8) : Bool := l.length == 32
def rightB (s : SigD) : Bool := (decide (0 ≤ s.index) && decide (s.index < 16) && decide (s.parts.length = 64) && decide (s.path.length = 4)) && (s.parts.all len32 && s.path.all len32)
theorem rightB_facts {s : SigD} (h : rightB s = true) : 0 ≤ s.index ∧ s.index < 16 ∧ s.parts.length = 64 ∧ s.path.length = 4 ∧ (∀ i (h : i < s.parts.length), s.parts[i].length = 32) ∧ ∀ i (h : i < s.path.length), s.path[i].length = 32 := by
 simp only [rightB, Bool.and_eq_true, decide_eq_true_eq, List.all_eq_true, len32, beq_iff_eq] at h
 obtain ⟨⟨⟨⟨h1, h2⟩, h3⟩, h4⟩, h5, h6⟩ := h
 exact ⟨h1, h2, h3, h4, fun i hi => h5 _ (List.getElem_mem hi), fun i hi => h6 _ (List.getElem_mem hi)⟩
theorem all32_not {ls : List (List UInt8)} (i : Nat) (h : i < ls.length) (hn : ls[i].length ≠ 32) : ls.all len32 = false := by
 rw [List.all_eq_false]
 exact ⟨_, List.getElem_mem h, by simp [len32, hn]⟩
theorem all32_of {ls : List (List UInt8)} (h : ∀ i (h : i < ls.length), ls[i].length = 32) : ls.all len32 = true := by
 rw [List.all_eq_true]
 intro x hx
 obtain ⟨i, hi, rfl⟩ := List.getElem_of_mem hx
 simp [len32, h i hi]

set_option maxRecDepth 100000 in
set_option maxHeartbeats 2000000 in
theorem rright_any (v : Value) (s : SigD) (hp : s.parts.length ≤ 1000000000) (hq : s.path.length ≤ 1000000000) (hl : ∀ i (h : i < s.parts.length), s.parts[i].length ≤ 1000000000) (hl2 : ∀ i (h : i < s.path.length), s.path[i].length ≤ 1000000000) (w : World) (hv : SigV w v s) :
  Calls Tryz.prog 89 #[v] w fun e w' => e = .returned (.bool (rightB s)) ∧ Below w.heap.size w w' := by
 obtain ⟨p, q, rfl, h1, h2⟩ := hv
 obtain ⟨P, cp, rfl⟩ := h1.form
 obtain ⟨Q, cq, rfl⟩ := h2.form
 have HB0 := Lib.hid ((Below.refl w.heap.size w).alloc (Nat.le_refl _) (.cells #[.int .i64 s.index, .slice P s.parts.length cp, .slice Q s.path.length cq] 38))
 have HR := Lib.hid (And.intro h1 h2)
 have HL := Lib.hid (And.intro hl hl2)
 have HRB : Hid (rightB s = ((decide (0 ≤ s.index) && decide (s.index < 16) && decide (s.parts.length = 64) && decide (s.path.length = 4)) && (s.parts.all len32 && s.path.all len32))) := Lib.hid rfl
 clear h1 h2 hl hl2
 generalize rightB s = RB at *
 generalize s.index = ix at *
 generalize s.parts = Ps at *
 generalize s.path = Qs at *
 go_enter Tryz.func89, Tryz.ntmps89
 by_cases hok : 0 ≤ ix ∧ ix < 16 ∧ Ps.length = 64 ∧ Qs.length = 4
 ·obtain ⟨k1, k2, k3, k4⟩ := hok
  have HK := Lib.hid (And.intro k3 k4)
  have HRB2 : Hid (RB = (Ps.all len32 && Qs.all len32)) := Lib.hid (by rw [HRB.out]; simp [k1, k2, k3, k4])
  have n3 : (((Ps.length : Nat) : Int) != 64) = false := by simp [k3]
  have n4 : (((Qs.length : Nat) : Int) != 4) = false := by simp [k4]
  clear k3 k4
  have HX2 : Hid (Blk ((w.alloc (.cells #[.int .i64 ix, .slice P Ps.length cp, .slice Q Qs.length cq] 38)).alloc (.cells #[.slice P Ps.length cp, .slice Q Qs.length cq] 27)) (w.heap.size + 1) 27 [.slice P Ps.length cp, .slice Q Qs.length cq]) := Lib.hid (blk2 w _ _ _ _ _ rfl).2.2
  go_wp2
  go_loopw [32] (fun v32 wr => ∃ k : Nat, v32 = .int .i64 k ∧ k ≤ 2 ∧ Hid (Below w.heap.size w wr ∧ Blk wr (w.heap.size + 1) 27 [.slice P Ps.length cp, .slice Q Qs.length cq] ∧ (1 ≤ k → Ps.all len32 = true) ∧ (2 ≤ k → Qs.all len32 = true))) (fun v _ => 2 - (intOf v).toNat)
  case atStart => exact ⟨0, rfl, by decide, Lib.hid ⟨HB0.out.alloc (by simp) _, HX2.out, fun h => by omega, fun h => by omega⟩⟩
  case round =>
   obtain ⟨k, rfl, hk, HI⟩ := hrel
   by_cases hlt : k < 2
   ·obtain ⟨A, c, L, hc, HL2⟩ : ∃ A c L, wr.cell? ⟨w.heap.size + 1, k, none⟩ = some (.slice A (List.length L) c) ∧ Hid (Rws w (.slice A (List.length L) c) L ∧ L.length ≤ 1000000000 ∧ (∀ i (h : i < L.length), L[i].length ≤ 1000000000) ∧ ((k = 0 ∧ L = Ps) ∨ (k = 1 ∧ L = Qs))) := by
     obtain rfl | rfl : k = 0 ∨ k = 1 := by omega
     ·exact ⟨P, cp, Ps, HI.out.2.1.cell 0 _ rfl, Lib.hid ⟨HR.out.1, hp, HL.out.1, .inl ⟨rfl, rfl⟩⟩⟩
     ·exact ⟨Q, cq, Qs, HI.out.2.1.cell 1 _ rfl, Lib.hid ⟨HR.out.2, hq, HL.out.2, .inr ⟨rfl, rfl⟩⟩⟩
    have hLm : L.length ≤ 1000000000 := HL2.out.2.1
    go_wp2
    go_loopw [5] (fun v5 wr => ∃ i : Nat, v5 = .int .i64 i ∧ i ≤ L.length ∧ Hid (Below w.heap.size w wr ∧ Blk wr (w.heap.size + 1) 27 [.slice P Ps.length cp, .slice Q Qs.length cq] ∧ ∀ j (h : j < L.length), j < i → L[j].length = 32)) (fun v _ => L.length - (intOf v).toNat)
    case atStart => exact ⟨0, rfl, Nat.zero_le _, Lib.hid ⟨HI.out.1, HI.out.2.1, fun j h hj => by omega⟩⟩
    case round =>
     obtain ⟨i, rfl, hi, HJ⟩ := hrel
     by_cases hlt2 : i < L.length
     ·obtain ⟨g, o, u, rfl, hg, -, -, hcu, hbu⟩ := HL2.out.1.at' i hlt2
      have p0 := (HJ.out.1.cell (p := ⟨g, o + i, none⟩) hg).trans hcu
      obtain ⟨A9, c9, rfl⟩ := hbu.form
      have hl9 := HL2.out.2.2.1 i hlt2
      clear hcu hbu hc
      by_cases h32 : L[i].length = 32
      ·have hnl : (((L[i].length : Nat) : Int) != 32) = false := by simp [h32]
       have H32 := Lib.hid h32
       clear h32
       go_wp2
       go_roundw
       case rel => exact ⟨i + 1, by go_num, by omega, Lib.hid ⟨HJ.out.1, HJ.out.2.1, fun j h hj => by
        by_cases e : j = i
        ·subst e; exact H32.out
        ·exact HJ.out.2.2 j h (by omega)⟩⟩
       case measure => simp [intOf]; omega
      ·have hnl : (((L[i].length : Nat) : Int) != 32) = true := by simp; omega
       have HF : Hid (RB = false) := Lib.hid (by
        rw [HRB2.out]
        have := all32_not i hlt2 h32
        rcases HL2.out.2.2.2 with ⟨_, rfl⟩ | ⟨_, rfl⟩
        ·rw [this]; rfl
        ·rw [this, Bool.and_false])
       have H32 := Lib.hid h32
       clear h32
       go_wp2
       go_ret
       exact ⟨by rw [HF.out]; rfl, HJ.out.1⟩
     ·have HA : Hid (L.all len32 = true) := Lib.hid (all32_of (fun j h => HJ.out.2.2 j h (by omega)))
      go_wp2
      go_roundw
      case rel => exact ⟨k + 1, by go_num, by omega, Lib.hid ⟨HJ.out.1, HJ.out.2.1, fun h => by
       rcases HL2.out.2.2.2 with ⟨rfl, rfl⟩ | ⟨rfl, rfl⟩
       ·exact HA.out
       ·exact HI.out.2.2.1 (Nat.le_refl _), fun h => by
       rcases HL2.out.2.2.2 with ⟨rfl, rfl⟩ | ⟨rfl, rfl⟩
       ·omega
       ·exact HA.out⟩⟩
      case measure => simp [intOf]; omega
   ·obtain rfl : k = 2 := by omega
    have HT : Hid (RB = true) := Lib.hid (by rw [HRB2.out, HI.out.2.2.1 (by decide), HI.out.2.2.2 (Nat.le_refl _)]; rfl)
    go_wp2
    go_ret
    exact ⟨by rw [HT.out]; rfl, HI.out.1⟩
 ·have HF : Hid (RB = false) := Lib.hid (by
   rw [HRB.out]
   have : (decide (0 ≤ ix) && decide (ix < 16) && decide (Ps.length = 64) && decide (Qs.length = 4)) = false := by
    rw [Bool.eq_false_iff]
    intro h
    simp only [Bool.and_eq_true, decide_eq_true_eq] at h
    exact hok ⟨h.1.1.1, h.1.1.2, h.1.2, h.2⟩
   rw [this, Bool.false_and])
  by_cases k1 : ix < 0
  ·go_wp2
   go_ret
   exact ⟨by rw [HF.out]; rfl, HB0.out⟩
  ·by_cases k2 : 16 ≤ ix
   ·go_wp2
    go_ret
    exact ⟨by rw [HF.out]; rfl, HB0.out⟩
   ·by_cases k3 : Ps.length = 64
    ·have k4 : Qs.length ≠ 4 := fun h => hok ⟨by omega, by omega, k3, h⟩
     have n3 : (((Ps.length : Nat) : Int) != 64) = false := by simp [k3]
     have n4 : (((Qs.length : Nat) : Int) != 4) = true := by simp; omega
     clear k3 k4 hok
     go_wp2
     go_ret
     exact ⟨by rw [HF.out]; rfl, HB0.out⟩
    ·have n3 : (((Ps.length : Nat) : Int) != 64) = true := by simp; omega
     clear k3 hok
     go_wp2
     go_ret
     exact ⟨by rw [HF.out]; rfl, HB0.out⟩
def sideS (ix : Int) (h : Nat) : Int := bits .and .i64 (ix / 2 ^ h) 1
def upS (ix : Int) (path : List (List UInt8)) (r : List UInt8) : Nat → List UInt8
 | 0 => r
 | h + 1 => if (sideS ix h == 0) = true then tagH 14 [upS ix path r h, path.getD h []] else tagH 14 [path.getD h [], upS ix path r h]
theorem upS_length (ix : Int) (path : List (List UInt8)) (r : List UInt8) (hr : r.length = 32) (h : Nat) : (upS ix path r h).length = 32 := by
 induction h with
 | zero => exact hr
 | succ h ih =>
  unfold upS
  split
  ·exact tagH_length _ _
  ·exact tagH_length _ _
def verifyB (pub msg : List UInt8) (s : SigD) : Bool := rightB s && (upS s.index s.path (rootS msg s.parts) 4 == pub)
set_option maxRecDepth 100000 in
set_option maxHeartbeats 2000000 in
theorem rverify_any (vp vm v : Value) (pub msg : List UInt8) (s : SigD) (hpub : pub.length ≤ 1000000000) (hmsg : msg.length ≤ 1000000000) (hp : s.parts.length ≤ 1000000000) (hq : s.path.length ≤ 1000000000) (hl : ∀ i (h : i < s.parts.length), s.parts[i].length ≤ 1000000000) (hl2 : ∀ i (h : i < s.path.length), s.path[i].length ≤ 1000000000) (w : World) (hvp : Bys w vp pub) (hvm : Bys w vm msg) (hv : SigV w v s) :
  Calls Tryz.prog 62 #[vp, vm, v] w fun e w' => e = .returned (.bool (verifyB pub msg s)) ∧ Below w.heap.size w w' := by
 have HRI := Lib.hid (fun (wz : World) (v : Value) (hz : SigV wz v s) => rright_any v s hp hq hl hl2 wz hz)
 obtain ⟨p, q, rfl, h1, h2⟩ := hv
 obtain ⟨P, cp, rfl⟩ := h1.form
 obtain ⟨Q, cq, rfl⟩ := h2.form
 obtain ⟨A, c, rfl⟩ := hvp.form
 obtain ⟨B, d, rfl⟩ := hvm.form
 have HR := Lib.hid (And.intro h1 (And.intro h2 (And.intro hvp hvm)))
 have HVB : Hid (verifyB pub msg s = (rightB s && (upS s.index s.path (rootS msg s.parts) 4 == pub))) := Lib.hid rfl
 clear h1 h2 hvp hvm hl hl2
 generalize verifyB pub msg s = VB at *
 go_enter Tryz.func62, Tryz.ntmps62
 go_wp2_with fail
 refine calls_at (fun w1 => Below w.heap.size w w1 ∧ Blk w1 w.heap.size 38 [.int .i64 s.index, .slice P s.parts.length cp, .slice Q s.path.length cq]) ⟨(Below.refl w.heap.size w).alloc (Nat.le_refl _) _, Blk.new w 38 [.int .i64 s.index, .slice P s.parts.length cp, .slice Q s.path.length cq]⟩ ?_
 rintro w1 ⟨hb1, hk1⟩
 have H1 := Lib.hid (And.intro hb1 hk1)
 refine (HRI.out w1 _ ⟨_, _, rfl, HR.out.1.below hb1, HR.out.2.1.below hb1⟩).mono ?_
 clear hb1 hk1
 rintro e w2 ⟨rfl, h2⟩
 have H2 := Lib.hid (And.intro (H1.out.1.trans (h2.mono H1.out.1.size)) (H1.out.2.below h2))
 clear h2 H1
 cases hrb : rightB s with
 | false =>
  have HF : Hid (VB = false) := Lib.hid (by rw [HVB.out, hrb]; rfl)
  clear hrb
  go_wp2
  go_ret
  exact ⟨by rw [HF.out]; rfl, H2.out.1⟩
 | true =>
  obtain ⟨k1, k2, k3, k4, k5, k6⟩ := rightB_facts hrb
  have HK := Lib.hid (And.intro k3 (And.intro k4 (And.intro k5 k6)))
  have HVB2 : Hid (VB = (upS s.index s.path (rootS msg s.parts) 4 == pub)) := Lib.hid (by rw [HVB.out, hrb]; rfl)
  clear hrb k3 k4 k5 k6
  have q1 := H2.out.2.cell 1 _ rfl
  have q0 := H2.out.2.cell 0 _ rfl
  have q2 := H2.out.2.cell 2 _ rfl
  go_wp2_with fail
  refine (rroot_any _ _ msg s.parts HK.out.1 HK.out.2.2.1 hmsg w2 (HR.out.2.2.2.below H2.out.1) (HR.out.1.below H2.out.1)).mono ?_
  rintro e w3 ⟨v3, rfl, h3, h4⟩
  have HRL := Lib.hid (tagH_length 12 [rootAcc (digS msg) s.parts 64])
  have HRE : Hid (rootS msg s.parts = tagH 12 [rootAcc (digS msg) s.parts 64]) := Lib.hid rfl
  have H3 := Lib.hid (And.intro (H2.out.1.trans (h4.mono H2.out.1.size)) (And.intro (H2.out.2.below h4) (h3.bys)))
  clear h3 h4 q0 q1 q2
  go_wp2
  go_loopw [7, 9] (fun v7 v9 wr => ∃ h : Nat, v9 = .int .i64 h ∧ h ≤ 4 ∧ Hid (Below w.heap.size w wr ∧ Blk wr w.heap.size 38 [.int .i64 s.index, .slice P s.parts.length cp, .slice Q s.path.length cq] ∧ Bys wr v7 (upS s.index s.path (rootS msg s.parts) h))) (fun _ v _ => 4 - (intOf v).toNat)
  case atStart => exact ⟨0, rfl, by decide, H3⟩
  case round =>
   obtain ⟨h, rfl, hh, HI⟩ := hrel
   by_cases hlt : h < 4
   ·have q0 := HI.out.2.1.cell 0 _ rfl
    have q2 := HI.out.2.1.cell 2 _ rfl
    have hpl : h < s.path.length := by have := HK.out.2.1; omega
    obtain ⟨g, o, un, rfl, hg, -, -, hcu, hbu⟩ := HR.out.2.1.at' h hpl
    have p0 := (HI.out.1.cell (p := ⟨g, o + h, none⟩) hg).trans hcu
    have hbn := hbu.below HI.out.1
    obtain ⟨A9, c9, rfl⟩ := hbn.form
    obtain ⟨A7, c7, rfl⟩ := HI.out.2.2.form
    have hlN : s.path[h].length = 32 := HK.out.2.2.2 h hpl
    have hlU := upS_length s.index s.path (rootS msg s.parts) (by rw [HRE.out]; exact HRL.out) h
    have HUP : Hid (upS s.index s.path (rootS msg s.parts) (h + 1) = if (sideS s.index h == 0) = true then tagH 14 [upS s.index s.path (rootS msg s.parts) h, s.path[h]] else tagH 14 [s.path[h], upS s.index s.path (rootS msg s.parts) h]) := Lib.hid (by
     show (if (sideS s.index h == 0) = true then tagH 14 [upS s.index s.path (rootS msg s.parts) h, s.path.getD h []] else tagH 14 [s.path.getD h [], upS s.index s.path (rootS msg s.parts) h]) = _
     rw [List.getD_eq_getElem?_getD, List.getElem?_eq_getElem hpl]; rfl)
    have eside : bits BinOp.and IntKind.i64 (s.index / 2 ^ h) 1 = sideS s.index h := rfl
    have hpc : ((h : Nat) : Int) < ((s.path.length : Nat) : Int) := by omega
    have H9 := Lib.hid (And.intro HI.out.2.2 hbn)
    have hU2E : ∃ U2, upS s.index s.path (rootS msg s.parts) (h + 1) = U2 := ⟨_, rfl⟩
    obtain ⟨U2, hU2E⟩ := hU2E
    rw [hU2E] at HUP
    have HU2E := Lib.hid hU2E
    clear hU2E hcu hbu hbn
    generalize upS s.index s.path (rootS msg s.parts) h = U at *
    generalize s.path[h] = N at *
    generalize sideS s.index h = SI at *
    have HL9 := Lib.hid (And.intro hlN hlU)
    clear hlN hlU
    have hsz := HI.out.1.size
    by_cases hside : (SI == 0) = true
    ·
     have HU2 : Hid (U2 = tagH 14 [U, N]) := Lib.hid (by rw [HUP.out, if_pos hside])
     have hal := (Below.refl wr.heap.size wr).alloc (Nat.le_refl _) (.cells #[.slice A7 U.length c7, .slice A9 N.length c9] 26)
     go_wp2_with fail
     refine (rtag_any 14 14 rfl _ [U, N] (by have := HL9.out; simp; omega) (by simp) _ (new2 26 (b := wr.heap.size) rfl H9.out.1 H9.out.2)).mono ?_
     rintro e w5 ⟨v5, rfl, h5, h6⟩
     have hb5 := hal.trans (h6.mono (by simp))
     have H5 := Lib.hid (And.intro (HI.out.1.trans (hb5.mono hsz)) (And.intro (HI.out.2.1.below hb5) h5.bys))
     clear h5 h6 hb5 hal
     go_wp2
     go_roundw
     case rel => exact ⟨h + 1, by go_num, by omega, Lib.hid ⟨H5.out.1, H5.out.2.1, by rw [HU2E.out, HU2.out]; exact H5.out.2.2⟩⟩
     case measure => simp [intOf]; omega
    ·
     have HU2 : Hid (U2 = tagH 14 [N, U]) := Lib.hid (by rw [HUP.out, if_neg hside])
     have hsf : (SI == 0) = false := by simpa using hside
     clear hside
     have hal := (Below.refl wr.heap.size wr).alloc (Nat.le_refl _) (.cells #[.slice A9 N.length c9, .slice A7 U.length c7] 26)
     go_wp2_with fail
     refine (rtag_any 14 14 rfl _ [N, U] (by have := HL9.out; simp; omega) (by simp) _ (new2 26 (b := wr.heap.size) rfl H9.out.2 H9.out.1)).mono ?_
     rintro e w5 ⟨v5, rfl, h5, h6⟩
     have hb5 := hal.trans (h6.mono (by simp))
     have H5 := Lib.hid (And.intro (HI.out.1.trans (hb5.mono hsz)) (And.intro (HI.out.2.1.below hb5) h5.bys))
     clear h5 h6 hb5 hal
     go_wp2
     go_roundw
     case rel => exact ⟨h + 1, by go_num, by omega, Lib.hid ⟨H5.out.1, H5.out.2.1, by rw [HU2E.out, HU2.out]; exact H5.out.2.2⟩⟩
     case measure => simp [intOf]; omega
   ·obtain rfl : h = 4 := by omega
    have hbA := HR.out.2.2.1.below HI.out.1
    obtain ⟨A7, c7, rfl⟩ := HI.out.2.2.form
    have c1 := run_string_bys wr _ _ HI.out.2.2
    have c2 := run_string_bys wr _ _ hbA
    clear hbA
    generalize upS s.index s.path (rootS msg s.parts) 4 = U at *
    go_wp2
    go_ret
    exact ⟨by rw [HVB2.out]; rfl, HI.out.1⟩
def pubs (seed : List UInt8) (n : Nat) : List (List UInt8) := (List.range n).map (fun k : Nat => publicS seed (k : Int))
theorem pubs_succ (seed : List UInt8) (n : Nat) : pubs seed (n + 1) = pubs seed n ++ [publicS seed n] := by simp [pubs, List.range_succ]
theorem pubs_length (seed : List UInt8) (n : Nat) : (pubs seed n).length = n := by simp [pubs]
def abN (l : List (List UInt8)) : Nat → List (List UInt8)
 | 0 => []
 | n + 1 => abN l n ++ [tagH 14 [l.getD (2 * n) [], l.getD (2 * n + 1) []]]
theorem abN_length (l : List (List UInt8)) (n : Nat) : (abN l n).length = n := by
 induction n with
 | zero => rfl
 | succ n ih => show (abN l n ++ [_]).length = _; rw [List.length_append, ih]; rfl
theorem abN_32 (l : List (List UInt8)) (n : Nat) : ∀ i (h : i < (abN l n).length), (abN l n)[i].length = 32 := by
 induction n with
 | zero => intro i h; exact absurd h (Nat.not_lt_zero _)
 | succ n ih =>
  intro i h
  have e : abN l (n + 1) = abN l n ++ [tagH 14 [l.getD (2 * n) [], l.getD (2 * n + 1) []]] := rfl
  by_cases hi : i < (abN l n).length
  ·simp only [e, List.getElem_append_left hi]; exact ih i hi
  ·have : i = (abN l n).length := by rw [e] at h; simp at h; omega
   subst this
   simp only [e, List.getElem_append_right (Nat.le_refl _), Nat.sub_self, List.getElem_cons_zero]
   exact tagH_length _ _
def levelS (seed : List UInt8) : Nat → List (List UInt8)
 | 0 => pubs seed 16
 | h + 1 => abN (levelS seed h) ((levelS seed h).length / 2)
theorem levelS_length (seed : List UInt8) : (levelS seed 0).length = 16 ∧ (levelS seed 1).length = 8 ∧ (levelS seed 2).length = 4 ∧ (levelS seed 3).length = 2 ∧ (levelS seed 4).length = 1 := by
 have h0 : (levelS seed 0).length = 16 := pubs_length seed 16
 have h1 : (levelS seed 1).length = 8 := by show (abN _ _).length = 8; rw [abN_length, h0]
 have h2 : (levelS seed 2).length = 4 := by show (abN _ _).length = 4; rw [abN_length, h1]
 have h3 : (levelS seed 3).length = 2 := by show (abN _ _).length = 2; rw [abN_length, h2]
 have h4 : (levelS seed 4).length = 1 := by show (abN _ _).length = 1; rw [abN_length, h3]
 exact ⟨h0, h1, h2, h3, h4⟩
theorem levelS_two (seed : List UInt8) (h : Nat) (hh : h < 4) : ∃ K, (levelS seed h).length = 2 * K ∧ 1 ≤ K ∧ K ≤ 8 := by
 obtain ⟨h0, h1, h2, h3, h4⟩ := levelS_length seed
 obtain rfl | rfl | rfl | rfl : h = 0 ∨ h = 1 ∨ h = 2 ∨ h = 3 := by omega
 ·exact ⟨8, h0, by decide, by decide⟩
 ·exact ⟨4, h1, by decide, by decide⟩
 ·exact ⟨2, h2, by decide, by decide⟩
 ·exact ⟨1, h3, by decide, by decide⟩
theorem levelS_32 (seed : List UInt8) (h : Nat) : ∀ i (hi : i < (levelS seed h).length), (levelS seed h)[i].length = 32 := by
 cases h with
 | zero => intro i hi; show ((pubs seed 16)[i]'hi).length = 32; simp [pubs, publicS_length]
 | succ h => exact abN_32 _ _

def OwnL (w : World) (base : Nat) (v : Value) (Ls : List (List (List UInt8))) : Prop :=
 ∃ us, w.ownsRow base 27 1 v Ls.length us ∧ ∀ i (h : i < Ls.length), ∃ u, us[i]? = some u ∧ RwsF (fun g => base ≤ g ∧ g < w.heap.size ∧ v.ownBlock ≠ some g) w u Ls[i]
theorem OwnL.chg {w w1 : World} {base : Nat} {v : Value} {Ls : List (List (List UInt8))} {T : Nat → Prop} (h : OwnL w base v Ls) (hc : Chg w w1 T) (hT : ∀ g, base ≤ g → g < w.heap.size → ¬ T g) : OwnL w1 base v Ls := by
 obtain ⟨us, h1, h2⟩ := h
 refine ⟨us, ownsRow_chg h1 hc (fun k hk => by have := World.ownsRow.lt h1 k hk; exact hT k this.1 this.2), fun i hi => ?_⟩
 obtain ⟨u, e, hu⟩ := h2 i hi
 exact ⟨u, e, (hu.chg hc (fun g hg => hT g hg.1 hg.2.1)).mono (fun g hg => ⟨hg.1, Nat.lt_of_lt_of_le hg.2.1 hc.size, hg.2.2⟩)⟩
theorem OwnL.push {w W : World} {base g cap : Nat} {v u : Value} {Ls : List (List (List UInt8))} {l : List (List UInt8)} {us : List Value} {t : TypeId} {cs : Array Value}
  (h1 : ∀ i (h : i < Ls.length), ∃ u, us[i]? = some u ∧ RwsF (fun g => base ≤ g ∧ g < w.heap.size ∧ v.ownBlock ≠ some g) w u Ls[i]) (hl : us.length = Ls.length)
  (hu : RwsF (fun g => base ≤ g ∧ g < w.heap.size ∧ v.ownBlock ≠ some g) w u l)
  (ho : W.ownsRow base 27 1 (.slice (some ⟨g, 0, none⟩) (Ls.length + 1) cap) (Ls.length + 1) (us ++ [u])) (hg : (w.alloc (.cells cs t)).grownBy W v.ownBlock) (hlie : v.ownBlock = some g ∨ g = w.heap.size + 1) :
  OwnL W base (.slice (some ⟨g, 0, none⟩) (Ls.length + 1) cap) (Ls ++ [l]) := by
 have hc : Chg w W (fun k => v.ownBlock = some k) := ((Chg.refl w _).alloc _).trans (Chg.of_grown hg) (fun i _ h => h.symm)
 have keep : ∀ (x : Value) (m : List (List UInt8)), RwsF (fun g => base ≤ g ∧ g < w.heap.size ∧ v.ownBlock ≠ some g) w x m → RwsF (fun k => base ≤ k ∧ k < W.heap.size ∧ (some g : Option Nat) ≠ some k) W x m := fun x m hx =>
  (hx.chg hc (fun k hk => hk.2.2)).mono (fun k hk => ⟨hk.1, Nat.lt_of_lt_of_le hk.2.1 hc.size, fun e => by
   injection e with e
   rcases hlie with hlie | hlie
   ·exact hk.2.2 (by rw [hlie, e])
   ·omega⟩)
 refine ⟨us ++ [u], by rw [List.length_append]; exact ho, fun i hi => ?_⟩
 by_cases hi' : i < Ls.length
 ·obtain ⟨x, e, hx⟩ := h1 i hi'
  refine ⟨x, by rw [List.getElem?_append_left (by omega)]; exact e, ?_⟩
  rw [List.getElem_append_left hi']
  exact keep x _ hx
 ·have : i = Ls.length := by simp at hi; omega
  subst this
  refine ⟨u, by rw [List.getElem?_append_right (by omega), hl]; simp, ?_⟩
  rw [List.getElem_append_right (Nat.le_refl _)]
  simp only [Nat.sub_self, List.getElem_cons_zero]
  exact keep u l hu
theorem chg_belowB {w w1 : World} {B : Nat} (h : Below B w w1) : Chg w w1 (fun k => B ≤ k) := ⟨h.os, h.tape, h.output, h.size, fun k hk hn => h.block k (by omega)⟩
theorem info_rows : (Tryz.prog.info? 27).map (fun i => (i.zero, i.size, i.bytes)) = some (some (.slice none 0 0), 1, 24) := by kernel_rfl

def ownerS (seed : List UInt8) : List UInt8 := (levelS seed 4).getD 0 []
theorem ownerS_length (seed : List UInt8) : (ownerS seed).length = 32 := by
 have h1 := (levelS_length seed).2.2.2.2
 have h2 := levelS_32 seed 4 0 (by omega)
 unfold ownerS
 rw [List.getD_eq_getElem?_getD, List.getElem?_eq_getElem (show 0 < (levelS seed 4).length by omega)]
 exact h2

def sibS (ix : Int) (h : Nat) : Int := bits .xor .i64 (ix / 2 ^ h) 1
theorem sib_ok : ∀ i : Fin 16, ∀ h : Fin 4, 0 ≤ sibS (i.val : Int) h.val ∧ sibS (i.val : Int) h.val * 2 ^ h.val < 16 := by decide +kernel
theorem sib_at (ix : Int) (h0 : 0 ≤ ix) (h1 : ix < 16) (h : Nat) (hh : h < 4) : 0 ≤ sibS ix h ∧ sibS ix h * 2 ^ h < 16 := by
 have := sib_ok ⟨ix.toNat, by omega⟩ ⟨h, hh⟩
 simpa [Int.toNat_of_nonneg h0] using this
def sigPath (seed : List UInt8) (ix : Int) : Nat → List (List UInt8)
 | 0 => []
 | h + 1 => sigPath seed ix h ++ [(levelS seed h).getD (sibS ix h).toNat []]
theorem sigPath_length (seed : List UInt8) (ix : Int) (h : Nat) : (sigPath seed ix h).length = h := by
 induction h with
 | zero => rfl
 | succ h ih => show (sigPath seed ix h ++ [_]).length = _; rw [List.length_append, ih]; rfl
theorem level_pow (seed : List UInt8) (h : Nat) (hh : h ≤ 4) : (levelS seed h).length * 2 ^ h = 16 := by
 obtain ⟨h0, h1, h2, h3, h4⟩ := levelS_length seed
 obtain rfl | rfl | rfl | rfl | rfl : h = 0 ∨ h = 1 ∨ h = 2 ∨ h = 3 ∨ h = 4 := by omega
 ·rw [h0]
 ·rw [h1]
 ·rw [h2]
 ·rw [h3]
 ·rw [h4]
theorem sib_lt (seed : List UInt8) (ix : Int) (h0 : 0 ≤ ix) (h1 : ix < 16) (h : Nat) (hh : h < 4) : (sibS ix h).toNat < (levelS seed h).length := by
 obtain ⟨k0, k1⟩ := sib_at ix h0 h1 h hh
 have k2 := level_pow seed h (by omega)
 have : (sibS ix h).toNat * 2 ^ h < (levelS seed h).length * 2 ^ h := by
  rw [k2]
  have : (((sibS ix h).toNat * 2 ^ h : Nat) : Int) < 16 := by
   rw [Int.natCast_mul, Int.toNat_of_nonneg k0]
   simpa using k1
  omega
 exact Nat.lt_of_mul_lt_mul_right this
def signS (seed : List UInt8) (ix : Int) (msg : List UInt8) : SigD := ⟨ix, partsS seed ix msg, sigPath seed ix 4⟩


def OwnV (w : World) (base : Nat) (v : Value) (ls : List (List UInt8)) : Prop :=
 ∃ us, w.ownsRow base 26 1 v ls.length us ∧ ∀ i (h : i < ls.length), ∃ u, us[i]? = some u ∧ Bys w u ls[i] ∧ (0 < ls[i].length → ∀ g, u.ownBlock = some g → v.ownBlock ≠ some g)
theorem OwnV.nil (w : World) (base : Nat) : OwnV w base (.slice none 0 0) [] := ⟨[], World.ownsRow_nil _ _ _ _, fun i h => absurd h (Nat.not_lt_zero _)⟩
theorem OwnV.rws {w : World} {base : Nat} {v : Value} {ls : List (List UInt8)} (h : OwnV w base v ls) : Rws w v ls := by
 obtain ⟨us, h1, h2⟩ := h
 exact ⟨us, Sho.own h1, fun i hi => by obtain ⟨u, e, hu, _⟩ := h2 i hi; exact ⟨u, e, hu⟩⟩
theorem OwnV.keep {w w1 : World} {base : Nat} {v : Value} {ls : List (List UInt8)} (h : OwnV w base v ls) (hb : Below w.heap.size w w1) : OwnV w1 base v ls := by
 obtain ⟨us, h1, h2⟩ := h
 exact ⟨us, ownsRow_chg h1 (Chg.of_below (S := fun _ => False) hb) (fun _ _ h => h), fun i hi => by obtain ⟨u, e, hu, hn⟩ := h2 i hi; exact ⟨u, e, hu.below hb, hn⟩⟩
theorem OwnV.push {w W : World} {base : Nat} {v v' u : Value} {ls : List (List UInt8)} {l : List UInt8} {us : List Value} {t : TypeId} {cs : Array Value}
  (h0 : w.ownsRow base 26 1 v ls.length us) (h1 : ∀ i (h : i < ls.length), ∃ u, us[i]? = some u ∧ Bys w u ls[i] ∧ (0 < ls[i].length → ∀ g, u.ownBlock = some g → v.ownBlock ≠ some g))
  (hu : Bys w u l) (hun : 0 < l.length → ∀ g, u.ownBlock = some g → v.ownBlock ≠ some g)
  (ho : W.ownsRow base 26 1 v' (ls.length + 1) (us ++ [u])) (hg : (w.alloc (.cells cs t)).grownBy W v.ownBlock) (hv : v'.ownBlock = v.ownBlock ∨ ∃ q, v'.ownBlock = some q ∧ w.heap.size ≤ q) : OwnV W base v' (ls ++ [l]) := by
 have hc : Chg w W (fun k => v.ownBlock = some k) := ((Chg.refl w _).alloc _).trans (Chg.of_grown hg) (fun i _ h => h.symm)
 have keep : ∀ (x : Value) (m : List UInt8), Bys w x m → (0 < m.length → ∀ g, x.ownBlock = some g → v.ownBlock ≠ some g) → Bys W x m := fun x m hx hn =>
  Sho.chgF hx (S := fun g => v.ownBlock ≠ some g) hn hc (fun g hg e => hg e)
 have apart : ∀ (x : Value) (m : List UInt8), Bys w x m → (0 < m.length → ∀ g, x.ownBlock = some g → v.ownBlock ≠ some g) → (0 < m.length → ∀ g, x.ownBlock = some g → v'.ownBlock ≠ some g) := fun x m hx hn hp g hg => by
  rcases hv with e | ⟨q, e, hq⟩
  ·rw [e]; exact hn hp g hg
  ·rw [e]
   intro e2
   injection e2 with e2
   have := Sho.lt hx hp g hg
   omega
 have hl : us.length = ls.length := by have := h0.1; omega
 refine ⟨us ++ [u], by rw [List.length_append]; exact ho, fun i hi => ?_⟩
 by_cases hi' : i < ls.length
 ·obtain ⟨x, e, hx, hn⟩ := h1 i hi'
  refine ⟨x, by rw [List.getElem?_append_left (by omega)]; exact e, ?_, ?_⟩
  ·rw [List.getElem_append_left hi']; exact keep x _ hx hn
  ·rw [List.getElem_append_left hi']; exact apart x _ hx hn
 ·have : i = ls.length := by simp at hi; omega
  subst this
  refine ⟨u, by rw [List.getElem?_append_right (by omega), hl]; simp, ?_, ?_⟩
  ·rw [List.getElem_append_right (Nat.le_refl _)]; simpa using keep u l hu hun
  ·intro hp
   exact apart u l hu hun (by rw [List.getElem_append_right (Nat.le_refl _)] at hp; simpa using hp)
def pAcc (d : Int) (ls : List (List UInt8)) : Nat → List (List UInt8)
 | 0 => []
 | i + 1 => pAcc d ls i ++ [rootPart d i (ls.getD i [])]
theorem pAcc_flat (d : Int) (ls : List (List UInt8)) (i : Nat) : (pAcc d ls i).flatten = rootAcc d ls i := by
 induction i with
 | zero => rfl
 | succ i ih => simp only [pAcc, rootAcc, List.flatten_append, ih]; simp
theorem pAcc_length (d : Int) (ls : List (List UInt8)) (i : Nat) : (pAcc d ls i).length = i := by
 induction i with
 | zero => rfl
 | succ i ih => simp only [pAcc, List.length_append, ih]; rfl
theorem tag_pAcc (d : Int) (ls : List (List UInt8)) (i : Nat) : tagH 12 (pAcc d ls i) = tagH 12 [rootAcc d ls i] := by
 unfold tagH; rw [pAcc_flat]; simp
theorem rootAcc_len (d : Int) (ls : List (List UInt8)) (h32 : ∀ i (h : i < ls.length), ls[i].length = 32) : ∀ i, i ≤ ls.length → (rootAcc d ls i).length = 32 * i
 | 0, _ => rfl
 | i + 1, h => by
  have hlt : i < ls.length := h
  show (rootAcc d ls i ++ rootPart d i (ls.getD i [])).length = _
  rw [List.length_append, rootAcc_len d ls h32 i (by omega), List.getD_eq_getElem?_getD, List.getElem?_eq_getElem hlt]
  have := rootPart_length d i ls[i] (h32 i hlt)
  simp only [Option.getD_some]
  omega

set_option maxRecDepth 100000 in
set_option maxHeartbeats 4000000 in
theorem proot_any (v u : Value) (msg : List UInt8) (ls : List (List UInt8)) (h64 : ls.length = 64) (h32 : ∀ i (h : i < ls.length), ls[i].length = 32) (hsm : msg.length ≤ 1000000000) (w : World) (hx : Bys w v msg) (hy : Rws w u ls) :
  Calls Tryz.prog 78 #[v, u] w fun e w' => ∃ v', e = .returned (.tuple #[v', .bool true]) ∧ OwnB w' w.heap.size v' (rootS msg ls) ∧ Below w.heap.size w w' := by
 obtain ⟨i0, hi0, hz0, hz1, hz2⟩ := info_parts info_bytes
 obtain ⟨A, c, rfl⟩ := hx.form
 obtain ⟨B, d, rfl⟩ := hy.form
 have HX := Lib.hid (And.intro hx hy)
 have H64 := Lib.hid h64
 have H32 := Lib.hid h32
 have HRS : Hid (rootS msg ls = tagH 12 (pAcc (digS msg) ls 64)) := Lib.hid (by rw [tag_pAcc]; rfl)
 generalize rootS msg ls = RS at *
 have hne : (((ls.length : Nat) : Int) != 64) = false := by simp [h64]
 clear hx hy h64 h32
 go_enter Tryz.func78, Tryz.ntmps78
 go_wp2_with fail
 refine (pdigest_any _ msg hsm w HX.out.1).mono ?_
 rintro e w1 ⟨rfl, h1⟩
 have H1 := Lib.hid h1
 generalize digS msg = D at *
 clear h1 hne
 go_wp2
 go_loopw [7, 17] (fun v7 v8 wr => ∃ i : Nat, v8 = .int .i64 i ∧ i ≤ ls.length ∧ Hid (Below w.heap.size w wr ∧ OwnV wr w.heap.size v7 (pAcc D ls i))) (fun _ v _ => ls.length - (intOf v).toNat)
 case atStart => exact ⟨0, rfl, Nat.zero_le _, Lib.hid ⟨H1.out, OwnV.nil _ _⟩⟩
 case round =>
  obtain ⟨i, rfl, hi, HI⟩ := hrel
  by_cases hlt : i < ls.length
  ·have hi64 : i < 64 := by have := H64.out; omega
   obtain ⟨g, o, up, rfl, hg, -, -, hcu, hbu⟩ := HX.out.2.at' i hlt
   have p0 := (HI.out.1.cell (p := ⟨g, o + i, none⟩) hg).trans hcu
   have HN : Hid (0 < ls[i].length → ∀ q, up.ownBlock = some q → q < w.heap.size) := Lib.hid (fun hp q hq => Sho.lt hbu hp q hq)
   have HBU := hbu.below HI.out.1
   obtain ⟨A9, c9, rfl⟩ := HBU.form
   have HU := Lib.hid HBU
   have HL := Lib.hid (H32.out i hlt)
   have HACC : Hid (pAcc D ls (i + 1) = pAcc D ls i ++ [rootPart D i ls[i]]) := Lib.hid (by
    show pAcc D ls i ++ [rootPart D i (ls.getD i [])] = _
    rw [List.getD_eq_getElem?_getD, List.getElem?_eq_getElem hlt]; rfl)
   have HPART : Hid (rootPart D i ls[i] = if (bitS D (i / 2) == ((i % 2 : Nat) : Int)) = true then tagH 11 [ls[i]] else ls[i]) := Lib.hid rfl
   have hnl : (((ls[i].length : Nat) : Int) != 32) = false := by simp [HL.out]
   have HTO : Hid (∀ wz : World, Calls Tryz.prog 97 #[.int .u32 D, .int .i64 ((i : Int) / 2), .int .i64 ((i : Int) % 2)] wz fun e w' => e = .returned (.bool (bitS D (i / 2) == ((i % 2 : Nat) : Int))) ∧ wz = w') := Lib.hid (fun wz => by
    have := told_any D (i / 2) ((i % 2 : Nat) : Int) (by omega) wz
    simpa using this)
   have HTG := Lib.hid (fun (wz : World) (hz : Bys wz (.slice A9 ls[i].length c9) ls[i]) => ptag_any 11 11 rfl _ [ls[i]] (by simp; have := HL.out; omega) (by simp) _ (new1 26 (b := wz.heap.size) rfl hz))
   have hpl : (pAcc D ls i).length ≤ 100 := by rw [pAcc_length]; omega
   clear hcu hbu HBU
   have hsz := HI.out.1.size
   obtain ⟨A7, c7, rfl⟩ := HI.out.2.rws.form
   generalize rootPart D i ls[i] = PT at *
   generalize tagH 11 [ls[i]] = TG at *
   generalize ls[i] = P at *
   generalize (bitS D (i / 2) == ((i % 2 : Nat) : Int)) = BI at *
   generalize pAcc D ls i = PA at *
   cases BI with
   | true =>
    have HPT : Hid (PT = TG) := Lib.hid (by rw [HPART.out, if_pos rfl])
    have hal1 := (Below.refl wr.heap.size wr).alloc (Nat.le_refl _) (.cells #[.slice A9 P.length c9] 26)
    go_wp2_with (go_at_call 97; refine (HTO.out wr).mono ?_; rintro e w' ⟨rfl, rfl⟩)
    refine (HTG.out wr HU.out).mono ?_
    rintro e w2 ⟨v2, rfl, h1, h2⟩
    obtain ⟨A2, c2, rfl⟩ := h1.form
    have hb2 := hal1.trans (h2.mono (by simp))
    have HB2 := Lib.hid (And.intro hb2 (And.intro (own_mono' h1 (show wr.heap.size ≤ _ by simp)) h1.bys))
    have hsz2 := hb2.size
    obtain ⟨us0, hq1, hq2⟩ := HI.out.2
    have HQ := Lib.hid hq1
    obtain ⟨us, hu1, hu2⟩ := HI.out.2.keep hb2
    have HK := Lib.hid (And.intro hu1 hu2)
    clear hu1 hu2 h1 h2 hb2 hal1 hq1 hq2
    go_wp2_with (at_builtin; (refine wpList_append_lies _ rfl (.tmp 34) (.tmp 36) 27 rfl w.heap.size 26 i0 (.slice none 0 0) 1 24 Tryz.underlying27 hi0 hz0 hz1 hz2 rfl (by decide) _ PA.length us rfl (World.ownsRow.alloc HK.out.1 _) ⟨w2.heap.size, 0, none⟩ 1 1 [.slice A2 TG.length c2] rfl rfl (World.news_of_block (blk_new _ _)) (by simp [Value.oneCell']) (by decide) (by unfold maxLen; omega) (by omega) (by simp; omega) (w2.heap.size + 1) (by simp) ?_); intro g3 c3 W3 hown3 hgrow3 hlie3 hlt3)
    have HV3 : Hid (OwnV W3 w.heap.size (.slice (some ⟨g3, 0, none⟩) (PA.length + 1) c3) (PA ++ [TG])) := Lib.hid (OwnV.push HK.out.1 HK.out.2 HB2.out.2.2 (fun hp q hq e => by have h1 := (World.ownsRow.lt HB2.out.2.1 q hq).1; have h2 := (World.ownsRow.lt HQ.out q e).2; omega) hown3 hgrow3 (by
     rcases hlie3 with e | e
     ·exact .inl (show some g3 = _ from e.symm)
     ·exact .inr ⟨g3, rfl, by omega⟩))
    have HB3 : Hid (Below w.heap.size w W3) := Lib.hid ((HI.out.1.trans (HB2.out.1.mono hsz)).trans (((Below.refl w.heap.size w2).alloc (by omega) _).grown hgrow3 (by simp; omega) (fun k e => (World.ownsRow.lt HK.out.1 k e).1)))
    go_roundw
    case rel => exact ⟨i + 1, by go_num, by omega, Lib.hid ⟨HB3.out, by rw [HACC.out, HPT.out]; exact HV3.out⟩⟩
    case measure => simp [intOf]; omega
   | false =>
    have HPT : Hid (PT = P) := Lib.hid (by rw [HPART.out]; rfl)
    obtain ⟨us, hu1, hu2⟩ := HI.out.2
    have HK := Lib.hid (And.intro hu1 hu2)
    clear hu1 hu2
    go_wp2_with (first
     | (go_at_call 97; refine (HTO.out wr).mono ?_; rintro e w' ⟨rfl, rfl⟩)
     | (at_builtin; (refine wpList_append_lies _ rfl (.tmp 34) (.tmp 36) 27 rfl w.heap.size 26 i0 (.slice none 0 0) 1 24 Tryz.underlying27 hi0 hz0 hz1 hz2 rfl (by decide) _ PA.length us rfl (World.ownsRow.alloc HK.out.1 _) ⟨wr.heap.size, 0, none⟩ 1 1 [.slice A9 P.length c9] rfl rfl (World.news_of_block (blk_new _ _)) (by simp [Value.oneCell']) (by decide) (by unfold maxLen; omega) (by omega) (by simp; omega) (wr.heap.size + 1) (by simp) ?_); intro g3 c3 W3 hown3 hgrow3 hlie3 hlt3))
    have HV3 : Hid (OwnV W3 w.heap.size (.slice (some ⟨g3, 0, none⟩) (PA.length + 1) c3) (PA ++ [P])) := Lib.hid (OwnV.push HK.out.1 HK.out.2 HU.out (fun hp q hq e => by have h1 := HN.out hp q hq; have h2 := (World.ownsRow.lt HK.out.1 q e).1; omega) hown3 hgrow3 (by
     rcases hlie3 with e | e
     ·exact .inl (show some g3 = _ from e.symm)
     ·exact .inr ⟨g3, rfl, by omega⟩))
    have HB3 : Hid (Below w.heap.size w W3) := Lib.hid (HI.out.1.trans (((Below.refl w.heap.size wr).alloc hsz _).grown hgrow3 (by simp; omega) (fun k e => (World.ownsRow.lt HK.out.1 k e).1)))
    go_roundw
    case rel => exact ⟨i + 1, by go_num, by omega, Lib.hid ⟨HB3.out, by rw [HACC.out, HPT.out]; exact HV3.out⟩⟩
    case measure => simp [intOf]; omega
  ·have hi64 : Hid (i = 64) := Lib.hid (by have := H64.out; omega)
   have hie : (i : Int) = (ls.length : Int) := by omega
   have hnl : ¬ (i : Int) < (ls.length : Int) := by omega
   have HB := Lib.hid HI.out.1
   have hsz := HI.out.1.size
   have hpl : (pAcc D ls i).length ≤ 100 := by rw [pAcc_length, hi64.out]; decide
   have hfl : (pAcc D ls i).flatten.length ≤ 100000000 := by rw [pAcc_flat, rootAcc_len D ls H32.out i (by omega), hi64.out]; decide
   have HRA : Hid (tagH 12 (pAcc D ls i) = RS) := Lib.hid (by rw [HRS.out, hi64.out])
   obtain ⟨A7, c7, rfl⟩ := HI.out.2.rws.form
   have HO := Lib.hid HI.out.2
   generalize pAcc D ls i = PA at *
   have HT := Lib.hid (ptag_any 12 12 rfl _ PA (by omega) (by omega) wr HO.out.rws)
   rw [HRA.out] at HT
   clear hie
   go_wp2_with fail
   refine HT.out.mono ?_
   rintro e w2 ⟨v2, rfl, h1, h2⟩
   have H2 := Lib.hid (And.intro h1 h2)
   clear h1 h2
   go_wp2
   go_ret2
   exact ⟨_, rfl, own_mono' H2.out.1 hsz, HB.out.trans (H2.out.2.mono hsz)⟩
theorem hashes1_any (A : Option Addr) (n c : Nat) (w : World) :
  Calls Tryz.prog 104 #[.slice A n c] w fun e w' => e = .returned (.bool (((n : Nat) : Int) != 32)) ∧ w = w' := by
 go_enter Tryz.func104, Tryz.ntmps104
 go_wp2
 go_ret
 exact ⟨rfl, rfl⟩
set_option maxRecDepth 100000 in
set_option maxHeartbeats 2000000 in
theorem indexf_any (v : Value) (ls : List (List UInt8)) (hsm : ls.length ≤ 1000000000) (w : World) (hx : Rws w v ls) :
  Calls Tryz.prog 73 #[v, .func (.func 104) #[] #[]] w fun e w' => ∃ r : Int, e = .returned (.int .i64 r) ∧ decide (0 ≤ r) = !(ls.all len32) ∧ Below w.heap.size w w' := by
 obtain ⟨A, c, rfl⟩ := hx.form
 have HX := Lib.hid hx
 clear hx
 go_enter Tryz.func73, Tryz.ntmps73
 go_wp2
 go_loopw [8] (fun v8 wr => ∃ k : Nat, v8 = .int .i64 k ∧ k ≤ ls.length ∧ Hid (Below w.heap.size w wr ∧ ∀ j (h : j < ls.length), j < k → ls[j].length = 32)) (fun v _ => ls.length - (intOf v).toNat)
 case atStart => exact ⟨0, rfl, Nat.zero_le _, Lib.hid ⟨Below.refl _ _, fun j h hj => by omega⟩⟩
 case round =>
  obtain ⟨k, rfl, hk, HI⟩ := hrel
  by_cases hlt : k < ls.length
  ·obtain ⟨g, o, u, rfl, hg, -, -, hcu, hbu⟩ := HX.out.at' k hlt
   have p0 := (HI.out.1.cell (p := ⟨g, o + k, none⟩) hg).trans hcu
   obtain ⟨A9, c9, rfl⟩ := hbu.form
   clear hcu hbu
   by_cases h32 : ls[k].length = 32
   ·have hnl : (((ls[k].length : Nat) : Int) != 32) = false := by simp [h32]
    have H32 := Lib.hid h32
    have HC := Lib.hid (hashes1_any A9 ls[k].length c9 wr)
    rw [hnl] at HC
    clear h32 hnl
    go_wp2_with (go_at_call 104; refine HC.out.mono ?_; rintro e w' ⟨rfl, rfl⟩)
    go_roundw
    case rel => exact ⟨k + 1, by go_num, by omega, Lib.hid ⟨HI.out.1, fun j h hj => by
     by_cases e : j = k
     ·subst e; exact H32.out
     ·exact HI.out.2 j h (by omega)⟩⟩
    case measure => simp [intOf]; omega
   ·have hnl : (((ls[k].length : Nat) : Int) != 32) = true := by simp; omega
    have HF : Hid (ls.all len32 = false) := Lib.hid (all32_not k hlt h32)
    have HC := Lib.hid (hashes1_any A9 ls[k].length c9 wr)
    rw [hnl] at HC
    clear h32 hnl
    go_wp2_with (go_at_call 104; refine HC.out.mono ?_; rintro e w' ⟨rfl, rfl⟩)
    go_ret
    exact ⟨_, rfl, by rw [HF.out]; simp, HI.out.1⟩
  ·have HA : Hid (ls.all len32 = true) := Lib.hid (all32_of (fun j h => HI.out.2 j h (by omega)))
   go_wp2
   go_ret
   exact ⟨_, rfl, by rw [HA.out]; rfl, HI.out.1⟩
theorem containsf_any (v : Value) (ls : List (List UInt8)) (hsm : ls.length ≤ 1000000000) (w : World) (hx : Rws w v ls) :
  Calls Tryz.prog 48 #[v, .func (.func 104) #[] #[]] w fun e w' => e = .returned (.bool (!(ls.all len32))) ∧ Below w.heap.size w w' := by
 have HI := Lib.hid (indexf_any v ls hsm w hx)
 obtain ⟨A, c, rfl⟩ := hx.form
 go_enter Tryz.func48, Tryz.ntmps48
 go_wp2_with fail
 refine HI.out.mono ?_
 rintro e w1 ⟨r, rfl, h1, h2⟩
 have H1 := Lib.hid (And.intro h1 h2)
 clear h1 h2
 go_wp2
 go_ret
 exact ⟨by rw [← H1.out.1]; rfl, H1.out.2⟩
theorem hashes_any (v : Value) (n : Nat) (ls : List (List UInt8)) (hsm : ls.length ≤ 1000000000) (w : World) (hx : Rws w v ls) :
  Calls Tryz.prog 95 #[v, .int .i64 n] w fun e w' => e = .returned (.bool (decide (ls.length = n) && ls.all len32)) ∧ Below w.heap.size w w' := by
 have HI := Lib.hid (containsf_any v ls hsm w hx)
 obtain ⟨A, c, rfl⟩ := hx.form
 go_enter Tryz.func95, Tryz.ntmps95
 by_cases h : ls.length = n
 ·have hb : (((ls.length : Nat) : Int) == (n : Int)) = true := by simp [h]
  have H := Lib.hid h
  clear h
  go_wp2_with fail
  refine HI.out.mono ?_
  rintro e w1 ⟨rfl, h2⟩
  have H2 := Lib.hid h2
  clear h2
  go_wp2
  go_ret
  exact ⟨by rw [H.out]; simp, H2.out⟩
 ·have hb : (((ls.length : Nat) : Int) == (n : Int)) = false := by simp; omega
  have H := Lib.hid h
  clear h
  go_wp2
  go_ret
  exact ⟨by simp [H.out], Below.refl _ _⟩
set_option maxRecDepth 100000 in
set_option maxHeartbeats 2000000 in
theorem pright_any (v : Value) (s : SigD) (hp : s.parts.length ≤ 1000000000) (hq : s.path.length ≤ 1000000000) (w : World) (hv : SigV w v s) :
  Calls Tryz.prog 77 #[v] w fun e w' => e = .returned (.bool (rightB s)) ∧ Below w.heap.size w w' := by
 obtain ⟨p, q, rfl, h1, h2⟩ := hv
 obtain ⟨P, cp, rfl⟩ := h1.form
 obtain ⟨Q, cq, rfl⟩ := h2.form
 have hk0 := Blk.new w 38 [.int .i64 s.index, .slice P s.parts.length cp, .slice Q s.path.length cq]
 have HB0 := Lib.hid ((Below.refl w.heap.size w).alloc (Nat.le_refl _) (.cells #[.int .i64 s.index, .slice P s.parts.length cp, .slice Q s.path.length cq] 38))
 have HR := Lib.hid (And.intro h1 (And.intro h2 hk0))
 have HH1 := Lib.hid (fun wz hz => hashes_any (.slice P s.parts.length cp) 64 s.parts hp wz hz)
 have HH2 := Lib.hid (fun wz hz => hashes_any (.slice Q s.path.length cq) 4 s.path hq wz hz)
 have HRB : Hid (rightB s = ((decide (0 ≤ s.index) && decide (s.index < 16)) && (decide (s.parts.length = 64) && s.parts.all len32) && (decide (s.path.length = 4) && s.path.all len32))) := Lib.hid (by
  unfold rightB
  cases decide (0 ≤ s.index) <;> cases decide (s.index < 16) <;> cases decide (s.parts.length = 64) <;> cases decide (s.path.length = 4) <;> cases s.parts.all len32 <;> cases s.path.all len32 <;> rfl)
 clear h1 h2 hk0
 generalize rightB s = RB at *
 generalize s.index = ix at *
 generalize hb1 : (decide (s.parts.length = 64) && s.parts.all len32) = B1 at *
 generalize hb2 : (decide (s.path.length = 4) && s.path.all len32) = B2 at *
 clear hb1 hb2
 generalize s.parts = Ps at *
 generalize s.path = Qs at *
 go_enter Tryz.func77, Tryz.ntmps77
 by_cases k1 : 0 ≤ ix
 ·by_cases k2 : ix < 16
  ·cases B1 with
   | false =>
    have HT : Hid (RB = false) := Lib.hid (by rw [HRB.out]; simp)
    go_wp2_with fail
    refine (HH1.out _ (HR.out.1.below HB0.out)).mono ?_
    rintro e w1 ⟨rfl, h1⟩
    have HW := Lib.hid (And.intro (HR.out.2.2.below h1) (HB0.out.trans (h1.mono (by simp))))
    have q0 := HW.out.1.cell 0 _ rfl
    have q1 := HW.out.1.cell 1 _ rfl
    have q2 := HW.out.1.cell 2 _ rfl
    clear h1
    go_wp2
    go_ret
    exact ⟨by rw [HT.out]; rfl, HW.out.2⟩
   | true =>
    have HT : Hid (RB = B2) := Lib.hid (by rw [HRB.out]; simp [k1, k2])
    go_wp2_with fail
    refine (HH1.out _ (HR.out.1.below HB0.out)).mono ?_
    rintro e w1 ⟨rfl, h1⟩
    have HW := Lib.hid (And.intro (HR.out.2.2.below h1) (HB0.out.trans (h1.mono (by simp))))
    have q0 := HW.out.1.cell 0 _ rfl
    have q1 := HW.out.1.cell 1 _ rfl
    have q2 := HW.out.1.cell 2 _ rfl
    clear h1
    go_wp2_with fail
    refine (HH2.out _ (HR.out.2.1.below HW.out.2)).mono ?_
    rintro e w2 ⟨rfl, h2⟩
    have HW2 := Lib.hid (HW.out.2.trans (h2.mono HW.out.2.size))
    clear h2
    go_wp2
    go_ret
    exact ⟨by rw [HT.out]; rfl, HW2.out⟩
  ·have HT : Hid (RB = false) := Lib.hid (by rw [HRB.out]; simp [k2])
   go_wp2
   go_ret
   exact ⟨by rw [HT.out]; rfl, HB0.out⟩
 ·have HT : Hid (RB = false) := Lib.hid (by rw [HRB.out]; simp [k1])
  go_wp2
  go_ret
  exact ⟨by rw [HT.out]; rfl, HB0.out⟩
def atS (ix : Int) : Nat → Int
 | 0 => ix
 | h + 1 => atS ix h / 2
theorem side_ok : ∀ i : Fin 16, ∀ h : Fin 4, 0 ≤ atS (i.val : Int) h.val ∧ atS (i.val : Int) h.val < 16 ∧ (sideS (i.val : Int) h.val == 0) = (atS (i.val : Int) h.val % 2 == 0) := by decide +kernel
theorem side_at (ix : Int) (h0 : 0 ≤ ix) (h1 : ix < 16) (h : Nat) (hh : h < 4) : 0 ≤ atS ix h ∧ atS ix h < 16 ∧ (sideS ix h == 0) = (atS ix h % 2 == 0) := by
 obtain ⟨n, rfl⟩ := Int.eq_ofNat_of_zero_le h0
 exact side_ok ⟨n, by omega⟩ ⟨h, hh⟩
set_option maxRecDepth 100000 in
set_option maxHeartbeats 4000000 in
theorem pverify_any (vp vm v : Value) (pub msg : List UInt8) (s : SigD) (hpub : pub.length ≤ 1000000000) (hmsg : msg.length ≤ 1000000000) (hp : s.parts.length ≤ 1000000000) (hq : s.path.length ≤ 1000000000) (w : World) (hvp : Bys w vp pub) (hvm : Bys w vm msg) (hv : SigV w v s) :
  Calls Tryz.prog 53 #[vp, vm, v] w fun e w' => e = .returned (.bool (verifyB pub msg s)) ∧ Below w.heap.size w w' := by
 have HRI := Lib.hid (fun (wz : World) (v : Value) (hz : SigV wz v s) => pright_any v s hp hq wz hz)
 obtain ⟨p, q, rfl, h1, h2⟩ := hv
 obtain ⟨P, cp, rfl⟩ := h1.form
 obtain ⟨Q, cq, rfl⟩ := h2.form
 obtain ⟨A, c, rfl⟩ := hvp.form
 obtain ⟨B, d, rfl⟩ := hvm.form
 have HR := Lib.hid (And.intro h1 (And.intro h2 (And.intro hvp hvm)))
 have HVB : Hid (verifyB pub msg s = (rightB s && (upS s.index s.path (rootS msg s.parts) 4 == pub))) := Lib.hid rfl
 clear h1 h2 hvp hvm
 generalize verifyB pub msg s = VB at *
 go_enter Tryz.func53, Tryz.ntmps53
 go_wp2_with fail
 refine calls_at (fun w1 => Below w.heap.size w w1 ∧ Blk w1 w.heap.size 38 [.int .i64 s.index, .slice P s.parts.length cp, .slice Q s.path.length cq]) ⟨(Below.refl w.heap.size w).alloc (Nat.le_refl _) _, Blk.new w 38 [.int .i64 s.index, .slice P s.parts.length cp, .slice Q s.path.length cq]⟩ ?_
 rintro w1 ⟨hb1, hk1⟩
 have H1 := Lib.hid (And.intro hb1 hk1)
 refine (HRI.out w1 _ ⟨_, _, rfl, HR.out.1.below hb1, HR.out.2.1.below hb1⟩).mono ?_
 clear hb1 hk1
 rintro e w2 ⟨rfl, h2⟩
 have H2 := Lib.hid (And.intro (H1.out.1.trans (h2.mono H1.out.1.size)) (H1.out.2.below h2))
 clear h2 H1
 cases hrb : rightB s with
 | false =>
  have HF : Hid (VB = false) := Lib.hid (by rw [HVB.out, hrb]; rfl)
  clear hrb
  go_wp2
  go_ret
  exact ⟨by rw [HF.out]; rfl, H2.out.1⟩
 | true =>
  obtain ⟨k1, k2, k3, k4, k5, k6⟩ := rightB_facts hrb
  have HK := Lib.hid (And.intro k3 (And.intro k4 (And.intro k5 k6)))
  have HVB2 : Hid (VB = (upS s.index s.path (rootS msg s.parts) 4 == pub)) := Lib.hid (by rw [HVB.out, hrb]; rfl)
  clear hrb k3 k4 k5 k6
  have q1 := H2.out.2.cell 1 _ rfl
  have q0 := H2.out.2.cell 0 _ rfl
  have q2 := H2.out.2.cell 2 _ rfl
  go_wp2_with fail
  refine (proot_any _ _ msg s.parts HK.out.1 HK.out.2.2.1 hmsg w2 (HR.out.2.2.2.below H2.out.1) (HR.out.1.below H2.out.1)).mono ?_
  rintro e w3 ⟨v3, rfl, h3, h4⟩
  have HRL := Lib.hid (tagH_length 12 [rootAcc (digS msg) s.parts 64])
  have HRE : Hid (rootS msg s.parts = tagH 12 [rootAcc (digS msg) s.parts 64]) := Lib.hid rfl
  have H3 := Lib.hid (And.intro (H2.out.1.trans (h4.mono H2.out.1.size)) (And.intro (H2.out.2.below h4) (h3.bys)))
  have q1 := H3.out.2.1.cell 1 _ rfl
  have q0 := H3.out.2.1.cell 0 _ rfl
  have q2 := H3.out.2.1.cell 2 _ rfl
  clear h3 h4
  go_wp2
  go_loopw [7, 9, 27] (fun v7 v9 v27 wr => ∃ h : Nat, v9 = .int .i64 (atS s.index h) ∧ v27 = .int .i64 h ∧ h ≤ s.path.length ∧ Hid (Below w.heap.size w wr ∧ Bys wr v7 (upS s.index s.path (rootS msg s.parts) h))) (fun _ _ v _ => s.path.length - (intOf v).toNat)
  case atStart => exact ⟨0, rfl, rfl, Nat.zero_le _, Lib.hid ⟨H3.out.1, H3.out.2.2⟩⟩
  case round =>
   obtain ⟨h, rfl, rfl, hh, HI⟩ := hrel
   clear q0 q1 q2
   by_cases hpl : h < s.path.length
   ·have hlt : h < 4 := by have := HK.out.2.1; omega
    obtain ⟨g, o, un, rfl, hg, -, -, hcu, hbu⟩ := HR.out.2.1.at' h hpl
    have p0 := (HI.out.1.cell (p := ⟨g, o + h, none⟩) hg).trans hcu
    have hbn := hbu.below HI.out.1
    obtain ⟨A9, c9, rfl⟩ := hbn.form
    obtain ⟨A7, c7, rfl⟩ := HI.out.2.form
    have hlN : s.path[h].length = 32 := HK.out.2.2.2 h hpl
    have hlU := upS_length s.index s.path (rootS msg s.parts) (by rw [HRE.out]; exact HRL.out) h
    have HUP : Hid (upS s.index s.path (rootS msg s.parts) (h + 1) = if (sideS s.index h == 0) = true then tagH 14 [upS s.index s.path (rootS msg s.parts) h, s.path[h]] else tagH 14 [s.path[h], upS s.index s.path (rootS msg s.parts) h]) := Lib.hid (by
     show (if (sideS s.index h == 0) = true then tagH 14 [upS s.index s.path (rootS msg s.parts) h, s.path.getD h []] else tagH 14 [s.path.getD h [], upS s.index s.path (rootS msg s.parts) h]) = _
     rw [List.getD_eq_getElem?_getD, List.getElem?_eq_getElem hpl]; rfl)
    obtain ⟨ha0, ha1, haS⟩ := side_at s.index k1 k2 h hlt
    rw [haS] at HUP
    have HAN : Hid (atS s.index (h + 1) = atS s.index h / 2) := Lib.hid rfl
    clear haS
    have H9 := Lib.hid (And.intro HI.out.2 hbn)
    have hU2E : ∃ U2, upS s.index s.path (rootS msg s.parts) (h + 1) = U2 := ⟨_, rfl⟩
    obtain ⟨U2, hU2E⟩ := hU2E
    rw [hU2E] at HUP
    have HU2E := Lib.hid hU2E
    clear hU2E hcu hbu hbn
    generalize upS s.index s.path (rootS msg s.parts) h = U at *
    generalize s.path[h] = N at *
    generalize atS s.index h = AT at *
    have HL9 := Lib.hid (And.intro hlN hlU)
    clear hlN hlU
    have hsz := HI.out.1.size
    by_cases hside : AT % 2 = 0
    ·
     have hsf : (AT % 2 == 0) = true := by simpa using hside
     have HU2 : Hid (U2 = tagH 14 [U, N]) := Lib.hid (by rw [HUP.out, if_pos hsf])
     clear hside
     have hal := (Below.refl wr.heap.size wr).alloc (Nat.le_refl _) (.cells #[.slice A7 U.length c7, .slice A9 N.length c9] 26)
     go_wp2_with fail
     refine (ptag_any 14 14 rfl _ [U, N] (by have := HL9.out; simp; omega) (by simp) _ (new2 26 (b := wr.heap.size) rfl H9.out.1 H9.out.2)).mono ?_
     rintro e w5 ⟨v5, rfl, h5, h6⟩
     have hb5 := hal.trans (h6.mono (by simp))
     have H5 := Lib.hid (And.intro (HI.out.1.trans (hb5.mono hsz)) h5.bys)
     clear h5 h6 hb5 hal
     go_wp2
     go_roundw
     case rel => exact ⟨h + 1, by rw [HAN.out], by go_num, by omega, Lib.hid ⟨H5.out.1, by rw [HU2E.out, HU2.out]; exact H5.out.2⟩⟩
     case measure => simp [intOf]; omega
    ·
     have hsf : (AT % 2 == 0) = false := by simpa using hside
     have HU2 : Hid (U2 = tagH 14 [N, U]) := Lib.hid (by rw [HUP.out, hsf]; rfl)
     clear hside
     have hal := (Below.refl wr.heap.size wr).alloc (Nat.le_refl _) (.cells #[.slice A9 N.length c9, .slice A7 U.length c7] 26)
     go_wp2_with fail
     refine (ptag_any 14 14 rfl _ [N, U] (by have := HL9.out; simp; omega) (by simp) _ (new2 26 (b := wr.heap.size) rfl H9.out.2 H9.out.1)).mono ?_
     rintro e w5 ⟨v5, rfl, h5, h6⟩
     have hb5 := hal.trans (h6.mono (by simp))
     have H5 := Lib.hid (And.intro (HI.out.1.trans (hb5.mono hsz)) h5.bys)
     clear h5 h6 hb5 hal
     go_wp2
     go_roundw
     case rel => exact ⟨h + 1, by rw [HAN.out], by go_num, by omega, Lib.hid ⟨H5.out.1, by rw [HU2E.out, HU2.out]; exact H5.out.2⟩⟩
     case measure => simp [intOf]; omega
   ·have h4 : Hid (h = 4) := Lib.hid (by have := HK.out.2.1; omega)
    have hbA := HR.out.2.2.1.below HI.out.1
    obtain ⟨A7, c7, rfl⟩ := HI.out.2.form
    have HSM := Lib.hid (same_bytes _ _ _ _ wr HI.out.2 hbA)
    have HUE : Hid (upS s.index s.path (rootS msg s.parts) 4 = upS s.index s.path (rootS msg s.parts) h) := Lib.hid (by rw [h4.out])
    rw [HUE.out] at HVB2
    have HB := Lib.hid HI.out.1
    have hnl : ¬ (h : Int) < (s.path.length : Int) := by omega
    clear hbA HI hpl HUE
    generalize upS s.index s.path (rootS msg s.parts) h = U at *
    go_wp2_with fail
    refine HSM.out.mono ?_
    rintro e w' ⟨rfl, rfl⟩
    go_wp2
    go_ret
    exact ⟨by rw [HVB2.out]; rfl, HB.out⟩
def LieOf (w : World) (v v' : Value) : Prop := v'.ownBlock = v.ownBlock ∨ ∃ q, v'.ownBlock = some q ∧ w.heap.size ≤ q
section
variable {P : Program} {w : World}
theorem run_append_lie (base : Nat) (t ty e : TypeId) (i : TypeInfo) (z : Value) (size bytes : Nat) (ht : P.underlying t = some (.slice e)) (hi : P.info? e = some i) (hz : i.zero = some z)
  (hsize : i.size = size) (hby : i.bytes = bytes) (hzs : z.cells.size = size) (hsz : 0 < size)
  (v : Value) (n : Nat) (xs : List Value) (hown : w.ownsRow base e size v n xs)
  (x : Value) (m : Nat) (news : List Value) (hx : NewsOf w x m size news)
  (h63 : n + m ≤ maxLen) (hbytes : (n + m) * bytes ≤ 140737488355328) (hbase : base ≤ w.heap.size) :
  ∃ v' w', (Builtin.append_ #[t, t] ty #[v, x]).run P w = .ok v' w' ∧ w'.ownsRow base e size v' (n + m) (xs ++ news) ∧ w.grownBy w' v.ownBlock ∧ LieOf w v v' := by
 obtain ⟨hl, h1, A, c, rfl, hA⟩ := hx
 rcases hA with rfl | ⟨ad, rfl, hn⟩
 ·have hnil : news = [] := List.eq_nil_of_length_eq_zero (by simpa using hl)
  subst hnil
  exact ⟨v, w, run_append_none t ty e i size base ht hi v n xs hown A c, by simpa using hown, ⟨rfl, rfl, rfl, Nat.le_refl _, fun _ _ _ => rfl⟩, .inl rfl⟩
 ·obtain ⟨v', w', hr, h2, h3, _, h5⟩ := run_append_own_at (P := P) w base t ty e i z size bytes ht hi hz hsize hby hzs hsz v n xs hown ad m c news hl hn h1 h63 hbytes hbase
  refine ⟨v', w', hr, h2, h3, ?_⟩
  rcases h5 with h5 | h5
  ·exact .inl h5
  ·exact .inr ⟨_, h5, Nat.le_refl _⟩
theorem wpList_append_lie {ops : Array Oper} {rest : List Oper} {o : Oper} {a : Act} {Q : Exit → Act → World → Prop} (hgd : o.guard = none) (s x : Operand) (t : TypeId)
  (ho : o.op = .call { callee := .builtin .append, args := #[s, x], argTypes := #[t, t] })
  (base : Nat) (e : TypeId) (i : TypeInfo) (z : Value) (size bytes : Nat) (ht : P.underlying t = some (.slice e)) (hi : P.info? e = some i) (hz : i.zero = some z)
  (hsize : i.size = size) (hby : i.bytes = bytes) (hzs : z.cells.size = size) (hsz : 0 < size)
  (v : Value) (n : Nat) (xs : List Value) (hs : a.eval s = v) (hown : w.ownsRow base e size v n xs)
  (y : Value) (m : Nat) (news : List Value) (hy : a.eval x = y) (hx : NewsOf w y m size news)
  (h63 : n + m ≤ maxLen) (hbytes : (n + m) * bytes ≤ 140737488355328) (hbase : base ≤ w.heap.size)
  (h : ∀ v' w', w'.ownsRow base e size v' (n + m) (xs ++ news) → w.grownBy w' v.ownBlock → LieOf w v v' → wpList P ops Q rest (a.put o.dst v') w') : wpList P ops Q (o :: rest) a w :=
 wpList_plain hgd fun _ hK => by
  obtain ⟨v', w', hr, h2, h3, h4⟩ := run_append_lie (P := P) base t o.type e i z size bytes ht hi hz hsize hby hzs hsz v n xs hown y m news hx h63 hbytes hbase
  unfold Oper.wp execOp
  simp only [ho, resolve, invoke, builtin, Sem.run_bind, Sem.run_pure, Result.andThen_ok, List.map_toArray, List.map_cons, List.map_nil, hs, hy, hr]
  exact hK _ _ (h v' w' h2 h3 h4)
theorem step_append_lie {ops : Array Oper} {o : Oper} {a : Act} {K : Act → World → Prop} {Q : Exit → Act → World → Prop} {E : Prop} (hgd : o.guard = none) (s x : Operand) (t : TypeId)
  (ho : o.op = .call { callee := .builtin .append, args := #[s, x], argTypes := #[t, t] })
  (base : Nat) (e : TypeId) (i : TypeInfo) (z : Value) (size bytes : Nat) (ht : P.underlying t = some (.slice e)) (hi : P.info? e = some i) (hz : i.zero = some z)
  (hsize : i.size = size) (hby : i.bytes = bytes) (hzs : z.cells.size = size) (hsz : 0 < size)
  (v : Value) (n : Nat) (xs : List Value) (hs : a.eval s = v) (hown : w.ownsRow base e size v n xs)
  (y : Value) (m : Nat) (news : List Value) (hy : a.eval x = y) (hx : NewsOf w y m size news)
  (h63 : n + m ≤ maxLen) (hbytes : (n + m) * bytes ≤ 140737488355328) (hbase : base ≤ w.heap.size)
  (h : ∀ v' w', w'.ownsRow base e size v' (n + m) (xs ++ news) → w.grownBy w' v.ownBlock → LieOf w v v' → K (a.put o.dst v') w') :
  if Region.wanted o (yielded ops a.tmps) = true then Oper.wp P o a w K Q else E := by
 have hw : Region.wanted o (yielded ops a.tmps) = true := by simp [Region.wanted, hgd]
 rw [if_pos hw]
 obtain ⟨v', w', hr, h2, h3, h4⟩ := run_append_lie (P := P) base t o.type e i z size bytes ht hi hz hsize hby hzs hsz v n xs hown y m news hx h63 hbytes hbase
 unfold Oper.wp execOp
 simp only [ho, resolve, invoke, builtin, Sem.run_bind, Sem.run_pure, Result.andThen_ok, List.map_toArray, List.map_cons, List.map_nil, hs, hy, hr]
 exact h v' w' h2 h3 h4
end
theorem LieOf.ne {w : World} {v v' : Value} {b : Nat} (h : LieOf w v v') (hne : v.ownBlock ≠ some b) (hb : b < w.heap.size) : v'.ownBlock ≠ some b := by
 rcases h with e | ⟨q, e, hq⟩
 ·rw [e]; exact hne
 ·rw [e]
  intro e2
  injection e2 with e2
  omega
structure WrAt (w : World) (base b : Nat) (v : Value) (l : List UInt8) : Prop where
 blk : Blk w b 154 [v]
 own : OwnB w base v l
 ne : v.ownBlock ≠ some b
 le : base ≤ b
def WrX (w : World) (base b : Nat) (l : List UInt8) : Prop := ∃ v, WrAt w base b v l
theorem WrX.below {w w1 : World} {base b : Nat} {l : List UInt8} (h : WrX w base b l) (hb : Below w.heap.size w w1) : WrX w1 base b l := by
 obtain ⟨v, h1, h2, h3, h4⟩ := h
 exact ⟨v, h1.below hb, h2.keep hb, h3, h4⟩
theorem WrAt.after {w W : World} {base b : Nat} {v v2 : Value} {l m : List UInt8} (h : WrAt w base b v l) (o : OwnB W base v2 m) (hg : w.grownBy W v.ownBlock) (hlie : LieOf w v v2) :
  Blk W b 154 [v] ∧ WrX (W.setCell ⟨b, 0, none⟩ v2) base b m ∧ Below base w (W.setCell ⟨b, 0, none⟩ v2) := by
 have hne : v2.ownBlock ≠ some b := hlie.ne h.ne h.blk.lt
 have hb : Blk W b 154 [v] := h.blk.grown hg (fun e => h.ne e.symm)
 have hle := h.le
 have hlt := h.blk.lt
 exact ⟨hb, ⟨v2, hb.set 0 _ (by simp), ownsRow_set o _ _ (show v2.ownBlock ≠ some b from hne), hne, h.le⟩, ((Below.refl base w).grown hg (by omega) (fun k e => h.own.ge e)).setCell (show base ≤ b from hle) _⟩
theorem WrAt.after_new {w W : World} {base b : Nat} {v v2 : Value} {l m : List UInt8} {o : Obj} (h : WrAt w base b v l) (ho : OwnB W base v2 m) (hg : (w.alloc o).grownBy W v.ownBlock) (hlie : LieOf (w.alloc o) v v2) (hb : base ≤ w.heap.size) :
  Blk W b 154 [v] ∧ WrX (W.setCell ⟨b, 0, none⟩ v2) base b m ∧ Below base w (W.setCell ⟨b, 0, none⟩ v2) := by
 have h2 : WrAt (w.alloc o) base b v l := ⟨h.blk.alloc o, World.ownsRow.alloc h.own o, h.ne, h.le⟩
 obtain ⟨h3, h4, h5⟩ := h2.after ho hg hlie
 exact ⟨h3, h4, ((Below.refl base w).alloc hb o).trans h5⟩
theorem wnew_any (w : World) : Calls Tryz.prog 80 #[] w fun e w' => e = .returned (.pointer (some ⟨w.heap.size, 0, none⟩)) ∧ WrX w' w.heap.size w.heap.size [] ∧ Below w.heap.size w w' := by
 go_enter Tryz.func80, Tryz.ntmps80
 go_wp2
 go_ret
 exact ⟨rfl, ⟨_, Blk.new w 154 [.slice none 0 0], World.ownsRow_nil _ _ _ _, by simp [Value.ownBlock], Nat.le_refl _⟩, (Below.refl _ _).alloc (Nat.le_refl _) _⟩
theorem wdone_any (base b : Nat) (l : List UInt8) (hsm : l.length ≤ 1000000000) (w : World) (h : WrX w base b l) : Calls Tryz.prog 83 #[.pointer (some ⟨b, 0, none⟩)] w (RetB w l) := by
 obtain ⟨v, hk, ho, hne, hle⟩ := h
 obtain ⟨A, c, rfl⟩ := ho.form
 have HC := Lib.hid (clone_any _ l (by omega) w ho.bys)
 have q0 := hk.cell 0 _ rfl
 go_enter Tryz.func83, Tryz.ntmps83
 go_wp2_with fail
 refine HC.out.mono ?_
 rintro e w1 ⟨v1, rfl, h1, h2⟩
 have H1 := Lib.hid (And.intro h1 h2)
 clear h1 h2
 go_wp2
 go_ret
 exact ⟨_, rfl, H1.out.1, H1.out.2⟩
set_option maxHeartbeats 1000000 in
theorem wraw_any (base b : Nat) (l m : List UInt8) (u : Value) (hsm : l.length ≤ 1000000000) (hsm2 : m.length ≤ 1000000000) (w : World) (hbw : base ≤ w.heap.size) (h : WrX w base b l) (hu : Bys w u m) :
  Calls Tryz.prog 81 #[.pointer (some ⟨b, 0, none⟩), u] w fun e w' => e = .returned (.tuple #[]) ∧ WrX w' base b (l ++ m) ∧ Below base w w' := by
 obtain ⟨i0, hi0, hz0, hz1, hz2⟩ := info_parts info_u8
 obtain ⟨v, hw⟩ := h
 obtain ⟨A, c, rfl⟩ := hw.own.form
 obtain ⟨B, d, rfl⟩ := hu.form
 have q0 := hw.blk.cell 0 _ rfl
 have f0 := hw.blk.free 0
 have HW := Lib.hid (And.intro hw hu)
 clear hw hu
 go_enter Tryz.func81, Tryz.ntmps81
 go_wp2_with (at_builtin; (refine wpList_append_lie rfl (.tmp 8) (.tmp 9) 26 rfl base 5 i0 (.int .u8 0) 1 1 Tryz.underlying26 hi0 hz0 hz1 hz2 rfl (by decide) _ l.length (bys l) rfl HW.out.1.own _ m.length (bys m) rfl HW.out.2.news (by unfold maxLen; omega) (by omega) hbw ?_); intro v2 W2 hown2 hgrow2 hlie2; obtain ⟨A2, c2, rfl⟩ := (Sho.own hown2).form; have H2 := Lib.hid (HW.out.1.after (OwnB.append rfl hown2) hgrow2 hlie2); have q2 := H2.out.1.cell 0 _ rfl; have f2 := H2.out.1.free 0; clear hown2 hgrow2 hlie2)
 go_end0
 exact ⟨rfl, H2.out.2.1, H2.out.2.2⟩
set_option maxHeartbeats 4000000 in
theorem wnum4_any (base b : Nat) (l : List UInt8) (n : Int) (hn0 : 0 ≤ n) (hn1 : n < 4294967296) (hsm : l.length ≤ 1000000000) (w : World) (hbw : base ≤ w.heap.size) (h : WrX w base b l) :
    Calls Tryz.prog 99 #[.pointer (some ⟨b, 0, none⟩), .int .u32 n, .int .i64 4] w fun e w' => e = .returned (.tuple #[]) ∧ WrX w' base b (l ++ be4 n) ∧ Below base w w' := by
  obtain ⟨i0, hi0, hz0, hz1, hz2⟩ := info_parts info_u8
  have HX := Lib.hid h
  clear h
  go_enter Tryz.func99, Tryz.ntmps99
  go_wp2
  go_loopw [6] (fun v6 wr => ∃ (j : Nat) (i : Int), v6 = .int .i64 i ∧ (-1 ≤ i ∧ i ≤ 3) ∧ Hid (j ≤ 4 ∧ i = 3 - (j : Int) ∧ Below base w wr ∧ WrX wr base b (l ++ (be4 n).take j))) (fun v _ => (intOf v + 1).toNat)
  case atStart => exact ⟨0, 3, rfl, by decide, Lib.hid ⟨by decide, rfl, Below.refl _ _, by rw [List.take_zero, List.append_nil]; exact HX.out⟩⟩
  case round =>
    obtain ⟨j, i, rfl, hi, HJ⟩ := hrel
    obtain rfl | rfl | rfl | rfl | rfl : j = 0 ∨ j = 1 ∨ j = 2 ∨ j = 3 ∨ j = 4 := by have := HJ.out.1; omega
    · obtain rfl : i = 3 := by have := HJ.out.2.1; omega
      obtain ⟨v, hw⟩ := HJ.out.2.2.2
      obtain ⟨A, c, rfl⟩ := hw.own.form
      have q0 := hw.blk.cell 0 _ rfl
      have f0 := hw.blk.free 0
      have HT : Hid (l ++ (be4 n).take 1 = (l ++ (be4 n).take 0) ++ [ub (n / 16777216)]) := Lib.hid (by rw [List.append_assoc]; rfl)
      have hll : (l ++ (be4 n).take 0).length ≤ 1000000100 := by rw [List.length_append, List.length_take]; omega
      have eb : IntKind.u8.wrap (n / 16777216) = (((ub (n / 16777216)).toNat : Nat) : Int) := by rw [ub_val]; simp [IntKind.wrap, IntKind.bits, IntKind.signed]
      have ew : IntKind.i64.wrap 24 = 24 := by decide
      have HW := Lib.hid hw
      have hsz : base ≤ wr.heap.size := Nat.le_trans hbw HJ.out.2.2.1.size
      have hgb := hw.blk.lt
      clear hw
      generalize l ++ (be4 n).take 0 = D at *
      generalize ub (n / 16777216) = x at *
      go_wp2
      go_region_law (first
        | ((refine step_append_lie rfl (.tmp 17) (.tmp 23) 26 rfl base 5 i0 (.int .u8 0) 1 1 Tryz.underlying26 hi0 hz0 hz1 hz2 rfl (by decide) _ D.length (bys D) rfl (by first | exact World.ownsRow.alloc HW.out.own _ | exact HW.out.own) _ 1 (bys [x]) rfl (by first | exact Bys.new _ [x] 1 rfl (by decide) | exact Bys.new_drew _ [x] 1 rfl (by decide)) (by unfold maxLen; omega) (by omega) (by simp; omega) ?_); intro v2 W2 hown2 hgrow2 hlie2
           obtain ⟨A2, c2, rfl⟩ := (Sho.own hown2).form
           have H2 := Lib.hid (WrAt.after_new HW.out (OwnB.append rfl hown2) ⟨hgrow2.os, hgrow2.tape, hgrow2.output, hgrow2.size, hgrow2.block⟩ hlie2 hsz)
           have q2 := H2.out.1.cell 0 _ rfl
           have f2 := H2.out.1.free 0
           clear hown2 hgrow2 hlie2))
      all_goals
        go_wp2
        go_roundw
        case rel => exact ⟨1, 2, rfl, by decide, Lib.hid ⟨by decide, by decide, HJ.out.2.2.1.trans H2.out.2.2, by rw [HT.out]; exact H2.out.2.1⟩⟩
        case measure => simp [intOf]
    · obtain rfl : i = 2 := by have := HJ.out.2.1; omega
      obtain ⟨v, hw⟩ := HJ.out.2.2.2
      obtain ⟨A, c, rfl⟩ := hw.own.form
      have q0 := hw.blk.cell 0 _ rfl
      have f0 := hw.blk.free 0
      have HT : Hid (l ++ (be4 n).take 2 = (l ++ (be4 n).take 1) ++ [ub (n / 65536)]) := Lib.hid (by rw [List.append_assoc]; rfl)
      have hll : (l ++ (be4 n).take 1).length ≤ 1000000100 := by rw [List.length_append, List.length_take]; omega
      have eb : IntKind.u8.wrap (n / 65536) = (((ub (n / 65536)).toNat : Nat) : Int) := by rw [ub_val]; simp [IntKind.wrap, IntKind.bits, IntKind.signed]
      have ew : IntKind.i64.wrap 16 = 16 := by decide
      have HW := Lib.hid hw
      have hsz : base ≤ wr.heap.size := Nat.le_trans hbw HJ.out.2.2.1.size
      have hgb := hw.blk.lt
      clear hw
      generalize l ++ (be4 n).take 1 = D at *
      generalize ub (n / 65536) = x at *
      go_wp2
      go_region_law (first
        | ((refine step_append_lie rfl (.tmp 17) (.tmp 23) 26 rfl base 5 i0 (.int .u8 0) 1 1 Tryz.underlying26 hi0 hz0 hz1 hz2 rfl (by decide) _ D.length (bys D) rfl (by first | exact World.ownsRow.alloc HW.out.own _ | exact HW.out.own) _ 1 (bys [x]) rfl (by first | exact Bys.new _ [x] 1 rfl (by decide) | exact Bys.new_drew _ [x] 1 rfl (by decide)) (by unfold maxLen; omega) (by omega) (by simp; omega) ?_); intro v2 W2 hown2 hgrow2 hlie2
           obtain ⟨A2, c2, rfl⟩ := (Sho.own hown2).form
           have H2 := Lib.hid (WrAt.after_new HW.out (OwnB.append rfl hown2) ⟨hgrow2.os, hgrow2.tape, hgrow2.output, hgrow2.size, hgrow2.block⟩ hlie2 hsz)
           have q2 := H2.out.1.cell 0 _ rfl
           have f2 := H2.out.1.free 0
           clear hown2 hgrow2 hlie2))
      all_goals
        go_wp2
        go_roundw
        case rel => exact ⟨2, 1, rfl, by decide, Lib.hid ⟨by decide, by decide, HJ.out.2.2.1.trans H2.out.2.2, by rw [HT.out]; exact H2.out.2.1⟩⟩
        case measure => simp [intOf]
    · obtain rfl : i = 1 := by have := HJ.out.2.1; omega
      obtain ⟨v, hw⟩ := HJ.out.2.2.2
      obtain ⟨A, c, rfl⟩ := hw.own.form
      have q0 := hw.blk.cell 0 _ rfl
      have f0 := hw.blk.free 0
      have HT : Hid (l ++ (be4 n).take 3 = (l ++ (be4 n).take 2) ++ [ub (n / 256)]) := Lib.hid (by rw [List.append_assoc]; rfl)
      have hll : (l ++ (be4 n).take 2).length ≤ 1000000100 := by rw [List.length_append, List.length_take]; omega
      have eb : IntKind.u8.wrap (n / 256) = (((ub (n / 256)).toNat : Nat) : Int) := by rw [ub_val]; simp [IntKind.wrap, IntKind.bits, IntKind.signed]
      have ew : IntKind.i64.wrap 8 = 8 := by decide
      have HW := Lib.hid hw
      have hsz : base ≤ wr.heap.size := Nat.le_trans hbw HJ.out.2.2.1.size
      have hgb := hw.blk.lt
      clear hw
      generalize l ++ (be4 n).take 2 = D at *
      generalize ub (n / 256) = x at *
      go_wp2
      go_region_law (first
        | ((refine step_append_lie rfl (.tmp 17) (.tmp 23) 26 rfl base 5 i0 (.int .u8 0) 1 1 Tryz.underlying26 hi0 hz0 hz1 hz2 rfl (by decide) _ D.length (bys D) rfl (by first | exact World.ownsRow.alloc HW.out.own _ | exact HW.out.own) _ 1 (bys [x]) rfl (by first | exact Bys.new _ [x] 1 rfl (by decide) | exact Bys.new_drew _ [x] 1 rfl (by decide)) (by unfold maxLen; omega) (by omega) (by simp; omega) ?_); intro v2 W2 hown2 hgrow2 hlie2
           obtain ⟨A2, c2, rfl⟩ := (Sho.own hown2).form
           have H2 := Lib.hid (WrAt.after_new HW.out (OwnB.append rfl hown2) ⟨hgrow2.os, hgrow2.tape, hgrow2.output, hgrow2.size, hgrow2.block⟩ hlie2 hsz)
           have q2 := H2.out.1.cell 0 _ rfl
           have f2 := H2.out.1.free 0
           clear hown2 hgrow2 hlie2))
      all_goals
        go_wp2
        go_roundw
        case rel => exact ⟨3, 0, rfl, by decide, Lib.hid ⟨by decide, by decide, HJ.out.2.2.1.trans H2.out.2.2, by rw [HT.out]; exact H2.out.2.1⟩⟩
        case measure => simp [intOf]
    · obtain rfl : i = 0 := by have := HJ.out.2.1; omega
      obtain ⟨v, hw⟩ := HJ.out.2.2.2
      obtain ⟨A, c, rfl⟩ := hw.own.form
      have q0 := hw.blk.cell 0 _ rfl
      have f0 := hw.blk.free 0
      have HT : Hid (l ++ (be4 n).take 4 = (l ++ (be4 n).take 3) ++ [ub (n)]) := Lib.hid (by rw [List.append_assoc]; rfl)
      have hll : (l ++ (be4 n).take 3).length ≤ 1000000100 := by rw [List.length_append, List.length_take]; omega
      have eb : IntKind.u8.wrap (n) = (((ub (n)).toNat : Nat) : Int) := by rw [ub_val]; simp [IntKind.wrap, IntKind.bits, IntKind.signed]
      have ew : IntKind.i64.wrap 0 = 0 := by decide
      have HW := Lib.hid hw
      have hsz : base ≤ wr.heap.size := Nat.le_trans hbw HJ.out.2.2.1.size
      have hgb := hw.blk.lt
      clear hw
      generalize l ++ (be4 n).take 3 = D at *
      generalize ub (n) = x at *
      go_wp2
      go_region_law (first
        | ((refine step_append_lie rfl (.tmp 17) (.tmp 23) 26 rfl base 5 i0 (.int .u8 0) 1 1 Tryz.underlying26 hi0 hz0 hz1 hz2 rfl (by decide) _ D.length (bys D) rfl (by first | exact World.ownsRow.alloc HW.out.own _ | exact HW.out.own) _ 1 (bys [x]) rfl (by first | exact Bys.new _ [x] 1 rfl (by decide) | exact Bys.new_drew _ [x] 1 rfl (by decide)) (by unfold maxLen; omega) (by omega) (by simp; omega) ?_); intro v2 W2 hown2 hgrow2 hlie2
           obtain ⟨A2, c2, rfl⟩ := (Sho.own hown2).form
           have H2 := Lib.hid (WrAt.after_new HW.out (OwnB.append rfl hown2) ⟨hgrow2.os, hgrow2.tape, hgrow2.output, hgrow2.size, hgrow2.block⟩ hlie2 hsz)
           have q2 := H2.out.1.cell 0 _ rfl
           have f2 := H2.out.1.free 0
           clear hown2 hgrow2 hlie2))
      all_goals
        go_wp2
        go_roundw
        case rel => exact ⟨4, -1, rfl, by decide, Lib.hid ⟨by decide, by decide, HJ.out.2.2.1.trans H2.out.2.2, by rw [HT.out]; exact H2.out.2.1⟩⟩
        case measure => simp [intOf]
    · obtain rfl : i = -1 := by have := HJ.out.2.1; omega
      have HB := Lib.hid (And.intro HJ.out.2.2.2 HJ.out.2.2.1)
      clear HJ
      go_wp2
      go_end0
      exact ⟨rfl, by have h := HB.out.1; rwa [List.take_of_length_le (by rw [be4_length]; decide)] at h, HB.out.2⟩
theorem wnum_any (base b : Nat) (l : List UInt8) (n : Int) (hn0 : 0 ≤ n) (hn1 : n < 4294967296) (hsm : l.length ≤ 1000000000) (w : World) (hbw : base ≤ w.heap.size) (h : WrX w base b l) :
  Calls Tryz.prog 82 #[.pointer (some ⟨b, 0, none⟩), .int .u32 n] w fun e w' => e = .returned (.tuple #[]) ∧ WrX w' base b (l ++ be4 n) ∧ Below base w w' := by
 have H := Lib.hid (wnum4_any base b l n hn0 hn1 hsm w hbw h)
 clear h
 go_enter Tryz.func82, Tryz.ntmps82
 go_wp2_with fail
 refine H.out.mono ?_
 rintro e w1 ⟨rfl, h1, h2⟩
 have H1 := Lib.hid (And.intro h1 h2)
 clear h1 h2
 go_wp2
 go_end0
 exact ⟨rfl, H1.out.1, H1.out.2⟩
theorem under_sig : Tryz.prog.underlying 38 = some (.struct (Tryz.prog.fieldsOf 38)) := by kernel_rfl
theorem size_sig : (Tryz.prog.info? 38).map (·.size) = some 3 := by kernel_rfl
structure CkD where
 num : Int
 root : List UInt8
def CkV (w : World) (v : Value) (c : CkD) : Prop := ∃ p, v = .agg #[.int .i64 c.num, p] ∧ Bys w p c.root
def ckB (c : CkD) : Bool := decide (0 ≤ c.num) && decide (c.num ≤ 256) && decide (c.root.length = 32)

set_option maxRecDepth 100000 in
theorem rckright_any (v : Value) (c : CkD) (hl : c.root.length ≤ 1000000000) (w : World) (hv : CkV w v c) :
  Calls Tryz.prog 61 #[v] w fun e w' => e = .returned (.bool (ckB c)) ∧ Below w.heap.size w w' := by
 obtain ⟨p, rfl, h1⟩ := hv
 obtain ⟨P, cp, rfl⟩ := h1.form
 have HB0 := Lib.hid ((Below.refl w.heap.size w).alloc (Nat.le_refl _) (.cells #[.int .i64 c.num, .slice P c.root.length cp] 36))
 have HRB : Hid (ckB c = (decide (0 ≤ c.num) && decide (c.num ≤ 256) && decide (c.root.length = 32))) := Lib.hid rfl
 clear h1
 generalize ckB c = RB at *
 generalize c.num = ix at *
 generalize c.root = R at *
 go_enter Tryz.func61, Tryz.ntmps61
 by_cases k1 : 0 ≤ ix
 ·by_cases k2 : ix ≤ 256
  ·have HF : Hid (RB = decide (R.length = 32)) := Lib.hid (by rw [HRB.out]; simp [k1, k2])
   by_cases k3 : R.length = 32
   ·have n3 : (((R.length : Nat) : Int) == 32) = true := by simp [k3]
    have HT : Hid (RB = true) := Lib.hid (by rw [HF.out]; simp [k3])
    clear k3
    go_wp2
    go_ret
    exact ⟨by rw [HT.out]; rfl, HB0.out⟩
   ·have n3 : (((R.length : Nat) : Int) == 32) = false := by simp; omega
    have HT : Hid (RB = false) := Lib.hid (by rw [HF.out]; simp [k3])
    clear k3
    go_wp2
    go_ret
    exact ⟨by rw [HT.out]; rfl, HB0.out⟩
  ·have HT : Hid (RB = false) := Lib.hid (by rw [HRB.out]; simp [k2])
   go_wp2
   go_ret
   exact ⟨by rw [HT.out]; rfl, HB0.out⟩
 ·have HT : Hid (RB = false) := Lib.hid (by rw [HRB.out]; simp [k1])
  go_wp2
  go_ret
  exact ⟨by rw [HT.out]; rfl, HB0.out⟩
end Go.Proofs.YtlkgeifmppadmaaGreat

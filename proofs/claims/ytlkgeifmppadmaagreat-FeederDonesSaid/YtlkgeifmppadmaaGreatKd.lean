/- The reference's keys that sign once: the public part, signing, the root. The program's digests. The reference's owners' signatures: what is right, what verifies, what is the same. The reference's owners' signatures: what verifies. The reference's owners: their trees of keys. The reference's owners: their key, their signatures. A row of texts of one's own, its elements anywhere but in the row's own block. Conditions: as each theorem states them. -/
import Derived.Test.YtlkgeifmppadmaaGreatKc
import Derived.Test.YtlkgeifmppadmaaGreatKb
import Derived.Deep.RegionHeld3
namespace Go.Proofs.YtlkgeifmppadmaaGreat
open Go.RowKit
set_option linter.unusedVariables false
set_option linter.unusedSimpArgs false

def pubAcc (seed : List UInt8) (key : Int) : Nat → List UInt8
  | 0 => []
  | j + 1 => pubAcc seed key j ++ shownS seed key j 0 ++ shownS seed key j 1
theorem pubAcc_length (seed : List UInt8) (key : Int) (j : Nat) : (pubAcc seed key j).length = 64 * j := by
  induction j with
  | zero => rfl
  | succ j ih => show (pubAcc seed key j ++ shownS seed key j 0 ++ shownS seed key j 1).length = _; rw [List.length_append, List.length_append, ih, shownS_length, shownS_length]; omega
def publicS (seed : List UInt8) (key : Int) : List UInt8 := tagH 12 [pubAcc seed key 32]
theorem publicS_length (seed : List UInt8) (key : Int) : (publicS seed key).length = 32 := tagH_length _ _
set_option maxRecDepth 100000 in
set_option maxHeartbeats 2000000 in
theorem rpublic_any (v : Value) (seed : List UInt8) (key : Int) (hk : 0 ≤ key ∧ key < 1000) (hsm : seed.length ≤ 1000000000) (w : World) (hx : Bys w v seed) :
    Calls Tryz.prog 43 #[v, .int .i64 key] w (RetB w (publicS seed key)) := by
  obtain ⟨i0, hi0, hz0, hz1, hz2⟩ := info_parts info_u8
  obtain ⟨A, c, rfl⟩ := hx.form
  have HX := Lib.hid hx
  clear hx
  have HPS : Hid (publicS seed key = tagH 12 [pubAcc seed key 32]) := Lib.hid rfl
  generalize publicS seed key = PS at *
  go_enter Tryz.func43, Tryz.ntmps43
  go_wp2
  go_loopw [5, 6] (fun v5 v6 wr => ∃ j : Nat, v6 = .int .i64 j ∧ j ≤ 32 ∧ Hid (Below w.heap.size w wr ∧ OwnB wr w.heap.size v5 (pubAcc seed key j))) (fun _ v _ => 32 - (intOf v).toNat)
  case atStart => exact ⟨0, rfl, by decide, Lib.hid ⟨Below.refl _ _, World.ownsRow_nil _ _ _ _⟩⟩
  case round =>
    obtain ⟨j, rfl, hj, HI⟩ := hrel
    have hlen := pubAcc_length seed key j
    by_cases hlt : j < 32
    · have HC0 := Lib.hid (fun (wz : World) (hz : Bys wz (.slice A seed.length c) seed) => rshown_any (.slice A seed.length c) seed key j 0 hk (by omega) (by decide) hsm wz hz)
      have HC1 := Lib.hid (fun (wz : World) (hz : Bys wz (.slice A seed.length c) seed) => rshown_any (.slice A seed.length c) seed key j 1 hk (by omega) (by decide) hsm wz hz)
      have HACC : Hid (pubAcc seed key (j + 1) = pubAcc seed key j ++ shownS seed key j 0 ++ shownS seed key j 1) := Lib.hid rfl
      have HL0 := Lib.hid (shownS_length seed key j 0)
      have HL1 := Lib.hid (shownS_length seed key j 1)
      have hD : (pubAcc seed key j).length ≤ 10000 := by omega
      generalize shownS seed key j 0 = S0 at *
      generalize shownS seed key j 1 = S1 at *
      generalize pubAcc seed key j = D at *
      clear hlen
      have hsz := HI.out.1.size
      obtain ⟨A5, c5, rfl⟩ := HI.out.2.form
      go_wp2_with fail
      refine (HC0.out wr (HX.out.below HI.out.1)).mono ?_
      rintro e w1 ⟨v1, rfl, h1, h2⟩
      obtain ⟨A1, c1, rfl⟩ := h1.form
      have H1 := Lib.hid (And.intro (HI.out.1.trans (h2.mono hsz)) (And.intro (HI.out.2.keep h2) h1.bys))
      have hsz1 := H1.out.1.size
      clear h1 h2
      go_wp2_with (at_builtin; (refine wpList_append_any rfl (.tmp 11) (.tmp 15) 26 rfl w.heap.size 5 i0 (.int .u8 0) 1 1 Tryz.underlying26 hi0 hz0 hz1 hz2 rfl (by decide) _ _ _ rfl H1.out.2.1.any _ S0.length (bys S0) rfl H1.out.2.2.news (by have := HL0.out; unfold maxLen; omega) (by have := HL0.out; omega) hsz1 ?_); intro v2 W2 hown2 hgrow2; have HB2 : Hid (Below w.heap.size w W2) := Lib.hid (H1.out.1.grown hgrow2 hsz1 (fun k e => OwnB.ge H1.out.2.1 e)); have HO2 : Hid (OwnB W2 w.heap.size v2 (D ++ S0)) := Lib.hid (OwnB.append rfl hown2); clear hown2 hgrow2)
      have hDS : (D ++ S0).length ≤ 20000 := by rw [List.length_append, HL0.out]; omega
      generalize hE : D ++ S0 = E at *
      have HE := Lib.hid hE
      clear hE
      obtain ⟨A2, c2, rfl⟩ := HO2.out.form
      refine (HC1.out W2 (HX.out.below HB2.out)).mono ?_
      rintro e w3 ⟨v3, rfl, h1, h2⟩
      obtain ⟨A3, c3, rfl⟩ := h1.form
      have H3 := Lib.hid (And.intro (HB2.out.trans (h2.mono HB2.out.size)) (And.intro (HO2.out.keep h2) h1.bys))
      have hsz3 := H3.out.1.size
      clear h1 h2
      go_wp2_with (at_builtin; (refine wpList_append_any rfl (.tmp 16) (.tmp 20) 26 rfl w.heap.size 5 i0 (.int .u8 0) 1 1 Tryz.underlying26 hi0 hz0 hz1 hz2 rfl (by decide) _ _ _ rfl H3.out.2.1.any _ S1.length (bys S1) rfl H3.out.2.2.news (by have := HL1.out; unfold maxLen; omega) (by have := HL1.out; omega) hsz3 ?_); intro v4 W4 hown4 hgrow4; have HB4 : Hid (Below w.heap.size w W4) := Lib.hid (H3.out.1.grown hgrow4 hsz3 (fun k e => OwnB.ge H3.out.2.1 e)); have HO4 : Hid (OwnB W4 w.heap.size v4 (E ++ S1)) := Lib.hid (OwnB.append rfl hown4); clear hown4 hgrow4)
      go_roundw
      case rel => exact ⟨j + 1, by go_num, by omega, Lib.hid ⟨HB4.out, by rw [HACC.out]; have := HO4.out; rwa [← HE.out] at this⟩⟩
      case measure => simp [intOf]; omega
    · obtain rfl : j = 32 := by omega
      have HB := Lib.hid HI.out.1
      have hle : (pubAcc seed key 32).length ≤ 2048 := by omega
      clear hlen
      generalize pubAcc seed key 32 = PA at *
      have hsz := HI.out.1.size
      obtain ⟨A5, c5, rfl⟩ := HI.out.2.form
      have HT := Lib.hid (rtag_any 12 12 rfl _ [PA] (by simp; omega) (by simp) _ (new1 26 (b := wr.heap.size) rfl HI.out.2.bys))
      rw [← HPS.out] at HT
      have hal := (Below.refl wr.heap.size wr).alloc (Nat.le_refl _) (.cells #[.slice A5 PA.length c5] 26)
      go_wp2_with fail
      refine HT.out.mono ?_
      rintro e w2 ⟨v2, rfl, h1, h2⟩
      have H2 := Lib.hid (And.intro h1 (hal.trans (h2.mono (by simp))))
      clear h1 h2 hal
      go_wp2
      go_ret
      exact ⟨_, rfl, own_mono' H2.out.1 (by simp; omega), HB.out.trans (H2.out.2.mono hsz)⟩

/-- A digest's bit. -/
def bitS (d : Int) (j : Nat) : Int := wrap64 (bits .and .u32 (d / 2 ^ (31 - j)) 1)
def partS (seed : List UInt8) (key d : Int) (j s : Nat) : List UInt8 := if (bitS d j == (s : Int)) = true then secretS seed key j s else shownS seed key j s
theorem partS_length (seed : List UInt8) (key d : Int) (j s : Nat) : (partS seed key d j s).length = 32 := by
  unfold partS
  split
  · exact secretS_length _ _ _ _
  · exact shownS_length _ _ _ _
/-- So many parts of a signature. -/
def sigAcc (seed : List UInt8) (key d : Int) : Nat → List (List UInt8)
  | 0 => []
  | n + 1 => sigAcc seed key d n ++ [partS seed key d (n / 2) (n % 2)]
theorem sigAcc_length (seed : List UInt8) (key d : Int) (n : Nat) : (sigAcc seed key d n).length = n := by
  induction n with
  | zero => rfl
  | succ n ih => show (sigAcc seed key d n ++ [_]).length = _; rw [List.length_append, ih]; rfl
def partsS (seed : List UInt8) (key : Int) (msg : List UInt8) : List (List UInt8) := sigAcc seed key (digS msg) 64
theorem partsS_length (seed : List UInt8) (key : Int) (msg : List UInt8) : (partsS seed key msg).length = 64 := sigAcc_length _ _ _ _
/-- A call that gives texts of its own, and turns nothing. -/
def RetR (w : World) (ls : List (List UInt8)) (e : Ending) (w' : World) : Prop := ∃ v', e = .returned v' ∧ OwnR w' w.heap.size v' ls ∧ Below w.heap.size w w'
theorem retr_push {wr w1 W : World} {B : Nat} {v : Value} {ls : List (List UInt8)} {x : List UInt8} {A1 : Option Addr} {c1 g cap : Nat}
    (hO : OwnR wr B v ls) (hsz : B ≤ wr.heap.size) (hb : Below wr.heap.size wr w1) (hx : OwnB w1 wr.heap.size (.slice A1 x.length c1) x)
    {us : List Value} (hu : ∀ i (h : i < ls.length), ∃ u, us[i]? = some u ∧ Bys w1 u ls[i] ∧ (0 < ls[i].length → u.ownBlock ≠ v.ownBlock ∧ ∀ g, u.ownBlock = some g → B ≤ g)) (hl : us.length = ls.length)
    (ho : W.ownsRow B 26 1 (.slice (some ⟨g, 0, none⟩) (ls.length + 1) cap) (ls.length + 1) (us ++ [.slice A1 x.length c1])) (hg : (w1.alloc (.cells #[.slice A1 x.length c1] 26)).grownBy W v.ownBlock) (hlie : v.ownBlock = some g ∨ g = w1.heap.size + 1) :
    OwnR W B (.slice (some ⟨g, 0, none⟩) (ls.length + 1) cap) (ls ++ [x]) ∧ Below B wr W := by
  refine ⟨OwnR.push hu hl hx.bys (fun h0 => ⟨fun e => ?_, fun g hg => Nat.le_trans hsz (hx.ge hg)⟩) ho hg hlie, ?_⟩
  · cases hq : v.ownBlock with
    | none =>
      rw [hq] at e
      obtain ⟨g', o', e1, _⟩ := hx.bys.place h0
      subst e1
      cases e
    | some q =>
      have h1 := hO.lt hq
      rw [hq] at e
      have h2 := hx.ge e
      omega
  · exact (hb.mono hsz).trans (((Below.refl B w1).alloc (Nat.le_trans hsz hb.size) _).grown hg (by have := hb.size; simp; omega) (fun k e => hO.ge e))

set_option maxRecDepth 100000 in
set_option maxHeartbeats 2000000 in
theorem rsign_any (v u : Value) (seed msg : List UInt8) (key : Int) (hk : 0 ≤ key ∧ key < 1000) (hsm : seed.length ≤ 1000000000) (hsm2 : msg.length ≤ 1000000000) (w : World) (hx : Bys w v seed) (hy : Bys w u msg) :
    Calls Tryz.prog 50 #[v, .int .i64 key, u] w (RetR w (partsS seed key msg)) := by
  obtain ⟨i0, hi0, hz0, hz1, hz2⟩ := info_parts info_bytes
  obtain ⟨A, c, rfl⟩ := hx.form
  obtain ⟨B, d, rfl⟩ := hy.form
  have HX := Lib.hid (And.intro hx hy)
  have HPS : Hid (partsS seed key msg = sigAcc seed key (digS msg) 64) := Lib.hid rfl
  generalize partsS seed key msg = PS at *
  clear hx hy
  go_enter Tryz.func50, Tryz.ntmps50
  go_wp2_with fail
  refine (rdigest_any _ msg hsm2 w HX.out.2).mono ?_
  rintro e w1 ⟨rfl, h1⟩
  have H1 := Lib.hid h1
  generalize digS msg = D at *
  clear h1
  go_wp2
  go_loopw [8, 9] (fun v8 v9 wr => ∃ j : Nat, v9 = .int .i64 j ∧ j ≤ 32 ∧ Hid (Below w.heap.size w wr ∧ OwnR wr w.heap.size v8 (sigAcc seed key D (2 * j)))) (fun _ v _ => 32 - (intOf v).toNat)
  case atStart => exact ⟨0, rfl, by decide, Lib.hid ⟨H1.out, OwnR.nil _ _⟩⟩
  case round =>
    obtain ⟨j, rfl, hj, HI⟩ := hrel
    by_cases hlt : j < 32
    · have es : IntKind.i64.wrap (31 - (j : Int)) = 31 - (j : Int) := IntWalk.i64_in _ (by omega)
      have hdj : decide ((j : Int) < 32) = true := by simp; omega
      go_wp2
      go_loopw [8, 10] (fun v8 v10 wr => ∃ s : Nat, v10 = .int .i64 s ∧ s ≤ 2 ∧ Hid (Below w.heap.size w wr ∧ OwnR wr w.heap.size v8 (sigAcc seed key D (2 * j + s)))) (fun _ v _ => 2 - (intOf v).toNat)
      case atStart => exact ⟨0, rfl, by decide, HI⟩
      case round =>
        clear HI
        obtain ⟨s, rfl, hs, HJ⟩ := hrel
        by_cases hlt2 : s < 2
        · have HSEC := Lib.hid (fun (wz : World) (hz : Bys wz (.slice A seed.length c) seed) => rsecret_any (.slice A seed.length c) seed key j s hk (by omega) (by omega) hsm wz hz)
          have HSHO := Lib.hid (fun (wz : World) (hz : Bys wz (.slice A seed.length c) seed) => rshown_any (.slice A seed.length c) seed key j s hk (by omega) (by omega) hsm wz hz)
          have HACC : Hid (sigAcc seed key D (2 * j + s + 1) = sigAcc seed key D (2 * j + s) ++ [partS seed key D j s]) := Lib.hid (by
            show sigAcc seed key D (2 * j + s) ++ [partS seed key D ((2 * j + s) / 2) ((2 * j + s) % 2)] = _
            rw [show (2 * j + s) / 2 = j by omega, show (2 * j + s) % 2 = s by omega])
          have hal : (sigAcc seed key D (2 * j + s)).length ≤ 100 := by rw [sigAcc_length]; omega
          have HPART : Hid (partS seed key D j s = if (bitS D j == (s : Int)) = true then secretS seed key j s else shownS seed key j s) := Lib.hid rfl
          have ebit : wrap64 (bits BinOp.and IntKind.u32 (D / 2 ^ (31 - j)) 1) = bitS D j := rfl
          have hl1 := Lib.hid (secretS_length seed key j s)
          have hl2 := Lib.hid (shownS_length seed key j s)
          generalize partS seed key D j s = PT at *
          generalize secretS seed key j s = SE at *
          generalize shownS seed key j s = SH at *
          generalize bitS D j = BI at *
          generalize sigAcc seed key D (2 * j + s) = L at *
          have hsz := HJ.out.1.size
          obtain ⟨A8, c8, rfl⟩ := HJ.out.2.rws.form
          by_cases hbit : (BI == (s : Int)) = true
          · have HPT : Hid (PT = SE) := Lib.hid (by rw [HPART.out, if_pos hbit])
            go_wp2_with fail
            refine (HSEC.out wr (HX.out.1.below HJ.out.1)).mono ?_
            rintro e w2 ⟨v2, rfl, h1, h2⟩
            obtain ⟨A2, c2, rfl⟩ := h1.form
            obtain ⟨us, hu1, hu2⟩ := HJ.out.2.keep h2
            have H2 := Lib.hid (And.intro h1 (And.intro h2 (And.intro hu1 hu2)))
            have hsz2 := h2.size
            clear h1 h2 hu1 hu2
            go_wp2_with (at_builtin; (refine wpList_append_lies _ rfl (.tmp 30) (.tmp 36) 27 rfl w.heap.size 26 i0 (.slice none 0 0) 1 24 Tryz.underlying27 hi0 hz0 hz1 hz2 rfl (by decide) _ L.length us rfl (World.ownsRow.alloc H2.out.2.2.1 _) ⟨w2.heap.size, 0, none⟩ 1 1 [.slice A2 SE.length c2] rfl rfl (World.news_of_block (blk_new _ _)) (by simp [Value.oneCell']) (by decide) (by unfold maxLen; omega) (by omega) (by simp; omega) (w2.heap.size + 1) (by simp) ?_); intro g3 c3 W3 hown3 hgrow3 hlie3 hlt3)
            have HR3 := Lib.hid (retr_push HJ.out.2 hsz H2.out.2.1 H2.out.1 H2.out.2.2.2 (by have := H2.out.2.2.1.1; omega) hown3 hgrow3 hlie3)
            go_roundw
            case rel => exact ⟨s + 1, by go_num, by omega, Lib.hid ⟨HJ.out.1.trans HR3.out.2, by rw [← Nat.add_assoc, HACC.out, HPT.out]; exact HR3.out.1⟩⟩
            case measure => simp [intOf]; omega
          · have hbf : (BI == (s : Int)) = false := by simpa using hbit
            have HPT : Hid (PT = SH) := Lib.hid (by rw [HPART.out, if_neg hbit])
            have HBIT := Lib.hid hbit
            clear hbit
            go_wp2_with fail
            refine (HSHO.out wr (HX.out.1.below HJ.out.1)).mono ?_
            rintro e w2 ⟨v2, rfl, h1, h2⟩
            obtain ⟨A2, c2, rfl⟩ := h1.form
            obtain ⟨us, hu1, hu2⟩ := HJ.out.2.keep h2
            have H2 := Lib.hid (And.intro h1 (And.intro h2 (And.intro hu1 hu2)))
            have hsz2 := h2.size
            clear h1 h2 hu1 hu2
            go_wp2_with (at_builtin; (refine wpList_append_lies _ rfl (.tmp 38) (.tmp 44) 27 rfl w.heap.size 26 i0 (.slice none 0 0) 1 24 Tryz.underlying27 hi0 hz0 hz1 hz2 rfl (by decide) _ L.length us rfl (World.ownsRow.alloc H2.out.2.2.1 _) ⟨w2.heap.size, 0, none⟩ 1 1 [.slice A2 SH.length c2] rfl rfl (World.news_of_block (blk_new _ _)) (by simp [Value.oneCell']) (by decide) (by unfold maxLen; omega) (by omega) (by simp; omega) (w2.heap.size + 1) (by simp) ?_); intro g3 c3 W3 hown3 hgrow3 hlie3 hlt3)
            have HR3 := Lib.hid (retr_push HJ.out.2 hsz H2.out.2.1 H2.out.1 H2.out.2.2.2 (by have := H2.out.2.2.1.1; omega) hown3 hgrow3 hlie3)
            go_roundw
            case rel => exact ⟨s + 1, by go_num, by omega, Lib.hid ⟨HJ.out.1.trans HR3.out.2, by rw [← Nat.add_assoc, HACC.out, HPT.out]; exact HR3.out.1⟩⟩
            case measure => simp [intOf]; omega
        · obtain rfl : s = 2 := by omega
          go_wp2
          go_roundw
          case rel => exact ⟨j + 1, by go_num, by omega, HJ⟩
          case measure => simp [intOf]; omega
    · obtain rfl : j = 32 := by omega
      go_wp2
      go_ret
      exact ⟨_, rfl, by rw [HPS.out]; exact HI.out.2, HI.out.1⟩
/-- What a signature's parts lead to. -/
def rootPart (d : Int) (i : Nat) (p : List UInt8) : List UInt8 := if (bitS d (i / 2) == ((i % 2 : Nat) : Int)) = true then tagH 11 [p] else p
def rootAcc (d : Int) (ls : List (List UInt8)) : Nat → List UInt8
  | 0 => []
  | i + 1 => rootAcc d ls i ++ rootPart d i (ls.getD i [])
def hashesB (ls : List (List UInt8)) : Bool := ls.all (fun l => l.length == 32)
def rootS (msg : List UInt8) (ls : List (List UInt8)) : List UInt8 := tagH 12 [rootAcc (digS msg) ls 64]
theorem rootPart_length (d : Int) (i : Nat) (p : List UInt8) (h : p.length = 32) : (rootPart d i p).length = 32 := by
  unfold rootPart
  split
  · exact tagH_length _ _
  · exact h
set_option maxRecDepth 100000 in
set_option maxHeartbeats 2000000 in
theorem rroot_any (v u : Value) (msg : List UInt8) (ls : List (List UInt8)) (h64 : ls.length = 64) (h32 : ∀ i (h : i < ls.length), ls[i].length = 32) (hsm : msg.length ≤ 1000000000) (w : World) (hx : Bys w v msg) (hy : Rws w u ls) :
    Calls Tryz.prog 90 #[v, u] w fun e w' => ∃ v', e = .returned (.tuple #[v', .bool true]) ∧ OwnB w' w.heap.size v' (rootS msg ls) ∧ Below w.heap.size w w' := by
  obtain ⟨i0, hi0, hz0, hz1, hz2⟩ := info_parts info_u8
  obtain ⟨A, c, rfl⟩ := hx.form
  obtain ⟨B, d, rfl⟩ := hy.form
  have HX := Lib.hid (And.intro hx hy)
  have H64 := Lib.hid h64
  have H32 := Lib.hid h32
  have HRS : Hid (rootS msg ls = tagH 12 [rootAcc (digS msg) ls 64]) := Lib.hid rfl
  generalize rootS msg ls = RS at *
  have hne : (((ls.length : Nat) : Int) != 64) = false := by simp [h64]
  clear hx hy h64 h32
  go_enter Tryz.func90, Tryz.ntmps90
  go_wp2_with fail
  refine (rdigest_any _ msg hsm w HX.out.1).mono ?_
  rintro e w1 ⟨rfl, h1⟩
  have H1 := Lib.hid h1
  generalize digS msg = D at *
  clear h1 hne
  go_wp2
  go_loopw [7, 8] (fun v7 v8 wr => ∃ i : Nat, v8 = .int .i64 i ∧ i ≤ ls.length ∧ Hid (Below w.heap.size w wr ∧ OwnB wr w.heap.size v7 (rootAcc D ls i) ∧ (rootAcc D ls i).length = 32 * i)) (fun _ v _ => ls.length - (intOf v).toNat)
  case atStart => exact ⟨0, rfl, Nat.zero_le _, Lib.hid ⟨H1.out, World.ownsRow_nil _ _ _ _, rfl⟩⟩
  case round =>
    obtain ⟨i, rfl, hi, HI⟩ := hrel
    by_cases hlt : i < ls.length
    · have hi64 : i < 64 := by have := H64.out; omega
      obtain ⟨g, o, up, rfl, hg, -, -, hcu, hbu⟩ := HX.out.2.at' i hlt
      have p0 := (HI.out.1.cell (p := ⟨g, o + i, none⟩) hg).trans hcu
      have HBU := hbu.below HI.out.1
      obtain ⟨A9, c9, rfl⟩ := HBU.form
      have HU := Lib.hid HBU
      have HL := Lib.hid (H32.out i hlt)
      have HACC : Hid (rootAcc D ls (i + 1) = rootAcc D ls i ++ rootPart D i ls[i]) := Lib.hid (by
        show rootAcc D ls i ++ rootPart D i (ls.getD i []) = _
        rw [List.getD_eq_getElem?_getD, List.getElem?_eq_getElem hlt]; rfl)
      have HPART : Hid (rootPart D i ls[i] = if (bitS D (i / 2) == ((i % 2 : Nat) : Int)) = true then tagH 11 [ls[i]] else ls[i]) := Lib.hid rfl
      have hpl := Lib.hid (rootPart_length D i ls[i] HL.out)
      have hnl : (((ls[i].length : Nat) : Int) != 32) = false := by simp [HL.out]
      have hal : (rootAcc D ls i).length ≤ 10000 := by have := HI.out.2.2; omega
      have ebit : wrap64 (bits BinOp.and IntKind.u32 (D / 2 ^ (31 - i / 2)) 1) = bitS D (i / 2) := rfl
      have HTG := Lib.hid (fun (wz : World) (hz : Bys wz (.slice A9 ls[i].length c9) ls[i]) => rtag_any 11 11 rfl _ [ls[i]] (by simp; have := HL.out; omega) (by simp) _ (new1 26 (b := wz.heap.size) rfl hz))
      have htl := Lib.hid (tagH_length 11 [ls[i]])
      clear hcu hbu HBU
      generalize rootPart D i ls[i] = PT at *
      generalize tagH 11 [ls[i]] = TG at *
      generalize ls[i] = P at *
      generalize bitS D (i / 2) = BI at *
      have hsz := HI.out.1.size
      obtain ⟨A7, c7, rfl⟩ := HI.out.2.1.form
      have HII := Lib.hid HI.out
      generalize rootAcc D ls i = RA at *
      by_cases hbit : (BI == (i : Int) % 2) = true
      · have HPT : Hid (PT = TG) := Lib.hid (by rw [HPART.out, if_pos (by simpa using hbit)])
        go_wp2_with fail
        have hal1 := (Below.refl wr.heap.size wr).alloc (Nat.le_refl _) (.cells #[.slice A9 P.length c9] 26)
        refine (HTG.out wr HU.out).mono ?_
        rintro e w2 ⟨v2, rfl, h1, h2⟩
        obtain ⟨A2, c2, rfl⟩ := h1.form
        have hb2 := hal1.trans (h2.mono (by simp))
        have H2 := Lib.hid (And.intro (HI.out.1.trans (hb2.mono hsz)) (And.intro (HI.out.2.1.keep hb2) h1.bys))
        have hsz2 := H2.out.1.size
        clear h1 h2 hb2 hal1
        go_wp2_with (at_builtin; (refine wpList_append_any rfl (.tmp 45) (.tmp 46) 26 rfl w.heap.size 5 i0 (.int .u8 0) 1 1 Tryz.underlying26 hi0 hz0 hz1 hz2 rfl (by decide) _ _ _ rfl H2.out.2.1.any _ TG.length (bys TG) rfl H2.out.2.2.news (by have := htl.out; unfold maxLen; omega) (by have := htl.out; omega) hsz2 ?_); intro v4 W4 hown4 hgrow4)
        have HB4 : Hid (Below w.heap.size w W4) := Lib.hid (H2.out.1.grown hgrow4 hsz2 (fun k e => OwnB.ge H2.out.2.1 e))
        have HO4 : Hid (OwnB W4 w.heap.size v4 (RA ++ TG)) := Lib.hid (OwnB.append rfl hown4)
        go_roundw
        case rel => exact ⟨i + 1, by go_num, by omega, Lib.hid ⟨HB4.out, by rw [HACC.out, HPT.out]; exact HO4.out, by rw [HACC.out, HPT.out, List.length_append, HI.out.2.2, htl.out]; omega⟩⟩
        case measure => simp [intOf]; omega
      · have hbf : (BI == (i : Int) % 2) = false := by simpa using hbit
        have HPT : Hid (PT = P) := Lib.hid (by rw [HPART.out, if_neg (by simpa using hbit)])
        have HBIT := Lib.hid hbit
        clear hbit
        go_wp2_with (at_builtin; (refine wpList_append_any rfl (.tmp 45) (.tmp 46) 26 rfl w.heap.size 5 i0 (.int .u8 0) 1 1 Tryz.underlying26 hi0 hz0 hz1 hz2 rfl (by decide) _ _ _ rfl HI.out.2.1.any _ P.length (bys P) rfl HU.out.news (by have := HL.out; unfold maxLen; omega) (by have := HL.out; omega) hsz ?_); intro v4 W4 hown4 hgrow4)
        have HB4 : Hid (Below w.heap.size w W4) := Lib.hid (HI.out.1.grown hgrow4 hsz (fun k e => OwnB.ge HI.out.2.1 e))
        have HO4 : Hid (OwnB W4 w.heap.size v4 (RA ++ P)) := Lib.hid (OwnB.append rfl hown4)
        go_roundw
        case rel => exact ⟨i + 1, by go_num, by omega, Lib.hid ⟨HB4.out, by rw [HACC.out, HPT.out]; exact HO4.out, by rw [HACC.out, HPT.out, List.length_append, HI.out.2.2, HL.out]; omega⟩⟩
        case measure => simp [intOf]; omega
    · have hi64 : Hid (i = 64) := Lib.hid (by have := H64.out; omega)
      have HB := Lib.hid HI.out.1
      have hsz := HI.out.1.size
      have hrl : (rootAcc D ls i).length ≤ 10000 := by have := HI.out.2.2; have := hi64.out; omega
      have HRA : Hid (rootAcc D ls i = rootAcc D ls 64) := Lib.hid (by rw [hi64.out])
      obtain ⟨A7, c7, rfl⟩ := HI.out.2.1.form
      have HO := Lib.hid HI.out.2.1
      generalize rootAcc D ls i = RA at *
      have HT := Lib.hid (rtag_any 12 12 rfl _ [RA] (by simp; omega) (by simp) _ (new1 26 (b := wr.heap.size) rfl HO.out.bys))
      rw [HRA.out, ← HRS.out, ← HRA.out] at HT
      have hal := (Below.refl wr.heap.size wr).alloc (Nat.le_refl _) (.cells #[.slice A7 RA.length c7] 26)
      go_wp2_with fail
      refine HT.out.mono ?_
      rintro e w2 ⟨v2, rfl, h1, h2⟩
      have H2 := Lib.hid (And.intro h1 (hal.trans (h2.mono (by simp))))
      clear h1 h2 hal
      go_wp2
      go_ret2
      exact ⟨_, rfl, own_mono' H2.out.1 (by simp; omega), HB.out.trans (H2.out.2.mono hsz)⟩
end Go.Proofs.YtlkgeifmppadmaaGreat
namespace Go.Proofs.YtlkgeifmppadmaaGreat
open Go.RowKit
set_option linter.unusedVariables false
set_option linter.unusedSimpArgs false

set_option maxRecDepth 100000 in
set_option maxHeartbeats 1000000 in
theorem pdigest_any (v : Value) (msg : List UInt8) (hsm : msg.length ≤ 1000000000) (w : World) (hx : Bys w v msg) :
    Calls Tryz.prog 96 #[v] w fun e w' => e = .returned (.int .u32 (digS msg)) ∧ Below w.heap.size w w' := by
  obtain ⟨A, c, rfl⟩ := hx.form
  have HX := Lib.hid hx
  clear hx
  have hL := tagH_length 13 [msg]
  have HD : Hid (digS msg = wordAt (tagH 13 [msg]) 0 4) := Lib.hid rfl
  generalize digS msg = DS at *
  generalize hTE : tagH 13 [msg] = T at *
  have HTE := Lib.hid hTE
  clear hTE
  go_enter Tryz.func96, Tryz.ntmps96
  have hal := (Below.refl w.heap.size w).alloc (Nat.le_refl _) (.cells #[.slice A msg.length c] 26)
  go_wp2_with fail
  have HT := Lib.hid (ptag_any 13 13 rfl _ [msg] (by simp; omega) (by simp) _ (new1 26 (b := w.heap.size) rfl HX.out))
  rw [HTE.out] at HT
  refine HT.out.mono ?_
  rintro e w1 ⟨v1, rfl, h1, h2⟩
  obtain ⟨A1, c1, rfl⟩ := h1.form
  obtain ⟨g, o, rfl, -, hg, hc1, -, hcells⟩ := h1.bys.place (by omega)
  have H1 := Lib.hid (hal.trans (h2.mono (by simp)))
  have HC : Hid (∀ k, k < 4 → ∃ x : Nat, x < 256 ∧ w1.cell? ⟨g, o + k, none⟩ = some (.int .u8 x) ∧ wordAt T 0 (k + 1) = bits .or .u32 (wordAt T 0 k * 256 % 4294967296) x) := Lib.hid (fun k hk => by
    have hkT : k < T.length := by omega
    refine ⟨T[k].toNat, T[k].toNat_lt, hcells k hkT, ?_⟩
    have := wordAt_succ T 0 k (by omega)
    simpa using this)
  have HLT := Lib.hid hL
  have hc4 : (4 : Int) ≤ (c1 : Int) := by omega
  have hw0 : Hid (wordAt T 0 0 = 0) := Lib.hid (by simp [wordAt])
  clear HT h1 h2 hal hcells hL
  generalize T.length = TL at *
  go_wp2
  go_loopw [3, 11] (fun v3 v11 wr => ∃ k : Nat, v3 = .int .u32 (wordAt T 0 k) ∧ v11 = .int .i64 k ∧ k ≤ 4 ∧ Hid (Below w1.heap.size w1 wr)) (fun _ v _ => 4 - (intOf v).toNat)
  case atStart => exact ⟨0, by rw [hw0.out], rfl, by decide, Lib.hid (Below.refl _ _)⟩
  case round =>
    obtain ⟨k, rfl, rfl, hk, HI⟩ := hrel
    by_cases hlt : k < 4
    · obtain ⟨x, hx, hc, hw⟩ := HC.out k hlt
      have p0 := (HI.out.cell (p := ⟨g, o + k, none⟩) hg).trans hc
      have HWS := Lib.hid hw
      have ex : ((x : Nat) : Int) % 4294967296 = (x : Nat) := by omega
      clear hc hw
      generalize wordAt T 0 k = X at *
      go_wp2
      go_roundw
      case rel => exact ⟨k + 1, by rw [HWS.out], by go_num, by omega, HI⟩
      case measure => simp [intOf]; omega
    · obtain rfl : k = 4 := by omega
      go_wp2
      go_ret
      exact ⟨by rw [HD.out]; rfl, H1.out.trans (HI.out.mono H1.out.size)⟩

theorem told_any (d : Int) (j : Nat) (s : Int) (hj : j < 32) (w : World) :
    Calls Tryz.prog 97 #[.int .u32 d, .int .i64 j, .int .i64 s] w fun e w' => e = .returned (.bool (bitS d j == s)) ∧ w = w' := by
  have es : IntKind.i64.wrap (31 - (j : Int)) = 31 - (j : Int) := IntWalk.i64_in _ (by omega)
  have et : (31 - (j : Int)).toNat = 31 - j := by omega
  have HB : Hid (bitS d j = wrap64 (bits .and .u32 (d / 2 ^ (31 - j)) 1)) := Lib.hid rfl
  go_enter Tryz.func97, Tryz.ntmps97
  go_wp2
  go_ret
  exact ⟨by rw [HB.out]; rfl, rfl⟩
end Go.Proofs.YtlkgeifmppadmaaGreat
namespace Go.Proofs.YtlkgeifmppadmaaGreat
open Go.RowKit
set_option linter.unusedVariables false
set_option linter.unusedSimpArgs false

structure SigD where
  index : Int
  parts : List (List UInt8)
  path : List (List UInt8)
/-- The three cells show a signature. -/
def SigAt (w : World) (i p q : Value) (s : SigD) : Prop := i = .int .i64 s.index ∧ Rws w p s.parts ∧ Rws w q s.path
def SigV (w : World) (v : Value) (s : SigD) : Prop := ∃ p q, v = .agg #[.int .i64 s.index, p, q] ∧ Rws w p s.parts ∧ Rws w q s.path
theorem SigV.below {w w1 : World} {v : Value} {s : SigD} (h : SigV w v s) (hb : Below w.heap.size w w1) : SigV w1 v s := by
  obtain ⟨p, q, e, h1, h2⟩ := h
  exact ⟨p, q, e, h1.below hb, h2.below hb⟩
def len32 (l : List UInt8) : Bool := l.length == 32
def rightB (s : SigD) : Bool := (decide (0 ≤ s.index) && decide (s.index < 16) && decide (s.parts.length = 64) && decide (s.path.length = 4)) && (s.parts.all len32 && s.path.all len32)
theorem rightB_facts {s : SigD} (h : rightB s = true) : 0 ≤ s.index ∧ s.index < 16 ∧ s.parts.length = 64 ∧ s.path.length = 4 ∧ (∀ i (h : i < s.parts.length), s.parts[i].length = 32) ∧ ∀ i (h : i < s.path.length), s.path[i].length = 32 := by
  simp only [rightB, Bool.and_eq_true, decide_eq_true_eq, List.all_eq_true, len32, beq_iff_eq] at h
  obtain ⟨⟨⟨⟨h1, h2⟩, h3⟩, h4⟩, h5, h6⟩ := h
  exact ⟨h1, h2, h3, h4, fun i hi => h5 _ (List.getElem_mem hi), fun i hi => h6 _ (List.getElem_mem hi)⟩
theorem all32_not {ls : List (List UInt8)} (i : Nat) (h : i < ls.length) (hn : ls[i].length ≠ 32) : ls.all len32 = false := by
  rw [List.all_eq_false]
  exact ⟨_, List.getElem_mem h, by simp [len32, hn]⟩
theorem all32_of {ls : List (List UInt8)} (h : ∀ i (h : i < ls.length), ls[i].length = 32) : ls.all len32 = true := by
  rw [List.all_eq_true]
  intro x hx
  obtain ⟨i, hi, rfl⟩ := List.getElem_of_mem hx
  simp [len32, h i hi]

set_option maxRecDepth 100000 in
set_option maxHeartbeats 2000000 in
theorem rright_any (v : Value) (s : SigD) (hp : s.parts.length ≤ 1000000000) (hq : s.path.length ≤ 1000000000) (hl : ∀ i (h : i < s.parts.length), s.parts[i].length ≤ 1000000000) (hl2 : ∀ i (h : i < s.path.length), s.path[i].length ≤ 1000000000) (w : World) (hv : SigV w v s) :
    Calls Tryz.prog 89 #[v] w fun e w' => e = .returned (.bool (rightB s)) ∧ Below w.heap.size w w' := by
  obtain ⟨p, q, rfl, h1, h2⟩ := hv
  obtain ⟨P, cp, rfl⟩ := h1.form
  obtain ⟨Q, cq, rfl⟩ := h2.form
  have HB0 := Lib.hid ((Below.refl w.heap.size w).alloc (Nat.le_refl _) (.cells #[.int .i64 s.index, .slice P s.parts.length cp, .slice Q s.path.length cq] 38))
  have HR := Lib.hid (And.intro h1 h2)
  have HL := Lib.hid (And.intro hl hl2)
  have HRB : Hid (rightB s = ((decide (0 ≤ s.index) && decide (s.index < 16) && decide (s.parts.length = 64) && decide (s.path.length = 4)) && (s.parts.all len32 && s.path.all len32))) := Lib.hid rfl
  clear h1 h2 hl hl2
  generalize rightB s = RB at *
  generalize s.index = ix at *
  generalize s.parts = Ps at *
  generalize s.path = Qs at *
  go_enter Tryz.func89, Tryz.ntmps89
  by_cases hok : 0 ≤ ix ∧ ix < 16 ∧ Ps.length = 64 ∧ Qs.length = 4
  · obtain ⟨k1, k2, k3, k4⟩ := hok
    have HK := Lib.hid (And.intro k3 k4)
    have HRB2 : Hid (RB = (Ps.all len32 && Qs.all len32)) := Lib.hid (by rw [HRB.out]; simp [k1, k2, k3, k4])
    have n3 : (((Ps.length : Nat) : Int) != 64) = false := by simp [k3]
    have n4 : (((Qs.length : Nat) : Int) != 4) = false := by simp [k4]
    clear k3 k4
    have HX2 : Hid (Blk ((w.alloc (.cells #[.int .i64 ix, .slice P Ps.length cp, .slice Q Qs.length cq] 38)).alloc (.cells #[.slice P Ps.length cp, .slice Q Qs.length cq] 27)) (w.heap.size + 1) 27 [.slice P Ps.length cp, .slice Q Qs.length cq]) := Lib.hid (blk2 w _ _ _ _ _ rfl).2.2
    go_wp2
    go_loopw [32] (fun v32 wr => ∃ k : Nat, v32 = .int .i64 k ∧ k ≤ 2 ∧ Hid (Below w.heap.size w wr ∧ Blk wr (w.heap.size + 1) 27 [.slice P Ps.length cp, .slice Q Qs.length cq] ∧ (1 ≤ k → Ps.all len32 = true) ∧ (2 ≤ k → Qs.all len32 = true))) (fun v _ => 2 - (intOf v).toNat)
    case atStart => exact ⟨0, rfl, by decide, Lib.hid ⟨HB0.out.alloc (by simp) _, HX2.out, fun h => by omega, fun h => by omega⟩⟩
    case round =>
      obtain ⟨k, rfl, hk, HI⟩ := hrel
      by_cases hlt : k < 2
      · obtain ⟨A, c, L, hc, HL2⟩ : ∃ A c L, wr.cell? ⟨w.heap.size + 1, k, none⟩ = some (.slice A (List.length L) c) ∧ Hid (Rws w (.slice A (List.length L) c) L ∧ L.length ≤ 1000000000 ∧ (∀ i (h : i < L.length), L[i].length ≤ 1000000000) ∧ ((k = 0 ∧ L = Ps) ∨ (k = 1 ∧ L = Qs))) := by
          obtain rfl | rfl : k = 0 ∨ k = 1 := by omega
          · exact ⟨P, cp, Ps, HI.out.2.1.cell 0 _ rfl, Lib.hid ⟨HR.out.1, hp, HL.out.1, .inl ⟨rfl, rfl⟩⟩⟩
          · exact ⟨Q, cq, Qs, HI.out.2.1.cell 1 _ rfl, Lib.hid ⟨HR.out.2, hq, HL.out.2, .inr ⟨rfl, rfl⟩⟩⟩
        have hLm : L.length ≤ 1000000000 := HL2.out.2.1
        go_wp2
        go_loopw [5] (fun v5 wr => ∃ i : Nat, v5 = .int .i64 i ∧ i ≤ L.length ∧ Hid (Below w.heap.size w wr ∧ Blk wr (w.heap.size + 1) 27 [.slice P Ps.length cp, .slice Q Qs.length cq] ∧ ∀ j (h : j < L.length), j < i → L[j].length = 32)) (fun v _ => L.length - (intOf v).toNat)
        case atStart => exact ⟨0, rfl, Nat.zero_le _, Lib.hid ⟨HI.out.1, HI.out.2.1, fun j h hj => by omega⟩⟩
        case round =>
          obtain ⟨i, rfl, hi, HJ⟩ := hrel
          by_cases hlt2 : i < L.length
          · obtain ⟨g, o, u, rfl, hg, -, -, hcu, hbu⟩ := HL2.out.1.at' i hlt2
            have p0 := (HJ.out.1.cell (p := ⟨g, o + i, none⟩) hg).trans hcu
            obtain ⟨A9, c9, rfl⟩ := hbu.form
            have hl9 := HL2.out.2.2.1 i hlt2
            clear hcu hbu hc
            by_cases h32 : L[i].length = 32
            · have hnl : (((L[i].length : Nat) : Int) != 32) = false := by simp [h32]
              have H32 := Lib.hid h32
              clear h32
              go_wp2
              go_roundw
              case rel => exact ⟨i + 1, by go_num, by omega, Lib.hid ⟨HJ.out.1, HJ.out.2.1, fun j h hj => by
                by_cases e : j = i
                · subst e; exact H32.out
                · exact HJ.out.2.2 j h (by omega)⟩⟩
              case measure => simp [intOf]; omega
            · have hnl : (((L[i].length : Nat) : Int) != 32) = true := by simp; omega
              have HF : Hid (RB = false) := Lib.hid (by
                rw [HRB2.out]
                have := all32_not i hlt2 h32
                rcases HL2.out.2.2.2 with ⟨_, rfl⟩ | ⟨_, rfl⟩
                · rw [this]; rfl
                · rw [this, Bool.and_false])
              have H32 := Lib.hid h32
              clear h32
              go_wp2
              go_ret
              exact ⟨by rw [HF.out]; rfl, HJ.out.1⟩
          · have HA : Hid (L.all len32 = true) := Lib.hid (all32_of (fun j h => HJ.out.2.2 j h (by omega)))
            go_wp2
            go_roundw
            case rel => exact ⟨k + 1, by go_num, by omega, Lib.hid ⟨HJ.out.1, HJ.out.2.1, fun h => by
              rcases HL2.out.2.2.2 with ⟨rfl, rfl⟩ | ⟨rfl, rfl⟩
              · exact HA.out
              · exact HI.out.2.2.1 (Nat.le_refl _), fun h => by
              rcases HL2.out.2.2.2 with ⟨rfl, rfl⟩ | ⟨rfl, rfl⟩
              · omega
              · exact HA.out⟩⟩
            case measure => simp [intOf]; omega
      · obtain rfl : k = 2 := by omega
        have HT : Hid (RB = true) := Lib.hid (by rw [HRB2.out, HI.out.2.2.1 (by decide), HI.out.2.2.2 (Nat.le_refl _)]; rfl)
        go_wp2
        go_ret
        exact ⟨by rw [HT.out]; rfl, HI.out.1⟩
  · have HF : Hid (RB = false) := Lib.hid (by
      rw [HRB.out]
      have : (decide (0 ≤ ix) && decide (ix < 16) && decide (Ps.length = 64) && decide (Qs.length = 4)) = false := by
        rw [Bool.eq_false_iff]
        intro h
        simp only [Bool.and_eq_true, decide_eq_true_eq] at h
        exact hok ⟨h.1.1.1, h.1.1.2, h.1.2, h.2⟩
      rw [this, Bool.false_and])
    by_cases k1 : ix < 0
    · go_wp2
      go_ret
      exact ⟨by rw [HF.out]; rfl, HB0.out⟩
    · by_cases k2 : 16 ≤ ix
      · go_wp2
        go_ret
        exact ⟨by rw [HF.out]; rfl, HB0.out⟩
      · by_cases k3 : Ps.length = 64
        · have k4 : Qs.length ≠ 4 := fun h => hok ⟨by omega, by omega, k3, h⟩
          have n3 : (((Ps.length : Nat) : Int) != 64) = false := by simp [k3]
          have n4 : (((Qs.length : Nat) : Int) != 4) = true := by simp; omega
          clear k3 k4 hok
          go_wp2
          go_ret
          exact ⟨by rw [HF.out]; rfl, HB0.out⟩
        · have n3 : (((Ps.length : Nat) : Int) != 64) = true := by simp; omega
          clear k3 hok
          go_wp2
          go_ret
          exact ⟨by rw [HF.out]; rfl, HB0.out⟩
end Go.Proofs.YtlkgeifmppadmaaGreat
namespace Go.Proofs.YtlkgeifmppadmaaGreat
open Go.RowKit
set_option linter.unusedVariables false
set_option linter.unusedSimpArgs false

/-- On which side a node stands. -/
def sideS (ix : Int) (h : Nat) : Int := bits .and .i64 (ix / 2 ^ h) 1
def upS (ix : Int) (path : List (List UInt8)) (r : List UInt8) : Nat → List UInt8
  | 0 => r
  | h + 1 => if (sideS ix h == 0) = true then tagH 14 [upS ix path r h, path.getD h []] else tagH 14 [path.getD h [], upS ix path r h]
theorem upS_length (ix : Int) (path : List (List UInt8)) (r : List UInt8) (hr : r.length = 32) (h : Nat) : (upS ix path r h).length = 32 := by
  induction h with
  | zero => exact hr
  | succ h ih =>
    unfold upS
    split
    · exact tagH_length _ _
    · exact tagH_length _ _
def verifyB (pub msg : List UInt8) (s : SigD) : Bool := rightB s && (upS s.index s.path (rootS msg s.parts) 4 == pub)
set_option maxRecDepth 100000 in
set_option maxHeartbeats 2000000 in
theorem rverify_any (vp vm v : Value) (pub msg : List UInt8) (s : SigD) (hpub : pub.length ≤ 1000000000) (hmsg : msg.length ≤ 1000000000) (hp : s.parts.length ≤ 1000000000) (hq : s.path.length ≤ 1000000000) (hl : ∀ i (h : i < s.parts.length), s.parts[i].length ≤ 1000000000) (hl2 : ∀ i (h : i < s.path.length), s.path[i].length ≤ 1000000000) (w : World) (hvp : Bys w vp pub) (hvm : Bys w vm msg) (hv : SigV w v s) :
    Calls Tryz.prog 62 #[vp, vm, v] w fun e w' => e = .returned (.bool (verifyB pub msg s)) ∧ Below w.heap.size w w' := by
  have HRI := Lib.hid (fun (wz : World) (v : Value) (hz : SigV wz v s) => rright_any v s hp hq hl hl2 wz hz)
  obtain ⟨p, q, rfl, h1, h2⟩ := hv
  obtain ⟨P, cp, rfl⟩ := h1.form
  obtain ⟨Q, cq, rfl⟩ := h2.form
  obtain ⟨A, c, rfl⟩ := hvp.form
  obtain ⟨B, d, rfl⟩ := hvm.form
  have HR := Lib.hid (And.intro h1 (And.intro h2 (And.intro hvp hvm)))
  have HVB : Hid (verifyB pub msg s = (rightB s && (upS s.index s.path (rootS msg s.parts) 4 == pub))) := Lib.hid rfl
  clear h1 h2 hvp hvm hl hl2
  generalize verifyB pub msg s = VB at *
  go_enter Tryz.func62, Tryz.ntmps62
  go_wp2_with fail
  refine calls_at (fun w1 => Below w.heap.size w w1 ∧ Blk w1 w.heap.size 38 [.int .i64 s.index, .slice P s.parts.length cp, .slice Q s.path.length cq]) ⟨(Below.refl w.heap.size w).alloc (Nat.le_refl _) _, Blk.new w 38 [.int .i64 s.index, .slice P s.parts.length cp, .slice Q s.path.length cq]⟩ ?_
  rintro w1 ⟨hb1, hk1⟩
  have H1 := Lib.hid (And.intro hb1 hk1)
  refine (HRI.out w1 _ ⟨_, _, rfl, HR.out.1.below hb1, HR.out.2.1.below hb1⟩).mono ?_
  clear hb1 hk1
  rintro e w2 ⟨rfl, h2⟩
  have H2 := Lib.hid (And.intro (H1.out.1.trans (h2.mono H1.out.1.size)) (H1.out.2.below h2))
  clear h2 H1
  cases hrb : rightB s with
  | false =>
    have HF : Hid (VB = false) := Lib.hid (by rw [HVB.out, hrb]; rfl)
    clear hrb
    go_wp2
    go_ret
    exact ⟨by rw [HF.out]; rfl, H2.out.1⟩
  | true =>
    obtain ⟨k1, k2, k3, k4, k5, k6⟩ := rightB_facts hrb
    have HK := Lib.hid (And.intro k3 (And.intro k4 (And.intro k5 k6)))
    have HVB2 : Hid (VB = (upS s.index s.path (rootS msg s.parts) 4 == pub)) := Lib.hid (by rw [HVB.out, hrb]; rfl)
    clear hrb k3 k4 k5 k6
    have q1 := H2.out.2.cell 1 _ rfl
    have q0 := H2.out.2.cell 0 _ rfl
    have q2 := H2.out.2.cell 2 _ rfl
    go_wp2_with fail
    refine (rroot_any _ _ msg s.parts HK.out.1 HK.out.2.2.1 hmsg w2 (HR.out.2.2.2.below H2.out.1) (HR.out.1.below H2.out.1)).mono ?_
    rintro e w3 ⟨v3, rfl, h3, h4⟩
    have HRL := Lib.hid (tagH_length 12 [rootAcc (digS msg) s.parts 64])
    have HRE : Hid (rootS msg s.parts = tagH 12 [rootAcc (digS msg) s.parts 64]) := Lib.hid rfl
    have H3 := Lib.hid (And.intro (H2.out.1.trans (h4.mono H2.out.1.size)) (And.intro (H2.out.2.below h4) (h3.bys)))
    clear h3 h4 q0 q1 q2
    go_wp2
    go_loopw [7, 9] (fun v7 v9 wr => ∃ h : Nat, v9 = .int .i64 h ∧ h ≤ 4 ∧ Hid (Below w.heap.size w wr ∧ Blk wr w.heap.size 38 [.int .i64 s.index, .slice P s.parts.length cp, .slice Q s.path.length cq] ∧ Bys wr v7 (upS s.index s.path (rootS msg s.parts) h))) (fun _ v _ => 4 - (intOf v).toNat)
    case atStart => exact ⟨0, rfl, by decide, H3⟩
    case round =>
      obtain ⟨h, rfl, hh, HI⟩ := hrel
      by_cases hlt : h < 4
      · have q0 := HI.out.2.1.cell 0 _ rfl
        have q2 := HI.out.2.1.cell 2 _ rfl
        have hpl : h < s.path.length := by have := HK.out.2.1; omega
        obtain ⟨g, o, un, rfl, hg, -, -, hcu, hbu⟩ := HR.out.2.1.at' h hpl
        have p0 := (HI.out.1.cell (p := ⟨g, o + h, none⟩) hg).trans hcu
        have hbn := hbu.below HI.out.1
        obtain ⟨A9, c9, rfl⟩ := hbn.form
        obtain ⟨A7, c7, rfl⟩ := HI.out.2.2.form
        have hlN : s.path[h].length = 32 := HK.out.2.2.2 h hpl
        have hlU := upS_length s.index s.path (rootS msg s.parts) (by rw [HRE.out]; exact HRL.out) h
        have HUP : Hid (upS s.index s.path (rootS msg s.parts) (h + 1) = if (sideS s.index h == 0) = true then tagH 14 [upS s.index s.path (rootS msg s.parts) h, s.path[h]] else tagH 14 [s.path[h], upS s.index s.path (rootS msg s.parts) h]) := Lib.hid (by
          show (if (sideS s.index h == 0) = true then tagH 14 [upS s.index s.path (rootS msg s.parts) h, s.path.getD h []] else tagH 14 [s.path.getD h [], upS s.index s.path (rootS msg s.parts) h]) = _
          rw [List.getD_eq_getElem?_getD, List.getElem?_eq_getElem hpl]; rfl)
        have eside : bits BinOp.and IntKind.i64 (s.index / 2 ^ h) 1 = sideS s.index h := rfl
        have hpc : ((h : Nat) : Int) < ((s.path.length : Nat) : Int) := by omega
        have H9 := Lib.hid (And.intro HI.out.2.2 hbn)
        have hU2E : ∃ U2, upS s.index s.path (rootS msg s.parts) (h + 1) = U2 := ⟨_, rfl⟩
        obtain ⟨U2, hU2E⟩ := hU2E
        rw [hU2E] at HUP
        have HU2E := Lib.hid hU2E
        clear hU2E hcu hbu hbn
        generalize upS s.index s.path (rootS msg s.parts) h = U at *
        generalize s.path[h] = N at *
        generalize sideS s.index h = SI at *
        have HL9 := Lib.hid (And.intro hlN hlU)
        clear hlN hlU
        have hsz := HI.out.1.size
        by_cases hside : (SI == 0) = true
        ·
          have HU2 : Hid (U2 = tagH 14 [U, N]) := Lib.hid (by rw [HUP.out, if_pos hside])
          have hal := (Below.refl wr.heap.size wr).alloc (Nat.le_refl _) (.cells #[.slice A7 U.length c7, .slice A9 N.length c9] 26)
          go_wp2_with fail
          refine (rtag_any 14 14 rfl _ [U, N] (by have := HL9.out; simp; omega) (by simp) _ (new2 26 (b := wr.heap.size) rfl H9.out.1 H9.out.2)).mono ?_
          rintro e w5 ⟨v5, rfl, h5, h6⟩
          have hb5 := hal.trans (h6.mono (by simp))
          have H5 := Lib.hid (And.intro (HI.out.1.trans (hb5.mono hsz)) (And.intro (HI.out.2.1.below hb5) h5.bys))
          clear h5 h6 hb5 hal
          go_wp2
          go_roundw
          case rel => exact ⟨h + 1, by go_num, by omega, Lib.hid ⟨H5.out.1, H5.out.2.1, by rw [HU2E.out, HU2.out]; exact H5.out.2.2⟩⟩
          case measure => simp [intOf]; omega
        ·
          have HU2 : Hid (U2 = tagH 14 [N, U]) := Lib.hid (by rw [HUP.out, if_neg hside])
          have hsf : (SI == 0) = false := by simpa using hside
          clear hside
          have hal := (Below.refl wr.heap.size wr).alloc (Nat.le_refl _) (.cells #[.slice A9 N.length c9, .slice A7 U.length c7] 26)
          go_wp2_with fail
          refine (rtag_any 14 14 rfl _ [N, U] (by have := HL9.out; simp; omega) (by simp) _ (new2 26 (b := wr.heap.size) rfl H9.out.2 H9.out.1)).mono ?_
          rintro e w5 ⟨v5, rfl, h5, h6⟩
          have hb5 := hal.trans (h6.mono (by simp))
          have H5 := Lib.hid (And.intro (HI.out.1.trans (hb5.mono hsz)) (And.intro (HI.out.2.1.below hb5) h5.bys))
          clear h5 h6 hb5 hal
          go_wp2
          go_roundw
          case rel => exact ⟨h + 1, by go_num, by omega, Lib.hid ⟨H5.out.1, H5.out.2.1, by rw [HU2E.out, HU2.out]; exact H5.out.2.2⟩⟩
          case measure => simp [intOf]; omega
      · obtain rfl : h = 4 := by omega
        have hbA := HR.out.2.2.1.below HI.out.1
        obtain ⟨A7, c7, rfl⟩ := HI.out.2.2.form
        have c1 := run_string_bys wr _ _ HI.out.2.2
        have c2 := run_string_bys wr _ _ hbA
        clear hbA
        generalize upS s.index s.path (rootS msg s.parts) 4 = U at *
        go_wp2
        go_ret
        exact ⟨by rw [HVB2.out]; rfl, HI.out.1⟩
end Go.Proofs.YtlkgeifmppadmaaGreat
namespace Go.Proofs.YtlkgeifmppadmaaGreat
open Go.RowKit
set_option linter.unusedVariables false
set_option linter.unusedSimpArgs false

def pubs (seed : List UInt8) (n : Nat) : List (List UInt8) := (List.range n).map (fun k : Nat => publicS seed (k : Int))
theorem pubs_succ (seed : List UInt8) (n : Nat) : pubs seed (n + 1) = pubs seed n ++ [publicS seed n] := by simp [pubs, List.range_succ]
theorem pubs_length (seed : List UInt8) (n : Nat) : (pubs seed n).length = n := by simp [pubs]
/-- The first n nodes above a level. -/
def abN (l : List (List UInt8)) : Nat → List (List UInt8)
  | 0 => []
  | n + 1 => abN l n ++ [tagH 14 [l.getD (2 * n) [], l.getD (2 * n + 1) []]]
theorem abN_length (l : List (List UInt8)) (n : Nat) : (abN l n).length = n := by
  induction n with
  | zero => rfl
  | succ n ih => show (abN l n ++ [_]).length = _; rw [List.length_append, ih]; rfl
theorem abN_32 (l : List (List UInt8)) (n : Nat) : ∀ i (h : i < (abN l n).length), (abN l n)[i].length = 32 := by
  induction n with
  | zero => intro i h; exact absurd h (Nat.not_lt_zero _)
  | succ n ih =>
    intro i h
    have e : abN l (n + 1) = abN l n ++ [tagH 14 [l.getD (2 * n) [], l.getD (2 * n + 1) []]] := rfl
    by_cases hi : i < (abN l n).length
    · simp only [e, List.getElem_append_left hi]; exact ih i hi
    · have : i = (abN l n).length := by rw [e] at h; simp at h; omega
      subst this
      simp only [e, List.getElem_append_right (Nat.le_refl _), Nat.sub_self, List.getElem_cons_zero]
      exact tagH_length _ _
def levelS (seed : List UInt8) : Nat → List (List UInt8)
  | 0 => pubs seed 16
  | h + 1 => abN (levelS seed h) ((levelS seed h).length / 2)
theorem levelS_length (seed : List UInt8) : (levelS seed 0).length = 16 ∧ (levelS seed 1).length = 8 ∧ (levelS seed 2).length = 4 ∧ (levelS seed 3).length = 2 ∧ (levelS seed 4).length = 1 := by
  have h0 : (levelS seed 0).length = 16 := pubs_length seed 16
  have h1 : (levelS seed 1).length = 8 := by show (abN _ _).length = 8; rw [abN_length, h0]
  have h2 : (levelS seed 2).length = 4 := by show (abN _ _).length = 4; rw [abN_length, h1]
  have h3 : (levelS seed 3).length = 2 := by show (abN _ _).length = 2; rw [abN_length, h2]
  have h4 : (levelS seed 4).length = 1 := by show (abN _ _).length = 1; rw [abN_length, h3]
  exact ⟨h0, h1, h2, h3, h4⟩
theorem levelS_two (seed : List UInt8) (h : Nat) (hh : h < 4) : ∃ K, (levelS seed h).length = 2 * K ∧ 1 ≤ K ∧ K ≤ 8 := by
  obtain ⟨h0, h1, h2, h3, h4⟩ := levelS_length seed
  obtain rfl | rfl | rfl | rfl : h = 0 ∨ h = 1 ∨ h = 2 ∨ h = 3 := by omega
  · exact ⟨8, h0, by decide, by decide⟩
  · exact ⟨4, h1, by decide, by decide⟩
  · exact ⟨2, h2, by decide, by decide⟩
  · exact ⟨1, h3, by decide, by decide⟩
theorem levelS_32 (seed : List UInt8) (h : Nat) : ∀ i (hi : i < (levelS seed h).length), (levelS seed h)[i].length = 32 := by
  cases h with
  | zero => intro i hi; show ((pubs seed 16)[i]'hi).length = 32; simp [pubs, publicS_length]
  | succ h => exact abN_32 _ _

/-- A row of one's own, of levels. -/
def OwnL (w : World) (base : Nat) (v : Value) (Ls : List (List (List UInt8))) : Prop :=
  ∃ us, w.ownsRow base 27 1 v Ls.length us ∧ ∀ i (h : i < Ls.length), ∃ u, us[i]? = some u ∧ RwsF (fun g => base ≤ g ∧ g < w.heap.size ∧ v.ownBlock ≠ some g) w u Ls[i]
theorem OwnL.chg {w w1 : World} {base : Nat} {v : Value} {Ls : List (List (List UInt8))} {T : Nat → Prop} (h : OwnL w base v Ls) (hc : Chg w w1 T) (hT : ∀ g, base ≤ g → g < w.heap.size → ¬ T g) : OwnL w1 base v Ls := by
  obtain ⟨us, h1, h2⟩ := h
  refine ⟨us, ownsRow_chg h1 hc (fun k hk => by have := World.ownsRow.lt h1 k hk; exact hT k this.1 this.2), fun i hi => ?_⟩
  obtain ⟨u, e, hu⟩ := h2 i hi
  exact ⟨u, e, (hu.chg hc (fun g hg => hT g hg.1 hg.2.1)).mono (fun g hg => ⟨hg.1, Nat.lt_of_lt_of_le hg.2.1 hc.size, hg.2.2⟩)⟩
theorem OwnL.push {w W : World} {base g cap : Nat} {v u : Value} {Ls : List (List (List UInt8))} {l : List (List UInt8)} {us : List Value} {t : TypeId} {cs : Array Value}
    (h1 : ∀ i (h : i < Ls.length), ∃ u, us[i]? = some u ∧ RwsF (fun g => base ≤ g ∧ g < w.heap.size ∧ v.ownBlock ≠ some g) w u Ls[i]) (hl : us.length = Ls.length)
    (hu : RwsF (fun g => base ≤ g ∧ g < w.heap.size ∧ v.ownBlock ≠ some g) w u l)
    (ho : W.ownsRow base 27 1 (.slice (some ⟨g, 0, none⟩) (Ls.length + 1) cap) (Ls.length + 1) (us ++ [u])) (hg : (w.alloc (.cells cs t)).grownBy W v.ownBlock) (hlie : v.ownBlock = some g ∨ g = w.heap.size + 1) :
    OwnL W base (.slice (some ⟨g, 0, none⟩) (Ls.length + 1) cap) (Ls ++ [l]) := by
  have hc : Chg w W (fun k => v.ownBlock = some k) := ((Chg.refl w _).alloc _).trans (Chg.of_grown hg) (fun i _ h => h.symm)
  have keep : ∀ (x : Value) (m : List (List UInt8)), RwsF (fun g => base ≤ g ∧ g < w.heap.size ∧ v.ownBlock ≠ some g) w x m → RwsF (fun k => base ≤ k ∧ k < W.heap.size ∧ (some g : Option Nat) ≠ some k) W x m := fun x m hx =>
    (hx.chg hc (fun k hk => hk.2.2)).mono (fun k hk => ⟨hk.1, Nat.lt_of_lt_of_le hk.2.1 hc.size, fun e => by
      injection e with e
      rcases hlie with hlie | hlie
      · exact hk.2.2 (by rw [hlie, e])
      · omega⟩)
  refine ⟨us ++ [u], by rw [List.length_append]; exact ho, fun i hi => ?_⟩
  by_cases hi' : i < Ls.length
  · obtain ⟨x, e, hx⟩ := h1 i hi'
    refine ⟨x, by rw [List.getElem?_append_left (by omega)]; exact e, ?_⟩
    rw [List.getElem_append_left hi']
    exact keep x _ hx
  · have : i = Ls.length := by simp at hi; omega
    subst this
    refine ⟨u, by rw [List.getElem?_append_right (by omega), hl]; simp, ?_⟩
    rw [List.getElem_append_right (Nat.le_refl _)]
    simp only [Nat.sub_self, List.getElem_cons_zero]
    exact keep u l hu
theorem chg_belowB {w w1 : World} {B : Nat} (h : Below B w w1) : Chg w w1 (fun k => B ≤ k) := ⟨h.os, h.tape, h.output, h.size, fun k hk hn => h.block k (by omega)⟩
theorem info_rows : (Tryz.prog.info? 27).map (fun i => (i.zero, i.size, i.bytes)) = some (some (.slice none 0 0), 1, 24) := by kernel_rfl
/-- An owner in memory. -/
def OwnerAt (w : World) (b : Nat) (seed : List UInt8) : Prop :=
  ∃ v vl us, Blk w b 93 [v, vl] ∧ Bys w v seed ∧ Sho w vl 5 1 us ∧ ∀ h, h ≤ 4 → ∃ u, us[h]? = some u ∧ Rws w u (levelS seed h)
theorem OwnerAt.below {w w1 : World} {b : Nat} {seed : List UInt8} (h : OwnerAt w b seed) (hb : Below w.heap.size w w1) : OwnerAt w1 b seed := by
  obtain ⟨v, vl, us, h1, h2, h3, h4⟩ := h
  exact ⟨v, vl, us, h1.below hb, h2.below hb, h3.below hb, fun k hk => by obtain ⟨u, e, hu⟩ := h4 k hk; exact ⟨u, e, hu.below hb⟩⟩

set_option maxRecDepth 100000 in
set_option maxHeartbeats 4000000 in
theorem rnew_any (v : Value) (seed : List UInt8) (hsm : seed.length ≤ 1000000000) (w : World) (hx : Bys w v seed) :
    Calls Tryz.prog 18 #[v] w fun e w' => e = .returned (.pointer (some ⟨w.heap.size, 0, none⟩)) ∧ OwnerAt w' w.heap.size seed ∧ Below w.heap.size w w' := by
  obtain ⟨i0, hi0, hz0, hz1, hz2⟩ := info_parts info_bytes
  obtain ⟨j0, hj0, hjz0, hjz1, hjz2⟩ := info_parts info_rows
  obtain ⟨A, c, rfl⟩ := hx.form
  have HX := Lib.hid hx
  clear hx
  go_enter Tryz.func18, Tryz.ntmps18
  go_wp2
  go_loopw [4, 5] (fun v4 v5 wr => ∃ i : Nat, v5 = .int .i64 i ∧ i ≤ 16 ∧ Hid (Below w.heap.size w wr ∧ Blk wr w.heap.size 93 [.slice A seed.length c, .slice none 0 0] ∧ OwnR wr (w.heap.size + 1) v4 (pubs seed i))) (fun _ v _ => 16 - (intOf v).toNat)
  case atStart => exact ⟨0, rfl, by decide, Lib.hid ⟨(Below.refl _ _).alloc (Nat.le_refl _) _, Blk.new w 93 [.slice A seed.length c, .slice none 0 0], OwnR.nil _ _⟩⟩
  case round =>
    obtain ⟨i, rfl, hi, HI⟩ := hrel
    have hszB : w.heap.size + 1 ≤ wr.heap.size := HI.out.2.1.lt
    by_cases hlt : i < 16
    · have HP := Lib.hid (fun (wz : World) (hz : Bys wz (.slice A seed.length c) seed) => rpublic_any (.slice A seed.length c) seed i (by omega) hsm wz hz)
      have HACC := Lib.hid (pubs_succ seed i)
      have hpl : (pubs seed i).length ≤ 100 := by rw [pubs_length]; omega
      generalize publicS seed (i : Int) = PB at *
      generalize pubs seed i = L at *
      obtain ⟨A4, c4, rfl⟩ := HI.out.2.2.rws.form
      go_wp2_with fail
      refine (HP.out wr (HX.out.below HI.out.1)).mono ?_
      rintro e w2 ⟨v2, rfl, h1, h2⟩
      obtain ⟨A2, c2, rfl⟩ := h1.form
      obtain ⟨us, hu1, hu2⟩ := HI.out.2.2.keep h2
      have H2 := Lib.hid (And.intro h1 (And.intro h2 (And.intro hu1 hu2)))
      have hsz2 := h2.size
      clear h1 h2 hu1 hu2
      go_wp2_with (at_builtin; (refine wpList_append_lies _ rfl (.tmp 15) (.tmp 19) 27 rfl (w.heap.size + 1) 26 i0 (.slice none 0 0) 1 24 Tryz.underlying27 hi0 hz0 hz1 hz2 rfl (by decide) _ L.length us rfl (World.ownsRow.alloc H2.out.2.2.1 _) ⟨w2.heap.size, 0, none⟩ 1 1 [.slice A2 PB.length c2] rfl rfl (World.news_of_block (blk_new _ _)) (by simp [Value.oneCell']) (by decide) (by unfold maxLen; omega) (by omega) (by simp; omega) (w2.heap.size + 1) (by simp) ?_); intro g3 c3 W3 hown3 hgrow3 hlie3 hlt3)
      have HR3 := Lib.hid (retr_push HI.out.2.2 hszB H2.out.2.1 H2.out.1 H2.out.2.2.2 (by have := H2.out.2.2.1.1; omega) hown3 hgrow3 hlie3)
      go_roundw
      case rel => exact ⟨i + 1, by go_num, by omega, Lib.hid ⟨HI.out.1.trans (HR3.out.2.mono (by omega)), HI.out.2.1.chg (chg_belowB HR3.out.2) (by omega), by rw [HACC.out]; exact HR3.out.1⟩⟩
      case measure => simp [intOf]; omega
    · obtain rfl : i = 16 := by omega
      rw [show ((16 : Nat) : Int) = 16 from rfl]
      have hL0 := (levelS_length seed).1
      have hfoot := HI.out.2.2.foot
      obtain ⟨A4, c4, rfl⟩ := HI.out.2.2.rws.form
      have HF := Lib.hid (And.intro HI.out.1 (And.intro HI.out.2.1 (show RwsF (fun g => w.heap.size + 1 ≤ g ∧ g < wr.heap.size) wr _ (levelS seed 0) from hfoot)))
      have HPL := Lib.hid (pubs_length seed 16)
      have q0 := HI.out.2.1.cell 0 _ rfl
      have q1 := HI.out.2.1.cell 1 _ rfl
      have hpe : pubs seed 16 = levelS seed 0 := rfl
      rw [hpe]
      clear hfoot HI hpe
      have HL0 := Lib.hid hL0
      clear hL0
      go_wp2_with (at_builtin; (refine wpList_append_lies _ rfl (.tmp 25) (.tmp 27) 91 rfl (w.heap.size + 1) 27 j0 (.slice none 0 0) 1 24 Tryz.underlying91 hj0 hjz0 hjz1 hjz2 rfl (by decide) _ 0 [] rfl (World.ownsRow_nil _ _ _ _) ⟨wr.heap.size, 0, none⟩ 1 1 [.slice A4 (levelS seed 0).length c4] rfl rfl (World.news_of_block (blk_new _ _)) (by simp [Value.oneCell']) (by decide) (by decide) (by decide) (by simp; omega) (wr.heap.size + 1) (by simp) ?_); intro g3 c3 W3 hown3 hgrow3 hlie3 hlt3; have HK3 := Lib.hid (Blk.grown (Blk.alloc HF.out.2.1 _) hgrow3 (by intro e; cases e)); have r1 := HK3.out.cell 1 _ rfl; have f1 := HK3.out.free 1)
      have hg3 : w.heap.size + 1 ≤ g3 := by rcases hlie3 with h | h; · cases h
                                            · omega
      have hc3 : Chg wr W3 (fun _ => False) := ((Chg.refl wr _).alloc _).trans (Chg.of_grown hgrow3) (fun i _ h => by cases h)
      have hOL : OwnL W3 (w.heap.size + 1) (.slice (some ⟨g3, 0, none⟩) 1 c3) [levelS seed 0] := by
        have := OwnL.push (w := wr) (base := w.heap.size + 1) (v := .slice none 0 0) (Ls := []) (us := []) (fun i h => absurd h (Nat.not_lt_zero _)) rfl (HF.out.2.2.mono (fun g hg => ⟨hg.1, hg.2, by intro e; cases e⟩)) hown3 hgrow3 hlie3
        simpa using this
      have hset : Chg W3 (W3.setCell ⟨w.heap.size, 1, none⟩ (.slice (some ⟨g3, 0, none⟩) 1 c3)) (fun k => k = w.heap.size) := (Chg.refl W3 _).setCell _ _ (fun _ => rfl)
      have HS := Lib.hid (show Below w.heap.size w (W3.setCell ⟨w.heap.size, 1, none⟩ (.slice (some ⟨g3, 0, none⟩) 1 c3)) ∧ (∃ vl, Blk (W3.setCell ⟨w.heap.size, 1, none⟩ (.slice (some ⟨g3, 0, none⟩) 1 c3)) w.heap.size 93 [.slice A seed.length c, vl] ∧ OwnL (W3.setCell ⟨w.heap.size, 1, none⟩ (.slice (some ⟨g3, 0, none⟩) 1 c3)) (w.heap.size + 1) vl ((List.range (0 + 1)).map (levelS seed))) ∧ RwsF (fun g => w.heap.size + 1 ≤ g ∧ g < (W3.setCell ⟨w.heap.size, 1, none⟩ (.slice (some ⟨g3, 0, none⟩) 1 c3)).heap.size) (W3.setCell ⟨w.heap.size, 1, none⟩ (.slice (some ⟨g3, 0, none⟩) 1 c3)) (.slice A4 (levelS seed 0).length c4) (levelS seed 0) from
        ⟨(HF.out.1.trans (hc3.below (by have := HF.out.1.size; omega) (fun k h => h.elim))).trans (hset.below (by have := HF.out.1.size; have := hc3.size; omega) (fun k hk => by omega)), ⟨_, HK3.out.set 1 _ (by simp), hOL.chg hset (fun g h1 h2 e => by omega)⟩, ((HF.out.2.2.chg hc3 (fun g hg h => h)).chg hset (fun g hg e => by omega)).mono (fun g hg => ⟨hg.1, by have := hc3.size; have := hset.size; omega⟩)⟩)
      clear hset hOL hc3 HK3 hown3 hgrow3 hlie3 hlt3 r1 f1 q0 q1 HF hg3
      generalize W3.setCell ⟨w.heap.size, 1, none⟩ (.slice (some ⟨g3, 0, none⟩) 1 c3) = W4 at *
      go_loopw [4] (fun v4 wr => ∃ h : Nat, h ≤ 4 ∧ Hid (Below w.heap.size w wr ∧ (∃ vl, Blk wr w.heap.size 93 [.slice A seed.length c, vl] ∧ OwnL wr (w.heap.size + 1) vl ((List.range (h + 1)).map (levelS seed))) ∧ RwsF (fun g => w.heap.size + 1 ≤ g ∧ g < wr.heap.size) wr v4 (levelS seed h))) (fun v _ => lenV v)
      case atStart => exact ⟨0, by decide, HS⟩
      case round =>
        clear HS hi hlt HPL HL0
        obtain ⟨h, hh, HI⟩ := hrel
        obtain ⟨A4, c4, rfl⟩ := HI.out.2.2.rws.form
        by_cases hlt : h < 4
        · obtain ⟨K, hK, hK1, hK8⟩ := levelS_two seed h hlt
          have HLV : Hid (levelS seed (h + 1) = abN (levelS seed h) K) := Lib.hid (by show abN (levelS seed h) ((levelS seed h).length / 2) = _; rw [hK]; congr 1; omega)
          have HL32 := Lib.hid (levelS_32 seed h)
          have HKK := Lib.hid hK
          have hLl : (levelS seed h).length ≤ 16 ∧ 2 ≤ (levelS seed h).length := by omega
          obtain ⟨hLl1, hLl2⟩ := hLl
          clear hK
          generalize hLe : levelS seed h = L at *
          have HLE := Lib.hid hLe
          clear hLe
          obtain ⟨wo, rfl⟩ : ∃ wo : World, wo = wr := ⟨_, rfl⟩
          have hdl : decide ((1 : Int) < (L.length : Int)) = true := by simp; omega
          go_wp2
          go_loopw [6, 7] (fun v6 v7 wr => ∃ (n : Nat), v7 = .int .i64 (2 * (n : Int)) ∧ n ≤ K ∧ Hid (Below wo.heap.size wo wr ∧ OwnR wr wo.heap.size v6 (abN L n))) (fun _ v _ => 40 - (intOf v).toNat)
          case atStart => exact ⟨0, rfl, Nat.zero_le _, Lib.hid ⟨Below.refl _ _, OwnR.nil _ _⟩⟩
          case round =>
            obtain ⟨n, rfl, hn, HJ⟩ := hrel
            by_cases hltn : n < K
            · have h2n : 2 * n + 1 < L.length := by have := HKK.out; omega
              obtain ⟨gl, ol, u1, rfl, hgl, -, -, hc1, hb1⟩ := HI.out.2.2.rws.at' (2 * n) (by omega)
              obtain ⟨gl', ol', u2, eA, -, -, -, hc2, hb2⟩ := HI.out.2.2.rws.at' (2 * n + 1) h2n
              injection eA with eA
              injection eA with eA1 eA2
              subst eA1 eA2
              obtain ⟨A1, c1, rfl⟩ := hb1.form
              obtain ⟨A2, c2, rfl⟩ := hb2.form
              have p1 := (HJ.out.1.cell (p := ⟨gl, ol + 2 * n, none⟩) hgl).trans hc1
              have p2 := (HJ.out.1.cell (p := ⟨gl, ol + (2 * n + 1), none⟩) hgl).trans hc2
              have hP := HL32.out (2 * n) (by omega)
              have hQ := HL32.out (2 * n + 1) h2n
              have HACC : Hid (abN L (n + 1) = abN L n ++ [tagH 14 [L[2 * n], L[2 * n + 1]]]) := Lib.hid (by
                show abN L n ++ [tagH 14 [L.getD (2 * n) [], L.getD (2 * n + 1) []]] = _
                rw [List.getD_eq_getElem?_getD, List.getD_eq_getElem?_getD, List.getElem?_eq_getElem h2n, List.getElem?_eq_getElem (show 2 * n < L.length by omega)]; rfl)
              have HBB := Lib.hid (And.intro (hb1.below HJ.out.1) (hb2.below HJ.out.1))
              clear hc1 hc2 hb1 hb2
              generalize L[2 * n] = P at *
              generalize L[2 * n + 1] = Q at *
              have HPQ := Lib.hid (And.intro hP hQ)
              clear hP hQ
              have hal : (abN L n).length ≤ 100 := by rw [abN_length]; omega
              obtain ⟨A6, c6, rfl⟩ := HJ.out.2.rws.form
              generalize abN L n = R at *
              generalize hT : tagH 14 [P, Q] = TG at *
              have HT := Lib.hid hT
              clear hT
              have hsz := HJ.out.1.size
              have hglw : gl < wr.heap.size := Nat.lt_of_lt_of_le hgl hsz
              have y1 : (2 : Int) * (n : Int) + 1 < (L.length : Int) := by omega
              have y0 : (2 : Int) * (n : Int) < (L.length : Int) := by omega
              have y2 : (0 : Int) ≤ 2 * (n : Int) := by omega
              have y3 : (0 : Int) ≤ 2 * (n : Int) + 1 := by omega
              have ew : IntKind.i64.wrap (2 * (n : Int) + 1) = 2 * (n : Int) + 1 := IntWalk.i64_in _ (by omega)
              have et : (2 * (n : Int) + 1).toNat = 2 * n + 1 := by omega
              have et0 : (2 * (n : Int)).toNat = 2 * n := by omega
              go_wp2
              go_region_held3 (fun w' => w'.cell? ⟨gl, ol + 2 * n, none⟩ = some (.slice A1 P.length c1) ∧ w'.cell? ⟨gl, ol + (2 * n + 1), none⟩ = some (.slice A2 Q.length c2))
                (first
                  | go_keep
                  | exact ⟨s1, s2⟩
                  | exact ⟨t1, t2⟩)
                (first
                  | (go_simp; go_at_call 44; refine (rtag_any 14 14 rfl _ [P, Q] (by have := HPQ.out; simp; omega) (by simp) _ (new2 (w := wr.drew) 26 (b := wr.heap.size) rfl HBB.out.1 HBB.out.2)).mono ?_; rintro e w5 ⟨v5, rfl, h5, h6⟩; rw [HT.out] at h5; obtain ⟨A5, c5, rfl⟩ := h5.form; have hbw : Below wr.heap.size wr w5 := ((Below.refl wr.heap.size wr).drew.alloc (Nat.le_refl _) (.cells #[.slice A1 P.length c1, .slice A2 Q.length c2] 26)).trans (h6.mono (by simp)); obtain ⟨us, hu1, hu2⟩ := HJ.out.2.keep hbw; have H5 := Lib.hid (And.intro (own_mono' h5 (show wr.heap.size ≤ _ by simp)) (And.intro hbw (And.intro hu1 hu2))); have hsz5 := hbw.size; have s1 := (hbw.cell (p := ⟨gl, ol + 2 * n, none⟩) hglw).trans p1; have s2 := (hbw.cell (p := ⟨gl, ol + (2 * n + 1), none⟩) hglw).trans p2; clear h5 h6 hbw hu1 hu2)
                  | (refine step_append_lies _ (by rfl) (.tmp 40) (.tmp 52) 27 (by rfl) wo.heap.size 26 i0 (.slice none 0 0) 1 24 Tryz.underlying27 hi0 hz0 hz1 hz2 rfl (by omega) _ R.length us (by rfl) (World.ownsRow.alloc H5.out.2.2.1 _) ⟨w5.heap.size, 0, none⟩ 1 1 [.slice A5 TG.length c5] (by rfl) (by rfl) (World.news_of_block (blk_new _ _)) (by simp [Value.oneCell']) (by omega) (by unfold maxLen; omega) (by omega) (by simp; omega) (w5.heap.size + 1) (by simp) ?_; intro g7 c7 W7 hown7 hgrow7 hlie7 hlt7; have HR7 := Lib.hid (retr_push HJ.out.2 hsz H5.out.2.1 H5.out.1 H5.out.2.2.2 (by have := H5.out.2.2.1.1; omega) hown7 hgrow7 hlie7); have t1 : W7.cell? ⟨gl, ol + 2 * n, none⟩ = some (.slice A1 P.length c1) := (HR7.out.2.cell (p := ⟨gl, ol + 2 * n, none⟩) hgl).trans p1; have t2 : W7.cell? ⟨gl, ol + (2 * n + 1), none⟩ = some (.slice A2 Q.length c2) := (HR7.out.2.cell (p := ⟨gl, ol + (2 * n + 1), none⟩) hgl).trans p2; clear hown7 hgrow7 hlie7 hlt7))
              go_wp2
              go_roundw
              case rel => exact ⟨n + 1, by go_num, by omega, Lib.hid ⟨HJ.out.1.trans HR7.out.2, by rw [HACC.out]; exact HR7.out.1⟩⟩
              case measure => simp [intOf]; omega
            · obtain rfl : n = K := by omega
              have y9 : (L.length : Int) ≤ 2 * (n : Int) := by have := HKK.out; omega
              obtain ⟨vl, hbo, hol⟩ := HI.out.2.1
              have hc7 : Chg wo wr (fun _ => False) := Chg.of_below HJ.out.1
              obtain ⟨A6, c6, rfl⟩ := HJ.out.2.rws.form
              have HVB : Hid (∀ k, vl.ownBlock = some k → k < wo.heap.size) := Lib.hid (fun k e => by obtain ⟨us0, k1, _⟩ := hol; exact (World.ownsRow.lt k1 k e).2)
              obtain ⟨us, hu1, hu2⟩ := hol.chg hc7 (fun _ _ _ h => h)
              have hb7 := hbo.chg hc7 (fun h => h)
              have q0 := hb7.cell 0 _ rfl
              have q1 := hb7.cell 1 _ rfl
              have hsw := HJ.out.1.size
              have hbw := HI.out.1.size
              have hlr : ((List.range (h + 1)).map (levelS seed)).length ≤ 5 := by simp; omega
              have HBO := Lib.hid (And.intro hb7 (And.intro hu1 hu2))
              have HUP := Lib.hid (HJ.out.2.foot)
              have HBW := Lib.hid (HI.out.1.trans (HJ.out.1.mono hbw))
              have hwb : w.heap.size + 1 ≤ wo.heap.size := hbo.lt
              clear hb7 hu1 hu2 hol hbo hc7
              rw [← HLV.out] at HUP
              have hlv : (levelS seed (h + 1)).length = (abN L n).length := by rw [HLV.out]
              rw [← hlv]
              have HLVV := Lib.hid hlv
              clear hlv
              generalize hLS : (List.range (h + 1)).map (levelS seed) = LS at *
              have HLS := Lib.hid hLS
              clear hLS
              have hvf : vl.ownBlock = none ∨ vl.ownBlock ≠ none := by by_cases e : vl.ownBlock = none <;> simp [e]
              obtain ⟨A1, c1, rfl⟩ := (Sho.own HBO.out.2.1).form
              go_wp2_with (at_builtin; (refine wpList_append_lies _ rfl (.tmp 59) (.tmp 61) 91 rfl (w.heap.size + 1) 27 j0 (.slice none 0 0) 1 24 Tryz.underlying91 hj0 hjz0 hjz1 hjz2 rfl (by decide) _ LS.length us rfl (World.ownsRow.alloc HBO.out.2.1 _) ⟨wr.heap.size, 0, none⟩ 1 1 [.slice A6 (levelS seed (h + 1)).length c6] rfl rfl (World.news_of_block (blk_new _ _)) (by simp [Value.oneCell']) (by decide) (by unfold maxLen; omega) (by omega) (by simp; omega) (wr.heap.size + 1) (by simp) ?_); intro g8 c8 W8 hown8 hgrow8 hlie8 hlt8; have HK8 := Lib.hid (Blk.grown (Blk.alloc HBO.out.1 _) hgrow8 (fun e => by have := (World.ownsRow.lt HBO.out.2.1 w.heap.size e.symm).1; omega)); have r1 := HK8.out.cell 1 _ rfl; have f1 := HK8.out.free 1)
              have hg8 : w.heap.size + 1 ≤ g8 := by
                rcases hlie8 with e | e
                · exact (World.ownsRow.lt HBO.out.2.1 g8 e).1
                · omega
              have hc8 : Chg wr W8 (fun k => (Value.slice A1 LS.length c1).ownBlock = some k) := ((Chg.refl wr _).alloc _).trans (Chg.of_grown hgrow8) (fun i _ h => h.symm)
              have hOL8 : OwnL W8 (w.heap.size + 1) (.slice (some ⟨g8, 0, none⟩) (LS.length + 1) c8) (LS ++ [levelS seed (h + 1)]) :=
                OwnL.push (w := wr) HBO.out.2.2 (by have := HBO.out.2.1.1; omega) (HUP.out.mono (fun g hg => ⟨by omega, hg.2, fun e => by have := HVB.out g e; omega⟩)) hown8 hgrow8 hlie8
              have hset : Chg W8 (W8.setCell ⟨w.heap.size, 1, none⟩ (.slice (some ⟨g8, 0, none⟩) (LS.length + 1) c8)) (fun k => k = w.heap.size) := (Chg.refl W8 _).setCell _ _ (fun _ => rfl)
              have hF8 : RwsF (fun g => w.heap.size + 1 ≤ g ∧ g < (W8.setCell ⟨w.heap.size, 1, none⟩ (.slice (some ⟨g8, 0, none⟩) (LS.length + 1) c8)).heap.size) (W8.setCell ⟨w.heap.size, 1, none⟩ (.slice (some ⟨g8, 0, none⟩) (LS.length + 1) c8)) (.slice A6 (levelS seed (h + 1)).length c6) (levelS seed (h + 1)) :=
                ((HUP.out.chg hc8 (fun g hg e => by have := HVB.out g e; omega)).chg hset (fun g hg e => by omega)).mono (fun g hg => ⟨by omega, by have := hc8.size; have := hset.size; omega⟩)
              go_roundw
              case rel => exact ⟨h + 1, by omega, Lib.hid ⟨(HBW.out.trans (hc8.below (by omega) (fun k hk => by have := (World.ownsRow.lt HBO.out.2.1 k hk).1; omega))).trans (hset.below (by have := hc8.size; omega) (fun k hk => by omega)), ⟨_, HK8.out.set 1 _ (by simp), by
                have e : (List.range (h + 1 + 1)).map (levelS seed) = LS ++ [levelS seed (h + 1)] := by rw [List.range_succ, List.map_append, HLS.out]; rfl
                rw [e]
                exact hOL8.chg hset (fun g k1 k2 k3 => by omega)⟩, hF8⟩⟩
              case measure => simp only [lenV]; have h1 := HLVV.out; rw [abN_length] at h1; have h2 := HKK.out; omega
        · obtain rfl : h = 4 := by omega
          have hl1 := (levelS_length seed).2.2.2.2
          have hd1 : ¬ (1 : Int) < ((levelS seed 4).length : Int) := by omega
          have HL1 := Lib.hid hl1
          clear hl1
          have HOW : Hid (OwnerAt wr w.heap.size seed) := Lib.hid (by
            obtain ⟨vl, k1, us, k2, k3⟩ := HI.out.2.1
            refine ⟨_, vl, us, k1, HX.out.below HI.out.1, Sho.own k2, fun q hq => ?_⟩
            obtain ⟨u, e, hu⟩ := k3 q (by simp; omega)
            exact ⟨u, e, by have := hu.rws; simpa using this⟩)
          go_wp2
          go_ret
          exact ⟨rfl, HOW.out, HI.out.1⟩
end Go.Proofs.YtlkgeifmppadmaaGreat
namespace Go.Proofs.YtlkgeifmppadmaaGreat
open Go.RowKit
set_option linter.unusedVariables false
set_option linter.unusedSimpArgs false

def ownerS (seed : List UInt8) : List UInt8 := (levelS seed 4).getD 0 []
theorem ownerS_length (seed : List UInt8) : (ownerS seed).length = 32 := by
  have h1 := (levelS_length seed).2.2.2.2
  have h2 := levelS_32 seed 4 0 (by omega)
  unfold ownerS
  rw [List.getD_eq_getElem?_getD, List.getElem?_eq_getElem (show 0 < (levelS seed 4).length by omega)]
  exact h2
set_option maxRecDepth 100000 in
set_option maxHeartbeats 1000000 in
theorem rpub_any (b : Nat) (seed : List UInt8) (w : World) (ho : OwnerAt w b seed) :
    Calls Tryz.prog 20 #[.pointer (some ⟨b, 0, none⟩)] w fun e w' => ∃ v, e = .returned v ∧ Bys w v (ownerS seed) ∧ w = w' := by
  obtain ⟨v, vl, us, k1, k2, k3, k4⟩ := ho
  obtain ⟨u, e4, hu⟩ := k4 4 (Nat.le_refl _)
  obtain ⟨Al, cl, rfl⟩ := k3.form
  obtain ⟨gl, ol, rfl, -, hgl, hcl, -, hcells⟩ := k3.place (by decide)
  have p4 := hcells 4 u e4
  have hl1 := (levelS_length seed).2.2.2.2
  obtain ⟨A4, c4, rfl⟩ := hu.form
  obtain ⟨g0, o0, u0, rfl, hg0, -, -, hcu, hbu⟩ := hu.at' 0 (by omega)
  rw [Nat.add_zero] at hcu
  have q1 := k1.cell 1 _ rfl
  have hl0 : (0 : Int) < ((levelS seed 4).length : Int) := by omega
  have HB : Hid (Bys w u0 (ownerS seed)) := Lib.hid (by
    unfold ownerS
    rw [List.getD_eq_getElem?_getD, List.getElem?_eq_getElem (show 0 < (levelS seed 4).length by omega)]
    exact hbu)
  clear hbu
  obtain ⟨A0, c0, rfl⟩ := HB.out.form
  clear hcells hl1 k4 hu k1 k2 k3 e4
  go_enter Tryz.func20, Tryz.ntmps20
  go_wp2
  go_ret
  exact ⟨_, rfl, HB.out, rfl⟩

/-- Whose node is shown beside a key's way. -/
def sibS (ix : Int) (h : Nat) : Int := bits .xor .i64 (ix / 2 ^ h) 1
theorem sib_ok : ∀ i : Fin 16, ∀ h : Fin 4, 0 ≤ sibS (i.val : Int) h.val ∧ sibS (i.val : Int) h.val * 2 ^ h.val < 16 := by decide +kernel
theorem sib_at (ix : Int) (h0 : 0 ≤ ix) (h1 : ix < 16) (h : Nat) (hh : h < 4) : 0 ≤ sibS ix h ∧ sibS ix h * 2 ^ h < 16 := by
  have := sib_ok ⟨ix.toNat, by omega⟩ ⟨h, hh⟩
  simpa [Int.toNat_of_nonneg h0] using this
def sigPath (seed : List UInt8) (ix : Int) : Nat → List (List UInt8)
  | 0 => []
  | h + 1 => sigPath seed ix h ++ [(levelS seed h).getD (sibS ix h).toNat []]
theorem sigPath_length (seed : List UInt8) (ix : Int) (h : Nat) : (sigPath seed ix h).length = h := by
  induction h with
  | zero => rfl
  | succ h ih => show (sigPath seed ix h ++ [_]).length = _; rw [List.length_append, ih]; rfl
theorem level_pow (seed : List UInt8) (h : Nat) (hh : h ≤ 4) : (levelS seed h).length * 2 ^ h = 16 := by
  obtain ⟨h0, h1, h2, h3, h4⟩ := levelS_length seed
  obtain rfl | rfl | rfl | rfl | rfl : h = 0 ∨ h = 1 ∨ h = 2 ∨ h = 3 ∨ h = 4 := by omega
  · rw [h0]
  · rw [h1]
  · rw [h2]
  · rw [h3]
  · rw [h4]
theorem sib_lt (seed : List UInt8) (ix : Int) (h0 : 0 ≤ ix) (h1 : ix < 16) (h : Nat) (hh : h < 4) : (sibS ix h).toNat < (levelS seed h).length := by
  obtain ⟨k0, k1⟩ := sib_at ix h0 h1 h hh
  have k2 := level_pow seed h (by omega)
  have : (sibS ix h).toNat * 2 ^ h < (levelS seed h).length * 2 ^ h := by
    rw [k2]
    have : (((sibS ix h).toNat * 2 ^ h : Nat) : Int) < 16 := by
      rw [Int.natCast_mul, Int.toNat_of_nonneg k0]
      simpa using k1
    omega
  exact Nat.lt_of_mul_lt_mul_right this
/-- What an owner signs. -/
def signS (seed : List UInt8) (ix : Int) (msg : List UInt8) : SigD := ⟨ix, partsS seed ix msg, sigPath seed ix 4⟩

/-- A row of one's own, of texts that lie below lo. -/
def OwnU (w : World) (lo base : Nat) (v : Value) (ls : List (List UInt8)) : Prop :=
  ∃ us, w.ownsRow base 26 1 v ls.length us ∧ ∀ i (h : i < ls.length), ∃ u, us[i]? = some u ∧ Bys w u ls[i] ∧ (0 < ls[i].length → ∀ g, u.ownBlock = some g → g < lo)
theorem OwnU.nil (w : World) (lo base : Nat) : OwnU w lo base (.slice none 0 0) [] := ⟨[], World.ownsRow_nil _ _ _ _, fun i h => absurd h (Nat.not_lt_zero _)⟩
theorem OwnU.rws {w : World} {lo base : Nat} {v : Value} {ls : List (List UInt8)} (h : OwnU w lo base v ls) : Rws w v ls := by
  obtain ⟨us, h1, h2⟩ := h
  exact ⟨us, Sho.own h1, fun i hi => by obtain ⟨u, e, hu, _⟩ := h2 i hi; exact ⟨u, e, hu⟩⟩
theorem OwnU.chg {w w1 : World} {lo base : Nat} {T : Nat → Prop} {v : Value} {ls : List (List UInt8)} (h : OwnU w lo base v ls) (hc : Chg w w1 T) (hT : ∀ g, T g → lo ≤ g ∧ g < base) : OwnU w1 lo base v ls := by
  obtain ⟨us, h1, h2⟩ := h
  refine ⟨us, ownsRow_chg h1 hc (fun k hk e => by have := (World.ownsRow.lt h1 k hk).1; have := hT k e; omega), fun i hi => ?_⟩
  obtain ⟨u, e, hx, hn⟩ := h2 i hi
  exact ⟨u, e, Sho.chgF hx (S := fun g => g < lo) hn hc (fun g hg e => by have := hT g e; omega), hn⟩
theorem OwnU.chg2 {w w1 : World} {lo base b : Nat} {v : Value} {ls : List (List UInt8)} (h : OwnU w lo base v ls) (hc : Chg w w1 (fun k => k = b)) (hb : lo ≤ b ∧ b < base) : OwnU w1 lo base v ls := h.chg hc (fun g hg => by omega)
theorem OwnU.push {w W : World} {lo base : Nat} {v v' u : Value} {ls : List (List UInt8)} {l : List UInt8} {us : List Value} {t : TypeId} {cs : Array Value} (hlo : lo ≤ base)
    (h0 : w.ownsRow base 26 1 v ls.length us) (h1 : ∀ i (h : i < ls.length), ∃ u, us[i]? = some u ∧ Bys w u ls[i] ∧ (0 < ls[i].length → ∀ g, u.ownBlock = some g → g < lo))
    (hu : Bys w u l) (hun : 0 < l.length → ∀ g, u.ownBlock = some g → g < lo)
    (ho : W.ownsRow base 26 1 v' (ls.length + 1) (us ++ [u])) (hg : (w.alloc (.cells cs t)).grownBy W v.ownBlock) : OwnU W lo base v' (ls ++ [l]) := by
  have hc : Chg w W (fun k => v.ownBlock = some k) := ((Chg.refl w _).alloc _).trans (Chg.of_grown hg) (fun i _ h => h.symm)
  have keep : ∀ (x : Value) (m : List UInt8), Bys w x m → (0 < m.length → ∀ g, x.ownBlock = some g → g < lo) → Bys W x m := fun x m hx hn =>
    Sho.chgF hx (S := fun g => g < lo) hn hc (fun g hg e => by have := (World.ownsRow.lt h0 g e).1; omega)
  have hl : us.length = ls.length := by have := h0.1; omega
  refine ⟨us ++ [u], by rw [List.length_append]; exact ho, fun i hi => ?_⟩
  by_cases hi' : i < ls.length
  · obtain ⟨x, e, hx, hn⟩ := h1 i hi'
    refine ⟨x, by rw [List.getElem?_append_left (by omega)]; exact e, ?_, ?_⟩
    · rw [List.getElem_append_left hi']; exact keep x _ hx hn
    · rw [List.getElem_append_left hi']; exact hn
  · have : i = ls.length := by simp at hi; omega
    subst this
    refine ⟨u, by rw [List.getElem?_append_right (by omega), hl]; simp, ?_, ?_⟩
    · rw [List.getElem_append_right (Nat.le_refl _)]; simpa using keep u l hu hun
    · intro h0
      exact hun (by rw [List.getElem_append_right (Nat.le_refl _)] at h0; simpa using h0)

/-- An owner whose blocks lie below lo. -/
def OwnerF (w : World) (lo b : Nat) (seed : List UInt8) : Prop :=
  ∃ v vl us, Blk w b 93 [v, vl] ∧ b < lo ∧ Bys w v seed ∧ (∀ g, v.ownBlock = some g → g < lo) ∧ Sho w vl 5 1 us ∧ (∀ g, vl.ownBlock = some g → g < lo) ∧ ∀ h, h ≤ 4 → ∃ u, us[h]? = some u ∧ RwsF (fun g => g < lo) w u (levelS seed h)
theorem RwsF.all {w : World} {v : Value} {ls : List (List UInt8)} (h : Rws w v ls) : RwsF (fun g => g < w.heap.size) w v ls := by
  obtain ⟨us, h1, h2⟩ := h
  exact ⟨us, h1, fun h0 g hg => Sho.lt h1 h0 g hg, fun i hi => by obtain ⟨u, e, hu⟩ := h2 i hi; exact ⟨u, e, hu, fun h0 g hg => Sho.lt hu h0 g hg⟩⟩
end Go.Proofs.YtlkgeifmppadmaaGreat
namespace Go.Proofs.YtlkgeifmppadmaaGreat
open Go.RowKit
set_option linter.unusedVariables false
set_option linter.unusedSimpArgs false

def OwnV (w : World) (base : Nat) (v : Value) (ls : List (List UInt8)) : Prop :=
  ∃ us, w.ownsRow base 26 1 v ls.length us ∧ ∀ i (h : i < ls.length), ∃ u, us[i]? = some u ∧ Bys w u ls[i] ∧ (0 < ls[i].length → ∀ g, u.ownBlock = some g → v.ownBlock ≠ some g)
theorem OwnV.nil (w : World) (base : Nat) : OwnV w base (.slice none 0 0) [] := ⟨[], World.ownsRow_nil _ _ _ _, fun i h => absurd h (Nat.not_lt_zero _)⟩
theorem OwnV.rws {w : World} {base : Nat} {v : Value} {ls : List (List UInt8)} (h : OwnV w base v ls) : Rws w v ls := by
  obtain ⟨us, h1, h2⟩ := h
  exact ⟨us, Sho.own h1, fun i hi => by obtain ⟨u, e, hu, _⟩ := h2 i hi; exact ⟨u, e, hu⟩⟩
theorem OwnV.keep {w w1 : World} {base : Nat} {v : Value} {ls : List (List UInt8)} (h : OwnV w base v ls) (hb : Below w.heap.size w w1) : OwnV w1 base v ls := by
  obtain ⟨us, h1, h2⟩ := h
  exact ⟨us, ownsRow_chg h1 (Chg.of_below (S := fun _ => False) hb) (fun _ _ h => h), fun i hi => by obtain ⟨u, e, hu, hn⟩ := h2 i hi; exact ⟨u, e, hu.below hb, hn⟩⟩
theorem OwnV.push {w W : World} {base : Nat} {v v' u : Value} {ls : List (List UInt8)} {l : List UInt8} {us : List Value} {t : TypeId} {cs : Array Value}
    (h0 : w.ownsRow base 26 1 v ls.length us) (h1 : ∀ i (h : i < ls.length), ∃ u, us[i]? = some u ∧ Bys w u ls[i] ∧ (0 < ls[i].length → ∀ g, u.ownBlock = some g → v.ownBlock ≠ some g))
    (hu : Bys w u l) (hun : 0 < l.length → ∀ g, u.ownBlock = some g → v.ownBlock ≠ some g)
    (ho : W.ownsRow base 26 1 v' (ls.length + 1) (us ++ [u])) (hg : (w.alloc (.cells cs t)).grownBy W v.ownBlock) (hv : v'.ownBlock = v.ownBlock ∨ ∃ q, v'.ownBlock = some q ∧ w.heap.size ≤ q) : OwnV W base v' (ls ++ [l]) := by
  have hc : Chg w W (fun k => v.ownBlock = some k) := ((Chg.refl w _).alloc _).trans (Chg.of_grown hg) (fun i _ h => h.symm)
  have keep : ∀ (x : Value) (m : List UInt8), Bys w x m → (0 < m.length → ∀ g, x.ownBlock = some g → v.ownBlock ≠ some g) → Bys W x m := fun x m hx hn =>
    Sho.chgF hx (S := fun g => v.ownBlock ≠ some g) hn hc (fun g hg e => hg e)
  have apart : ∀ (x : Value) (m : List UInt8), Bys w x m → (0 < m.length → ∀ g, x.ownBlock = some g → v.ownBlock ≠ some g) → (0 < m.length → ∀ g, x.ownBlock = some g → v'.ownBlock ≠ some g) := fun x m hx hn hp g hg => by
    rcases hv with e | ⟨q, e, hq⟩
    · rw [e]; exact hn hp g hg
    · rw [e]
      intro e2
      injection e2 with e2
      have := Sho.lt hx hp g hg
      omega
  have hl : us.length = ls.length := by have := h0.1; omega
  refine ⟨us ++ [u], by rw [List.length_append]; exact ho, fun i hi => ?_⟩
  by_cases hi' : i < ls.length
  · obtain ⟨x, e, hx, hn⟩ := h1 i hi'
    refine ⟨x, by rw [List.getElem?_append_left (by omega)]; exact e, ?_, ?_⟩
    · rw [List.getElem_append_left hi']; exact keep x _ hx hn
    · rw [List.getElem_append_left hi']; exact apart x _ hx hn
  · have : i = ls.length := by simp at hi; omega
    subst this
    refine ⟨u, by rw [List.getElem?_append_right (by omega), hl]; simp, ?_, ?_⟩
    · rw [List.getElem_append_right (Nat.le_refl _)]; simpa using keep u l hu hun
    · intro hp
      exact apart u l hu hun (by rw [List.getElem_append_right (Nat.le_refl _)] at hp; simpa using hp)
end Go.Proofs.YtlkgeifmppadmaaGreat

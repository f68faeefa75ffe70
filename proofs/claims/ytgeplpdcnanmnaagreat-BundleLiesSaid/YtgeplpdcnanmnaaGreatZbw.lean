/- The reference's Decode of manifests. Conditions: as each theorem states them. -/
import Derived.Test.YtgeplpdcnanmnaaGreatZbh
import Derived.Test.YtgeplpdcnanmnaaGreatZbe
import Derived.Test.YtgeplpdcnanmnaaGreatZbg
import Derived.Test.YtgeplpdcnanmnaaGreatZaa
import Derived.Test.YtgeplpdcnanmnaaGreatZay
import Derived.Deep.DeepCutAuto
namespace Go.Proofs.YtgeplpdcnanmnaaGreat
open Go.RowKit
set_option linter.unusedVariables false
set_option linter.unusedSimpArgs false

def RdF (D : Nat → Prop) (w0 wc : World) (zb mb rb : Nat) (nm : List UInt8) (ver : Int) (fv nv : Value) (fw nt : List UInt8) (r : RdD) : Prop := Blk wc mb 55 [.string ⟨nm.toArray⟩, .int .u32 ver, fv, nv] ∧ BysF (fun g => zb < g) wc fv fw ∧ BysF (fun g => zb < g) wc nv nt ∧ RrW D wc rb r ∧ Blk wc zb 55 [.string ⟨#[]⟩, .int .u32 0, .slice none 0 0, .slice none 0 0] ∧ Below zb w0 wc
theorem RdF.of {D : Nat → Prop} {w0 w2 wr W : World} {zb mb rb : Nat} {nm : List UInt8} {ver : Int} {fv nv : Value} {fw nt : List UInt8} {r : RdD} {n1 n2 : Nat} (hM : Blk W mb 55 [.string ⟨#[]⟩, .int .u32 0, .slice none 0 0, .slice none 0 0]) (hR : RrW D W rb r)
  (hz : Blk w2 zb 55 [.string ⟨#[]⟩, .int .u32 0, .slice none 0 0, .slice none 0 0]) (hb : Below zb w0 w2) (hQ : Chg w2 wr (fun _ => False)) (hC : Chg wr W (fun k => k = rb)) (h3 : OwnB W n1 fv fw) (h4 : OwnB W n2 nv nt)
  (h5 : ∀ k, fv.ownBlock = some k → k ≠ mb) (h6 : ∀ k, nv.ownBlock = some k → k ≠ mb) (hzr : zb < rb) (hrw : rb < wr.heap.size) (hmr : rb < mb) (hD : ¬ D mb) (hn1 : zb < n1) (hn2 : zb < n2) :
  RdF D w0 ((((W.setCell ⟨mb, 0, none⟩ (.string ⟨nm.toArray⟩)).setCell ⟨mb, 1, none⟩ (.int .u32 ver)).setCell ⟨mb, 2, none⟩ fv).setCell ⟨mb, 3, none⟩ nv) zb mb rb nm ver fv nv fw nt r := by
 have kS : Chg W ((((W.setCell ⟨mb, 0, none⟩ (.string ⟨nm.toArray⟩)).setCell ⟨mb, 1, none⟩ (.int .u32 ver)).setCell ⟨mb, 2, none⟩ fv).setCell ⟨mb, 3, none⟩ nv) (fun k => k = mb) := chg_cell (chg_cell (chg_cell (chg_cell (Chg.refl _ _) 0 _) 1 _) 2 _) 3 _
 have kB := (((hM.set 0 (.string ⟨nm.toArray⟩) (by simp)).set 1 (.int .u32 ver) (by simp)).set 2 fv (by simp)).set 3 nv (by simp)
 have hzl := hz.lt
 have hz2 : Blk wr zb _ _ := hz.chg hQ (fun h => h)
 refine ⟨kB, ⟨(OwnB.bys h3).chg kS h5, fun _ g hg => Nat.lt_of_lt_of_le hn1 (World.ownsRow.lt h3 g hg).1⟩, ⟨(OwnB.bys h4).chg kS h6, fun _ g hg => Nat.lt_of_lt_of_le hn2 (World.ownsRow.lt h4 g hg).1⟩, hR.chg kS (fun g hg e => hD (by rw [← (show g = mb from e)]; exact hg)) (by omega), (hz2.chg hC (by omega)).chg kS (by omega), ?_⟩
 exact (hb.trans (hQ.below (Nat.le_of_lt hzl) (fun _ h => h.elim))).trans ((hC.below (B := zb) (by have := hz2.lt; omega) (fun k hk => by have h : k = rb := hk; omega)).trans (kS.below (B := zb) (by have := (hz2.chg hC (by omega)).lt; omega) (fun k hk => by have h : k = mb := hk; omega)))
def MaU (u : Value) : Prop := ∃ (s : ByteArray) (n : Int) (A : Option Addr) (l c : Nat) (B : Option Addr) (k d : Nat), u = .agg #[.string s, .int .u32 n, .slice A l c, .slice B k d]
set_option maxRecDepth 100000 in
set_option maxHeartbeats 8000000 in
theorem rdecode_any (v : Value) (l : List UInt8) (hsm : l.length ≤ 1000000000) (w : World) (hv : Bys w v l) :
  Calls Tryz.prog 20 #[v] w fun e w' => ∃ u, e = .returned (.tuple #[u, .bool (decB l)]) ∧ MaU u ∧ Below w.heap.size w w' := by
 obtain ⟨A, c, rfl⟩ := hv.form
 obtain ⟨hb2, kz, kr⟩ := blk2 w [.string ⟨#[]⟩, .int .u32 0, .slice none 0 0, .slice none 0 0] [.slice A l.length c, .int .i64 0, .bool false] 55 113 _ rfl
 have hlv : BysF (fun g => g < w.heap.size) w (.slice A l.length c) l := ⟨hv, fun h0 g hg => Sho.lt hv h0 g hg⟩
 have HZ := Lib.hid (And.intro kz (And.intro hb2 (show RrW (fun g => g < w.heap.size) _ (w.heap.size + 1) ⟨l, false⟩ from ⟨_, l, 0, kr, hlv.below hb2, by omega, rfl, Nat.zero_le _, hsm, fun _ => rfl, fun e => Bool.noConfusion (show false = true from e)⟩)))
 clear kz hb2 kr hlv hv
 go_enter Tryz.func20, Tryz.ntmps20
 go_wp2_with fail
 refine calls_at (fun w0 => Blk w0 w.heap.size 55 [.string ⟨#[]⟩, .int .u32 0, .slice none 0 0, .slice none 0 0] ∧ Below w.heap.size w w0 ∧ RrW (fun g => g < w.heap.size) w0 (w.heap.size + 1) ⟨l, false⟩) HZ.out ?_
 rintro w1 ⟨k0, kb, h1⟩
 clear HZ
 generalize hrb : w.heap.size + 1 = rb at *
 have hzr : w.heap.size < rb := by omega
 generalize hzb : w.heap.size = zb at *
 have HZB := Lib.hid hzb
 clear hzb hrb
 have H1 := Lib.hid (And.intro h1 (And.intro k0 kb))
 clear h1 k0 kb
 have HDM : Hid (∀ m, rb < m → ¬ (fun g => g < zb) m) := Lib.hid (fun m hm h => by have h9 : m < zb := h; omega)
 generalize (fun g => g < zb) = D at *
 have HK : Hid (decB l = (decide (rnumV ⟨l, false⟩ 1 = 77) && (rend (decR l) && manB (decP l)))) := Lib.hid rfl
 have HP : Hid (decP l = ⟨rtxtV (rtakN ⟨l, false⟩ 1) 20, rnumV (rtxtR (rtakN ⟨l, false⟩ 1) 20) 4, rtakV (rtakN (rtxtR (rtakN ⟨l, false⟩ 1) 20) 4) 32, rtxtV (rtakN (rtakN (rtxtR (rtakN ⟨l, false⟩ 1) 20) 4) 32) 64⟩) := Lib.hid rfl
 have HD : Hid (decR l = rtxtR (rtakN (rtakN (rtxtR (rtakN ⟨l, false⟩ 1) 20) 4) 32) 64) := Lib.hid rfl
 have s1 := rtakN_length ⟨l, false⟩ 1
 have s2 := rtxtR_length (rtakN ⟨l, false⟩ 1) 20
 have s3 := rtakN_length (rtxtR (rtakN ⟨l, false⟩ 1) 20) 4
 have s4 := rtakN_length (rtakN (rtxtR (rtakN ⟨l, false⟩ 1) 20) 4) 32
 have nl1 : (rtxtV (rtakN ⟨l, false⟩ 1) 20).length ≤ (rtakN ⟨l, false⟩ 1).l.length := Nat.le_trans (rtakV_length _ _) (rtakN_length _ _)
 have vb := numL_bounds (rtakV (rtxtR (rtakN ⟨l, false⟩ 1) 20) 4)
 have HV0 : Hid (0 ≤ rnumV (rtxtR (rtakN ⟨l, false⟩ 1) 20) 4) := Lib.hid vb.1
 have HBY := Lib.hid (fun (wz : World) (z : RrW D wz rb ⟨l, false⟩) => rnumber_any D rb ⟨l, false⟩ 1 (by decide) hsm wz z)
 have hsm' : (⟨l, false⟩ : RdD).l.length ≤ 1000000000 := hsm
 have hsm1 : (rtakN ⟨l, false⟩ 1).l.length ≤ 1000000000 := Nat.le_trans s1 hsm'
 clear vb
 generalize rnumV ⟨l, false⟩ 1 = KB at *
 generalize rtakN ⟨l, false⟩ 1 = r1 at *
 generalize hDB : decB l = DB at *
 have HDBE := Lib.hid hDB
 clear hDB
 generalize hDP : decP l = DP at *
 have HDPE := Lib.hid hDP
 clear hDP
 generalize decR l = DR at *
 have HB1 := Lib.hid (fun (wz : World) (z : RrW D wz rb r1) => rbytes_any D rb r1 20 (by decide) hsm1 wz z)
 have HN1 := Lib.hid nl1
 generalize rtxtV r1 20 = nm at *
 generalize rtxtR r1 20 = r2 at *
 have hsm2 : r2.l.length ≤ 1000000000 := Nat.le_trans s2 hsm1
 have HU1 := Lib.hid (fun (wz : World) (z : RrW D wz rb r2) => rnumber_any D rb r2 4 (by decide) hsm2 wz z)
 generalize rnumV r2 4 = ver at *
 generalize rtakN r2 4 = r3 at *
 have hsm3 : r3.l.length ≤ 1000000000 := Nat.le_trans s3 hsm2
 have HW1 := Lib.hid (fun (wz : World) (z : RrW D wz rb r3) => rraw_any D rb r3 32 (by decide) wz z)
 generalize rtakV r3 32 = fw at *
 generalize rtakN r3 32 = r4 at *
 have hsm4 : r4.l.length ≤ 1000000000 := Nat.le_trans s4 hsm3
 have HB2 := Lib.hid (fun (wz : World) (z : RrW D wz rb r4) => rbytes_any D rb r4 64 (by decide) hsm4 wz z)
 generalize rtxtV r4 64 = nt at *
 generalize rtxtR r4 64 = r5 at *
 have hnm : nm.length ≤ 1000000000 := by have := HN1.out; omega
 clear s1 s2 s3 s4 nl1 HN1 hsm'
 go_wp2_with fail
 refine (HBY.out _ H1.out.1).mono ?_
 rintro e w2 ⟨rfl, h1, h2⟩
 have H2 := Lib.hid (And.intro h1 (And.intro (H1.out.2.1.chg h2 (by omega)) (H1.out.2.2.trans (h2.below (B := zb) (by have := H1.out.2.1.lt; omega) (fun k hk => by omega)))))
 clear h1 h2 H1 HBY
 go_upto_region 3 with fail
 go_cut [6] (fun v6 wc => ∃ mb fv nv, v6 = .pointer (some ⟨mb, 0, none⟩) ∧ Hid (rb < mb ∧ RdF D w wc zb mb rb nm ver fv nv fw nt r5))
 case first =>
  have HC : Hid (Chg w2.drew w2.drew (fun k => k = rb)) := Lib.hid (Chg.refl _ _)
  have HR : Hid (RrW D w2.drew rb r1) := Lib.hid (H2.out.1.below (Below.refl _ _).drew)
  refine wp_region_held_drew (S := fun _ => True) (by kernel_rfl) True.intro (fun hHeld => ?_)
  have HQ := Lib.hid (Chg.refl w2 (fun _ => False)).drew
  generalize w2.drew = wr at *
  have hrl := HR.out.lt
  have hzw : zb < rb := hzr
  have HDm := HDM
  refine ty 0 12 rfl rfl ?_; simp only [sa, sb, sc]
  refine ty 3 15 rfl rfl ?_; simp only [sa, sb, sc]
  refine ty 5 17 rfl rfl ?_; simp only [sa, sb, sc]
  refine ty 7 19 rfl rfl ?_; simp only [sa, sb, sc]
  refine wpAnyH_ready (rs := [1, 10]) (by kernel_rfl) (by simp) ?_
  refine AllReadyH.cons rfl (fun K hK => ?w3_1) (AllReadyH.cons rfl (fun K hK => ?w3_10) AllReadyH.nil)
  case' w3_10 =>
   go_simp
   obtain ⟨mb, hmb⟩ : ∃ mb : Nat, mb = (wr).heap.size := ⟨_, rfl⟩
   obtain ⟨W10, hV⟩ : ∃ V : World, V = (wr).alloc (.cells #[.string ⟨#[]⟩, .int .u32 0, .slice none 0 0, .slice none 0 0] 55) := ⟨_, rfl⟩
   have k3 : Chg (wr) W10 (fun k => k = rb) := by rw [hV]; exact (Chg.refl _ _).alloc _
   have HM : Hid (Blk W10 mb 55 [.string ⟨#[]⟩, .int .u32 0, .slice none 0 0, .slice none 0 0]) := Lib.hid (by rw [hV, hmb]; exact Blk.new _ _ _)
   have hmr : rb < mb := by have := HC.out.size; omega
   rw [← hV, ← hmb]
   replace HC := Lib.hid (HC.out.trans k3 (fun _ _ h => h))
   replace HR := Lib.hid (HR.out.chg (show Chg (wr) W10 (fun _ => False) from by rw [hV]; exact (Chg.refl _ _).alloc _) (fun _ _ h => h) (fun h => h))
   clear hV k3 hmb
   refine hK.out _ _ True.intro (fun hHeld10 => ?_)
   clear hK K; try simp only [Act.put, sa, sb, sc]
   refine rd 1 (by kernel_rfl) rfl (fun K hK => ?_)
   go_simp
   go_at_call 61
   refine (HB1.out _ HR.out).mono ?_
   rintro e W10_1 ⟨v1, rfl, h1, h2, h3⟩
   obtain ⟨A1, c1, rfl⟩ := h1.form
   have hb := HC.out.size
   have HnM : Hid (∀ k, (Value.slice A1 nm.length c1).ownBlock = some k → k ≠ mb) := Lib.hid (fun k hk => by have h7 := (World.ownsRow.lt h1 k hk).1; have h8 := HM.out.lt; omega)
   replace HC := Lib.hid (HC.out.trans h3 (fun _ _ h => h))
   replace HM := Lib.hid (HM.out.chg h3 (by omega))
   replace HR := Lib.hid h2
   have Hn := Lib.hid (own_mono' (b' := wr.heap.size) h1 hb)
   clear h1 h2 h3 hb
   go_wp2_with fail
   refine hK.out _ _ True.intro (fun hHeld1 => ?_)
   clear hK K; try simp only [Act.put, sa, sb, sc]
   refine wpAnyH_ready (rs := [2, 4]) (by kernel_rfl) (by simp) ?_
   refine AllReadyH.cons rfl (fun K hK => ?w3_10_1_2) (AllReadyH.cons rfl (fun K hK => ?w3_10_1_4) AllReadyH.nil)
   case' w3_10_1_4 =>
    go_simp
    go_at_call 60
    refine (HU1.out _ HR.out).mono ?_
    rintro e W10_1_4 ⟨rfl, h2, h3⟩
    replace HC := Lib.hid (HC.out.trans h3 (fun _ _ h => h))
    replace Hn := Lib.hid (ownsRow_chg Hn.out h3 (fun k hk e => by have h7 := (World.ownsRow.lt Hn.out k hk).1; have e' : k = rb := e; omega))
    replace HM := Lib.hid (HM.out.chg h3 (by omega))
    replace HR := Lib.hid h2
    clear h2 h3
    go_wp2_with fail
    refine hK.out _ _ True.intro (fun hHeld4 => ?_)
    clear hK K; try simp only [Act.put, sa, sb, sc]
    refine wpAnyH_ready (rs := [2, 6]) (by kernel_rfl) (by simp) ?_
    refine AllReadyH.cons rfl (fun K hK => ?w3_10_1_4_2) (AllReadyH.cons rfl (fun K hK => ?w3_10_1_4_6) AllReadyH.nil)
    case' w3_10_1_4_6 =>
     go_simp
     go_at_call 62
     refine (HW1.out _ HR.out).mono ?_
     rintro e W10_1_4_6 ⟨v6, rfl, h1, h2, h3⟩
     obtain ⟨A6, c6, rfl⟩ := h1.form
     have hb := HC.out.size
     have HfM : Hid (∀ k, (Value.slice A6 fw.length c6).ownBlock = some k → k ≠ mb) := Lib.hid (fun k hk => by have h7 := (World.ownsRow.lt h1 k hk).1; have h8 := HM.out.lt; omega)
     replace HC := Lib.hid (HC.out.trans h3 (fun _ _ h => h))
     replace Hn := Lib.hid (ownsRow_chg Hn.out h3 (fun k hk e => by have h7 := (World.ownsRow.lt Hn.out k hk).1; have e' : k = rb := e; omega))
     replace HM := Lib.hid (HM.out.chg h3 (by omega))
     replace HR := Lib.hid h2
     have Hf := Lib.hid (own_mono' (b' := wr.heap.size) h1 hb)
     clear h1 h2 h3 hb
     go_wp2_with fail
     refine hK.out _ _ True.intro (fun hHeld6 => ?_)
     clear hK K; try simp only [Act.put, sa, sb, sc]
     refine wpAnyH_ready (rs := [2, 8]) (by kernel_rfl) (by simp) ?_
     refine AllReadyH.cons rfl (fun K hK => ?w3_10_1_4_6_2) (AllReadyH.cons rfl (fun K hK => ?w3_10_1_4_6_8) AllReadyH.nil)
     case' w3_10_1_4_6_8 =>
      go_simp
      go_at_call 61
      refine (HB2.out _ HR.out).mono ?_
      rintro e W10_1_4_6_8 ⟨v8, rfl, h1, h2, h3⟩
      obtain ⟨A8, c8, rfl⟩ := h1.form
      have hb := HC.out.size
      have HtM : Hid (∀ k, (Value.slice A8 nt.length c8).ownBlock = some k → k ≠ mb) := Lib.hid (fun k hk => by have h7 := (World.ownsRow.lt h1 k hk).1; have h8 := HM.out.lt; omega)
      replace HC := Lib.hid (HC.out.trans h3 (fun _ _ h => h))
      replace Hn := Lib.hid (ownsRow_chg Hn.out h3 (fun k hk e => by have h7 := (World.ownsRow.lt Hn.out k hk).1; have e' : k = rb := e; omega))
      replace Hf := Lib.hid (ownsRow_chg Hf.out h3 (fun k hk e => by have h7 := (World.ownsRow.lt Hf.out k hk).1; have e' : k = rb := e; omega))
      replace HM := Lib.hid (HM.out.chg h3 (by omega))
      replace HR := Lib.hid h2
      have Ht := Lib.hid (own_mono' (b' := wr.heap.size) h1 hb)
      clear h1 h2 h3 hb
      go_wp2_with fail
      refine hK.out _ _ True.intro (fun hHeld8 => ?_)
      clear hK K; try simp only [Act.put, sa, sb, sc]
      refine rd 2 (by kernel_rfl) rfl (fun K hK => ?_)
      go_simp
      rw [run_string_bys _ _ nm (OwnB.bys Hn.out)]
      try dsimp only
      refine hK.out _ _ True.intro (fun hHeld2 => ?_)
      clear hK K; try simp only [Act.put, sa, sb, sc]
      refine ty 9 21 rfl rfl ?_; simp only [sa, sb, sc]
      refine rd 11 (by kernel_rfl) rfl (fun K hK => ?_)
      have y0 := HM.out.free 0
      have y1 := HM.out.free 1
      have y2 := HM.out.free 2
      have y3 := HM.out.free 3
      have z0 := HM.out.cell 0 _ rfl
      have z1 := HM.out.cell 1 _ rfl
      have z2 := HM.out.cell 2 _ rfl
      have z3 := HM.out.cell 3 _ rfl
      go_simp
      have HF := Lib.hid (RdF.of (nm := nm) (ver := ver) HM.out HR.out H2.out.2.1 H2.out.2.2 HQ.out HC.out Hf.out Ht.out HfM.out HtM.out hzr hrl hmr (HDm.out _ hmr) (Nat.lt_trans hzr hrl) (Nat.lt_trans hzr hrl))
      refine hK.out _ _ True.intro (fun hHeld11 => ?_)
      clear hK K; try simp only [Act.put, sa, sb, sc]
      refine wpAnyH_done (by kernel_rfl) ?_ _
      clear y0 y1 y2 y3 z0 z1 z2 z3
      go_wp2_with fail
      go_meet
      case rel => exact ⟨mb, _, _, rfl, Lib.hid ⟨hmr, HF.out⟩⟩
     case' w3_10_1_4_6_2 =>
      go_simp
      rw [run_string_bys _ _ nm (OwnB.bys Hn.out)]
      try dsimp only
      refine hK.out _ _ True.intro (fun hHeld2 => ?_)
      clear hK K; try simp only [Act.put, sa, sb, sc]
      refine rd 8 (by kernel_rfl) rfl (fun K hK => ?_)
      go_simp
      go_at_call 61
      refine (HB2.out _ HR.out).mono ?_
      rintro e W10_1_4_6_2_8 ⟨v8, rfl, h1, h2, h3⟩
      obtain ⟨A8, c8, rfl⟩ := h1.form
      have hb := HC.out.size
      have HtM : Hid (∀ k, (Value.slice A8 nt.length c8).ownBlock = some k → k ≠ mb) := Lib.hid (fun k hk => by have h7 := (World.ownsRow.lt h1 k hk).1; have h8 := HM.out.lt; omega)
      replace HC := Lib.hid (HC.out.trans h3 (fun _ _ h => h))
      replace Hn := Lib.hid (ownsRow_chg Hn.out h3 (fun k hk e => by have h7 := (World.ownsRow.lt Hn.out k hk).1; have e' : k = rb := e; omega))
      replace Hf := Lib.hid (ownsRow_chg Hf.out h3 (fun k hk e => by have h7 := (World.ownsRow.lt Hf.out k hk).1; have e' : k = rb := e; omega))
      replace HM := Lib.hid (HM.out.chg h3 (by omega))
      replace HR := Lib.hid h2
      have Ht := Lib.hid (own_mono' (b' := wr.heap.size) h1 hb)
      clear h1 h2 h3 hb
      go_wp2_with fail
      refine hK.out _ _ True.intro (fun hHeld8 => ?_)
      clear hK K; try simp only [Act.put, sa, sb, sc]
      refine ty 9 21 rfl rfl ?_; simp only [sa, sb, sc]
      refine rd 11 (by kernel_rfl) rfl (fun K hK => ?_)
      have y0 := HM.out.free 0
      have y1 := HM.out.free 1
      have y2 := HM.out.free 2
      have y3 := HM.out.free 3
      have z0 := HM.out.cell 0 _ rfl
      have z1 := HM.out.cell 1 _ rfl
      have z2 := HM.out.cell 2 _ rfl
      have z3 := HM.out.cell 3 _ rfl
      go_simp
      have HF := Lib.hid (RdF.of (nm := nm) (ver := ver) HM.out HR.out H2.out.2.1 H2.out.2.2 HQ.out HC.out Hf.out Ht.out HfM.out HtM.out hzr hrl hmr (HDm.out _ hmr) (Nat.lt_trans hzr hrl) (Nat.lt_trans hzr hrl))
      refine hK.out _ _ True.intro (fun hHeld11 => ?_)
      clear hK K; try simp only [Act.put, sa, sb, sc]
      refine wpAnyH_done (by kernel_rfl) ?_ _
      clear y0 y1 y2 y3 z0 z1 z2 z3
      go_wp2_with fail
      go_meet
      case rel => exact ⟨mb, _, _, rfl, Lib.hid ⟨hmr, HF.out⟩⟩
    case' w3_10_1_4_2 =>
     go_simp
     rw [run_string_bys _ _ nm (OwnB.bys Hn.out)]
     try dsimp only
     refine hK.out _ _ True.intro (fun hHeld2 => ?_)
     clear hK K; try simp only [Act.put, sa, sb, sc]
     refine rd 6 (by kernel_rfl) rfl (fun K hK => ?_)
     go_simp
     go_at_call 62
     refine (HW1.out _ HR.out).mono ?_
     rintro e W10_1_4_2_6 ⟨v6, rfl, h1, h2, h3⟩
     obtain ⟨A6, c6, rfl⟩ := h1.form
     have hb := HC.out.size
     have HfM : Hid (∀ k, (Value.slice A6 fw.length c6).ownBlock = some k → k ≠ mb) := Lib.hid (fun k hk => by have h7 := (World.ownsRow.lt h1 k hk).1; have h8 := HM.out.lt; omega)
     replace HC := Lib.hid (HC.out.trans h3 (fun _ _ h => h))
     replace Hn := Lib.hid (ownsRow_chg Hn.out h3 (fun k hk e => by have h7 := (World.ownsRow.lt Hn.out k hk).1; have e' : k = rb := e; omega))
     replace HM := Lib.hid (HM.out.chg h3 (by omega))
     replace HR := Lib.hid h2
     have Hf := Lib.hid (own_mono' (b' := wr.heap.size) h1 hb)
     clear h1 h2 h3 hb
     go_wp2_with fail
     refine hK.out _ _ True.intro (fun hHeld6 => ?_)
     clear hK K; try simp only [Act.put, sa, sb, sc]
     refine rd 8 (by kernel_rfl) rfl (fun K hK => ?_)
     go_simp
     go_at_call 61
     refine (HB2.out _ HR.out).mono ?_
     rintro e W10_1_4_2_6_8 ⟨v8, rfl, h1, h2, h3⟩
     obtain ⟨A8, c8, rfl⟩ := h1.form
     have hb := HC.out.size
     have HtM : Hid (∀ k, (Value.slice A8 nt.length c8).ownBlock = some k → k ≠ mb) := Lib.hid (fun k hk => by have h7 := (World.ownsRow.lt h1 k hk).1; have h8 := HM.out.lt; omega)
     replace HC := Lib.hid (HC.out.trans h3 (fun _ _ h => h))
     replace Hn := Lib.hid (ownsRow_chg Hn.out h3 (fun k hk e => by have h7 := (World.ownsRow.lt Hn.out k hk).1; have e' : k = rb := e; omega))
     replace Hf := Lib.hid (ownsRow_chg Hf.out h3 (fun k hk e => by have h7 := (World.ownsRow.lt Hf.out k hk).1; have e' : k = rb := e; omega))
     replace HM := Lib.hid (HM.out.chg h3 (by omega))
     replace HR := Lib.hid h2
     have Ht := Lib.hid (own_mono' (b' := wr.heap.size) h1 hb)
     clear h1 h2 h3 hb
     go_wp2_with fail
     refine hK.out _ _ True.intro (fun hHeld8 => ?_)
     clear hK K; try simp only [Act.put, sa, sb, sc]
     refine ty 9 21 rfl rfl ?_; simp only [sa, sb, sc]
     refine rd 11 (by kernel_rfl) rfl (fun K hK => ?_)
     have y0 := HM.out.free 0
     have y1 := HM.out.free 1
     have y2 := HM.out.free 2
     have y3 := HM.out.free 3
     have z0 := HM.out.cell 0 _ rfl
     have z1 := HM.out.cell 1 _ rfl
     have z2 := HM.out.cell 2 _ rfl
     have z3 := HM.out.cell 3 _ rfl
     go_simp
     have HF := Lib.hid (RdF.of (nm := nm) (ver := ver) HM.out HR.out H2.out.2.1 H2.out.2.2 HQ.out HC.out Hf.out Ht.out HfM.out HtM.out hzr hrl hmr (HDm.out _ hmr) (Nat.lt_trans hzr hrl) (Nat.lt_trans hzr hrl))
     refine hK.out _ _ True.intro (fun hHeld11 => ?_)
     clear hK K; try simp only [Act.put, sa, sb, sc]
     refine wpAnyH_done (by kernel_rfl) ?_ _
     clear y0 y1 y2 y3 z0 z1 z2 z3
     go_wp2_with fail
     go_meet
     case rel => exact ⟨mb, _, _, rfl, Lib.hid ⟨hmr, HF.out⟩⟩
   case' w3_10_1_2 =>
    go_simp
    rw [run_string_bys _ _ nm (OwnB.bys Hn.out)]
    try dsimp only
    refine hK.out _ _ True.intro (fun hHeld2 => ?_)
    clear hK K; try simp only [Act.put, sa, sb, sc]
    refine rd 4 (by kernel_rfl) rfl (fun K hK => ?_)
    go_simp
    go_at_call 60
    refine (HU1.out _ HR.out).mono ?_
    rintro e W10_1_2_4 ⟨rfl, h2, h3⟩
    replace HC := Lib.hid (HC.out.trans h3 (fun _ _ h => h))
    replace Hn := Lib.hid (ownsRow_chg Hn.out h3 (fun k hk e => by have h7 := (World.ownsRow.lt Hn.out k hk).1; have e' : k = rb := e; omega))
    replace HM := Lib.hid (HM.out.chg h3 (by omega))
    replace HR := Lib.hid h2
    clear h2 h3
    go_wp2_with fail
    refine hK.out _ _ True.intro (fun hHeld4 => ?_)
    clear hK K; try simp only [Act.put, sa, sb, sc]
    refine rd 6 (by kernel_rfl) rfl (fun K hK => ?_)
    go_simp
    go_at_call 62
    refine (HW1.out _ HR.out).mono ?_
    rintro e W10_1_2_4_6 ⟨v6, rfl, h1, h2, h3⟩
    obtain ⟨A6, c6, rfl⟩ := h1.form
    have hb := HC.out.size
    have HfM : Hid (∀ k, (Value.slice A6 fw.length c6).ownBlock = some k → k ≠ mb) := Lib.hid (fun k hk => by have h7 := (World.ownsRow.lt h1 k hk).1; have h8 := HM.out.lt; omega)
    replace HC := Lib.hid (HC.out.trans h3 (fun _ _ h => h))
    replace Hn := Lib.hid (ownsRow_chg Hn.out h3 (fun k hk e => by have h7 := (World.ownsRow.lt Hn.out k hk).1; have e' : k = rb := e; omega))
    replace HM := Lib.hid (HM.out.chg h3 (by omega))
    replace HR := Lib.hid h2
    have Hf := Lib.hid (own_mono' (b' := wr.heap.size) h1 hb)
    clear h1 h2 h3 hb
    go_wp2_with fail
    refine hK.out _ _ True.intro (fun hHeld6 => ?_)
    clear hK K; try simp only [Act.put, sa, sb, sc]
    refine rd 8 (by kernel_rfl) rfl (fun K hK => ?_)
    go_simp
    go_at_call 61
    refine (HB2.out _ HR.out).mono ?_
    rintro e W10_1_2_4_6_8 ⟨v8, rfl, h1, h2, h3⟩
    obtain ⟨A8, c8, rfl⟩ := h1.form
    have hb := HC.out.size
    have HtM : Hid (∀ k, (Value.slice A8 nt.length c8).ownBlock = some k → k ≠ mb) := Lib.hid (fun k hk => by have h7 := (World.ownsRow.lt h1 k hk).1; have h8 := HM.out.lt; omega)
    replace HC := Lib.hid (HC.out.trans h3 (fun _ _ h => h))
    replace Hn := Lib.hid (ownsRow_chg Hn.out h3 (fun k hk e => by have h7 := (World.ownsRow.lt Hn.out k hk).1; have e' : k = rb := e; omega))
    replace Hf := Lib.hid (ownsRow_chg Hf.out h3 (fun k hk e => by have h7 := (World.ownsRow.lt Hf.out k hk).1; have e' : k = rb := e; omega))
    replace HM := Lib.hid (HM.out.chg h3 (by omega))
    replace HR := Lib.hid h2
    have Ht := Lib.hid (own_mono' (b' := wr.heap.size) h1 hb)
    clear h1 h2 h3 hb
    go_wp2_with fail
    refine hK.out _ _ True.intro (fun hHeld8 => ?_)
    clear hK K; try simp only [Act.put, sa, sb, sc]
    refine ty 9 21 rfl rfl ?_; simp only [sa, sb, sc]
    refine rd 11 (by kernel_rfl) rfl (fun K hK => ?_)
    have y0 := HM.out.free 0
    have y1 := HM.out.free 1
    have y2 := HM.out.free 2
    have y3 := HM.out.free 3
    have z0 := HM.out.cell 0 _ rfl
    have z1 := HM.out.cell 1 _ rfl
    have z2 := HM.out.cell 2 _ rfl
    have z3 := HM.out.cell 3 _ rfl
    go_simp
    have HF := Lib.hid (RdF.of (nm := nm) (ver := ver) HM.out HR.out H2.out.2.1 H2.out.2.2 HQ.out HC.out Hf.out Ht.out HfM.out HtM.out hzr hrl hmr (HDm.out _ hmr) (Nat.lt_trans hzr hrl) (Nat.lt_trans hzr hrl))
    refine hK.out _ _ True.intro (fun hHeld11 => ?_)
    clear hK K; try simp only [Act.put, sa, sb, sc]
    refine wpAnyH_done (by kernel_rfl) ?_ _
    clear y0 y1 y2 y3 z0 z1 z2 z3
    go_wp2_with fail
    go_meet
    case rel => exact ⟨mb, _, _, rfl, Lib.hid ⟨hmr, HF.out⟩⟩
  case' w3_1 =>
   go_simp
   go_at_call 61
   refine (HB1.out _ HR.out).mono ?_
   rintro e W1 ⟨v1, rfl, h1, h2, h3⟩
   obtain ⟨A1, c1, rfl⟩ := h1.form
   have hb := HC.out.size
   replace HC := Lib.hid (HC.out.trans h3 (fun _ _ h => h))
   replace HR := Lib.hid h2
   have Hn := Lib.hid (own_mono' (b' := wr.heap.size) h1 hb)
   clear h1 h2 h3 hb
   go_wp2_with fail
   refine hK.out _ _ True.intro (fun hHeld1 => ?_)
   clear hK K; try simp only [Act.put, sa, sb, sc]
   refine wpAnyH_ready (rs := [2, 4, 10]) (by kernel_rfl) (by simp) ?_
   refine AllReadyH.cons rfl (fun K hK => ?w3_1_2) (AllReadyH.cons rfl (fun K hK => ?w3_1_4) (AllReadyH.cons rfl (fun K hK => ?w3_1_10) AllReadyH.nil))
   case' w3_1_10 =>
    go_simp
    obtain ⟨mb, hmb⟩ : ∃ mb : Nat, mb = (W1).heap.size := ⟨_, rfl⟩
    obtain ⟨W1_10, hV⟩ : ∃ V : World, V = (W1).alloc (.cells #[.string ⟨#[]⟩, .int .u32 0, .slice none 0 0, .slice none 0 0] 55) := ⟨_, rfl⟩
    have k3 : Chg (W1) W1_10 (fun k => k = rb) := by rw [hV]; exact (Chg.refl _ _).alloc _
    have HM : Hid (Blk W1_10 mb 55 [.string ⟨#[]⟩, .int .u32 0, .slice none 0 0, .slice none 0 0]) := Lib.hid (by rw [hV, hmb]; exact Blk.new _ _ _)
    have hmr : rb < mb := by have := HC.out.size; omega
    have HnM : Hid (∀ k, (Value.slice A1 nm.length c1).ownBlock = some k → k ≠ mb) := Lib.hid (fun k hk => by have h7 := (World.ownsRow.lt Hn.out k hk).2; omega)
    rw [← hV, ← hmb]
    replace HC := Lib.hid (HC.out.trans k3 (fun _ _ h => h))
    replace Hn := Lib.hid (ownsRow_chg Hn.out k3 (fun k hk e => by have h7 := (World.ownsRow.lt Hn.out k hk).1; have e' : k = rb := e; omega))
    replace HR := Lib.hid (HR.out.chg (show Chg (W1) W1_10 (fun _ => False) from by rw [hV]; exact (Chg.refl _ _).alloc _) (fun _ _ h => h) (fun h => h))
    clear hV k3 hmb
    refine hK.out _ _ True.intro (fun hHeld10 => ?_)
    clear hK K; try simp only [Act.put, sa, sb, sc]
    refine wpAnyH_ready (rs := [2, 4]) (by kernel_rfl) (by simp) ?_
    refine AllReadyH.cons rfl (fun K hK => ?w3_1_10_2) (AllReadyH.cons rfl (fun K hK => ?w3_1_10_4) AllReadyH.nil)
    case' w3_1_10_4 =>
     go_simp
     go_at_call 60
     refine (HU1.out _ HR.out).mono ?_
     rintro e W1_10_4 ⟨rfl, h2, h3⟩
     replace HC := Lib.hid (HC.out.trans h3 (fun _ _ h => h))
     replace Hn := Lib.hid (ownsRow_chg Hn.out h3 (fun k hk e => by have h7 := (World.ownsRow.lt Hn.out k hk).1; have e' : k = rb := e; omega))
     replace HM := Lib.hid (HM.out.chg h3 (by omega))
     replace HR := Lib.hid h2
     clear h2 h3
     go_wp2_with fail
     refine hK.out _ _ True.intro (fun hHeld4 => ?_)
     clear hK K; try simp only [Act.put, sa, sb, sc]
     refine wpAnyH_ready (rs := [2, 6]) (by kernel_rfl) (by simp) ?_
     refine AllReadyH.cons rfl (fun K hK => ?w3_1_10_4_2) (AllReadyH.cons rfl (fun K hK => ?w3_1_10_4_6) AllReadyH.nil)
     case' w3_1_10_4_6 =>
      go_simp
      go_at_call 62
      refine (HW1.out _ HR.out).mono ?_
      rintro e W1_10_4_6 ⟨v6, rfl, h1, h2, h3⟩
      obtain ⟨A6, c6, rfl⟩ := h1.form
      have hb := HC.out.size
      have HfM : Hid (∀ k, (Value.slice A6 fw.length c6).ownBlock = some k → k ≠ mb) := Lib.hid (fun k hk => by have h7 := (World.ownsRow.lt h1 k hk).1; have h8 := HM.out.lt; omega)
      replace HC := Lib.hid (HC.out.trans h3 (fun _ _ h => h))
      replace Hn := Lib.hid (ownsRow_chg Hn.out h3 (fun k hk e => by have h7 := (World.ownsRow.lt Hn.out k hk).1; have e' : k = rb := e; omega))
      replace HM := Lib.hid (HM.out.chg h3 (by omega))
      replace HR := Lib.hid h2
      have Hf := Lib.hid (own_mono' (b' := wr.heap.size) h1 hb)
      clear h1 h2 h3 hb
      go_wp2_with fail
      refine hK.out _ _ True.intro (fun hHeld6 => ?_)
      clear hK K; try simp only [Act.put, sa, sb, sc]
      refine wpAnyH_ready (rs := [2, 8]) (by kernel_rfl) (by simp) ?_
      refine AllReadyH.cons rfl (fun K hK => ?w3_1_10_4_6_2) (AllReadyH.cons rfl (fun K hK => ?w3_1_10_4_6_8) AllReadyH.nil)
      case' w3_1_10_4_6_8 =>
       go_simp
       go_at_call 61
       refine (HB2.out _ HR.out).mono ?_
       rintro e W1_10_4_6_8 ⟨v8, rfl, h1, h2, h3⟩
       obtain ⟨A8, c8, rfl⟩ := h1.form
       have hb := HC.out.size
       have HtM : Hid (∀ k, (Value.slice A8 nt.length c8).ownBlock = some k → k ≠ mb) := Lib.hid (fun k hk => by have h7 := (World.ownsRow.lt h1 k hk).1; have h8 := HM.out.lt; omega)
       replace HC := Lib.hid (HC.out.trans h3 (fun _ _ h => h))
       replace Hn := Lib.hid (ownsRow_chg Hn.out h3 (fun k hk e => by have h7 := (World.ownsRow.lt Hn.out k hk).1; have e' : k = rb := e; omega))
       replace Hf := Lib.hid (ownsRow_chg Hf.out h3 (fun k hk e => by have h7 := (World.ownsRow.lt Hf.out k hk).1; have e' : k = rb := e; omega))
       replace HM := Lib.hid (HM.out.chg h3 (by omega))
       replace HR := Lib.hid h2
       have Ht := Lib.hid (own_mono' (b' := wr.heap.size) h1 hb)
       clear h1 h2 h3 hb
       go_wp2_with fail
       refine hK.out _ _ True.intro (fun hHeld8 => ?_)
       clear hK K; try simp only [Act.put, sa, sb, sc]
       refine rd 2 (by kernel_rfl) rfl (fun K hK => ?_)
       go_simp
       rw [run_string_bys _ _ nm (OwnB.bys Hn.out)]
       try dsimp only
       refine hK.out _ _ True.intro (fun hHeld2 => ?_)
       clear hK K; try simp only [Act.put, sa, sb, sc]
       refine ty 9 21 rfl rfl ?_; simp only [sa, sb, sc]
       refine rd 11 (by kernel_rfl) rfl (fun K hK => ?_)
       have y0 := HM.out.free 0
       have y1 := HM.out.free 1
       have y2 := HM.out.free 2
       have y3 := HM.out.free 3
       have z0 := HM.out.cell 0 _ rfl
       have z1 := HM.out.cell 1 _ rfl
       have z2 := HM.out.cell 2 _ rfl
       have z3 := HM.out.cell 3 _ rfl
       go_simp
       have HF := Lib.hid (RdF.of (nm := nm) (ver := ver) HM.out HR.out H2.out.2.1 H2.out.2.2 HQ.out HC.out Hf.out Ht.out HfM.out HtM.out hzr hrl hmr (HDm.out _ hmr) (Nat.lt_trans hzr hrl) (Nat.lt_trans hzr hrl))
       refine hK.out _ _ True.intro (fun hHeld11 => ?_)
       clear hK K; try simp only [Act.put, sa, sb, sc]
       refine wpAnyH_done (by kernel_rfl) ?_ _
       clear y0 y1 y2 y3 z0 z1 z2 z3
       go_wp2_with fail
       go_meet
       case rel => exact ⟨mb, _, _, rfl, Lib.hid ⟨hmr, HF.out⟩⟩
      case' w3_1_10_4_6_2 =>
       go_simp
       rw [run_string_bys _ _ nm (OwnB.bys Hn.out)]
       try dsimp only
       refine hK.out _ _ True.intro (fun hHeld2 => ?_)
       clear hK K; try simp only [Act.put, sa, sb, sc]
       refine rd 8 (by kernel_rfl) rfl (fun K hK => ?_)
       go_simp
       go_at_call 61
       refine (HB2.out _ HR.out).mono ?_
       rintro e W1_10_4_6_2_8 ⟨v8, rfl, h1, h2, h3⟩
       obtain ⟨A8, c8, rfl⟩ := h1.form
       have hb := HC.out.size
       have HtM : Hid (∀ k, (Value.slice A8 nt.length c8).ownBlock = some k → k ≠ mb) := Lib.hid (fun k hk => by have h7 := (World.ownsRow.lt h1 k hk).1; have h8 := HM.out.lt; omega)
       replace HC := Lib.hid (HC.out.trans h3 (fun _ _ h => h))
       replace Hn := Lib.hid (ownsRow_chg Hn.out h3 (fun k hk e => by have h7 := (World.ownsRow.lt Hn.out k hk).1; have e' : k = rb := e; omega))
       replace Hf := Lib.hid (ownsRow_chg Hf.out h3 (fun k hk e => by have h7 := (World.ownsRow.lt Hf.out k hk).1; have e' : k = rb := e; omega))
       replace HM := Lib.hid (HM.out.chg h3 (by omega))
       replace HR := Lib.hid h2
       have Ht := Lib.hid (own_mono' (b' := wr.heap.size) h1 hb)
       clear h1 h2 h3 hb
       go_wp2_with fail
       refine hK.out _ _ True.intro (fun hHeld8 => ?_)
       clear hK K; try simp only [Act.put, sa, sb, sc]
       refine ty 9 21 rfl rfl ?_; simp only [sa, sb, sc]
       refine rd 11 (by kernel_rfl) rfl (fun K hK => ?_)
       have y0 := HM.out.free 0
       have y1 := HM.out.free 1
       have y2 := HM.out.free 2
       have y3 := HM.out.free 3
       have z0 := HM.out.cell 0 _ rfl
       have z1 := HM.out.cell 1 _ rfl
       have z2 := HM.out.cell 2 _ rfl
       have z3 := HM.out.cell 3 _ rfl
       go_simp
       have HF := Lib.hid (RdF.of (nm := nm) (ver := ver) HM.out HR.out H2.out.2.1 H2.out.2.2 HQ.out HC.out Hf.out Ht.out HfM.out HtM.out hzr hrl hmr (HDm.out _ hmr) (Nat.lt_trans hzr hrl) (Nat.lt_trans hzr hrl))
       refine hK.out _ _ True.intro (fun hHeld11 => ?_)
       clear hK K; try simp only [Act.put, sa, sb, sc]
       refine wpAnyH_done (by kernel_rfl) ?_ _
       clear y0 y1 y2 y3 z0 z1 z2 z3
       go_wp2_with fail
       go_meet
       case rel => exact ⟨mb, _, _, rfl, Lib.hid ⟨hmr, HF.out⟩⟩
     case' w3_1_10_4_2 =>
      go_simp
      rw [run_string_bys _ _ nm (OwnB.bys Hn.out)]
      try dsimp only
      refine hK.out _ _ True.intro (fun hHeld2 => ?_)
      clear hK K; try simp only [Act.put, sa, sb, sc]
      refine rd 6 (by kernel_rfl) rfl (fun K hK => ?_)
      go_simp
      go_at_call 62
      refine (HW1.out _ HR.out).mono ?_
      rintro e W1_10_4_2_6 ⟨v6, rfl, h1, h2, h3⟩
      obtain ⟨A6, c6, rfl⟩ := h1.form
      have hb := HC.out.size
      have HfM : Hid (∀ k, (Value.slice A6 fw.length c6).ownBlock = some k → k ≠ mb) := Lib.hid (fun k hk => by have h7 := (World.ownsRow.lt h1 k hk).1; have h8 := HM.out.lt; omega)
      replace HC := Lib.hid (HC.out.trans h3 (fun _ _ h => h))
      replace Hn := Lib.hid (ownsRow_chg Hn.out h3 (fun k hk e => by have h7 := (World.ownsRow.lt Hn.out k hk).1; have e' : k = rb := e; omega))
      replace HM := Lib.hid (HM.out.chg h3 (by omega))
      replace HR := Lib.hid h2
      have Hf := Lib.hid (own_mono' (b' := wr.heap.size) h1 hb)
      clear h1 h2 h3 hb
      go_wp2_with fail
      refine hK.out _ _ True.intro (fun hHeld6 => ?_)
      clear hK K; try simp only [Act.put, sa, sb, sc]
      refine rd 8 (by kernel_rfl) rfl (fun K hK => ?_)
      go_simp
      go_at_call 61
      refine (HB2.out _ HR.out).mono ?_
      rintro e W1_10_4_2_6_8 ⟨v8, rfl, h1, h2, h3⟩
      obtain ⟨A8, c8, rfl⟩ := h1.form
      have hb := HC.out.size
      have HtM : Hid (∀ k, (Value.slice A8 nt.length c8).ownBlock = some k → k ≠ mb) := Lib.hid (fun k hk => by have h7 := (World.ownsRow.lt h1 k hk).1; have h8 := HM.out.lt; omega)
      replace HC := Lib.hid (HC.out.trans h3 (fun _ _ h => h))
      replace Hn := Lib.hid (ownsRow_chg Hn.out h3 (fun k hk e => by have h7 := (World.ownsRow.lt Hn.out k hk).1; have e' : k = rb := e; omega))
      replace Hf := Lib.hid (ownsRow_chg Hf.out h3 (fun k hk e => by have h7 := (World.ownsRow.lt Hf.out k hk).1; have e' : k = rb := e; omega))
      replace HM := Lib.hid (HM.out.chg h3 (by omega))
      replace HR := Lib.hid h2
      have Ht := Lib.hid (own_mono' (b' := wr.heap.size) h1 hb)
      clear h1 h2 h3 hb
      go_wp2_with fail
      refine hK.out _ _ True.intro (fun hHeld8 => ?_)
      clear hK K; try simp only [Act.put, sa, sb, sc]
      refine ty 9 21 rfl rfl ?_; simp only [sa, sb, sc]
      refine rd 11 (by kernel_rfl) rfl (fun K hK => ?_)
      have y0 := HM.out.free 0
      have y1 := HM.out.free 1
      have y2 := HM.out.free 2
      have y3 := HM.out.free 3
      have z0 := HM.out.cell 0 _ rfl
      have z1 := HM.out.cell 1 _ rfl
      have z2 := HM.out.cell 2 _ rfl
      have z3 := HM.out.cell 3 _ rfl
      go_simp
      have HF := Lib.hid (RdF.of (nm := nm) (ver := ver) HM.out HR.out H2.out.2.1 H2.out.2.2 HQ.out HC.out Hf.out Ht.out HfM.out HtM.out hzr hrl hmr (HDm.out _ hmr) (Nat.lt_trans hzr hrl) (Nat.lt_trans hzr hrl))
      refine hK.out _ _ True.intro (fun hHeld11 => ?_)
      clear hK K; try simp only [Act.put, sa, sb, sc]
      refine wpAnyH_done (by kernel_rfl) ?_ _
      clear y0 y1 y2 y3 z0 z1 z2 z3
      go_wp2_with fail
      go_meet
      case rel => exact ⟨mb, _, _, rfl, Lib.hid ⟨hmr, HF.out⟩⟩
    case' w3_1_10_2 =>
     go_simp
     rw [run_string_bys _ _ nm (OwnB.bys Hn.out)]
     try dsimp only
     refine hK.out _ _ True.intro (fun hHeld2 => ?_)
     clear hK K; try simp only [Act.put, sa, sb, sc]
     refine rd 4 (by kernel_rfl) rfl (fun K hK => ?_)
     go_simp
     go_at_call 60
     refine (HU1.out _ HR.out).mono ?_
     rintro e W1_10_2_4 ⟨rfl, h2, h3⟩
     replace HC := Lib.hid (HC.out.trans h3 (fun _ _ h => h))
     replace Hn := Lib.hid (ownsRow_chg Hn.out h3 (fun k hk e => by have h7 := (World.ownsRow.lt Hn.out k hk).1; have e' : k = rb := e; omega))
     replace HM := Lib.hid (HM.out.chg h3 (by omega))
     replace HR := Lib.hid h2
     clear h2 h3
     go_wp2_with fail
     refine hK.out _ _ True.intro (fun hHeld4 => ?_)
     clear hK K; try simp only [Act.put, sa, sb, sc]
     refine rd 6 (by kernel_rfl) rfl (fun K hK => ?_)
     go_simp
     go_at_call 62
     refine (HW1.out _ HR.out).mono ?_
     rintro e W1_10_2_4_6 ⟨v6, rfl, h1, h2, h3⟩
     obtain ⟨A6, c6, rfl⟩ := h1.form
     have hb := HC.out.size
     have HfM : Hid (∀ k, (Value.slice A6 fw.length c6).ownBlock = some k → k ≠ mb) := Lib.hid (fun k hk => by have h7 := (World.ownsRow.lt h1 k hk).1; have h8 := HM.out.lt; omega)
     replace HC := Lib.hid (HC.out.trans h3 (fun _ _ h => h))
     replace Hn := Lib.hid (ownsRow_chg Hn.out h3 (fun k hk e => by have h7 := (World.ownsRow.lt Hn.out k hk).1; have e' : k = rb := e; omega))
     replace HM := Lib.hid (HM.out.chg h3 (by omega))
     replace HR := Lib.hid h2
     have Hf := Lib.hid (own_mono' (b' := wr.heap.size) h1 hb)
     clear h1 h2 h3 hb
     go_wp2_with fail
     refine hK.out _ _ True.intro (fun hHeld6 => ?_)
     clear hK K; try simp only [Act.put, sa, sb, sc]
     refine rd 8 (by kernel_rfl) rfl (fun K hK => ?_)
     go_simp
     go_at_call 61
     refine (HB2.out _ HR.out).mono ?_
     rintro e W1_10_2_4_6_8 ⟨v8, rfl, h1, h2, h3⟩
     obtain ⟨A8, c8, rfl⟩ := h1.form
     have hb := HC.out.size
     have HtM : Hid (∀ k, (Value.slice A8 nt.length c8).ownBlock = some k → k ≠ mb) := Lib.hid (fun k hk => by have h7 := (World.ownsRow.lt h1 k hk).1; have h8 := HM.out.lt; omega)
     replace HC := Lib.hid (HC.out.trans h3 (fun _ _ h => h))
     replace Hn := Lib.hid (ownsRow_chg Hn.out h3 (fun k hk e => by have h7 := (World.ownsRow.lt Hn.out k hk).1; have e' : k = rb := e; omega))
     replace Hf := Lib.hid (ownsRow_chg Hf.out h3 (fun k hk e => by have h7 := (World.ownsRow.lt Hf.out k hk).1; have e' : k = rb := e; omega))
     replace HM := Lib.hid (HM.out.chg h3 (by omega))
     replace HR := Lib.hid h2
     have Ht := Lib.hid (own_mono' (b' := wr.heap.size) h1 hb)
     clear h1 h2 h3 hb
     go_wp2_with fail
     refine hK.out _ _ True.intro (fun hHeld8 => ?_)
     clear hK K; try simp only [Act.put, sa, sb, sc]
     refine ty 9 21 rfl rfl ?_; simp only [sa, sb, sc]
     refine rd 11 (by kernel_rfl) rfl (fun K hK => ?_)
     have y0 := HM.out.free 0
     have y1 := HM.out.free 1
     have y2 := HM.out.free 2
     have y3 := HM.out.free 3
     have z0 := HM.out.cell 0 _ rfl
     have z1 := HM.out.cell 1 _ rfl
     have z2 := HM.out.cell 2 _ rfl
     have z3 := HM.out.cell 3 _ rfl
     go_simp
     have HF := Lib.hid (RdF.of (nm := nm) (ver := ver) HM.out HR.out H2.out.2.1 H2.out.2.2 HQ.out HC.out Hf.out Ht.out HfM.out HtM.out hzr hrl hmr (HDm.out _ hmr) (Nat.lt_trans hzr hrl) (Nat.lt_trans hzr hrl))
     refine hK.out _ _ True.intro (fun hHeld11 => ?_)
     clear hK K; try simp only [Act.put, sa, sb, sc]
     refine wpAnyH_done (by kernel_rfl) ?_ _
     clear y0 y1 y2 y3 z0 z1 z2 z3
     go_wp2_with fail
     go_meet
     case rel => exact ⟨mb, _, _, rfl, Lib.hid ⟨hmr, HF.out⟩⟩
   case' w3_1_4 =>
    go_simp
    go_at_call 60
    refine (HU1.out _ HR.out).mono ?_
    rintro e W1_4 ⟨rfl, h2, h3⟩
    replace HC := Lib.hid (HC.out.trans h3 (fun _ _ h => h))
    replace Hn := Lib.hid (ownsRow_chg Hn.out h3 (fun k hk e => by have h7 := (World.ownsRow.lt Hn.out k hk).1; have e' : k = rb := e; omega))
    replace HR := Lib.hid h2
    clear h2 h3
    go_wp2_with fail
    refine hK.out _ _ True.intro (fun hHeld4 => ?_)
    clear hK K; try simp only [Act.put, sa, sb, sc]
    refine wpAnyH_ready (rs := [2, 6, 10]) (by kernel_rfl) (by simp) ?_
    refine AllReadyH.cons rfl (fun K hK => ?w3_1_4_2) (AllReadyH.cons rfl (fun K hK => ?w3_1_4_6) (AllReadyH.cons rfl (fun K hK => ?w3_1_4_10) AllReadyH.nil))
    case' w3_1_4_10 =>
     go_simp
     obtain ⟨mb, hmb⟩ : ∃ mb : Nat, mb = (W1_4).heap.size := ⟨_, rfl⟩
     obtain ⟨W1_4_10, hV⟩ : ∃ V : World, V = (W1_4).alloc (.cells #[.string ⟨#[]⟩, .int .u32 0, .slice none 0 0, .slice none 0 0] 55) := ⟨_, rfl⟩
     have k3 : Chg (W1_4) W1_4_10 (fun k => k = rb) := by rw [hV]; exact (Chg.refl _ _).alloc _
     have HM : Hid (Blk W1_4_10 mb 55 [.string ⟨#[]⟩, .int .u32 0, .slice none 0 0, .slice none 0 0]) := Lib.hid (by rw [hV, hmb]; exact Blk.new _ _ _)
     have hmr : rb < mb := by have := HC.out.size; omega
     have HnM : Hid (∀ k, (Value.slice A1 nm.length c1).ownBlock = some k → k ≠ mb) := Lib.hid (fun k hk => by have h7 := (World.ownsRow.lt Hn.out k hk).2; omega)
     rw [← hV, ← hmb]
     replace HC := Lib.hid (HC.out.trans k3 (fun _ _ h => h))
     replace Hn := Lib.hid (ownsRow_chg Hn.out k3 (fun k hk e => by have h7 := (World.ownsRow.lt Hn.out k hk).1; have e' : k = rb := e; omega))
     replace HR := Lib.hid (HR.out.chg (show Chg (W1_4) W1_4_10 (fun _ => False) from by rw [hV]; exact (Chg.refl _ _).alloc _) (fun _ _ h => h) (fun h => h))
     clear hV k3 hmb
     refine hK.out _ _ True.intro (fun hHeld10 => ?_)
     clear hK K; try simp only [Act.put, sa, sb, sc]
     refine wpAnyH_ready (rs := [2, 6]) (by kernel_rfl) (by simp) ?_
     refine AllReadyH.cons rfl (fun K hK => ?w3_1_4_10_2) (AllReadyH.cons rfl (fun K hK => ?w3_1_4_10_6) AllReadyH.nil)
     case' w3_1_4_10_6 =>
      go_simp
      go_at_call 62
      refine (HW1.out _ HR.out).mono ?_
      rintro e W1_4_10_6 ⟨v6, rfl, h1, h2, h3⟩
      obtain ⟨A6, c6, rfl⟩ := h1.form
      have hb := HC.out.size
      have HfM : Hid (∀ k, (Value.slice A6 fw.length c6).ownBlock = some k → k ≠ mb) := Lib.hid (fun k hk => by have h7 := (World.ownsRow.lt h1 k hk).1; have h8 := HM.out.lt; omega)
      replace HC := Lib.hid (HC.out.trans h3 (fun _ _ h => h))
      replace Hn := Lib.hid (ownsRow_chg Hn.out h3 (fun k hk e => by have h7 := (World.ownsRow.lt Hn.out k hk).1; have e' : k = rb := e; omega))
      replace HM := Lib.hid (HM.out.chg h3 (by omega))
      replace HR := Lib.hid h2
      have Hf := Lib.hid (own_mono' (b' := wr.heap.size) h1 hb)
      clear h1 h2 h3 hb
      go_wp2_with fail
      refine hK.out _ _ True.intro (fun hHeld6 => ?_)
      clear hK K; try simp only [Act.put, sa, sb, sc]
      refine wpAnyH_ready (rs := [2, 8]) (by kernel_rfl) (by simp) ?_
      refine AllReadyH.cons rfl (fun K hK => ?w3_1_4_10_6_2) (AllReadyH.cons rfl (fun K hK => ?w3_1_4_10_6_8) AllReadyH.nil)
      case' w3_1_4_10_6_8 =>
       go_simp
       go_at_call 61
       refine (HB2.out _ HR.out).mono ?_
       rintro e W1_4_10_6_8 ⟨v8, rfl, h1, h2, h3⟩
       obtain ⟨A8, c8, rfl⟩ := h1.form
       have hb := HC.out.size
       have HtM : Hid (∀ k, (Value.slice A8 nt.length c8).ownBlock = some k → k ≠ mb) := Lib.hid (fun k hk => by have h7 := (World.ownsRow.lt h1 k hk).1; have h8 := HM.out.lt; omega)
       replace HC := Lib.hid (HC.out.trans h3 (fun _ _ h => h))
       replace Hn := Lib.hid (ownsRow_chg Hn.out h3 (fun k hk e => by have h7 := (World.ownsRow.lt Hn.out k hk).1; have e' : k = rb := e; omega))
       replace Hf := Lib.hid (ownsRow_chg Hf.out h3 (fun k hk e => by have h7 := (World.ownsRow.lt Hf.out k hk).1; have e' : k = rb := e; omega))
       replace HM := Lib.hid (HM.out.chg h3 (by omega))
       replace HR := Lib.hid h2
       have Ht := Lib.hid (own_mono' (b' := wr.heap.size) h1 hb)
       clear h1 h2 h3 hb
       go_wp2_with fail
       refine hK.out _ _ True.intro (fun hHeld8 => ?_)
       clear hK K; try simp only [Act.put, sa, sb, sc]
       refine rd 2 (by kernel_rfl) rfl (fun K hK => ?_)
       go_simp
       rw [run_string_bys _ _ nm (OwnB.bys Hn.out)]
       try dsimp only
       refine hK.out _ _ True.intro (fun hHeld2 => ?_)
       clear hK K; try simp only [Act.put, sa, sb, sc]
       refine ty 9 21 rfl rfl ?_; simp only [sa, sb, sc]
       refine rd 11 (by kernel_rfl) rfl (fun K hK => ?_)
       have y0 := HM.out.free 0
       have y1 := HM.out.free 1
       have y2 := HM.out.free 2
       have y3 := HM.out.free 3
       have z0 := HM.out.cell 0 _ rfl
       have z1 := HM.out.cell 1 _ rfl
       have z2 := HM.out.cell 2 _ rfl
       have z3 := HM.out.cell 3 _ rfl
       go_simp
       have HF := Lib.hid (RdF.of (nm := nm) (ver := ver) HM.out HR.out H2.out.2.1 H2.out.2.2 HQ.out HC.out Hf.out Ht.out HfM.out HtM.out hzr hrl hmr (HDm.out _ hmr) (Nat.lt_trans hzr hrl) (Nat.lt_trans hzr hrl))
       refine hK.out _ _ True.intro (fun hHeld11 => ?_)
       clear hK K; try simp only [Act.put, sa, sb, sc]
       refine wpAnyH_done (by kernel_rfl) ?_ _
       clear y0 y1 y2 y3 z0 z1 z2 z3
       go_wp2_with fail
       go_meet
       case rel => exact ⟨mb, _, _, rfl, Lib.hid ⟨hmr, HF.out⟩⟩
      case' w3_1_4_10_6_2 =>
       go_simp
       rw [run_string_bys _ _ nm (OwnB.bys Hn.out)]
       try dsimp only
       refine hK.out _ _ True.intro (fun hHeld2 => ?_)
       clear hK K; try simp only [Act.put, sa, sb, sc]
       refine rd 8 (by kernel_rfl) rfl (fun K hK => ?_)
       go_simp
       go_at_call 61
       refine (HB2.out _ HR.out).mono ?_
       rintro e W1_4_10_6_2_8 ⟨v8, rfl, h1, h2, h3⟩
       obtain ⟨A8, c8, rfl⟩ := h1.form
       have hb := HC.out.size
       have HtM : Hid (∀ k, (Value.slice A8 nt.length c8).ownBlock = some k → k ≠ mb) := Lib.hid (fun k hk => by have h7 := (World.ownsRow.lt h1 k hk).1; have h8 := HM.out.lt; omega)
       replace HC := Lib.hid (HC.out.trans h3 (fun _ _ h => h))
       replace Hn := Lib.hid (ownsRow_chg Hn.out h3 (fun k hk e => by have h7 := (World.ownsRow.lt Hn.out k hk).1; have e' : k = rb := e; omega))
       replace Hf := Lib.hid (ownsRow_chg Hf.out h3 (fun k hk e => by have h7 := (World.ownsRow.lt Hf.out k hk).1; have e' : k = rb := e; omega))
       replace HM := Lib.hid (HM.out.chg h3 (by omega))
       replace HR := Lib.hid h2
       have Ht := Lib.hid (own_mono' (b' := wr.heap.size) h1 hb)
       clear h1 h2 h3 hb
       go_wp2_with fail
       refine hK.out _ _ True.intro (fun hHeld8 => ?_)
       clear hK K; try simp only [Act.put, sa, sb, sc]
       refine ty 9 21 rfl rfl ?_; simp only [sa, sb, sc]
       refine rd 11 (by kernel_rfl) rfl (fun K hK => ?_)
       have y0 := HM.out.free 0
       have y1 := HM.out.free 1
       have y2 := HM.out.free 2
       have y3 := HM.out.free 3
       have z0 := HM.out.cell 0 _ rfl
       have z1 := HM.out.cell 1 _ rfl
       have z2 := HM.out.cell 2 _ rfl
       have z3 := HM.out.cell 3 _ rfl
       go_simp
       have HF := Lib.hid (RdF.of (nm := nm) (ver := ver) HM.out HR.out H2.out.2.1 H2.out.2.2 HQ.out HC.out Hf.out Ht.out HfM.out HtM.out hzr hrl hmr (HDm.out _ hmr) (Nat.lt_trans hzr hrl) (Nat.lt_trans hzr hrl))
       refine hK.out _ _ True.intro (fun hHeld11 => ?_)
       clear hK K; try simp only [Act.put, sa, sb, sc]
       refine wpAnyH_done (by kernel_rfl) ?_ _
       clear y0 y1 y2 y3 z0 z1 z2 z3
       go_wp2_with fail
       go_meet
       case rel => exact ⟨mb, _, _, rfl, Lib.hid ⟨hmr, HF.out⟩⟩
     case' w3_1_4_10_2 =>
      go_simp
      rw [run_string_bys _ _ nm (OwnB.bys Hn.out)]
      try dsimp only
      refine hK.out _ _ True.intro (fun hHeld2 => ?_)
      clear hK K; try simp only [Act.put, sa, sb, sc]
      refine rd 6 (by kernel_rfl) rfl (fun K hK => ?_)
      go_simp
      go_at_call 62
      refine (HW1.out _ HR.out).mono ?_
      rintro e W1_4_10_2_6 ⟨v6, rfl, h1, h2, h3⟩
      obtain ⟨A6, c6, rfl⟩ := h1.form
      have hb := HC.out.size
      have HfM : Hid (∀ k, (Value.slice A6 fw.length c6).ownBlock = some k → k ≠ mb) := Lib.hid (fun k hk => by have h7 := (World.ownsRow.lt h1 k hk).1; have h8 := HM.out.lt; omega)
      replace HC := Lib.hid (HC.out.trans h3 (fun _ _ h => h))
      replace Hn := Lib.hid (ownsRow_chg Hn.out h3 (fun k hk e => by have h7 := (World.ownsRow.lt Hn.out k hk).1; have e' : k = rb := e; omega))
      replace HM := Lib.hid (HM.out.chg h3 (by omega))
      replace HR := Lib.hid h2
      have Hf := Lib.hid (own_mono' (b' := wr.heap.size) h1 hb)
      clear h1 h2 h3 hb
      go_wp2_with fail
      refine hK.out _ _ True.intro (fun hHeld6 => ?_)
      clear hK K; try simp only [Act.put, sa, sb, sc]
      refine rd 8 (by kernel_rfl) rfl (fun K hK => ?_)
      go_simp
      go_at_call 61
      refine (HB2.out _ HR.out).mono ?_
      rintro e W1_4_10_2_6_8 ⟨v8, rfl, h1, h2, h3⟩
      obtain ⟨A8, c8, rfl⟩ := h1.form
      have hb := HC.out.size
      have HtM : Hid (∀ k, (Value.slice A8 nt.length c8).ownBlock = some k → k ≠ mb) := Lib.hid (fun k hk => by have h7 := (World.ownsRow.lt h1 k hk).1; have h8 := HM.out.lt; omega)
      replace HC := Lib.hid (HC.out.trans h3 (fun _ _ h => h))
      replace Hn := Lib.hid (ownsRow_chg Hn.out h3 (fun k hk e => by have h7 := (World.ownsRow.lt Hn.out k hk).1; have e' : k = rb := e; omega))
      replace Hf := Lib.hid (ownsRow_chg Hf.out h3 (fun k hk e => by have h7 := (World.ownsRow.lt Hf.out k hk).1; have e' : k = rb := e; omega))
      replace HM := Lib.hid (HM.out.chg h3 (by omega))
      replace HR := Lib.hid h2
      have Ht := Lib.hid (own_mono' (b' := wr.heap.size) h1 hb)
      clear h1 h2 h3 hb
      go_wp2_with fail
      refine hK.out _ _ True.intro (fun hHeld8 => ?_)
      clear hK K; try simp only [Act.put, sa, sb, sc]
      refine ty 9 21 rfl rfl ?_; simp only [sa, sb, sc]
      refine rd 11 (by kernel_rfl) rfl (fun K hK => ?_)
      have y0 := HM.out.free 0
      have y1 := HM.out.free 1
      have y2 := HM.out.free 2
      have y3 := HM.out.free 3
      have z0 := HM.out.cell 0 _ rfl
      have z1 := HM.out.cell 1 _ rfl
      have z2 := HM.out.cell 2 _ rfl
      have z3 := HM.out.cell 3 _ rfl
      go_simp
      have HF := Lib.hid (RdF.of (nm := nm) (ver := ver) HM.out HR.out H2.out.2.1 H2.out.2.2 HQ.out HC.out Hf.out Ht.out HfM.out HtM.out hzr hrl hmr (HDm.out _ hmr) (Nat.lt_trans hzr hrl) (Nat.lt_trans hzr hrl))
      refine hK.out _ _ True.intro (fun hHeld11 => ?_)
      clear hK K; try simp only [Act.put, sa, sb, sc]
      refine wpAnyH_done (by kernel_rfl) ?_ _
      clear y0 y1 y2 y3 z0 z1 z2 z3
      go_wp2_with fail
      go_meet
      case rel => exact ⟨mb, _, _, rfl, Lib.hid ⟨hmr, HF.out⟩⟩
    case' w3_1_4_6 =>
     go_simp
     go_at_call 62
     refine (HW1.out _ HR.out).mono ?_
     rintro e W1_4_6 ⟨v6, rfl, h1, h2, h3⟩
     obtain ⟨A6, c6, rfl⟩ := h1.form
     have hb := HC.out.size
     replace HC := Lib.hid (HC.out.trans h3 (fun _ _ h => h))
     replace Hn := Lib.hid (ownsRow_chg Hn.out h3 (fun k hk e => by have h7 := (World.ownsRow.lt Hn.out k hk).1; have e' : k = rb := e; omega))
     replace HR := Lib.hid h2
     have Hf := Lib.hid (own_mono' (b' := wr.heap.size) h1 hb)
     clear h1 h2 h3 hb
     go_wp2_with fail
     refine hK.out _ _ True.intro (fun hHeld6 => ?_)
     clear hK K; try simp only [Act.put, sa, sb, sc]
     refine wpAnyH_ready (rs := [2, 8, 10]) (by kernel_rfl) (by simp) ?_
     refine AllReadyH.cons rfl (fun K hK => ?w3_1_4_6_2) (AllReadyH.cons rfl (fun K hK => ?w3_1_4_6_8) (AllReadyH.cons rfl (fun K hK => ?w3_1_4_6_10) AllReadyH.nil))
     case' w3_1_4_6_10 =>
      go_simp
      obtain ⟨mb, hmb⟩ : ∃ mb : Nat, mb = (W1_4_6).heap.size := ⟨_, rfl⟩
      obtain ⟨W1_4_6_10, hV⟩ : ∃ V : World, V = (W1_4_6).alloc (.cells #[.string ⟨#[]⟩, .int .u32 0, .slice none 0 0, .slice none 0 0] 55) := ⟨_, rfl⟩
      have k3 : Chg (W1_4_6) W1_4_6_10 (fun k => k = rb) := by rw [hV]; exact (Chg.refl _ _).alloc _
      have HM : Hid (Blk W1_4_6_10 mb 55 [.string ⟨#[]⟩, .int .u32 0, .slice none 0 0, .slice none 0 0]) := Lib.hid (by rw [hV, hmb]; exact Blk.new _ _ _)
      have hmr : rb < mb := by have := HC.out.size; omega
      have HnM : Hid (∀ k, (Value.slice A1 nm.length c1).ownBlock = some k → k ≠ mb) := Lib.hid (fun k hk => by have h7 := (World.ownsRow.lt Hn.out k hk).2; omega)
      have HfM : Hid (∀ k, (Value.slice A6 fw.length c6).ownBlock = some k → k ≠ mb) := Lib.hid (fun k hk => by have h7 := (World.ownsRow.lt Hf.out k hk).2; omega)
      rw [← hV, ← hmb]
      replace HC := Lib.hid (HC.out.trans k3 (fun _ _ h => h))
      replace Hn := Lib.hid (ownsRow_chg Hn.out k3 (fun k hk e => by have h7 := (World.ownsRow.lt Hn.out k hk).1; have e' : k = rb := e; omega))
      replace Hf := Lib.hid (ownsRow_chg Hf.out k3 (fun k hk e => by have h7 := (World.ownsRow.lt Hf.out k hk).1; have e' : k = rb := e; omega))
      replace HR := Lib.hid (HR.out.chg (show Chg (W1_4_6) W1_4_6_10 (fun _ => False) from by rw [hV]; exact (Chg.refl _ _).alloc _) (fun _ _ h => h) (fun h => h))
      clear hV k3 hmb
      refine hK.out _ _ True.intro (fun hHeld10 => ?_)
      clear hK K; try simp only [Act.put, sa, sb, sc]
      refine wpAnyH_ready (rs := [2, 8]) (by kernel_rfl) (by simp) ?_
      refine AllReadyH.cons rfl (fun K hK => ?w3_1_4_6_10_2) (AllReadyH.cons rfl (fun K hK => ?w3_1_4_6_10_8) AllReadyH.nil)
      case' w3_1_4_6_10_8 =>
       go_simp
       go_at_call 61
       refine (HB2.out _ HR.out).mono ?_
       rintro e W1_4_6_10_8 ⟨v8, rfl, h1, h2, h3⟩
       obtain ⟨A8, c8, rfl⟩ := h1.form
       have hb := HC.out.size
       have HtM : Hid (∀ k, (Value.slice A8 nt.length c8).ownBlock = some k → k ≠ mb) := Lib.hid (fun k hk => by have h7 := (World.ownsRow.lt h1 k hk).1; have h8 := HM.out.lt; omega)
       replace HC := Lib.hid (HC.out.trans h3 (fun _ _ h => h))
       replace Hn := Lib.hid (ownsRow_chg Hn.out h3 (fun k hk e => by have h7 := (World.ownsRow.lt Hn.out k hk).1; have e' : k = rb := e; omega))
       replace Hf := Lib.hid (ownsRow_chg Hf.out h3 (fun k hk e => by have h7 := (World.ownsRow.lt Hf.out k hk).1; have e' : k = rb := e; omega))
       replace HM := Lib.hid (HM.out.chg h3 (by omega))
       replace HR := Lib.hid h2
       have Ht := Lib.hid (own_mono' (b' := wr.heap.size) h1 hb)
       clear h1 h2 h3 hb
       go_wp2_with fail
       refine hK.out _ _ True.intro (fun hHeld8 => ?_)
       clear hK K; try simp only [Act.put, sa, sb, sc]
       refine rd 2 (by kernel_rfl) rfl (fun K hK => ?_)
       go_simp
       rw [run_string_bys _ _ nm (OwnB.bys Hn.out)]
       try dsimp only
       refine hK.out _ _ True.intro (fun hHeld2 => ?_)
       clear hK K; try simp only [Act.put, sa, sb, sc]
       refine ty 9 21 rfl rfl ?_; simp only [sa, sb, sc]
       refine rd 11 (by kernel_rfl) rfl (fun K hK => ?_)
       have y0 := HM.out.free 0
       have y1 := HM.out.free 1
       have y2 := HM.out.free 2
       have y3 := HM.out.free 3
       have z0 := HM.out.cell 0 _ rfl
       have z1 := HM.out.cell 1 _ rfl
       have z2 := HM.out.cell 2 _ rfl
       have z3 := HM.out.cell 3 _ rfl
       go_simp
       have HF := Lib.hid (RdF.of (nm := nm) (ver := ver) HM.out HR.out H2.out.2.1 H2.out.2.2 HQ.out HC.out Hf.out Ht.out HfM.out HtM.out hzr hrl hmr (HDm.out _ hmr) (Nat.lt_trans hzr hrl) (Nat.lt_trans hzr hrl))
       refine hK.out _ _ True.intro (fun hHeld11 => ?_)
       clear hK K; try simp only [Act.put, sa, sb, sc]
       refine wpAnyH_done (by kernel_rfl) ?_ _
       clear y0 y1 y2 y3 z0 z1 z2 z3
       go_wp2_with fail
       go_meet
       case rel => exact ⟨mb, _, _, rfl, Lib.hid ⟨hmr, HF.out⟩⟩
      case' w3_1_4_6_10_2 =>
       go_simp
       rw [run_string_bys _ _ nm (OwnB.bys Hn.out)]
       try dsimp only
       refine hK.out _ _ True.intro (fun hHeld2 => ?_)
       clear hK K; try simp only [Act.put, sa, sb, sc]
       refine rd 8 (by kernel_rfl) rfl (fun K hK => ?_)
       go_simp
       go_at_call 61
       refine (HB2.out _ HR.out).mono ?_
       rintro e W1_4_6_10_2_8 ⟨v8, rfl, h1, h2, h3⟩
       obtain ⟨A8, c8, rfl⟩ := h1.form
       have hb := HC.out.size
       have HtM : Hid (∀ k, (Value.slice A8 nt.length c8).ownBlock = some k → k ≠ mb) := Lib.hid (fun k hk => by have h7 := (World.ownsRow.lt h1 k hk).1; have h8 := HM.out.lt; omega)
       replace HC := Lib.hid (HC.out.trans h3 (fun _ _ h => h))
       replace Hn := Lib.hid (ownsRow_chg Hn.out h3 (fun k hk e => by have h7 := (World.ownsRow.lt Hn.out k hk).1; have e' : k = rb := e; omega))
       replace Hf := Lib.hid (ownsRow_chg Hf.out h3 (fun k hk e => by have h7 := (World.ownsRow.lt Hf.out k hk).1; have e' : k = rb := e; omega))
       replace HM := Lib.hid (HM.out.chg h3 (by omega))
       replace HR := Lib.hid h2
       have Ht := Lib.hid (own_mono' (b' := wr.heap.size) h1 hb)
       clear h1 h2 h3 hb
       go_wp2_with fail
       refine hK.out _ _ True.intro (fun hHeld8 => ?_)
       clear hK K; try simp only [Act.put, sa, sb, sc]
       refine ty 9 21 rfl rfl ?_; simp only [sa, sb, sc]
       refine rd 11 (by kernel_rfl) rfl (fun K hK => ?_)
       have y0 := HM.out.free 0
       have y1 := HM.out.free 1
       have y2 := HM.out.free 2
       have y3 := HM.out.free 3
       have z0 := HM.out.cell 0 _ rfl
       have z1 := HM.out.cell 1 _ rfl
       have z2 := HM.out.cell 2 _ rfl
       have z3 := HM.out.cell 3 _ rfl
       go_simp
       have HF := Lib.hid (RdF.of (nm := nm) (ver := ver) HM.out HR.out H2.out.2.1 H2.out.2.2 HQ.out HC.out Hf.out Ht.out HfM.out HtM.out hzr hrl hmr (HDm.out _ hmr) (Nat.lt_trans hzr hrl) (Nat.lt_trans hzr hrl))
       refine hK.out _ _ True.intro (fun hHeld11 => ?_)
       clear hK K; try simp only [Act.put, sa, sb, sc]
       refine wpAnyH_done (by kernel_rfl) ?_ _
       clear y0 y1 y2 y3 z0 z1 z2 z3
       go_wp2_with fail
       go_meet
       case rel => exact ⟨mb, _, _, rfl, Lib.hid ⟨hmr, HF.out⟩⟩
     case' w3_1_4_6_8 =>
      go_simp
      go_at_call 61
      refine (HB2.out _ HR.out).mono ?_
      rintro e W1_4_6_8 ⟨v8, rfl, h1, h2, h3⟩
      obtain ⟨A8, c8, rfl⟩ := h1.form
      have hb := HC.out.size
      replace HC := Lib.hid (HC.out.trans h3 (fun _ _ h => h))
      replace Hn := Lib.hid (ownsRow_chg Hn.out h3 (fun k hk e => by have h7 := (World.ownsRow.lt Hn.out k hk).1; have e' : k = rb := e; omega))
      replace Hf := Lib.hid (ownsRow_chg Hf.out h3 (fun k hk e => by have h7 := (World.ownsRow.lt Hf.out k hk).1; have e' : k = rb := e; omega))
      replace HR := Lib.hid h2
      have Ht := Lib.hid (own_mono' (b' := wr.heap.size) h1 hb)
      clear h1 h2 h3 hb
      go_wp2_with fail
      refine hK.out _ _ True.intro (fun hHeld8 => ?_)
      clear hK K; try simp only [Act.put, sa, sb, sc]
      refine wpAnyH_ready (rs := [2, 10]) (by kernel_rfl) (by simp) ?_
      refine AllReadyH.cons rfl (fun K hK => ?w3_1_4_6_8_2) (AllReadyH.cons rfl (fun K hK => ?w3_1_4_6_8_10) AllReadyH.nil)
      case' w3_1_4_6_8_10 =>
       go_simp
       obtain ⟨mb, hmb⟩ : ∃ mb : Nat, mb = (W1_4_6_8).heap.size := ⟨_, rfl⟩
       obtain ⟨W1_4_6_8_10, hV⟩ : ∃ V : World, V = (W1_4_6_8).alloc (.cells #[.string ⟨#[]⟩, .int .u32 0, .slice none 0 0, .slice none 0 0] 55) := ⟨_, rfl⟩
       have k3 : Chg (W1_4_6_8) W1_4_6_8_10 (fun k => k = rb) := by rw [hV]; exact (Chg.refl _ _).alloc _
       have HM : Hid (Blk W1_4_6_8_10 mb 55 [.string ⟨#[]⟩, .int .u32 0, .slice none 0 0, .slice none 0 0]) := Lib.hid (by rw [hV, hmb]; exact Blk.new _ _ _)
       have hmr : rb < mb := by have := HC.out.size; omega
       have HnM : Hid (∀ k, (Value.slice A1 nm.length c1).ownBlock = some k → k ≠ mb) := Lib.hid (fun k hk => by have h7 := (World.ownsRow.lt Hn.out k hk).2; omega)
       have HfM : Hid (∀ k, (Value.slice A6 fw.length c6).ownBlock = some k → k ≠ mb) := Lib.hid (fun k hk => by have h7 := (World.ownsRow.lt Hf.out k hk).2; omega)
       have HtM : Hid (∀ k, (Value.slice A8 nt.length c8).ownBlock = some k → k ≠ mb) := Lib.hid (fun k hk => by have h7 := (World.ownsRow.lt Ht.out k hk).2; omega)
       rw [← hV, ← hmb]
       replace HC := Lib.hid (HC.out.trans k3 (fun _ _ h => h))
       replace Hn := Lib.hid (ownsRow_chg Hn.out k3 (fun k hk e => by have h7 := (World.ownsRow.lt Hn.out k hk).1; have e' : k = rb := e; omega))
       replace Hf := Lib.hid (ownsRow_chg Hf.out k3 (fun k hk e => by have h7 := (World.ownsRow.lt Hf.out k hk).1; have e' : k = rb := e; omega))
       replace Ht := Lib.hid (ownsRow_chg Ht.out k3 (fun k hk e => by have h7 := (World.ownsRow.lt Ht.out k hk).1; have e' : k = rb := e; omega))
       replace HR := Lib.hid (HR.out.chg (show Chg (W1_4_6_8) W1_4_6_8_10 (fun _ => False) from by rw [hV]; exact (Chg.refl _ _).alloc _) (fun _ _ h => h) (fun h => h))
       clear hV k3 hmb
       refine hK.out _ _ True.intro (fun hHeld10 => ?_)
       clear hK K; try simp only [Act.put, sa, sb, sc]
       refine rd 2 (by kernel_rfl) rfl (fun K hK => ?_)
       go_simp
       rw [run_string_bys _ _ nm (OwnB.bys Hn.out)]
       try dsimp only
       refine hK.out _ _ True.intro (fun hHeld2 => ?_)
       clear hK K; try simp only [Act.put, sa, sb, sc]
       refine ty 9 21 rfl rfl ?_; simp only [sa, sb, sc]
       refine rd 11 (by kernel_rfl) rfl (fun K hK => ?_)
       have y0 := HM.out.free 0
       have y1 := HM.out.free 1
       have y2 := HM.out.free 2
       have y3 := HM.out.free 3
       have z0 := HM.out.cell 0 _ rfl
       have z1 := HM.out.cell 1 _ rfl
       have z2 := HM.out.cell 2 _ rfl
       have z3 := HM.out.cell 3 _ rfl
       go_simp
       have HF := Lib.hid (RdF.of (nm := nm) (ver := ver) HM.out HR.out H2.out.2.1 H2.out.2.2 HQ.out HC.out Hf.out Ht.out HfM.out HtM.out hzr hrl hmr (HDm.out _ hmr) (Nat.lt_trans hzr hrl) (Nat.lt_trans hzr hrl))
       refine hK.out _ _ True.intro (fun hHeld11 => ?_)
       clear hK K; try simp only [Act.put, sa, sb, sc]
       refine wpAnyH_done (by kernel_rfl) ?_ _
       clear y0 y1 y2 y3 z0 z1 z2 z3
       go_wp2_with fail
       go_meet
       case rel => exact ⟨mb, _, _, rfl, Lib.hid ⟨hmr, HF.out⟩⟩
      case' w3_1_4_6_8_2 =>
       go_simp
       rw [run_string_bys _ _ nm (OwnB.bys Hn.out)]
       try dsimp only
       refine hK.out _ _ True.intro (fun hHeld2 => ?_)
       clear hK K; try simp only [Act.put, sa, sb, sc]
       refine ty 9 21 rfl rfl ?_; simp only [sa, sb, sc]
       refine rd 10 (by kernel_rfl) rfl (fun K hK => ?_)
       go_simp
       obtain ⟨mb, hmb⟩ : ∃ mb : Nat, mb = (W1_4_6_8).heap.size := ⟨_, rfl⟩
       obtain ⟨W1_4_6_8_2_10, hV⟩ : ∃ V : World, V = (W1_4_6_8).alloc (.cells #[.string ⟨#[]⟩, .int .u32 0, .slice none 0 0, .slice none 0 0] 55) := ⟨_, rfl⟩
       have k3 : Chg (W1_4_6_8) W1_4_6_8_2_10 (fun k => k = rb) := by rw [hV]; exact (Chg.refl _ _).alloc _
       have HM : Hid (Blk W1_4_6_8_2_10 mb 55 [.string ⟨#[]⟩, .int .u32 0, .slice none 0 0, .slice none 0 0]) := Lib.hid (by rw [hV, hmb]; exact Blk.new _ _ _)
       have hmr : rb < mb := by have := HC.out.size; omega
       have HnM : Hid (∀ k, (Value.slice A1 nm.length c1).ownBlock = some k → k ≠ mb) := Lib.hid (fun k hk => by have h7 := (World.ownsRow.lt Hn.out k hk).2; omega)
       have HfM : Hid (∀ k, (Value.slice A6 fw.length c6).ownBlock = some k → k ≠ mb) := Lib.hid (fun k hk => by have h7 := (World.ownsRow.lt Hf.out k hk).2; omega)
       have HtM : Hid (∀ k, (Value.slice A8 nt.length c8).ownBlock = some k → k ≠ mb) := Lib.hid (fun k hk => by have h7 := (World.ownsRow.lt Ht.out k hk).2; omega)
       rw [← hV, ← hmb]
       replace HC := Lib.hid (HC.out.trans k3 (fun _ _ h => h))
       replace Hn := Lib.hid (ownsRow_chg Hn.out k3 (fun k hk e => by have h7 := (World.ownsRow.lt Hn.out k hk).1; have e' : k = rb := e; omega))
       replace Hf := Lib.hid (ownsRow_chg Hf.out k3 (fun k hk e => by have h7 := (World.ownsRow.lt Hf.out k hk).1; have e' : k = rb := e; omega))
       replace Ht := Lib.hid (ownsRow_chg Ht.out k3 (fun k hk e => by have h7 := (World.ownsRow.lt Ht.out k hk).1; have e' : k = rb := e; omega))
       replace HR := Lib.hid (HR.out.chg (show Chg (W1_4_6_8) W1_4_6_8_2_10 (fun _ => False) from by rw [hV]; exact (Chg.refl _ _).alloc _) (fun _ _ h => h) (fun h => h))
       clear hV k3 hmb
       refine hK.out _ _ True.intro (fun hHeld10 => ?_)
       clear hK K; try simp only [Act.put, sa, sb, sc]
       refine rd 11 (by kernel_rfl) rfl (fun K hK => ?_)
       have y0 := HM.out.free 0
       have y1 := HM.out.free 1
       have y2 := HM.out.free 2
       have y3 := HM.out.free 3
       have z0 := HM.out.cell 0 _ rfl
       have z1 := HM.out.cell 1 _ rfl
       have z2 := HM.out.cell 2 _ rfl
       have z3 := HM.out.cell 3 _ rfl
       go_simp
       have HF := Lib.hid (RdF.of (nm := nm) (ver := ver) HM.out HR.out H2.out.2.1 H2.out.2.2 HQ.out HC.out Hf.out Ht.out HfM.out HtM.out hzr hrl hmr (HDm.out _ hmr) (Nat.lt_trans hzr hrl) (Nat.lt_trans hzr hrl))
       refine hK.out _ _ True.intro (fun hHeld11 => ?_)
       clear hK K; try simp only [Act.put, sa, sb, sc]
       refine wpAnyH_done (by kernel_rfl) ?_ _
       clear y0 y1 y2 y3 z0 z1 z2 z3
       go_wp2_with fail
       go_meet
       case rel => exact ⟨mb, _, _, rfl, Lib.hid ⟨hmr, HF.out⟩⟩
     case' w3_1_4_6_2 =>
      go_simp
      rw [run_string_bys _ _ nm (OwnB.bys Hn.out)]
      try dsimp only
      refine hK.out _ _ True.intro (fun hHeld2 => ?_)
      clear hK K; try simp only [Act.put, sa, sb, sc]
      refine wpAnyH_ready (rs := [8, 10]) (by kernel_rfl) (by simp) ?_
      refine AllReadyH.cons rfl (fun K hK => ?w3_1_4_6_2_8) (AllReadyH.cons rfl (fun K hK => ?w3_1_4_6_2_10) AllReadyH.nil)
      case' w3_1_4_6_2_10 =>
       go_simp
       obtain ⟨mb, hmb⟩ : ∃ mb : Nat, mb = (W1_4_6).heap.size := ⟨_, rfl⟩
       obtain ⟨W1_4_6_2_10, hV⟩ : ∃ V : World, V = (W1_4_6).alloc (.cells #[.string ⟨#[]⟩, .int .u32 0, .slice none 0 0, .slice none 0 0] 55) := ⟨_, rfl⟩
       have k3 : Chg (W1_4_6) W1_4_6_2_10 (fun k => k = rb) := by rw [hV]; exact (Chg.refl _ _).alloc _
       have HM : Hid (Blk W1_4_6_2_10 mb 55 [.string ⟨#[]⟩, .int .u32 0, .slice none 0 0, .slice none 0 0]) := Lib.hid (by rw [hV, hmb]; exact Blk.new _ _ _)
       have hmr : rb < mb := by have := HC.out.size; omega
       have HnM : Hid (∀ k, (Value.slice A1 nm.length c1).ownBlock = some k → k ≠ mb) := Lib.hid (fun k hk => by have h7 := (World.ownsRow.lt Hn.out k hk).2; omega)
       have HfM : Hid (∀ k, (Value.slice A6 fw.length c6).ownBlock = some k → k ≠ mb) := Lib.hid (fun k hk => by have h7 := (World.ownsRow.lt Hf.out k hk).2; omega)
       rw [← hV, ← hmb]
       replace HC := Lib.hid (HC.out.trans k3 (fun _ _ h => h))
       replace Hn := Lib.hid (ownsRow_chg Hn.out k3 (fun k hk e => by have h7 := (World.ownsRow.lt Hn.out k hk).1; have e' : k = rb := e; omega))
       replace Hf := Lib.hid (ownsRow_chg Hf.out k3 (fun k hk e => by have h7 := (World.ownsRow.lt Hf.out k hk).1; have e' : k = rb := e; omega))
       replace HR := Lib.hid (HR.out.chg (show Chg (W1_4_6) W1_4_6_2_10 (fun _ => False) from by rw [hV]; exact (Chg.refl _ _).alloc _) (fun _ _ h => h) (fun h => h))
       clear hV k3 hmb
       refine hK.out _ _ True.intro (fun hHeld10 => ?_)
       clear hK K; try simp only [Act.put, sa, sb, sc]
       refine rd 8 (by kernel_rfl) rfl (fun K hK => ?_)
       go_simp
       go_at_call 61
       refine (HB2.out _ HR.out).mono ?_
       rintro e W1_4_6_2_10_8 ⟨v8, rfl, h1, h2, h3⟩
       obtain ⟨A8, c8, rfl⟩ := h1.form
       have hb := HC.out.size
       have HtM : Hid (∀ k, (Value.slice A8 nt.length c8).ownBlock = some k → k ≠ mb) := Lib.hid (fun k hk => by have h7 := (World.ownsRow.lt h1 k hk).1; have h8 := HM.out.lt; omega)
       replace HC := Lib.hid (HC.out.trans h3 (fun _ _ h => h))
       replace Hn := Lib.hid (ownsRow_chg Hn.out h3 (fun k hk e => by have h7 := (World.ownsRow.lt Hn.out k hk).1; have e' : k = rb := e; omega))
       replace Hf := Lib.hid (ownsRow_chg Hf.out h3 (fun k hk e => by have h7 := (World.ownsRow.lt Hf.out k hk).1; have e' : k = rb := e; omega))
       replace HM := Lib.hid (HM.out.chg h3 (by omega))
       replace HR := Lib.hid h2
       have Ht := Lib.hid (own_mono' (b' := wr.heap.size) h1 hb)
       clear h1 h2 h3 hb
       go_wp2_with fail
       refine hK.out _ _ True.intro (fun hHeld8 => ?_)
       clear hK K; try simp only [Act.put, sa, sb, sc]
       refine ty 9 21 rfl rfl ?_; simp only [sa, sb, sc]
       refine rd 11 (by kernel_rfl) rfl (fun K hK => ?_)
       have y0 := HM.out.free 0
       have y1 := HM.out.free 1
       have y2 := HM.out.free 2
       have y3 := HM.out.free 3
       have z0 := HM.out.cell 0 _ rfl
       have z1 := HM.out.cell 1 _ rfl
       have z2 := HM.out.cell 2 _ rfl
       have z3 := HM.out.cell 3 _ rfl
       go_simp
       have HF := Lib.hid (RdF.of (nm := nm) (ver := ver) HM.out HR.out H2.out.2.1 H2.out.2.2 HQ.out HC.out Hf.out Ht.out HfM.out HtM.out hzr hrl hmr (HDm.out _ hmr) (Nat.lt_trans hzr hrl) (Nat.lt_trans hzr hrl))
       refine hK.out _ _ True.intro (fun hHeld11 => ?_)
       clear hK K; try simp only [Act.put, sa, sb, sc]
       refine wpAnyH_done (by kernel_rfl) ?_ _
       clear y0 y1 y2 y3 z0 z1 z2 z3
       go_wp2_with fail
       go_meet
       case rel => exact ⟨mb, _, _, rfl, Lib.hid ⟨hmr, HF.out⟩⟩
      case' w3_1_4_6_2_8 =>
       go_simp
       go_at_call 61
       refine (HB2.out _ HR.out).mono ?_
       rintro e W1_4_6_2_8 ⟨v8, rfl, h1, h2, h3⟩
       obtain ⟨A8, c8, rfl⟩ := h1.form
       have hb := HC.out.size
       replace HC := Lib.hid (HC.out.trans h3 (fun _ _ h => h))
       replace Hn := Lib.hid (ownsRow_chg Hn.out h3 (fun k hk e => by have h7 := (World.ownsRow.lt Hn.out k hk).1; have e' : k = rb := e; omega))
       replace Hf := Lib.hid (ownsRow_chg Hf.out h3 (fun k hk e => by have h7 := (World.ownsRow.lt Hf.out k hk).1; have e' : k = rb := e; omega))
       replace HR := Lib.hid h2
       have Ht := Lib.hid (own_mono' (b' := wr.heap.size) h1 hb)
       clear h1 h2 h3 hb
       go_wp2_with fail
       refine hK.out _ _ True.intro (fun hHeld8 => ?_)
       clear hK K; try simp only [Act.put, sa, sb, sc]
       refine ty 9 21 rfl rfl ?_; simp only [sa, sb, sc]
       refine rd 10 (by kernel_rfl) rfl (fun K hK => ?_)
       go_simp
       obtain ⟨mb, hmb⟩ : ∃ mb : Nat, mb = (W1_4_6_2_8).heap.size := ⟨_, rfl⟩
       obtain ⟨W1_4_6_2_8_10, hV⟩ : ∃ V : World, V = (W1_4_6_2_8).alloc (.cells #[.string ⟨#[]⟩, .int .u32 0, .slice none 0 0, .slice none 0 0] 55) := ⟨_, rfl⟩
       have k3 : Chg (W1_4_6_2_8) W1_4_6_2_8_10 (fun k => k = rb) := by rw [hV]; exact (Chg.refl _ _).alloc _
       have HM : Hid (Blk W1_4_6_2_8_10 mb 55 [.string ⟨#[]⟩, .int .u32 0, .slice none 0 0, .slice none 0 0]) := Lib.hid (by rw [hV, hmb]; exact Blk.new _ _ _)
       have hmr : rb < mb := by have := HC.out.size; omega
       have HnM : Hid (∀ k, (Value.slice A1 nm.length c1).ownBlock = some k → k ≠ mb) := Lib.hid (fun k hk => by have h7 := (World.ownsRow.lt Hn.out k hk).2; omega)
       have HfM : Hid (∀ k, (Value.slice A6 fw.length c6).ownBlock = some k → k ≠ mb) := Lib.hid (fun k hk => by have h7 := (World.ownsRow.lt Hf.out k hk).2; omega)
       have HtM : Hid (∀ k, (Value.slice A8 nt.length c8).ownBlock = some k → k ≠ mb) := Lib.hid (fun k hk => by have h7 := (World.ownsRow.lt Ht.out k hk).2; omega)
       rw [← hV, ← hmb]
       replace HC := Lib.hid (HC.out.trans k3 (fun _ _ h => h))
       replace Hn := Lib.hid (ownsRow_chg Hn.out k3 (fun k hk e => by have h7 := (World.ownsRow.lt Hn.out k hk).1; have e' : k = rb := e; omega))
       replace Hf := Lib.hid (ownsRow_chg Hf.out k3 (fun k hk e => by have h7 := (World.ownsRow.lt Hf.out k hk).1; have e' : k = rb := e; omega))
       replace Ht := Lib.hid (ownsRow_chg Ht.out k3 (fun k hk e => by have h7 := (World.ownsRow.lt Ht.out k hk).1; have e' : k = rb := e; omega))
       replace HR := Lib.hid (HR.out.chg (show Chg (W1_4_6_2_8) W1_4_6_2_8_10 (fun _ => False) from by rw [hV]; exact (Chg.refl _ _).alloc _) (fun _ _ h => h) (fun h => h))
       clear hV k3 hmb
       refine hK.out _ _ True.intro (fun hHeld10 => ?_)
       clear hK K; try simp only [Act.put, sa, sb, sc]
       refine rd 11 (by kernel_rfl) rfl (fun K hK => ?_)
       have y0 := HM.out.free 0
       have y1 := HM.out.free 1
       have y2 := HM.out.free 2
       have y3 := HM.out.free 3
       have z0 := HM.out.cell 0 _ rfl
       have z1 := HM.out.cell 1 _ rfl
       have z2 := HM.out.cell 2 _ rfl
       have z3 := HM.out.cell 3 _ rfl
       go_simp
       have HF := Lib.hid (RdF.of (nm := nm) (ver := ver) HM.out HR.out H2.out.2.1 H2.out.2.2 HQ.out HC.out Hf.out Ht.out HfM.out HtM.out hzr hrl hmr (HDm.out _ hmr) (Nat.lt_trans hzr hrl) (Nat.lt_trans hzr hrl))
       refine hK.out _ _ True.intro (fun hHeld11 => ?_)
       clear hK K; try simp only [Act.put, sa, sb, sc]
       refine wpAnyH_done (by kernel_rfl) ?_ _
       clear y0 y1 y2 y3 z0 z1 z2 z3
       go_wp2_with fail
       go_meet
       case rel => exact ⟨mb, _, _, rfl, Lib.hid ⟨hmr, HF.out⟩⟩
    case' w3_1_4_2 =>
     go_simp
     rw [run_string_bys _ _ nm (OwnB.bys Hn.out)]
     try dsimp only
     refine hK.out _ _ True.intro (fun hHeld2 => ?_)
     clear hK K; try simp only [Act.put, sa, sb, sc]
     refine wpAnyH_ready (rs := [6, 10]) (by kernel_rfl) (by simp) ?_
     refine AllReadyH.cons rfl (fun K hK => ?w3_1_4_2_6) (AllReadyH.cons rfl (fun K hK => ?w3_1_4_2_10) AllReadyH.nil)
     case' w3_1_4_2_10 =>
      go_simp
      obtain ⟨mb, hmb⟩ : ∃ mb : Nat, mb = (W1_4).heap.size := ⟨_, rfl⟩
      obtain ⟨W1_4_2_10, hV⟩ : ∃ V : World, V = (W1_4).alloc (.cells #[.string ⟨#[]⟩, .int .u32 0, .slice none 0 0, .slice none 0 0] 55) := ⟨_, rfl⟩
      have k3 : Chg (W1_4) W1_4_2_10 (fun k => k = rb) := by rw [hV]; exact (Chg.refl _ _).alloc _
      have HM : Hid (Blk W1_4_2_10 mb 55 [.string ⟨#[]⟩, .int .u32 0, .slice none 0 0, .slice none 0 0]) := Lib.hid (by rw [hV, hmb]; exact Blk.new _ _ _)
      have hmr : rb < mb := by have := HC.out.size; omega
      have HnM : Hid (∀ k, (Value.slice A1 nm.length c1).ownBlock = some k → k ≠ mb) := Lib.hid (fun k hk => by have h7 := (World.ownsRow.lt Hn.out k hk).2; omega)
      rw [← hV, ← hmb]
      replace HC := Lib.hid (HC.out.trans k3 (fun _ _ h => h))
      replace Hn := Lib.hid (ownsRow_chg Hn.out k3 (fun k hk e => by have h7 := (World.ownsRow.lt Hn.out k hk).1; have e' : k = rb := e; omega))
      replace HR := Lib.hid (HR.out.chg (show Chg (W1_4) W1_4_2_10 (fun _ => False) from by rw [hV]; exact (Chg.refl _ _).alloc _) (fun _ _ h => h) (fun h => h))
      clear hV k3 hmb
      refine hK.out _ _ True.intro (fun hHeld10 => ?_)
      clear hK K; try simp only [Act.put, sa, sb, sc]
      refine rd 6 (by kernel_rfl) rfl (fun K hK => ?_)
      go_simp
      go_at_call 62
      refine (HW1.out _ HR.out).mono ?_
      rintro e W1_4_2_10_6 ⟨v6, rfl, h1, h2, h3⟩
      obtain ⟨A6, c6, rfl⟩ := h1.form
      have hb := HC.out.size
      have HfM : Hid (∀ k, (Value.slice A6 fw.length c6).ownBlock = some k → k ≠ mb) := Lib.hid (fun k hk => by have h7 := (World.ownsRow.lt h1 k hk).1; have h8 := HM.out.lt; omega)
      replace HC := Lib.hid (HC.out.trans h3 (fun _ _ h => h))
      replace Hn := Lib.hid (ownsRow_chg Hn.out h3 (fun k hk e => by have h7 := (World.ownsRow.lt Hn.out k hk).1; have e' : k = rb := e; omega))
      replace HM := Lib.hid (HM.out.chg h3 (by omega))
      replace HR := Lib.hid h2
      have Hf := Lib.hid (own_mono' (b' := wr.heap.size) h1 hb)
      clear h1 h2 h3 hb
      go_wp2_with fail
      refine hK.out _ _ True.intro (fun hHeld6 => ?_)
      clear hK K; try simp only [Act.put, sa, sb, sc]
      refine rd 8 (by kernel_rfl) rfl (fun K hK => ?_)
      go_simp
      go_at_call 61
      refine (HB2.out _ HR.out).mono ?_
      rintro e W1_4_2_10_6_8 ⟨v8, rfl, h1, h2, h3⟩
      obtain ⟨A8, c8, rfl⟩ := h1.form
      have hb := HC.out.size
      have HtM : Hid (∀ k, (Value.slice A8 nt.length c8).ownBlock = some k → k ≠ mb) := Lib.hid (fun k hk => by have h7 := (World.ownsRow.lt h1 k hk).1; have h8 := HM.out.lt; omega)
      replace HC := Lib.hid (HC.out.trans h3 (fun _ _ h => h))
      replace Hn := Lib.hid (ownsRow_chg Hn.out h3 (fun k hk e => by have h7 := (World.ownsRow.lt Hn.out k hk).1; have e' : k = rb := e; omega))
      replace Hf := Lib.hid (ownsRow_chg Hf.out h3 (fun k hk e => by have h7 := (World.ownsRow.lt Hf.out k hk).1; have e' : k = rb := e; omega))
      replace HM := Lib.hid (HM.out.chg h3 (by omega))
      replace HR := Lib.hid h2
      have Ht := Lib.hid (own_mono' (b' := wr.heap.size) h1 hb)
      clear h1 h2 h3 hb
      go_wp2_with fail
      refine hK.out _ _ True.intro (fun hHeld8 => ?_)
      clear hK K; try simp only [Act.put, sa, sb, sc]
      refine ty 9 21 rfl rfl ?_; simp only [sa, sb, sc]
      refine rd 11 (by kernel_rfl) rfl (fun K hK => ?_)
      have y0 := HM.out.free 0
      have y1 := HM.out.free 1
      have y2 := HM.out.free 2
      have y3 := HM.out.free 3
      have z0 := HM.out.cell 0 _ rfl
      have z1 := HM.out.cell 1 _ rfl
      have z2 := HM.out.cell 2 _ rfl
      have z3 := HM.out.cell 3 _ rfl
      go_simp
      have HF := Lib.hid (RdF.of (nm := nm) (ver := ver) HM.out HR.out H2.out.2.1 H2.out.2.2 HQ.out HC.out Hf.out Ht.out HfM.out HtM.out hzr hrl hmr (HDm.out _ hmr) (Nat.lt_trans hzr hrl) (Nat.lt_trans hzr hrl))
      refine hK.out _ _ True.intro (fun hHeld11 => ?_)
      clear hK K; try simp only [Act.put, sa, sb, sc]
      refine wpAnyH_done (by kernel_rfl) ?_ _
      clear y0 y1 y2 y3 z0 z1 z2 z3
      go_wp2_with fail
      go_meet
      case rel => exact ⟨mb, _, _, rfl, Lib.hid ⟨hmr, HF.out⟩⟩
     case' w3_1_4_2_6 =>
      go_simp
      go_at_call 62
      refine (HW1.out _ HR.out).mono ?_
      rintro e W1_4_2_6 ⟨v6, rfl, h1, h2, h3⟩
      obtain ⟨A6, c6, rfl⟩ := h1.form
      have hb := HC.out.size
      replace HC := Lib.hid (HC.out.trans h3 (fun _ _ h => h))
      replace Hn := Lib.hid (ownsRow_chg Hn.out h3 (fun k hk e => by have h7 := (World.ownsRow.lt Hn.out k hk).1; have e' : k = rb := e; omega))
      replace HR := Lib.hid h2
      have Hf := Lib.hid (own_mono' (b' := wr.heap.size) h1 hb)
      clear h1 h2 h3 hb
      go_wp2_with fail
      refine hK.out _ _ True.intro (fun hHeld6 => ?_)
      clear hK K; try simp only [Act.put, sa, sb, sc]
      refine wpAnyH_ready (rs := [8, 10]) (by kernel_rfl) (by simp) ?_
      refine AllReadyH.cons rfl (fun K hK => ?w3_1_4_2_6_8) (AllReadyH.cons rfl (fun K hK => ?w3_1_4_2_6_10) AllReadyH.nil)
      case' w3_1_4_2_6_10 =>
       go_simp
       obtain ⟨mb, hmb⟩ : ∃ mb : Nat, mb = (W1_4_2_6).heap.size := ⟨_, rfl⟩
       obtain ⟨W1_4_2_6_10, hV⟩ : ∃ V : World, V = (W1_4_2_6).alloc (.cells #[.string ⟨#[]⟩, .int .u32 0, .slice none 0 0, .slice none 0 0] 55) := ⟨_, rfl⟩
       have k3 : Chg (W1_4_2_6) W1_4_2_6_10 (fun k => k = rb) := by rw [hV]; exact (Chg.refl _ _).alloc _
       have HM : Hid (Blk W1_4_2_6_10 mb 55 [.string ⟨#[]⟩, .int .u32 0, .slice none 0 0, .slice none 0 0]) := Lib.hid (by rw [hV, hmb]; exact Blk.new _ _ _)
       have hmr : rb < mb := by have := HC.out.size; omega
       have HnM : Hid (∀ k, (Value.slice A1 nm.length c1).ownBlock = some k → k ≠ mb) := Lib.hid (fun k hk => by have h7 := (World.ownsRow.lt Hn.out k hk).2; omega)
       have HfM : Hid (∀ k, (Value.slice A6 fw.length c6).ownBlock = some k → k ≠ mb) := Lib.hid (fun k hk => by have h7 := (World.ownsRow.lt Hf.out k hk).2; omega)
       rw [← hV, ← hmb]
       replace HC := Lib.hid (HC.out.trans k3 (fun _ _ h => h))
       replace Hn := Lib.hid (ownsRow_chg Hn.out k3 (fun k hk e => by have h7 := (World.ownsRow.lt Hn.out k hk).1; have e' : k = rb := e; omega))
       replace Hf := Lib.hid (ownsRow_chg Hf.out k3 (fun k hk e => by have h7 := (World.ownsRow.lt Hf.out k hk).1; have e' : k = rb := e; omega))
       replace HR := Lib.hid (HR.out.chg (show Chg (W1_4_2_6) W1_4_2_6_10 (fun _ => False) from by rw [hV]; exact (Chg.refl _ _).alloc _) (fun _ _ h => h) (fun h => h))
       clear hV k3 hmb
       refine hK.out _ _ True.intro (fun hHeld10 => ?_)
       clear hK K; try simp only [Act.put, sa, sb, sc]
       refine rd 8 (by kernel_rfl) rfl (fun K hK => ?_)
       go_simp
       go_at_call 61
       refine (HB2.out _ HR.out).mono ?_
       rintro e W1_4_2_6_10_8 ⟨v8, rfl, h1, h2, h3⟩
       obtain ⟨A8, c8, rfl⟩ := h1.form
       have hb := HC.out.size
       have HtM : Hid (∀ k, (Value.slice A8 nt.length c8).ownBlock = some k → k ≠ mb) := Lib.hid (fun k hk => by have h7 := (World.ownsRow.lt h1 k hk).1; have h8 := HM.out.lt; omega)
       replace HC := Lib.hid (HC.out.trans h3 (fun _ _ h => h))
       replace Hn := Lib.hid (ownsRow_chg Hn.out h3 (fun k hk e => by have h7 := (World.ownsRow.lt Hn.out k hk).1; have e' : k = rb := e; omega))
       replace Hf := Lib.hid (ownsRow_chg Hf.out h3 (fun k hk e => by have h7 := (World.ownsRow.lt Hf.out k hk).1; have e' : k = rb := e; omega))
       replace HM := Lib.hid (HM.out.chg h3 (by omega))
       replace HR := Lib.hid h2
       have Ht := Lib.hid (own_mono' (b' := wr.heap.size) h1 hb)
       clear h1 h2 h3 hb
       go_wp2_with fail
       refine hK.out _ _ True.intro (fun hHeld8 => ?_)
       clear hK K; try simp only [Act.put, sa, sb, sc]
       refine ty 9 21 rfl rfl ?_; simp only [sa, sb, sc]
       refine rd 11 (by kernel_rfl) rfl (fun K hK => ?_)
       have y0 := HM.out.free 0
       have y1 := HM.out.free 1
       have y2 := HM.out.free 2
       have y3 := HM.out.free 3
       have z0 := HM.out.cell 0 _ rfl
       have z1 := HM.out.cell 1 _ rfl
       have z2 := HM.out.cell 2 _ rfl
       have z3 := HM.out.cell 3 _ rfl
       go_simp
       have HF := Lib.hid (RdF.of (nm := nm) (ver := ver) HM.out HR.out H2.out.2.1 H2.out.2.2 HQ.out HC.out Hf.out Ht.out HfM.out HtM.out hzr hrl hmr (HDm.out _ hmr) (Nat.lt_trans hzr hrl) (Nat.lt_trans hzr hrl))
       refine hK.out _ _ True.intro (fun hHeld11 => ?_)
       clear hK K; try simp only [Act.put, sa, sb, sc]
       refine wpAnyH_done (by kernel_rfl) ?_ _
       clear y0 y1 y2 y3 z0 z1 z2 z3
       go_wp2_with fail
       go_meet
       case rel => exact ⟨mb, _, _, rfl, Lib.hid ⟨hmr, HF.out⟩⟩
      case' w3_1_4_2_6_8 =>
       go_simp
       go_at_call 61
       refine (HB2.out _ HR.out).mono ?_
       rintro e W1_4_2_6_8 ⟨v8, rfl, h1, h2, h3⟩
       obtain ⟨A8, c8, rfl⟩ := h1.form
       have hb := HC.out.size
       replace HC := Lib.hid (HC.out.trans h3 (fun _ _ h => h))
       replace Hn := Lib.hid (ownsRow_chg Hn.out h3 (fun k hk e => by have h7 := (World.ownsRow.lt Hn.out k hk).1; have e' : k = rb := e; omega))
       replace Hf := Lib.hid (ownsRow_chg Hf.out h3 (fun k hk e => by have h7 := (World.ownsRow.lt Hf.out k hk).1; have e' : k = rb := e; omega))
       replace HR := Lib.hid h2
       have Ht := Lib.hid (own_mono' (b' := wr.heap.size) h1 hb)
       clear h1 h2 h3 hb
       go_wp2_with fail
       refine hK.out _ _ True.intro (fun hHeld8 => ?_)
       clear hK K; try simp only [Act.put, sa, sb, sc]
       refine ty 9 21 rfl rfl ?_; simp only [sa, sb, sc]
       refine rd 10 (by kernel_rfl) rfl (fun K hK => ?_)
       go_simp
       obtain ⟨mb, hmb⟩ : ∃ mb : Nat, mb = (W1_4_2_6_8).heap.size := ⟨_, rfl⟩
       obtain ⟨W1_4_2_6_8_10, hV⟩ : ∃ V : World, V = (W1_4_2_6_8).alloc (.cells #[.string ⟨#[]⟩, .int .u32 0, .slice none 0 0, .slice none 0 0] 55) := ⟨_, rfl⟩
       have k3 : Chg (W1_4_2_6_8) W1_4_2_6_8_10 (fun k => k = rb) := by rw [hV]; exact (Chg.refl _ _).alloc _
       have HM : Hid (Blk W1_4_2_6_8_10 mb 55 [.string ⟨#[]⟩, .int .u32 0, .slice none 0 0, .slice none 0 0]) := Lib.hid (by rw [hV, hmb]; exact Blk.new _ _ _)
       have hmr : rb < mb := by have := HC.out.size; omega
       have HnM : Hid (∀ k, (Value.slice A1 nm.length c1).ownBlock = some k → k ≠ mb) := Lib.hid (fun k hk => by have h7 := (World.ownsRow.lt Hn.out k hk).2; omega)
       have HfM : Hid (∀ k, (Value.slice A6 fw.length c6).ownBlock = some k → k ≠ mb) := Lib.hid (fun k hk => by have h7 := (World.ownsRow.lt Hf.out k hk).2; omega)
       have HtM : Hid (∀ k, (Value.slice A8 nt.length c8).ownBlock = some k → k ≠ mb) := Lib.hid (fun k hk => by have h7 := (World.ownsRow.lt Ht.out k hk).2; omega)
       rw [← hV, ← hmb]
       replace HC := Lib.hid (HC.out.trans k3 (fun _ _ h => h))
       replace Hn := Lib.hid (ownsRow_chg Hn.out k3 (fun k hk e => by have h7 := (World.ownsRow.lt Hn.out k hk).1; have e' : k = rb := e; omega))
       replace Hf := Lib.hid (ownsRow_chg Hf.out k3 (fun k hk e => by have h7 := (World.ownsRow.lt Hf.out k hk).1; have e' : k = rb := e; omega))
       replace Ht := Lib.hid (ownsRow_chg Ht.out k3 (fun k hk e => by have h7 := (World.ownsRow.lt Ht.out k hk).1; have e' : k = rb := e; omega))
       replace HR := Lib.hid (HR.out.chg (show Chg (W1_4_2_6_8) W1_4_2_6_8_10 (fun _ => False) from by rw [hV]; exact (Chg.refl _ _).alloc _) (fun _ _ h => h) (fun h => h))
       clear hV k3 hmb
       refine hK.out _ _ True.intro (fun hHeld10 => ?_)
       clear hK K; try simp only [Act.put, sa, sb, sc]
       refine rd 11 (by kernel_rfl) rfl (fun K hK => ?_)
       have y0 := HM.out.free 0
       have y1 := HM.out.free 1
       have y2 := HM.out.free 2
       have y3 := HM.out.free 3
       have z0 := HM.out.cell 0 _ rfl
       have z1 := HM.out.cell 1 _ rfl
       have z2 := HM.out.cell 2 _ rfl
       have z3 := HM.out.cell 3 _ rfl
       go_simp
       have HF := Lib.hid (RdF.of (nm := nm) (ver := ver) HM.out HR.out H2.out.2.1 H2.out.2.2 HQ.out HC.out Hf.out Ht.out HfM.out HtM.out hzr hrl hmr (HDm.out _ hmr) (Nat.lt_trans hzr hrl) (Nat.lt_trans hzr hrl))
       refine hK.out _ _ True.intro (fun hHeld11 => ?_)
       clear hK K; try simp only [Act.put, sa, sb, sc]
       refine wpAnyH_done (by kernel_rfl) ?_ _
       clear y0 y1 y2 y3 z0 z1 z2 z3
       go_wp2_with fail
       go_meet
       case rel => exact ⟨mb, _, _, rfl, Lib.hid ⟨hmr, HF.out⟩⟩
   case' w3_1_2 =>
    go_simp
    rw [run_string_bys _ _ nm (OwnB.bys Hn.out)]
    try dsimp only
    refine hK.out _ _ True.intro (fun hHeld2 => ?_)
    clear hK K; try simp only [Act.put, sa, sb, sc]
    refine wpAnyH_ready (rs := [4, 10]) (by kernel_rfl) (by simp) ?_
    refine AllReadyH.cons rfl (fun K hK => ?w3_1_2_4) (AllReadyH.cons rfl (fun K hK => ?w3_1_2_10) AllReadyH.nil)
    case' w3_1_2_10 =>
     go_simp
     obtain ⟨mb, hmb⟩ : ∃ mb : Nat, mb = (W1).heap.size := ⟨_, rfl⟩
     obtain ⟨W1_2_10, hV⟩ : ∃ V : World, V = (W1).alloc (.cells #[.string ⟨#[]⟩, .int .u32 0, .slice none 0 0, .slice none 0 0] 55) := ⟨_, rfl⟩
     have k3 : Chg (W1) W1_2_10 (fun k => k = rb) := by rw [hV]; exact (Chg.refl _ _).alloc _
     have HM : Hid (Blk W1_2_10 mb 55 [.string ⟨#[]⟩, .int .u32 0, .slice none 0 0, .slice none 0 0]) := Lib.hid (by rw [hV, hmb]; exact Blk.new _ _ _)
     have hmr : rb < mb := by have := HC.out.size; omega
     have HnM : Hid (∀ k, (Value.slice A1 nm.length c1).ownBlock = some k → k ≠ mb) := Lib.hid (fun k hk => by have h7 := (World.ownsRow.lt Hn.out k hk).2; omega)
     rw [← hV, ← hmb]
     replace HC := Lib.hid (HC.out.trans k3 (fun _ _ h => h))
     replace Hn := Lib.hid (ownsRow_chg Hn.out k3 (fun k hk e => by have h7 := (World.ownsRow.lt Hn.out k hk).1; have e' : k = rb := e; omega))
     replace HR := Lib.hid (HR.out.chg (show Chg (W1) W1_2_10 (fun _ => False) from by rw [hV]; exact (Chg.refl _ _).alloc _) (fun _ _ h => h) (fun h => h))
     clear hV k3 hmb
     refine hK.out _ _ True.intro (fun hHeld10 => ?_)
     clear hK K; try simp only [Act.put, sa, sb, sc]
     refine rd 4 (by kernel_rfl) rfl (fun K hK => ?_)
     go_simp
     go_at_call 60
     refine (HU1.out _ HR.out).mono ?_
     rintro e W1_2_10_4 ⟨rfl, h2, h3⟩
     replace HC := Lib.hid (HC.out.trans h3 (fun _ _ h => h))
     replace Hn := Lib.hid (ownsRow_chg Hn.out h3 (fun k hk e => by have h7 := (World.ownsRow.lt Hn.out k hk).1; have e' : k = rb := e; omega))
     replace HM := Lib.hid (HM.out.chg h3 (by omega))
     replace HR := Lib.hid h2
     clear h2 h3
     go_wp2_with fail
     refine hK.out _ _ True.intro (fun hHeld4 => ?_)
     clear hK K; try simp only [Act.put, sa, sb, sc]
     refine rd 6 (by kernel_rfl) rfl (fun K hK => ?_)
     go_simp
     go_at_call 62
     refine (HW1.out _ HR.out).mono ?_
     rintro e W1_2_10_4_6 ⟨v6, rfl, h1, h2, h3⟩
     obtain ⟨A6, c6, rfl⟩ := h1.form
     have hb := HC.out.size
     have HfM : Hid (∀ k, (Value.slice A6 fw.length c6).ownBlock = some k → k ≠ mb) := Lib.hid (fun k hk => by have h7 := (World.ownsRow.lt h1 k hk).1; have h8 := HM.out.lt; omega)
     replace HC := Lib.hid (HC.out.trans h3 (fun _ _ h => h))
     replace Hn := Lib.hid (ownsRow_chg Hn.out h3 (fun k hk e => by have h7 := (World.ownsRow.lt Hn.out k hk).1; have e' : k = rb := e; omega))
     replace HM := Lib.hid (HM.out.chg h3 (by omega))
     replace HR := Lib.hid h2
     have Hf := Lib.hid (own_mono' (b' := wr.heap.size) h1 hb)
     clear h1 h2 h3 hb
     go_wp2_with fail
     refine hK.out _ _ True.intro (fun hHeld6 => ?_)
     clear hK K; try simp only [Act.put, sa, sb, sc]
     refine rd 8 (by kernel_rfl) rfl (fun K hK => ?_)
     go_simp
     go_at_call 61
     refine (HB2.out _ HR.out).mono ?_
     rintro e W1_2_10_4_6_8 ⟨v8, rfl, h1, h2, h3⟩
     obtain ⟨A8, c8, rfl⟩ := h1.form
     have hb := HC.out.size
     have HtM : Hid (∀ k, (Value.slice A8 nt.length c8).ownBlock = some k → k ≠ mb) := Lib.hid (fun k hk => by have h7 := (World.ownsRow.lt h1 k hk).1; have h8 := HM.out.lt; omega)
     replace HC := Lib.hid (HC.out.trans h3 (fun _ _ h => h))
     replace Hn := Lib.hid (ownsRow_chg Hn.out h3 (fun k hk e => by have h7 := (World.ownsRow.lt Hn.out k hk).1; have e' : k = rb := e; omega))
     replace Hf := Lib.hid (ownsRow_chg Hf.out h3 (fun k hk e => by have h7 := (World.ownsRow.lt Hf.out k hk).1; have e' : k = rb := e; omega))
     replace HM := Lib.hid (HM.out.chg h3 (by omega))
     replace HR := Lib.hid h2
     have Ht := Lib.hid (own_mono' (b' := wr.heap.size) h1 hb)
     clear h1 h2 h3 hb
     go_wp2_with fail
     refine hK.out _ _ True.intro (fun hHeld8 => ?_)
     clear hK K; try simp only [Act.put, sa, sb, sc]
     refine ty 9 21 rfl rfl ?_; simp only [sa, sb, sc]
     refine rd 11 (by kernel_rfl) rfl (fun K hK => ?_)
     have y0 := HM.out.free 0
     have y1 := HM.out.free 1
     have y2 := HM.out.free 2
     have y3 := HM.out.free 3
     have z0 := HM.out.cell 0 _ rfl
     have z1 := HM.out.cell 1 _ rfl
     have z2 := HM.out.cell 2 _ rfl
     have z3 := HM.out.cell 3 _ rfl
     go_simp
     have HF := Lib.hid (RdF.of (nm := nm) (ver := ver) HM.out HR.out H2.out.2.1 H2.out.2.2 HQ.out HC.out Hf.out Ht.out HfM.out HtM.out hzr hrl hmr (HDm.out _ hmr) (Nat.lt_trans hzr hrl) (Nat.lt_trans hzr hrl))
     refine hK.out _ _ True.intro (fun hHeld11 => ?_)
     clear hK K; try simp only [Act.put, sa, sb, sc]
     refine wpAnyH_done (by kernel_rfl) ?_ _
     clear y0 y1 y2 y3 z0 z1 z2 z3
     go_wp2_with fail
     go_meet
     case rel => exact ⟨mb, _, _, rfl, Lib.hid ⟨hmr, HF.out⟩⟩
    case' w3_1_2_4 =>
     go_simp
     go_at_call 60
     refine (HU1.out _ HR.out).mono ?_
     rintro e W1_2_4 ⟨rfl, h2, h3⟩
     replace HC := Lib.hid (HC.out.trans h3 (fun _ _ h => h))
     replace Hn := Lib.hid (ownsRow_chg Hn.out h3 (fun k hk e => by have h7 := (World.ownsRow.lt Hn.out k hk).1; have e' : k = rb := e; omega))
     replace HR := Lib.hid h2
     clear h2 h3
     go_wp2_with fail
     refine hK.out _ _ True.intro (fun hHeld4 => ?_)
     clear hK K; try simp only [Act.put, sa, sb, sc]
     refine wpAnyH_ready (rs := [6, 10]) (by kernel_rfl) (by simp) ?_
     refine AllReadyH.cons rfl (fun K hK => ?w3_1_2_4_6) (AllReadyH.cons rfl (fun K hK => ?w3_1_2_4_10) AllReadyH.nil)
     case' w3_1_2_4_10 =>
      go_simp
      obtain ⟨mb, hmb⟩ : ∃ mb : Nat, mb = (W1_2_4).heap.size := ⟨_, rfl⟩
      obtain ⟨W1_2_4_10, hV⟩ : ∃ V : World, V = (W1_2_4).alloc (.cells #[.string ⟨#[]⟩, .int .u32 0, .slice none 0 0, .slice none 0 0] 55) := ⟨_, rfl⟩
      have k3 : Chg (W1_2_4) W1_2_4_10 (fun k => k = rb) := by rw [hV]; exact (Chg.refl _ _).alloc _
      have HM : Hid (Blk W1_2_4_10 mb 55 [.string ⟨#[]⟩, .int .u32 0, .slice none 0 0, .slice none 0 0]) := Lib.hid (by rw [hV, hmb]; exact Blk.new _ _ _)
      have hmr : rb < mb := by have := HC.out.size; omega
      have HnM : Hid (∀ k, (Value.slice A1 nm.length c1).ownBlock = some k → k ≠ mb) := Lib.hid (fun k hk => by have h7 := (World.ownsRow.lt Hn.out k hk).2; omega)
      rw [← hV, ← hmb]
      replace HC := Lib.hid (HC.out.trans k3 (fun _ _ h => h))
      replace Hn := Lib.hid (ownsRow_chg Hn.out k3 (fun k hk e => by have h7 := (World.ownsRow.lt Hn.out k hk).1; have e' : k = rb := e; omega))
      replace HR := Lib.hid (HR.out.chg (show Chg (W1_2_4) W1_2_4_10 (fun _ => False) from by rw [hV]; exact (Chg.refl _ _).alloc _) (fun _ _ h => h) (fun h => h))
      clear hV k3 hmb
      refine hK.out _ _ True.intro (fun hHeld10 => ?_)
      clear hK K; try simp only [Act.put, sa, sb, sc]
      refine rd 6 (by kernel_rfl) rfl (fun K hK => ?_)
      go_simp
      go_at_call 62
      refine (HW1.out _ HR.out).mono ?_
      rintro e W1_2_4_10_6 ⟨v6, rfl, h1, h2, h3⟩
      obtain ⟨A6, c6, rfl⟩ := h1.form
      have hb := HC.out.size
      have HfM : Hid (∀ k, (Value.slice A6 fw.length c6).ownBlock = some k → k ≠ mb) := Lib.hid (fun k hk => by have h7 := (World.ownsRow.lt h1 k hk).1; have h8 := HM.out.lt; omega)
      replace HC := Lib.hid (HC.out.trans h3 (fun _ _ h => h))
      replace Hn := Lib.hid (ownsRow_chg Hn.out h3 (fun k hk e => by have h7 := (World.ownsRow.lt Hn.out k hk).1; have e' : k = rb := e; omega))
      replace HM := Lib.hid (HM.out.chg h3 (by omega))
      replace HR := Lib.hid h2
      have Hf := Lib.hid (own_mono' (b' := wr.heap.size) h1 hb)
      clear h1 h2 h3 hb
      go_wp2_with fail
      refine hK.out _ _ True.intro (fun hHeld6 => ?_)
      clear hK K; try simp only [Act.put, sa, sb, sc]
      refine rd 8 (by kernel_rfl) rfl (fun K hK => ?_)
      go_simp
      go_at_call 61
      refine (HB2.out _ HR.out).mono ?_
      rintro e W1_2_4_10_6_8 ⟨v8, rfl, h1, h2, h3⟩
      obtain ⟨A8, c8, rfl⟩ := h1.form
      have hb := HC.out.size
      have HtM : Hid (∀ k, (Value.slice A8 nt.length c8).ownBlock = some k → k ≠ mb) := Lib.hid (fun k hk => by have h7 := (World.ownsRow.lt h1 k hk).1; have h8 := HM.out.lt; omega)
      replace HC := Lib.hid (HC.out.trans h3 (fun _ _ h => h))
      replace Hn := Lib.hid (ownsRow_chg Hn.out h3 (fun k hk e => by have h7 := (World.ownsRow.lt Hn.out k hk).1; have e' : k = rb := e; omega))
      replace Hf := Lib.hid (ownsRow_chg Hf.out h3 (fun k hk e => by have h7 := (World.ownsRow.lt Hf.out k hk).1; have e' : k = rb := e; omega))
      replace HM := Lib.hid (HM.out.chg h3 (by omega))
      replace HR := Lib.hid h2
      have Ht := Lib.hid (own_mono' (b' := wr.heap.size) h1 hb)
      clear h1 h2 h3 hb
      go_wp2_with fail
      refine hK.out _ _ True.intro (fun hHeld8 => ?_)
      clear hK K; try simp only [Act.put, sa, sb, sc]
      refine ty 9 21 rfl rfl ?_; simp only [sa, sb, sc]
      refine rd 11 (by kernel_rfl) rfl (fun K hK => ?_)
      have y0 := HM.out.free 0
      have y1 := HM.out.free 1
      have y2 := HM.out.free 2
      have y3 := HM.out.free 3
      have z0 := HM.out.cell 0 _ rfl
      have z1 := HM.out.cell 1 _ rfl
      have z2 := HM.out.cell 2 _ rfl
      have z3 := HM.out.cell 3 _ rfl
      go_simp
      have HF := Lib.hid (RdF.of (nm := nm) (ver := ver) HM.out HR.out H2.out.2.1 H2.out.2.2 HQ.out HC.out Hf.out Ht.out HfM.out HtM.out hzr hrl hmr (HDm.out _ hmr) (Nat.lt_trans hzr hrl) (Nat.lt_trans hzr hrl))
      refine hK.out _ _ True.intro (fun hHeld11 => ?_)
      clear hK K; try simp only [Act.put, sa, sb, sc]
      refine wpAnyH_done (by kernel_rfl) ?_ _
      clear y0 y1 y2 y3 z0 z1 z2 z3
      go_wp2_with fail
      go_meet
      case rel => exact ⟨mb, _, _, rfl, Lib.hid ⟨hmr, HF.out⟩⟩
     case' w3_1_2_4_6 =>
      go_simp
      go_at_call 62
      refine (HW1.out _ HR.out).mono ?_
      rintro e W1_2_4_6 ⟨v6, rfl, h1, h2, h3⟩
      obtain ⟨A6, c6, rfl⟩ := h1.form
      have hb := HC.out.size
      replace HC := Lib.hid (HC.out.trans h3 (fun _ _ h => h))
      replace Hn := Lib.hid (ownsRow_chg Hn.out h3 (fun k hk e => by have h7 := (World.ownsRow.lt Hn.out k hk).1; have e' : k = rb := e; omega))
      replace HR := Lib.hid h2
      have Hf := Lib.hid (own_mono' (b' := wr.heap.size) h1 hb)
      clear h1 h2 h3 hb
      go_wp2_with fail
      refine hK.out _ _ True.intro (fun hHeld6 => ?_)
      clear hK K; try simp only [Act.put, sa, sb, sc]
      refine wpAnyH_ready (rs := [8, 10]) (by kernel_rfl) (by simp) ?_
      refine AllReadyH.cons rfl (fun K hK => ?w3_1_2_4_6_8) (AllReadyH.cons rfl (fun K hK => ?w3_1_2_4_6_10) AllReadyH.nil)
      case' w3_1_2_4_6_10 =>
       go_simp
       obtain ⟨mb, hmb⟩ : ∃ mb : Nat, mb = (W1_2_4_6).heap.size := ⟨_, rfl⟩
       obtain ⟨W1_2_4_6_10, hV⟩ : ∃ V : World, V = (W1_2_4_6).alloc (.cells #[.string ⟨#[]⟩, .int .u32 0, .slice none 0 0, .slice none 0 0] 55) := ⟨_, rfl⟩
       have k3 : Chg (W1_2_4_6) W1_2_4_6_10 (fun k => k = rb) := by rw [hV]; exact (Chg.refl _ _).alloc _
       have HM : Hid (Blk W1_2_4_6_10 mb 55 [.string ⟨#[]⟩, .int .u32 0, .slice none 0 0, .slice none 0 0]) := Lib.hid (by rw [hV, hmb]; exact Blk.new _ _ _)
       have hmr : rb < mb := by have := HC.out.size; omega
       have HnM : Hid (∀ k, (Value.slice A1 nm.length c1).ownBlock = some k → k ≠ mb) := Lib.hid (fun k hk => by have h7 := (World.ownsRow.lt Hn.out k hk).2; omega)
       have HfM : Hid (∀ k, (Value.slice A6 fw.length c6).ownBlock = some k → k ≠ mb) := Lib.hid (fun k hk => by have h7 := (World.ownsRow.lt Hf.out k hk).2; omega)
       rw [← hV, ← hmb]
       replace HC := Lib.hid (HC.out.trans k3 (fun _ _ h => h))
       replace Hn := Lib.hid (ownsRow_chg Hn.out k3 (fun k hk e => by have h7 := (World.ownsRow.lt Hn.out k hk).1; have e' : k = rb := e; omega))
       replace Hf := Lib.hid (ownsRow_chg Hf.out k3 (fun k hk e => by have h7 := (World.ownsRow.lt Hf.out k hk).1; have e' : k = rb := e; omega))
       replace HR := Lib.hid (HR.out.chg (show Chg (W1_2_4_6) W1_2_4_6_10 (fun _ => False) from by rw [hV]; exact (Chg.refl _ _).alloc _) (fun _ _ h => h) (fun h => h))
       clear hV k3 hmb
       refine hK.out _ _ True.intro (fun hHeld10 => ?_)
       clear hK K; try simp only [Act.put, sa, sb, sc]
       refine rd 8 (by kernel_rfl) rfl (fun K hK => ?_)
       go_simp
       go_at_call 61
       refine (HB2.out _ HR.out).mono ?_
       rintro e W1_2_4_6_10_8 ⟨v8, rfl, h1, h2, h3⟩
       obtain ⟨A8, c8, rfl⟩ := h1.form
       have hb := HC.out.size
       have HtM : Hid (∀ k, (Value.slice A8 nt.length c8).ownBlock = some k → k ≠ mb) := Lib.hid (fun k hk => by have h7 := (World.ownsRow.lt h1 k hk).1; have h8 := HM.out.lt; omega)
       replace HC := Lib.hid (HC.out.trans h3 (fun _ _ h => h))
       replace Hn := Lib.hid (ownsRow_chg Hn.out h3 (fun k hk e => by have h7 := (World.ownsRow.lt Hn.out k hk).1; have e' : k = rb := e; omega))
       replace Hf := Lib.hid (ownsRow_chg Hf.out h3 (fun k hk e => by have h7 := (World.ownsRow.lt Hf.out k hk).1; have e' : k = rb := e; omega))
       replace HM := Lib.hid (HM.out.chg h3 (by omega))
       replace HR := Lib.hid h2
       have Ht := Lib.hid (own_mono' (b' := wr.heap.size) h1 hb)
       clear h1 h2 h3 hb
       go_wp2_with fail
       refine hK.out _ _ True.intro (fun hHeld8 => ?_)
       clear hK K; try simp only [Act.put, sa, sb, sc]
       refine ty 9 21 rfl rfl ?_; simp only [sa, sb, sc]
       refine rd 11 (by kernel_rfl) rfl (fun K hK => ?_)
       have y0 := HM.out.free 0
       have y1 := HM.out.free 1
       have y2 := HM.out.free 2
       have y3 := HM.out.free 3
       have z0 := HM.out.cell 0 _ rfl
       have z1 := HM.out.cell 1 _ rfl
       have z2 := HM.out.cell 2 _ rfl
       have z3 := HM.out.cell 3 _ rfl
       go_simp
       have HF := Lib.hid (RdF.of (nm := nm) (ver := ver) HM.out HR.out H2.out.2.1 H2.out.2.2 HQ.out HC.out Hf.out Ht.out HfM.out HtM.out hzr hrl hmr (HDm.out _ hmr) (Nat.lt_trans hzr hrl) (Nat.lt_trans hzr hrl))
       refine hK.out _ _ True.intro (fun hHeld11 => ?_)
       clear hK K; try simp only [Act.put, sa, sb, sc]
       refine wpAnyH_done (by kernel_rfl) ?_ _
       clear y0 y1 y2 y3 z0 z1 z2 z3
       go_wp2_with fail
       go_meet
       case rel => exact ⟨mb, _, _, rfl, Lib.hid ⟨hmr, HF.out⟩⟩
      case' w3_1_2_4_6_8 =>
       go_simp
       go_at_call 61
       refine (HB2.out _ HR.out).mono ?_
       rintro e W1_2_4_6_8 ⟨v8, rfl, h1, h2, h3⟩
       obtain ⟨A8, c8, rfl⟩ := h1.form
       have hb := HC.out.size
       replace HC := Lib.hid (HC.out.trans h3 (fun _ _ h => h))
       replace Hn := Lib.hid (ownsRow_chg Hn.out h3 (fun k hk e => by have h7 := (World.ownsRow.lt Hn.out k hk).1; have e' : k = rb := e; omega))
       replace Hf := Lib.hid (ownsRow_chg Hf.out h3 (fun k hk e => by have h7 := (World.ownsRow.lt Hf.out k hk).1; have e' : k = rb := e; omega))
       replace HR := Lib.hid h2
       have Ht := Lib.hid (own_mono' (b' := wr.heap.size) h1 hb)
       clear h1 h2 h3 hb
       go_wp2_with fail
       refine hK.out _ _ True.intro (fun hHeld8 => ?_)
       clear hK K; try simp only [Act.put, sa, sb, sc]
       refine ty 9 21 rfl rfl ?_; simp only [sa, sb, sc]
       refine rd 10 (by kernel_rfl) rfl (fun K hK => ?_)
       go_simp
       obtain ⟨mb, hmb⟩ : ∃ mb : Nat, mb = (W1_2_4_6_8).heap.size := ⟨_, rfl⟩
       obtain ⟨W1_2_4_6_8_10, hV⟩ : ∃ V : World, V = (W1_2_4_6_8).alloc (.cells #[.string ⟨#[]⟩, .int .u32 0, .slice none 0 0, .slice none 0 0] 55) := ⟨_, rfl⟩
       have k3 : Chg (W1_2_4_6_8) W1_2_4_6_8_10 (fun k => k = rb) := by rw [hV]; exact (Chg.refl _ _).alloc _
       have HM : Hid (Blk W1_2_4_6_8_10 mb 55 [.string ⟨#[]⟩, .int .u32 0, .slice none 0 0, .slice none 0 0]) := Lib.hid (by rw [hV, hmb]; exact Blk.new _ _ _)
       have hmr : rb < mb := by have := HC.out.size; omega
       have HnM : Hid (∀ k, (Value.slice A1 nm.length c1).ownBlock = some k → k ≠ mb) := Lib.hid (fun k hk => by have h7 := (World.ownsRow.lt Hn.out k hk).2; omega)
       have HfM : Hid (∀ k, (Value.slice A6 fw.length c6).ownBlock = some k → k ≠ mb) := Lib.hid (fun k hk => by have h7 := (World.ownsRow.lt Hf.out k hk).2; omega)
       have HtM : Hid (∀ k, (Value.slice A8 nt.length c8).ownBlock = some k → k ≠ mb) := Lib.hid (fun k hk => by have h7 := (World.ownsRow.lt Ht.out k hk).2; omega)
       rw [← hV, ← hmb]
       replace HC := Lib.hid (HC.out.trans k3 (fun _ _ h => h))
       replace Hn := Lib.hid (ownsRow_chg Hn.out k3 (fun k hk e => by have h7 := (World.ownsRow.lt Hn.out k hk).1; have e' : k = rb := e; omega))
       replace Hf := Lib.hid (ownsRow_chg Hf.out k3 (fun k hk e => by have h7 := (World.ownsRow.lt Hf.out k hk).1; have e' : k = rb := e; omega))
       replace Ht := Lib.hid (ownsRow_chg Ht.out k3 (fun k hk e => by have h7 := (World.ownsRow.lt Ht.out k hk).1; have e' : k = rb := e; omega))
       replace HR := Lib.hid (HR.out.chg (show Chg (W1_2_4_6_8) W1_2_4_6_8_10 (fun _ => False) from by rw [hV]; exact (Chg.refl _ _).alloc _) (fun _ _ h => h) (fun h => h))
       clear hV k3 hmb
       refine hK.out _ _ True.intro (fun hHeld10 => ?_)
       clear hK K; try simp only [Act.put, sa, sb, sc]
       refine rd 11 (by kernel_rfl) rfl (fun K hK => ?_)
       have y0 := HM.out.free 0
       have y1 := HM.out.free 1
       have y2 := HM.out.free 2
       have y3 := HM.out.free 3
       have z0 := HM.out.cell 0 _ rfl
       have z1 := HM.out.cell 1 _ rfl
       have z2 := HM.out.cell 2 _ rfl
       have z3 := HM.out.cell 3 _ rfl
       go_simp
       have HF := Lib.hid (RdF.of (nm := nm) (ver := ver) HM.out HR.out H2.out.2.1 H2.out.2.2 HQ.out HC.out Hf.out Ht.out HfM.out HtM.out hzr hrl hmr (HDm.out _ hmr) (Nat.lt_trans hzr hrl) (Nat.lt_trans hzr hrl))
       refine hK.out _ _ True.intro (fun hHeld11 => ?_)
       clear hK K; try simp only [Act.put, sa, sb, sc]
       refine wpAnyH_done (by kernel_rfl) ?_ _
       clear y0 y1 y2 y3 z0 z1 z2 z3
       go_wp2_with fail
       go_meet
       case rel => exact ⟨mb, _, _, rfl, Lib.hid ⟨hmr, HF.out⟩⟩
 case rest =>
  obtain ⟨mb, fv, nv, rfl, HF⟩ := hcut
  obtain ⟨hrm, kB, kf, kn, kR, kz, kb⟩ := HF.out
  obtain ⟨A6, c6, rfl⟩ := kf.1.form
  obtain ⟨A8, c8, rfl⟩ := kn.1.form
  have m0 := kB.cell 0 _ rfl
  have m1 := kB.cell 1 _ rfl
  have m2 := kB.cell 2 _ rfl
  have m3 := kB.cell 3 _ rfl
  have z0 := kz.cell 0 _ rfl
  have z1 := kz.cell 1 _ rfl
  have z2 := kz.cell 2 _ rfl
  have z3 := kz.cell 3 _ rfl
  have y0 := kz.free 0
  have y1 := kz.free 1
  have y2 := kz.free 2
  have y3 := kz.free 3
  have HEN := Lib.hid (rend_any D rb r5 wc kR)
  have HK9 := Lib.hid (And.intro kB (And.intro kf.1 (And.intro kn.1 (And.intro kz kb))))
  clear kB kf kn kR kz kb HF
  have hbz : zb < wc.heap.size := HK9.out.2.2.2.1.lt
  have HZS : Hid (∀ (W : World) (hB : Blk W zb 55 [.string ⟨#[]⟩, .int .u32 0, .slice none 0 0, .slice none 0 0]) (u0 u1 u2 u3 : Value), Blk ((((W.setCell ⟨zb, 0, none⟩ u0).setCell ⟨zb, 1, none⟩ u1).setCell ⟨zb, 2, none⟩ u2).setCell ⟨zb, 3, none⟩ u3) zb 55 [u0, u1, u2, u3] ∧ Chg W ((((W.setCell ⟨zb, 0, none⟩ u0).setCell ⟨zb, 1, none⟩ u1).setCell ⟨zb, 2, none⟩ u2).setCell ⟨zb, 3, none⟩ u3) (fun k => k = zb)) := Lib.hid (fun W hB u0 u1 u2 u3 => ⟨(((hB.set 0 u0 (by simp)).set 1 u1 (by simp)).set 2 u2 (by simp)).set 3 u3 (by simp), chg_cell (chg_cell (chg_cell (chg_cell (Chg.refl _ _) 0 _) 1 _) 2 _) 3 _⟩)
  by_cases hk : KB = 77
  ·have HRT := Lib.hid (fun (wz : World) (z : MaV wz (.agg #[.string ⟨nm.toArray⟩, .int .u32 ver, .slice A6 fw.length c6, .slice A8 nt.length c8]) ⟨nm, ver, fw, nt⟩) => r9right_any _ ⟨nm, ver, fw, nt⟩ hnm HV0.out wz z)
   have HDX : Hid (DB = (rend r5 && manB ⟨nm, ver, fw, nt⟩)) := Lib.hid (by rw [HK.out, decide_eq_true hk, HD.out, HP.out]; rfl)
   subst hk
   generalize manB ⟨nm, ver, fw, nt⟩ = MB at *
   go_wp2_with fail
   refine HEN.out.mono ?_
   rintro e w8 ⟨rfl, hw8⟩
   have H8 := Lib.hid (And.intro (HK9.out.1.below hw8) (And.intro (HK9.out.2.1.below hw8) (And.intro (HK9.out.2.2.1.below hw8) (And.intro (HK9.out.2.2.2.1.below hw8) (HK9.out.2.2.2.2.trans (hw8.mono (Nat.le_of_lt hbz)))))))
   have hbz8 := H8.out.2.2.2.1.lt
   clear hw8 m0 m1 m2 m3 z0 z1 z2 z3 y0 y1 y2 y3
   cases hre : rend r5 with
   | false =>
    have HDB : Hid (DB = false) := Lib.hid (by rw [HDX.out, hre]; rfl)
    have z0 := H8.out.2.2.2.1.cell 0 _ rfl
    have z1 := H8.out.2.2.2.1.cell 1 _ rfl
    have z2 := H8.out.2.2.2.1.cell 2 _ rfl
    have z3 := H8.out.2.2.2.1.cell 3 _ rfl
    have y0 := H8.out.2.2.2.1.free 0
    have y1 := H8.out.2.2.2.1.free 1
    have y2 := H8.out.2.2.2.1.free 2
    have y3 := H8.out.2.2.2.1.free 3
    go_wp2
    have hb9 := H8.out.2.2.2.2
    have hs9 := HZS.out _ H8.out.2.2.2.1 (.string ⟨#[]⟩) (.int .u32 0) (.slice none 0 0) (.slice none 0 0)
    rw [show decB l = false from HDBE.out.trans HDB.out]
    refine bodyPost_ret (v := .tuple #[.agg [.string ⟨#[]⟩, .int .u32 0, .slice none 0 0, .slice none 0 0].toArray, .bool false]) ?_ ?_ ⟨_, rfl, ⟨_, _, _, _, _, _, _, _, rfl⟩, ?_⟩
    ·exact results_row_tmp Tryz.results20 _ _ zb 55 _ (0, 0) _ rfl hs9.1 under_manifest rfl size_manifest _ rfl
    ·rfl
    ·rw [HZB.out]
     exact hb9.trans (hs9.2.below (Nat.le_of_lt hbz8) (fun k hk => Nat.le_of_eq hk.symm))
   | true =>
    have m0 := H8.out.1.cell 0 _ rfl
    have m1 := H8.out.1.cell 1 _ rfl
    have m2 := H8.out.1.cell 2 _ rfl
    have m3 := H8.out.1.cell 3 _ rfl
    go_wp2_with fail
    refine (HRT.out _ ⟨_, _, rfl, H8.out.2.1, H8.out.2.2.1⟩).mono ?_
    rintro e w9 ⟨rfl, hw⟩
    have kz9 := H8.out.2.2.2.1.below hw
    have kB9 := H8.out.1.below hw
    have HW9 := Lib.hid (And.intro kz9 (H8.out.2.2.2.2.trans (hw.mono (Nat.le_of_lt hbz8))))
    have hbz9 := kz9.lt
    clear m0 m1 m2 m3
    have n0 := kB9.cell 0 _ rfl
    have n1 := kB9.cell 1 _ rfl
    have n2 := kB9.cell 2 _ rfl
    have n3 := kB9.cell 3 _ rfl
    have v0 := kz9.cell 0 _ rfl
    have v1 := kz9.cell 1 _ rfl
    have v2 := kz9.cell 2 _ rfl
    have v3 := kz9.cell 3 _ rfl
    have x0 := kz9.free 0
    have x1 := kz9.free 1
    have x2 := kz9.free 2
    have x3 := kz9.free 3
    clear kz9 kB9 hw
    cases MB with
    | false =>
     have HDB : Hid (DB = false) := Lib.hid (by rw [HDX.out, hre]; rfl)
     go_wp2
     have hs9 := HZS.out _ HW9.out.1 (.string ⟨#[]⟩) (.int .u32 0) (.slice none 0 0) (.slice none 0 0)
     rw [show decB l = false from HDBE.out.trans HDB.out]
     refine bodyPost_ret (v := .tuple #[.agg [.string ⟨#[]⟩, .int .u32 0, .slice none 0 0, .slice none 0 0].toArray, .bool false]) ?_ ?_ ⟨_, rfl, ⟨_, _, _, _, _, _, _, _, rfl⟩, ?_⟩
     ·exact results_row_tmp Tryz.results20 _ _ zb 55 _ (0, 0) _ rfl hs9.1 under_manifest rfl size_manifest _ rfl
     ·rfl
     ·rw [HZB.out]
      exact HW9.out.2.trans (hs9.2.below (Nat.le_of_lt hbz9) (fun k hk => Nat.le_of_eq hk.symm))
    | true =>
     have HDB : Hid (DB = true) := Lib.hid (by rw [HDX.out, hre]; rfl)
     go_wp2
     have hs9 := HZS.out _ HW9.out.1 (.string ⟨nm.toArray⟩) (.int .u32 ver) (.slice A6 fw.length c6) (.slice A8 nt.length c8)
     rw [show decB l = true from HDBE.out.trans HDB.out]
     refine bodyPost_ret (v := .tuple #[.agg [.string ⟨nm.toArray⟩, .int .u32 ver, .slice A6 fw.length c6, .slice A8 nt.length c8].toArray, .bool true]) ?_ ?_ ⟨_, rfl, ⟨_, _, _, _, _, _, _, _, rfl⟩, ?_⟩
     ·exact results_row_tmp Tryz.results20 _ _ zb 55 _ (0, 0) _ rfl hs9.1 under_manifest rfl size_manifest _ rfl
     ·rfl
     ·rw [HZB.out]
      exact HW9.out.2.trans (hs9.2.below (Nat.le_of_lt hbz9) (fun k hk => Nat.le_of_eq hk.symm))
  ·have HDB : Hid (DB = false) := Lib.hid (by rw [HK.out, decide_eq_false hk]; rfl)
   go_wp2
   have hb9 := HK9.out.2.2.2.2
   have hs9 := HZS.out _ HK9.out.2.2.2.1 (.string ⟨#[]⟩) (.int .u32 0) (.slice none 0 0) (.slice none 0 0)
   rw [show decB l = false from HDBE.out.trans HDB.out]
   refine bodyPost_ret (v := .tuple #[.agg [.string ⟨#[]⟩, .int .u32 0, .slice none 0 0, .slice none 0 0].toArray, .bool false]) ?_ ?_ ⟨_, rfl, ⟨_, _, _, _, _, _, _, _, rfl⟩, ?_⟩
   ·exact results_row_tmp Tryz.results20 _ _ zb 55 _ (0, 0) _ rfl hs9.1 under_manifest rfl size_manifest _ rfl
   ·rfl
   ·rw [HZB.out]
    exact hb9.trans (hs9.2.below (Nat.le_of_lt hbz) (fun k hk => Nat.le_of_eq hk.symm))
end Go.Proofs.YtgeplpdcnanmnaaGreat

/- The reference's checkpoints: what is right, what is the same. The reference's checkpoints as bytes. The reference's signed checkpoints. Seeds and hashes that are asked most; the law's owners. Conditions: as each theorem states them. -/
import Derived.Test.YtgeplpdcnanmnaaGreatZap
import Derived.Test.YtgeplpdcnanmnaaGreatZaa
import Derived.Test.YtgeplpdcnanmnaaGreatZao
namespace Go.Proofs.YtgeplpdcnanmnaaGreat
open Go.RowKit
set_option linter.unusedVariables false
set_option linter.unusedSimpArgs false

structure CkD where
 num : Int
 root : List UInt8
def CkV (w : World) (v : Value) (c : CkD) : Prop := ∃ p, v = .agg #[.int .i64 c.num, p] ∧ Bys w p c.root
def ckB (c : CkD) : Bool := decide (0 ≤ c.num) && decide (c.num ≤ 256) && decide (c.root.length = 32)

set_option maxRecDepth 100000 in
theorem rckright_any (v : Value) (c : CkD) (hl : c.root.length ≤ 1000000000) (w : World) (hv : CkV w v c) :
  Calls Tryz.prog 65 #[v] w fun e w' => e = .returned (.bool (ckB c)) ∧ Below w.heap.size w w' := by
 obtain ⟨p, rfl, h1⟩ := hv
 obtain ⟨P, cp, rfl⟩ := h1.form
 have HB0 := Lib.hid ((Below.refl w.heap.size w).alloc (Nat.le_refl _) (.cells #[.int .i64 c.num, .slice P c.root.length cp] 35))
 have HRB : Hid (ckB c = (decide (0 ≤ c.num) && decide (c.num ≤ 256) && decide (c.root.length = 32))) := Lib.hid rfl
 clear h1
 generalize ckB c = RB at *
 generalize c.num = ix at *
 generalize c.root = R at *
 go_enter Tryz.func65, Tryz.ntmps65
 by_cases k1 : 0 ≤ ix
 ·by_cases k2 : ix ≤ 256
  ·have HF : Hid (RB = decide (R.length = 32)) := Lib.hid (by rw [HRB.out]; simp [k1, k2])
   by_cases k3 : R.length = 32
   ·have n3 : (((R.length : Nat) : Int) == 32) = true := by simp [k3]
    have HT : Hid (RB = true) := Lib.hid (by rw [HF.out]; simp [k3])
    clear k3
    go_wp2
    go_ret
    exact ⟨by rw [HT.out]; rfl, HB0.out⟩
   ·have n3 : (((R.length : Nat) : Int) == 32) = false := by simp; omega
    have HT : Hid (RB = false) := Lib.hid (by rw [HF.out]; simp [k3])
    clear k3
    go_wp2
    go_ret
    exact ⟨by rw [HT.out]; rfl, HB0.out⟩
  ·have HT : Hid (RB = false) := Lib.hid (by rw [HRB.out]; simp [k2])
   go_wp2
   go_ret
   exact ⟨by rw [HT.out]; rfl, HB0.out⟩
 ·have HT : Hid (RB = false) := Lib.hid (by rw [HRB.out]; simp [k1])
  go_wp2
  go_ret
  exact ⟨by rw [HT.out]; rfl, HB0.out⟩
def OwnY (w : World) (base : Nat) (v : Value) (l : List UInt8) : Prop := OwnG w base 5 1 v l.length (bys l)
theorem OwnY.bys {w : World} {base : Nat} {v : Value} {l : List UInt8} (h : OwnY w base v l) : Bys w v l := OwnG.sho h
theorem OwnY.form {w : World} {base : Nat} {v : Value} {l : List UInt8} (h : OwnY w base v l) : ∃ A c, v = .slice A l.length c := h.bys.form
theorem OwnY.ge {w : World} {base : Nat} {v : Value} {l : List UInt8} (h : OwnY w base v l) {j : Nat} (e : v.ownBlock = some j) : base ≤ j := (OwnG.lt h j e).1
theorem OwnY.append {w : World} {base : Nat} {v : Value} {l m : List UInt8} {n : Nat} (hn : m.length = n) (h : OwnG w base 5 1 v (l.length + n) (Go.Proofs.YtgeplpdcnanmnaaGreat.bys l ++ Go.Proofs.YtgeplpdcnanmnaaGreat.bys m)) : OwnY w base v (l ++ m) := by
 subst hn
 unfold OwnY
 rw [List.length_append, bys_append]
 exact h

set_option maxRecDepth 100000 in
theorem rnumy_any (base : Nat) (v : Value) (l : List UInt8) (n : Int) (hsm : l.length ≤ 1000000000000) (w : World) (hb : base ≤ w.heap.size) (ho : OwnY w base v l) :
  Calls Tryz.prog 70 #[v, .int .u32 n] w fun e w' => ∃ v', e = .returned v' ∧ OwnY w' base v' (l ++ be4 n) ∧ Below base w w' ∧ Chg w w' (fun k => v.ownBlock = some k) := by
 obtain ⟨i0, hi0, hz0, hz1, hz2⟩ := info_parts info_u8
 have HO := Lib.hid ho
 clear ho
 have e1 : n / 16777216 % 256 = (((ub (n / 16777216)).toNat : Nat) : Int) := (ub_val _).symm
 have e2 : n / 65536 % 256 = (((ub (n / 65536)).toNat : Nat) : Int) := (ub_val _).symm
 have e3 : n / 256 % 256 = (((ub (n / 256)).toNat : Nat) : Int) := (ub_val _).symm
 have e4 : n % 256 = (((ub n).toNat : Nat) : Int) := (ub_val _).symm
 have HBE : Hid (be4 n = [ub (n / 16777216), ub (n / 65536), ub (n / 256), ub n]) := Lib.hid rfl
 generalize ub (n / 16777216) = b1 at *
 generalize ub (n / 65536) = b2 at *
 generalize ub (n / 256) = b3 at *
 generalize ub n = b4 at *
 generalize hbe : be4 n = B at *
 go_enter Tryz.func70, Tryz.ntmps70
 go_wp2_with (at_builtin; (refine wpList_append_g rfl (.tmp 5) (.tmp 17) 24 rfl base 5 i0 (.int .u8 0) 1 1 Tryz.underlying24 hi0 hz0 hz1 hz2 rfl (by decide) _ _ _ rfl (OwnG.chg HO.out ((Chg.refl w (fun _ => False)).alloc _) (fun _ _ h => h)) _ 4 (bys [b1, b2, b3, b4]) rfl (Bys.new w [b1, b2, b3, b4] 4 rfl (by decide)) (by unfold maxLen; omega) (by omega) (by simp; omega) ?_); intro v2 W2 hown2 hgrow2; have HB2 : Hid (Below base w W2) := Lib.hid (((Below.refl base w).alloc hb _).grown hgrow2 (by simp; omega) (fun k e => OwnY.ge HO.out e)); have HC2 : Hid (Chg w W2 (fun k => v.ownBlock = some k)) := Lib.hid (((Chg.refl w _).alloc _).trans (Chg.of_grown hgrow2) (fun i _ h => h.symm)); have HO2 : Hid (OwnY W2 base v2 (l ++ [b1, b2, b3, b4])) := Lib.hid (OwnY.append rfl hown2); clear hown2 hgrow2)
 go_ret
 exact ⟨_, rfl, by rw [HBE.out]; exact HO2.out, HB2.out, HC2.out⟩

theorem conv_bytes (w : World) (s : ByteArray) (hm : s.size ≤ maxLen) : ∃ c w', (convert 9 24 (.string s)).run Tryz.prog w = .ok (.slice (some ⟨w.heap.size, 0, none⟩) s.size c) w' ∧ OwnY w' w.heap.size (.slice (some ⟨w.heap.size, 0, none⟩) s.size c) s.data.toList ∧ Below w.heap.size w w' := by
 have hb := bytes_own w w.heap.size 5 s (Nat.le_refl _) hm
 exact ⟨_, _, Lib.run_convert_string_bytes (P := Tryz.prog) w 9 24 5 s Tryz.underlying9 Tryz.underlying24 Tryz.underlying5, hb.1, hb.2⟩

def bodyS (tag : List UInt8) (c : CkD) : List UInt8 := if ckB c then tag ++ be4 c.num ++ c.root else []

set_option maxRecDepth 100000 in
set_option maxHeartbeats 1000000 in
theorem rbody_any (t : ByteArray) (v : Value) (c : CkD) (ht : t.size ≤ 1000) (hl : c.root.length ≤ 1000000000) (w : World) (hv : CkV w v c) :
  Calls Tryz.prog 120 #[.string t, v] w fun e w' => ∃ v', e = .returned v' ∧ Bys w' v' (bodyS t.data.toList c) ∧ Below w.heap.size w w' := by
 obtain ⟨i0, hi0, hz0, hz1, hz2⟩ := info_parts info_u8
 obtain ⟨p, rfl, h1⟩ := hv
 obtain ⟨P, cp, rfl⟩ := h1.form
 have HX := Lib.hid h1
 have HBS : Hid (bodyS t.data.toList c = if ckB c then t.data.toList ++ be4 c.num ++ c.root else []) := Lib.hid rfl
 have HCK : Hid (ckB c = true → 0 ≤ c.num ∧ c.num ≤ 256) := Lib.hid (by intro h; simp [ckB] at h; exact ⟨h.1.1, h.1.2⟩)
 generalize bodyS t.data.toList c = BS at *
 have hts : t.data.toList.length = t.size := rfl
 clear h1
 go_enter Tryz.func120, Tryz.ntmps120
 have hk0 := Blk.new w 35 [.int .i64 c.num, .slice P c.root.length cp]
 have hb0 : Below w.heap.size w (w.alloc (.cells #[.int .i64 c.num, .slice P c.root.length cp] 35)) := (Below.refl w.heap.size w).alloc (Nat.le_refl _) _
 have HW := Lib.hid (And.intro hk0 hb0)
 clear hk0 hb0
 by_cases hck : ckB c = true
 ·rw [hck] at HBS
  obtain ⟨n0, n1⟩ := HCK.out hck
  go_wp2_with (go_at_call 65; refine (rckright_any _ c hl _ ⟨_, rfl, HX.out.below HW.out.2⟩).mono ?_; rintro e w1 ⟨rfl, h1⟩; rw [hck]; have HW1 := Lib.hid (And.intro (HW.out.1.below h1) (HW.out.2.trans (h1.mono (by simp)))); clear h1)
  have s0 := HW1.out.1.cell 0 _ rfl
  have s1 := HW1.out.1.cell 1 _ rfl
  have f0 := HW1.out.1.free 0
  have f1 := HW1.out.1.free 1
  have hw1 := HW1.out.2.size
  have hwlt := HW1.out.1.lt
  have ew : IntKind.u32.wrap c.num = c.num := by
   rw [show IntKind.u32.wrap c.num = c.num % 4294967296 by simp [IntKind.wrap, IntKind.bits, IntKind.signed]]; omega
  have HBS2 : Hid (BS = (t.data.toList ++ be4 c.num) ++ c.root) := Lib.hid (by rw [HBS, if_pos trivial])
  clear HBS
  obtain ⟨D, hD⟩ : ∃ D, t.data.toList ++ be4 c.num = D := ⟨_, rfl⟩
  have hDl : D.length ≤ 2000 := by rw [← hD, List.length_append, be4_length, hts]; omega
  have HD := Lib.hid hD
  rw [hD] at HBS2
  clear hD
  obtain ⟨c9, w2, hcv, h2, h3⟩ := conv_bytes w1.drew t (by unfold maxLen; omega)
  have hb2 : Below w1.heap.size w1 w2 := ⟨h3.os, h3.tape, h3.output, h3.size, h3.block⟩
  have t0 := (hb2.cell (p := ⟨w.heap.size, 0, none⟩) hwlt).trans s0
  have t1 := (hb2.cell (p := ⟨w.heap.size, 1, none⟩) hwlt).trans s1
  have H2 := Lib.hid (And.intro (show OwnY w2 w1.heap.size (.slice (some ⟨w1.heap.size, 0, none⟩) t.size c9) t.data.toList from h2) hb2)
  have hcv2 : (convert 9 24 (.string t)).run Tryz.prog w1.drew = .ok (.slice (some ⟨w1.heap.size, 0, none⟩) t.size c9) w2 := hcv
  clear h2 h3 hb2 hcv
  go_wp2
  refine wp_region_held_drew (S := fun w' => w'.cell? ⟨w.heap.size, 0, none⟩ = some (.int .i64 c.num) ∧ w'.cell? ⟨w.heap.size, 1, none⟩ = some (.slice P c.root.length cp)) (by kernel_rfl) ?_ (fun hHeld => ?_)
  ·exact ⟨s0, s1⟩
  refine ty 0 8 rfl rfl ?_; simp only [sa, sb, sc]
  refine ty 2 10 rfl rfl ?_; simp only [sa, sb, sc]
  refine ty 3 11 rfl rfl ?_; simp only [sa, sb, sc]
  refine ty 4 12 rfl rfl ?_; simp only [sa, sb, sc]
  refine ty 6 14 rfl rfl ?_; simp only [sa, sb, sc]
  refine ty 7 15 rfl rfl ?_; simp only [sa, sb, sc]
  refine rd 1 (by kernel_rfl) rfl (fun K hK => ?_)
  go_simp
  refine hK.out _ _ ⟨t0, t1⟩ (fun hHeld1 => ?_)
  clear hK K; try simp only [Act.put, sa, sb, sc]
  refine rd 5 (by kernel_rfl) rfl (fun K hK => ?_)
  go_simp
  go_at_call 70
  refine (rnumy_any w1.heap.size _ t.data.toList c.num (by omega) w2 H2.out.2.size H2.out.1).mono ?_
  rintro e w5 ⟨v5, rfl, h5, h6, -⟩
  rw [HD.out] at h5
  obtain ⟨A5, c5, rfl⟩ := h5.form
  have hb5 := H2.out.2.trans h6
  have u0 := (hb5.cell (p := ⟨w.heap.size, 0, none⟩) hwlt).trans s0
  have u1 := (hb5.cell (p := ⟨w.heap.size, 1, none⟩) hwlt).trans s1
  have H5 := Lib.hid (And.intro h5 (And.intro hb5 (HX.out.below (HW1.out.2.trans (hb5.mono hw1)))))
  clear h5 h6 hb5
  go_wp2_with fail
  refine hK.out _ _ ⟨u0, u1⟩ (fun hHeld5 => ?_)
  clear hK K; try simp only [Act.put, sa, sb, sc]
  refine rd 8 (by kernel_rfl) rfl (fun K hK => ?_)
  skip
  refine step_append_g rfl (.tmp 13) (.tmp 15) 24 rfl w1.heap.size 5 i0 (.int .u8 0) 1 1 Tryz.underlying24 hi0 hz0 hz1 hz2 rfl (by decide) _ D.length (bys D) rfl H5.out.1 _ c.root.length (bys c.root) rfl H5.out.2.2.news (by unfold maxLen; omega) (by omega) H5.out.2.1.size ?_
  intro v7 w7 h7 g7
  have HB7 := Lib.hid (H5.out.2.1.grown g7 (by have := H5.out.2.1.size; omega) (fun k e => OwnY.ge H5.out.1 e))
  have hy7 : OwnY w7 w1.heap.size v7 (D ++ c.root) := OwnY.append rfl h7
  obtain ⟨A7, c7, rfl⟩ := (OwnG.sho h7).form
  have HY7 := Lib.hid hy7
  have x0 := (HB7.out.cell (p := ⟨w.heap.size, 0, none⟩) hwlt).trans s0
  have x1 := (HB7.out.cell (p := ⟨w.heap.size, 1, none⟩) hwlt).trans s1
  clear h7 g7 hy7
  refine hK.out _ _ ⟨x0, x1⟩ (fun hHeld8 => ?_)
  clear hK K
  simp only [Act.put, List.getElem_toArray, List.getElem_cons_succ, List.getElem_cons_zero, List.setIfInBounds_toArray, List.set_cons_zero, List.set_cons_succ]
  refine take_yes 9 4 rfl rfl (by kernel_rfl) (by kernel_rfl) (by kernel_rfl) (fun _ _ _ h => h) (by assumption) (by rfl) (v := ?_) ?_ ?_
  rotate_left 1
  ·(intro w hSw; (try dsimp only at hSw); go_simp; try with_reducible rfl)
  try simp only [sa, sb, sc]
  refine wpAnyH_done (by kernel_rfl) ?_ _
  go_wp2
  go_ret
  exact ⟨_, rfl, by rw [HBS2.out]; exact HY7.out.bys, HW1.out.2.trans (HB7.out.mono hw1)⟩
 ·have hck' : ckB c = false := by simpa using hck
  rw [hck'] at HBS
  have HF : Hid (BS = []) := Lib.hid HBS.out
  go_wp2_with (go_at_call 65; refine (rckright_any _ c hl _ ⟨_, rfl, HX.out.below HW.out.2⟩).mono ?_; rintro e w1 ⟨rfl, h1⟩; rw [hck']; have HW1 := Lib.hid (And.intro (HW.out.1.below h1) (HW.out.2.trans (h1.mono (by simp)))); clear h1)
  go_wp2
  go_ret
  exact ⟨_, rfl, by rw [HF.out]; exact Sho.nil _ _, HW1.out.2⟩

set_option maxRecDepth 100000 in
theorem rckbody_any (v : Value) (c : CkD) (hl : c.root.length ≤ 1000000000) (w : World) (hv : CkV w v c) :
  Calls Tryz.prog 45 #[v] w fun e w' => ∃ v', e = .returned v' ∧ Bys w' v' (bodyS [98, 114, 111, 97, 100, 115, 104, 101, 101, 116, 32, 99, 104, 101, 99, 107] c) ∧ Below w.heap.size w w' := by
 obtain ⟨p, rfl, h1⟩ := hv
 obtain ⟨P, cp, rfl⟩ := h1.form
 have HX := Lib.hid h1
 clear h1
 have hb0 : Below w.heap.size w (w.alloc (.cells #[.int .i64 c.num, .slice P c.root.length cp] 35)) := (Below.refl w.heap.size w).alloc (Nat.le_refl _) _
 have HW := Lib.hid hb0
 clear hb0
 go_enter Tryz.func45, Tryz.ntmps45
 go_wp2_with (go_at_call 120; refine (rbody_any _ _ c (by decide) hl _ ⟨_, rfl, HX.out.below HW.out⟩).mono ?_; rintro e w1 ⟨v1, rfl, h1, h2⟩; obtain ⟨A1, c1, rfl⟩ := h1.form; have H1 := Lib.hid (And.intro h1 (HW.out.trans (h2.mono (by simp)))); clear h1 h2)
 go_ret
 exact ⟨_, rfl, H1.out.1, H1.out.2⟩
set_option maxRecDepth 100000 in
theorem rckcosign_any (v : Value) (c : CkD) (hl : c.root.length ≤ 1000000000) (w : World) (hv : CkV w v c) :
  Calls Tryz.prog 36 #[v] w fun e w' => ∃ v', e = .returned v' ∧ Bys w' v' (bodyS [98, 114, 111, 97, 100, 115, 104, 101, 101, 116, 32, 99, 111, 115, 105, 103, 110] c) ∧ Below w.heap.size w w' := by
 obtain ⟨p, rfl, h1⟩ := hv
 obtain ⟨P, cp, rfl⟩ := h1.form
 have HX := Lib.hid h1
 clear h1
 have hb0 : Below w.heap.size w (w.alloc (.cells #[.int .i64 c.num, .slice P c.root.length cp] 35)) := (Below.refl w.heap.size w).alloc (Nat.le_refl _) _
 have HW := Lib.hid hb0
 clear hb0
 go_enter Tryz.func36, Tryz.ntmps36
 go_wp2_with (go_at_call 120; refine (rbody_any _ _ c (by decide) hl _ ⟨_, rfl, HX.out.below HW.out⟩).mono ?_; rintro e w1 ⟨v1, rfl, h1, h2⟩; obtain ⟨A1, c1, rfl⟩ := h1.form; have H1 := Lib.hid (And.intro h1 (HW.out.trans (h2.mono (by simp)))); clear h1 h2)
 go_ret
 exact ⟨_, rfl, H1.out.1, H1.out.2⟩
structure SgD where
 ck : CkD
 sig : SigD
def SgV (w : World) (v : Value) (s : SgD) : Prop := ∃ r p q, v = .agg #[.int .i64 s.ck.num, r, .int .i64 s.sig.index, p, q] ∧ Bys w r s.ck.root ∧ Rws w p s.sig.parts ∧ Rws w q s.sig.path
def tagCk : List UInt8 := [98, 114, 111, 97, 100, 115, 104, 101, 101, 116, 32, 99, 104, 101, 99, 107]
def tagCo : List UInt8 := [98, 114, 111, 97, 100, 115, 104, 101, 101, 116, 32, 99, 111, 115, 105, 103, 110]
def ckVerB (pub : List UInt8) (s : SgD) : Bool := ckB s.ck && verifyB pub (bodyS tagCk s.ck) s.sig
def SmallSig (s : SigD) : Prop := s.parts.length ≤ 1000000000 ∧ s.path.length ≤ 1000000000 ∧ (∀ i (h : i < s.parts.length), s.parts[i].length ≤ 1000000000) ∧ (∀ i (h : i < s.path.length), s.path[i].length ≤ 1000000000)
theorem bodyS_length (t : List UInt8) (c : CkD) : (bodyS t c).length ≤ t.length + 4 + c.root.length := by
 unfold bodyS
 split
 ·simp only [List.length_append, be4_length]; omega
 ·exact Nat.zero_le _

set_option maxRecDepth 100000 in
set_option maxHeartbeats 2000000 in
theorem rckverify_any (vp v : Value) (pub : List UInt8) (s : SgD) (hpub : pub.length ≤ 1000000000) (hr : s.ck.root.length ≤ 100000000) (hs : SmallSig s.sig) (w : World) (hvp : Bys w vp pub) (hv : SgV w v s) :
  Calls Tryz.prog 21 #[vp, v] w fun e w' => e = .returned (.bool (ckVerB pub s)) ∧ Below w.heap.size w w' := by
 obtain ⟨r, p, q, rfl, h1, h2, h3⟩ := hv
 obtain ⟨R, cr, rfl⟩ := h1.form
 obtain ⟨P, cp, rfl⟩ := h2.form
 obtain ⟨Q, cq, rfl⟩ := h3.form
 obtain ⟨U, cu, rfl⟩ := hvp.form
 have HX := Lib.hid (And.intro h1 (And.intro h2 (And.intro h3 hvp)))
 have HCV : Hid (ckVerB pub s = (ckB s.ck && verifyB pub (bodyS tagCk s.ck) s.sig)) := Lib.hid rfl
 have hbl := bodyS_length tagCk s.ck
 have HBL : Hid ((bodyS tagCk s.ck).length ≤ 1000000000) := Lib.hid (by have : tagCk.length = 16 := rfl; omega)
 clear h1 h2 h3 hvp hbl
 generalize ckVerB pub s = CV at *
 obtain ⟨⟨num, root⟩, sg⟩ := s
 obtain ⟨hs1, hs2, hs3, hs4⟩ := hs
 have HS := Lib.hid (And.intro hs1 (And.intro hs2 (And.intro hs3 hs4)))
 clear hs1 hs2 hs3 hs4
 have hrl : root.length ≤ 1000000000 := by have : root.length ≤ 100000000 := hr; omega
 have HBD := Lib.hid (fun (wz : World) (v : Value) (hz : CkV wz v ⟨num, root⟩) => rckbody_any v ⟨num, root⟩ hrl wz hz)
 have HRT := Lib.hid (fun (wz : World) (v : Value) (hz : CkV wz v ⟨num, root⟩) => rckright_any v ⟨num, root⟩ hrl wz hz)
 have HVF := Lib.hid (fun (wz : World) (vp vm v : Value) (z1 : Bys wz vp pub) (z2 : Bys wz vm (bodyS tagCk ⟨num, root⟩)) (z3 : SigV wz v sg) => rverify_any vp vm v pub (bodyS tagCk ⟨num, root⟩) sg hpub HBL.out HS.out.1 HS.out.2.1 HS.out.2.2.1 HS.out.2.2.2 wz z1 z2 z3)
 obtain ⟨ix, Ps, Qs⟩ := sg
 go_enter Tryz.func21, Tryz.ntmps21
 have hk0 := Blk.new w 39 [.int .i64 num, .slice R root.length cr, .int .i64 ix, .slice P Ps.length cp, .slice Q Qs.length cq]
 have hb0 : Below w.heap.size w (w.alloc (.cells #[.int .i64 num, .slice R root.length cr, .int .i64 ix, .slice P Ps.length cp, .slice Q Qs.length cq] 39)) := (Below.refl w.heap.size w).alloc (Nat.le_refl _) _
 have HW := Lib.hid (And.intro hk0 hb0)
 clear hk0 hb0
 have HCB : Hid (ckB ⟨num, root⟩ = ckB ⟨num, root⟩) := Lib.hid rfl
 generalize hvb : verifyB pub (bodyS tagCk ⟨num, root⟩) ⟨ix, Ps, Qs⟩ = VB at *
 generalize hbo : bodyS tagCk ⟨num, root⟩ = BO at *
 change Hid (∀ (wz : World) (v : Value), CkV wz v ⟨num, root⟩ → Calls Tryz.prog 45 #[v] wz fun e w' => ∃ v', e = .returned v' ∧ Bys w' v' (bodyS tagCk ⟨num, root⟩) ∧ Below wz.heap.size wz w') at HBD
 rw [hbo] at HBD
 clear hvb hbo HCB
 by_cases hck : ckB ⟨num, root⟩ = true
 ·rw [hck] at HCV HRT
  go_wp2
  refine code_at (fun w1 => Blk w1 w.heap.size 39 [.int .i64 num, .slice R root.length cr, .int .i64 ix, .slice P Ps.length cp, .slice Q Qs.length cq] ∧ Below w.heap.size w w1) HW.out ?_
  intro w1 hw1
  have HW1 := Lib.hid hw1
  clear hw1 HW
  have hwlt := HW1.out.1.lt
  have hw1 := HW1.out.2.size
  have c0 := HW1.out.1.cell 0 _ rfl
  have c1 := HW1.out.1.cell 1 _ rfl
  have c2 := HW1.out.1.cell 2 _ rfl
  have c3 := HW1.out.1.cell 3 _ rfl
  have c4 := HW1.out.1.cell 4 _ rfl
  go_region_held3 (fun w' => w'.cell? ⟨w.heap.size, 0, none⟩ = some (.int .i64 num) ∧ w'.cell? ⟨w.heap.size, 1, none⟩ = some (.slice R root.length cr) ∧ w'.cell? ⟨w.heap.size, 2, none⟩ = some (.int .i64 ix) ∧ w'.cell? ⟨w.heap.size, 3, none⟩ = some (.slice P Ps.length cp) ∧ w'.cell? ⟨w.heap.size, 4, none⟩ = some (.slice Q Qs.length cq))
   (first
    | go_keep
    | exact ⟨c0, c1, c2, c3, c4⟩
    | exact ⟨d0, d1, d2, d3, d4⟩
    | exact ⟨e0, e1, e2, e3, e4⟩
    | exact ⟨g0, g1, g2, g3, g4⟩)
   (first
    | (go_simp; go_at_call 65; refine (HRT.out w1.drew _ ⟨_, rfl, HX.out.1.below HW1.out.2.drew⟩).mono ?_; rintro e w2 ⟨rfl, h2⟩; have hb2 : Below w1.heap.size w1 w2 := ⟨h2.os, h2.tape, h2.output, h2.size, h2.block⟩; have d0 := (hb2.cell (p := ⟨w.heap.size, 0, none⟩) hwlt).trans c0; have d1 := (hb2.cell (p := ⟨w.heap.size, 1, none⟩) hwlt).trans c1; have d2 := (hb2.cell (p := ⟨w.heap.size, 2, none⟩) hwlt).trans c2; have d3 := (hb2.cell (p := ⟨w.heap.size, 3, none⟩) hwlt).trans c3; have d4 := (hb2.cell (p := ⟨w.heap.size, 4, none⟩) hwlt).trans c4; have H2 := Lib.hid hb2; clear h2 hb2)
    | (go_simp; go_at_call 45; refine (HBD.out w2 _ ⟨_, rfl, HX.out.1.below (HW1.out.2.trans (H2.out.mono hw1))⟩).mono ?_; rintro e w3 ⟨v3, rfl, h3, h4⟩; obtain ⟨A3, k3, rfl⟩ := h3.form; have hb3 := H2.out.trans (h4.mono H2.out.size); have e0 := (hb3.cell (p := ⟨w.heap.size, 0, none⟩) hwlt).trans c0; have e1 := (hb3.cell (p := ⟨w.heap.size, 1, none⟩) hwlt).trans c1; have e2 := (hb3.cell (p := ⟨w.heap.size, 2, none⟩) hwlt).trans c2; have e3 := (hb3.cell (p := ⟨w.heap.size, 3, none⟩) hwlt).trans c3; have e4 := (hb3.cell (p := ⟨w.heap.size, 4, none⟩) hwlt).trans c4; have H3 := Lib.hid (And.intro h3 hb3); clear h3 h4 hb3)
    | (go_simp; go_at_call 66; refine (HVF.out w3 _ _ _ (HX.out.2.2.2.below (HW1.out.2.trans (H3.out.2.mono hw1))) H3.out.1 ⟨_, _, rfl, HX.out.2.1.below (HW1.out.2.trans (H3.out.2.mono hw1)), HX.out.2.2.1.below (HW1.out.2.trans (H3.out.2.mono hw1))⟩).mono ?_; rintro e w4 ⟨rfl, h4⟩; have hb4 := H3.out.2.trans (h4.mono H3.out.2.size); have g0 := (hb4.cell (p := ⟨w.heap.size, 0, none⟩) hwlt).trans c0; have g1 := (hb4.cell (p := ⟨w.heap.size, 1, none⟩) hwlt).trans c1; have g2 := (hb4.cell (p := ⟨w.heap.size, 2, none⟩) hwlt).trans c2; have g3 := (hb4.cell (p := ⟨w.heap.size, 3, none⟩) hwlt).trans c3; have g4 := (hb4.cell (p := ⟨w.heap.size, 4, none⟩) hwlt).trans c4; have H4 := Lib.hid hb4; clear h4 hb4))
  go_wp2
  go_ret
  exact ⟨by rw [HCV.out]; rfl, HW1.out.2.trans (H4.out.mono hw1)⟩
 ·have hck' : ckB ⟨num, root⟩ = false := by simpa using hck
  rw [hck'] at HCV HRT
  go_wp2
  refine code_at (fun w1 => Blk w1 w.heap.size 39 [.int .i64 num, .slice R root.length cr, .int .i64 ix, .slice P Ps.length cp, .slice Q Qs.length cq] ∧ Below w.heap.size w w1) HW.out ?_
  intro w1 hw1
  have HW1 := Lib.hid hw1
  clear hw1 HW
  have hwlt := HW1.out.1.lt
  have hw1 := HW1.out.2.size
  have c0 := HW1.out.1.cell 0 _ rfl
  have c1 := HW1.out.1.cell 1 _ rfl
  refine wp_region_held_drew (S := (fun w' => w'.cell? ⟨w.heap.size, 0, none⟩ = some (.int .i64 num) ∧ w'.cell? ⟨w.heap.size, 1, none⟩ = some (.slice R root.length cr))) (by kernel_rfl) ?_ (fun hHeld => ?_)
  ·exact ⟨c0, c1⟩
  refine ty 0 5 rfl rfl ?_; simp only [sa, sb, sc]
  refine ty 1 6 rfl rfl ?_; simp only [sa, sb, sc]
  refine rd 2 (by kernel_rfl) rfl (fun K hK => ?_)
  (go_simp; go_at_call 65; refine (HRT.out w1.drew _ ⟨_, rfl, HX.out.1.below HW1.out.2.drew⟩).mono ?_; rintro e w2 ⟨rfl, h2⟩; have hb2 : Below w1.heap.size w1 w2 := ⟨h2.os, h2.tape, h2.output, h2.size, h2.block⟩; have d0 := (hb2.cell (p := ⟨w.heap.size, 0, none⟩) hwlt).trans c0; have d1 := (hb2.cell (p := ⟨w.heap.size, 1, none⟩) hwlt).trans c1; have H2 := Lib.hid hb2; clear h2 hb2)
  go_wp2_with fail
  refine hK.out _ _ ⟨d0, d1⟩ (fun hHeld2 => ?_)
  clear hK K; try simp only [Act.put, sa, sb, sc]
  refine ty 3 8 rfl rfl ?_; simp only [sa, sb, sc]
  refine tn 4 9 rfl rfl ?_; simp only [sa, sb, sc]
  refine tn 5 10 rfl rfl ?_; simp only [sa, sb, sc]
  refine tn 6 11 rfl rfl ?_; simp only [sa, sb, sc]
  refine tn 7 12 rfl rfl ?_; simp only [sa, sb, sc]
  refine tn 8 13 rfl rfl ?_; simp only [sa, sb, sc]
  refine tn 9 14 rfl rfl ?_; simp only [sa, sb, sc]
  refine tn 10 15 rfl rfl ?_; simp only [sa, sb, sc]
  refine ty 11 16 rfl rfl ?_; simp only [sa, sb, sc]
  refine ty 12 4 rfl rfl ?_; simp only [sa, sb, sc]
  refine wpAnyH_done (by kernel_rfl) ?_ _
  all_goals
   go_wp2
   go_ret
   exact ⟨by rw [HCV.out]; rfl, HW1.out.2.trans (H2.out.mono hw1)⟩
def seedS (n : Int) : List UInt8 := tagH 99 [[ub (n % 5)]]
def hashS (n : Int) : List UInt8 := tagH 98 [[ub n]]
theorem seedS_length (n : Int) : (seedS n).length = 32 := tagH_length _ _
theorem hashS_length (n : Int) : (hashS n).length = 32 := tagH_length _ _
theorem withinZ_in (n lo hi : Int) (h0 : lo ≤ n) (h1 : n ≤ hi) : withinZ n lo hi = n := by unfold withinZ; rw [if_pos ⟨h0, h1⟩]
theorem one_text (w : World) (b : UInt8) (y : Int) (hy : y = ((b.toNat : Nat) : Int)) : Rws ((w.alloc (.cells #[.int .u8 y] 5)).alloc (.cells #[.slice (some ⟨w.heap.size, 0, none⟩) 1 1] 24)) (.slice (some ⟨w.heap.size + 1, 0, none⟩) 1 1) [[b]] := by
 subst hy
 have h : Bys (w.alloc (.cells #[.int .u8 ((b.toNat : Nat) : Int)] 5)) (.slice (some ⟨w.heap.size, 0, none⟩) 1 1) [b] := Sho.new w 5 (bys [b]) 1 1 1 rfl (Nat.le_refl _) (by decide)
 exact new1 24 (b := w.heap.size + 1) (by simp) h
set_option maxRecDepth 100000 in
theorem seed_any (n : Int) (h0 : 0 ≤ n) (h1 : n ≤ 1000) (w : World) : Calls Tryz.prog 40 #[.int .i64 n] w (RetB w (seedS n)) := by
 have HW := Lib.hid (within_any n 0 1000 (by decide) (by decide) (by decide) w)
 rw [withinZ_in n 0 1000 h0 h1] at HW
 have HB5 : Hid (n % 5 = (((ub (n % 5)).toNat : Nat) : Int)) := Lib.hid (by rw [ub_val]; omega)
 have HS : Hid (seedS n = tagH 99 [[ub (n % 5)]]) := Lib.hid rfl
 generalize seedS n = S at *
 generalize ub (n % 5) = b at *
 go_enter Tryz.func40, Tryz.ntmps40
 go_wp2_with fail
 refine HW.out.mono ?_
 rintro e w' ⟨rfl, rfl⟩
 have hb := ((Below.refl w.heap.size w).alloc (Nat.le_refl _) (.cells #[.int .u8 (n % 5)] 5)).alloc (by simp) (.cells #[.slice (some ⟨w.heap.size, 0, none⟩) 1 1] 24)
 have HT := Lib.hid (And.intro (rtag_any 99 99 rfl _ [[b]] (by simp) (by simp) _ (one_text w b (n % 5) HB5.out)) hb)
 clear hb
 go_wp2_with fail
 refine HT.out.1.mono ?_
 rintro e w2 ⟨v2, rfl, h1, h2⟩
 have H2 := Lib.hid (And.intro h1 h2)
 clear h1 h2
 go_wp2
 go_ret
 exact ⟨_, rfl, by rw [HS.out]; exact own_mono' H2.out.1 (by simp; omega), HT.out.2.trans (H2.out.2.mono (by simp; omega))⟩
set_option maxRecDepth 100000 in
theorem hash_any (n : Int) (h0 : 0 ≤ n) (h1 : n ≤ 100000) (w : World) : Calls Tryz.prog 127 #[.int .i64 n] w (RetB w (hashS n)) := by
 have HW := Lib.hid (within_any n 0 100000 (by decide) (by decide) (by decide) w)
 rw [withinZ_in n 0 100000 h0 h1] at HW
 have e1 : n % 256 = (((ub n).toNat : Nat) : Int) := (ub_val _).symm
 have HS : Hid (hashS n = tagH 98 [[ub n]]) := Lib.hid rfl
 generalize hashS n = S at *
 generalize ub n = b at *
 go_enter Tryz.func127, Tryz.ntmps127
 go_wp2_with fail
 refine HW.out.mono ?_
 rintro e w' ⟨rfl, rfl⟩
 have hb := ((Below.refl w.heap.size w).alloc (Nat.le_refl _) (.cells #[.int .u8 ((b.toNat : Nat) : Int)] 5)).alloc (by simp) (.cells #[.slice (some ⟨w.heap.size, 0, none⟩) 1 1] 24)
 have HT := Lib.hid (And.intro (rtag_any 98 98 rfl _ [[b]] (by simp) (by simp) _ (one_text w b ((b.toNat : Nat) : Int) rfl)) hb)
 clear hb
 go_wp2_with fail
 refine HT.out.1.mono ?_
 rintro e w2 ⟨v2, rfl, h1, h2⟩
 have H2 := Lib.hid (And.intro h1 h2)
 clear h1 h2
 go_wp2
 go_ret
 exact ⟨_, rfl, by rw [HS.out]; exact own_mono' H2.out.1 (by simp; omega), HT.out.2.trans (H2.out.2.mono (by simp; omega))⟩
def OwnersS (S : Nat → Prop) (w : World) (v : Value) (n : Nat) : Prop := ∃ us, Sho w v n 1 us ∧ (0 < n → ∀ g, v.ownBlock = some g → S g) ∧ ∀ i, i < n → ∃ b, us[i]? = some (.pointer (some ⟨b, 0, none⟩)) ∧ OwnerS S w b (seedS (i : Int))
theorem OwnersS.chg {S T : Nat → Prop} {w w1 : World} {v : Value} {n : Nat} (h : OwnersS S w v n) (hc : Chg w w1 T) (hS : ∀ g, S g → ¬ T g) : OwnersS S w1 v n := by
 obtain ⟨us, h1, h2, h3⟩ := h
 exact ⟨us, h1.chgF h2 hc hS, h2, fun i hi => by obtain ⟨b, e, ho⟩ := h3 i hi; exact ⟨b, e, ho.chg hc hS⟩⟩
theorem OwnersS.below {S : Nat → Prop} {w w1 : World} {v : Value} {n : Nat} (h : OwnersS S w v n) (hb : Below w.heap.size w w1) : OwnersS S w1 v n := h.chg (Chg.of_below (S := fun _ => False) hb) (fun _ _ h => h)
theorem OwnersS.form {S : Nat → Prop} {w : World} {v : Value} {n : Nat} (h : OwnersS S w v n) : ∃ A c, v = .slice A n c := by
 obtain ⟨us, h1, h2⟩ := h
 exact h1.form
theorem OwnersS.at' {S : Nat → Prop} {w : World} {A : Option Addr} {m c n : Nat} (h : OwnersS S w (.slice A m c) n) (i : Nat) (hi : i < n) : ∃ g o b, A = some ⟨g, o, none⟩ ∧ g < w.heap.size ∧ m = n ∧ n ≤ c ∧ w.cell? ⟨g, o + i, none⟩ = some (.pointer (some ⟨b, 0, none⟩)) ∧ OwnerS S w b (seedS (i : Int)) := by
 obtain ⟨us, h1, -, h2⟩ := h
 obtain ⟨b, e, ho⟩ := h2 i hi
 obtain ⟨g, o, e1, e2, h3, h4, _, h5⟩ := h1.place (by omega)
 exact ⟨g, o, b, e1, h3, e2, h4, h5 i _ e, ho⟩
theorem info_owner : (Tryz.prog.info? 81).map (fun i => (i.zero, i.size, i.bytes)) = some (some (.pointer none), 1, 8) := by kernel_rfl
def OwnI (w wr : World) (v : Value) (i : Nat) : Prop := Below w.heap.size w wr ∧ ∃ us, wr.ownsRow w.heap.size 81 1 v i us ∧ ∀ j, j < i → ∃ b, us[j]? = some (.pointer (some ⟨b, 0, none⟩)) ∧ OwnerS (fun g => w.heap.size ≤ g ∧ g < wr.heap.size ∧ v.ownBlock ≠ some g) wr b (seedS (j : Int))
set_option maxRecDepth 100000 in
set_option maxHeartbeats 2000000 in
theorem owners_any (n : Nat) (h1 : n ≤ 10) (w : World) :
  Calls Tryz.prog 9 #[.int .i64 n] w fun e w' => ∃ v, e = .returned v ∧ OwnersS (fun g => w.heap.size ≤ g ∧ g < w'.heap.size) w' v (n + 1) ∧ Below w.heap.size w w' := by
 obtain ⟨i0, hi0, hz0, hz1, hz2⟩ := info_parts info_owner
 go_enter Tryz.func9, Tryz.ntmps9
 go_wp2
 go_loopw [3, 4] (fun v3 v4 wr => ∃ (i : Nat) (A : Option Addr) (c : Nat), v3 = .slice A i c ∧ v4 = .int .i64 i ∧ i ≤ n + 1 ∧ Hid (OwnI w wr (.slice A i c) i)) (fun _ v _ => n + 1 - (intOf v).toNat)
 case atStart => exact ⟨0, none, 0, rfl, rfl, Nat.zero_le _, Lib.hid ⟨Below.refl _ _, [], World.ownsRow_nil _ _ _ _, fun j hj => absurd hj (Nat.not_lt_zero _)⟩⟩
 case round =>
  obtain ⟨i, A, c, rfl, rfl, hi, HI⟩ := hrel
  by_cases hlt : i ≤ n
  ·have HS := Lib.hid (seed_any (i : Int) (by omega) (by omega) wr)
   have hle : (i : Int) ≤ (n : Int) := by omega
   go_wp2_with fail
   refine HS.out.mono ?_
   rintro e w1 ⟨v1, rfl, h2, h3⟩
   obtain ⟨A1, c1, rfl⟩ := h2.form
   have HN := Lib.hid (rnew_s (fun g => wr.heap.size ≤ g ∧ g < w1.heap.size) _ (seedS (i : Int)) (by rw [seedS_length]; decide) w1 h2.bys (fun _ g hg => World.ownsRow.lt h2 g hg))
   have H1 := Lib.hid h3
   clear h2 h3
   go_wp2_with fail
   refine HN.out.mono ?_
   rintro e w2 ⟨rfl, h4, h5⟩
   have hb2 := H1.out.trans (h5.mono H1.out.size)
   obtain ⟨k1, us, k2, k3⟩ := HI.out
   have k2' := ownsRow_chg k2 (Chg.of_below (S := fun _ => False) hb2) (fun _ _ h => h)
   have hsz := k1.size
   have hsz2 := hb2.size
   have hz1' := H1.out.size
   have hz12 := h5.size
   have H2 := Lib.hid (And.intro hb2 (And.intro h4 (And.intro k2' (And.intro k1 (And.intro k2 k3)))))
   clear k1 k2 k3 k2' h4 h5 hb2
   go_wp2_with (at_builtin; (refine wpList_append_lie rfl (.tmp 10) (.tmp 14) 25 rfl w.heap.size 81 i0 (.pointer none) 1 8 Tryz.underlying25 hi0 hz0 hz1 hz2 rfl (by decide) _ i us rfl (World.ownsRow.alloc H2.out.2.2.1 _) _ 1 [.pointer (some ⟨w1.heap.size, 0, none⟩)] rfl (news1 _ 81 _ rfl) (by unfold maxLen; omega) (by omega) (by simp; omega) ?_); intro v5 W5 hown5 hgrow5 hlie5; obtain ⟨A5, c5, rfl⟩ := (Sho.own hown5).form; have H5 : Hid (OwnI w W5 (.slice A5 (i + 1) c5) (i + 1)) := Lib.hid (by
     obtain ⟨q1, q2, q3, q4, q5, q6⟩ := H2.out
     have hc5 : Chg w2 W5 (fun g => (Value.slice A i c).ownBlock = some g) := ((Chg.refl w2 _).alloc _).trans (Chg.of_grown hgrow5) (fun i _ h => h.symm)
     have hsz5 := hc5.size
     have hne : ∀ g, g < w2.heap.size → (Value.slice A i c).ownBlock ≠ some g → (Value.slice A5 (i + 1) c5).ownBlock ≠ some g := fun g hg hn => by
      refine LieOf.ne (w := w2.alloc (.cells #[.pointer (some ⟨w1.heap.size, 0, none⟩)] 81)) hlie5 hn (by simp; omega)
     refine ⟨q4.trans (q1.mono hsz) |>.trans (hc5.below (by omega) (fun k hk => (World.ownsRow.lt q5 k hk).1)), us ++ [.pointer (some ⟨w1.heap.size, 0, none⟩)], hown5, fun j hj => ?_⟩
     by_cases hji : j < i
     ·obtain ⟨b, e, ho⟩ := q6 j hji
      refine ⟨b, by rw [List.getElem?_append_left (by have := q5.1; omega)]; exact e, ?_⟩
      exact ((ho.chg (Chg.of_below (S := fun _ => False) q1) (fun _ _ h => h)).chg hc5 (fun g hg e => hg.2.2 e)).mono (fun g hg => ⟨hg.1, by have h9 : g < wr.heap.size := hg.2.1; omega, hne g (by have h9 : g < wr.heap.size := hg.2.1; omega) hg.2.2⟩)
     ·obtain rfl : j = i := by omega
      refine ⟨w1.heap.size, by rw [List.getElem?_append_right (by have := q5.1; omega), show us.length = j by have := q5.1; omega]; simp, ?_⟩
      have hold : ∀ g, wr.heap.size ≤ g → (Value.slice A j c).ownBlock ≠ some g := fun g hg e => by have := (World.ownsRow.lt q5 g e).2; omega
      have hS : ∀ g, ((wr.heap.size ≤ g ∧ g < w1.heap.size) ∨ (w1.heap.size ≤ g ∧ g < w2.heap.size)) → wr.heap.size ≤ g ∧ g < w2.heap.size := fun g hg => by omega
      exact ((q2.mono hS).chg hc5 (fun g hg e => hold g hg.1 e)).mono (fun g hg => ⟨by have h9 : wr.heap.size ≤ g := hg.1; omega, by have h9 : g < w2.heap.size := hg.2; omega, hne g hg.2 (hold g hg.1)⟩)); clear hown5 hgrow5 hlie5)
   go_roundw
   case rel => exact ⟨i + 1, A5, c5, rfl, by go_num, by omega, H5⟩
   case measure => simp [intOf]; omega
  ·obtain rfl : i = n + 1 := by omega
   have hnl : ¬ ((n + 1 : Nat) : Int) ≤ (n : Int) := by omega
   go_wp2
   go_ret
   obtain ⟨k1, us, k2, k3⟩ := HI.out
   exact ⟨_, rfl, ⟨us, Sho.own k2, fun _ g hg => World.ownsRow.lt k2 g hg, fun j hj => by obtain ⟨b, e, ho⟩ := k3 j hj; exact ⟨b, e, ho.mono (fun g hg => ⟨hg.1, hg.2.1⟩)⟩⟩, k1⟩
end Go.Proofs.YtgeplpdcnanmnaaGreat

/- The reference's checkpoints as bytes. The reference's signed checkpoints. The program's checkpoints: Right, what is signed and cosigned. The program's checkpoints: Verify. The program's copies of texts. The program's copies of signatures, checkpoints, cosignatures. Conditions: as each theorem states them. -/
import Derived.Test.YtlkgeifmppadmaaGreatKe
import Derived.Lib.SlBytesConst
import Derived.Deep.RegionHeld3
import Derived.Test.YtlkgeifmppadmaaGreatKd
import Derived.Test.YtlkgeifmppadmaaGreatKb
namespace Go.Proofs.YtlkgeifmppadmaaGreat
open Go.RowKit
set_option linter.unusedVariables false
set_option linter.unusedSimpArgs false

/-- Bytes of one's own; what is frozen lies behind them. -/
def OwnY (w : World) (base : Nat) (v : Value) (l : List UInt8) : Prop := OwnG w base 5 1 v l.length (bys l)
theorem OwnY.bys {w : World} {base : Nat} {v : Value} {l : List UInt8} (h : OwnY w base v l) : Bys w v l := OwnG.sho h
theorem OwnY.form {w : World} {base : Nat} {v : Value} {l : List UInt8} (h : OwnY w base v l) : ∃ A c, v = .slice A l.length c := h.bys.form
theorem OwnY.ge {w : World} {base : Nat} {v : Value} {l : List UInt8} (h : OwnY w base v l) {j : Nat} (e : v.ownBlock = some j) : base ≤ j := (OwnG.lt h j e).1
theorem OwnY.append {w : World} {base : Nat} {v : Value} {l m : List UInt8} {n : Nat} (hn : m.length = n) (h : OwnG w base 5 1 v (l.length + n) (Go.Proofs.YtlkgeifmppadmaaGreat.bys l ++ Go.Proofs.YtlkgeifmppadmaaGreat.bys m)) : OwnY w base v (l ++ m) := by
  subst hn
  unfold OwnY
  rw [List.length_append, bys_append]
  exact h
theorem OwnY.keep {w w1 : World} {base : Nat} {v : Value} {l : List UInt8} (h : OwnY w base v l) (hb : Below w.heap.size w w1) : OwnY w1 base v l := OwnG.chg h (Chg.of_below (S := fun _ => False) hb) (fun _ _ h => h)

set_option maxRecDepth 100000 in
theorem rnumy_any (base : Nat) (v : Value) (l : List UInt8) (n : Int) (hsm : l.length ≤ 1000000000000) (w : World) (hb : base ≤ w.heap.size) (ho : OwnY w base v l) :
    Calls Tryz.prog 76 #[v, .int .u32 n] w fun e w' => ∃ v', e = .returned v' ∧ OwnY w' base v' (l ++ be4 n) ∧ Below base w w' ∧ Chg w w' (fun k => v.ownBlock = some k) := by
  obtain ⟨i0, hi0, hz0, hz1, hz2⟩ := info_parts info_u8
  have HO := Lib.hid ho
  clear ho
  have e1 : n / 16777216 % 256 = (((ub (n / 16777216)).toNat : Nat) : Int) := (ub_val _).symm
  have e2 : n / 65536 % 256 = (((ub (n / 65536)).toNat : Nat) : Int) := (ub_val _).symm
  have e3 : n / 256 % 256 = (((ub (n / 256)).toNat : Nat) : Int) := (ub_val _).symm
  have e4 : n % 256 = (((ub n).toNat : Nat) : Int) := (ub_val _).symm
  have HBE : Hid (be4 n = [ub (n / 16777216), ub (n / 65536), ub (n / 256), ub n]) := Lib.hid rfl
  generalize ub (n / 16777216) = b1 at *
  generalize ub (n / 65536) = b2 at *
  generalize ub (n / 256) = b3 at *
  generalize ub n = b4 at *
  generalize hbe : be4 n = B at *
  go_enter Tryz.func76, Tryz.ntmps76
  go_wp2_with (at_builtin; (refine wpList_append_g rfl (.tmp 5) (.tmp 17) 26 rfl base 5 i0 (.int .u8 0) 1 1 Tryz.underlying26 hi0 hz0 hz1 hz2 rfl (by decide) _ _ _ rfl (OwnG.chg HO.out ((Chg.refl w (fun _ => False)).alloc _) (fun _ _ h => h)) _ 4 (bys [b1, b2, b3, b4]) rfl (Bys.new w [b1, b2, b3, b4] 4 rfl (by decide)) (by unfold maxLen; omega) (by omega) (by simp; omega) ?_); intro v2 W2 hown2 hgrow2; have HB2 : Hid (Below base w W2) := Lib.hid (((Below.refl base w).alloc hb _).grown hgrow2 (by simp; omega) (fun k e => OwnY.ge HO.out e)); have HC2 : Hid (Chg w W2 (fun k => v.ownBlock = some k)) := Lib.hid (((Chg.refl w _).alloc _).trans (Chg.of_grown hgrow2) (fun i _ h => h.symm)); have HO2 : Hid (OwnY W2 base v2 (l ++ [b1, b2, b3, b4])) := Lib.hid (OwnY.append rfl hown2); clear hown2 hgrow2)
  go_ret
  exact ⟨_, rfl, by rw [HBE.out]; exact HO2.out, HB2.out, HC2.out⟩

theorem conv_bytes (w : World) (s : ByteArray) (hm : s.size ≤ maxLen) : ∃ c w', (convert 9 26 (.string s)).run Tryz.prog w = .ok (.slice (some ⟨w.heap.size, 0, none⟩) s.size c) w' ∧ OwnY w' w.heap.size (.slice (some ⟨w.heap.size, 0, none⟩) s.size c) s.data.toList ∧ Below w.heap.size w w' := by
  have hb := bytes_own w w.heap.size 5 s (Nat.le_refl _) hm
  exact ⟨_, _, Lib.run_convert_string_bytes (P := Tryz.prog) w 9 26 5 s Tryz.underlying9 Tryz.underlying26 Tryz.underlying5, hb.1, hb.2⟩

def bodyS (tag : List UInt8) (c : CkD) : List UInt8 := if ckB c then tag ++ be4 c.num ++ c.root else []
theorem under_ckp : Tryz.prog.underlying 36 = some (.struct (Tryz.prog.fieldsOf 36)) := by kernel_rfl

set_option maxRecDepth 100000 in
set_option maxHeartbeats 1000000 in
theorem rbody_any (t : ByteArray) (v : Value) (c : CkD) (ht : t.size ≤ 1000) (hl : c.root.length ≤ 1000000000) (w : World) (hv : CkV w v c) :
    Calls Tryz.prog 51 #[.string t, v] w fun e w' => ∃ v', e = .returned v' ∧ Bys w' v' (bodyS t.data.toList c) ∧ Below w.heap.size w w' := by
  obtain ⟨i0, hi0, hz0, hz1, hz2⟩ := info_parts info_u8
  obtain ⟨p, rfl, h1⟩ := hv
  obtain ⟨P, cp, rfl⟩ := h1.form
  have HX := Lib.hid h1
  have HBS : Hid (bodyS t.data.toList c = if ckB c then t.data.toList ++ be4 c.num ++ c.root else []) := Lib.hid rfl
  have HCK : Hid (ckB c = true → 0 ≤ c.num ∧ c.num ≤ 256) := Lib.hid (by intro h; simp [ckB] at h; exact ⟨h.1.1, h.1.2⟩)
  generalize bodyS t.data.toList c = BS at *
  have hts : t.data.toList.length = t.size := rfl
  clear h1
  go_enter Tryz.func51, Tryz.ntmps51
  have hk0 := Blk.new w 36 [.int .i64 c.num, .slice P c.root.length cp]
  have hb0 : Below w.heap.size w (w.alloc (.cells #[.int .i64 c.num, .slice P c.root.length cp] 36)) := (Below.refl w.heap.size w).alloc (Nat.le_refl _) _
  have HW := Lib.hid (And.intro hk0 hb0)
  clear hk0 hb0
  by_cases hck : ckB c = true
  · rw [hck] at HBS
    obtain ⟨n0, n1⟩ := HCK.out hck
    go_wp2_with (go_at_call 61; refine (rckright_any _ c hl _ ⟨_, rfl, HX.out.below HW.out.2⟩).mono ?_; rintro e w1 ⟨rfl, h1⟩; rw [hck]; have HW1 := Lib.hid (And.intro (HW.out.1.below h1) (HW.out.2.trans (h1.mono (by simp)))); clear h1)
    have s0 := HW1.out.1.cell 0 _ rfl
    have s1 := HW1.out.1.cell 1 _ rfl
    have f0 := HW1.out.1.free 0
    have f1 := HW1.out.1.free 1
    have hw1 := HW1.out.2.size
    have hwlt := HW1.out.1.lt
    have ew : IntKind.u32.wrap c.num = c.num := by
      rw [show IntKind.u32.wrap c.num = c.num % 4294967296 by simp [IntKind.wrap, IntKind.bits, IntKind.signed]]; omega
    have HBS2 : Hid (BS = (t.data.toList ++ be4 c.num) ++ c.root) := Lib.hid (by rw [HBS, if_pos trivial])
    clear HBS
    obtain ⟨D, hD⟩ : ∃ D, t.data.toList ++ be4 c.num = D := ⟨_, rfl⟩
    have hDl : D.length ≤ 2000 := by rw [← hD, List.length_append, be4_length, hts]; omega
    have HD := Lib.hid hD
    rw [hD] at HBS2
    clear hD
    obtain ⟨c9, w2, hcv, h2, h3⟩ := conv_bytes w1.drew t (by unfold maxLen; omega)
    have hb2 : Below w1.heap.size w1 w2 := ⟨h3.os, h3.tape, h3.output, h3.size, h3.block⟩
    have t0 := (hb2.cell (p := ⟨w.heap.size, 0, none⟩) hwlt).trans s0
    have t1 := (hb2.cell (p := ⟨w.heap.size, 1, none⟩) hwlt).trans s1
    have H2 := Lib.hid (And.intro (show OwnY w2 w1.heap.size (.slice (some ⟨w1.heap.size, 0, none⟩) t.size c9) t.data.toList from h2) hb2)
    have hcv2 : (convert 9 26 (.string t)).run Tryz.prog w1.drew = .ok (.slice (some ⟨w1.heap.size, 0, none⟩) t.size c9) w2 := hcv
    clear h2 h3 hb2 hcv
    go_wp2
    refine wp_region_held_drew (S := fun w' => w'.cell? ⟨w.heap.size, 0, none⟩ = some (.int .i64 c.num) ∧ w'.cell? ⟨w.heap.size, 1, none⟩ = some (.slice P c.root.length cp)) (by kernel_rfl) ?_ (fun hHeld => ?_)
    · exact ⟨s0, s1⟩
    refine take_yes 0 8 rfl rfl (by kernel_rfl) (by kernel_rfl) (by kernel_rfl) (fun _ _ _ h => h) (by assumption) (by rfl) (v := ?_) ?_ ?_
    rotate_left 1
    · (intro w hSw; (try dsimp only at hSw); go_simp; try with_reducible rfl)
    simp only [List.setIfInBounds_toArray, List.set_cons_zero, List.set_cons_succ]
    refine take_yes 2 10 rfl rfl (by kernel_rfl) (by kernel_rfl) (by kernel_rfl) (fun _ _ _ h => h) (by assumption) (by rfl) (v := ?_) ?_ ?_
    rotate_left 1
    · (intro w hSw; (try dsimp only at hSw); go_simp; try with_reducible rfl)
    simp only [List.setIfInBounds_toArray, List.set_cons_zero, List.set_cons_succ]
    refine take_yes 3 11 rfl rfl (by kernel_rfl) (by kernel_rfl) (by kernel_rfl) (fun _ _ _ h => h) (by assumption) (by rfl) (v := ?_) ?_ ?_
    rotate_left 1
    · (intro w hSw; (try dsimp only at hSw); go_simp; try with_reducible rfl)
    simp only [List.setIfInBounds_toArray, List.set_cons_zero, List.set_cons_succ]
    refine take_yes 4 12 rfl rfl (by kernel_rfl) (by kernel_rfl) (by kernel_rfl) (fun _ _ _ h => h) (by assumption) (by rfl) (v := ?_) ?_ ?_
    rotate_left 1
    · (intro w hSw; (try dsimp only at hSw); go_simp; try with_reducible rfl)
    simp only [List.setIfInBounds_toArray, List.set_cons_zero, List.set_cons_succ]
    refine take_yes 6 14 rfl rfl (by kernel_rfl) (by kernel_rfl) (by kernel_rfl) (fun _ _ _ h => h) (by assumption) (by rfl) (v := ?_) ?_ ?_
    rotate_left 1
    · (intro w hSw; (try dsimp only at hSw); go_simp; try with_reducible rfl)
    simp only [List.setIfInBounds_toArray, List.set_cons_zero, List.set_cons_succ]
    refine take_yes 7 15 rfl rfl (by kernel_rfl) (by kernel_rfl) (by kernel_rfl) (fun _ _ _ h => h) (by assumption) (by rfl) (v := ?_) ?_ ?_
    rotate_left 1
    · (intro w hSw; (try dsimp only at hSw); go_simp; try with_reducible rfl)
    simp only [List.setIfInBounds_toArray, List.set_cons_zero, List.set_cons_succ]
    refine wpAnyH_ready (rs := [1]) (by kernel_rfl) (by simp) ?_
    refine AllReadyH.cons rfl (fun K hK => ?_) AllReadyH.nil
    -- 1:  dst := some 9, op := Op.convert 9 30 (Operand.tmp 8), type := 30
    go_simp
    refine hK.out _ _ ⟨t0, t1⟩ (fun hHeld1 => ?_)
    clear hK K
    try simp only [Act.put, List.setIfInBounds_toArray, List.set_cons_zero, List.set_cons_succ]
    refine wpAnyH_ready (rs := [5]) (by kernel_rfl) (by simp) ?_
    refine AllReadyH.cons rfl (fun K hK => ?_) AllReadyH.nil
    -- 5:  dst := some 13, op := Op.call  callee := Callee.value (Operand.func 69), args := #[Operand.tmp 9, Operand.tmp 12], argTypes := 
    go_simp
    go_at_call 76
    refine (rnumy_any w1.heap.size _ t.data.toList c.num (by omega) w2 H2.out.2.size H2.out.1).mono ?_
    rintro e w5 ⟨v5, rfl, h5, h6, -⟩
    rw [HD.out] at h5
    obtain ⟨A5, c5, rfl⟩ := h5.form
    have hb5 := H2.out.2.trans h6
    have u0 := (hb5.cell (p := ⟨w.heap.size, 0, none⟩) hwlt).trans s0
    have u1 := (hb5.cell (p := ⟨w.heap.size, 1, none⟩) hwlt).trans s1
    have H5 := Lib.hid (And.intro h5 (And.intro hb5 (HX.out.below (HW1.out.2.trans (hb5.mono hw1)))))
    clear h5 h6 hb5
    go_wp2_with fail
    refine hK.out _ _ ⟨u0, u1⟩ (fun hHeld5 => ?_)
    clear hK K
    try simp only [Act.put, List.setIfInBounds_toArray, List.set_cons_zero, List.set_cons_succ]
    refine wpAnyH_ready (rs := [8]) (by kernel_rfl) (by simp) ?_
    refine AllReadyH.cons rfl (fun K hK => ?_) AllReadyH.nil
    -- 8:  dst := some 16, op := Op.call  callee := Callee.builtin Builtin.append, args := #[Operand.tmp 13, Operand.tmp 15], argTypes := 
    skip
    refine step_append_g rfl (.tmp 13) (.tmp 15) 26 rfl w1.heap.size 5 i0 (.int .u8 0) 1 1 Tryz.underlying26 hi0 hz0 hz1 hz2 rfl (by decide) _ D.length (bys D) rfl H5.out.1 _ c.root.length (bys c.root) rfl H5.out.2.2.news (by unfold maxLen; omega) (by omega) H5.out.2.1.size ?_
    intro v7 w7 h7 g7
    have HB7 := Lib.hid (H5.out.2.1.grown g7 (by have := H5.out.2.1.size; omega) (fun k e => OwnY.ge H5.out.1 e))
    have hy7 : OwnY w7 w1.heap.size v7 (D ++ c.root) := OwnY.append rfl h7
    obtain ⟨A7, c7, rfl⟩ := (OwnG.sho h7).form
    have HY7 := Lib.hid hy7
    have x0 := (HB7.out.cell (p := ⟨w.heap.size, 0, none⟩) hwlt).trans s0
    have x1 := (HB7.out.cell (p := ⟨w.heap.size, 1, none⟩) hwlt).trans s1
    clear h7 g7 hy7
    refine hK.out _ _ ⟨x0, x1⟩ (fun hHeld8 => ?_)
    clear hK K
    simp only [Act.put, List.getElem_toArray, List.getElem_cons_succ, List.getElem_cons_zero, List.setIfInBounds_toArray, List.set_cons_zero, List.set_cons_succ]
    refine take_yes 9 4 rfl rfl (by kernel_rfl) (by kernel_rfl) (by kernel_rfl) (fun _ _ _ h => h) (by assumption) (by rfl) (v := ?_) ?_ ?_
    rotate_left 1
    · (intro w hSw; (try dsimp only at hSw); go_simp; try with_reducible rfl)
    try simp only [List.setIfInBounds_toArray, List.set_cons_zero, List.set_cons_succ]
    refine wpAnyH_done (by kernel_rfl) ?_ _
    go_wp2
    go_ret
    exact ⟨_, rfl, by rw [HBS2.out]; exact HY7.out.bys, HW1.out.2.trans (HB7.out.mono hw1)⟩
  · have hck' : ckB c = false := by simpa using hck
    rw [hck'] at HBS
    have HF : Hid (BS = []) := Lib.hid HBS.out
    go_wp2_with (go_at_call 61; refine (rckright_any _ c hl _ ⟨_, rfl, HX.out.below HW.out.2⟩).mono ?_; rintro e w1 ⟨rfl, h1⟩; rw [hck']; have HW1 := Lib.hid (And.intro (HW.out.1.below h1) (HW.out.2.trans (h1.mono (by simp)))); clear h1)
    go_wp2
    go_ret
    exact ⟨_, rfl, by rw [HF.out]; exact Sho.nil _ _, HW1.out.2⟩

set_option maxRecDepth 100000 in
theorem rckbody_any (v : Value) (c : CkD) (hl : c.root.length ≤ 1000000000) (w : World) (hv : CkV w v c) :
    Calls Tryz.prog 26 #[v] w fun e w' => ∃ v', e = .returned v' ∧ Bys w' v' (bodyS [98, 114, 111, 97, 100, 115, 104, 101, 101, 116, 32, 99, 104, 101, 99, 107] c) ∧ Below w.heap.size w w' := by
  obtain ⟨p, rfl, h1⟩ := hv
  obtain ⟨P, cp, rfl⟩ := h1.form
  have HX := Lib.hid h1
  clear h1
  have hb0 : Below w.heap.size w (w.alloc (.cells #[.int .i64 c.num, .slice P c.root.length cp] 36)) := (Below.refl w.heap.size w).alloc (Nat.le_refl _) _
  have HW := Lib.hid hb0
  clear hb0
  go_enter Tryz.func26, Tryz.ntmps26
  go_wp2_with (go_at_call 51; refine (rbody_any _ _ c (by decide) hl _ ⟨_, rfl, HX.out.below HW.out⟩).mono ?_; rintro e w1 ⟨v1, rfl, h1, h2⟩; obtain ⟨A1, c1, rfl⟩ := h1.form; have H1 := Lib.hid (And.intro h1 (HW.out.trans (h2.mono (by simp)))); clear h1 h2)
  go_ret
  exact ⟨_, rfl, H1.out.1, H1.out.2⟩
set_option maxRecDepth 100000 in
theorem rckcosign_any (v : Value) (c : CkD) (hl : c.root.length ≤ 1000000000) (w : World) (hv : CkV w v c) :
    Calls Tryz.prog 32 #[v] w fun e w' => ∃ v', e = .returned v' ∧ Bys w' v' (bodyS [98, 114, 111, 97, 100, 115, 104, 101, 101, 116, 32, 99, 111, 115, 105, 103, 110] c) ∧ Below w.heap.size w w' := by
  obtain ⟨p, rfl, h1⟩ := hv
  obtain ⟨P, cp, rfl⟩ := h1.form
  have HX := Lib.hid h1
  clear h1
  have hb0 : Below w.heap.size w (w.alloc (.cells #[.int .i64 c.num, .slice P c.root.length cp] 36)) := (Below.refl w.heap.size w).alloc (Nat.le_refl _) _
  have HW := Lib.hid hb0
  clear hb0
  go_enter Tryz.func32, Tryz.ntmps32
  go_wp2_with (go_at_call 51; refine (rbody_any _ _ c (by decide) hl _ ⟨_, rfl, HX.out.below HW.out⟩).mono ?_; rintro e w1 ⟨v1, rfl, h1, h2⟩; obtain ⟨A1, c1, rfl⟩ := h1.form; have H1 := Lib.hid (And.intro h1 (HW.out.trans (h2.mono (by simp)))); clear h1 h2)
  go_ret
  exact ⟨_, rfl, H1.out.1, H1.out.2⟩
end Go.Proofs.YtlkgeifmppadmaaGreat
namespace Go.Proofs.YtlkgeifmppadmaaGreat
open Go.RowKit
set_option linter.unusedVariables false
set_option linter.unusedSimpArgs false

structure SgD where
  ck : CkD
  sig : SigD
def SgV (w : World) (v : Value) (s : SgD) : Prop := ∃ r p q, v = .agg #[.int .i64 s.ck.num, r, .int .i64 s.sig.index, p, q] ∧ Bys w r s.ck.root ∧ Rws w p s.sig.parts ∧ Rws w q s.sig.path
theorem SgV.below {w w1 : World} {v : Value} {s : SgD} (h : SgV w v s) (hb : Below w.heap.size w w1) : SgV w1 v s := by
  obtain ⟨r, p, q, e, h1, h2, h3⟩ := h
  exact ⟨r, p, q, e, h1.below hb, h2.below hb, h3.below hb⟩
def tagCk : List UInt8 := [98, 114, 111, 97, 100, 115, 104, 101, 101, 116, 32, 99, 104, 101, 99, 107]
def tagCo : List UInt8 := [98, 114, 111, 97, 100, 115, 104, 101, 101, 116, 32, 99, 111, 115, 105, 103, 110]
def ckVerB (pub : List UInt8) (s : SgD) : Bool := ckB s.ck && verifyB pub (bodyS tagCk s.ck) s.sig
/-- Bounds of what is signed. -/
def SmallSig (s : SigD) : Prop := s.parts.length ≤ 1000000000 ∧ s.path.length ≤ 1000000000 ∧ (∀ i (h : i < s.parts.length), s.parts[i].length ≤ 1000000000) ∧ (∀ i (h : i < s.path.length), s.path[i].length ≤ 1000000000)
theorem bodyS_length (t : List UInt8) (c : CkD) : (bodyS t c).length ≤ t.length + 4 + c.root.length := by
  unfold bodyS
  split
  · simp only [List.length_append, be4_length]; omega
  · exact Nat.zero_le _

set_option maxRecDepth 100000 in
set_option maxHeartbeats 2000000 in
theorem rckverify_any (vp v : Value) (pub : List UInt8) (s : SgD) (hpub : pub.length ≤ 1000000000) (hr : s.ck.root.length ≤ 100000000) (hs : SmallSig s.sig) (w : World) (hvp : Bys w vp pub) (hv : SgV w v s) :
    Calls Tryz.prog 64 #[vp, v] w fun e w' => e = .returned (.bool (ckVerB pub s)) ∧ Below w.heap.size w w' := by
  obtain ⟨r, p, q, rfl, h1, h2, h3⟩ := hv
  obtain ⟨R, cr, rfl⟩ := h1.form
  obtain ⟨P, cp, rfl⟩ := h2.form
  obtain ⟨Q, cq, rfl⟩ := h3.form
  obtain ⟨U, cu, rfl⟩ := hvp.form
  have HX := Lib.hid (And.intro h1 (And.intro h2 (And.intro h3 hvp)))
  have HCV : Hid (ckVerB pub s = (ckB s.ck && verifyB pub (bodyS tagCk s.ck) s.sig)) := Lib.hid rfl
  have hbl := bodyS_length tagCk s.ck
  have HBL : Hid ((bodyS tagCk s.ck).length ≤ 1000000000) := Lib.hid (by have : tagCk.length = 16 := rfl; omega)
  clear h1 h2 h3 hvp hbl
  generalize ckVerB pub s = CV at *
  obtain ⟨⟨num, root⟩, sg⟩ := s
  obtain ⟨hs1, hs2, hs3, hs4⟩ := hs
  have HS := Lib.hid (And.intro hs1 (And.intro hs2 (And.intro hs3 hs4)))
  clear hs1 hs2 hs3 hs4
  have hrl : root.length ≤ 1000000000 := by have : root.length ≤ 100000000 := hr; omega
  have HBD := Lib.hid (fun (wz : World) (v : Value) (hz : CkV wz v ⟨num, root⟩) => rckbody_any v ⟨num, root⟩ hrl wz hz)
  have HRT := Lib.hid (fun (wz : World) (v : Value) (hz : CkV wz v ⟨num, root⟩) => rckright_any v ⟨num, root⟩ hrl wz hz)
  have HVF := Lib.hid (fun (wz : World) (vp vm v : Value) (z1 : Bys wz vp pub) (z2 : Bys wz vm (bodyS tagCk ⟨num, root⟩)) (z3 : SigV wz v sg) => rverify_any vp vm v pub (bodyS tagCk ⟨num, root⟩) sg hpub HBL.out HS.out.1 HS.out.2.1 HS.out.2.2.1 HS.out.2.2.2 wz z1 z2 z3)
  obtain ⟨ix, Ps, Qs⟩ := sg
  go_enter Tryz.func64, Tryz.ntmps64
  have hk0 := Blk.new w 40 [.int .i64 num, .slice R root.length cr, .int .i64 ix, .slice P Ps.length cp, .slice Q Qs.length cq]
  have hb0 : Below w.heap.size w (w.alloc (.cells #[.int .i64 num, .slice R root.length cr, .int .i64 ix, .slice P Ps.length cp, .slice Q Qs.length cq] 40)) := (Below.refl w.heap.size w).alloc (Nat.le_refl _) _
  have HW := Lib.hid (And.intro hk0 hb0)
  clear hk0 hb0
  have HCB : Hid (ckB ⟨num, root⟩ = ckB ⟨num, root⟩) := Lib.hid rfl
  generalize hvb : verifyB pub (bodyS tagCk ⟨num, root⟩) ⟨ix, Ps, Qs⟩ = VB at *
  generalize hbo : bodyS tagCk ⟨num, root⟩ = BO at *
  change Hid (∀ (wz : World) (v : Value), CkV wz v ⟨num, root⟩ → Calls Tryz.prog 26 #[v] wz fun e w' => ∃ v', e = .returned v' ∧ Bys w' v' (bodyS tagCk ⟨num, root⟩) ∧ Below wz.heap.size wz w') at HBD
  rw [hbo] at HBD
  clear hvb hbo HCB
  by_cases hck : ckB ⟨num, root⟩ = true
  · rw [hck] at HCV HRT
    go_wp2
    refine code_at (fun w1 => Blk w1 w.heap.size 40 [.int .i64 num, .slice R root.length cr, .int .i64 ix, .slice P Ps.length cp, .slice Q Qs.length cq] ∧ Below w.heap.size w w1) HW.out ?_
    intro w1 hw1
    have HW1 := Lib.hid hw1
    clear hw1 HW
    have hwlt := HW1.out.1.lt
    have hw1 := HW1.out.2.size
    have c0 := HW1.out.1.cell 0 _ rfl
    have c1 := HW1.out.1.cell 1 _ rfl
    have c2 := HW1.out.1.cell 2 _ rfl
    have c3 := HW1.out.1.cell 3 _ rfl
    have c4 := HW1.out.1.cell 4 _ rfl
    go_region_held3 (fun w' => w'.cell? ⟨w.heap.size, 0, none⟩ = some (.int .i64 num) ∧ w'.cell? ⟨w.heap.size, 1, none⟩ = some (.slice R root.length cr) ∧ w'.cell? ⟨w.heap.size, 2, none⟩ = some (.int .i64 ix) ∧ w'.cell? ⟨w.heap.size, 3, none⟩ = some (.slice P Ps.length cp) ∧ w'.cell? ⟨w.heap.size, 4, none⟩ = some (.slice Q Qs.length cq))
      (first
        | go_keep
        | exact ⟨c0, c1, c2, c3, c4⟩
        | exact ⟨d0, d1, d2, d3, d4⟩
        | exact ⟨e0, e1, e2, e3, e4⟩
        | exact ⟨g0, g1, g2, g3, g4⟩)
      (first
        | (go_simp; go_at_call 61; refine (HRT.out w1.drew _ ⟨_, rfl, HX.out.1.below HW1.out.2.drew⟩).mono ?_; rintro e w2 ⟨rfl, h2⟩; have hb2 : Below w1.heap.size w1 w2 := ⟨h2.os, h2.tape, h2.output, h2.size, h2.block⟩; have d0 := (hb2.cell (p := ⟨w.heap.size, 0, none⟩) hwlt).trans c0; have d1 := (hb2.cell (p := ⟨w.heap.size, 1, none⟩) hwlt).trans c1; have d2 := (hb2.cell (p := ⟨w.heap.size, 2, none⟩) hwlt).trans c2; have d3 := (hb2.cell (p := ⟨w.heap.size, 3, none⟩) hwlt).trans c3; have d4 := (hb2.cell (p := ⟨w.heap.size, 4, none⟩) hwlt).trans c4; have H2 := Lib.hid hb2; clear h2 hb2)
        | (go_simp; go_at_call 26; refine (HBD.out w2 _ ⟨_, rfl, HX.out.1.below (HW1.out.2.trans (H2.out.mono hw1))⟩).mono ?_; rintro e w3 ⟨v3, rfl, h3, h4⟩; obtain ⟨A3, k3, rfl⟩ := h3.form; have hb3 := H2.out.trans (h4.mono H2.out.size); have e0 := (hb3.cell (p := ⟨w.heap.size, 0, none⟩) hwlt).trans c0; have e1 := (hb3.cell (p := ⟨w.heap.size, 1, none⟩) hwlt).trans c1; have e2 := (hb3.cell (p := ⟨w.heap.size, 2, none⟩) hwlt).trans c2; have e3 := (hb3.cell (p := ⟨w.heap.size, 3, none⟩) hwlt).trans c3; have e4 := (hb3.cell (p := ⟨w.heap.size, 4, none⟩) hwlt).trans c4; have H3 := Lib.hid (And.intro h3 hb3); clear h3 h4 hb3)
        | (go_simp; go_at_call 62; refine (HVF.out w3 _ _ _ (HX.out.2.2.2.below (HW1.out.2.trans (H3.out.2.mono hw1))) H3.out.1 ⟨_, _, rfl, HX.out.2.1.below (HW1.out.2.trans (H3.out.2.mono hw1)), HX.out.2.2.1.below (HW1.out.2.trans (H3.out.2.mono hw1))⟩).mono ?_; rintro e w4 ⟨rfl, h4⟩; have hb4 := H3.out.2.trans (h4.mono H3.out.2.size); have g0 := (hb4.cell (p := ⟨w.heap.size, 0, none⟩) hwlt).trans c0; have g1 := (hb4.cell (p := ⟨w.heap.size, 1, none⟩) hwlt).trans c1; have g2 := (hb4.cell (p := ⟨w.heap.size, 2, none⟩) hwlt).trans c2; have g3 := (hb4.cell (p := ⟨w.heap.size, 3, none⟩) hwlt).trans c3; have g4 := (hb4.cell (p := ⟨w.heap.size, 4, none⟩) hwlt).trans c4; have H4 := Lib.hid hb4; clear h4 hb4))
    go_wp2
    go_ret
    exact ⟨by rw [HCV.out]; rfl, HW1.out.2.trans (H4.out.mono hw1)⟩
  · have hck' : ckB ⟨num, root⟩ = false := by simpa using hck
    rw [hck'] at HCV HRT
    go_wp2
    refine code_at (fun w1 => Blk w1 w.heap.size 40 [.int .i64 num, .slice R root.length cr, .int .i64 ix, .slice P Ps.length cp, .slice Q Qs.length cq] ∧ Below w.heap.size w w1) HW.out ?_
    intro w1 hw1
    have HW1 := Lib.hid hw1
    clear hw1 HW
    have hwlt := HW1.out.1.lt
    have hw1 := HW1.out.2.size
    have c0 := HW1.out.1.cell 0 _ rfl
    have c1 := HW1.out.1.cell 1 _ rfl
    refine wp_region_held_drew (S := (fun w' => w'.cell? ⟨w.heap.size, 0, none⟩ = some (.int .i64 num) ∧ w'.cell? ⟨w.heap.size, 1, none⟩ = some (.slice R root.length cr))) (by kernel_rfl) ?_ (fun hHeld => ?_)
    · exact ⟨c0, c1⟩
    refine take_yes 0 5 rfl rfl (by kernel_rfl) (by kernel_rfl) (by kernel_rfl) (fun _ _ _ h => h) (by assumption) (by rfl) (v := ?_) ?_ ?_
    rotate_left 1
    · (intro w hSw; (try dsimp only at hSw); go_simp; try with_reducible rfl)
    simp only [List.setIfInBounds_toArray, List.set_cons_zero, List.set_cons_succ]
    refine take_yes 1 6 rfl rfl (by kernel_rfl) (by kernel_rfl) (by kernel_rfl) (fun _ _ _ h => h) (by assumption) (by rfl) (v := ?_) ?_ ?_
    rotate_left 1
    · (intro w hSw; (try dsimp only at hSw); go_simp; try with_reducible rfl)
    simp only [List.setIfInBounds_toArray, List.set_cons_zero, List.set_cons_succ]
    refine wpAnyH_ready (rs := [2]) (by kernel_rfl) (by simp) ?_
    refine AllReadyH.cons rfl (fun K hK => ?_) AllReadyH.nil
    (go_simp; go_at_call 61; refine (HRT.out w1.drew _ ⟨_, rfl, HX.out.1.below HW1.out.2.drew⟩).mono ?_; rintro e w2 ⟨rfl, h2⟩; have hb2 : Below w1.heap.size w1 w2 := ⟨h2.os, h2.tape, h2.output, h2.size, h2.block⟩; have d0 := (hb2.cell (p := ⟨w.heap.size, 0, none⟩) hwlt).trans c0; have d1 := (hb2.cell (p := ⟨w.heap.size, 1, none⟩) hwlt).trans c1; have H2 := Lib.hid hb2; clear h2 hb2)
    go_wp2_with fail
    refine hK.out _ _ ⟨d0, d1⟩ (fun hHeld2 => ?_)
    clear hK K
    try simp only [Act.put, List.setIfInBounds_toArray, List.set_cons_zero, List.set_cons_succ]
    refine take_yes 3 8 rfl rfl (by kernel_rfl) (by kernel_rfl) (by kernel_rfl) (fun _ _ _ h => h) (by assumption) (by rfl) (v := ?_) ?_ ?_
    rotate_left 1
    · (intro w hSw; (try dsimp only at hSw); go_simp; try with_reducible rfl)
    simp only [List.setIfInBounds_toArray, List.set_cons_zero, List.set_cons_succ]
    refine take_no 4 9 rfl rfl (by kernel_rfl) (by kernel_rfl) (by kernel_rfl) (fun _ _ _ h => h) (by assumption) (by rfl) ?_
    simp only [List.setIfInBounds_toArray, List.set_cons_zero, List.set_cons_succ]
    refine take_no 5 10 rfl rfl (by kernel_rfl) (by kernel_rfl) (by kernel_rfl) (fun _ _ _ h => h) (by assumption) (by rfl) ?_
    simp only [List.setIfInBounds_toArray, List.set_cons_zero, List.set_cons_succ]
    refine take_no 6 11 rfl rfl (by kernel_rfl) (by kernel_rfl) (by kernel_rfl) (fun _ _ _ h => h) (by assumption) (by rfl) ?_
    simp only [List.setIfInBounds_toArray, List.set_cons_zero, List.set_cons_succ]
    refine take_no 7 12 rfl rfl (by kernel_rfl) (by kernel_rfl) (by kernel_rfl) (fun _ _ _ h => h) (by assumption) (by rfl) ?_
    simp only [List.setIfInBounds_toArray, List.set_cons_zero, List.set_cons_succ]
    refine take_no 8 13 rfl rfl (by kernel_rfl) (by kernel_rfl) (by kernel_rfl) (fun _ _ _ h => h) (by assumption) (by rfl) ?_
    simp only [List.setIfInBounds_toArray, List.set_cons_zero, List.set_cons_succ]
    refine take_no 9 14 rfl rfl (by kernel_rfl) (by kernel_rfl) (by kernel_rfl) (fun _ _ _ h => h) (by assumption) (by rfl) ?_
    simp only [List.setIfInBounds_toArray, List.set_cons_zero, List.set_cons_succ]
    refine take_no 10 15 rfl rfl (by kernel_rfl) (by kernel_rfl) (by kernel_rfl) (fun _ _ _ h => h) (by assumption) (by rfl) ?_
    simp only [List.setIfInBounds_toArray, List.set_cons_zero, List.set_cons_succ]
    refine take_yes 11 16 rfl rfl (by kernel_rfl) (by kernel_rfl) (by kernel_rfl) (fun _ _ _ h => h) (by assumption) (by rfl) (v := ?_) ?_ ?_
    rotate_left 1
    · (intro w hSw; (try dsimp only at hSw); go_simp; try with_reducible rfl)
    simp only [List.setIfInBounds_toArray, List.set_cons_zero, List.set_cons_succ]
    refine take_yes 12 4 rfl rfl (by kernel_rfl) (by kernel_rfl) (by kernel_rfl) (fun _ _ _ h => h) (by assumption) (by rfl) (v := ?_) ?_ ?_
    rotate_left 1
    · (intro w hSw; (try dsimp only at hSw); go_simp; try with_reducible rfl)
    simp only [List.setIfInBounds_toArray, List.set_cons_zero, List.set_cons_succ]
    refine wpAnyH_done (by kernel_rfl) ?_ _
    all_goals
      go_wp2
      go_ret
      exact ⟨by rw [HCV.out]; rfl, HW1.out.2.trans (H2.out.mono hw1)⟩
end Go.Proofs.YtlkgeifmppadmaaGreat
namespace Go.Proofs.YtlkgeifmppadmaaGreat
open Go.RowKit
set_option linter.unusedVariables false
set_option linter.unusedSimpArgs false

set_option maxRecDepth 100000 in
theorem pckright_any (v : Value) (c : CkD) (hl : c.root.length ≤ 1000000000) (w : World) (hv : CkV w v c) :
    Calls Tryz.prog 52 #[v] w fun e w' => e = .returned (.bool (ckB c)) ∧ Below w.heap.size w w' := by
  obtain ⟨p, rfl, h1⟩ := hv
  obtain ⟨P, cp, rfl⟩ := h1.form
  have HB0 := Lib.hid ((Below.refl w.heap.size w).alloc (Nat.le_refl _) (.cells #[.int .i64 c.num, .slice P c.root.length cp] 36))
  have HRB : Hid (ckB c = (decide (0 ≤ c.num) && decide (c.num ≤ 256) && decide (c.root.length = 32))) := Lib.hid rfl
  clear h1
  generalize ckB c = RB at *
  generalize c.num = ix at *
  generalize c.root = R at *
  go_enter Tryz.func52, Tryz.ntmps52
  by_cases k1 : 0 ≤ ix
  · by_cases k2 : ix ≤ 256
    · have HF : Hid (RB = decide (R.length = 32)) := Lib.hid (by rw [HRB.out]; simp [k1, k2])
      by_cases k3 : R.length = 32
      · have n3 : (((R.length : Nat) : Int) == 32) = true := by simp [k3]
        have HT : Hid (RB = true) := Lib.hid (by rw [HF.out]; simp [k3])
        clear k3
        go_wp2
        go_ret
        exact ⟨by rw [HT.out]; rfl, HB0.out⟩
      · have n3 : (((R.length : Nat) : Int) == 32) = false := by simp; omega
        have HT : Hid (RB = false) := Lib.hid (by rw [HF.out]; simp [k3])
        clear k3
        go_wp2
        go_ret
        exact ⟨by rw [HT.out]; rfl, HB0.out⟩
    · have HT : Hid (RB = false) := Lib.hid (by rw [HRB.out]; simp [k2])
      go_wp2
      go_ret
      exact ⟨by rw [HT.out]; rfl, HB0.out⟩
  · have HT : Hid (RB = false) := Lib.hid (by rw [HRB.out]; simp [k1])
    go_wp2
    go_ret
    exact ⟨by rw [HT.out]; rfl, HB0.out⟩
/-- A new block of bytes, a mark behind it. -/
theorem bys_newz (w : World) (t : TypeId) (l : List UInt8) (fz : Nat × Nat) (n : Nat) (hn : l.length = n) (hm : n ≤ 1000000) : Bys (w.alloc (.cells (bys l).toArray t fz)) (.slice (some ⟨w.heap.size, 0, none⟩) n n) l := by
  subst hn
  refine ⟨by rw [bys_length]; omega, .inr ⟨_, 0, l.length, rfl, Nat.le_refl _, by unfold maxLen; omega, by simp, fun j u hj => ?_⟩⟩
  have hb : (w.alloc (.cells (bys l).toArray t fz)).heap[w.heap.size]? = some (.cells (bys l).toArray t fz) := blk_new w _
  rw [Nat.zero_add]
  generalize w.alloc (.cells (bys l).toArray t fz) = W at *
  generalize w.heap.size = g at *
  simp [World.cell?, hb, hj]
theorem RetB.small {w : World} {l : List UInt8} {e : Ending} {w' : World} (h : RetB w l e w') : ∃ v', e = .returned v' ∧ Bys w' v' l ∧ Below w.heap.size w w' := by
  obtain ⟨v', e, h1, h2⟩ := h
  exact ⟨v', e, h1.bys, h2⟩

set_option maxRecDepth 100000 in
set_option maxHeartbeats 1000000 in
theorem pckbody_any (v : Value) (c : CkD) (hl : c.root.length ≤ 100000000) (w : World) (hv : CkV w v c) :
    Calls Tryz.prog 54 #[v] w fun e w' => ∃ v', e = .returned v' ∧ Bys w' v' (bodyS tagCk c) ∧ Below w.heap.size w w' := by
  obtain ⟨p, rfl, h1⟩ := hv
  obtain ⟨P, cp, rfl⟩ := h1.form
  have HX := Lib.hid h1
  have HBS : Hid (bodyS tagCk c = if ckB c then tagCk ++ be4 c.num ++ c.root else []) := Lib.hid rfl
  have HCK : Hid (ckB c = true → 0 ≤ c.num ∧ c.num ≤ 256) := Lib.hid (by intro h; simp [ckB] at h; exact ⟨h.1.1, h.1.2⟩)
  generalize bodyS tagCk c = BS at *
  clear h1
  go_enter Tryz.func54, Tryz.ntmps54
  have hk0 := Blk.new w 36 [.int .i64 c.num, .slice P c.root.length cp]
  have hb0 : Below w.heap.size w (w.alloc (.cells #[.int .i64 c.num, .slice P c.root.length cp] 36)) := (Below.refl w.heap.size w).alloc (Nat.le_refl _) _
  have HW := Lib.hid (And.intro hk0 hb0)
  clear hk0 hb0
  go_wp2_with fail
  refine (pckright_any _ c (by omega) _ ⟨_, rfl, HX.out.below HW.out.2⟩).mono ?_
  rintro e w1 ⟨rfl, h1⟩
  have HW1 := Lib.hid (And.intro (HW.out.1.below h1) (HW.out.2.trans (h1.mono (by simp))))
  clear h1
  by_cases hck : ckB c = true
  · rw [hck] at HBS
    obtain ⟨n0, n1⟩ := HCK.out hck
    rw [hck]
    have HBS2 : Hid (BS = (tagCk ++ be4 c.num) ++ c.root) := Lib.hid (by rw [HBS.out, if_pos rfl])
    clear HBS hck
    go_wp2_with fail
    refine (wnew_any w1).mono ?_
    rintro e w2 ⟨rfl, h2, h3⟩
    have H2 := Lib.hid (And.intro h2 h3)
    have hlt2 : w1.heap.size < w2.heap.size := by obtain ⟨v, h, _⟩ := h2; exact h.lt
    clear h2 h3
    have hal := (Below.refl w1.heap.size w2).alloc (Nat.le_of_lt hlt2) (.cells (bys tagCk).toArray 5 (16, 16 + 1))
    have hal2 := (Below.refl w2.heap.size w2).alloc (Nat.le_refl _) (.cells (bys tagCk).toArray 5 (16, 16 + 1))
    have HT2 := Lib.hid (And.intro (bys_newz w2 5 tagCk (16, 16 + 1) 16 rfl (by decide)) (And.intro (H2.out.1.below hal2) (H2.out.2.trans hal)))
    clear hal hal2
    have kc := fun (w : World) (C : Array Value) (n c : Nat) => Lib.run_convert_bytes_const (P := Tryz.prog) w 26 5 C n c Tryz.underlying26 Tryz.underlying5
    go_wp2_with fail
    refine (wraw_any w1.heap.size w1.heap.size [] tagCk _ (by decide) (by decide) _ (by simp; omega) HT2.out.2.1 HT2.out.1).mono ?_
    rintro e w3 ⟨rfl, h4, h5⟩
    have H3 := Lib.hid (And.intro (show WrX w3 w1.heap.size w1.heap.size tagCk from h4) (HT2.out.2.2.trans h5))
    have hsz3 := H3.out.2.size
    have q0 := (HW1.out.1.below (H3.out.2)).cell 0 _ rfl
    have ew : IntKind.u32.wrap c.num = c.num := by
      rw [show IntKind.u32.wrap c.num = c.num % 4294967296 by simp [IntKind.wrap, IntKind.bits, IntKind.signed]]; omega
    clear h4 h5
    go_wp2_with fail
    refine (wnum_any w1.heap.size w1.heap.size tagCk c.num n0 (by omega) (by decide) _ hsz3 H3.out.1).mono ?_
    rintro e w4 ⟨rfl, h4, h5⟩
    have H4 := Lib.hid (And.intro h4 (H3.out.2.trans h5))
    have hsz4 := H4.out.2.size
    have q1 := (HW1.out.1.below (H4.out.2)).cell 1 _ rfl
    clear h4 h5 q0 ew
    go_wp2_with fail
    refine (wraw_any w1.heap.size w1.heap.size (tagCk ++ be4 c.num) c.root _ (by rw [List.length_append, be4_length]; decide) (by omega) _ hsz4 H4.out.1 (HX.out.below (HW1.out.2.trans (H4.out.2.mono HW1.out.2.size)))).mono ?_
    rintro e w5 ⟨rfl, h4, h5⟩
    have H5 := Lib.hid (And.intro h4 (H4.out.2.trans h5))
    have hfl : ((tagCk ++ be4 c.num) ++ c.root).length ≤ 1000000000 := by rw [List.length_append, List.length_append, be4_length]; have : tagCk.length = 16 := rfl; omega
    clear h4 h5 q1
    generalize (tagCk ++ be4 c.num) ++ c.root = FULL at *
    go_wp2_with fail
    refine (wdone_any w1.heap.size w1.heap.size FULL hfl w5 H5.out.1).mono ?_
    rintro e w6 ⟨v6, rfl, h6, h7⟩
    have H6 := Lib.hid (And.intro h6.bys (H5.out.2.trans (h7.mono H5.out.2.size)))
    obtain ⟨A6, c6, rfl⟩ := h6.form
    clear h6 h7
    go_wp2
    go_ret
    exact ⟨_, rfl, by rw [HBS2.out]; exact H6.out.1, HW1.out.2.trans (H6.out.2.mono HW1.out.2.size)⟩
  · have hck' : ckB c = false := by simpa using hck
    rw [hck'] at HBS
    rw [hck']
    have HF : Hid (BS = []) := Lib.hid HBS.out
    clear HBS hck hck'
    go_wp2
    go_ret
    exact ⟨_, rfl, by rw [HF.out]; exact Sho.nil _ _, HW1.out.2⟩

set_option maxRecDepth 100000 in
set_option maxHeartbeats 1000000 in
theorem pckcosign_any (v : Value) (c : CkD) (hl : c.root.length ≤ 100000000) (w : World) (hv : CkV w v c) :
    Calls Tryz.prog 58 #[v] w fun e w' => ∃ v', e = .returned v' ∧ Bys w' v' (bodyS tagCo c) ∧ Below w.heap.size w w' := by
  obtain ⟨p, rfl, h1⟩ := hv
  obtain ⟨P, cp, rfl⟩ := h1.form
  have HX := Lib.hid h1
  have HBS : Hid (bodyS tagCo c = if ckB c then tagCo ++ be4 c.num ++ c.root else []) := Lib.hid rfl
  have HCK : Hid (ckB c = true → 0 ≤ c.num ∧ c.num ≤ 256) := Lib.hid (by intro h; simp [ckB] at h; exact ⟨h.1.1, h.1.2⟩)
  generalize bodyS tagCo c = BS at *
  clear h1
  go_enter Tryz.func58, Tryz.ntmps58
  have hk0 := Blk.new w 36 [.int .i64 c.num, .slice P c.root.length cp]
  have hb0 : Below w.heap.size w (w.alloc (.cells #[.int .i64 c.num, .slice P c.root.length cp] 36)) := (Below.refl w.heap.size w).alloc (Nat.le_refl _) _
  have HW := Lib.hid (And.intro hk0 hb0)
  clear hk0 hb0
  go_wp2_with fail
  refine (pckright_any _ c (by omega) _ ⟨_, rfl, HX.out.below HW.out.2⟩).mono ?_
  rintro e w1 ⟨rfl, h1⟩
  have HW1 := Lib.hid (And.intro (HW.out.1.below h1) (HW.out.2.trans (h1.mono (by simp))))
  clear h1
  by_cases hck : ckB c = true
  · rw [hck] at HBS
    obtain ⟨n0, n1⟩ := HCK.out hck
    rw [hck]
    have HBS2 : Hid (BS = (tagCo ++ be4 c.num) ++ c.root) := Lib.hid (by rw [HBS.out, if_pos rfl])
    clear HBS hck
    go_wp2_with fail
    refine (wnew_any w1).mono ?_
    rintro e w2 ⟨rfl, h2, h3⟩
    have H2 := Lib.hid (And.intro h2 h3)
    have hlt2 : w1.heap.size < w2.heap.size := by obtain ⟨v, h, _⟩ := h2; exact h.lt
    clear h2 h3
    have hal := (Below.refl w1.heap.size w2).alloc (Nat.le_of_lt hlt2) (.cells (bys tagCo).toArray 5 (17, 17 + 1))
    have hal2 := (Below.refl w2.heap.size w2).alloc (Nat.le_refl _) (.cells (bys tagCo).toArray 5 (17, 17 + 1))
    have HT2 := Lib.hid (And.intro (bys_newz w2 5 tagCo (17, 17 + 1) 17 rfl (by decide)) (And.intro (H2.out.1.below hal2) (H2.out.2.trans hal)))
    clear hal hal2
    have kc := fun (w : World) (C : Array Value) (n c : Nat) => Lib.run_convert_bytes_const (P := Tryz.prog) w 26 5 C n c Tryz.underlying26 Tryz.underlying5
    go_wp2_with fail
    refine (wraw_any w1.heap.size w1.heap.size [] tagCo _ (by decide) (by decide) _ (by simp; omega) HT2.out.2.1 HT2.out.1).mono ?_
    rintro e w3 ⟨rfl, h4, h5⟩
    have H3 := Lib.hid (And.intro (show WrX w3 w1.heap.size w1.heap.size tagCo from h4) (HT2.out.2.2.trans h5))
    have hsz3 := H3.out.2.size
    have q0 := (HW1.out.1.below (H3.out.2)).cell 0 _ rfl
    have ew : IntKind.u32.wrap c.num = c.num := by
      rw [show IntKind.u32.wrap c.num = c.num % 4294967296 by simp [IntKind.wrap, IntKind.bits, IntKind.signed]]; omega
    clear h4 h5
    go_wp2_with fail
    refine (wnum_any w1.heap.size w1.heap.size tagCo c.num n0 (by omega) (by decide) _ hsz3 H3.out.1).mono ?_
    rintro e w4 ⟨rfl, h4, h5⟩
    have H4 := Lib.hid (And.intro h4 (H3.out.2.trans h5))
    have hsz4 := H4.out.2.size
    have q1 := (HW1.out.1.below (H4.out.2)).cell 1 _ rfl
    clear h4 h5 q0 ew
    go_wp2_with fail
    refine (wraw_any w1.heap.size w1.heap.size (tagCo ++ be4 c.num) c.root _ (by rw [List.length_append, be4_length]; decide) (by omega) _ hsz4 H4.out.1 (HX.out.below (HW1.out.2.trans (H4.out.2.mono HW1.out.2.size)))).mono ?_
    rintro e w5 ⟨rfl, h4, h5⟩
    have H5 := Lib.hid (And.intro h4 (H4.out.2.trans h5))
    have hfl : ((tagCo ++ be4 c.num) ++ c.root).length ≤ 1000000000 := by rw [List.length_append, List.length_append, be4_length]; have : tagCo.length = 17 := rfl; omega
    clear h4 h5 q1
    generalize (tagCo ++ be4 c.num) ++ c.root = FULL at *
    go_wp2_with fail
    refine (wdone_any w1.heap.size w1.heap.size FULL hfl w5 H5.out.1).mono ?_
    rintro e w6 ⟨v6, rfl, h6, h7⟩
    have H6 := Lib.hid (And.intro h6.bys (H5.out.2.trans (h7.mono H5.out.2.size)))
    obtain ⟨A6, c6, rfl⟩ := h6.form
    clear h6 h7
    go_wp2
    go_ret
    exact ⟨_, rfl, by rw [HBS2.out]; exact H6.out.1, HW1.out.2.trans (H6.out.2.mono HW1.out.2.size)⟩
  · have hck' : ckB c = false := by simpa using hck
    rw [hck'] at HBS
    rw [hck']
    have HF : Hid (BS = []) := Lib.hid HBS.out
    clear HBS hck hck'
    go_wp2
    go_ret
    exact ⟨_, rfl, by rw [HF.out]; exact Sho.nil _ _, HW1.out.2⟩
end Go.Proofs.YtlkgeifmppadmaaGreat
namespace Go.Proofs.YtlkgeifmppadmaaGreat
open Go.RowKit
set_option linter.unusedVariables false
set_option linter.unusedSimpArgs false

set_option maxRecDepth 100000 in
set_option maxHeartbeats 2000000 in
theorem pckverify_no (vp v : Value) (pub : List UInt8) (s : SgD) (hpub : pub.length ≤ 1000000000) (hr : s.ck.root.length ≤ 100000000) (hs : SmallSig s.sig) (w : World) (hvp : Bys w vp pub) (hv : SgV w v s) (hck0 : ckB s.ck = false) :
    Calls Tryz.prog 27 #[vp, v] w fun e w' => e = .returned (.bool (ckVerB pub s)) ∧ Below w.heap.size w w' := by
  obtain ⟨r, p, q, rfl, h1, h2, h3⟩ := hv
  obtain ⟨R, cr, rfl⟩ := h1.form
  obtain ⟨P, cp, rfl⟩ := h2.form
  obtain ⟨Q, cq, rfl⟩ := h3.form
  obtain ⟨U, cu, rfl⟩ := hvp.form
  have HX := Lib.hid (And.intro h1 (And.intro h2 (And.intro h3 hvp)))
  have HCV : Hid (ckVerB pub s = (ckB s.ck && verifyB pub (bodyS tagCk s.ck) s.sig)) := Lib.hid rfl
  have hbl := bodyS_length tagCk s.ck
  have HBL : Hid ((bodyS tagCk s.ck).length ≤ 1000000000) := Lib.hid (by have : tagCk.length = 16 := rfl; omega)
  clear h1 h2 h3 hvp hbl
  generalize ckVerB pub s = CV at *
  obtain ⟨⟨num, root⟩, sg⟩ := s
  have HCK0 := Lib.hid hck0
  clear hck0
  obtain ⟨hs1, hs2, hs3, hs4⟩ := hs
  have HS := Lib.hid (And.intro hs1 (And.intro hs2 (And.intro hs3 hs4)))
  clear hs1 hs2 hs3 hs4
  have hrl : root.length ≤ 1000000000 := by have : root.length ≤ 100000000 := hr; omega
  have HBD := Lib.hid (fun (wz : World) (v : Value) (hz : CkV wz v ⟨num, root⟩) => pckbody_any v ⟨num, root⟩ hr wz hz)
  have HRT := Lib.hid (fun (wz : World) (v : Value) (hz : CkV wz v ⟨num, root⟩) => pckright_any v ⟨num, root⟩ hrl wz hz)
  have HVF := Lib.hid (fun (wz : World) (vp vm v : Value) (z1 : Bys wz vp pub) (z2 : Bys wz vm (bodyS tagCk ⟨num, root⟩)) (z3 : SigV wz v sg) => pverify_any vp vm v pub (bodyS tagCk ⟨num, root⟩) sg hpub HBL.out HS.out.1 HS.out.2.1 wz z1 z2 z3)
  obtain ⟨ix, Ps, Qs⟩ := sg
  go_enter Tryz.func27, Tryz.ntmps27
  have hk0 := Blk.new w 40 [.int .i64 num, .slice R root.length cr, .int .i64 ix, .slice P Ps.length cp, .slice Q Qs.length cq]
  have hb0 : Below w.heap.size w (w.alloc (.cells #[.int .i64 num, .slice R root.length cr, .int .i64 ix, .slice P Ps.length cp, .slice Q Qs.length cq] 40)) := (Below.refl w.heap.size w).alloc (Nat.le_refl _) _
  have HW := Lib.hid (And.intro hk0 hb0)
  clear hk0 hb0
  have HCB : Hid (ckB ⟨num, root⟩ = ckB ⟨num, root⟩) := Lib.hid rfl
  generalize hvb : verifyB pub (bodyS tagCk ⟨num, root⟩) ⟨ix, Ps, Qs⟩ = VB at *
  generalize hbo : bodyS tagCk ⟨num, root⟩ = BO at *
  clear hvb hbo HCB
  have hck' : ckB ⟨num, root⟩ = false := HCK0.out
  rw [hck'] at HCV HRT
  go_wp2
  refine code_at (fun w1 => Blk w1 w.heap.size 40 [.int .i64 num, .slice R root.length cr, .int .i64 ix, .slice P Ps.length cp, .slice Q Qs.length cq] ∧ Below w.heap.size w w1) HW.out ?_
  intro w1 hw1
  have HW1 := Lib.hid hw1
  clear hw1 HW
  have hwlt := HW1.out.1.lt
  have hw1 := HW1.out.2.size
  have c0 := HW1.out.1.cell 0 _ rfl
  have c1 := HW1.out.1.cell 1 _ rfl
  refine wp_region_held_drew (S := (fun w' => w'.cell? ⟨w.heap.size, 0, none⟩ = some (.int .i64 num) ∧ w'.cell? ⟨w.heap.size, 1, none⟩ = some (.slice R root.length cr))) (by kernel_rfl) ?_ (fun hHeld => ?_)
  · exact ⟨c0, c1⟩
  refine take_yes 0 5 rfl rfl (by kernel_rfl) (by kernel_rfl) (by kernel_rfl) (fun _ _ _ h => h) (by assumption) (by rfl) (v := ?_) ?_ ?_
  rotate_left 1
  · (intro w hSw; (try dsimp only at hSw); go_simp; try with_reducible rfl)
  simp only [List.setIfInBounds_toArray, List.set_cons_zero, List.set_cons_succ]
  refine take_yes 1 6 rfl rfl (by kernel_rfl) (by kernel_rfl) (by kernel_rfl) (fun _ _ _ h => h) (by assumption) (by rfl) (v := ?_) ?_ ?_
  rotate_left 1
  · (intro w hSw; (try dsimp only at hSw); go_simp; try with_reducible rfl)
  simp only [List.setIfInBounds_toArray, List.set_cons_zero, List.set_cons_succ]
  refine wpAnyH_ready (rs := [2]) (by kernel_rfl) (by simp) ?_
  refine AllReadyH.cons rfl (fun K hK => ?_) AllReadyH.nil
  (go_simp; go_at_call 52; refine (HRT.out w1.drew _ ⟨_, rfl, HX.out.1.below HW1.out.2.drew⟩).mono ?_; rintro e w2 ⟨rfl, h2⟩; have hb2 : Below w1.heap.size w1 w2 := ⟨h2.os, h2.tape, h2.output, h2.size, h2.block⟩; have d0 := (hb2.cell (p := ⟨w.heap.size, 0, none⟩) hwlt).trans c0; have d1 := (hb2.cell (p := ⟨w.heap.size, 1, none⟩) hwlt).trans c1; have H2 := Lib.hid hb2; clear h2 hb2)
  go_wp2_with fail
  refine hK.out _ _ ⟨d0, d1⟩ (fun hHeld2 => ?_)
  clear hK K
  try simp only [Act.put, List.setIfInBounds_toArray, List.set_cons_zero, List.set_cons_succ]
  refine take_yes 3 8 rfl rfl (by kernel_rfl) (by kernel_rfl) (by kernel_rfl) (fun _ _ _ h => h) (by assumption) (by rfl) (v := ?_) ?_ ?_
  rotate_left 1
  · (intro w hSw; (try dsimp only at hSw); go_simp; try with_reducible rfl)
  simp only [List.setIfInBounds_toArray, List.set_cons_zero, List.set_cons_succ]
  refine take_no 4 9 rfl rfl (by kernel_rfl) (by kernel_rfl) (by kernel_rfl) (fun _ _ _ h => h) (by assumption) (by rfl) ?_
  simp only [List.setIfInBounds_toArray, List.set_cons_zero, List.set_cons_succ]
  refine take_no 5 10 rfl rfl (by kernel_rfl) (by kernel_rfl) (by kernel_rfl) (fun _ _ _ h => h) (by assumption) (by rfl) ?_
  simp only [List.setIfInBounds_toArray, List.set_cons_zero, List.set_cons_succ]
  refine take_no 6 11 rfl rfl (by kernel_rfl) (by kernel_rfl) (by kernel_rfl) (fun _ _ _ h => h) (by assumption) (by rfl) ?_
  simp only [List.setIfInBounds_toArray, List.set_cons_zero, List.set_cons_succ]
  refine take_no 7 12 rfl rfl (by kernel_rfl) (by kernel_rfl) (by kernel_rfl) (fun _ _ _ h => h) (by assumption) (by rfl) ?_
  simp only [List.setIfInBounds_toArray, List.set_cons_zero, List.set_cons_succ]
  refine take_no 8 13 rfl rfl (by kernel_rfl) (by kernel_rfl) (by kernel_rfl) (fun _ _ _ h => h) (by assumption) (by rfl) ?_
  simp only [List.setIfInBounds_toArray, List.set_cons_zero, List.set_cons_succ]
  refine take_no 9 14 rfl rfl (by kernel_rfl) (by kernel_rfl) (by kernel_rfl) (fun _ _ _ h => h) (by assumption) (by rfl) ?_
  simp only [List.setIfInBounds_toArray, List.set_cons_zero, List.set_cons_succ]
  refine take_no 10 15 rfl rfl (by kernel_rfl) (by kernel_rfl) (by kernel_rfl) (fun _ _ _ h => h) (by assumption) (by rfl) ?_
  simp only [List.setIfInBounds_toArray, List.set_cons_zero, List.set_cons_succ]
  refine take_yes 11 16 rfl rfl (by kernel_rfl) (by kernel_rfl) (by kernel_rfl) (fun _ _ _ h => h) (by assumption) (by rfl) (v := ?_) ?_ ?_
  rotate_left 1
  · (intro w hSw; (try dsimp only at hSw); go_simp; try with_reducible rfl)
  simp only [List.setIfInBounds_toArray, List.set_cons_zero, List.set_cons_succ]
  refine take_yes 12 4 rfl rfl (by kernel_rfl) (by kernel_rfl) (by kernel_rfl) (fun _ _ _ h => h) (by assumption) (by rfl) (v := ?_) ?_ ?_
  rotate_left 1
  · (intro w hSw; (try dsimp only at hSw); go_simp; try with_reducible rfl)
  simp only [List.setIfInBounds_toArray, List.set_cons_zero, List.set_cons_succ]
  refine wpAnyH_done (by kernel_rfl) ?_ _
  all_goals
    go_wp2
    go_ret
    exact ⟨by rw [HCV.out]; rfl, HW1.out.2.trans (H2.out.mono hw1)⟩

set_option maxRecDepth 100000 in
set_option maxHeartbeats 2000000 in
theorem pckverify_yes (vp v : Value) (pub : List UInt8) (s : SgD) (hpub : pub.length ≤ 1000000000) (hr : s.ck.root.length ≤ 100000000) (hs : SmallSig s.sig) (w : World) (hvp : Bys w vp pub) (hv : SgV w v s) (hck0 : ckB s.ck = true) :
    Calls Tryz.prog 27 #[vp, v] w fun e w' => e = .returned (.bool (ckVerB pub s)) ∧ Below w.heap.size w w' := by
  obtain ⟨r, p, q, rfl, h1, h2, h3⟩ := hv
  obtain ⟨R, cr, rfl⟩ := h1.form
  obtain ⟨P, cp, rfl⟩ := h2.form
  obtain ⟨Q, cq, rfl⟩ := h3.form
  obtain ⟨U, cu, rfl⟩ := hvp.form
  have HX := Lib.hid (And.intro h1 (And.intro h2 (And.intro h3 hvp)))
  have HCV : Hid (ckVerB pub s = (ckB s.ck && verifyB pub (bodyS tagCk s.ck) s.sig)) := Lib.hid rfl
  have hbl := bodyS_length tagCk s.ck
  have HBL : Hid ((bodyS tagCk s.ck).length ≤ 1000000000) := Lib.hid (by have : tagCk.length = 16 := rfl; omega)
  clear h1 h2 h3 hvp hbl
  generalize ckVerB pub s = CV at *
  obtain ⟨⟨num, root⟩, sg⟩ := s
  have HCK0 := Lib.hid hck0
  clear hck0
  obtain ⟨hs1, hs2, hs3, hs4⟩ := hs
  have HS := Lib.hid (And.intro hs1 (And.intro hs2 (And.intro hs3 hs4)))
  clear hs1 hs2 hs3 hs4
  have hrl : root.length ≤ 1000000000 := by have : root.length ≤ 100000000 := hr; omega
  have HBD := Lib.hid (fun (wz : World) (v : Value) (hz : CkV wz v ⟨num, root⟩) => pckbody_any v ⟨num, root⟩ hr wz hz)
  have HRT := Lib.hid (fun (wz : World) (v : Value) (hz : CkV wz v ⟨num, root⟩) => pckright_any v ⟨num, root⟩ hrl wz hz)
  have HVF := Lib.hid (fun (wz : World) (vp vm v : Value) (z1 : Bys wz vp pub) (z2 : Bys wz vm (bodyS tagCk ⟨num, root⟩)) (z3 : SigV wz v sg) => pverify_any vp vm v pub (bodyS tagCk ⟨num, root⟩) sg hpub HBL.out HS.out.1 HS.out.2.1 wz z1 z2 z3)
  obtain ⟨ix, Ps, Qs⟩ := sg
  go_enter Tryz.func27, Tryz.ntmps27
  have hk0 := Blk.new w 40 [.int .i64 num, .slice R root.length cr, .int .i64 ix, .slice P Ps.length cp, .slice Q Qs.length cq]
  have hb0 : Below w.heap.size w (w.alloc (.cells #[.int .i64 num, .slice R root.length cr, .int .i64 ix, .slice P Ps.length cp, .slice Q Qs.length cq] 40)) := (Below.refl w.heap.size w).alloc (Nat.le_refl _) _
  have HW := Lib.hid (And.intro hk0 hb0)
  clear hk0 hb0
  have HCB : Hid (ckB ⟨num, root⟩ = ckB ⟨num, root⟩) := Lib.hid rfl
  generalize hvb : verifyB pub (bodyS tagCk ⟨num, root⟩) ⟨ix, Ps, Qs⟩ = VB at *
  generalize hbo : bodyS tagCk ⟨num, root⟩ = BO at *
  clear hvb hbo HCB
  have hck : ckB ⟨num, root⟩ = true := HCK0.out
  rw [hck] at HCV HRT
  go_wp2
  refine code_at (fun w1 => Blk w1 w.heap.size 40 [.int .i64 num, .slice R root.length cr, .int .i64 ix, .slice P Ps.length cp, .slice Q Qs.length cq] ∧ Below w.heap.size w w1) HW.out ?_
  intro w1 hw1
  have HW1 := Lib.hid hw1
  clear hw1 HW
  have hwlt := HW1.out.1.lt
  have hw1 := HW1.out.2.size
  have c0 := HW1.out.1.cell 0 _ rfl
  have c1 := HW1.out.1.cell 1 _ rfl
  have c2 := HW1.out.1.cell 2 _ rfl
  have c3 := HW1.out.1.cell 3 _ rfl
  have c4 := HW1.out.1.cell 4 _ rfl
  go_region_held3 (fun w' => w'.cell? ⟨w.heap.size, 0, none⟩ = some (.int .i64 num) ∧ w'.cell? ⟨w.heap.size, 1, none⟩ = some (.slice R root.length cr) ∧ w'.cell? ⟨w.heap.size, 2, none⟩ = some (.int .i64 ix) ∧ w'.cell? ⟨w.heap.size, 3, none⟩ = some (.slice P Ps.length cp) ∧ w'.cell? ⟨w.heap.size, 4, none⟩ = some (.slice Q Qs.length cq))
    (first
      | go_keep
      | exact ⟨c0, c1, c2, c3, c4⟩
      | exact ⟨d0, d1, d2, d3, d4⟩
      | exact ⟨e0, e1, e2, e3, e4⟩
      | exact ⟨g0, g1, g2, g3, g4⟩)
    (first
      | (go_simp; go_at_call 52; refine (HRT.out w1.drew _ ⟨_, rfl, HX.out.1.below HW1.out.2.drew⟩).mono ?_; rintro e w2 ⟨rfl, h2⟩; have hb2 : Below w1.heap.size w1 w2 := ⟨h2.os, h2.tape, h2.output, h2.size, h2.block⟩; have d0 := (hb2.cell (p := ⟨w.heap.size, 0, none⟩) hwlt).trans c0; have d1 := (hb2.cell (p := ⟨w.heap.size, 1, none⟩) hwlt).trans c1; have d2 := (hb2.cell (p := ⟨w.heap.size, 2, none⟩) hwlt).trans c2; have d3 := (hb2.cell (p := ⟨w.heap.size, 3, none⟩) hwlt).trans c3; have d4 := (hb2.cell (p := ⟨w.heap.size, 4, none⟩) hwlt).trans c4; have H2 := Lib.hid hb2; clear h2 hb2)
      | (go_simp; go_at_call 54; refine (HBD.out w2 _ ⟨_, rfl, HX.out.1.below (HW1.out.2.trans (H2.out.mono hw1))⟩).mono ?_; rintro e w3 ⟨v3, rfl, h3, h4⟩; obtain ⟨A3, k3, rfl⟩ := h3.form; have hb3 := H2.out.trans (h4.mono H2.out.size); have e0 := (hb3.cell (p := ⟨w.heap.size, 0, none⟩) hwlt).trans c0; have e1 := (hb3.cell (p := ⟨w.heap.size, 1, none⟩) hwlt).trans c1; have e2 := (hb3.cell (p := ⟨w.heap.size, 2, none⟩) hwlt).trans c2; have e3 := (hb3.cell (p := ⟨w.heap.size, 3, none⟩) hwlt).trans c3; have e4 := (hb3.cell (p := ⟨w.heap.size, 4, none⟩) hwlt).trans c4; have H3 := Lib.hid (And.intro h3 hb3); clear h3 h4 hb3)
      | (go_simp; go_at_call 53; refine (HVF.out w3 _ _ _ (HX.out.2.2.2.below (HW1.out.2.trans (H3.out.2.mono hw1))) H3.out.1 ⟨_, _, rfl, HX.out.2.1.below (HW1.out.2.trans (H3.out.2.mono hw1)), HX.out.2.2.1.below (HW1.out.2.trans (H3.out.2.mono hw1))⟩).mono ?_; rintro e w4 ⟨rfl, h4⟩; have hb4 := H3.out.2.trans (h4.mono H3.out.2.size); have g0 := (hb4.cell (p := ⟨w.heap.size, 0, none⟩) hwlt).trans c0; have g1 := (hb4.cell (p := ⟨w.heap.size, 1, none⟩) hwlt).trans c1; have g2 := (hb4.cell (p := ⟨w.heap.size, 2, none⟩) hwlt).trans c2; have g3 := (hb4.cell (p := ⟨w.heap.size, 3, none⟩) hwlt).trans c3; have g4 := (hb4.cell (p := ⟨w.heap.size, 4, none⟩) hwlt).trans c4; have H4 := Lib.hid hb4; clear h4 hb4))
  go_wp2
  go_ret
  exact ⟨by rw [HCV.out]; rfl, HW1.out.2.trans (H4.out.mono hw1)⟩

theorem pckverify_any (vp v : Value) (pub : List UInt8) (s : SgD) (hpub : pub.length ≤ 1000000000) (hr : s.ck.root.length ≤ 100000000) (hs : SmallSig s.sig) (w : World) (hvp : Bys w vp pub) (hv : SgV w v s) :
    Calls Tryz.prog 27 #[vp, v] w fun e w' => e = .returned (.bool (ckVerB pub s)) ∧ Below w.heap.size w w' := by
  cases h : ckB s.ck with
  | true => exact pckverify_yes vp v pub s hpub hr hs w hvp hv h
  | false => exact pckverify_no vp v pub s hpub hr hs w hvp hv h
end Go.Proofs.YtlkgeifmppadmaaGreat
namespace Go.Proofs.YtlkgeifmppadmaaGreat
open Go.RowKit
set_option linter.unusedVariables false
set_option linter.unusedSimpArgs false

set_option maxRecDepth 100000 in
set_option maxHeartbeats 2000000 in
theorem clones_any (v : Value) (ls : List (List UInt8)) (hsm : ls.length ≤ 1000000000) (hl : ∀ i (h : i < ls.length), ls[i].length ≤ 1000000000) (w : World) (hx : Rws w v ls) :
    Calls Tryz.prog 84 #[v] w (RetR w ls) := by
  obtain ⟨i0, hi0, hz0, hz1, hz2⟩ := info_parts info_bytes
  obtain ⟨A, c, rfl⟩ := hx.form
  have HX := Lib.hid (And.intro hx hl)
  clear hx hl
  go_enter Tryz.func84, Tryz.ntmps84
  go_wp2
  go_loopw [3, 8] (fun v3 v8 wr => ∃ k : Nat, v8 = .int .i64 k ∧ k ≤ ls.length ∧ Hid (Below w.heap.size w wr ∧ OwnR wr w.heap.size v3 (ls.take k))) (fun _ v _ => ls.length - (intOf v).toNat)
  case atStart => exact ⟨0, rfl, Nat.zero_le _, Lib.hid ⟨Below.refl _ _, OwnR.nil _ _⟩⟩
  case round =>
    obtain ⟨k, rfl, hk, HJ⟩ := hrel
    by_cases hlt : k < ls.length
    · obtain ⟨g, o, u, rfl, hg, -, -, hcu, hbu⟩ := HX.out.1.at' k hlt
      have p0 := (HJ.out.1.cell (p := ⟨g, o + k, none⟩) hg).trans hcu
      obtain ⟨A9, c9, rfl⟩ := hbu.form
      have hX9 := HX.out.2 k hlt
      have HU := Lib.hid (hbu.below HJ.out.1)
      have HT : Hid (ls.take (k + 1) = ls.take k ++ [ls[k]]) := Lib.hid (List.take_succ_eq_append_getElem hlt)
      have HTL : Hid ((ls.take k).length = k) := Lib.hid (by rw [List.length_take]; omega)
      have hal : (ls.take k).length ≤ 1000000000 := by rw [HTL.out]; omega
      have hsz := HJ.out.1.size
      clear hcu hbu
      obtain ⟨A8, c8, rfl⟩ := HJ.out.2.rws.form
      generalize ls[k] = X at *
      generalize ls.take k = L at *
      go_wp2_with fail
      refine (clone_any _ X (by omega) wr HU.out).mono ?_
      rintro e w2 ⟨v2, rfl, h1, h2⟩
      obtain ⟨A2, c2, rfl⟩ := h1.form
      obtain ⟨us, hu1, hu2⟩ := HJ.out.2.keep h2
      have H2 := Lib.hid (And.intro h1 (And.intro h2 (And.intro hu1 hu2)))
      have hsz2 := h2.size
      clear h1 h2 hu1 hu2
      go_wp2_with (at_builtin; (refine wpList_append_lies _ rfl (.tmp 12) (.tmp 15) 27 rfl w.heap.size 26 i0 (.slice none 0 0) 1 24 Tryz.underlying27 hi0 hz0 hz1 hz2 rfl (by decide) _ L.length us rfl (World.ownsRow.alloc H2.out.2.2.1 _) ⟨w2.heap.size, 0, none⟩ 1 1 [.slice A2 X.length c2] rfl rfl (World.news_of_block (blk_new _ _)) (by simp [Value.oneCell']) (by decide) (by unfold maxLen; omega) (by omega) (by simp; omega) (w2.heap.size + 1) (by simp) ?_); intro g3 c3 W3 hown3 hgrow3 hlie3 hlt3)
      have HR3 := Lib.hid (retr_push HJ.out.2 hsz H2.out.2.1 H2.out.1 H2.out.2.2.2 (by have := H2.out.2.2.1.1; omega) hown3 hgrow3 hlie3)
      go_roundw
      case rel => exact ⟨k + 1, by go_num, by omega, Lib.hid ⟨HJ.out.1.trans HR3.out.2, by rw [HT.out]; exact HR3.out.1⟩⟩
      case measure => simp [intOf]; omega
    · obtain rfl : k = ls.length := by omega
      have HO := HJ.out.2
      rw [List.take_length] at HO
      have HB := Lib.hid (And.intro HO HJ.out.1)
      clear HO HJ
      go_wp2
      go_ret
      exact ⟨_, rfl, HB.out.1, HB.out.2⟩
end Go.Proofs.YtlkgeifmppadmaaGreat
namespace Go.Proofs.YtlkgeifmppadmaaGreat
open Go.RowKit
set_option linter.unusedVariables false
set_option linter.unusedSimpArgs false

/-- Blocks that were made between two worlds. -/
def Fresh (w w' : World) (g : Nat) : Prop := w.heap.size ≤ g ∧ g < w'.heap.size
theorem Fresh.wide {w w0 w' w1 : World} {g : Nat} (h : Fresh w w' g) (h1 : w0.heap.size ≤ w.heap.size) (h2 : w'.heap.size ≤ w1.heap.size) : Fresh w0 w1 g := ⟨Nat.le_trans h1 h.1, Nat.lt_of_lt_of_le h.2 h2⟩
/-- A signature as a value, its texts in blocks of S. -/
def SigF (S : Nat → Prop) (w : World) (v : Value) (s : SigD) : Prop := ∃ p q, v = .agg #[.int .i64 s.index, p, q] ∧ RwsF S w p s.parts ∧ RwsF S w q s.path
theorem SigF.sigv {S : Nat → Prop} {w : World} {v : Value} {s : SigD} (h : SigF S w v s) : SigV w v s := by
  obtain ⟨p, q, e, h1, h2⟩ := h
  exact ⟨p, q, e, h1.rws, h2.rws⟩
theorem SigF.chg {S T : Nat → Prop} {w w1 : World} {v : Value} {s : SigD} (h : SigF S w v s) (hc : Chg w w1 T) (hS : ∀ g, S g → ¬ T g) : SigF S w1 v s := by
  obtain ⟨p, q, e, h1, h2⟩ := h
  exact ⟨p, q, e, h1.chg hc hS, h2.chg hc hS⟩
theorem SigF.mono {S T : Nat → Prop} {w : World} {v : Value} {s : SigD} (h : SigF S w v s) (hS : ∀ g, S g → T g) : SigF T w v s := by
  obtain ⟨p, q, e, h1, h2⟩ := h
  exact ⟨p, q, e, h1.mono hS, h2.mono hS⟩
theorem RwsF.below {S : Nat → Prop} {w w1 : World} {v : Value} {ls : List (List UInt8)} (h : RwsF S w v ls) (hb : Below w.heap.size w w1) : RwsF S w1 v ls :=
  h.chg (Chg.of_below (S := fun _ => False) hb) (fun _ _ h => h)
theorem SigF.below {S : Nat → Prop} {w w1 : World} {v : Value} {s : SigD} (h : SigF S w v s) (hb : Below w.heap.size w w1) : SigF S w1 v s :=
  h.chg (Chg.of_below (S := fun _ => False) hb) (fun _ _ h => h)
/-- A call that gives a signature of its own. -/
def RetSig (w : World) (s : SigD) (e : Ending) (w' : World) : Prop := ∃ v, e = .returned v ∧ SigF (Fresh w w') w' v s ∧ Below w.heap.size w w'
theorem two_of {w : World} (A B : List Value) (t1 t2 : TypeId) : Blk ((w.alloc (.cells A.toArray t1)).alloc (.cells B.toArray t2)) w.heap.size t1 A ∧ Blk ((w.alloc (.cells A.toArray t1)).alloc (.cells B.toArray t2)) (w.heap.size + 1) t2 B ∧ Below w.heap.size w ((w.alloc (.cells A.toArray t1)).alloc (.cells B.toArray t2)) := by
  obtain ⟨h1, h2, h3⟩ := blk2 w A B t1 t2 _ rfl
  exact ⟨h2, h3, h1⟩

set_option maxRecDepth 100000 in
set_option maxHeartbeats 2000000 in
theorem sigcopy_any (v : Value) (s : SigD) (hs : SmallSig s) (w : World) (hv : SigV w v s) :
    Calls Tryz.prog 55 #[v] w (RetSig w s) := by
  obtain ⟨p, q, rfl, h1, h2⟩ := hv
  obtain ⟨P, cp, rfl⟩ := h1.form
  obtain ⟨Q, cq, rfl⟩ := h2.form
  obtain ⟨hs1, hs2, hs3, hs4⟩ := hs
  have HC1 := Lib.hid (fun wz hz => clones_any (.slice P s.parts.length cp) s.parts hs1 hs3 wz hz)
  have HC2 := Lib.hid (fun wz hz => clones_any (.slice Q s.path.length cq) s.path hs2 hs4 wz hz)
  have HX := Lib.hid (And.intro h1 h2)
  clear h1 h2 hs3 hs4
  obtain ⟨ix, Ps, Qs⟩ := s
  obtain ⟨k0, k1, kb⟩ := two_of (w := w) [.int .i64 ix, .slice P Ps.length cp, .slice Q Qs.length cq] [.int .i64 0, .slice none 0 0, .slice none 0 0] 38 38
  have HW := Lib.hid (And.intro k0 (And.intro k1 kb))
  clear k0 k1 kb
  go_enter Tryz.func55, Tryz.ntmps55
  go_wp2
  refine code_at (fun w1 => Blk w1 w.heap.size 38 [.int .i64 ix, .slice P Ps.length cp, .slice Q Qs.length cq] ∧ Blk w1 (w.heap.size + 1) 38 [.int .i64 0, .slice none 0 0, .slice none 0 0] ∧ Below w.heap.size w w1) HW.out ?_
  rintro w1 ⟨k0, k1, kb⟩
  have H1 := Lib.hid (And.intro k0 (And.intro k1 kb))
  have c0 := k0.cell 0 _ rfl
  have c1 := k0.cell 1 _ rfl
  have c2 := k0.cell 2 _ rfl
  have hsz1 := k1.lt
  clear k0 k1 kb HW
  refine wp_region_held_drew (S := fun w' => w'.cell? ⟨w.heap.size, 0, none⟩ = some (.int .i64 ix) ∧ w'.cell? ⟨w.heap.size, 1, none⟩ = some (.slice P Ps.length cp) ∧ w'.cell? ⟨w.heap.size, 2, none⟩ = some (.slice Q Qs.length cq)) (by kernel_rfl) ?_ (fun hHeld => ?_)
  · exact ⟨c0, c1, c2⟩
  refine take_yes 0 3 rfl rfl (by kernel_rfl) (by kernel_rfl) (by kernel_rfl) (fun _ _ _ h => h) (by assumption) (by rfl) (v := ?_) ?_ ?_
  rotate_left 1
  · (intro w hSw; (try dsimp only at hSw); go_simp; try with_reducible rfl)
  simp only [List.setIfInBounds_toArray, List.set_cons_zero, List.set_cons_succ]
  refine take_yes 1 4 rfl rfl (by kernel_rfl) (by kernel_rfl) (by kernel_rfl) (fun _ _ _ h => h) (by assumption) (by rfl) (v := ?_) ?_ ?_
  rotate_left 1
  · (intro w hSw; (try dsimp only at hSw); go_simp; try with_reducible rfl)
  simp only [List.setIfInBounds_toArray, List.set_cons_zero, List.set_cons_succ]
  refine take_yes 2 5 rfl rfl (by kernel_rfl) (by kernel_rfl) (by kernel_rfl) (fun _ _ _ h => h) (by assumption) (by rfl) (v := ?_) ?_ ?_
  rotate_left 1
  · (intro w hSw; (try dsimp only at hSw); go_simp; try with_reducible rfl)
  simp only [List.setIfInBounds_toArray, List.set_cons_zero, List.set_cons_succ]
  refine take_yes 3 6 rfl rfl (by kernel_rfl) (by kernel_rfl) (by kernel_rfl) (fun _ _ _ h => h) (by assumption) (by rfl) (v := ?_) ?_ ?_
  rotate_left 1
  · (intro w hSw; (try dsimp only at hSw); go_simp; try with_reducible rfl)
  simp only [List.setIfInBounds_toArray, List.set_cons_zero, List.set_cons_succ]
  refine take_yes 5 8 rfl rfl (by kernel_rfl) (by kernel_rfl) (by kernel_rfl) (fun _ _ _ h => h) (by assumption) (by rfl) (v := ?_) ?_ ?_
  rotate_left 1
  · (intro w hSw; (try dsimp only at hSw); go_simp; try with_reducible rfl)
  simp only [List.setIfInBounds_toArray, List.set_cons_zero, List.set_cons_succ]
  refine take_yes 6 9 rfl rfl (by kernel_rfl) (by kernel_rfl) (by kernel_rfl) (fun _ _ _ h => h) (by assumption) (by rfl) (v := ?_) ?_ ?_
  rotate_left 1
  · (intro w hSw; (try dsimp only at hSw); go_simp; try with_reducible rfl)
  simp only [List.setIfInBounds_toArray, List.set_cons_zero, List.set_cons_succ]
  -- 4:  dst := some 7, op := Op.call  callee := Callee.value (Operand.func 79), args := #[Operand.tmp 6], argTypes := #[31] , type := 
  refine wpAnyH_ready (rs := [4]) (by kernel_rfl) (by simp) ?_
  refine AllReadyH.cons rfl (fun K hK => ?_) AllReadyH.nil
  go_simp
  go_at_call 84
  refine (HC1.out w1.drew (HX.out.1.below H1.out.2.2.drew)).mono ?_
  rintro e w2 ⟨v2, rfl, h2, h3⟩
  obtain ⟨A2, n2, rfl⟩ := h2.rws.form
  have hb2 : Below w1.heap.size w1 w2 := ⟨h3.os, h3.tape, h3.output, h3.size, h3.block⟩
  have k0 := H1.out.1.below hb2
  have e0 := k0.cell 0 _ rfl
  have e1 := k0.cell 1 _ rfl
  have e2 := k0.cell 2 _ rfl
  have H2 := Lib.hid (And.intro (show RwsF (fun g => w1.heap.size ≤ g ∧ g < w2.heap.size) w2 _ Ps from h2.foot) (And.intro hb2 (And.intro k0 (H1.out.2.1.below hb2))))
  clear h2 h3 hb2 k0
  go_wp2_with fail
  refine hK.out _ _ ⟨e0, e1, e2⟩ (fun hHeld4 => ?_)
  clear hK K
  try simp only [Act.put, List.setIfInBounds_toArray, List.set_cons_zero, List.set_cons_succ]
  -- 7:  dst := some 10, op := Op.call  callee := Callee.value (Operand.func 79), args := #[Operand.tmp 9], argTypes := #[31] , type :=
  refine wpAnyH_ready (rs := [7]) (by kernel_rfl) (by simp) ?_
  refine AllReadyH.cons rfl (fun K hK => ?_) AllReadyH.nil
  go_simp
  go_at_call 84
  refine (HC2.out w2 (HX.out.2.below (H1.out.2.2.trans (H2.out.2.1.mono H1.out.2.2.size)))).mono ?_
  rintro e w3 ⟨v3, rfl, h4, h5⟩
  obtain ⟨A3, n3, rfl⟩ := h4.rws.form
  have k0 := H2.out.2.2.1.below h5
  have k1 := H2.out.2.2.2.below h5
  have i0 := k0.cell 0 _ rfl
  have i1 := k0.cell 1 _ rfl
  have i2 := k0.cell 2 _ rfl
  have j0 := k1.cell 0 _ rfl
  have j1 := k1.cell 1 _ rfl
  have j2 := k1.cell 2 _ rfl
  have g0 := k1.free 0
  have g1 := k1.free 1
  have g2 := k1.free 2
  have H3 := Lib.hid (And.intro h4.foot (And.intro (H2.out.1.below h5) (And.intro k1 (And.intro (H1.out.2.2.trans ((H2.out.2.1.trans (h5.mono H2.out.2.1.size)).mono H1.out.2.2.size)) (And.intro H2.out.2.1.size h5.size)))))
  clear h4 h5 k0 k1 e0 e1 e2
  go_wp2_with fail
  refine hK.out _ _ ⟨i0, i1, i2⟩ (fun hHeld7 => ?_)
  clear hK K
  try simp only [Act.put, List.setIfInBounds_toArray, List.set_cons_zero, List.set_cons_succ]
  refine take_yes 8 11 rfl rfl (by kernel_rfl) (by kernel_rfl) (by kernel_rfl) (fun _ _ _ h => h) (by assumption) (by rfl) (v := ?_) ?_ ?_
  rotate_left 1
  · (intro w hSw; (try dsimp only at hSw); go_simp; try with_reducible rfl)
  simp only [List.setIfInBounds_toArray, List.set_cons_zero, List.set_cons_succ]
  -- 9:  dst := none, op := Op.store 38 (Operand.tmp 2) (Operand.tmp 11), type := 0
  refine wpAnyH_ready (rs := [9]) (by kernel_rfl) (by simp) ?_
  refine AllReadyH.cons rfl (fun K hK => ?_) AllReadyH.nil
  go_simp
  have hq : True := trivial
  refine hK.out _ _ ⟨by go_keep, by go_keep, by go_keep⟩ (fun hHeld9 => ?_)
  clear hK K
  try simp only [Act.put, List.setIfInBounds_toArray, List.set_cons_zero, List.set_cons_succ]
  refine wpAnyH_done (by kernel_rfl) ?_ _
  have hch : Chg w3 (((w3.setCell ⟨w.heap.size + 1, 0, none⟩ (.int .i64 ix)).setCell ⟨w.heap.size + 1, 1, none⟩ (.slice A2 Ps.length n2)).setCell ⟨w.heap.size + 1, 2, none⟩ (.slice A3 Qs.length n3)) (fun k => k = w.heap.size + 1) := chg_cell (chg_cell (chg_cell (Chg.refl w3 _) 0 _) 1 _) 2 _
  have hfin : Blk (((w3.setCell ⟨w.heap.size + 1, 0, none⟩ (.int .i64 ix)).setCell ⟨w.heap.size + 1, 1, none⟩ (.slice A2 Ps.length n2)).setCell ⟨w.heap.size + 1, 2, none⟩ (.slice A3 Qs.length n3)) (w.heap.size + 1) 38 [.int .i64 ix, .slice A2 Ps.length n2, .slice A3 Qs.length n3] := ((H3.out.2.2.1.set 0 _ (by simp)).set 1 _ (by simp)).set 2 _ (by simp)
  generalize ((w3.setCell ⟨w.heap.size + 1, 0, none⟩ (.int .i64 ix)).setCell ⟨w.heap.size + 1, 1, none⟩ (.slice A2 Ps.length n2)).setCell ⟨w.heap.size + 1, 2, none⟩ (.slice A3 Qs.length n3) = w4 at *
  have HF := Lib.hid (And.intro hch hfin)
  clear hch hfin j0 j1 j2 g0 g1 g2 i0 i1 i2 c0 c1 c2
  go_wp2
  obtain ⟨h4, h5, h6, h7, h8, h9⟩ := H3.out
  refine bodyPost_ret (v := .agg [.int .i64 ix, .slice A2 Ps.length n2, .slice A3 Qs.length n3].toArray) ?_ ?_ ⟨_, rfl, ⟨_, _, rfl, ?_, ?_⟩, ?_⟩
  · exact results_cell_row Tryz.results55 _ _ (w.heap.size + 1) 38 _ (0, 0) _ rfl HF.out.2 under_sig rfl size_sig
  · rfl
  · exact (h5.chg HF.out.1 (fun g hg e => by omega)).mono (fun g hg => ⟨by omega, by have := HF.out.1.size; omega⟩)
  · exact (h4.chg HF.out.1 (fun g hg e => by omega)).mono (fun g hg => ⟨by omega, by have := HF.out.1.size; omega⟩)
  · exact h7.trans (HF.out.1.below h7.size (fun k hk => by omega))
/-- Bytes, in blocks of S. -/
def BysF (S : Nat → Prop) (w : World) (v : Value) (l : List UInt8) : Prop := Bys w v l ∧ (0 < l.length → ∀ g, v.ownBlock = some g → S g)
theorem BysF.chg {S T : Nat → Prop} {w w1 : World} {v : Value} {l : List UInt8} (h : BysF S w v l) (hc : Chg w w1 T) (hS : ∀ g, S g → ¬ T g) : BysF S w1 v l := ⟨Sho.chgF h.1 h.2 hc hS, h.2⟩
theorem BysF.mono {S T : Nat → Prop} {w : World} {v : Value} {l : List UInt8} (h : BysF S w v l) (hS : ∀ g, S g → T g) : BysF T w v l := ⟨h.1, fun h0 g hg => hS g (h.2 h0 g hg)⟩
theorem BysF.below {S : Nat → Prop} {w w1 : World} {v : Value} {l : List UInt8} (h : BysF S w v l) (hb : Below w.heap.size w w1) : BysF S w1 v l := ⟨h.1.below hb, h.2⟩
theorem OwnB.foot {w : World} {base : Nat} {v : Value} {l : List UInt8} (h : OwnB w base v l) : BysF (fun g => base ≤ g ∧ g < w.heap.size) w v l := ⟨h.bys, fun _ g hg => World.ownsRow.lt h g hg⟩
/-- A signed checkpoint as a value, its texts in blocks of S. -/
def SgF (S : Nat → Prop) (w : World) (v : Value) (s : SgD) : Prop := ∃ r p q, v = .agg #[.int .i64 s.ck.num, r, .int .i64 s.sig.index, p, q] ∧ BysF S w r s.ck.root ∧ RwsF S w p s.sig.parts ∧ RwsF S w q s.sig.path
theorem SgF.sgv {S : Nat → Prop} {w : World} {v : Value} {s : SgD} (h : SgF S w v s) : SgV w v s := by
  obtain ⟨r, p, q, e, h0, h1, h2⟩ := h
  exact ⟨r, p, q, e, h0.1, h1.rws, h2.rws⟩
theorem SgF.chg {S T : Nat → Prop} {w w1 : World} {v : Value} {s : SgD} (h : SgF S w v s) (hc : Chg w w1 T) (hS : ∀ g, S g → ¬ T g) : SgF S w1 v s := by
  obtain ⟨r, p, q, e, h0, h1, h2⟩ := h
  exact ⟨r, p, q, e, h0.chg hc hS, h1.chg hc hS, h2.chg hc hS⟩
theorem SgF.mono {S T : Nat → Prop} {w : World} {v : Value} {s : SgD} (h : SgF S w v s) (hS : ∀ g, S g → T g) : SgF T w v s := by
  obtain ⟨r, p, q, e, h0, h1, h2⟩ := h
  exact ⟨r, p, q, e, h0.mono hS, h1.mono hS, h2.mono hS⟩
theorem SgF.below {S : Nat → Prop} {w w1 : World} {v : Value} {s : SgD} (h : SgF S w v s) (hb : Below w.heap.size w w1) : SgF S w1 v s := h.chg (Chg.of_below (S := fun _ => False) hb) (fun _ _ h => h)
theorem under_signed : Tryz.prog.underlying 40 = some (.struct (Tryz.prog.fieldsOf 40)) := by kernel_rfl
theorem size_signed : (Tryz.prog.info? 40).map (·.size) = some 5 := by kernel_rfl
def RetSg (w : World) (s : SgD) (e : Ending) (w' : World) : Prop := ∃ v, e = .returned v ∧ SgF (Fresh w w') w' v s ∧ Below w.heap.size w w'
set_option maxRecDepth 100000 in
set_option maxHeartbeats 4000000 in
theorem ckcopy_any (v : Value) (s : SgD) (hr : s.ck.root.length ≤ 100000000) (hs : SmallSig s.sig) (w : World) (hv : SgV w v s) :
    Calls Tryz.prog 28 #[v] w (RetSg w s) := by
  obtain ⟨r, p, q, rfl, h0, h1, h2⟩ := hv
  obtain ⟨R, cr, rfl⟩ := h0.form
  obtain ⟨P, cp, rfl⟩ := h1.form
  obtain ⟨Q, cq, rfl⟩ := h2.form
  have HC1 := Lib.hid (fun wz hz => clone_any (.slice R s.ck.root.length cr) s.ck.root (by omega) wz hz)
  have HC2 := Lib.hid (fun wz v hz => sigcopy_any v s.sig hs wz hz)
  have HX := Lib.hid (And.intro h0 (And.intro h1 h2))
  clear h0 h1 h2 hs hr
  obtain ⟨⟨num, root⟩, ⟨ix, Ps, Qs⟩⟩ := s
  obtain ⟨k0, k1, kb⟩ := two_of (w := w) [.int .i64 num, .slice R root.length cr, .int .i64 ix, .slice P Ps.length cp, .slice Q Qs.length cq] [.int .i64 0, .slice none 0 0, .int .i64 0, .slice none 0 0, .slice none 0 0] 40 40
  have HW := Lib.hid (And.intro k0 (And.intro k1 kb))
  clear k0 k1 kb
  go_enter Tryz.func28, Tryz.ntmps28
  go_wp2
  refine code_at (fun w1 => Blk w1 w.heap.size 40 [.int .i64 num, .slice R root.length cr, .int .i64 ix, .slice P Ps.length cp, .slice Q Qs.length cq] ∧ Blk w1 (w.heap.size + 1) 40 [.int .i64 0, .slice none 0 0, .int .i64 0, .slice none 0 0, .slice none 0 0] ∧ Below w.heap.size w w1) HW.out ?_
  rintro w1 ⟨k0, k1, kb⟩
  have H1 := Lib.hid (And.intro k0 (And.intro k1 kb))
  have c0 := k0.cell 0 _ rfl
  have c1 := k0.cell 1 _ rfl
  have c2 := k0.cell 2 _ rfl
  have c3 := k0.cell 3 _ rfl
  have c4 := k0.cell 4 _ rfl
  have hsz1 := k1.lt
  clear k0 k1 kb HW
  refine wp_region_held_drew (S := fun w' => w'.cell? ⟨w.heap.size, 0, none⟩ = some (.int .i64 num) ∧ w'.cell? ⟨w.heap.size, 1, none⟩ = some (.slice R root.length cr) ∧ w'.cell? ⟨w.heap.size, 2, none⟩ = some (.int .i64 ix) ∧ w'.cell? ⟨w.heap.size, 3, none⟩ = some (.slice P Ps.length cp) ∧ w'.cell? ⟨w.heap.size, 4, none⟩ = some (.slice Q Qs.length cq)) (by kernel_rfl) ?_ (fun hHeld => ?_)
  · exact ⟨c0, c1, c2, c3, c4⟩
  refine take_yes 0 3 rfl rfl (by kernel_rfl) (by kernel_rfl) (by kernel_rfl) (fun _ _ _ h => h) (by assumption) (by rfl) (v := ?_) ?_ ?_
  rotate_left 1
  · (intro w hSw; (try dsimp only at hSw); go_simp; try with_reducible rfl)
  simp only [List.setIfInBounds_toArray, List.set_cons_zero, List.set_cons_succ]
  refine take_yes 1 4 rfl rfl (by kernel_rfl) (by kernel_rfl) (by kernel_rfl) (fun _ _ _ h => h) (by assumption) (by rfl) (v := ?_) ?_ ?_
  rotate_left 1
  · (intro w hSw; (try dsimp only at hSw); go_simp; try with_reducible rfl)
  simp only [List.setIfInBounds_toArray, List.set_cons_zero, List.set_cons_succ]
  refine take_yes 2 5 rfl rfl (by kernel_rfl) (by kernel_rfl) (by kernel_rfl) (fun _ _ _ h => h) (by assumption) (by rfl) (v := ?_) ?_ ?_
  rotate_left 1
  · (intro w hSw; (try dsimp only at hSw); go_simp; try with_reducible rfl)
  simp only [List.setIfInBounds_toArray, List.set_cons_zero, List.set_cons_succ]
  refine take_yes 3 6 rfl rfl (by kernel_rfl) (by kernel_rfl) (by kernel_rfl) (fun _ _ _ h => h) (by assumption) (by rfl) (v := ?_) ?_ ?_
  rotate_left 1
  · (intro w hSw; (try dsimp only at hSw); go_simp; try with_reducible rfl)
  simp only [List.setIfInBounds_toArray, List.set_cons_zero, List.set_cons_succ]
  refine take_yes 4 7 rfl rfl (by kernel_rfl) (by kernel_rfl) (by kernel_rfl) (fun _ _ _ h => h) (by assumption) (by rfl) (v := ?_) ?_ ?_
  rotate_left 1
  · (intro w hSw; (try dsimp only at hSw); go_simp; try with_reducible rfl)
  simp only [List.setIfInBounds_toArray, List.set_cons_zero, List.set_cons_succ]
  refine take_yes 5 8 rfl rfl (by kernel_rfl) (by kernel_rfl) (by kernel_rfl) (fun _ _ _ h => h) (by assumption) (by rfl) (v := ?_) ?_ ?_
  rotate_left 1
  · (intro w hSw; (try dsimp only at hSw); go_simp; try with_reducible rfl)
  simp only [List.setIfInBounds_toArray, List.set_cons_zero, List.set_cons_succ]
  refine take_yes 8 11 rfl rfl (by kernel_rfl) (by kernel_rfl) (by kernel_rfl) (fun _ _ _ h => h) (by assumption) (by rfl) (v := ?_) ?_ ?_
  rotate_left 1
  · (intro w hSw; (try dsimp only at hSw); go_simp; try with_reducible rfl)
  simp only [List.setIfInBounds_toArray, List.set_cons_zero, List.set_cons_succ]
  refine take_yes 9 12 rfl rfl (by kernel_rfl) (by kernel_rfl) (by kernel_rfl) (fun _ _ _ h => h) (by assumption) (by rfl) (v := ?_) ?_ ?_
  rotate_left 1
  · (intro w hSw; (try dsimp only at hSw); go_simp; try with_reducible rfl)
  simp only [List.setIfInBounds_toArray, List.set_cons_zero, List.set_cons_succ]
  -- 6:  dst := some 9, op := Op.call  callee := Callee.value (Operand.func 48), args := #[Operand.tmp 8], argTypes := #[30] , type := 
  refine wpAnyH_ready (rs := [6]) (by kernel_rfl) (by simp) ?_
  refine AllReadyH.cons rfl (fun K hK => ?_) AllReadyH.nil
  go_simp
  go_at_call 49
  refine (HC1.out w1.drew (HX.out.1.below H1.out.2.2.drew)).mono ?_
  rintro e w2 ⟨v2, rfl, h2, h3⟩
  obtain ⟨A2, n2, rfl⟩ := h2.form
  have hb2 : Below w1.heap.size w1 w2 := ⟨h3.os, h3.tape, h3.output, h3.size, h3.block⟩
  have k0 := H1.out.1.below hb2
  have e0 := k0.cell 0 _ rfl
  have e1 := k0.cell 1 _ rfl
  have e2 := k0.cell 2 _ rfl
  have e3 := k0.cell 3 _ rfl
  have e4 := k0.cell 4 _ rfl
  have H2 := Lib.hid (And.intro (show BysF (fun g => w1.heap.size ≤ g ∧ g < w2.heap.size) w2 _ root from h2.foot) (And.intro hb2 (And.intro k0 (H1.out.2.1.below hb2))))
  clear h2 h3 hb2 k0
  go_wp2_with fail
  refine hK.out _ _ ⟨e0, e1, e2, e3, e4⟩ (fun hHeld6 => ?_)
  clear hK K
  try simp only [Act.put, List.setIfInBounds_toArray, List.set_cons_zero, List.set_cons_succ]
  refine take_yes 7 10 rfl rfl (by kernel_rfl) (by kernel_rfl) (by kernel_rfl) (fun _ _ _ h => h) (by assumption) (by rfl) (v := ?_) ?_ ?_
  rotate_left 1
  · (intro w hSw; (try dsimp only at hSw); go_simp; try with_reducible rfl)
  simp only [List.setIfInBounds_toArray, List.set_cons_zero, List.set_cons_succ]
  -- 10:  dst := some 13, op := Op.call  callee := Callee.value (Operand.func 57), args := #[Operand.tmp 12], argTypes := #[38] , type :
  refine wpAnyH_ready (rs := [10]) (by kernel_rfl) (by simp) ?_
  refine AllReadyH.cons rfl (fun K hK => ?_) AllReadyH.nil
  go_simp
  go_at_call 55
  refine (HC2.out w2 _ ⟨_, _, rfl, HX.out.2.1.below (H1.out.2.2.trans (H2.out.2.1.mono H1.out.2.2.size)), HX.out.2.2.below (H1.out.2.2.trans (H2.out.2.1.mono H1.out.2.2.size))⟩).mono ?_
  rintro e w3 ⟨v3, rfl, ⟨p3, q3, rfl, h4, h6⟩, h5⟩
  obtain ⟨A3, n3, rfl⟩ := h4.rws.form
  obtain ⟨A4, n4, rfl⟩ := h6.rws.form
  have k0 := H2.out.2.2.1.below h5
  have k1 := H2.out.2.2.2.below h5
  have i0 := k0.cell 0 _ rfl
  have i1 := k0.cell 1 _ rfl
  have i2 := k0.cell 2 _ rfl
  have i3 := k0.cell 3 _ rfl
  have i4 := k0.cell 4 _ rfl
  have j0 := k1.cell 0 _ rfl
  have j1 := k1.cell 1 _ rfl
  have j2 := k1.cell 2 _ rfl
  have j3 := k1.cell 3 _ rfl
  have j4 := k1.cell 4 _ rfl
  have g0 := k1.free 0
  have g1 := k1.free 1
  have g2 := k1.free 2
  have g3 := k1.free 3
  have g4 := k1.free 4
  have H3 := Lib.hid (And.intro h4 (And.intro h6 (And.intro (H2.out.1.below h5) (And.intro k1 (And.intro (H1.out.2.2.trans ((H2.out.2.1.trans (h5.mono H2.out.2.1.size)).mono H1.out.2.2.size)) (And.intro H2.out.2.1.size h5.size))))))
  clear h4 h5 h6 k0 k1 e0 e1 e2 e3 e4
  go_wp2_with fail
  refine hK.out _ _ ⟨i0, i1, i2, i3, i4⟩ (fun hHeld10 => ?_)
  clear hK K
  try simp only [Act.put, List.setIfInBounds_toArray, List.set_cons_zero, List.set_cons_succ]
  refine take_yes 11 14 rfl rfl (by kernel_rfl) (by kernel_rfl) (by kernel_rfl) (fun _ _ _ h => h) (by assumption) (by rfl) (v := ?_) ?_ ?_
  rotate_left 1
  · (intro w hSw; (try dsimp only at hSw); go_simp; try with_reducible rfl)
  simp only [List.setIfInBounds_toArray, List.set_cons_zero, List.set_cons_succ]
  -- 12:  dst := none, op := Op.store 40 (Operand.tmp 2) (Operand.tmp 14), type := 0
  refine wpAnyH_ready (rs := [12]) (by kernel_rfl) (by simp) ?_
  refine AllReadyH.cons rfl (fun K hK => ?_) AllReadyH.nil
  go_simp
  have hq : True := trivial
  refine hK.out _ _ ⟨by go_keep, by go_keep, by go_keep, by go_keep, by go_keep⟩ (fun hHeld12 => ?_)
  clear hK K
  try simp only [Act.put, List.setIfInBounds_toArray, List.set_cons_zero, List.set_cons_succ]
  refine wpAnyH_done (by kernel_rfl) ?_ _
  have hch : Chg w3 (((((w3.setCell ⟨w.heap.size + 1, 0, none⟩ (.int .i64 num)).setCell ⟨w.heap.size + 1, 1, none⟩ (.slice A2 root.length n2)).setCell ⟨w.heap.size + 1, 2, none⟩ (.int .i64 ix)).setCell ⟨w.heap.size + 1, 3, none⟩ (.slice A3 Ps.length n3)).setCell ⟨w.heap.size + 1, 4, none⟩ (.slice A4 Qs.length n4)) (fun k => k = w.heap.size + 1) := chg_cell (chg_cell (chg_cell (chg_cell (chg_cell (Chg.refl w3 _) 0 _) 1 _) 2 _) 3 _) 4 _
  have hfin : Blk (((((w3.setCell ⟨w.heap.size + 1, 0, none⟩ (.int .i64 num)).setCell ⟨w.heap.size + 1, 1, none⟩ (.slice A2 root.length n2)).setCell ⟨w.heap.size + 1, 2, none⟩ (.int .i64 ix)).setCell ⟨w.heap.size + 1, 3, none⟩ (.slice A3 Ps.length n3)).setCell ⟨w.heap.size + 1, 4, none⟩ (.slice A4 Qs.length n4)) (w.heap.size + 1) 40 [.int .i64 num, .slice A2 root.length n2, .int .i64 ix, .slice A3 Ps.length n3, .slice A4 Qs.length n4] := ((((H3.out.2.2.2.1.set 0 _ (by simp)).set 1 _ (by simp)).set 2 _ (by simp)).set 3 _ (by simp)).set 4 _ (by simp)
  generalize ((((w3.setCell ⟨w.heap.size + 1, 0, none⟩ (.int .i64 num)).setCell ⟨w.heap.size + 1, 1, none⟩ (.slice A2 root.length n2)).setCell ⟨w.heap.size + 1, 2, none⟩ (.int .i64 ix)).setCell ⟨w.heap.size + 1, 3, none⟩ (.slice A3 Ps.length n3)).setCell ⟨w.heap.size + 1, 4, none⟩ (.slice A4 Qs.length n4) = w4 at *
  have HF := Lib.hid (And.intro hch hfin)
  clear hch hfin j0 j1 j2 j3 j4 g0 g1 g2 g3 g4 i0 i1 i2 i3 i4 c0 c1 c2 c3 c4
  go_wp2
  obtain ⟨h4, h6, h5, h5', h7, h8, h9⟩ := H3.out
  refine bodyPost_ret (v := .agg [.int .i64 num, .slice A2 root.length n2, .int .i64 ix, .slice A3 Ps.length n3, .slice A4 Qs.length n4].toArray) ?_ ?_ ⟨_, rfl, ⟨_, _, _, rfl, ?_, ?_, ?_⟩, ?_⟩
  · exact results_cell_row Tryz.results28 _ _ (w.heap.size + 1) 40 _ (0, 0) _ rfl HF.out.2 under_signed rfl size_signed
  · rfl
  · exact (h5.chg HF.out.1 (fun g hg e => by omega)).mono (fun g hg => ⟨by omega, by have := HF.out.1.size; omega⟩)
  · exact (h4.chg HF.out.1 (fun g hg e => by have := hg.1; omega)).mono (fun g hg => ⟨by have := hg.1; omega, by have := hg.2; have := HF.out.1.size; omega⟩)
  · exact (h6.chg HF.out.1 (fun g hg e => by have := hg.1; omega)).mono (fun g hg => ⟨by have := hg.1; omega, by have := hg.2; have := HF.out.1.size; omega⟩)
  · exact h7.trans (HF.out.1.below h7.size (fun k hk => by omega))
/-- A cosignature. -/
structure CgD where
  wit : Int
  sig : SigD
def CgV (w : World) (v : Value) (s : CgD) : Prop := ∃ p q, v = .agg #[.int .i64 s.wit, .int .i64 s.sig.index, p, q] ∧ Rws w p s.sig.parts ∧ Rws w q s.sig.path
def CgF (S : Nat → Prop) (w : World) (v : Value) (s : CgD) : Prop := ∃ p q, v = .agg #[.int .i64 s.wit, .int .i64 s.sig.index, p, q] ∧ RwsF S w p s.sig.parts ∧ RwsF S w q s.sig.path
theorem CgV.below {w w1 : World} {v : Value} {s : CgD} (h : CgV w v s) (hb : Below w.heap.size w w1) : CgV w1 v s := by
  obtain ⟨p, q, e, h1, h2⟩ := h
  exact ⟨p, q, e, h1.below hb, h2.below hb⟩
theorem CgF.cgv {S : Nat → Prop} {w : World} {v : Value} {s : CgD} (h : CgF S w v s) : CgV w v s := by
  obtain ⟨p, q, e, h1, h2⟩ := h
  exact ⟨p, q, e, h1.rws, h2.rws⟩
theorem CgF.chg {S T : Nat → Prop} {w w1 : World} {v : Value} {s : CgD} (h : CgF S w v s) (hc : Chg w w1 T) (hS : ∀ g, S g → ¬ T g) : CgF S w1 v s := by
  obtain ⟨p, q, e, h1, h2⟩ := h
  exact ⟨p, q, e, h1.chg hc hS, h2.chg hc hS⟩
theorem CgF.mono {S T : Nat → Prop} {w : World} {v : Value} {s : CgD} (h : CgF S w v s) (hS : ∀ g, S g → T g) : CgF T w v s := by
  obtain ⟨p, q, e, h1, h2⟩ := h
  exact ⟨p, q, e, h1.mono hS, h2.mono hS⟩
theorem CgF.below {S : Nat → Prop} {w w1 : World} {v : Value} {s : CgD} (h : CgF S w v s) (hb : Below w.heap.size w w1) : CgF S w1 v s := h.chg (Chg.of_below (S := fun _ => False) hb) (fun _ _ h => h)
theorem under_cosig : Tryz.prog.underlying 47 = some (.struct (Tryz.prog.fieldsOf 47)) := by kernel_rfl
theorem size_cosig : (Tryz.prog.info? 47).map (·.size) = some 4 := by kernel_rfl
def RetCg (w : World) (s : CgD) (e : Ending) (w' : World) : Prop := ∃ v, e = .returned v ∧ CgF (Fresh w w') w' v s ∧ Below w.heap.size w w'
set_option maxRecDepth 100000 in
set_option maxHeartbeats 4000000 in
theorem cgcopy_any (v : Value) (s : CgD) (hs : SmallSig s.sig) (w : World) (hv : CgV w v s) :
    Calls Tryz.prog 33 #[v] w (RetCg w s) := by
  obtain ⟨p, q, rfl, h1, h2⟩ := hv
  obtain ⟨P, cp, rfl⟩ := h1.form
  obtain ⟨Q, cq, rfl⟩ := h2.form
  have HC2 := Lib.hid (fun wz v hz => sigcopy_any v s.sig hs wz hz)
  have HX := Lib.hid (And.intro h1 h2)
  clear h1 h2 hs
  obtain ⟨wit, ⟨ix, Ps, Qs⟩⟩ := s
  obtain ⟨k0, k1, kb⟩ := two_of (w := w) [.int .i64 wit, .int .i64 ix, .slice P Ps.length cp, .slice Q Qs.length cq] [.int .i64 0, .int .i64 0, .slice none 0 0, .slice none 0 0] 47 47
  have HW := Lib.hid (And.intro k0 (And.intro k1 kb))
  clear k0 k1 kb
  go_enter Tryz.func33, Tryz.ntmps33
  go_wp2
  refine code_at (fun w1 => Blk w1 w.heap.size 47 [.int .i64 wit, .int .i64 ix, .slice P Ps.length cp, .slice Q Qs.length cq] ∧ Blk w1 (w.heap.size + 1) 47 [.int .i64 0, .int .i64 0, .slice none 0 0, .slice none 0 0] ∧ Below w.heap.size w w1) HW.out ?_
  rintro w1 ⟨k0, k1, kb⟩
  have H1 := Lib.hid (And.intro k0 (And.intro k1 kb))
  have c0 := k0.cell 0 _ rfl
  have c1 := k0.cell 1 _ rfl
  have c2 := k0.cell 2 _ rfl
  have c3 := k0.cell 3 _ rfl
  have hsz1 := k1.lt
  clear k0 k1 kb HW
  refine wp_region_held_drew (S := fun w' => w'.cell? ⟨w.heap.size, 0, none⟩ = some (.int .i64 wit) ∧ w'.cell? ⟨w.heap.size, 1, none⟩ = some (.int .i64 ix) ∧ w'.cell? ⟨w.heap.size, 2, none⟩ = some (.slice P Ps.length cp) ∧ w'.cell? ⟨w.heap.size, 3, none⟩ = some (.slice Q Qs.length cq)) (by kernel_rfl) ?_ (fun hHeld => ?_)
  · exact ⟨c0, c1, c2, c3⟩
  refine take_yes 0 3 rfl rfl (by kernel_rfl) (by kernel_rfl) (by kernel_rfl) (fun _ _ _ h => h) (by assumption) (by rfl) (v := ?_) ?_ ?_
  rotate_left 1
  · (intro w hSw; (try dsimp only at hSw); go_simp; try with_reducible rfl)
  simp only [List.setIfInBounds_toArray, List.set_cons_zero, List.set_cons_succ]
  refine take_yes 1 4 rfl rfl (by kernel_rfl) (by kernel_rfl) (by kernel_rfl) (fun _ _ _ h => h) (by assumption) (by rfl) (v := ?_) ?_ ?_
  rotate_left 1
  · (intro w hSw; (try dsimp only at hSw); go_simp; try with_reducible rfl)
  simp only [List.setIfInBounds_toArray, List.set_cons_zero, List.set_cons_succ]
  refine take_yes 2 5 rfl rfl (by kernel_rfl) (by kernel_rfl) (by kernel_rfl) (fun _ _ _ h => h) (by assumption) (by rfl) (v := ?_) ?_ ?_
  rotate_left 1
  · (intro w hSw; (try dsimp only at hSw); go_simp; try with_reducible rfl)
  simp only [List.setIfInBounds_toArray, List.set_cons_zero, List.set_cons_succ]
  refine take_yes 3 6 rfl rfl (by kernel_rfl) (by kernel_rfl) (by kernel_rfl) (fun _ _ _ h => h) (by assumption) (by rfl) (v := ?_) ?_ ?_
  rotate_left 1
  · (intro w hSw; (try dsimp only at hSw); go_simp; try with_reducible rfl)
  simp only [List.setIfInBounds_toArray, List.set_cons_zero, List.set_cons_succ]
  -- 4:  dst := some 7, op := Op.call  callee := Callee.value (Operand.func 57), args := #[Operand.tmp 6], argTypes := #[38] , type := 
  refine wpAnyH_ready (rs := [4]) (by kernel_rfl) (by simp) ?_
  refine AllReadyH.cons rfl (fun K hK => ?_) AllReadyH.nil
  go_simp
  go_at_call 55
  refine (HC2.out w1.drew _ ⟨_, _, rfl, HX.out.1.below H1.out.2.2.drew, HX.out.2.below H1.out.2.2.drew⟩).mono ?_
  rintro e w3 ⟨v3, rfl, ⟨p3, q3, rfl, h4, h6⟩, h5'⟩
  obtain ⟨A3, n3, rfl⟩ := h4.rws.form
  obtain ⟨A4, n4, rfl⟩ := h6.rws.form
  have h5 : Below w1.heap.size w1 w3 := ⟨h5'.os, h5'.tape, h5'.output, h5'.size, h5'.block⟩
  have k0 := H1.out.1.below h5
  have k1 := H1.out.2.1.below h5
  have i0 := k0.cell 0 _ rfl
  have i1 := k0.cell 1 _ rfl
  have i2 := k0.cell 2 _ rfl
  have i3 := k0.cell 3 _ rfl
  have j0 := k1.cell 0 _ rfl
  have j1 := k1.cell 1 _ rfl
  have j2 := k1.cell 2 _ rfl
  have j3 := k1.cell 3 _ rfl
  have g0 := k1.free 0
  have g1 := k1.free 1
  have g2 := k1.free 2
  have g3 := k1.free 3
  have H3 := Lib.hid (And.intro (show RwsF (fun g => w1.heap.size ≤ g ∧ g < w3.heap.size) w3 _ Ps from h4) (And.intro (show RwsF (fun g => w1.heap.size ≤ g ∧ g < w3.heap.size) w3 _ Qs from h6) (And.intro k1 (And.intro (H1.out.2.2.trans (h5.mono H1.out.2.2.size)) h5.size))))
  clear h4 h5 h5' h6 k0 k1
  go_wp2_with fail
  refine hK.out _ _ ⟨i0, i1, i2, i3⟩ (fun hHeld4 => ?_)
  clear hK K
  try simp only [Act.put, List.setIfInBounds_toArray, List.set_cons_zero, List.set_cons_succ]
  refine take_yes 5 8 rfl rfl (by kernel_rfl) (by kernel_rfl) (by kernel_rfl) (fun _ _ _ h => h) (by assumption) (by rfl) (v := ?_) ?_ ?_
  rotate_left 1
  · (intro w hSw; (try dsimp only at hSw); go_simp; try with_reducible rfl)
  simp only [List.setIfInBounds_toArray, List.set_cons_zero, List.set_cons_succ]
  -- 6:  dst := none, op := Op.store 58 (Operand.tmp 2) (Operand.tmp 8), type := 0
  refine wpAnyH_ready (rs := [6]) (by kernel_rfl) (by simp) ?_
  refine AllReadyH.cons rfl (fun K hK => ?_) AllReadyH.nil
  go_simp
  have hq : True := trivial
  refine hK.out _ _ ⟨by go_keep, by go_keep, by go_keep, by go_keep⟩ (fun hHeld6 => ?_)
  clear hK K
  try simp only [Act.put, List.setIfInBounds_toArray, List.set_cons_zero, List.set_cons_succ]
  refine wpAnyH_done (by kernel_rfl) ?_ _
  have hch : Chg w3 ((((w3.setCell ⟨w.heap.size + 1, 0, none⟩ (.int .i64 wit)).setCell ⟨w.heap.size + 1, 1, none⟩ (.int .i64 ix)).setCell ⟨w.heap.size + 1, 2, none⟩ (.slice A3 Ps.length n3)).setCell ⟨w.heap.size + 1, 3, none⟩ (.slice A4 Qs.length n4)) (fun k => k = w.heap.size + 1) := chg_cell (chg_cell (chg_cell (chg_cell (Chg.refl w3 _) 0 _) 1 _) 2 _) 3 _
  have hfin : Blk ((((w3.setCell ⟨w.heap.size + 1, 0, none⟩ (.int .i64 wit)).setCell ⟨w.heap.size + 1, 1, none⟩ (.int .i64 ix)).setCell ⟨w.heap.size + 1, 2, none⟩ (.slice A3 Ps.length n3)).setCell ⟨w.heap.size + 1, 3, none⟩ (.slice A4 Qs.length n4)) (w.heap.size + 1) 47 [.int .i64 wit, .int .i64 ix, .slice A3 Ps.length n3, .slice A4 Qs.length n4] := (((H3.out.2.2.1.set 0 _ (by simp)).set 1 _ (by simp)).set 2 _ (by simp)).set 3 _ (by simp)
  generalize (((w3.setCell ⟨w.heap.size + 1, 0, none⟩ (.int .i64 wit)).setCell ⟨w.heap.size + 1, 1, none⟩ (.int .i64 ix)).setCell ⟨w.heap.size + 1, 2, none⟩ (.slice A3 Ps.length n3)).setCell ⟨w.heap.size + 1, 3, none⟩ (.slice A4 Qs.length n4) = w4 at *
  have HF := Lib.hid (And.intro hch hfin)
  clear hch hfin j0 j1 j2 j3 g0 g1 g2 g3 i0 i1 i2 i3 c0 c1 c2 c3
  go_wp2
  obtain ⟨h4, h6, h5', h7, h8⟩ := H3.out
  refine bodyPost_ret (v := .agg [.int .i64 wit, .int .i64 ix, .slice A3 Ps.length n3, .slice A4 Qs.length n4].toArray) ?_ ?_ ⟨_, rfl, ⟨_, _, rfl, ?_, ?_⟩, ?_⟩
  · exact results_cell_row Tryz.results33 _ _ (w.heap.size + 1) 47 _ (0, 0) _ rfl HF.out.2 under_cosig rfl size_cosig
  · rfl
  · exact (h4.chg HF.out.1 (fun g hg e => by omega)).mono (fun g hg => ⟨by omega, by have := HF.out.1.size; omega⟩)
  · exact (h6.chg HF.out.1 (fun g hg e => by omega)).mono (fun g hg => ⟨by omega, by have := HF.out.1.size; omega⟩)
  · exact h7.trans (HF.out.1.below h7.size (fun k hk => by omega))
end Go.Proofs.YtlkgeifmppadmaaGreat

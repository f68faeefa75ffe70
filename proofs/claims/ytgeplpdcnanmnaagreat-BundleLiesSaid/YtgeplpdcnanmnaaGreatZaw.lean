/- The program's checkpoints: Right, what is signed and cosigned. Conditions: as each theorem states them. -/
import Derived.Test.YtgeplpdcnanmnaaGreatZau
import Derived.Test.YtgeplpdcnanmnaaGreatZav
import Derived.Lib.SlBytesConst
namespace Go.Proofs.YtgeplpdcnanmnaaGreat
open Go.RowKit
set_option linter.unusedVariables false
set_option linter.unusedSimpArgs false

set_option maxRecDepth 100000 in
theorem pckright_any (v : Value) (c : CkD) (hl : c.root.length ≤ 1000000000) (w : World) (hv : CkV w v c) :
  Calls Tryz.prog 132 #[v] w fun e w' => e = .returned (.bool (ckB c)) ∧ Below w.heap.size w w' := by
 obtain ⟨p, rfl, h1⟩ := hv
 obtain ⟨P, cp, rfl⟩ := h1.form
 have HB0 := Lib.hid ((Below.refl w.heap.size w).alloc (Nat.le_refl _) (.cells #[.int .i64 c.num, .slice P c.root.length cp] 35))
 have HRB : Hid (ckB c = (decide (0 ≤ c.num) && decide (c.num ≤ 256) && decide (c.root.length = 32))) := Lib.hid rfl
 clear h1
 generalize ckB c = RB at *
 generalize c.num = ix at *
 generalize c.root = R at *
 go_enter Tryz.func132, Tryz.ntmps132
 by_cases k1 : 0 ≤ ix
 ·by_cases k2 : ix ≤ 256
  ·have HF : Hid (RB = decide (R.length = 32)) := Lib.hid (by rw [HRB.out]; simp [k1, k2])
   by_cases k3 : R.length = 32
   ·have n3 : (((R.length : Nat) : Int) == 32) = true := by simp [k3]
    have HT : Hid (RB = true) := Lib.hid (by rw [HF.out]; simp [k3])
    clear k3
    go_wp2
    go_ret
    exact ⟨by rw [HT.out]; rfl, HB0.out⟩
   ·have n3 : (((R.length : Nat) : Int) == 32) = false := by simp; omega
    have HT : Hid (RB = false) := Lib.hid (by rw [HF.out]; simp [k3])
    clear k3
    go_wp2
    go_ret
    exact ⟨by rw [HT.out]; rfl, HB0.out⟩
  ·have HT : Hid (RB = false) := Lib.hid (by rw [HRB.out]; simp [k2])
   go_wp2
   go_ret
   exact ⟨by rw [HT.out]; rfl, HB0.out⟩
 ·have HT : Hid (RB = false) := Lib.hid (by rw [HRB.out]; simp [k1])
  go_wp2
  go_ret
  exact ⟨by rw [HT.out]; rfl, HB0.out⟩
theorem bys_newz (w : World) (t : TypeId) (l : List UInt8) (fz : Nat × Nat) (n : Nat) (hn : l.length = n) (hm : n ≤ 1000000) : Bys (w.alloc (.cells (bys l).toArray t fz)) (.slice (some ⟨w.heap.size, 0, none⟩) n n) l := by
 subst hn
 refine ⟨by rw [bys_length]; omega, .inr ⟨_, 0, l.length, rfl, Nat.le_refl _, by unfold maxLen; omega, by simp, fun j u hj => ?_⟩⟩
 have hb : (w.alloc (.cells (bys l).toArray t fz)).heap[w.heap.size]? = some (.cells (bys l).toArray t fz) := blk_new w _
 rw [Nat.zero_add]
 generalize w.alloc (.cells (bys l).toArray t fz) = W at *
 generalize w.heap.size = g at *
 simp [World.cell?, hb, hj]

set_option maxRecDepth 100000 in
set_option maxHeartbeats 1000000 in
theorem pckbody_any (v : Value) (c : CkD) (hl : c.root.length ≤ 100000000) (w : World) (hv : CkV w v c) :
  Calls Tryz.prog 134 #[v] w fun e w' => ∃ v', e = .returned v' ∧ Bys w' v' (bodyS tagCk c) ∧ Below w.heap.size w w' := by
 obtain ⟨p, rfl, h1⟩ := hv
 obtain ⟨P, cp, rfl⟩ := h1.form
 have HX := Lib.hid h1
 have HBS : Hid (bodyS tagCk c = if ckB c then tagCk ++ be4 c.num ++ c.root else []) := Lib.hid rfl
 have HCK : Hid (ckB c = true → 0 ≤ c.num ∧ c.num ≤ 256) := Lib.hid (by intro h; simp [ckB] at h; exact ⟨h.1.1, h.1.2⟩)
 generalize bodyS tagCk c = BS at *
 clear h1
 go_enter Tryz.func134, Tryz.ntmps134
 have hk0 := Blk.new w 35 [.int .i64 c.num, .slice P c.root.length cp]
 have hb0 : Below w.heap.size w (w.alloc (.cells #[.int .i64 c.num, .slice P c.root.length cp] 35)) := (Below.refl w.heap.size w).alloc (Nat.le_refl _) _
 have HW := Lib.hid (And.intro hk0 hb0)
 clear hk0 hb0
 go_wp2_with fail
 refine (pckright_any _ c (by omega) _ ⟨_, rfl, HX.out.below HW.out.2⟩).mono ?_
 rintro e w1 ⟨rfl, h1⟩
 have HW1 := Lib.hid (And.intro (HW.out.1.below h1) (HW.out.2.trans (h1.mono (by simp))))
 clear h1
 by_cases hck : ckB c = true
 ·rw [hck] at HBS
  obtain ⟨n0, n1⟩ := HCK.out hck
  rw [hck]
  have HBS2 : Hid (BS = (tagCk ++ be4 c.num) ++ c.root) := Lib.hid (by rw [HBS.out, if_pos rfl])
  clear HBS hck
  go_wp2_with fail
  refine (wnew_any w1).mono ?_
  rintro e w2 ⟨rfl, h2, h3⟩
  have H2 := Lib.hid (And.intro h2 h3)
  have hlt2 : w1.heap.size < w2.heap.size := by obtain ⟨v, h, _⟩ := h2; exact h.lt
  clear h2 h3
  have hal := (Below.refl w1.heap.size w2).alloc (Nat.le_of_lt hlt2) (.cells (bys tagCk).toArray 5 (16, 16 + 1))
  have hal2 := (Below.refl w2.heap.size w2).alloc (Nat.le_refl _) (.cells (bys tagCk).toArray 5 (16, 16 + 1))
  have HT2 := Lib.hid (And.intro (bys_newz w2 5 tagCk (16, 16 + 1) 16 rfl (by decide)) (And.intro (H2.out.1.below hal2) (H2.out.2.trans hal)))
  clear hal hal2
  have kc := fun (w : World) (C : Array Value) (n c : Nat) => Lib.run_convert_bytes_const (P := Tryz.prog) w 24 5 C n c Tryz.underlying24 Tryz.underlying5
  go_wp2_with fail
  refine (wraw_any w1.heap.size w1.heap.size [] tagCk _ (by decide) (by decide) _ (by simp; omega) HT2.out.2.1 HT2.out.1).mono ?_
  rintro e w3 ⟨rfl, h4, h5⟩
  have H3 := Lib.hid (And.intro (show WrX w3 w1.heap.size w1.heap.size tagCk from h4) (HT2.out.2.2.trans h5))
  have hsz3 := H3.out.2.size
  have q0 := (HW1.out.1.below (H3.out.2)).cell 0 _ rfl
  have ew : IntKind.u32.wrap c.num = c.num := by
   rw [show IntKind.u32.wrap c.num = c.num % 4294967296 by simp [IntKind.wrap, IntKind.bits, IntKind.signed]]; omega
  clear h4 h5
  go_wp2_with fail
  refine (wnum_any w1.heap.size w1.heap.size tagCk c.num n0 (by omega) (by decide) _ hsz3 H3.out.1).mono ?_
  rintro e w4 ⟨rfl, h4, h5⟩
  have H4 := Lib.hid (And.intro h4 (H3.out.2.trans h5))
  have hsz4 := H4.out.2.size
  have q1 := (HW1.out.1.below (H4.out.2)).cell 1 _ rfl
  clear h4 h5 q0 ew
  go_wp2_with fail
  refine (wraw_any w1.heap.size w1.heap.size (tagCk ++ be4 c.num) c.root _ (by rw [List.length_append, be4_length]; decide) (by omega) _ hsz4 H4.out.1 (HX.out.below (HW1.out.2.trans (H4.out.2.mono HW1.out.2.size)))).mono ?_
  rintro e w5 ⟨rfl, h4, h5⟩
  have H5 := Lib.hid (And.intro h4 (H4.out.2.trans h5))
  have hfl : ((tagCk ++ be4 c.num) ++ c.root).length ≤ 1000000000 := by rw [List.length_append, List.length_append, be4_length]; have : tagCk.length = 16 := rfl; omega
  clear h4 h5 q1
  generalize (tagCk ++ be4 c.num) ++ c.root = FULL at *
  go_wp2_with fail
  refine (wdone_any w1.heap.size w1.heap.size FULL hfl w5 H5.out.1).mono ?_
  rintro e w6 ⟨v6, rfl, h6, h7⟩
  have H6 := Lib.hid (And.intro h6.bys (H5.out.2.trans (h7.mono H5.out.2.size)))
  obtain ⟨A6, c6, rfl⟩ := h6.form
  clear h6 h7
  go_wp2
  go_ret
  exact ⟨_, rfl, by rw [HBS2.out]; exact H6.out.1, HW1.out.2.trans (H6.out.2.mono HW1.out.2.size)⟩
 ·have hck' : ckB c = false := by simpa using hck
  rw [hck'] at HBS
  rw [hck']
  have HF : Hid (BS = []) := Lib.hid HBS.out
  clear HBS hck hck'
  go_wp2
  go_ret
  exact ⟨_, rfl, by rw [HF.out]; exact Sho.nil _ _, HW1.out.2⟩

set_option maxRecDepth 100000 in
set_option maxHeartbeats 1000000 in
theorem pckcosign_any (v : Value) (c : CkD) (hl : c.root.length ≤ 100000000) (w : World) (hv : CkV w v c) :
  Calls Tryz.prog 203 #[v] w fun e w' => ∃ v', e = .returned v' ∧ Bys w' v' (bodyS tagCo c) ∧ Below w.heap.size w w' := by
 obtain ⟨p, rfl, h1⟩ := hv
 obtain ⟨P, cp, rfl⟩ := h1.form
 have HX := Lib.hid h1
 have HBS : Hid (bodyS tagCo c = if ckB c then tagCo ++ be4 c.num ++ c.root else []) := Lib.hid rfl
 have HCK : Hid (ckB c = true → 0 ≤ c.num ∧ c.num ≤ 256) := Lib.hid (by intro h; simp [ckB] at h; exact ⟨h.1.1, h.1.2⟩)
 generalize bodyS tagCo c = BS at *
 clear h1
 go_enter Tryz.func203, Tryz.ntmps203
 have hk0 := Blk.new w 35 [.int .i64 c.num, .slice P c.root.length cp]
 have hb0 : Below w.heap.size w (w.alloc (.cells #[.int .i64 c.num, .slice P c.root.length cp] 35)) := (Below.refl w.heap.size w).alloc (Nat.le_refl _) _
 have HW := Lib.hid (And.intro hk0 hb0)
 clear hk0 hb0
 go_wp2_with fail
 refine (pckright_any _ c (by omega) _ ⟨_, rfl, HX.out.below HW.out.2⟩).mono ?_
 rintro e w1 ⟨rfl, h1⟩
 have HW1 := Lib.hid (And.intro (HW.out.1.below h1) (HW.out.2.trans (h1.mono (by simp))))
 clear h1
 by_cases hck : ckB c = true
 ·rw [hck] at HBS
  obtain ⟨n0, n1⟩ := HCK.out hck
  rw [hck]
  have HBS2 : Hid (BS = (tagCo ++ be4 c.num) ++ c.root) := Lib.hid (by rw [HBS.out, if_pos rfl])
  clear HBS hck
  go_wp2_with fail
  refine (wnew_any w1).mono ?_
  rintro e w2 ⟨rfl, h2, h3⟩
  have H2 := Lib.hid (And.intro h2 h3)
  have hlt2 : w1.heap.size < w2.heap.size := by obtain ⟨v, h, _⟩ := h2; exact h.lt
  clear h2 h3
  have hal := (Below.refl w1.heap.size w2).alloc (Nat.le_of_lt hlt2) (.cells (bys tagCo).toArray 5 (17, 17 + 1))
  have hal2 := (Below.refl w2.heap.size w2).alloc (Nat.le_refl _) (.cells (bys tagCo).toArray 5 (17, 17 + 1))
  have HT2 := Lib.hid (And.intro (bys_newz w2 5 tagCo (17, 17 + 1) 17 rfl (by decide)) (And.intro (H2.out.1.below hal2) (H2.out.2.trans hal)))
  clear hal hal2
  have kc := fun (w : World) (C : Array Value) (n c : Nat) => Lib.run_convert_bytes_const (P := Tryz.prog) w 24 5 C n c Tryz.underlying24 Tryz.underlying5
  go_wp2_with fail
  refine (wraw_any w1.heap.size w1.heap.size [] tagCo _ (by decide) (by decide) _ (by simp; omega) HT2.out.2.1 HT2.out.1).mono ?_
  rintro e w3 ⟨rfl, h4, h5⟩
  have H3 := Lib.hid (And.intro (show WrX w3 w1.heap.size w1.heap.size tagCo from h4) (HT2.out.2.2.trans h5))
  have hsz3 := H3.out.2.size
  have q0 := (HW1.out.1.below (H3.out.2)).cell 0 _ rfl
  have ew : IntKind.u32.wrap c.num = c.num := by
   rw [show IntKind.u32.wrap c.num = c.num % 4294967296 by simp [IntKind.wrap, IntKind.bits, IntKind.signed]]; omega
  clear h4 h5
  go_wp2_with fail
  refine (wnum_any w1.heap.size w1.heap.size tagCo c.num n0 (by omega) (by decide) _ hsz3 H3.out.1).mono ?_
  rintro e w4 ⟨rfl, h4, h5⟩
  have H4 := Lib.hid (And.intro h4 (H3.out.2.trans h5))
  have hsz4 := H4.out.2.size
  have q1 := (HW1.out.1.below (H4.out.2)).cell 1 _ rfl
  clear h4 h5 q0 ew
  go_wp2_with fail
  refine (wraw_any w1.heap.size w1.heap.size (tagCo ++ be4 c.num) c.root _ (by rw [List.length_append, be4_length]; decide) (by omega) _ hsz4 H4.out.1 (HX.out.below (HW1.out.2.trans (H4.out.2.mono HW1.out.2.size)))).mono ?_
  rintro e w5 ⟨rfl, h4, h5⟩
  have H5 := Lib.hid (And.intro h4 (H4.out.2.trans h5))
  have hfl : ((tagCo ++ be4 c.num) ++ c.root).length ≤ 1000000000 := by rw [List.length_append, List.length_append, be4_length]; have : tagCo.length = 17 := rfl; omega
  clear h4 h5 q1
  generalize (tagCo ++ be4 c.num) ++ c.root = FULL at *
  go_wp2_with fail
  refine (wdone_any w1.heap.size w1.heap.size FULL hfl w5 H5.out.1).mono ?_
  rintro e w6 ⟨v6, rfl, h6, h7⟩
  have H6 := Lib.hid (And.intro h6.bys (H5.out.2.trans (h7.mono H5.out.2.size)))
  obtain ⟨A6, c6, rfl⟩ := h6.form
  clear h6 h7
  go_wp2
  go_ret
  exact ⟨_, rfl, by rw [HBS2.out]; exact H6.out.1, HW1.out.2.trans (H6.out.2.mono HW1.out.2.size)⟩
 ·have hck' : ckB c = false := by simpa using hck
  rw [hck'] at HBS
  rw [hck']
  have HF : Hid (BS = []) := Lib.hid HBS.out
  clear HBS hck hck'
  go_wp2
  go_ret
  exact ⟨_, rfl, by rw [HF.out]; exact Sho.nil _ _, HW1.out.2⟩
end Go.Proofs.YtgeplpdcnanmnaaGreat

/- The program's own SHA-256: mixing a block in. Conditions: as each theorem states them. -/
import Derived.Test.YtgeplpdcnanmnaaGreatZaa
namespace Go.Proofs.YtgeplpdcnanmnaaGreat
open Go.RowKit
set_option linter.unusedVariables false
set_option linter.unusedSimpArgs false

def bg0 (x : Int) : Int := bits .xor .u32 (bits .xor .u32 (rotr 2 x) (rotr 13 x)) (rotr 22 x)
def bg1 (x : Int) : Int := bits .xor .u32 (bits .xor .u32 (rotr 6 x) (rotr 11 x)) (rotr 25 x)
def chs (e f g : Int) : Int := bits .xor .u32 (bits .and .u32 e f) (bits .and .u32 (bits .xor .u32 IntKind.u32.max e) g)
def maj (a b c : Int) : Int := bits .xor .u32 (bits .xor .u32 (bits .and .u32 a b) (bits .and .u32 a c)) (bits .and .u32 b c)
def rnd : List Int → Int → Int → List Int
 | [a, b, c, d, e, f, g, h], k, w => [(h + bg1 e + chs e f g + k + w + bg0 a + maj a b c) % 4294967296, a, b, c, (d + (h + bg1 e + chs e f g + k + w)) % 4294967296, e, f, g]
 | l, _, _ => l
def rnds (K W s : List Int) : Nat → List Int
 | 0 => s
 | n + 1 => rnd (rnds K W s n) (K.getD n 0) (W.getD n 0)
theorem rnd_length (s : List Int) (k w : Int) (h : s.length = 8) : (rnd s k w).length = 8 := by
 match s, h with
 | [a, b, c, d, e, f, g, h], _ => rfl
theorem rnds_length (K W s : List Int) (h : s.length = 8) (n : Nat) : (rnds K W s n).length = 8 := by
 induction n with
 | zero => exact h
 | succ n ih => exact rnd_length _ _ _ ih
theorem eight {s : List Int} (h : s.length = 8) : ∃ a b c d e f g i, s = [a, b, c, d, e, f, g, i] := by
 match s, h with
 | [a, b, c, d, e, f, g, h], _ => exact ⟨a, b, c, d, e, f, g, h, rfl⟩
def add32 (x y : Int) : Int := (x + y) % 4294967296
def mixF (K s : List Int) (l : List UInt8) : List Int := List.zipWith add32 s (rnds K (sched l) s 64)
theorem mixF_length (K s : List Int) (l : List UInt8) (h : s.length = 8) : (mixF K s l).length = 8 := by
 unfold mixF
 rw [List.length_zipWith, rnds_length K _ s h, h]; rfl

theorem u32_set {w : World} {b : Nat} {t : TypeId} {l : List Int} (h : Blk w b t (u32s l)) (i : Nat) (hi : i < l.length) (y : Int) : Blk (w.setCell ⟨b, i, none⟩ (.int .u32 y)) b t (u32s (l.set i y)) := by
 have h2 := h.set i (.int .u32 y) (by simpa [u32s] using hi)
 unfold u32s at h2 ⊢
 rwa [List.map_set]
theorem blk_set8 {w : World} {b : Nat} {t : TypeId} {A B C D E F G H : Int} (h : Blk w b t (u32s [A, B, C, D, E, F, G, H])) (A' B' C' D' E' F' G' H' : Int) :
  Blk ((((((((w.setCell ⟨b, 0, none⟩ (.int .u32 A')).setCell ⟨b, 1, none⟩ (.int .u32 B')).setCell ⟨b, 2, none⟩ (.int .u32 C')).setCell ⟨b, 3, none⟩ (.int .u32 D')).setCell ⟨b, 4, none⟩ (.int .u32 E')).setCell ⟨b, 5, none⟩ (.int .u32 F')).setCell ⟨b, 6, none⟩ (.int .u32 G')).setCell ⟨b, 7, none⟩ (.int .u32 H')) b t (u32s [A', B', C', D', E', F', G', H']) := by
 have h0 : Blk (w.setCell ⟨b, 0, none⟩ (.int .u32 A')) b t (u32s [A', B, C, D, E, F, G, H]) := u32_set h 0 (Nat.le_of_ble_eq_true rfl) _
 have h1 : Blk ((w.setCell ⟨b, 0, none⟩ (.int .u32 A')).setCell ⟨b, 1, none⟩ (.int .u32 B')) b t (u32s [A', B', C, D, E, F, G, H]) := u32_set h0 1 (Nat.le_of_ble_eq_true rfl) _
 have h2 : Blk (((w.setCell ⟨b, 0, none⟩ (.int .u32 A')).setCell ⟨b, 1, none⟩ (.int .u32 B')).setCell ⟨b, 2, none⟩ (.int .u32 C')) b t (u32s [A', B', C', D, E, F, G, H]) := u32_set h1 2 (Nat.le_of_ble_eq_true rfl) _
 have h3 : Blk ((((w.setCell ⟨b, 0, none⟩ (.int .u32 A')).setCell ⟨b, 1, none⟩ (.int .u32 B')).setCell ⟨b, 2, none⟩ (.int .u32 C')).setCell ⟨b, 3, none⟩ (.int .u32 D')) b t (u32s [A', B', C', D', E, F, G, H]) := u32_set h2 3 (Nat.le_of_ble_eq_true rfl) _
 have h4 : Blk (((((w.setCell ⟨b, 0, none⟩ (.int .u32 A')).setCell ⟨b, 1, none⟩ (.int .u32 B')).setCell ⟨b, 2, none⟩ (.int .u32 C')).setCell ⟨b, 3, none⟩ (.int .u32 D')).setCell ⟨b, 4, none⟩ (.int .u32 E')) b t (u32s [A', B', C', D', E', F, G, H]) := u32_set h3 4 (Nat.le_of_ble_eq_true rfl) _
 have h5 : Blk ((((((w.setCell ⟨b, 0, none⟩ (.int .u32 A')).setCell ⟨b, 1, none⟩ (.int .u32 B')).setCell ⟨b, 2, none⟩ (.int .u32 C')).setCell ⟨b, 3, none⟩ (.int .u32 D')).setCell ⟨b, 4, none⟩ (.int .u32 E')).setCell ⟨b, 5, none⟩ (.int .u32 F')) b t (u32s [A', B', C', D', E', F', G, H]) := u32_set h4 5 (Nat.le_of_ble_eq_true rfl) _
 have h6 : Blk (((((((w.setCell ⟨b, 0, none⟩ (.int .u32 A')).setCell ⟨b, 1, none⟩ (.int .u32 B')).setCell ⟨b, 2, none⟩ (.int .u32 C')).setCell ⟨b, 3, none⟩ (.int .u32 D')).setCell ⟨b, 4, none⟩ (.int .u32 E')).setCell ⟨b, 5, none⟩ (.int .u32 F')).setCell ⟨b, 6, none⟩ (.int .u32 G')) b t (u32s [A', B', C', D', E', F', G', H]) := u32_set h5 6 (Nat.le_of_ble_eq_true rfl) _
 have h7 : Blk ((((((((w.setCell ⟨b, 0, none⟩ (.int .u32 A')).setCell ⟨b, 1, none⟩ (.int .u32 B')).setCell ⟨b, 2, none⟩ (.int .u32 C')).setCell ⟨b, 3, none⟩ (.int .u32 D')).setCell ⟨b, 4, none⟩ (.int .u32 E')).setCell ⟨b, 5, none⟩ (.int .u32 F')).setCell ⟨b, 6, none⟩ (.int .u32 G')).setCell ⟨b, 7, none⟩ (.int .u32 H')) b t (u32s [A', B', C', D', E', F', G', H']) := u32_set h6 7 (Nat.le_of_ble_eq_true rfl) _
 exact h7
theorem chg_cell {w w1 : World} {b : Nat} (h : Chg w w1 (fun k => k = b)) (i : Nat) (v : Value) : Chg w (w1.setCell ⟨b, i, none⟩ v) (fun k => k = b) := h.setCell ⟨b, i, none⟩ v (fun _ => rfl)
theorem chg_set8 (w : World) (b : Nat) (A' B' C' D' E' F' G' H' : Value) :
  Chg w ((((((((w.setCell ⟨b, 0, none⟩ A').setCell ⟨b, 1, none⟩ B').setCell ⟨b, 2, none⟩ C').setCell ⟨b, 3, none⟩ D').setCell ⟨b, 4, none⟩ E').setCell ⟨b, 5, none⟩ F').setCell ⟨b, 6, none⟩ G').setCell ⟨b, 7, none⟩ H') (fun k => k = b) := by
 refine chg_cell ?_ 7 H'
 refine chg_cell ?_ 6 G'
 refine chg_cell ?_ 5 F'
 refine chg_cell ?_ 4 E'
 refine chg_cell ?_ 3 D'
 refine chg_cell ?_ 2 C'
 refine chg_cell ?_ 1 B'
 refine chg_cell ?_ 0 A'
 exact Chg.refl w _
theorem run_index64 (l : List Int) (hl : l.length = 64) (k : Nat) (hk : k < 64) (w : World) : (Instr.index 220 (.agg (u32s l).toArray) (.int .i64 k)).run Tryz.prog w = .ok (.int .u32 (l.getD k 0)) w := by
 have hu : ∀ w, (underlying 220).run Tryz.prog w = .ok (.array 64 53) w := fun w => run_underlying under_row64 w
 have hs := Tryz.sizeOf53
 simp only [Instr.index, Sem.run_bind, hu]
 go_simp
 have h1 : (k : Int) < 64 := by omega
 have h2 : (u32s l)[k]? = some (.int .u32 (l.getD k 0)) := by simp [u32s, List.getElem?_eq_getElem (show k < l.length by omega), List.getD_eq_getElem?_getD]
 rw [if_pos h1, h2]
 rw [List.getD_eq_getElem?_getD, List.getElem?_eq_getElem (show k < l.length by omega)]
 rfl

set_option maxRecDepth 10000 in
set_option maxHeartbeats 2000000 in
theorem mix_any (s K : List Int) (hs : s.length = 8) (hK : K.length = 64) (kb g o c : Nat) (l : List UInt8) (hl : l.length = 64) (hc : 64 ≤ c) (w : World) (hg : g < w.heap.size) (hx : BysAt w g o l) (hk : Blk w kb 220 (u32s K)) :
  Calls Tryz.prog 212 #[.agg (u32s s).toArray, .slice (some ⟨g, o, none⟩) 64 c, .pointer (some ⟨kb, 0, none⟩)] w fun e w' => e = .returned (.agg (u32s (mixF K s l)).toArray) ∧ Below w.heap.size w w' := by
 have HX := Lib.hid (And.intro hx hk)
 clear hx hk
 have HL := Lib.hid (And.intro hl hK)
 clear hl hK
 have HS := Lib.hid hs
 have HM : Hid (mixF K s l = List.zipWith add32 s (rnds K (sched l) s 64)) := Lib.hid rfl
 have HF := Lib.hid (mixF_length K s l hs)
 generalize mixF K s l = M at *
 obtain ⟨a, b, c1, d, e, f, g1, h8, rfl⟩ := eight hs
 clear hs
 show Calls Tryz.prog 212 #[.agg #[.int .u32 a, .int .u32 b, .int .u32 c1, .int .u32 d, .int .u32 e, .int .u32 f, .int .u32 g1, .int .u32 h8], .slice (some ⟨g, o, none⟩) 64 c, .pointer (some ⟨kb, 0, none⟩)] w _
 go_enter Tryz.func212, Tryz.ntmps212
 go_wp2_with fail
 refine calls_at (fun w1 => Below w.heap.size w w1 ∧ Blk w1 w.heap.size 219 (u32s [a, b, c1, d, e, f, g1, h8]) ∧ Blk w1 (w.heap.size + 1) 219 (u32s [0, 0, 0, 0, 0, 0, 0, 0]) ∧ Blk w1 (w.heap.size + 1 + 1) 219 (u32s [a, b, c1, d, e, f, g1, h8])) (blk3 w _ _ _ _ _ _ _ rfl) ?_
 intro w1 hw1
 have hgw : g < w1.heap.size := Nat.lt_of_lt_of_le hg hw1.1.size
 have HX1 := Lib.hid (show BysAt w1 g o l from fun k hk => (hw1.1.cell (p := ⟨g, o + k, none⟩) hg).trans (HX.out.1 k hk))
 have HW1 := Lib.hid hw1
 clear hw1
 refine (spread_any g o c l HL.out.1 hc w1 hgw HX1.out).mono ?_
 rintro e1 w2 ⟨rfl, h2⟩
 have HW := Lib.hid (And.intro (HW1.out.1.trans (h2.mono HW1.out.1.size)) (And.intro (HW1.out.2.1.below h2) (And.intro (HW1.out.2.2.1.below h2) (HW1.out.2.2.2.below h2))))
 clear h2 HW1 HX1 hgw
 have HSL := Lib.hid (sched_length l)
 generalize sched l = W at *
 go_wp2
 go_loopw [19] (fun v19 wr => ∃ (i : Nat), v19 = .int .i64 i ∧ i ≤ 64 ∧ Hid (Below w.heap.size w wr ∧ Blk wr w.heap.size 219 (u32s [a, b, c1, d, e, f, g1, h8]) ∧ Blk wr (w.heap.size + 1) 219 (u32s [0, 0, 0, 0, 0, 0, 0, 0]) ∧ Blk wr (w.heap.size + 1 + 1) 219 (u32s (rnds K W [a, b, c1, d, e, f, g1, h8] i)))) (fun v _ => 64 - (intOf v).toNat)
 case atStart => exact ⟨0, rfl, by omega, HW⟩
 case round =>
  obtain ⟨i, rfl, hi, HI⟩ := hrel
  by_cases hlt : i < 64
  ·have hix := run_index64 W HSL.out i hlt
   have hkc := u32_get (HX.out.2.chg (Chg.of_below (S := fun _ => False) ((HI.out.1).mono (Nat.le_refl _))) (fun h => h)) i (by rw [HL.out.2]; exact hlt)
   have HR : Hid (rnds K W [a, b, c1, d, e, f, g1, h8] (i + 1) = rnd (rnds K W [a, b, c1, d, e, f, g1, h8] i) (K.getD i 0) (W.getD i 0)) := Lib.hid rfl
   have hlen := rnds_length K W [a, b, c1, d, e, f, g1, h8] rfl i
   generalize W.getD i 0 = wi at *
   generalize K.getD i 0 = ki at *
   generalize rnds K W [a, b, c1, d, e, f, g1, h8] i = S0 at *
   obtain ⟨A, B, C, D, E, F, G, H, rfl⟩ := eight hlen
   clear hlen
   have q0 := u32_get HI.out.2.2.2 0 (by simp)
   have q1 := u32_get HI.out.2.2.2 1 (by simp)
   have q2 := u32_get HI.out.2.2.2 2 (by simp)
   have q3 := u32_get HI.out.2.2.2 3 (by simp)
   have q4 := u32_get HI.out.2.2.2 4 (by simp)
   have q5 := u32_get HI.out.2.2.2 5 (by simp)
   have q6 := u32_get HI.out.2.2.2 6 (by simp)
   have q7 := u32_get HI.out.2.2.2 7 (by simp)
   simp only [List.getD_cons_zero, List.getD_cons_succ] at q0 q1 q2 q3 q4 q5 q6 q7
   have ff : ∀ n k, (wr.drewN n).frozen? ⟨w.heap.size + 1 + 1, k, none⟩ = false := fun n k => HI.out.2.2.2.free k
   go_wp2
   go_quiet ((go_at_call 217; exact quiet_here (right_z _ (by unfold TurnsZ; omega) _ _)))
   go_wp2
   go_quiet (fail)
   go_wp2
   go_quiet ((go_at_call 217; exact quiet_there (right_z _ (by unfold TurnsZ; omega) _ _)))
   go_wp2
   have HN : Hid (∀ n, (Below w.heap.size w (wr.drewN n) ∧ Blk (wr.drewN n) w.heap.size 219 (u32s [a, b, c1, d, e, f, g1, h8]) ∧ Blk (wr.drewN n) (w.heap.size + 1) 219 (u32s [0, 0, 0, 0, 0, 0, 0, 0]) ∧ Blk (wr.drewN n) (w.heap.size + 1 + 1) 219 (u32s [A, B, C, D, E, F, G, H]))) := Lib.hid (fun n => ⟨below_drewN HI.out.1 n, HI.out.2.1, HI.out.2.2.1, HI.out.2.2.2⟩)
   clear ff q0 q1 q2 q3 q4 q5 q6 q7
   go_roundw
   case rel =>
    refine ⟨i + 1, by go_num, by omega, Lib.hid ?_⟩
    rw [HR.out]
    have hz := below_drewN HI.out.1
    exact ⟨(hz _).trans ((chg_set8 _ _ _ _ _ _ _ _ _ _).below (hz _).size (fun k hk => by omega)), Blk.chg (HI.out.2.1.drewN _) (chg_set8 _ _ _ _ _ _ _ _ _ _) (by omega), Blk.chg (HI.out.2.2.1.drewN _) (chg_set8 _ _ _ _ _ _ _ _ _ _) (by omega), blk_set8 (HI.out.2.2.2.drewN _) _ _ _ _ _ _ _ _⟩
   case measure => simp [intOf]; omega
  ·obtain rfl : i = 64 := by omega
   have hl8 := rnds_length K W [a, b, c1, d, e, f, g1, h8] rfl 64
   generalize rnds K W [a, b, c1, d, e, f, g1, h8] 64 = V at *
   have HV := Lib.hid hl8
   clear hl8 HW HSL
   rw [show ((64 : Nat) : Int) = 64 from rfl]
   go_wp2
   go_loopw [111] (fun v111 wr => ∃ (i : Nat), v111 = .int .i64 i ∧ i ≤ 8 ∧ Hid (Below w.heap.size w wr ∧ Blk wr w.heap.size 219 (u32s (M.take i ++ [a, b, c1, d, e, f, g1, h8].drop i)) ∧ Blk wr (w.heap.size + 1) 219 (u32s [0, 0, 0, 0, 0, 0, 0, 0]) ∧ Blk wr (w.heap.size + 1 + 1) 219 (u32s V))) (fun v _ => 8 - (intOf v).toNat)
   case atStart => exact ⟨0, rfl, by omega, HI⟩
   case round =>
    clear HI
    obtain ⟨i, rfl, hi, HI⟩ := hrel
    by_cases hlt : i < 8
    ·have hMi : Hid (M[i]'(by rw [HF.out]; exact hlt) = add32 ([a, b, c1, d, e, f, g1, h8].getD i 0) (V.getD i 0)) := Lib.hid (by
      have h1 : i < [a, b, c1, d, e, f, g1, h8].length := hlt
      have h2 : i < V.length := by rw [HV.out]; exact hlt
      simp only [HM.out, List.getElem_zipWith, List.getD_eq_getElem?_getD, List.getElem?_eq_getElem h1, List.getElem?_eq_getElem h2, Option.getD_some])
     have hcut : Hid (M.take i ++ [a, b, c1, d, e, f, g1, h8].drop i = M.take i ++ ([a, b, c1, d, e, f, g1, h8].getD i 0) :: [a, b, c1, d, e, f, g1, h8].drop (i + 1)) := Lib.hid (by
      have h1 : i < [a, b, c1, d, e, f, g1, h8].length := hlt
      rw [List.drop_eq_getElem_cons h1, List.getD_eq_getElem?_getD, List.getElem?_eq_getElem h1]; rfl)
     have hb := HI.out.2.1
     rw [hcut.out] at hb
     have hlen : (M.take i).length = i := by rw [List.length_take, HF.out]; omega
     have q0 := u32_mid hb hlen
     have HB := Lib.hid (And.intro hb hlen)
     clear hb hlen
     have q1 := u32_get HI.out.2.2.2 i (by rw [HV.out]; exact hlt)
     have ff : wr.drew.frozen? ⟨w.heap.size, i, none⟩ = false := HB.out.1.free i
     have HT : Hid (M.take (i + 1) = M.take i ++ [M[i]'(by rw [HF.out]; exact hlt)]) := Lib.hid (List.take_succ_eq_append_getElem (by rw [HF.out]; exact hlt))
     generalize [a, b, c1, d, e, f, g1, h8].getD i 0 = x at *
     generalize V.getD i 0 = y at *
     go_wp2
     go_region
     go_wp2
     go_roundw
     case rel =>
      refine ⟨i + 1, by go_num, by omega, Lib.hid ⟨HI.out.1.drew.setCell (Nat.le_refl _) _, ?_, Blk.setOther HI.out.2.2.1.drew _ _ (by simp), Blk.setOther HI.out.2.2.2.drew _ _ (fun e => by have e' : w.heap.size + 1 + 1 = w.heap.size := e; omega)⟩⟩
      rw [HT.out, hMi.out, List.append_assoc]
      exact u32_put HB.out.1.drew HB.out.2 _
     case measure => simp [intOf]; omega
    ·obtain rfl : i = 8 := by omega
     have hb := HI.out.2.1
     rw [List.take_of_length_le (by rw [HF.out]; decide), show [a, b, c1, d, e, f, g1, h8].drop 8 = [] from rfl, List.append_nil] at hb
     have HB := Lib.hid (And.intro hb HI.out.2.2.1)
     have HBel := Lib.hid HI.out.1
     clear hb HI
     go_wp2_with (first
      | (refine wpList_load_row rfl 219 (.tmp 3) rfl w.heap.size rfl 219 (u32s M).toArray (0, 0) _ HB.out.1 under_row8 rfl (size_row8 M HF.out) ?_)
      | (refine wpList_store_row rfl 219 (.tmp 6) (.tmp 123) rfl (w.heap.size + 1) (u32s M).toArray rfl rfl 219 _ HB.out.2 (size_row8 M HF.out) (by simp [u32s, HF.out]) (u32s_one M) ?_))
     have hfin : Blk (wr.setRow (w.heap.size + 1) (u32s M).toArray) (w.heap.size + 1) 219 (u32s M) := blk_setRow HB.out.2 _
     refine bodyPost_ret (v := .agg (u32s M).toArray) ?_ ?_ ⟨rfl, ?_⟩
     ·exact results_cell_row Tryz.results212 _ _ (w.heap.size + 1) 219 _ (0, 0) _ rfl hfin under_row8 rfl (size_row8 M HF.out)
     ·rfl
     ·exact HBel.out.trans ((chg_setRow wr (w.heap.size + 1) _).below HBel.out.size (fun k hk => by omega))
end Go.Proofs.YtgeplpdcnanmnaaGreat

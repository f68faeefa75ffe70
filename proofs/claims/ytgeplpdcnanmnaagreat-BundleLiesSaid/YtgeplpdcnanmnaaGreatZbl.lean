/- keep.Cut: the first bytes of a text. keep.Few: the first texts of a list, each cut. keep.Sized: a text brought to a length. Conditions: as each theorem states them. -/
import Derived.Test.YtgeplpdcnanmnaaGreatZbi
import Derived.Test.YtgeplpdcnanmnaaGreatZao
import Derived.Laws.CopyOwn
import Derived.Laws.MakeOwn
namespace Go.Proofs.YtgeplpdcnanmnaaGreat
open Go.RowKit
set_option linter.unusedVariables false
set_option linter.unusedSimpArgs false

theorem bys_pre {w : World} {g o c : Nat} {l : List UInt8} (n : Nat) (hn : n ≤ l.length) (h : Bys w (.slice (some ⟨g, o, none⟩) l.length c) l) : Bys w (.slice (some ⟨g, o, none⟩) n c) (l.take n) := by
 obtain ⟨h1, h2⟩ := h
 have hl : (l.take n).length = n := by rw [List.length_take]; omega
 refine ⟨by simp [bys], ?_⟩
 rw [hl]
 rcases h2 with ⟨h0, A, c1, e⟩ | ⟨g1, o1, c1, e, h3, h4, h5, h6⟩
 ·obtain rfl : n = 0 := by omega
  exact .inl ⟨rfl, _, _, rfl⟩
 ·injection e with e1 e2 e3
  injection e1 with e1
  injection e1 with e4 e5
  subst e4 e5 e3
  refine .inr ⟨g, o, c, rfl, by omega, h4, h5, fun j u hj => h6 j u ?_⟩
  have e6 : bys (l.take n) = (bys l).take n := by unfold bys; rw [List.map_take]
  rw [e6, List.getElem?_take] at hj
  by_cases hjn : j < n
  ·rw [if_pos hjn] at hj
   exact hj
  ·rw [if_neg hjn] at hj
   cases hj
theorem cut_any (v : Value) (l : List UInt8) (n : Int) (hn : 0 ≤ n) (w : World) (h : Bys w v l) :
  Calls Tryz.prog 49 #[v, .int .i64 n] w fun e w' => ∃ v', e = .returned v' ∧ (∀ w2, Bys w2 v l → Bys w2 v' (l.take n.toNat)) ∧ w = w' := by
 have hform := h.2
 obtain ⟨m, rfl⟩ := Int.eq_ofNat_of_zero_le hn
 rw [Int.toNat_natCast]
 by_cases hlt : m < l.length
 ·rcases hform with ⟨h0, -⟩ | ⟨g, o, c, rfl, hnc, hcm, hg, hc⟩
  ·omega
  ·have HR := Lib.hid (fun (w2 : World) (h2 : Bys w2 (.slice (some ⟨g, o, none⟩) l.length c) l) => bys_pre m (by omega) h2)
   have hlt2 : ((m : Nat) : Int) < ((l.length : Nat) : Int) := by omega
   have hmc : m ≤ c := by omega
   have hmc2 : ((m : Nat) : Int) ≤ ((c : Nat) : Int) := by omega
   clear h hc
   go_enter Tryz.func49, Tryz.ntmps49
   go_wp2
   go_ret
   exact ⟨_, rfl, HR.out, rfl⟩
 ·have HR : Hid (∀ w2, Bys w2 v l → Bys w2 v (l.take m)) := Lib.hid (fun w2 h2 => by rw [List.take_of_length_le (by omega)]; exact h2)
  have hge2 : ¬ ((m : Nat) : Int) < ((l.length : Nat) : Int) := by omega
  obtain ⟨A, c, rfl⟩ := h.form
  clear h hform
  go_enter Tryz.func49, Tryz.ntmps49
  go_wp2
  go_ret
  exact ⟨_, rfl, HR.out, rfl⟩
def fewL (ls : List (List UInt8)) (m k : Nat) : List (List UInt8) := (ls.take k).map (fun l => l.take m)
theorem fewL_succ {ls : List (List UInt8)} {m k : Nat} (h : k < ls.length) : fewL ls m (k + 1) = fewL ls m k ++ [ls[k].take m] := by
 unfold fewL
 rw [List.take_add_one, List.getElem?_eq_getElem h, List.map_append]
 rfl
theorem fewL_length {ls : List (List UInt8)} {m k : Nat} (h : k ≤ ls.length) : (fewL ls m k).length = k := by
 unfold fewL
 rw [List.length_map, List.length_take]
 omega
theorem fewL_all {ls : List (List UInt8)} {m k n : Nat} (hk : k ≤ ls.length) (h : k = ls.length ∨ k = n) (hn : k ≤ n) : fewL ls m k = fewL ls m n := by
 rcases h with rfl | rfl
 ·unfold fewL
  rw [List.take_of_length_le (Nat.le_refl _), List.take_of_length_le hn]
 ·rfl
set_option maxRecDepth 100000 in
set_option maxHeartbeats 4000000 in
theorem few_any (v : Value) (ls : List (List UInt8)) (n m : Nat) (hsm : ls.length ≤ 1000000000) (w : World) (h : Rws w v ls) :
  Calls Tryz.prog 14 #[v, .int .i64 n, .int .i64 m] w fun e w' => ∃ v', e = .returned v' ∧ OwnV w' w.heap.size v' (fewL ls m n) ∧ Below w.heap.size w w' := by
 obtain ⟨i0, hi0, hz0, hz1, hz2⟩ := info_parts info_bytes
 obtain ⟨A, c, rfl⟩ := h.form
 have HX := Lib.hid h
 have HAL := Lib.hid (fun (k : Nat) (h1 : k ≤ ls.length) (h2 : k = ls.length ∨ k = n) (h3 : k ≤ n) => fewL_all (m := m) h1 h2 h3)
 generalize fewL ls m n = RES at *
 clear h
 go_enter Tryz.func14, Tryz.ntmps14
 go_wp2
 go_loopw [7, 8] (fun v7 v8 wr => ∃ k : Nat, v8 = .int .i64 k ∧ k ≤ ls.length ∧ k ≤ n ∧ Hid (Below w.heap.size w wr ∧ OwnV wr w.heap.size v7 (fewL ls m k))) (fun _ v _ => ls.length - (intOf v).toNat)
 case atStart => exact ⟨0, rfl, Nat.zero_le _, Nat.zero_le _, Lib.hid ⟨Below.refl _ _, OwnV.nil _ _⟩⟩
 case round =>
  obtain ⟨k, rfl, hk, hkn, HI⟩ := hrel
  have HLEN := Lib.hid (fewL_length (m := m) hk)
  obtain ⟨A7, c7, rfl⟩ := HI.out.2.rws.form
  by_cases hlt : k < ls.length
  ·by_cases hln : k < n
   ·have hltI : ((k : Nat) : Int) < ((ls.length : Nat) : Int) := by omega
    have hlnI : ((k : Nat) : Int) < ((n : Nat) : Int) := by omega
    obtain ⟨g, o, up, rfl, hg, -, -, hcu, hbu⟩ := HX.out.at' k hlt
    have p0 := (HI.out.1.cell (p := ⟨g, o + k, none⟩) hg).trans hcu
    have HBW := Lib.hid hbu
    have HSU := Lib.hid (fewL_succ (m := m) hlt)
    have HBU := Lib.hid (hbu.below HI.out.1)
    have HCT := Lib.hid (fun (wz : World) (hz : Bys wz up ls[k]) => cut_any up ls[k] m (by omega) wz hz)
    have hpl : (fewL ls m k).length ≤ 1000000000 := by have := HLEN.out; omega
    clear hcu hbu
    have hsz := HI.out.1.size
    obtain ⟨A9, c9, rfl⟩ := HBU.out.form
    generalize ls[k] = P at *
    generalize fewL ls m k = PA at *
    go_wp2_with fail
    refine (HCT.out _ HBU.out).mono ?_
    rintro e w1 ⟨v1, rfl, h1, rfl⟩
    have hw1 := h1 _ HBW.out
    have hw2 := h1 _ HBU.out
    have HN : Hid (0 < (P.take m).length → ∀ q, v1.ownBlock = some q → q < w.heap.size) := Lib.hid (fun hp q hq => Sho.lt hw1 hp q hq)
    rw [Int.toNat_natCast] at hw2
    generalize List.take m P = Q at *
    obtain ⟨A3, c3, rfl⟩ := hw2.form
    have HU := Lib.hid hw2
    obtain ⟨us, hu1, hu2⟩ := HI.out.2
    have HK := Lib.hid (And.intro hu1 hu2)
    clear hu1 hu2 h1 hw1 hw2
    go_wp2_with (at_builtin; (refine wpList_append_lies _ rfl (.tmp 20) (.tmp 27) 28 rfl w.heap.size 24 i0 (.slice none 0 0) 1 24 Tryz.underlying28 hi0 hz0 hz1 hz2 rfl (by decide) _ PA.length us rfl (World.ownsRow.alloc HK.out.1 _) ⟨wr.heap.size, 0, none⟩ 1 1 [.slice A3 Q.length c3] rfl rfl (World.news_of_block (blk_new _ _)) (by simp [Value.oneCell']) (by decide) (by unfold maxLen; omega) (by omega) (by simp; omega) (wr.heap.size + 1) (by simp) ?_); intro g3 c4 W3 hown3 hgrow3 hlie3 hlt3)
    have HV3 : Hid (OwnV W3 w.heap.size (.slice (some ⟨g3, 0, none⟩) (PA.length + 1) c4) (PA ++ [Q])) := Lib.hid (OwnV.push HK.out.1 HK.out.2 HU.out (fun hp q hq e => by have h1 := HN.out hp q hq; have h2 := (World.ownsRow.lt HK.out.1 q e).1; omega) hown3 hgrow3 (by
     rcases hlie3 with e | e
     ·exact .inl (show some g3 = _ from e.symm)
     ·exact .inr ⟨g3, rfl, by omega⟩))
    have HB3 : Hid (Below w.heap.size w W3) := Lib.hid (HI.out.1.trans (((Below.refl w.heap.size wr).alloc hsz _).grown hgrow3 (by simp; omega) (fun k e => (World.ownsRow.lt HK.out.1 k e).1)))
    go_roundw
    case rel => exact ⟨k + 1, by go_num, by omega, by omega, Lib.hid ⟨HB3.out, by rw [HSU.out]; exact HV3.out⟩⟩
    case measure => simp [intOf]; omega
   ·obtain rfl : k = n := by omega
    have hltI : ((k : Nat) : Int) < ((ls.length : Nat) : Int) := by omega
    have HE : Hid (fewL ls m k = RES) := Lib.hid (HAL.out k hk (.inr rfl) (Nat.le_refl _))
    go_wp2
    go_ret
    exact ⟨_, rfl, by rw [← HE.out]; exact HI.out.2, HI.out.1⟩
  ·obtain rfl : k = ls.length := by omega
   have HE : Hid (fewL ls m ls.length = RES) := Lib.hid (HAL.out _ hk (.inl rfl) hkn)
   go_wp2
   go_ret
   exact ⟨_, rfl, by rw [← HE.out]; exact HI.out.2, HI.out.1⟩
theorem made_bytes (n : Nat) : madeCells (Value.int .u8 0).cells (n * 1) = (bys (List.replicate n 0)).toArray := by
 rw [Nat.mul_one]
 have e : (Value.int .u8 0).cells = #[Value.int .u8 0] := rfl
 rw [e]
 unfold madeCells
 apply Array.ext
 ·simp [bys]
 ·intro i h1 h2
  simp [bys, ub]
  rw [Nat.mod_one]
  rfl
theorem make_bytes (n : Nat) (h : n ≤ 1000000000) (w : World) : (Instr.makeSlice 24 (.int .i64 n) (.int .i64 n)).run Tryz.prog w = .ok (.slice (some ⟨w.heap.size, 0, none⟩) n n) (w.alloc (.cells (bys (List.replicate n 0)).toArray 5)) := by
 obtain ⟨i0, hi0, hz0, hz1, hz2⟩ := info_parts info_u8
 have hr := run_make (P := Tryz.prog) w 24 5 i0 _ Tryz.underlying24 hi0 hz0 .i64 .i64 n n (by omega) (Int.le_refl _) (by rw [hz2]; omega) (by omega)
 rw [hz1] at hr
 simp only [Int.toNat_natCast] at hr
 rw [made_bytes n] at hr
 exact hr
def sizL (l : List UInt8) (n : Nat) : List UInt8 := l.take n ++ List.replicate (n - l.length) 0
theorem sizL_length (l : List UInt8) (n : Nat) : (sizL l n).length = n := by
 unfold sizL
 rw [List.length_append, List.length_take, List.length_replicate]
 omega
theorem siz_splice (l : List UInt8) (n : Nat) : splice (bys (List.replicate n 0)) 0 (bys (l.take n)) = bys (sizL l n) := by
 unfold splice sizL bys
 rw [List.take_zero, List.nil_append, List.map_append, List.length_map, List.length_take, Nat.zero_add, ← List.map_drop, List.drop_replicate]
 congr 3
 omega
set_option maxRecDepth 100000 in
theorem sized_any (v : Value) (l : List UInt8) (n : Nat) (hn : n ≤ 1000000000) (w : World) (h : Bys w v l) :
  Calls Tryz.prog 15 #[v, .int .i64 n] w fun e w' => ∃ v', e = .returned v' ∧ OwnB w' w.heap.size v' (sizL l n) ∧ Below w.heap.size w w' := by
 obtain ⟨A, c, rfl⟩ := h.form
 have hmk := make_bytes n hn w
 have hb1 := (Below.refl w.heap.size w).alloc (Nat.le_refl _) (.cells (bys (List.replicate n 0)).toArray 5)
 have hg1 : (w.alloc (.cells (bys (List.replicate n 0)).toArray 5)).heap[w.heap.size]? = some (.cells (bys (List.replicate n 0)).toArray 5 (0, 0)) := Blk.new w 5 (bys (List.replicate n 0))
 have hs1 := h.below hb1
 generalize (w.alloc (.cells (bys (List.replicate n 0)).toArray 5)) = w1 at *
 have HB := Lib.hid (And.intro hb1 (And.intro hg1 hs1))
 have HC : Hid (0 < (bys (l.take n)).length → (some (⟨w.heap.size, 0, none⟩ : Addr)) = some ⟨w.heap.size, 0, none⟩ ∧ ∃ ad, A = some ad ∧ ∀ j u, (bys (l.take n))[j]? = some u → w1.cell? (ad.add j) = some u) := Lib.hid (fun hp => by
  rcases hs1.2 with ⟨h0, -⟩ | ⟨g, o, c1, e, h3, h4, h5, h6⟩
  ·exfalso
   have : l = [] := List.eq_nil_of_length_eq_zero h0
   subst this
   simp [bys] at hp
  ·injection e with e1 e2 e3
   subst e1
   refine ⟨rfl, _, rfl, fun j u hj => ?_⟩
   rw [Go.WideShapes.add_plain]
   refine h6 j u ?_
   have e6 : bys (l.take n) = (bys l).take n := by unfold bys; rw [List.map_take]
   rw [e6, List.getElem?_take] at hj
   by_cases hjn : j < n
   ·rw [if_pos hjn] at hj
    exact hj
   ·rw [if_neg hjn] at hj
    cases hj)
 clear hb1 hg1 hs1 h
 have hlenT : (bys (l.take n)).length = Nat.min l.length n := by simp [bys, Nat.min_comm]
 have hlenR : (bys (List.replicate n 0)).length = n := by simp [bys]
 have HLT := Lib.hid hlenT
 have HLR := Lib.hid hlenR
 clear hlenT hlenR
 go_enter Tryz.func15, Tryz.ntmps15
 go_wp2_with ((refine wpList_copy_splice rfl (.tmp 8) (.tmp 9) 24 24 rfl 5 Tryz.underlying24 rfl (some ⟨w.heap.size, 0, none⟩) A n n l.length c rfl rfl w.heap.size 0 (bys (List.replicate n 0)) 5 HB.out.2.1 (bys (l.take n)) HLT.out HC.out (by rw [HLT.out, HLR.out, Nat.zero_add]; exact Nat.min_le_right _ _) (fun u hu => by unfold bys at hu; rw [List.mem_map] at hu; obtain ⟨x, _, rfl⟩ := hu; rfl) w.heap.size w HB.out.1 (Nat.le_refl _) ?_); intro w2 hw2 hb2; have H2 := Lib.hid (And.intro hw2.out hb2); clear hw2 hb2)
 go_ret
 refine ⟨.slice (some ⟨w.heap.size, 0, none⟩) n n, rfl, ?_, H2.out.2⟩
 have hml : n ≤ maxLen := by unfold maxLen; omega
 have hll : ((sizL l n).length : Nat) = n := sizL_length l n
 refine ⟨by simp [bys], .inr ⟨w.heap.size, n, _, congrArg (fun k => Value.slice (some ⟨w.heap.size, 0, none⟩) k n) hll.symm, Nat.le_refl _, H2.out.1, Nat.le_of_eq hll, hml, ?_, ?_⟩⟩
 ·rw [siz_splice]; simp [bys, sizL_length]
 ·rw [siz_splice, sizL_length]
  simp only [Nat.mul_one]
  exact List.take_of_length_le (by simp [bys, sizL_length])
end Go.Proofs.YtgeplpdcnanmnaaGreat

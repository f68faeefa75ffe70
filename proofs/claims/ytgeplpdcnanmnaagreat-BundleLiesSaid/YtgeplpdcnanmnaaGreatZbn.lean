/- The reference's Count of cosignatures. Conditions: as each theorem states them. -/
import Derived.Test.YtgeplpdcnanmnaaGreatZbk
import Derived.Test.YtgeplpdcnanmnaaGreatZaz
import Derived.Laws.MakeOwn
namespace Go.Proofs.YtgeplpdcnanmnaaGreat
open Go.RowKit
set_option linter.unusedVariables false
set_option linter.unusedSimpArgs false

def seenN (p : PolD) (c : CkD) (gs : List CgD) : Nat → List Int
 | 0 => []
 | n + 1 => if cgVerB p c (gs.getD n ⟨0, ⟨0, [], []⟩⟩) = true ∧ (gs.getD n ⟨0, ⟨0, [], []⟩⟩).wit ∉ seenN p c gs n then (gs.getD n ⟨0, ⟨0, [], []⟩⟩).wit :: seenN p c gs n else seenN p c gs n
def cellsS (s : List Int) : List Value := [.bool (decide ((0 : Int) ∈ s)), .bool (decide ((1 : Int) ∈ s)), .bool (decide ((2 : Int) ∈ s)), .bool (decide ((3 : Int) ∈ s))]
theorem cellsS_at (s : List Int) (k : Nat) (h : k < 4) : (cellsS s)[k]? = some (.bool (decide ((k : Int) ∈ s))) := by
 obtain rfl | rfl | rfl | rfl : k = 0 ∨ k = 1 ∨ k = 2 ∨ k = 3 := by omega
 all_goals rfl
theorem cellsS_set (s : List Int) (k : Nat) (h : k < 4) : (cellsS s).set k (.bool true) = cellsS ((k : Int) :: s) := by
 obtain rfl | rfl | rfl | rfl : k = 0 ∨ k = 1 ∨ k = 2 ∨ k = 3 := by omega
 all_goals simp [cellsS]
theorem seenN_le (p : PolD) (c : CkD) (gs : List CgD) : ∀ n, (seenN p c gs n).length ≤ n
 | 0 => Nat.le_refl _
 | n + 1 => by
  have := seenN_le p c gs n
  unfold seenN
  split
  ·simp only [List.length_cons]; omega
  ·omega
theorem cgVerB_wit {p : PolD} {c : CkD} {g : CgD} (h : cgVerB p c g = true) : 0 ≤ g.wit ∧ g.wit < 4 := by
 simp only [cgVerB, polB, Bool.and_eq_true, decide_eq_true_eq] at h
 omega
theorem make_bools (w : World) : (Instr.makeSlice 118 (.int .i64 4) (.int .i64 4)).run Tryz.prog w = .ok (.slice (some ⟨w.heap.size, 0, none⟩) 4 4) (w.alloc (.cells (cellsS []).toArray 4)) := by
 obtain ⟨i0, hi0, hz0, hz1, hz2⟩ := info_parts (show (Tryz.prog.info? 4).map (fun i => (i.zero, i.size, i.bytes)) = some (some (.bool false), 1, 1) by kernel_rfl)
 have hr := run_make (P := Tryz.prog) w 118 4 i0 _ Tryz.underlying118 hi0 hz0 .i64 .i64 4 4 (by omega) (Int.le_refl _) (by rw [hz2]; omega) (by omega)
 rw [hz1] at hr
 have e : madeCells (Value.bool false).cells (Int.toNat 4 * 1) = (cellsS []).toArray := by kernel_rfl
 rw [e] at hr
 exact hr
def CgsV (w : World) (v : Value) (gs : List CgD) : Prop := ∃ us, Sho w v gs.length 4 us ∧ CgRow (fun _ => True) w us gs
theorem CgsV.below {w w1 : World} {v : Value} {gs : List CgD} (h : CgsV w v gs) (hb : Below w.heap.size w w1) : CgsV w1 v gs := by
 obtain ⟨us, h1, h2⟩ := h
 exact ⟨us, h1.below hb, ⟨h2.1, fun i hi => by obtain ⟨p, q, a0, a1, a2, a3, a4, a5⟩ := h2.2 i hi; exact ⟨p, q, a0, a1, a2, a3, a4.below hb, a5.below hb⟩⟩⟩
theorem CgsV.form {w : World} {v : Value} {gs : List CgD} (h : CgsV w v gs) : ∃ A c, v = .slice A gs.length c := by
 obtain ⟨us, h1, _⟩ := h
 exact h1.form
theorem CgsV.get {w : World} {A : Option Addr} {n c : Nat} {gs : List CgD} (h : CgsV w (.slice A n c) gs) (h0 : 0 < gs.length) : ∃ g o, A = some ⟨g, o, none⟩ ∧ g < w.heap.size ∧ n = gs.length ∧ gs.length ≤ c ∧ c ≤ maxLen ∧ ∀ i, i < gs.length → ∃ P cp Q cq, w.cell? ⟨g, o + i * 4, none⟩ = some (.int .i64 (gs.getD i ⟨0, ⟨0, [], []⟩⟩).wit) ∧ w.cell? ⟨g, o + i * 4 + 1, none⟩ = some (.int .i64 (gs.getD i ⟨0, ⟨0, [], []⟩⟩).sig.index) ∧ w.cell? ⟨g, o + i * 4 + 2, none⟩ = some (.slice P (gs.getD i ⟨0, ⟨0, [], []⟩⟩).sig.parts.length cp) ∧ w.cell? ⟨g, o + i * 4 + 3, none⟩ = some (.slice Q (gs.getD i ⟨0, ⟨0, [], []⟩⟩).sig.path.length cq) ∧ Rws w (.slice P (gs.getD i ⟨0, ⟨0, [], []⟩⟩).sig.parts.length cp) (gs.getD i ⟨0, ⟨0, [], []⟩⟩).sig.parts ∧ Rws w (.slice Q (gs.getD i ⟨0, ⟨0, [], []⟩⟩).sig.path.length cq) (gs.getD i ⟨0, ⟨0, [], []⟩⟩).sig.path := by
 obtain ⟨us, h1, h2⟩ := h
 obtain ⟨g, o, rfl, e1, hg, hc, hm, hcell⟩ := h1.place h0
 refine ⟨g, o, rfl, hg, e1, hc, hm, fun i hi => ?_⟩
 obtain ⟨p, q, a0, a1, a2, a3, a4, a5⟩ := h2.2 i hi
 have e : gs.getD i ⟨0, ⟨0, [], []⟩⟩ = gs[i] := by rw [List.getD_eq_getElem?_getD, List.getElem?_eq_getElem hi]; rfl
 rw [e]
 obtain ⟨P, cp, rfl⟩ := a4.rws.form
 obtain ⟨Q, cq, rfl⟩ := a5.rws.form
 exact ⟨P, cp, Q, cq, hcell _ _ a0, hcell _ _ a1, hcell _ _ a2, hcell _ _ a3, a4.rws, a5.rws⟩
set_option maxRecDepth 100000 in
set_option maxHeartbeats 8000000 in
theorem rcount_any (vp vc vl : Value) (p : PolD) (c : CkD) (gs : List CgD) (hp : SmallPol p) (hr : c.root.length ≤ 100000000) (hs : ∀ g ∈ gs, SmallSig g.sig) (hgl : gs.length ≤ 1000000) (w : World) (hvp : PolV w vp p) (hvc : CkV w vc c) (hvl : CgsV w vl gs) :
  Calls Tryz.prog 22 #[vp, vc, vl] w fun e w' => e = .returned (.int .i64 ((seenN p c gs gs.length).length : Nat)) ∧ Below w.heap.size w w' := by
 have HCS := Lib.hid (fun (g : CgD) (hg : SmallSig g.sig) (wz : World) (vp vc vg : Value) (z1 : PolV wz vp p) (z2 : CkV wz vc c) (z3 : CgV wz vg g) => rcosigned_any vp vc vg p c g hp hr hg wz z1 z2 z3)
 have HMK := Lib.hid make_bools
 have HSM := Lib.hid hs
 obtain ⟨l, ws, rfl, h1, h2⟩ := hvp
 obtain ⟨L, cl, rfl⟩ := h1.form
 obtain ⟨R, cr, rfl⟩ := h2.form
 obtain ⟨rt, rfl, h3⟩ := hvc
 obtain ⟨T, ct, rfl⟩ := h3.form
 obtain ⟨A, ca, rfl⟩ := hvl.form
 have HX := Lib.hid (And.intro h1 (And.intro h2 (And.intro h3 hvl)))
 clear h1 h2 h3 hvl hp hr hs
 obtain ⟨b3, k1, k2, k3⟩ := blk3 w [.slice L p.log.length cl, .slice R p.wits.length cr, .int .i64 p.quorum] [.int .i64 c.num, .slice T c.root.length ct] (cellsS []) 30 35 4 _ rfl
 have HW := Lib.hid (And.intro k1 (And.intro k2 (And.intro k3 b3)))
 clear k1 k2 k3 b3
 have hmk := make_bools ((w.alloc (.cells #[.slice L p.log.length cl, .slice R p.wits.length cr, .int .i64 p.quorum] 30)).alloc (.cells #[.int .i64 c.num, .slice T c.root.length ct] 35))
 rw [show ((w.alloc (.cells #[.slice L p.log.length cl, .slice R p.wits.length cr, .int .i64 p.quorum] 30)).alloc (.cells #[.int .i64 c.num, .slice T c.root.length ct] 35)).heap.size = w.heap.size + 1 + 1 by simp] at hmk
 have HS0 : Hid (seenN p c gs 0 = []) := Lib.hid rfl
 have HSS : Hid (∀ i, seenN p c gs (i + 1) = if cgVerB p c (gs.getD i ⟨0, ⟨0, [], []⟩⟩) = true ∧ (gs.getD i ⟨0, ⟨0, [], []⟩⟩).wit ∉ seenN p c gs i then (gs.getD i ⟨0, ⟨0, [], []⟩⟩).wit :: seenN p c gs i else seenN p c gs i) := Lib.hid (fun i => rfl)
 have HSL := Lib.hid (fun i : Nat => seenN_le p c gs i)
 have HSW := Lib.hid (fun (g : CgD) (h : cgVerB p c g = true) => cgVerB_wit h)
 generalize seenN p c gs = sn at *
 go_enter Tryz.func22, Tryz.ntmps22
 go_wp2
 go_loopw [8, 9] (fun v8 v9 wr => ∃ i : Nat, v8 = .int .i64 ((sn i).length : Nat) ∧ v9 = .int .i64 i ∧ i ≤ gs.length ∧ Hid (Blk wr w.heap.size 30 [.slice L p.log.length cl, .slice R p.wits.length cr, .int .i64 p.quorum] ∧ Blk wr (w.heap.size + 1) 35 [.int .i64 c.num, .slice T c.root.length ct] ∧ Blk wr (w.heap.size + 1 + 1) 4 (cellsS (sn i)) ∧ Below w.heap.size w wr)) (fun _ v _ => gs.length - (intOf v).toNat)
 case atStart => exact ⟨0, by rw [HS0.out]; rfl, rfl, Nat.zero_le _, Lib.hid ⟨HW.out.1, HW.out.2.1, by rw [HS0.out]; exact HW.out.2.2.1, HW.out.2.2.2⟩⟩
 case round =>
  clear hmk HW
  obtain ⟨i, rfl, rfl, hi, HI⟩ := hrel
  have hsl := HSL.out i
  by_cases hlt : i < gs.length
  ·obtain ⟨lg, lo, rfl, hlg, -, hroom, hroom2, hall⟩ := HX.out.2.2.2.get (by omega)
   obtain ⟨P1, cp1, Q1, cq1, e0, e1, e2, e3, e4, e5⟩ := hall i hlt
   have HGS : Hid (SmallSig (gs.getD i ⟨0, ⟨0, [], []⟩⟩).sig) := Lib.hid (HSM.out _ (by rw [List.getD_eq_getElem?_getD, List.getElem?_eq_getElem hlt]; exact List.getElem_mem hlt))
   have hss := HSS.out i
   have HE := Lib.hid (And.intro e0 (And.intro e1 (And.intro e2 (And.intro e3 (And.intro e4 e5)))))
   unfold maxLen at hroom2
   clear hall e0 e1 e2 e3 e4 e5
   have HWT := Lib.hid (HSW.out (gs.getD i ⟨0, ⟨0, [], []⟩⟩))
   have HCG := Lib.hid (HCS.out (gs.getD i ⟨0, ⟨0, [], []⟩⟩) HGS.out)
   have HSN := Lib.hid hss
   generalize hVB : cgVerB p c (gs.getD i ⟨0, ⟨0, [], []⟩⟩) = VB at *
   clear hss hVB
   generalize gs.getD i ⟨0, ⟨0, [], []⟩⟩ = G at *
   have z0 := HI.out.1.cell 0 _ rfl
   have z1 := HI.out.1.cell 1 _ rfl
   have z2 := HI.out.1.cell 2 _ rfl
   have z3 := HI.out.2.1.cell 0 _ rfl
   have z4 := HI.out.2.1.cell 1 _ rfl
   have z5 := (HI.out.2.2.2.cell (p := ⟨lg, lo + i * 4, none⟩) hlg).trans HE.out.1
   have z6 := (HI.out.2.2.2.cell (p := ⟨lg, lo + i * 4 + 1, none⟩) hlg).trans HE.out.2.1
   have z7 := (HI.out.2.2.2.cell (p := ⟨lg, lo + i * 4 + 2, none⟩) hlg).trans HE.out.2.2.1
   have z8 := (HI.out.2.2.2.cell (p := ⟨lg, lo + i * 4 + 3, none⟩) hlg).trans HE.out.2.2.2.1
   have hlw : lg < wr.heap.size := by have := HI.out.2.2.2.size; omega
   have hl1 := HI.out.1.lt
   have hl2 := HI.out.2.1.lt
   have hl3 := HI.out.2.2.1.lt
   cases VB with
   | false =>
    go_wp2
    refine wp_region_held_drew (S := fun w' => w'.cell? ⟨w.heap.size, 0, none⟩ = some (.slice L p.log.length cl) ∧ w'.cell? ⟨w.heap.size, 1, none⟩ = some (.slice R p.wits.length cr) ∧ w'.cell? ⟨w.heap.size, 2, none⟩ = some (.int .i64 p.quorum) ∧ w'.cell? ⟨w.heap.size + 1, 0, none⟩ = some (.int .i64 c.num) ∧ w'.cell? ⟨w.heap.size + 1, 1, none⟩ = some (.slice T c.root.length ct) ∧ w'.cell? ⟨lg, lo + i * 4, none⟩ = some (.int .i64 G.wit) ∧ w'.cell? ⟨lg, lo + i * 4 + 1, none⟩ = some (.int .i64 G.sig.index) ∧ w'.cell? ⟨lg, lo + i * 4 + 2, none⟩ = some (.slice P1 G.sig.parts.length cp1) ∧ w'.cell? ⟨lg, lo + i * 4 + 3, none⟩ = some (.slice Q1 G.sig.path.length cq1)) (by kernel_rfl) ?_ (fun hHeld => ?_)
    ·exact ⟨z0, z1, z2, z3, z4, z5, z6, z7, z8⟩
    refine ty 0 17 rfl rfl ?_; simp only [sa, sb, sc]
    refine ty 1 18 rfl rfl ?_; simp only [sa, sb, sc]
    refine ty 2 19 rfl rfl ?_; simp only [sa, sb, sc]
    refine ty 3 20 rfl rfl ?_; simp only [sa, sb, sc]
    refine ty 4 21 rfl rfl ?_; simp only [sa, sb, sc]
    refine ty 5 22 rfl rfl ?_; simp only [sa, sb, sc]
    refine rd 6 (by kernel_rfl) rfl (fun K hK => ?_)
    go_simp
    go_at_call 67
    refine (HCG.out wr.drew _ _ _ ⟨_, _, rfl, (HX.out.1.below HI.out.2.2.2).below (Below.refl wr.heap.size wr).drew, (HX.out.2.1.below HI.out.2.2.2).below (Below.refl wr.heap.size wr).drew⟩ ⟨_, rfl, (HX.out.2.2.1.below HI.out.2.2.2).below (Below.refl wr.heap.size wr).drew⟩ ⟨_, _, rfl, (HE.out.2.2.2.2.1.below HI.out.2.2.2).below (Below.refl wr.heap.size wr).drew, (HE.out.2.2.2.2.2.below HI.out.2.2.2).below (Below.refl wr.heap.size wr).drew⟩).mono ?_
    rintro e w1 ⟨rfl, hb'⟩
    have hh : Below wr.heap.size wr w1 := ⟨hb'.os, hb'.tape, hb'.output, hb'.size, hb'.block⟩
    have H1 := Lib.hid (And.intro (HI.out.1.below hh) (And.intro (HI.out.2.1.below hh) (And.intro (HI.out.2.2.1.below hh) (HI.out.2.2.2.trans (hh.mono HI.out.2.2.2.size)))))
    have x0 := H1.out.1.cell 0 _ rfl
    have x1 := H1.out.1.cell 1 _ rfl
    have x2 := H1.out.1.cell 2 _ rfl
    have x3 := H1.out.2.1.cell 0 _ rfl
    have x4 := H1.out.2.1.cell 1 _ rfl
    have x5 := (hh.cell (p := ⟨lg, lo + i * 4, none⟩) hlw).trans z5
    have x6 := (hh.cell (p := ⟨lg, lo + i * 4 + 1, none⟩) hlw).trans z6
    have x7 := (hh.cell (p := ⟨lg, lo + i * 4 + 2, none⟩) hlw).trans z7
    have x8 := (hh.cell (p := ⟨lg, lo + i * 4 + 3, none⟩) hlw).trans z8
    have hlw1 : lg < w1.heap.size := by have := hh.size; omega
    clear hh hb'
    try dsimp only
    refine hK.out _ _ ⟨x0, x1, x2, x3, x4, x5, x6, x7, x8⟩ (fun hHeld6 => ?_)
    clear hK K; try simp only [Act.put, sa, sb, sc]
    refine ty 7 24 rfl rfl ?_; simp only [sa, sb, sc]
    refine tn 8 25 rfl rfl ?_; simp only [sa, sb, sc]
    refine tn 9 26 rfl rfl ?_; simp only [sa, sb, sc]
    refine tn 10 27 rfl rfl ?_; simp only [sa, sb, sc]
    refine tn 11 28 rfl rfl ?_; simp only [sa, sb, sc]
    refine tn 12 29 rfl rfl ?_; simp only [sa, sb, sc]
    refine tn 13 30 rfl rfl ?_; simp only [sa, sb, sc]
    refine tn 14 31 rfl rfl ?_; simp only [sa, sb, sc]
    refine tn 15 32 rfl rfl ?_; simp only [sa, sb, sc]
    refine tn 16 33 rfl rfl ?_; simp only [sa, sb, sc]
    refine ty 17 34 rfl rfl ?_; simp only [sa, sb, sc]
    refine wpAnyH_done (by kernel_rfl) ?_ _
    clear hHeld z0 z1 z2 z3 z4 z5 z6 z7 z8 x0 x1 x2 x3 x4 x5 x6 x7 x8
    have HT : Hid (sn (i + 1) = sn i) := Lib.hid (by rw [HSN.out, if_neg (by simp)])
    go_wp2
    go_roundw
    case rel => exact ⟨i + 1, by rw [HT.out], by go_num, by omega, by rw [HT.out]; exact H1⟩
    case measure => simp [intOf]; omega
   | true =>
    obtain ⟨hw0, hw1⟩ := HWT.out rfl
    obtain ⟨k, hk⟩ := Int.eq_ofNat_of_zero_le hw0
    have HK := Lib.hid hk
    rw [hk] at z5 hw1
    have hk4 : k < 4 := by omega
    have z9 := HI.out.2.2.1.cell k _ (cellsS_at (sn i) k hk4)
    by_cases hin : (k : Int) ∈ sn i
    ·rw [decide_eq_true hin] at z9
     have HT : Hid (sn (i + 1) = sn i) := Lib.hid (by rw [HSN.out, if_neg (by rw [hk]; simp [hin])])
     clear hk hin
     go_wp2
     refine wp_region_held_drew (S := fun w' => w'.cell? ⟨w.heap.size, 0, none⟩ = some (.slice L p.log.length cl) ∧ w'.cell? ⟨w.heap.size, 1, none⟩ = some (.slice R p.wits.length cr) ∧ w'.cell? ⟨w.heap.size, 2, none⟩ = some (.int .i64 p.quorum) ∧ w'.cell? ⟨w.heap.size + 1, 0, none⟩ = some (.int .i64 c.num) ∧ w'.cell? ⟨w.heap.size + 1, 1, none⟩ = some (.slice T c.root.length ct) ∧ w'.cell? ⟨lg, lo + i * 4, none⟩ = some (.int .i64 k) ∧ w'.cell? ⟨lg, lo + i * 4 + 1, none⟩ = some (.int .i64 G.sig.index) ∧ w'.cell? ⟨lg, lo + i * 4 + 2, none⟩ = some (.slice P1 G.sig.parts.length cp1) ∧ w'.cell? ⟨lg, lo + i * 4 + 3, none⟩ = some (.slice Q1 G.sig.path.length cq1) ∧ w'.cell? ⟨w.heap.size + 1 + 1, k, none⟩ = some (.bool true)) (by kernel_rfl) ?_ (fun hHeld => ?_)
     ·exact ⟨z0, z1, z2, z3, z4, z5, z6, z7, z8, z9⟩
     refine ty 0 17 rfl rfl ?_; simp only [sa, sb, sc]
     refine ty 1 18 rfl rfl ?_; simp only [sa, sb, sc]
     refine ty 2 19 rfl rfl ?_; simp only [sa, sb, sc]
     refine ty 3 20 rfl rfl ?_; simp only [sa, sb, sc]
     refine ty 4 21 rfl rfl ?_; simp only [sa, sb, sc]
     refine ty 5 22 rfl rfl ?_; simp only [sa, sb, sc]
     refine rd 6 (by kernel_rfl) rfl (fun K hK => ?_)
     go_simp
     go_at_call 67
     refine (HCG.out wr.drew _ _ _ ⟨_, _, rfl, (HX.out.1.below HI.out.2.2.2).below (Below.refl wr.heap.size wr).drew, (HX.out.2.1.below HI.out.2.2.2).below (Below.refl wr.heap.size wr).drew⟩ ⟨_, rfl, (HX.out.2.2.1.below HI.out.2.2.2).below (Below.refl wr.heap.size wr).drew⟩ ⟨_, _, by rw [HK.out], (HE.out.2.2.2.2.1.below HI.out.2.2.2).below (Below.refl wr.heap.size wr).drew, (HE.out.2.2.2.2.2.below HI.out.2.2.2).below (Below.refl wr.heap.size wr).drew⟩).mono ?_
     rintro e w1 ⟨rfl, hb'⟩
     have hh : Below wr.heap.size wr w1 := ⟨hb'.os, hb'.tape, hb'.output, hb'.size, hb'.block⟩
     have H1 := Lib.hid (And.intro (HI.out.1.below hh) (And.intro (HI.out.2.1.below hh) (And.intro (HI.out.2.2.1.below hh) (HI.out.2.2.2.trans (hh.mono HI.out.2.2.2.size)))))
     have x0 := H1.out.1.cell 0 _ rfl
     have x1 := H1.out.1.cell 1 _ rfl
     have x2 := H1.out.1.cell 2 _ rfl
     have x3 := H1.out.2.1.cell 0 _ rfl
     have x4 := H1.out.2.1.cell 1 _ rfl
     have x5 := (hh.cell (p := ⟨lg, lo + i * 4, none⟩) hlw).trans z5
     have x6 := (hh.cell (p := ⟨lg, lo + i * 4 + 1, none⟩) hlw).trans z6
     have x7 := (hh.cell (p := ⟨lg, lo + i * 4 + 2, none⟩) hlw).trans z7
     have x8 := (hh.cell (p := ⟨lg, lo + i * 4 + 3, none⟩) hlw).trans z8
     have x9 := (hh.cell (p := ⟨w.heap.size + 1 + 1, k, none⟩) hl3).trans z9
     have hlw1 : lg < w1.heap.size := by have := hh.size; omega
     clear hh hb'
     try dsimp only
     refine hK.out _ _ ⟨x0, x1, x2, x3, x4, x5, x6, x7, x8, x9⟩ (fun hHeld6 => ?_)
     clear hK K; try simp only [Act.put, sa, sb, sc]
     refine ty 7 24 rfl rfl ?_; simp only [sa, sb, sc]
     refine ty 8 25 rfl rfl ?_; simp only [sa, sb, sc]
     refine ty 9 26 rfl rfl ?_; simp only [sa, sb, sc]
     refine ty 10 27 rfl rfl ?_; simp only [sa, sb, sc]
     refine ty 11 28 rfl rfl ?_; simp only [sa, sb, sc]
     refine ty 12 29 rfl rfl ?_; simp only [sa, sb, sc]
     refine ty 13 30 rfl rfl ?_; simp only [sa, sb, sc]
     refine ty 14 31 rfl rfl ?_; simp only [sa, sb, sc]
     refine ty 15 32 rfl rfl ?_; simp only [sa, sb, sc]
     refine ty 16 33 rfl rfl ?_; simp only [sa, sb, sc]
     refine ty 17 34 rfl rfl ?_; simp only [sa, sb, sc]
     refine wpAnyH_done (by kernel_rfl) ?_ _
     clear hHeld z0 z1 z2 z3 z4 z5 z6 z7 z8 x0 x1 x2 x3 x4 x5 x6 x7 x8 z9 x9
     go_wp2
     go_roundw
     case rel => exact ⟨i + 1, by rw [HT.out], by go_num, by omega, by rw [HT.out]; exact H1⟩
     case measure => simp [intOf]; omega
    ·rw [decide_eq_false hin] at z9
     have HT : Hid (sn (i + 1) = (k : Int) :: sn i) := Lib.hid (by rw [HSN.out, if_pos ⟨rfl, by rw [hk]; exact hin⟩, hk])
     clear hk hin
     go_wp2
     refine wp_region_held_drew (S := fun w' => w'.cell? ⟨w.heap.size, 0, none⟩ = some (.slice L p.log.length cl) ∧ w'.cell? ⟨w.heap.size, 1, none⟩ = some (.slice R p.wits.length cr) ∧ w'.cell? ⟨w.heap.size, 2, none⟩ = some (.int .i64 p.quorum) ∧ w'.cell? ⟨w.heap.size + 1, 0, none⟩ = some (.int .i64 c.num) ∧ w'.cell? ⟨w.heap.size + 1, 1, none⟩ = some (.slice T c.root.length ct) ∧ w'.cell? ⟨lg, lo + i * 4, none⟩ = some (.int .i64 k) ∧ w'.cell? ⟨lg, lo + i * 4 + 1, none⟩ = some (.int .i64 G.sig.index) ∧ w'.cell? ⟨lg, lo + i * 4 + 2, none⟩ = some (.slice P1 G.sig.parts.length cp1) ∧ w'.cell? ⟨lg, lo + i * 4 + 3, none⟩ = some (.slice Q1 G.sig.path.length cq1) ∧ w'.cell? ⟨w.heap.size + 1 + 1, k, none⟩ = some (.bool false)) (by kernel_rfl) ?_ (fun hHeld => ?_)
     ·exact ⟨z0, z1, z2, z3, z4, z5, z6, z7, z8, z9⟩
     refine ty 0 17 rfl rfl ?_; simp only [sa, sb, sc]
     refine ty 1 18 rfl rfl ?_; simp only [sa, sb, sc]
     refine ty 2 19 rfl rfl ?_; simp only [sa, sb, sc]
     refine ty 3 20 rfl rfl ?_; simp only [sa, sb, sc]
     refine ty 4 21 rfl rfl ?_; simp only [sa, sb, sc]
     refine ty 5 22 rfl rfl ?_; simp only [sa, sb, sc]
     refine rd 6 (by kernel_rfl) rfl (fun K hK => ?_)
     go_simp
     go_at_call 67
     refine (HCG.out wr.drew _ _ _ ⟨_, _, rfl, (HX.out.1.below HI.out.2.2.2).below (Below.refl wr.heap.size wr).drew, (HX.out.2.1.below HI.out.2.2.2).below (Below.refl wr.heap.size wr).drew⟩ ⟨_, rfl, (HX.out.2.2.1.below HI.out.2.2.2).below (Below.refl wr.heap.size wr).drew⟩ ⟨_, _, by rw [HK.out], (HE.out.2.2.2.2.1.below HI.out.2.2.2).below (Below.refl wr.heap.size wr).drew, (HE.out.2.2.2.2.2.below HI.out.2.2.2).below (Below.refl wr.heap.size wr).drew⟩).mono ?_
     rintro e w1 ⟨rfl, hb'⟩
     have hh : Below wr.heap.size wr w1 := ⟨hb'.os, hb'.tape, hb'.output, hb'.size, hb'.block⟩
     have H1 := Lib.hid (And.intro (HI.out.1.below hh) (And.intro (HI.out.2.1.below hh) (And.intro (HI.out.2.2.1.below hh) (HI.out.2.2.2.trans (hh.mono HI.out.2.2.2.size)))))
     have x0 := H1.out.1.cell 0 _ rfl
     have x1 := H1.out.1.cell 1 _ rfl
     have x2 := H1.out.1.cell 2 _ rfl
     have x3 := H1.out.2.1.cell 0 _ rfl
     have x4 := H1.out.2.1.cell 1 _ rfl
     have x5 := (hh.cell (p := ⟨lg, lo + i * 4, none⟩) hlw).trans z5
     have x6 := (hh.cell (p := ⟨lg, lo + i * 4 + 1, none⟩) hlw).trans z6
     have x7 := (hh.cell (p := ⟨lg, lo + i * 4 + 2, none⟩) hlw).trans z7
     have x8 := (hh.cell (p := ⟨lg, lo + i * 4 + 3, none⟩) hlw).trans z8
     have x9 := (hh.cell (p := ⟨w.heap.size + 1 + 1, k, none⟩) hl3).trans z9
     have hlw1 : lg < w1.heap.size := by have := hh.size; omega
     clear hh hb'
     try dsimp only
     refine hK.out _ _ ⟨x0, x1, x2, x3, x4, x5, x6, x7, x8, x9⟩ (fun hHeld6 => ?_)
     clear hK K; try simp only [Act.put, sa, sb, sc]
     refine ty 7 24 rfl rfl ?_; simp only [sa, sb, sc]
     refine ty 8 25 rfl rfl ?_; simp only [sa, sb, sc]
     refine ty 9 26 rfl rfl ?_; simp only [sa, sb, sc]
     refine ty 10 27 rfl rfl ?_; simp only [sa, sb, sc]
     refine ty 11 28 rfl rfl ?_; simp only [sa, sb, sc]
     refine ty 12 29 rfl rfl ?_; simp only [sa, sb, sc]
     refine ty 13 30 rfl rfl ?_; simp only [sa, sb, sc]
     refine ty 14 31 rfl rfl ?_; simp only [sa, sb, sc]
     refine ty 15 32 rfl rfl ?_; simp only [sa, sb, sc]
     refine ty 16 33 rfl rfl ?_; simp only [sa, sb, sc]
     refine ty 17 34 rfl rfl ?_; simp only [sa, sb, sc]
     refine wpAnyH_done (by kernel_rfl) ?_ _
     clear hHeld z0 z1 z2 z3 z4 z5 z6 z7 z8 x0 x1 x2 x3 x4 x6 x7 x8 z9
     have y9 := H1.out.2.2.1.free k
     have hl4 := H1.out.2.2.1.lt
     go_wp2
     have HN : Hid (Blk (w1.setCell ⟨w.heap.size + 1 + 1, k, none⟩ (.bool true)) w.heap.size 30 [.slice L p.log.length cl, .slice R p.wits.length cr, .int .i64 p.quorum] ∧ Blk (w1.setCell ⟨w.heap.size + 1 + 1, k, none⟩ (.bool true)) (w.heap.size + 1) 35 [.int .i64 c.num, .slice T c.root.length ct] ∧ Blk (w1.setCell ⟨w.heap.size + 1 + 1, k, none⟩ (.bool true)) (w.heap.size + 1 + 1) 4 (cellsS (sn (i + 1))) ∧ Below w.heap.size w (w1.setCell ⟨w.heap.size + 1 + 1, k, none⟩ (.bool true))) := Lib.hid (by
      have hc := chg_cell (Chg.refl w1 (fun x => x = w.heap.size + 1 + 1)) k (.bool true)
      refine ⟨H1.out.1.chg hc (by omega), H1.out.2.1.chg hc (by omega), ?_, H1.out.2.2.2.trans (hc.below H1.out.2.2.2.size (fun x hx => by omega))⟩
      rw [HT.out, ← cellsS_set (sn i) k hk4]
      exact H1.out.2.2.1.set k _ (by show k < 4; exact hk4))
     clear x9 y9
     go_roundw
     case rel => exact ⟨i + 1, by rw [HT.out]; go_num, by go_num, by omega, HN⟩
     case measure => simp [intOf]; omega
  ·obtain rfl : i = gs.length := by omega
   have HE := Lib.hid HI.out.2.2.2
   clear HI
   go_wp2
   go_ret
   exact ⟨rfl, HE.out⟩
end Go.Proofs.YtgeplpdcnanmnaaGreat

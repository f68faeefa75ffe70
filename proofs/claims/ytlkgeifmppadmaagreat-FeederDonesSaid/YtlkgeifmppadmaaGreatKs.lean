/- The law FeederDones. Conditions: as each theorem states them. -/
import Derived.Test.YtlkgeifmppadmaaGreatKr
namespace Go.Proofs.YtlkgeifmppadmaaGreat
open Go.RowKit
set_option linter.unusedVariables false
set_option linter.unusedSimpArgs false

/-- A feeder all of whose blocks lie above a world, nothing below turned. -/
structure FZ (Z : Nat → Prop) (wB wr : World) (f : Nat) (d : FdD) : Prop where
  fd : FdAt Z wr f d
  zz : ∀ g, Z g → wB.heap.size ≤ g ∧ g < wr.heap.size
  below : Below wB.heap.size wB wr
theorem FZ.on {Z Z' : Nat → Prop} {wB wr w1 : World} {f : Nat} {d d1 : FdD} (h : FZ Z wB wr f d) (hd : FdAt Z' w1 f d1) (hc : Chg wr w1 Z) (hz : ∀ g, Z' g → Wide Z wr w1 g) : FZ Z' wB w1 f d1 := by
  have hs := hc.size
  refine ⟨hd, fun g hg => ?_, h.below.trans (hc.below h.below.size (fun k hk => (h.zz k hk).1))⟩
  rcases hz g hg with e | e
  · have := h.zz g e; exact ⟨this.1, by omega⟩
  · exact ⟨Nat.le_trans h.below.size e.1, e.2⟩
theorem FZ.quiet {Z : Nat → Prop} {wB wr w1 : World} {f : Nat} {d : FdD} (h : FZ Z wB wr f d) (hb : Below wr.heap.size wr w1) : FZ Z wB w1 f d :=
  h.on (h.fd.below hb) ((Chg.refl wr Z).trans (Chg.of_below (S := fun _ => False) hb) (fun _ _ h => h.elim)) (fun g hg => .inl hg)
/-- What the law holds within a round: its feeder, its checkpoint at b, its list of who was seen at sn, its sizes at bz. -/
structure DnW (Z Y : Nat → Prop) (wB wr : World) (b sn bz f : Nat) (cs : List Value) (s : SgD) (seen : List Bool) (d : FdD) : Prop where
  fz : FZ Z wB wr f d
  sg : Blk wr b 40 cs
  tx : SgF Y wr (.agg cs.toArray) s
  sb : Blk wr sn 4 (seen.map (fun x => Value.bool x))
  ze : Blk wr bz 3 [.int .i64 3, .int .i64 8]
  ap : ∀ g, Z g → g ≠ b ∧ g ≠ sn ∧ g ≠ bz ∧ ¬ Y g
  yl : ∀ g, Y g → g < wr.heap.size
  ns : sn ≠ b ∧ sn ≠ bz ∧ ¬ Y sn ∧ wB.heap.size ≤ sn
theorem DnW.on {Z Z' Y : Nat → Prop} {wB wr w1 : World} {b sn bz f : Nat} {cs : List Value} {s : SgD} {seen : List Bool} {d d1 : FdD} (h : DnW Z Y wB wr b sn bz f cs s seen d) (hd : FdAt Z' w1 f d1) (hc : Chg wr w1 Z) (hz : ∀ g, Z' g → Wide Z wr w1 g) : DnW Z' Y wB w1 b sn bz f cs s seen d1 := by
  have hs := hc.size
  have l1 := h.sg.lt
  have l2 := h.sb.lt
  have l3 := h.ze.lt
  refine ⟨h.fz.on hd hc hz, h.sg.chg hc (fun e => (h.ap _ e).1 rfl), h.tx.chg hc (fun g hg e => (h.ap g e).2.2.2 hg), h.sb.chg hc (fun e => (h.ap _ e).2.1 rfl), h.ze.chg hc (fun e => (h.ap _ e).2.2.1 rfl), fun g hg => ?_, fun g hg => by have := h.yl g hg; omega, h.ns⟩
  rcases hz g hg with e | e
  · exact h.ap g e
  · have h1 : wr.heap.size ≤ g := e.1
    exact ⟨by omega, by omega, by omega, fun hy => by have := h.yl g hy; omega⟩
theorem DnW.quiet {Z Y : Nat → Prop} {wB wr w1 : World} {b sn bz f : Nat} {cs : List Value} {s : SgD} {seen : List Bool} {d : FdD} (h : DnW Z Y wB wr b sn bz f cs s seen d) (hb : Below wr.heap.size wr w1) : DnW Z Y wB w1 b sn bz f cs s seen d :=
  h.on (h.fz.fd.below hb) ((Chg.refl wr Z).trans (Chg.of_below (S := fun _ => False) hb) (fun _ _ h => h.elim)) (fun g hg => .inl hg)
theorem bools_set (l : List Bool) (k : Nat) (x : Bool) : (l.map (fun x => Value.bool x)).set k (.bool x) = (l.set k x).map (fun x => Value.bool x) := by rw [List.map_set]
theorem bools_at (l : List Bool) (k : Nat) (h : k < l.length) : (l.map (fun x => Value.bool x))[k]? = some (.bool (l.getD k false)) := by
  rw [List.getElem?_map, List.getElem?_eq_getElem h, List.getD_eq_getElem?_getD, List.getElem?_eq_getElem h]
  rfl
theorem DnW.see {Z Y : Nat → Prop} {wB wr : World} {b sn bz f : Nat} {cs : List Value} {s : SgD} {seen : List Bool} {d : FdD} (h : DnW Z Y wB wr b sn bz f cs s seen d) (k : Nat) (hk : k < seen.length) : DnW Z Y wB (wr.setCell ⟨sn, k, none⟩ (.bool true)) b sn bz f cs s (seen.set k true) d := by
  have hc : Chg wr (wr.setCell ⟨sn, k, none⟩ (.bool true)) (fun x => x = sn) := chg_cell (Chg.refl wr _) k (.bool true)
  obtain ⟨n1, n2, n3, n4⟩ := h.ns
  refine ⟨⟨h.fz.fd.chg hc (fun g hg e => (h.ap g hg).2.1 e), fun g hg => by have := h.fz.zz g hg; have := hc.size; omega, h.fz.below.trans (hc.below h.fz.below.size (fun k hk => by omega))⟩, h.sg.chg hc (fun e => n1 e.symm), h.tx.chg hc (fun g hg e => n3 (by rw [← show g = sn from e]; exact hg)), ?_, h.ze.chg hc (fun e => n2 e.symm), h.ap, fun g hg => by have := h.yl g hg; have := hc.size; omega, h.ns⟩
  rw [← bools_set]
  exact h.sb.set k _ (by rw [List.length_map]; exact hk)
theorem made_bools (n : Nat) (h : n ≤ 4) : madeCells (Value.bool false).cells (n * 1) = ((List.replicate n false).map (fun x => Value.bool x)).toArray := by
  obtain rfl | rfl | rfl | rfl | rfl : n = 0 ∨ n = 1 ∨ n = 2 ∨ n = 3 ∨ n = 4 := by omega
  all_goals kernel_rfl
theorem bools_rep (n : Nat) : ((List.replicate n false).map (fun x => Value.bool x)).toArray = Array.replicate n (Value.bool false) := by simp
theorem make_booln (n : Nat) (h : n ≤ 4) (w : World) : (Instr.makeSlice 44 (.int .i64 n) (.int .i64 n)).run Tryz.prog w = .ok (.slice (some ⟨w.heap.size, 0, none⟩) n n) (w.alloc (.cells (Array.replicate n (Value.bool false)) 4)) := by
  obtain ⟨i0, hi0, hz0, hz1, hz2⟩ := info_parts (show (Tryz.prog.info? 4).map (fun i => (i.zero, i.size, i.bytes)) = some (some (.bool false), 1, 1) by kernel_rfl)
  have hr := run_make (P := Tryz.prog) w 44 4 i0 _ Tryz.underlying44 hi0 hz0 .i64 .i64 n n (by omega) (Int.le_refl _) (by rw [hz2]; omega) (by omega)
  rw [hz1] at hr
  simp only [Int.toNat_natCast] at hr
  rw [made_bools n h, bools_rep] at hr
  exact hr
theorem reply_fd (Z : Nat → Prop) (f : Nat) (d : FdD) (P : PolD) (re : Int) (n K : Nat) (v : Value) (g : CgD) (wit size now : Int) (hj : FdJ d P re n K) (hn : n ≤ 4) (hK : K ≤ 10000) (hp : SmallPol P) (hs : SmallSig g.sig) (hkk : d.kept.length ≤ 1000) (w : World) (h : FdAt Z w f d) (hv : CgV w v g) (hZ : ∀ g, Z g → g < w.heap.size) :
    Calls Tryz.prog 12 #[.pointer (some ⟨f, 0, none⟩), .int .i64 wit, v, .int .i64 size, .int .i64 now] w fun e w' => e = .returned (.bool (anyRB d wit g size)) ∧ FdAt (Wide Z w w') w' f (anyRN d wit g size now) ∧ Chg w w' Z :=
  reply_any Z f d v g wit size now (by rw [hj.pol]; exact hp) hj.sm.2 hs hkk (by have := hj.ml; omega) (by have := hj.ord; omega) (by rw [hj.len]; omega) w h hv hZ
theorem done_none (Z : Nat → Prop) (f : Nat) (d : FdD) (hen : d.enough = []) (hdn : d.done = zSg) (w : World) (hok : FdAt Z w f d) :
    Calls Tryz.prog 14 #[.pointer (some ⟨f, 0, none⟩)] w fun e w' => ∃ R rn rc P pn pc Q qn qc A c, e = .returned (.tuple #[.agg #[.int .i64 0, .slice R rn rc, .int .i64 0, .slice P pn pc, .slice Q qn qc], .slice A 0 c, .bool false]) ∧ Below w.heap.size w w' := by
  refine (done_any Z f d (by rw [hen]; exact Nat.zero_le _) (fun g hg => by rw [hen] at hg; exact absurd hg (by simp)) (by rw [hdn]; exact Nat.zero_le _) (by rw [hdn]; exact zCg_small) w hok).mono ?_
  rintro e w' ⟨r, p, q, v, rfl, h1, h2, h3, h4, h5⟩
  obtain ⟨R, rc, rfl⟩ := h1.form
  obtain ⟨P, pc, rfl⟩ := h2.form
  obtain ⟨Q, qc, rfl⟩ := h3.form
  obtain ⟨A, c, rfl⟩ := h4.form
  have e0 : d.enough.length = 0 := by rw [hen]; rfl
  rw [if_pos e0, e0]
  exact ⟨_, _, _, _, _, _, _, _, _, _, _, rfl, h5⟩
theorem done_some (Z : Nat → Prop) (f : Nat) (d : FdD) (s : SgD) (hd : d.done = s) (n : Nat) (hn : d.enough.length = n) (h0 : 0 < n) (h1 : n ≤ 1000) (hg : ∀ g ∈ d.enough, SmallSig g.sig) (hr : s.ck.root.length ≤ 100000000) (hs : SmallSig s.sig) (w : World) (hok : FdAt Z w f d) :
    Calls Tryz.prog 14 #[.pointer (some ⟨f, 0, none⟩)] w fun e w' => ∃ R rc P pc Q qc A c, e = .returned (.tuple #[.agg #[.int .i64 s.ck.num, .slice R s.ck.root.length rc, .int .i64 s.sig.index, .slice P s.sig.parts.length pc, .slice Q s.sig.path.length qc], .slice A n c, .bool true]) ∧ SgV w' (.agg #[.int .i64 s.ck.num, .slice R s.ck.root.length rc, .int .i64 s.sig.index, .slice P s.sig.parts.length pc, .slice Q s.sig.path.length qc]) s ∧ OwnC w' w.heap.size (.slice A n c) d.enough ∧ Below w.heap.size w w' := by
  subst hd hn
  refine (done_any Z f d h1 hg hr hs w hok).mono ?_
  rintro e w' ⟨r, p, q, v, rfl, h2, h3, h4, h5, h6⟩
  rw [if_neg (by omega)] at h2 h3 h4
  obtain ⟨R, rc, rfl⟩ := h2.form
  obtain ⟨P, pc, rfl⟩ := h3.form
  obtain ⟨Q, qc, rfl⟩ := h4.form
  obtain ⟨A, c, rfl⟩ := h5.form
  rw [if_neg (by omega), decide_eq_true h0]
  exact ⟨_, _, _, _, _, _, _, _, rfl, ⟨_, _, _, rfl, h2, h3, h4⟩, h5, h6⟩
/-- The cosignature that bears a witness's number and nothing else is never kept. -/
theorem hear_none (d : FdD) (wit : Int) : hearB d wit ⟨wit, ⟨0, [], []⟩⟩ = false := by
  have e : rightB ⟨0, [], []⟩ = false := rfl
  have e2 : cgVerB d.p d.cur.ck ⟨wit, ⟨0, [], []⟩⟩ = false := by simp [cgVerB, verifyB, e]
  unfold hearB
  rw [e2]
  simp
def zeN (j : Nat) : Int := if j = 0 then 3 else 8
/-- What stands ahead of a round of the law. -/
def DnJ (P : PolD) (k : Nat) (q : Int) (j : Nat) (old : Int) (d : FdD) : Prop := FdJ d P 3 k (40 * j) ∧ DnOk P q old d ∧ (old = -1 ∨ (old = 3 ∧ 1 ≤ j) ∨ 2 ≤ j) ∧ (d.has = true → j = 1 → d.cur.ck.num = 3) ∧ (j = 0 → d.has = false)
set_option maxRecDepth 100000 in
set_option maxHeartbeats 16000000 in
theorem dones_any (n quorum : Int) (A : Option Addr) (c : Nat) (xs : List Int) (bad : Int) (w : World) (hx : ArgInts w A xs) :
    Calls Tryz.prog 3 #[.int .i64 n, .int .i64 quorum, .slice A xs.length c, .int .i64 bad] w fun e w' => e = .returned (.bool true) ∧ Below w.heap.size w w' := by
  have HX := Lib.hid hx
  clear hx
  have HWI := Lib.hid (fun wz : World => within_any n 1 3 (by decide) (by decide) (by decide) wz)
  obtain ⟨kn, hkn, hk1, hk3⟩ : ∃ kn : Nat, withinZ n 1 3 = kn ∧ 1 ≤ kn ∧ kn ≤ 3 := by
    have := withinZ_ge n 1 3 (by decide)
    obtain ⟨k, hk⟩ := Int.eq_ofNat_of_zero_le (show 0 ≤ withinZ n 1 3 by omega)
    exact ⟨k, hk, by omega, by omega⟩
  rw [hkn] at HWI
  clear hkn
  have HWQ := Lib.hid (fun wz : World => within_any quorum 1 (kn : Int) (by decide) (by omega) (by omega) wz)
  have hq := withinZ_ge quorum 1 (kn : Int) (by omega)
  generalize withinZ quorum 1 (kn : Int) = q at *
  obtain ⟨hq1, hqk⟩ := hq
  have HO := Lib.hid (fun wz : World => owners_any kn (by omega) wz)
  have HPO := Lib.hid (fun (wz : World) (S : Nat → Prop) (v : Value) (z1 : OwnersS S wz v (kn + 1)) (z2 : ∀ g, S g → g < wz.heap.size) => lpolicy_any S kn q v (by omega) wz z1 z2)
  have HNW : Hid (∀ (wz : World) (v : Value), PolV wz v (polS kn q) → Calls Tryz.prog 9 #[v, .int .i64 3] wz fun e w' => ∃ f Z, e = .returned (.tuple #[.pointer (some ⟨f, 0, none⟩), .int .i64 0]) ∧ FdAt Z w' f (fdNew (polS kn q) 3) ∧ (∀ g, Z g → wz.heap.size ≤ g ∧ g < w'.heap.size) ∧ Below wz.heap.size wz w') := Lib.hid (fun wz v z => fnew_yes v (polS kn q) 3 (pol_small kn _ (by omega) (by omega) (by omega)) (pol_right kn _ hk1 hk3 (by omega) (by omega)) (by decide) (by decide) wz z)
  have HSP := Lib.hid (pol_small kn q (by omega) (by omega) (by omega))
  have HSN := Lib.hid (fun (z : Int) (h0 : 0 ≤ z) (h1 : z ≤ 256) (wz : World) (S : Nat → Prop) (b : Nat) (z1 : OwnerS S wz b (seedS ((0 : Nat) : Int))) (z2 : ∀ g, S g → g < wz.heap.size) => signed_any S b (seedS ((0 : Nat) : Int)) z h0 h1 (by rw [seedS_length]; decide) wz z1 z2)
  have HCK : Hid (∀ z : Int, 0 ≤ z → z ≤ 256 → ckVerB (polS kn q).log (signedS (seedS ((0 : Nat) : Int)) z) = true ∧ SmallSig (signedS (seedS ((0 : Nat) : Int)) z).sig ∧ (signedS (seedS ((0 : Nat) : Int)) z).ck.root.length ≤ 1000000 ∧ (signedS (seedS ((0 : Nat) : Int)) z).ck.num = z) := Lib.hid (fun z h0 h1 => ⟨ck_of (seedS 0) z h0 h1, (signed_small _ z h0).1, by show (hashS z).length ≤ _; rw [hashS_length]; decide, rfl⟩)
  obtain ⟨cg, hcg⟩ : ∃ cg : Int → Nat → CgD, ∀ z k, cg z k = cosigS (seedS ((k + 1 : Nat) : Int)) (k : Int) (signedS (seedS ((0 : Nat) : Int)) z).ck := ⟨_, fun _ _ => rfl⟩
  have HCG : Hid (∀ z, 0 ≤ z → z ≤ 256 → ∀ k, k < kn → cgVerB (polS kn q) (signedS (seedS ((0 : Nat) : Int)) z).ck (cg z k) = true ∧ SmallSig (cg z k).sig ∧ (cg z k).wit = (k : Int)) := Lib.hid (fun z h0 h1 k hk => by
    rw [hcg]
    exact ⟨cg_of kn q hk1 hk3 (by omega) (by omega) z h0 h1 k hk, cg_small _ _ z h0, rfl⟩)
  have HCO : Hid (∀ (z : Int) (h0 : 0 ≤ z) (h1 : z ≤ 256) (k : Nat) (hk : k < kn) (S : Nat → Prop) (g o cc : Nat) (vc : Value) (wz : World) (z1 : OwnersS S wz (.slice (some ⟨g, o, none⟩) (kn + 1) cc) (kn + 1)) (z2 : ∀ g, S g → g < wz.heap.size) (z3 : CkV wz vc (signedS (seedS ((0 : Nat) : Int)) z).ck), Calls Tryz.prog 13 #[.slice (some ⟨g, o, none⟩) (kn + 1) cc, .int .i64 k, vc] wz fun e w' => ∃ v, e = .returned v ∧ CgV w' v (cg z k) ∧ Below wz.heap.size wz w') := Lib.hid (fun z h0 h1 k hk S g o cc vc wz z1 z2 z3 => by
    refine (cosig_any S g o cc (kn + 1) k vc _ (by omega) (by omega) h0 h1 (by show (hashS z).length ≤ _; rw [hashS_length]; decide) wz z1 z2 z3).mono ?_
    rintro e w' ⟨v, h1, h2, h3⟩
    rw [hcg]
    exact ⟨v, h1, h2.cgv, h3⟩)
  have HPP : Hid ((polS kn q).wits.length = kn ∧ (polS kn q).log.length = 32 ∧ (polS kn q).quorum = q) := Lib.hid ⟨witS_length kn, by show (ownerS (seedS 0)).length = 32; exact ownerS_length _, rfl⟩
  have hj0 := fdj_new (polS kn q) 3
  rw [HPP.out.1] at hj0
  have HJ0 : Hid (DnJ (polS kn q) kn q 0 (-1) (fdNew (polS kn q) 3)) := Lib.hid ⟨hj0, .inl ⟨rfl, rfl, rfl⟩, .inl rfl, fun h => by have h9 : false = true := h; exact absurd h9 (by decide), fun _ => rfl⟩
  clear hcg hj0
  generalize fdNew (polS kn q) 3 = d0 at *
  generalize polS kn q = P at *
  generalize hSG : signedS (seedS ((0 : Nat) : Int)) = sgn at *
  clear hSG
  generalize hsd : seedS ((0 : Nat) : Int) = sd at *
  have HSD := Lib.hid hsd
  clear hsd
  go_enter Tryz.func3, Tryz.ntmps3
  go_wp2_with fail
  refine (HWI.out _).mono ?_
  rintro e w' ⟨rfl, rfl⟩
  go_wp2_with fail
  refine (HWQ.out _).mono ?_
  rintro e w' ⟨rfl, rfl⟩
  go_wp2_with fail
  refine (HO.out _).mono ?_
  rintro e w1 ⟨v1, rfl, h1, h2⟩
  obtain ⟨A1, c1, rfl⟩ := h1.form
  have H1 := Lib.hid (And.intro h1 h2)
  clear h1 h2
  go_wp2_with fail
  refine (HPO.out _ _ _ H1.out.1 (fun g hg => hg.2)).mono ?_
  rintro e w2 ⟨v2, rfl, ⟨pl, pw, rfl, h1, h2⟩, h3⟩
  obtain ⟨PL, plc, rfl⟩ := h1.form
  obtain ⟨PW, pwc, rfl⟩ := h2.form
  have hal := (Below.refl w2.heap.size w2).alloc (Nat.le_refl _) (.cells #[.slice PL P.log.length plc, .slice PW P.wits.length pwc, .int .i64 P.quorum] 29)
  have H2 := Lib.hid (And.intro h1 (And.intro h2 (And.intro h3 hal)))
  clear h1 h2 h3 hal
  go_wp2_with fail
  refine calls_at (fun wB => Blk wB w2.heap.size 29 [.slice PL P.log.length plc, .slice PW P.wits.length pwc, .int .i64 P.quorum] ∧ Below w2.heap.size w2 wB) ⟨Blk.new w2 _ _, H2.out.2.2.2⟩ ?_
  rintro wB ⟨hk0, hb0⟩
  have HB : Hid (OwnersS (fun g => w.heap.size ≤ g ∧ g < w1.heap.size) wB (.slice A1 (kn + 1) c1) (kn + 1) ∧ Blk wB w2.heap.size 29 [.slice PL P.log.length plc, .slice PW P.wits.length pwc, .int .i64 P.quorum] ∧ Bys wB (.slice PL P.log.length plc) P.log ∧ Rws wB (.slice PW P.wits.length pwc) P.wits ∧ Below w.heap.size w wB ∧ ∀ g, (fun g => w.heap.size ≤ g ∧ g < w1.heap.size) g → g < wB.heap.size) := Lib.hid ⟨(H1.out.1.below H2.out.2.2.1).below hb0, hk0, H2.out.1.below hb0, H2.out.2.1.below hb0, (H1.out.2.trans (H2.out.2.2.1.mono H1.out.2.size)).trans (hb0.mono (by have := H1.out.2.size; have := H2.out.2.2.1.size; omega)), fun g hg => by have h9 : g < w1.heap.size := hg.2; have := H2.out.2.2.1.size; have := hb0.size; omega⟩
  clear hk0 hb0 H1 H2 HPO HO
  generalize (fun g => w.heap.size ≤ g ∧ g < w1.heap.size) = S at *
  generalize w2.heap.size = bP at *
  refine (HNW.out _ _ ⟨_, _, rfl, HB.out.2.2.1, HB.out.2.2.2.1⟩).mono ?_
  rintro e w3 ⟨f, Z, rfl, h1, h2, h3⟩
  have H3 : Hid (FZ Z wB w3 f d0) := Lib.hid ⟨h1, h2, h3⟩
  clear h1 h2 h3 HNW
  obtain ⟨g, o, b0, rfl, -, -, hcap, -, -⟩ := HB.out.1.at' 0 (by omega)
  go_wp2
  have H4 : Hid (∃ Z, FZ Z wB (w3.alloc (.cells #[.int .i64 3, .int .i64 8] 3)) f d0 ∧ Blk (w3.alloc (.cells #[.int .i64 3, .int .i64 8] 3)) w3.heap.size 3 [.int .i64 3, .int .i64 8] ∧ ∀ x, Z x → x ≠ w3.heap.size) := Lib.hid ⟨Z, H3.out.quiet ((Below.refl w3.heap.size w3).alloc (Nat.le_refl _) _), Blk.new w3 _ _, fun x hx => by have := (H3.out.zz x hx).2; omega⟩
  clear H3
  generalize w3.heap.size = bz at *
  go_loopw [15, 49] (fun v15 v49 wr => ∃ (old : Int) (j : Nat) (d : FdD), v15 = .int .i64 old ∧ v49 = .int .i64 j ∧ j ≤ 2 ∧ -1 ≤ old ∧ old ≤ 8 ∧ Hid (DnJ P kn q j old d ∧ ∃ Z, FZ Z wB wr f d ∧ Blk wr bz 3 [.int .i64 3, .int .i64 8] ∧ ∀ x, Z x → x ≠ bz)) (fun _ v _ => 2 - (intOf v).toNat)
  case atStart => exact ⟨-1, 0, d0, rfl, rfl, by decide, by decide, by decide, Lib.hid ⟨HJ0.out, H4.out⟩⟩
  case round =>
    clear H4 HJ0
    obtain ⟨old, j, d, rfl, rfl, hj2, ho0, ho8, HI⟩ := hrel
    by_cases hlt : j < 2
    · obtain ⟨z, hzc, hz3⟩ : ∃ z : Int, ([.int .i64 3, .int .i64 8] : List Value)[j]? = some (.int .i64 z) ∧ ((j = 0 ∧ z = 3) ∨ (j = 1 ∧ z = 8)) := by
        obtain rfl | rfl : j = 0 ∨ j = 1 := by omega
        · exact ⟨3, rfl, .inl ⟨rfl, rfl⟩⟩
        · exact ⟨8, rfl, .inr ⟨rfl, rfl⟩⟩
      obtain ⟨hDJ, Z, hF, hZe, hZb⟩ := HI.out
      have HDJ := Lib.hid hDJ
      have HI2 := Lib.hid (And.intro hF (And.intro hZe hZb))
      have p0 := hZe.cell j _ hzc
      have hbzl := hZe.lt
      clear hDJ hF hZe hZb HI
      have hz0 : 0 ≤ z := by omega
      have hz9 : z ≤ 256 := by omega
      obtain ⟨b1, hgo, hc0, ho0'⟩ := (HB.out.1.below HI2.out.1.below).get 0 (by omega)
      rw [Nat.add_zero] at hc0
      rw [HSD.out] at ho0'
      have HCZ := Lib.hid (HCK.out z hz0 hz9)
      have HSZ := Lib.hid (HSN.out z hz0 hz9)
      have HGZ := Lib.hid (HCG.out z hz0 hz9)
      have HOZ := Lib.hid (HCO.out z hz0 hz9)
      generalize sgn z = s at *
      generalize cg z = cgz at *
      go_wp2_with fail
      refine (HSZ.out _ _ _ ho0' (fun x hx => Nat.lt_of_lt_of_le (HB.out.2.2.2.2.2 x hx) HI2.out.1.below.size)).mono ?_
      rintro e w4 ⟨v4, rfl, h1, h2⟩
      obtain ⟨⟨num, root⟩, ⟨ix, Ps, Qs⟩⟩ := s
      obtain ⟨hv1, hv2, hv3, hv4⟩ := HCZ.out
      obtain rfl : num = z := hv4
      obtain ⟨r4, p4, q4, rfl, k1, k2, k3⟩ := h1
      obtain ⟨R, cr, rfl⟩ := k1.1.form
      obtain ⟨P4, cp, rfl⟩ := k2.rws.form
      obtain ⟨Q4, cq, rfl⟩ := k3.rws.form
      have hal := (Below.refl w4.heap.size w4).alloc (Nat.le_refl _) (.cells #[.int .i64 num, .slice R root.length cr, .int .i64 ix, .slice P4 Ps.length cp, .slice Q4 Qs.length cq] 40)
      have H5 := Lib.hid (And.intro ((HI2.out.1.quiet h2).quiet hal) (And.intro ((HI2.out.2.1.below h2).below hal) (And.intro (Blk.new w4 40 [.int .i64 num, .slice R root.length cr, .int .i64 ix, .slice P4 Ps.length cp, .slice Q4 Qs.length cq]) (And.intro (show SgF (fun g => S g ∨ (wr.heap.size ≤ g ∧ g < w4.heap.size)) _ (.agg #[.int .i64 num, .slice R root.length cr, .int .i64 ix, .slice P4 Ps.length cp, .slice Q4 Qs.length cq]) ⟨⟨num, root⟩, ⟨ix, Ps, Qs⟩⟩ from ⟨_, _, _, rfl, k1.below hal, k2.below hal, k3.below hal⟩) h2))))
      have hbz4 : bz < w4.heap.size := by have := h2.size; omega
      clear h2 hal k1 k2 k3 hc0 ho0' hgo p0
      have hob : offB d ⟨⟨num, root⟩, ⟨ix, Ps, Qs⟩⟩ = true := by
        unfold offB
        rw [HDJ.out.1.pol, hv1, Bool.true_and]
        cases hh : d.has with
        | false => rfl
        | true =>
          have hj0 : j ≠ 0 := fun e => by have := HDJ.out.2.2.2.2 e; rw [hh] at this; exact absurd this (by decide)
          have h9 := HDJ.out.2.2.2.1 hh (by omega)
          show (!(true && decide ((⟨⟨num, root⟩, ⟨ix, Ps, Qs⟩⟩ : SgD).ck.num ≤ d.cur.ck.num))) = true
          rw [h9, decide_eq_false (by show ¬ num ≤ 3; omega)]
          rfl
      have hon : offN d ⟨⟨num, root⟩, ⟨ix, Ps, Qs⟩⟩ num = offD d ⟨⟨num, root⟩, ⟨ix, Ps, Qs⟩⟩ num := by unfold offN; rw [hob, if_pos rfl]
      have HOF := Lib.hid (fun (wz : World) (Zz : Nat → Prop) (v : Value) (z0 : ∀ g, Zz g → g < wz.heap.size) (z1 : FdAt Zz wz f d) (z2 : SgV wz v ⟨⟨num, root⟩, ⟨ix, Ps, Qs⟩⟩) => offer_z Zz f d P 3 kn _ v ⟨⟨num, root⟩, ⟨ix, Ps, Qs⟩⟩ num HDJ.out.1 (by omega) (by omega) (by rw [HPP.out.2.1]; decide) (Nat.le_trans hv3 (by decide)) hv2 wz z0 z1 z2)
      rw [hob, hon] at HOF
      have hJ1 := HDJ.out.1.offN (by omega) ⟨⟨num, root⟩, ⟨ix, Ps, Qs⟩⟩ hv2 (Nat.le_trans hv3 (by decide)) num
      rw [hon] at hJ1
      have HR0 := Lib.hid (run_start P kn q num hq1 ⟨⟨num, root⟩, ⟨ix, Ps, Qs⟩⟩ old d num HDJ.out.1.len (by have := HDJ.out.2.2.1; omega) HDJ.out.2.1)
      have HJ1 := Lib.hid hJ1
      have HK0 : Hid ((offD d ⟨⟨num, root⟩, ⟨ix, Ps, Qs⟩⟩ num).kept.length = 0) := Lib.hid rfl
      clear hob hon hJ1
      generalize offD d ⟨⟨num, root⟩, ⟨ix, Ps, Qs⟩⟩ num = d1 at *
      go_wp2_with fail
      refine (HOF.out _ Z _ (fun x hx => (H5.out.1.zz x hx).2) H5.out.1.fd H5.out.2.2.2.1.sgv).mono ?_
      rintro e w5 ⟨rfl, h⟩
      have H6 : Hid (FZ (Wide Z (w4.alloc (.cells #[.int .i64 num, .slice R root.length cr, .int .i64 ix, .slice P4 Ps.length cp, .slice Q4 Qs.length cq] 40)) w5) wB w5 f d1) := Lib.hid (H5.out.1.on h.1 h.2 (fun x hx => hx))
      have hal5 := (Below.refl w5.heap.size w5).alloc (Nat.le_refl _) (.cells (Array.replicate kn (Value.bool false)) 4)
      have H7 : Hid (∃ Z Y, DnW Z Y wB (w5.alloc (.cells (Array.replicate kn (Value.bool false)) 4)) w4.heap.size w5.heap.size bz f [.int .i64 num, .slice R root.length cr, .int .i64 ix, .slice P4 Ps.length cp, .slice Q4 Qs.length cq] ⟨⟨num, root⟩, ⟨ix, Ps, Qs⟩⟩ (List.replicate kn false) d1) := Lib.hid (by
        have hs4 : (w4.alloc (.cells #[.int .i64 num, .slice R root.length cr, .int .i64 ix, .slice P4 Ps.length cp, .slice Q4 Qs.length cq] 40)).heap.size = w4.heap.size + 1 := by simp
        have hs5 := h.2.size
        have hs6 : (w5.alloc (.cells (Array.replicate kn (Value.bool false)) 4)).heap.size = w5.heap.size + 1 := by simp
        have hr4 := H5.out.2.2.2.2.size
        have hBr := HI2.out.1.below.size
        have hZr : ∀ x, Z x → wB.heap.size ≤ x ∧ x < wr.heap.size := HI2.out.1.zz
        have hSB : ∀ x, S x → x < wB.heap.size := HB.out.2.2.2.2.2
        refine ⟨_, _, H6.out.quiet hal5, (H5.out.2.2.1.chg h.2 (fun e => by have := hZr _ e; omega)).below hal5, (H5.out.2.2.2.1.chg h.2 (fun x hx e => ?_)).below hal5, by rw [← bools_rep]; exact Blk.new w5 4 _, (H5.out.2.1.chg h.2 (fun e => HI2.out.2.2 _ e rfl)).below hal5, fun x hx => ?_, fun x hx => ?_, ?_⟩
        · have h1 := hZr x e
          rcases hx with hx | hx
          · have := hSB x hx; omega
          · omega
        · rcases hx with hx | hx
          · have h1 := hZr x hx
            exact ⟨by omega, by omega, HI2.out.2.2 x hx, fun e => by
              rcases e with e | e
              · have := hSB x e; omega
              · omega⟩
          · have h1 : (w4.alloc (.cells #[.int .i64 num, .slice R root.length cr, .int .i64 ix, .slice P4 Ps.length cp, .slice Q4 Qs.length cq] 40)).heap.size ≤ x := hx.1
            have h2 : x < w5.heap.size := hx.2
            exact ⟨by omega, by omega, by omega, fun e => by
              rcases e with e | e
              · have := hSB x e; omega
              · omega⟩
        · rcases hx with hx | hx
          · have := hSB x hx; omega
          · omega
        · exact ⟨by omega, by omega, fun e => by
            rcases e with e | e
            · have := hSB _ e; omega
            · omega, by omega⟩)
      have hmk := make_booln kn (by omega) w5
      clear h hal5 H6 H5 HOF HI2
      go_wp2
      generalize hb4 : w4.heap.size = b at *
      generalize hb5 : w5.heap.size = sn at *
      clear hb4 hb5 hmk
      go_loopw [15, 20, 21] (fun v15 v20 v21 wr => ∃ (ol : Int) (cnt i : Nat) (d : FdD) (seen : List Bool), v15 = .int .i64 ol ∧ v20 = .int .i64 cnt ∧ v21 = .int .i64 i ∧ i ≤ xs.length ∧ i ≤ 8 ∧ -1 ≤ ol ∧ ol ≤ 8 ∧ cnt ≤ 8 ∧ Hid (FdJ d P 3 kn (40 * j + 1 + 2 * i) ∧ RunS P kn q num ⟨⟨num, root⟩, ⟨ix, Ps, Qs⟩⟩ i ol seen d ∧ d.kept.length = cnt ∧ (ol = num ∨ ol = old) ∧ ∃ Z Y, DnW Z Y wB wr b sn bz f [.int .i64 num, .slice R root.length cr, .int .i64 ix, .slice P4 Ps.length cp, .slice Q4 Qs.length cq] ⟨⟨num, root⟩, ⟨ix, Ps, Qs⟩⟩ seen d)) (fun _ _ v _ => 8 - (intOf v).toNat)
      case atStart => exact ⟨old, 0, 0, d1, _, rfl, rfl, rfl, Nat.zero_le _, Nat.zero_le _, ho0, ho8, Nat.zero_le _, Lib.hid ⟨HJ1.out, HR0.out, HK0.out, .inr rfl, H7.out⟩⟩
      case round =>
        clear H7 HR0 HJ1 HK0 HSZ
        obtain ⟨ol, cnt, i, d, seen, rfl, rfl, rfl, hi, hi8, hol0, hol8, hc8, HI⟩ := hrel
        by_cases hlt : i < xs.length ∧ i < 8
        · obtain ⟨hlt, hlt8⟩ := hlt
          obtain ⟨gx, ox, rfl, hgx, hcx⟩ := HX.out i hlt
          obtain ⟨hJ, hR, hcnt, hO, Z, Y, hW⟩ := HI.out
          have HOO := Lib.hid hO
          clear hO
          have HH := Lib.hid (And.intro hJ (And.intro hR (And.intro hcnt hW)))
          have hbw := HB.out.2.2.2.2.1.trans (hW.fz.below.mono HB.out.2.2.2.2.1.size)
          have p0 := (hbw.cell (p := ⟨gx, ox + i, none⟩) hgx).trans hcx
          have hgl : gx < wr.heap.size := by have := hbw.size; omega
          clear hJ hR hcnt hW hbw hcx HI
          generalize xs[i] = x at *
          go_wp2_with fail
          refine (within_any x 0 ((kn : Int) - 1) (by decide) (by omega) (by omega) _).mono ?_
          rintro e w' ⟨rfl, rfl⟩
          obtain ⟨wn, hwn, hwk⟩ : ∃ wn : Nat, withinZ x 0 ((kn : Int) - 1) = wn ∧ wn < kn := by
            have := withinZ_ge x 0 ((kn : Int) - 1) (by omega)
            obtain ⟨k, hk⟩ := Int.eq_ofNat_of_zero_le (show 0 ≤ withinZ x 0 ((kn : Int) - 1) by omega)
            exact ⟨k, hk, by omega⟩
          rw [hwn]
          clear hwn p0
          by_cases hbd : (i : Int) = bad
          · subst hbd
            go_wp2_with fail
            refine (reply_fd Z f d P 3 kn _ _ ⟨(wn : Int), ⟨0, [], []⟩⟩ (wn : Int) num num HH.out.1 (by omega) (by omega) HSP.out zCg_small (by have := HH.out.2.2.1; omega) wr HH.out.2.2.2.fz.fd ⟨_, _, rfl, ⟨[], Sho.nil _ 1, fun i h => absurd h (Nat.not_lt_zero _)⟩, ⟨[], Sho.nil _ 1, fun i h => absurd h (Nat.not_lt_zero _)⟩⟩ (fun x hx => (HH.out.2.2.2.fz.zz x hx).2)).mono ?_
            rintro e wT ⟨rfl, m1, m2⟩
            have hrn : anyRN d (wn : Int) ⟨(wn : Int), ⟨0, [], []⟩⟩ num num = repN d wn num num := by unfold anyRN; rw [hear_none, if_neg (by decide)]
            rw [hrn] at m1
            have HT : Hid (FdJ (repN d wn num num) P 3 kn (40 * j + 1 + 2 * i + 1) ∧ RunS P kn q num ⟨⟨num, root⟩, ⟨ix, Ps, Qs⟩⟩ i ol seen (repN d wn num num) ∧ (repN d wn num num).kept.length = cnt ∧ ∃ Z, DnW Z Y wB wT b sn bz f [.int .i64 num, .slice R root.length cr, .int .i64 ix, .slice P4 Ps.length cp, .slice Q4 Qs.length cq] ⟨⟨num, root⟩, ⟨ix, Ps, Qs⟩⟩ seen (repN d wn num num)) := Lib.hid ⟨HH.out.1.repN _ _ _, HH.out.2.1.rep _ _ _, by unfold repN; split <;> exact HH.out.2.2.1, _, HH.out.2.2.2.on m1 m2 (fun x hx => hx)⟩
            clear m1 m2 hrn HH
            generalize anyRB d (wn : Int) ⟨(wn : Int), ⟨0, [], []⟩⟩ num = rb0 at *
            generalize repN d wn num num = dT at *
            obtain ⟨hJT, hRT, hcT, Zt, hWT⟩ := HT.out
            replace HT := Lib.hid (And.intro hJT (And.intro hRT (And.intro hcT hWT)))
            have c0 := hWT.sg.cell 0 _ rfl
            have c1' := hWT.sg.cell 1 _ rfl
            have hlb := hWT.sg.lt
            have hls := hWT.sb.lt
            have hws : wn < seen.length := by rw [hRT.sl]; exact hwk
            have hwsn : seen.length = kn := hRT.sl
            have hcw := bools_at seen wn hws
            have HBY : Hid (Bys wT (.slice R root.length cr) root) := Lib.hid (by
              obtain ⟨r9, p9, q9, e9, z1, z2, z3⟩ := hWT.tx
              injection e9 with e9; injection e9 with e9; injection e9 with _ e9; injection e9 with e9 _
              rw [e9]; exact z1.1)
            generalize hSB : seen.getD wn false = SB at *
            cases SB with
            | true =>
              have HAG := Lib.hid (hRT.again wn hwk hSB (cgz wn) 0 num)
              have HCW := Lib.hid hcw
              have c2 := hWT.sb.cell wn _ hcw
              clear hJT hRT hcT hWT hcw hSB hws hwsn
              go_wp2
              refine wp_region_held_drew (S := fun w' => w'.cell? ⟨b, 0, none⟩ = some (.int .i64 num) ∧ w'.cell? ⟨b, 1, none⟩ = some (.slice R root.length cr) ∧ w'.cell? ⟨sn, wn, none⟩ = some (.bool true)) (by kernel_rfl) ?_ (fun hHeld => ?_)
              · exact ⟨c0, c1', c2⟩
              refine take_yes 0 92 rfl rfl (by kernel_rfl) (by kernel_rfl) (by kernel_rfl) (fun _ _ _ h => h) (by assumption) (by rfl) (v := ?_) ?_ ?_
              rotate_left 1
              · (intro w hSw; (try dsimp only at hSw); go_simp; try with_reducible rfl)
              simp only [List.setIfInBounds_toArray, List.set_cons_zero, List.set_cons_succ]
              refine take_yes 1 93 rfl rfl (by kernel_rfl) (by kernel_rfl) (by kernel_rfl) (fun _ _ _ h => h) (by assumption) (by rfl) (v := ?_) ?_ ?_
              rotate_left 1
              · (intro w hSw; (try dsimp only at hSw); go_simp; try with_reducible rfl)
              simp only [List.setIfInBounds_toArray, List.set_cons_zero, List.set_cons_succ]
              refine take_yes 2 94 rfl rfl (by kernel_rfl) (by kernel_rfl) (by kernel_rfl) (fun _ _ _ h => h) (by assumption) (by rfl) (v := ?_) ?_ ?_
              rotate_left 1
              · (intro w hSw; (try dsimp only at hSw); go_simp; try with_reducible rfl)
              simp only [List.setIfInBounds_toArray, List.set_cons_zero, List.set_cons_succ]
              refine take_yes 3 95 rfl rfl (by kernel_rfl) (by kernel_rfl) (by kernel_rfl) (fun _ _ _ h => h) (by assumption) (by rfl) (v := ?_) ?_ ?_
              rotate_left 1
              · (intro w hSw; (try dsimp only at hSw); go_simp; try with_reducible rfl)
              simp only [List.setIfInBounds_toArray, List.set_cons_zero, List.set_cons_succ]
              refine take_yes 4 96 rfl rfl (by kernel_rfl) (by kernel_rfl) (by kernel_rfl) (fun _ _ _ h => h) (by assumption) (by rfl) (v := ?_) ?_ ?_
              rotate_left 1
              · (intro w hSw; (try dsimp only at hSw); go_simp; try with_reducible rfl)
              simp only [List.setIfInBounds_toArray, List.set_cons_zero, List.set_cons_succ]
              refine take_yes 5 97 rfl rfl (by kernel_rfl) (by kernel_rfl) (by kernel_rfl) (fun _ _ _ h => h) (by assumption) (by rfl) (v := ?_) ?_ ?_
              rotate_left 1
              · (intro w hSw; (try dsimp only at hSw); go_simp; try with_reducible rfl)
              simp only [List.setIfInBounds_toArray, List.set_cons_zero, List.set_cons_succ]
              refine take_yes 7 99 rfl rfl (by kernel_rfl) (by kernel_rfl) (by kernel_rfl) (fun _ _ _ h => h) (by assumption) (by rfl) (v := ?_) ?_ ?_
              rotate_left 1
              · (intro w hSw; (try dsimp only at hSw); go_simp; try with_reducible rfl)
              simp only [List.setIfInBounds_toArray, List.set_cons_zero, List.set_cons_succ]
              refine take_yes 9 101 rfl rfl (by kernel_rfl) (by kernel_rfl) (by kernel_rfl) (fun _ _ _ h => h) (by assumption) (by rfl) (v := ?_) ?_ ?_
              rotate_left 1
              · (intro w hSw; (try dsimp only at hSw); go_simp; try with_reducible rfl)
              simp only [List.setIfInBounds_toArray, List.set_cons_zero, List.set_cons_succ]
              refine take_yes 10 102 rfl rfl (by kernel_rfl) (by kernel_rfl) (by kernel_rfl) (fun _ _ _ h => h) (by assumption) (by rfl) (v := ?_) ?_ ?_
              rotate_left 1
              · (intro w hSw; (try dsimp only at hSw); go_simp; try with_reducible rfl)
              simp only [List.setIfInBounds_toArray, List.set_cons_zero, List.set_cons_succ]
              refine take_yes 11 103 rfl rfl (by kernel_rfl) (by kernel_rfl) (by kernel_rfl) (fun _ _ _ h => h) (by assumption) (by rfl) (v := ?_) ?_ ?_
              rotate_left 1
              · (intro w hSw; (try dsimp only at hSw); go_simp; try with_reducible rfl)
              simp only [List.setIfInBounds_toArray, List.set_cons_zero, List.set_cons_succ]
              refine take_yes 12 104 rfl rfl (by kernel_rfl) (by kernel_rfl) (by kernel_rfl) (fun _ _ _ h => h) (by assumption) (by rfl) (v := ?_) ?_ ?_
              rotate_left 1
              · (intro w hSw; (try dsimp only at hSw); go_simp; try with_reducible rfl)
              simp only [List.setIfInBounds_toArray, List.set_cons_zero, List.set_cons_succ]
              refine take_yes 13 105 rfl rfl (by kernel_rfl) (by kernel_rfl) (by kernel_rfl) (fun _ _ _ h => h) (by assumption) (by rfl) (v := ?_) ?_ ?_
              rotate_left 1
              · (intro w hSw; (try dsimp only at hSw); go_simp; try with_reducible rfl)
              simp only [List.setIfInBounds_toArray, List.set_cons_zero, List.set_cons_succ]
              refine wpAnyH_ready (rs := [6]) (by kernel_rfl) (by simp) ?_
              refine AllReadyH.cons rfl (fun K hK => ?_) AllReadyH.nil
              -- 6:  dst := some 98, op := Op.call  callee := Callee.value (Operand.func 13), args := #[Operand.tmp 94, Operand.tmp 95, Operand.tmp 
              go_simp
              go_at_call 13
              refine (HOZ.out wn hwk S g o c1 _ wT.drew ((HB.out.1.below HT.out.2.2.2.fz.below).below (Below.refl wT.heap.size wT).drew) (fun x hx => Nat.lt_of_lt_of_le (HB.out.2.2.2.2.2 x hx) HT.out.2.2.2.fz.below.size) ⟨_, rfl, HBY.out.below (Below.refl wT.heap.size wT).drew⟩).mono ?_
              rintro e w7 ⟨v7, rfl, ⟨p7, q7, rfl, z1, z2⟩, h7'⟩
              have h7 : Below wT.heap.size wT w7 := ⟨h7'.os, h7'.tape, h7'.output, h7'.size, h7'.block⟩
              obtain ⟨P7, cp7, rfl⟩ := z1.form
              obtain ⟨Q7, cq7, rfl⟩ := z2.form
              have hq7 := HT.out.2.2.2.quiet h7
              have x0 := hq7.sg.cell 0 _ rfl
              have x1 := hq7.sg.cell 1 _ rfl
              have x2 := hq7.sb.cell wn _ HCW.out
              have H7 := Lib.hid (And.intro hq7 (show CgV w7 (.agg #[.int .i64 (cgz wn).wit, .int .i64 (cgz wn).sig.index, .slice P7 (cgz wn).sig.parts.length cp7, .slice Q7 (cgz wn).sig.path.length cq7]) (cgz wn) from ⟨_, _, rfl, z1, z2⟩))
              clear z1 z2 h7 h7' hq7
              try dsimp only
              refine hK.out _ _ ⟨x0, x1, x2⟩ (fun hHeld6 => ?_)
              clear hK K
              try simp only [Act.put, List.setIfInBounds_toArray, List.set_cons_zero, List.set_cons_succ]
              refine wpAnyH_ready (rs := [8]) (by kernel_rfl) (by simp) ?_
              refine AllReadyH.cons rfl (fun K hK => ?_) AllReadyH.nil
              -- 8:  dst := some 100, op := Op.call  callee := Callee.value (Operand.func 12), args := #[Operand.tmp 92, Operand.tmp 93, Operand.tmp
              go_simp
              go_at_call 12
              refine (reply_fd Zt f dT P 3 kn _ _ (cgz wn) (wn : Int) 0 num HT.out.1 (by omega) (by omega) HSP.out (HGZ.out wn hwk).2.1 (by have := HT.out.2.2.1; omega) w7 H7.out.1.fz.fd H7.out.2 (fun x hx => (H7.out.1.fz.zz x hx).2)).mono ?_
              rw [HAG.out.1]
              rintro e w8 ⟨rfl, m1, m2⟩
              have hq8 := H7.out.1.on m1 m2 (fun x hx => hx)
              have u0 := hq8.sg.cell 0 _ rfl
              have u1 := hq8.sg.cell 1 _ rfl
              have u2 := hq8.sb.cell wn _ HCW.out
              have H8 := Lib.hid hq8
              clear m1 m2 hq8
              try dsimp only
              refine hK.out _ _ ⟨u0, u1, u2⟩ (fun hHeld8 => ?_)
              clear hK K
              try simp only [Act.put, List.setIfInBounds_toArray, List.set_cons_zero, List.set_cons_succ]
              refine take_yes 14 106 rfl rfl (by kernel_rfl) (by kernel_rfl) (by kernel_rfl) (fun _ _ _ h => h) (by assumption) (by rfl) (v := ?_) ?_ ?_
              rotate_left 1
              · (intro w hSw; (try dsimp only at hSw); go_simp; try with_reducible rfl)
              simp only [List.setIfInBounds_toArray, List.set_cons_zero, List.set_cons_succ]
              refine wpAnyH_done (by kernel_rfl) ?_ _
              clear hHeld hHeld6 hHeld8 c0 c1' c2 x0 x1 x2 u0 u1
              have hls8 := H8.out.sb.lt
              rw [HAG.out.2] at H8
              by_cases hq : q ≤ (cnt : Int)
              · have HS : Hid (FdJ dT P 3 kn (40 * j + 1 + 2 * (i + 1)) ∧ RunS P kn q num ⟨⟨num, root⟩, ⟨ix, Ps, Qs⟩⟩ (i + 1) num seen dT ∧ dT.kept.length = cnt ∧ DnW (Wide Zt w7 w8) Y wB w8 b sn bz f [.int .i64 num, .slice R root.length cr, .int .i64 ix, .slice P4 Ps.length cp, .slice Q4 Qs.length cq] ⟨⟨num, root⟩, ⟨ix, Ps, Qs⟩⟩ seen dT) := Lib.hid ⟨HT.out.1.more (by omega), by
                  have h1 := HT.out.2.1
                  have h2 : ol = num := by
                    rcases h1.od with ⟨a, _⟩ | ⟨a, _⟩
                    · exact a
                    · have := HT.out.2.2.1; omega
                  rw [h2] at h1
                  exact h1.up (by omega), HT.out.2.2.1, H8.out⟩
                clear H8 HT
                have hdn := HS.out.2.1.dn rfl hz0 hv2 hv3 (by omega)
                rcases hdn with ⟨e1, e2, e3⟩ | ⟨e1, e2, e3, e4, e5, e6, e7, e8⟩
                · exact absurd e1 (by omega)
                · have HV := Lib.hid e4
                  have HE5 := Lib.hid e5
                  have HRU := HS.out.2.1
                  have HOD := Lib.hid HRU.od
                  clear HRU
                  obtain ⟨EN, a0⟩ : ∃ EN, dT.enough = EN := ⟨_, rfl⟩
                  obtain ⟨DD, b0⟩ : ∃ DD, dT.done = DD := ⟨_, rfl⟩
                  rw [a0] at e3 e4 e5 e8 HV HE5
                  rw [b0] at e2 e4 e6 e7 HV
                  have HDS := Lib.hid (fun (wz : World) (Zz : Nat → Prop) (z : FdAt Zz wz f dT) => done_some Zz f dT DD b0 EN.length (by rw [a0]) (by omega) (by omega) (by rw [a0]; exact e5) (by omega) e6 wz z)
                  rw [a0] at HDS
                  obtain ⟨⟨dn, droot⟩, ⟨dix, dps, dqs⟩⟩ := DD
                  have e2' : num = dn := Eq.symm e2
                  subst e2'
                  have HRC := Lib.hid (fun (wz : World) (vp vc vl : Value) (z1 : PolV wz vp P) (z2 : CkV wz vc ⟨num, droot⟩) (z3 : CgsV wz vl EN) => rcount_any vp vc vl P ⟨num, droot⟩ EN HSP.out (by show droot.length ≤ _; have : droot.length ≤ 1000000 := e7; omega) e5 (by omega) wz z1 z2 z3)
                  rw [count_valid e4] at HRC
                  have hcq : ¬ ((EN.length : Int) < q) := by omega
                  have hen8 : EN.length ≤ 8 := e8
                  clear e4 e5 e6 e7 e8 e3 HV HE5
                  go_wp2_with fail
                  refine (HDS.out _ _ HS.out.2.2.2.fz.fd).mono ?_
                  rintro e w9 ⟨R9, rc9, P9, pc9, Q9, qc9, A9, c9, rfl, ⟨r9, p9, q9, e9, k1, k1b, k1c⟩, k2, k3⟩
                  have hal9 := (Below.refl w9.heap.size w9).alloc (Nat.le_refl _) (.cells #[.int .i64 num, .slice R9 droot.length rc9, .int .i64 dix, .slice P9 dps.length pc9, .slice Q9 dqs.length qc9] 40)
                  have hq9 := (HS.out.2.2.2.quiet k3).quiet hal9
                  have kP := HB.out.2.1.below hq9.fz.below
                  have pp0 := kP.cell 0 _ rfl
                  have pp1 := kP.cell 1 _ rfl
                  have pp2 := kP.cell 2 _ rfl
                  have hbPl := kP.lt
                  have k1' : Bys w9 (.slice R9 droot.length rc9) droot := by
                    injection e9 with e9; injection e9 with e9; injection e9 with _ e9; injection e9 with e9 _
                    rw [e9]; exact k1
                  have H9 := Lib.hid (And.intro hq9 (And.intro (k1'.below hal9) (k2.cgsv.below hal9)))
                  clear k1 k1b k1c k1' k2 k3 hal9 hq9 kP e9
                  go_wp2_with fail
                  refine (HRC.out _ _ _ _ ⟨_, _, rfl, HB.out.2.2.1.below H9.out.1.fz.below, HB.out.2.2.2.1.below H9.out.1.fz.below⟩ ⟨_, rfl, H9.out.2.1⟩ H9.out.2.2).mono ?_
                  rintro e w10 ⟨rfl, hh⟩
                  have HN := Lib.hid (And.intro HS.out.1 (And.intro HS.out.2.1 (And.intro HS.out.2.2.1 (H9.out.1.quiet hh))))
                  clear hh H9 pp0 pp1 pp2 HDS HRC
                  have hnl : (((EN.length : Int)) != ((cnt : Nat) : Int)) = false := by
                    have h9 : EN.length = cnt := by
                      rcases HOD.out with ⟨_, _, a, _⟩ | ⟨_, a, _⟩
                      · rw [← a0, a, HN.out.2.2.1]
                      · exact absurd rfl a
                    rw [h9]; simp
                  go_wp2
                  go_roundw
                  case rel => exact ⟨num, _, i + 1, dT, seen, rfl, by go_num, by go_num, by omega, by omega, by omega, by omega, by omega, Lib.hid ⟨HN.out.1, HN.out.2.1, HN.out.2.2.1, .inl rfl, _, _, HN.out.2.2.2⟩⟩
                  case measure => simp [intOf]; omega
              · have HS : Hid (FdJ dT P 3 kn (40 * j + 1 + 2 * (i + 1)) ∧ RunS P kn q num ⟨⟨num, root⟩, ⟨ix, Ps, Qs⟩⟩ (i + 1) ol seen dT ∧ dT.kept.length = cnt ∧ DnW (Wide Zt w7 w8) Y wB w8 b sn bz f [.int .i64 num, .slice R root.length cr, .int .i64 ix, .slice P4 Ps.length cp, .slice Q4 Qs.length cq] ⟨⟨num, root⟩, ⟨ix, Ps, Qs⟩⟩ seen dT) := Lib.hid ⟨HT.out.1.more (by omega), HT.out.2.1.up (by omega), HT.out.2.2.1, H8.out⟩
                clear H8 HT
                have hdn := HS.out.2.1.dn rfl hz0 hv2 hv3 (by omega)
                rcases hdn with ⟨e1, e2, e3⟩ | ⟨e1, e2, e3, e4, e5, e6, e7, e8⟩
                · have e1' : ol = -1 := e1
                  subst e1'
                  go_wp2_with fail
                  refine (done_none _ f dT e2 e3 _ HS.out.2.2.2.fz.fd).mono ?_
                  rintro e w9 ⟨R9, rn9, rc9, P9, pn9, pc9, Q9, qn9, qc9, A9, c9, rfl, k3⟩
                  have HN := Lib.hid (And.intro HS.out.1 (And.intro HS.out.2.1 (And.intro HS.out.2.2.1 ((HS.out.2.2.2.quiet k3).quiet ((Below.refl w9.heap.size w9).alloc (Nat.le_refl _) (.cells #[.int .i64 0, .slice R9 rn9 rc9, .int .i64 0, .slice P9 pn9 pc9, .slice Q9 qn9 qc9] 40))))))
                  clear k3 HS
                  go_wp2
                  go_roundw
                  case rel => exact ⟨-1, _, i + 1, dT, seen, rfl, by go_num, by go_num, by omega, by omega, by decide, by decide, by omega, Lib.hid ⟨HN.out.1, HN.out.2.1, HN.out.2.2.1, HOO.out, _, _, HN.out.2.2.2⟩⟩
                  case measure => simp [intOf]; omega
                · have HV := Lib.hid e4
                  have HE5 := Lib.hid e5
                  have HRU := HS.out.2.1
                  have HOD := Lib.hid HRU.od
                  clear HRU
                  obtain ⟨EN, a0⟩ : ∃ EN, dT.enough = EN := ⟨_, rfl⟩
                  obtain ⟨DD, b0⟩ : ∃ DD, dT.done = DD := ⟨_, rfl⟩
                  rw [a0] at e3 e4 e5 e8 HV HE5
                  rw [b0] at e2 e4 e6 e7 HV
                  have HDS := Lib.hid (fun (wz : World) (Zz : Nat → Prop) (z : FdAt Zz wz f dT) => done_some Zz f dT DD b0 EN.length (by rw [a0]) (by omega) (by omega) (by rw [a0]; exact e5) (by omega) e6 wz z)
                  rw [a0] at HDS
                  obtain ⟨⟨dn, droot⟩, ⟨dix, dps, dqs⟩⟩ := DD
                  have e2' : ol = dn := Eq.symm e2
                  subst e2'
                  have HRC := Lib.hid (fun (wz : World) (vp vc vl : Value) (z1 : PolV wz vp P) (z2 : CkV wz vc ⟨ol, droot⟩) (z3 : CgsV wz vl EN) => rcount_any vp vc vl P ⟨ol, droot⟩ EN HSP.out (by show droot.length ≤ _; have : droot.length ≤ 1000000 := e7; omega) e5 (by omega) wz z1 z2 z3)
                  rw [count_valid e4] at HRC
                  have hcq : ¬ ((EN.length : Int) < q) := by omega
                  have hen8 : EN.length ≤ 8 := e8
                  clear e4 e5 e6 e7 e8 e3 HV HE5
                  go_wp2_with fail
                  refine (HDS.out _ _ HS.out.2.2.2.fz.fd).mono ?_
                  rintro e w9 ⟨R9, rc9, P9, pc9, Q9, qc9, A9, c9, rfl, ⟨r9, p9, q9, e9, k1, k1b, k1c⟩, k2, k3⟩
                  have hal9 := (Below.refl w9.heap.size w9).alloc (Nat.le_refl _) (.cells #[.int .i64 ol, .slice R9 droot.length rc9, .int .i64 dix, .slice P9 dps.length pc9, .slice Q9 dqs.length qc9] 40)
                  have hq9 := (HS.out.2.2.2.quiet k3).quiet hal9
                  have kP := HB.out.2.1.below hq9.fz.below
                  have pp0 := kP.cell 0 _ rfl
                  have pp1 := kP.cell 1 _ rfl
                  have pp2 := kP.cell 2 _ rfl
                  have hbPl := kP.lt
                  have k1' : Bys w9 (.slice R9 droot.length rc9) droot := by
                    injection e9 with e9; injection e9 with e9; injection e9 with _ e9; injection e9 with e9 _
                    rw [e9]; exact k1
                  have H9 := Lib.hid (And.intro hq9 (And.intro (k1'.below hal9) (k2.cgsv.below hal9)))
                  clear k1 k1b k1c k1' k2 k3 hal9 hq9 kP e9
                  go_wp2_with fail
                  refine (HRC.out _ _ _ _ ⟨_, _, rfl, HB.out.2.2.1.below H9.out.1.fz.below, HB.out.2.2.2.1.below H9.out.1.fz.below⟩ ⟨_, rfl, H9.out.2.1⟩ H9.out.2.2).mono ?_
                  rintro e w10 ⟨rfl, hh⟩
                  have HN := Lib.hid (And.intro HS.out.1 (And.intro HS.out.2.1 (And.intro HS.out.2.2.1 (H9.out.1.quiet hh))))
                  clear hh H9 pp0 pp1 pp2 HDS HRC
                  by_cases hoz : ol = num
                  · have HOZ := Lib.hid hoz
                    have hnl : (((EN.length : Int)) != ((cnt : Nat) : Int)) = false := by
                      have h9 : EN.length = cnt := by
                        rcases HOD.out with ⟨_, _, a, _⟩ | ⟨_, a, _⟩
                        · rw [← a0, a, HN.out.2.2.1]
                        · exact absurd HOZ.out a
                      rw [h9]; simp
                    have hoz2 : ((ol == num) : Bool) = true := by rw [beq_iff_eq]; exact hoz
                    clear hoz
                    go_wp2
                    go_roundw
                    case rel => exact ⟨ol, _, i + 1, dT, seen, rfl, by go_num, by go_num, by omega, by omega, by omega, by omega, by omega, Lib.hid ⟨HN.out.1, HN.out.2.1, HN.out.2.2.1, HOO.out, _, _, HN.out.2.2.2⟩⟩
                    case measure => simp [intOf]; omega
                  · have hoz2 : ((ol == num) : Bool) = false := by rw [beq_eq_false_iff_ne]; exact hoz
                    clear hoz
                    go_wp2
                    go_roundw
                    case rel => exact ⟨ol, _, i + 1, dT, seen, rfl, by go_num, by go_num, by omega, by omega, by omega, by omega, by omega, Lib.hid ⟨HN.out.1, HN.out.2.1, HN.out.2.2.1, HOO.out, _, _, HN.out.2.2.2⟩⟩
                    case measure => simp [intOf]; omega
            | false =>
              have HAG := Lib.hid (hRT.hear hJT.pol HPP.out.2.2 wn hwk hSB (cgz wn) (HGZ.out wn hwk).1 (HGZ.out wn hwk).2.2 (HGZ.out wn hwk).2.1 0 num)
              have HCW := Lib.hid hcw
              have c2 := hWT.sb.cell wn _ hcw
              clear hJT hRT hcT hWT hcw hSB
              go_wp2
              refine wp_region_held_drew (S := fun w' => w'.cell? ⟨b, 0, none⟩ = some (.int .i64 num) ∧ w'.cell? ⟨b, 1, none⟩ = some (.slice R root.length cr) ∧ w'.cell? ⟨sn, wn, none⟩ = some (.bool false)) (by kernel_rfl) ?_ (fun hHeld => ?_)
              · exact ⟨c0, c1', c2⟩
              refine take_yes 0 92 rfl rfl (by kernel_rfl) (by kernel_rfl) (by kernel_rfl) (fun _ _ _ h => h) (by assumption) (by rfl) (v := ?_) ?_ ?_
              rotate_left 1
              · (intro w hSw; (try dsimp only at hSw); go_simp; try with_reducible rfl)
              simp only [List.setIfInBounds_toArray, List.set_cons_zero, List.set_cons_succ]
              refine take_yes 1 93 rfl rfl (by kernel_rfl) (by kernel_rfl) (by kernel_rfl) (fun _ _ _ h => h) (by assumption) (by rfl) (v := ?_) ?_ ?_
              rotate_left 1
              · (intro w hSw; (try dsimp only at hSw); go_simp; try with_reducible rfl)
              simp only [List.setIfInBounds_toArray, List.set_cons_zero, List.set_cons_succ]
              refine take_yes 2 94 rfl rfl (by kernel_rfl) (by kernel_rfl) (by kernel_rfl) (fun _ _ _ h => h) (by assumption) (by rfl) (v := ?_) ?_ ?_
              rotate_left 1
              · (intro w hSw; (try dsimp only at hSw); go_simp; try with_reducible rfl)
              simp only [List.setIfInBounds_toArray, List.set_cons_zero, List.set_cons_succ]
              refine take_yes 3 95 rfl rfl (by kernel_rfl) (by kernel_rfl) (by kernel_rfl) (fun _ _ _ h => h) (by assumption) (by rfl) (v := ?_) ?_ ?_
              rotate_left 1
              · (intro w hSw; (try dsimp only at hSw); go_simp; try with_reducible rfl)
              simp only [List.setIfInBounds_toArray, List.set_cons_zero, List.set_cons_succ]
              refine take_yes 4 96 rfl rfl (by kernel_rfl) (by kernel_rfl) (by kernel_rfl) (fun _ _ _ h => h) (by assumption) (by rfl) (v := ?_) ?_ ?_
              rotate_left 1
              · (intro w hSw; (try dsimp only at hSw); go_simp; try with_reducible rfl)
              simp only [List.setIfInBounds_toArray, List.set_cons_zero, List.set_cons_succ]
              refine take_yes 5 97 rfl rfl (by kernel_rfl) (by kernel_rfl) (by kernel_rfl) (fun _ _ _ h => h) (by assumption) (by rfl) (v := ?_) ?_ ?_
              rotate_left 1
              · (intro w hSw; (try dsimp only at hSw); go_simp; try with_reducible rfl)
              simp only [List.setIfInBounds_toArray, List.set_cons_zero, List.set_cons_succ]
              refine take_yes 7 99 rfl rfl (by kernel_rfl) (by kernel_rfl) (by kernel_rfl) (fun _ _ _ h => h) (by assumption) (by rfl) (v := ?_) ?_ ?_
              rotate_left 1
              · (intro w hSw; (try dsimp only at hSw); go_simp; try with_reducible rfl)
              simp only [List.setIfInBounds_toArray, List.set_cons_zero, List.set_cons_succ]
              refine take_yes 9 101 rfl rfl (by kernel_rfl) (by kernel_rfl) (by kernel_rfl) (fun _ _ _ h => h) (by assumption) (by rfl) (v := ?_) ?_ ?_
              rotate_left 1
              · (intro w hSw; (try dsimp only at hSw); go_simp; try with_reducible rfl)
              simp only [List.setIfInBounds_toArray, List.set_cons_zero, List.set_cons_succ]
              refine take_yes 10 102 rfl rfl (by kernel_rfl) (by kernel_rfl) (by kernel_rfl) (fun _ _ _ h => h) (by assumption) (by rfl) (v := ?_) ?_ ?_
              rotate_left 1
              · (intro w hSw; (try dsimp only at hSw); go_simp; try with_reducible rfl)
              simp only [List.setIfInBounds_toArray, List.set_cons_zero, List.set_cons_succ]
              refine take_yes 11 103 rfl rfl (by kernel_rfl) (by kernel_rfl) (by kernel_rfl) (fun _ _ _ h => h) (by assumption) (by rfl) (v := ?_) ?_ ?_
              rotate_left 1
              · (intro w hSw; (try dsimp only at hSw); go_simp; try with_reducible rfl)
              simp only [List.setIfInBounds_toArray, List.set_cons_zero, List.set_cons_succ]
              refine take_yes 12 104 rfl rfl (by kernel_rfl) (by kernel_rfl) (by kernel_rfl) (fun _ _ _ h => h) (by assumption) (by rfl) (v := ?_) ?_ ?_
              rotate_left 1
              · (intro w hSw; (try dsimp only at hSw); go_simp; try with_reducible rfl)
              simp only [List.setIfInBounds_toArray, List.set_cons_zero, List.set_cons_succ]
              refine take_yes 13 105 rfl rfl (by kernel_rfl) (by kernel_rfl) (by kernel_rfl) (fun _ _ _ h => h) (by assumption) (by rfl) (v := ?_) ?_ ?_
              rotate_left 1
              · (intro w hSw; (try dsimp only at hSw); go_simp; try with_reducible rfl)
              simp only [List.setIfInBounds_toArray, List.set_cons_zero, List.set_cons_succ]
              refine wpAnyH_ready (rs := [6]) (by kernel_rfl) (by simp) ?_
              refine AllReadyH.cons rfl (fun K hK => ?_) AllReadyH.nil
              -- 6:  dst := some 98, op := Op.call  callee := Callee.value (Operand.func 13), args := #[Operand.tmp 94, Operand.tmp 95, Operand.tmp 
              go_simp
              go_at_call 13
              refine (HOZ.out wn hwk S g o c1 _ wT.drew ((HB.out.1.below HT.out.2.2.2.fz.below).below (Below.refl wT.heap.size wT).drew) (fun x hx => Nat.lt_of_lt_of_le (HB.out.2.2.2.2.2 x hx) HT.out.2.2.2.fz.below.size) ⟨_, rfl, HBY.out.below (Below.refl wT.heap.size wT).drew⟩).mono ?_
              rintro e w7 ⟨v7, rfl, ⟨p7, q7, rfl, z1, z2⟩, h7'⟩
              have h7 : Below wT.heap.size wT w7 := ⟨h7'.os, h7'.tape, h7'.output, h7'.size, h7'.block⟩
              obtain ⟨P7, cp7, rfl⟩ := z1.form
              obtain ⟨Q7, cq7, rfl⟩ := z2.form
              have hq7 := HT.out.2.2.2.quiet h7
              have x0 := hq7.sg.cell 0 _ rfl
              have x1 := hq7.sg.cell 1 _ rfl
              have x2 := hq7.sb.cell wn _ HCW.out
              have H7 := Lib.hid (And.intro hq7 (show CgV w7 (.agg #[.int .i64 (cgz wn).wit, .int .i64 (cgz wn).sig.index, .slice P7 (cgz wn).sig.parts.length cp7, .slice Q7 (cgz wn).sig.path.length cq7]) (cgz wn) from ⟨_, _, rfl, z1, z2⟩))
              clear z1 z2 h7 h7' hq7
              try dsimp only
              refine hK.out _ _ ⟨x0, x1, x2⟩ (fun hHeld6 => ?_)
              clear hK K
              try simp only [Act.put, List.setIfInBounds_toArray, List.set_cons_zero, List.set_cons_succ]
              refine wpAnyH_ready (rs := [8]) (by kernel_rfl) (by simp) ?_
              refine AllReadyH.cons rfl (fun K hK => ?_) AllReadyH.nil
              -- 8:  dst := some 100, op := Op.call  callee := Callee.value (Operand.func 12), args := #[Operand.tmp 92, Operand.tmp 93, Operand.tmp
              go_simp
              go_at_call 12
              refine (reply_fd Zt f dT P 3 kn _ _ (cgz wn) (wn : Int) 0 num HT.out.1 (by omega) (by omega) HSP.out (HGZ.out wn hwk).2.1 (by have := HT.out.2.2.1; omega) w7 H7.out.1.fz.fd H7.out.2 (fun x hx => (H7.out.1.fz.zz x hx).2)).mono ?_
              rw [HAG.out.1]
              rintro e w8 ⟨rfl, m1, m2⟩
              have hq8 := H7.out.1.on m1 m2 (fun x hx => hx)
              have u0 := hq8.sg.cell 0 _ rfl
              have u1 := hq8.sg.cell 1 _ rfl
              have u2 := hq8.sb.cell wn _ HCW.out
              have H8 := Lib.hid hq8
              clear m1 m2 hq8
              try dsimp only
              refine hK.out _ _ ⟨u0, u1, u2⟩ (fun hHeld8 => ?_)
              clear hK K
              try simp only [Act.put, List.setIfInBounds_toArray, List.set_cons_zero, List.set_cons_succ]
              refine take_yes 14 106 rfl rfl (by kernel_rfl) (by kernel_rfl) (by kernel_rfl) (fun _ _ _ h => h) (by assumption) (by rfl) (v := ?_) ?_ ?_
              rotate_left 1
              · (intro w hSw; (try dsimp only at hSw); go_simp; try with_reducible rfl)
              simp only [List.setIfInBounds_toArray, List.set_cons_zero, List.set_cons_succ]
              refine wpAnyH_done (by kernel_rfl) ?_ _
              clear hHeld hHeld6 hHeld8 c0 c1' c2 x0 x1 x2 u0 u1
              have hls8 := H8.out.sb.lt
              have y8 := H8.out.sb.free wn
              have hc81 : cnt + 1 ≤ 8 := by have h1 := HT.out.2.1.kl; have h2 := HT.out.2.2.1; omega
              have H9 := Lib.hid (H8.out.see wn hws)
              by_cases hq : q ≤ (cnt : Int) + 1
              · have HS : Hid (FdJ (anyRN dT wn (cgz wn) 0 num) P 3 kn (40 * j + 1 + 2 * (i + 1)) ∧ RunS P kn q num ⟨⟨num, root⟩, ⟨ix, Ps, Qs⟩⟩ (i + 1) num (seen.set wn true) (anyRN dT wn (cgz wn) 0 num) ∧ (anyRN dT wn (cgz wn) 0 num).kept.length = cnt + 1 ∧ DnW (Wide Zt w7 w8) Y wB (w8.setCell ⟨sn, wn, none⟩ (.bool true)) b sn bz f [.int .i64 num, .slice R root.length cr, .int .i64 ix, .slice P4 Ps.length cp, .slice Q4 Qs.length cq] ⟨⟨num, root⟩, ⟨ix, Ps, Qs⟩⟩ (seen.set wn true) (anyRN dT wn (cgz wn) 0 num)) := Lib.hid ⟨(HT.out.1.anyRN _ _ _ _).more (by omega), by
                  have h1 := HAG.out.2.1
                  rw [HT.out.2.2.1, if_pos hq] at h1
                  exact h1, by rw [HAG.out.2.2, HT.out.2.2.1], H9.out⟩
                clear H8 H9 HAG HT
                generalize anyRN dT wn (cgz wn) 0 num = dU at *
                have hdn := HS.out.2.1.dn rfl hz0 hv2 hv3 (by omega)
                rcases hdn with ⟨e1, e2, e3⟩ | ⟨e1, e2, e3, e4, e5, e6, e7, e8⟩
                · exact absurd e1 (by omega)
                · have HV := Lib.hid e4
                  have HE5 := Lib.hid e5
                  have HRU := HS.out.2.1
                  have HOD := Lib.hid HRU.od
                  clear HRU
                  obtain ⟨EN, a0⟩ : ∃ EN, dU.enough = EN := ⟨_, rfl⟩
                  obtain ⟨DD, b0⟩ : ∃ DD, dU.done = DD := ⟨_, rfl⟩
                  rw [a0] at e3 e4 e5 e8 HV HE5
                  rw [b0] at e2 e4 e6 e7 HV
                  have HDS := Lib.hid (fun (wz : World) (Zz : Nat → Prop) (z : FdAt Zz wz f dU) => done_some Zz f dU DD b0 EN.length (by rw [a0]) (by omega) (by omega) (by rw [a0]; exact e5) (by omega) e6 wz z)
                  rw [a0] at HDS
                  obtain ⟨⟨dn, droot⟩, ⟨dix, dps, dqs⟩⟩ := DD
                  have e2' : num = dn := Eq.symm e2
                  subst e2'
                  have HRC := Lib.hid (fun (wz : World) (vp vc vl : Value) (z1 : PolV wz vp P) (z2 : CkV wz vc ⟨num, droot⟩) (z3 : CgsV wz vl EN) => rcount_any vp vc vl P ⟨num, droot⟩ EN HSP.out (by show droot.length ≤ _; have : droot.length ≤ 1000000 := e7; omega) e5 (by omega) wz z1 z2 z3)
                  rw [count_valid e4] at HRC
                  have hcq : ¬ ((EN.length : Int) < q) := by omega
                  have hen8 : EN.length ≤ 8 := e8
                  clear e4 e5 e6 e7 e8 e3 HV HE5
                  go_wp2_with fail
                  refine (HDS.out _ _ HS.out.2.2.2.fz.fd).mono ?_
                  rintro e w9 ⟨R9, rc9, P9, pc9, Q9, qc9, A9, c9, rfl, ⟨r9, p9, q9, e9, k1, k1b, k1c⟩, k2, k3⟩
                  have hal9 := (Below.refl w9.heap.size w9).alloc (Nat.le_refl _) (.cells #[.int .i64 num, .slice R9 droot.length rc9, .int .i64 dix, .slice P9 dps.length pc9, .slice Q9 dqs.length qc9] 40)
                  have hq9 := (HS.out.2.2.2.quiet k3).quiet hal9
                  have kP := HB.out.2.1.below hq9.fz.below
                  have pp0 := kP.cell 0 _ rfl
                  have pp1 := kP.cell 1 _ rfl
                  have pp2 := kP.cell 2 _ rfl
                  have hbPl := kP.lt
                  have k1' : Bys w9 (.slice R9 droot.length rc9) droot := by
                    injection e9 with e9; injection e9 with e9; injection e9 with _ e9; injection e9 with e9 _
                    rw [e9]; exact k1
                  have H9 := Lib.hid (And.intro hq9 (And.intro (k1'.below hal9) (k2.cgsv.below hal9)))
                  clear k1 k1b k1c k1' k2 k3 hal9 hq9 kP e9
                  go_wp2_with fail
                  refine (HRC.out _ _ _ _ ⟨_, _, rfl, HB.out.2.2.1.below H9.out.1.fz.below, HB.out.2.2.2.1.below H9.out.1.fz.below⟩ ⟨_, rfl, H9.out.2.1⟩ H9.out.2.2).mono ?_
                  rintro e w10 ⟨rfl, hh⟩
                  have HN := Lib.hid (And.intro HS.out.1 (And.intro HS.out.2.1 (And.intro HS.out.2.2.1 (H9.out.1.quiet hh))))
                  clear hh H9 pp0 pp1 pp2 HDS HRC
                  have hnl : (((EN.length : Int)) != (((cnt : Int) + 1) : Int)) = false := by
                    have h9 : EN.length = cnt + 1 := by
                      rcases HOD.out with ⟨_, _, a, _⟩ | ⟨_, a, _⟩
                      · rw [← a0, a, HN.out.2.2.1]
                      · exact absurd rfl a
                    rw [h9]; simp
                  go_wp2
                  go_roundw
                  case rel => exact ⟨num, _, i + 1, dU, (seen.set wn true), rfl, by go_num, by go_num, by omega, by omega, by omega, by omega, by omega, Lib.hid ⟨HN.out.1, HN.out.2.1, HN.out.2.2.1, .inl rfl, _, _, HN.out.2.2.2⟩⟩
                  case measure => simp [intOf]; omega
              · have HS : Hid (FdJ (anyRN dT wn (cgz wn) 0 num) P 3 kn (40 * j + 1 + 2 * (i + 1)) ∧ RunS P kn q num ⟨⟨num, root⟩, ⟨ix, Ps, Qs⟩⟩ (i + 1) ol (seen.set wn true) (anyRN dT wn (cgz wn) 0 num) ∧ (anyRN dT wn (cgz wn) 0 num).kept.length = cnt + 1 ∧ DnW (Wide Zt w7 w8) Y wB (w8.setCell ⟨sn, wn, none⟩ (.bool true)) b sn bz f [.int .i64 num, .slice R root.length cr, .int .i64 ix, .slice P4 Ps.length cp, .slice Q4 Qs.length cq] ⟨⟨num, root⟩, ⟨ix, Ps, Qs⟩⟩ (seen.set wn true) (anyRN dT wn (cgz wn) 0 num)) := Lib.hid ⟨(HT.out.1.anyRN _ _ _ _).more (by omega), by
                  have h1 := HAG.out.2.1
                  rw [HT.out.2.2.1, if_neg hq] at h1
                  exact h1, by rw [HAG.out.2.2, HT.out.2.2.1], H9.out⟩
                clear H8 H9 HAG HT
                generalize anyRN dT wn (cgz wn) 0 num = dU at *
                have hdn := HS.out.2.1.dn rfl hz0 hv2 hv3 (by omega)
                rcases hdn with ⟨e1, e2, e3⟩ | ⟨e1, e2, e3, e4, e5, e6, e7, e8⟩
                · have e1' : ol = -1 := e1
                  subst e1'
                  go_wp2_with fail
                  refine (done_none _ f dU e2 e3 _ HS.out.2.2.2.fz.fd).mono ?_
                  rintro e w9 ⟨R9, rn9, rc9, P9, pn9, pc9, Q9, qn9, qc9, A9, c9, rfl, k3⟩
                  have HN := Lib.hid (And.intro HS.out.1 (And.intro HS.out.2.1 (And.intro HS.out.2.2.1 ((HS.out.2.2.2.quiet k3).quiet ((Below.refl w9.heap.size w9).alloc (Nat.le_refl _) (.cells #[.int .i64 0, .slice R9 rn9 rc9, .int .i64 0, .slice P9 pn9 pc9, .slice Q9 qn9 qc9] 40))))))
                  clear k3 HS
                  go_wp2
                  go_roundw
                  case rel => exact ⟨-1, _, i + 1, dU, (seen.set wn true), rfl, by go_num, by go_num, by omega, by omega, by decide, by decide, by omega, Lib.hid ⟨HN.out.1, HN.out.2.1, HN.out.2.2.1, HOO.out, _, _, HN.out.2.2.2⟩⟩
                  case measure => simp [intOf]; omega
                · have HV := Lib.hid e4
                  have HE5 := Lib.hid e5
                  have HRU := HS.out.2.1
                  have HOD := Lib.hid HRU.od
                  clear HRU
                  obtain ⟨EN, a0⟩ : ∃ EN, dU.enough = EN := ⟨_, rfl⟩
                  obtain ⟨DD, b0⟩ : ∃ DD, dU.done = DD := ⟨_, rfl⟩
                  rw [a0] at e3 e4 e5 e8 HV HE5
                  rw [b0] at e2 e4 e6 e7 HV
                  have HDS := Lib.hid (fun (wz : World) (Zz : Nat → Prop) (z : FdAt Zz wz f dU) => done_some Zz f dU DD b0 EN.length (by rw [a0]) (by omega) (by omega) (by rw [a0]; exact e5) (by omega) e6 wz z)
                  rw [a0] at HDS
                  obtain ⟨⟨dn, droot⟩, ⟨dix, dps, dqs⟩⟩ := DD
                  have e2' : ol = dn := Eq.symm e2
                  subst e2'
                  have HRC := Lib.hid (fun (wz : World) (vp vc vl : Value) (z1 : PolV wz vp P) (z2 : CkV wz vc ⟨ol, droot⟩) (z3 : CgsV wz vl EN) => rcount_any vp vc vl P ⟨ol, droot⟩ EN HSP.out (by show droot.length ≤ _; have : droot.length ≤ 1000000 := e7; omega) e5 (by omega) wz z1 z2 z3)
                  rw [count_valid e4] at HRC
                  have hcq : ¬ ((EN.length : Int) < q) := by omega
                  have hen8 : EN.length ≤ 8 := e8
                  clear e4 e5 e6 e7 e8 e3 HV HE5
                  go_wp2_with fail
                  refine (HDS.out _ _ HS.out.2.2.2.fz.fd).mono ?_
                  rintro e w9 ⟨R9, rc9, P9, pc9, Q9, qc9, A9, c9, rfl, ⟨r9, p9, q9, e9, k1, k1b, k1c⟩, k2, k3⟩
                  have hal9 := (Below.refl w9.heap.size w9).alloc (Nat.le_refl _) (.cells #[.int .i64 ol, .slice R9 droot.length rc9, .int .i64 dix, .slice P9 dps.length pc9, .slice Q9 dqs.length qc9] 40)
                  have hq9 := (HS.out.2.2.2.quiet k3).quiet hal9
                  have kP := HB.out.2.1.below hq9.fz.below
                  have pp0 := kP.cell 0 _ rfl
                  have pp1 := kP.cell 1 _ rfl
                  have pp2 := kP.cell 2 _ rfl
                  have hbPl := kP.lt
                  have k1' : Bys w9 (.slice R9 droot.length rc9) droot := by
                    injection e9 with e9; injection e9 with e9; injection e9 with _ e9; injection e9 with e9 _
                    rw [e9]; exact k1
                  have H9 := Lib.hid (And.intro hq9 (And.intro (k1'.below hal9) (k2.cgsv.below hal9)))
                  clear k1 k1b k1c k1' k2 k3 hal9 hq9 kP e9
                  go_wp2_with fail
                  refine (HRC.out _ _ _ _ ⟨_, _, rfl, HB.out.2.2.1.below H9.out.1.fz.below, HB.out.2.2.2.1.below H9.out.1.fz.below⟩ ⟨_, rfl, H9.out.2.1⟩ H9.out.2.2).mono ?_
                  rintro e w10 ⟨rfl, hh⟩
                  have HN := Lib.hid (And.intro HS.out.1 (And.intro HS.out.2.1 (And.intro HS.out.2.2.1 (H9.out.1.quiet hh))))
                  clear hh H9 pp0 pp1 pp2 HDS HRC
                  by_cases hoz : ol = num
                  · have HOZ := Lib.hid hoz
                    have hnl : (((EN.length : Int)) != (((cnt : Int) + 1) : Int)) = false := by
                      have h9 : EN.length = cnt + 1 := by
                        rcases HOD.out with ⟨_, _, a, _⟩ | ⟨_, a, _⟩
                        · rw [← a0, a, HN.out.2.2.1]
                        · exact absurd HOZ.out a
                      rw [h9]; simp
                    have hoz2 : ((ol == num) : Bool) = true := by rw [beq_iff_eq]; exact hoz
                    clear hoz
                    go_wp2
                    go_roundw
                    case rel => exact ⟨ol, _, i + 1, dU, (seen.set wn true), rfl, by go_num, by go_num, by omega, by omega, by omega, by omega, by omega, Lib.hid ⟨HN.out.1, HN.out.2.1, HN.out.2.2.1, HOO.out, _, _, HN.out.2.2.2⟩⟩
                    case measure => simp [intOf]; omega
                  · have hoz2 : ((ol == num) : Bool) = false := by rw [beq_eq_false_iff_ne]; exact hoz
                    clear hoz
                    go_wp2
                    go_roundw
                    case rel => exact ⟨ol, _, i + 1, dU, (seen.set wn true), rfl, by go_num, by go_num, by omega, by omega, by omega, by omega, by omega, Lib.hid ⟨HN.out.1, HN.out.2.1, HN.out.2.2.1, HOO.out, _, _, HN.out.2.2.2⟩⟩
                    case measure => simp [intOf]; omega
          · have hnb : (((i : Int) == bad) : Bool) = false := by rw [beq_eq_false_iff_ne]; exact hbd
            have HT : Hid (FdJ d P 3 kn (40 * j + 1 + 2 * i + 1) ∧ RunS P kn q num ⟨⟨num, root⟩, ⟨ix, Ps, Qs⟩⟩ i ol seen d ∧ d.kept.length = cnt ∧ ∃ Z, DnW Z Y wB wr b sn bz f [.int .i64 num, .slice R root.length cr, .int .i64 ix, .slice P4 Ps.length cp, .slice Q4 Qs.length cq] ⟨⟨num, root⟩, ⟨ix, Ps, Qs⟩⟩ seen d) := Lib.hid ⟨HH.out.1.more (by omega), HH.out.2.1, HH.out.2.2.1, _, HH.out.2.2.2⟩
            clear HH hbd
            obtain ⟨hJT, hRT, hcT, Zt, hWT⟩ := HT.out
            replace HT := Lib.hid (And.intro hJT (And.intro hRT (And.intro hcT hWT)))
            have c0 := hWT.sg.cell 0 _ rfl
            have c1' := hWT.sg.cell 1 _ rfl
            have hlb := hWT.sg.lt
            have hls := hWT.sb.lt
            have hws : wn < seen.length := by rw [hRT.sl]; exact hwk
            have hwsn : seen.length = kn := hRT.sl
            have hcw := bools_at seen wn hws
            have HBY : Hid (Bys wr (.slice R root.length cr) root) := Lib.hid (by
              obtain ⟨r9, p9, q9, e9, z1, z2, z3⟩ := hWT.tx
              injection e9 with e9; injection e9 with e9; injection e9 with _ e9; injection e9 with e9 _
              rw [e9]; exact z1.1)
            generalize hSB : seen.getD wn false = SB at *
            cases SB with
            | true =>
              have HAG := Lib.hid (hRT.again wn hwk hSB (cgz wn) 0 num)
              have HCW := Lib.hid hcw
              have c2 := hWT.sb.cell wn _ hcw
              clear hJT hRT hcT hWT hcw hSB hws hwsn
              go_wp2
              refine wp_region_held_drew (S := fun w' => w'.cell? ⟨b, 0, none⟩ = some (.int .i64 num) ∧ w'.cell? ⟨b, 1, none⟩ = some (.slice R root.length cr) ∧ w'.cell? ⟨sn, wn, none⟩ = some (.bool true)) (by kernel_rfl) ?_ (fun hHeld => ?_)
              · exact ⟨c0, c1', c2⟩
              refine take_yes 0 92 rfl rfl (by kernel_rfl) (by kernel_rfl) (by kernel_rfl) (fun _ _ _ h => h) (by assumption) (by rfl) (v := ?_) ?_ ?_
              rotate_left 1
              · (intro w hSw; (try dsimp only at hSw); go_simp; try with_reducible rfl)
              simp only [List.setIfInBounds_toArray, List.set_cons_zero, List.set_cons_succ]
              refine take_yes 1 93 rfl rfl (by kernel_rfl) (by kernel_rfl) (by kernel_rfl) (fun _ _ _ h => h) (by assumption) (by rfl) (v := ?_) ?_ ?_
              rotate_left 1
              · (intro w hSw; (try dsimp only at hSw); go_simp; try with_reducible rfl)
              simp only [List.setIfInBounds_toArray, List.set_cons_zero, List.set_cons_succ]
              refine take_yes 2 94 rfl rfl (by kernel_rfl) (by kernel_rfl) (by kernel_rfl) (fun _ _ _ h => h) (by assumption) (by rfl) (v := ?_) ?_ ?_
              rotate_left 1
              · (intro w hSw; (try dsimp only at hSw); go_simp; try with_reducible rfl)
              simp only [List.setIfInBounds_toArray, List.set_cons_zero, List.set_cons_succ]
              refine take_yes 3 95 rfl rfl (by kernel_rfl) (by kernel_rfl) (by kernel_rfl) (fun _ _ _ h => h) (by assumption) (by rfl) (v := ?_) ?_ ?_
              rotate_left 1
              · (intro w hSw; (try dsimp only at hSw); go_simp; try with_reducible rfl)
              simp only [List.setIfInBounds_toArray, List.set_cons_zero, List.set_cons_succ]
              refine take_yes 4 96 rfl rfl (by kernel_rfl) (by kernel_rfl) (by kernel_rfl) (fun _ _ _ h => h) (by assumption) (by rfl) (v := ?_) ?_ ?_
              rotate_left 1
              · (intro w hSw; (try dsimp only at hSw); go_simp; try with_reducible rfl)
              simp only [List.setIfInBounds_toArray, List.set_cons_zero, List.set_cons_succ]
              refine take_yes 5 97 rfl rfl (by kernel_rfl) (by kernel_rfl) (by kernel_rfl) (fun _ _ _ h => h) (by assumption) (by rfl) (v := ?_) ?_ ?_
              rotate_left 1
              · (intro w hSw; (try dsimp only at hSw); go_simp; try with_reducible rfl)
              simp only [List.setIfInBounds_toArray, List.set_cons_zero, List.set_cons_succ]
              refine take_yes 7 99 rfl rfl (by kernel_rfl) (by kernel_rfl) (by kernel_rfl) (fun _ _ _ h => h) (by assumption) (by rfl) (v := ?_) ?_ ?_
              rotate_left 1
              · (intro w hSw; (try dsimp only at hSw); go_simp; try with_reducible rfl)
              simp only [List.setIfInBounds_toArray, List.set_cons_zero, List.set_cons_succ]
              refine take_yes 9 101 rfl rfl (by kernel_rfl) (by kernel_rfl) (by kernel_rfl) (fun _ _ _ h => h) (by assumption) (by rfl) (v := ?_) ?_ ?_
              rotate_left 1
              · (intro w hSw; (try dsimp only at hSw); go_simp; try with_reducible rfl)
              simp only [List.setIfInBounds_toArray, List.set_cons_zero, List.set_cons_succ]
              refine take_yes 10 102 rfl rfl (by kernel_rfl) (by kernel_rfl) (by kernel_rfl) (fun _ _ _ h => h) (by assumption) (by rfl) (v := ?_) ?_ ?_
              rotate_left 1
              · (intro w hSw; (try dsimp only at hSw); go_simp; try with_reducible rfl)
              simp only [List.setIfInBounds_toArray, List.set_cons_zero, List.set_cons_succ]
              refine take_yes 11 103 rfl rfl (by kernel_rfl) (by kernel_rfl) (by kernel_rfl) (fun _ _ _ h => h) (by assumption) (by rfl) (v := ?_) ?_ ?_
              rotate_left 1
              · (intro w hSw; (try dsimp only at hSw); go_simp; try with_reducible rfl)
              simp only [List.setIfInBounds_toArray, List.set_cons_zero, List.set_cons_succ]
              refine take_yes 12 104 rfl rfl (by kernel_rfl) (by kernel_rfl) (by kernel_rfl) (fun _ _ _ h => h) (by assumption) (by rfl) (v := ?_) ?_ ?_
              rotate_left 1
              · (intro w hSw; (try dsimp only at hSw); go_simp; try with_reducible rfl)
              simp only [List.setIfInBounds_toArray, List.set_cons_zero, List.set_cons_succ]
              refine take_yes 13 105 rfl rfl (by kernel_rfl) (by kernel_rfl) (by kernel_rfl) (fun _ _ _ h => h) (by assumption) (by rfl) (v := ?_) ?_ ?_
              rotate_left 1
              · (intro w hSw; (try dsimp only at hSw); go_simp; try with_reducible rfl)
              simp only [List.setIfInBounds_toArray, List.set_cons_zero, List.set_cons_succ]
              refine wpAnyH_ready (rs := [6]) (by kernel_rfl) (by simp) ?_
              refine AllReadyH.cons rfl (fun K hK => ?_) AllReadyH.nil
              -- 6:  dst := some 98, op := Op.call  callee := Callee.value (Operand.func 13), args := #[Operand.tmp 94, Operand.tmp 95, Operand.tmp 
              go_simp
              go_at_call 13
              refine (HOZ.out wn hwk S g o c1 _ wr.drew ((HB.out.1.below HT.out.2.2.2.fz.below).below (Below.refl wr.heap.size wr).drew) (fun x hx => Nat.lt_of_lt_of_le (HB.out.2.2.2.2.2 x hx) HT.out.2.2.2.fz.below.size) ⟨_, rfl, HBY.out.below (Below.refl wr.heap.size wr).drew⟩).mono ?_
              rintro e w7 ⟨v7, rfl, ⟨p7, q7, rfl, z1, z2⟩, h7'⟩
              have h7 : Below wr.heap.size wr w7 := ⟨h7'.os, h7'.tape, h7'.output, h7'.size, h7'.block⟩
              obtain ⟨P7, cp7, rfl⟩ := z1.form
              obtain ⟨Q7, cq7, rfl⟩ := z2.form
              have hq7 := HT.out.2.2.2.quiet h7
              have x0 := hq7.sg.cell 0 _ rfl
              have x1 := hq7.sg.cell 1 _ rfl
              have x2 := hq7.sb.cell wn _ HCW.out
              have H7 := Lib.hid (And.intro hq7 (show CgV w7 (.agg #[.int .i64 (cgz wn).wit, .int .i64 (cgz wn).sig.index, .slice P7 (cgz wn).sig.parts.length cp7, .slice Q7 (cgz wn).sig.path.length cq7]) (cgz wn) from ⟨_, _, rfl, z1, z2⟩))
              clear z1 z2 h7 h7' hq7
              try dsimp only
              refine hK.out _ _ ⟨x0, x1, x2⟩ (fun hHeld6 => ?_)
              clear hK K
              try simp only [Act.put, List.setIfInBounds_toArray, List.set_cons_zero, List.set_cons_succ]
              refine wpAnyH_ready (rs := [8]) (by kernel_rfl) (by simp) ?_
              refine AllReadyH.cons rfl (fun K hK => ?_) AllReadyH.nil
              -- 8:  dst := some 100, op := Op.call  callee := Callee.value (Operand.func 12), args := #[Operand.tmp 92, Operand.tmp 93, Operand.tmp
              go_simp
              go_at_call 12
              refine (reply_fd Zt f d P 3 kn _ _ (cgz wn) (wn : Int) 0 num HT.out.1 (by omega) (by omega) HSP.out (HGZ.out wn hwk).2.1 (by have := HT.out.2.2.1; omega) w7 H7.out.1.fz.fd H7.out.2 (fun x hx => (H7.out.1.fz.zz x hx).2)).mono ?_
              rw [HAG.out.1]
              rintro e w8 ⟨rfl, m1, m2⟩
              have hq8 := H7.out.1.on m1 m2 (fun x hx => hx)
              have u0 := hq8.sg.cell 0 _ rfl
              have u1 := hq8.sg.cell 1 _ rfl
              have u2 := hq8.sb.cell wn _ HCW.out
              have H8 := Lib.hid hq8
              clear m1 m2 hq8
              try dsimp only
              refine hK.out _ _ ⟨u0, u1, u2⟩ (fun hHeld8 => ?_)
              clear hK K
              try simp only [Act.put, List.setIfInBounds_toArray, List.set_cons_zero, List.set_cons_succ]
              refine take_yes 14 106 rfl rfl (by kernel_rfl) (by kernel_rfl) (by kernel_rfl) (fun _ _ _ h => h) (by assumption) (by rfl) (v := ?_) ?_ ?_
              rotate_left 1
              · (intro w hSw; (try dsimp only at hSw); go_simp; try with_reducible rfl)
              simp only [List.setIfInBounds_toArray, List.set_cons_zero, List.set_cons_succ]
              refine wpAnyH_done (by kernel_rfl) ?_ _
              clear hHeld hHeld6 hHeld8 c0 c1' c2 x0 x1 x2 u0 u1
              have hls8 := H8.out.sb.lt
              rw [HAG.out.2] at H8
              by_cases hq : q ≤ (cnt : Int)
              · have HS : Hid (FdJ d P 3 kn (40 * j + 1 + 2 * (i + 1)) ∧ RunS P kn q num ⟨⟨num, root⟩, ⟨ix, Ps, Qs⟩⟩ (i + 1) num seen d ∧ d.kept.length = cnt ∧ DnW (Wide Zt w7 w8) Y wB w8 b sn bz f [.int .i64 num, .slice R root.length cr, .int .i64 ix, .slice P4 Ps.length cp, .slice Q4 Qs.length cq] ⟨⟨num, root⟩, ⟨ix, Ps, Qs⟩⟩ seen d) := Lib.hid ⟨HT.out.1.more (by omega), by
                  have h1 := HT.out.2.1
                  have h2 : ol = num := by
                    rcases h1.od with ⟨a, _⟩ | ⟨a, _⟩
                    · exact a
                    · have := HT.out.2.2.1; omega
                  rw [h2] at h1
                  exact h1.up (by omega), HT.out.2.2.1, H8.out⟩
                clear H8 HT
                have hdn := HS.out.2.1.dn rfl hz0 hv2 hv3 (by omega)
                rcases hdn with ⟨e1, e2, e3⟩ | ⟨e1, e2, e3, e4, e5, e6, e7, e8⟩
                · exact absurd e1 (by omega)
                · have HV := Lib.hid e4
                  have HE5 := Lib.hid e5
                  have HRU := HS.out.2.1
                  have HOD := Lib.hid HRU.od
                  clear HRU
                  obtain ⟨EN, a0⟩ : ∃ EN, d.enough = EN := ⟨_, rfl⟩
                  obtain ⟨DD, b0⟩ : ∃ DD, d.done = DD := ⟨_, rfl⟩
                  rw [a0] at e3 e4 e5 e8 HV HE5
                  rw [b0] at e2 e4 e6 e7 HV
                  have HDS := Lib.hid (fun (wz : World) (Zz : Nat → Prop) (z : FdAt Zz wz f d) => done_some Zz f d DD b0 EN.length (by rw [a0]) (by omega) (by omega) (by rw [a0]; exact e5) (by omega) e6 wz z)
                  rw [a0] at HDS
                  obtain ⟨⟨dn, droot⟩, ⟨dix, dps, dqs⟩⟩ := DD
                  have e2' : num = dn := Eq.symm e2
                  subst e2'
                  have HRC := Lib.hid (fun (wz : World) (vp vc vl : Value) (z1 : PolV wz vp P) (z2 : CkV wz vc ⟨num, droot⟩) (z3 : CgsV wz vl EN) => rcount_any vp vc vl P ⟨num, droot⟩ EN HSP.out (by show droot.length ≤ _; have : droot.length ≤ 1000000 := e7; omega) e5 (by omega) wz z1 z2 z3)
                  rw [count_valid e4] at HRC
                  have hcq : ¬ ((EN.length : Int) < q) := by omega
                  have hen8 : EN.length ≤ 8 := e8
                  clear e4 e5 e6 e7 e8 e3 HV HE5
                  go_wp2_with fail
                  refine (HDS.out _ _ HS.out.2.2.2.fz.fd).mono ?_
                  rintro e w9 ⟨R9, rc9, P9, pc9, Q9, qc9, A9, c9, rfl, ⟨r9, p9, q9, e9, k1, k1b, k1c⟩, k2, k3⟩
                  have hal9 := (Below.refl w9.heap.size w9).alloc (Nat.le_refl _) (.cells #[.int .i64 num, .slice R9 droot.length rc9, .int .i64 dix, .slice P9 dps.length pc9, .slice Q9 dqs.length qc9] 40)
                  have hq9 := (HS.out.2.2.2.quiet k3).quiet hal9
                  have kP := HB.out.2.1.below hq9.fz.below
                  have pp0 := kP.cell 0 _ rfl
                  have pp1 := kP.cell 1 _ rfl
                  have pp2 := kP.cell 2 _ rfl
                  have hbPl := kP.lt
                  have k1' : Bys w9 (.slice R9 droot.length rc9) droot := by
                    injection e9 with e9; injection e9 with e9; injection e9 with _ e9; injection e9 with e9 _
                    rw [e9]; exact k1
                  have H9 := Lib.hid (And.intro hq9 (And.intro (k1'.below hal9) (k2.cgsv.below hal9)))
                  clear k1 k1b k1c k1' k2 k3 hal9 hq9 kP e9
                  go_wp2_with fail
                  refine (HRC.out _ _ _ _ ⟨_, _, rfl, HB.out.2.2.1.below H9.out.1.fz.below, HB.out.2.2.2.1.below H9.out.1.fz.below⟩ ⟨_, rfl, H9.out.2.1⟩ H9.out.2.2).mono ?_
                  rintro e w10 ⟨rfl, hh⟩
                  have HN := Lib.hid (And.intro HS.out.1 (And.intro HS.out.2.1 (And.intro HS.out.2.2.1 (H9.out.1.quiet hh))))
                  clear hh H9 pp0 pp1 pp2 HDS HRC
                  have hnl : (((EN.length : Int)) != ((cnt : Nat) : Int)) = false := by
                    have h9 : EN.length = cnt := by
                      rcases HOD.out with ⟨_, _, a, _⟩ | ⟨_, a, _⟩
                      · rw [← a0, a, HN.out.2.2.1]
                      · exact absurd rfl a
                    rw [h9]; simp
                  go_wp2
                  go_roundw
                  case rel => exact ⟨num, _, i + 1, d, seen, rfl, by go_num, by go_num, by omega, by omega, by omega, by omega, by omega, Lib.hid ⟨HN.out.1, HN.out.2.1, HN.out.2.2.1, .inl rfl, _, _, HN.out.2.2.2⟩⟩
                  case measure => simp [intOf]; omega
              · have HS : Hid (FdJ d P 3 kn (40 * j + 1 + 2 * (i + 1)) ∧ RunS P kn q num ⟨⟨num, root⟩, ⟨ix, Ps, Qs⟩⟩ (i + 1) ol seen d ∧ d.kept.length = cnt ∧ DnW (Wide Zt w7 w8) Y wB w8 b sn bz f [.int .i64 num, .slice R root.length cr, .int .i64 ix, .slice P4 Ps.length cp, .slice Q4 Qs.length cq] ⟨⟨num, root⟩, ⟨ix, Ps, Qs⟩⟩ seen d) := Lib.hid ⟨HT.out.1.more (by omega), HT.out.2.1.up (by omega), HT.out.2.2.1, H8.out⟩
                clear H8 HT
                have hdn := HS.out.2.1.dn rfl hz0 hv2 hv3 (by omega)
                rcases hdn with ⟨e1, e2, e3⟩ | ⟨e1, e2, e3, e4, e5, e6, e7, e8⟩
                · have e1' : ol = -1 := e1
                  subst e1'
                  go_wp2_with fail
                  refine (done_none _ f d e2 e3 _ HS.out.2.2.2.fz.fd).mono ?_
                  rintro e w9 ⟨R9, rn9, rc9, P9, pn9, pc9, Q9, qn9, qc9, A9, c9, rfl, k3⟩
                  have HN := Lib.hid (And.intro HS.out.1 (And.intro HS.out.2.1 (And.intro HS.out.2.2.1 ((HS.out.2.2.2.quiet k3).quiet ((Below.refl w9.heap.size w9).alloc (Nat.le_refl _) (.cells #[.int .i64 0, .slice R9 rn9 rc9, .int .i64 0, .slice P9 pn9 pc9, .slice Q9 qn9 qc9] 40))))))
                  clear k3 HS
                  go_wp2
                  go_roundw
                  case rel => exact ⟨-1, _, i + 1, d, seen, rfl, by go_num, by go_num, by omega, by omega, by decide, by decide, by omega, Lib.hid ⟨HN.out.1, HN.out.2.1, HN.out.2.2.1, HOO.out, _, _, HN.out.2.2.2⟩⟩
                  case measure => simp [intOf]; omega
                · have HV := Lib.hid e4
                  have HE5 := Lib.hid e5
                  have HRU := HS.out.2.1
                  have HOD := Lib.hid HRU.od
                  clear HRU
                  obtain ⟨EN, a0⟩ : ∃ EN, d.enough = EN := ⟨_, rfl⟩
                  obtain ⟨DD, b0⟩ : ∃ DD, d.done = DD := ⟨_, rfl⟩
                  rw [a0] at e3 e4 e5 e8 HV HE5
                  rw [b0] at e2 e4 e6 e7 HV
                  have HDS := Lib.hid (fun (wz : World) (Zz : Nat → Prop) (z : FdAt Zz wz f d) => done_some Zz f d DD b0 EN.length (by rw [a0]) (by omega) (by omega) (by rw [a0]; exact e5) (by omega) e6 wz z)
                  rw [a0] at HDS
                  obtain ⟨⟨dn, droot⟩, ⟨dix, dps, dqs⟩⟩ := DD
                  have e2' : ol = dn := Eq.symm e2
                  subst e2'
                  have HRC := Lib.hid (fun (wz : World) (vp vc vl : Value) (z1 : PolV wz vp P) (z2 : CkV wz vc ⟨ol, droot⟩) (z3 : CgsV wz vl EN) => rcount_any vp vc vl P ⟨ol, droot⟩ EN HSP.out (by show droot.length ≤ _; have : droot.length ≤ 1000000 := e7; omega) e5 (by omega) wz z1 z2 z3)
                  rw [count_valid e4] at HRC
                  have hcq : ¬ ((EN.length : Int) < q) := by omega
                  have hen8 : EN.length ≤ 8 := e8
                  clear e4 e5 e6 e7 e8 e3 HV HE5
                  go_wp2_with fail
                  refine (HDS.out _ _ HS.out.2.2.2.fz.fd).mono ?_
                  rintro e w9 ⟨R9, rc9, P9, pc9, Q9, qc9, A9, c9, rfl, ⟨r9, p9, q9, e9, k1, k1b, k1c⟩, k2, k3⟩
                  have hal9 := (Below.refl w9.heap.size w9).alloc (Nat.le_refl _) (.cells #[.int .i64 ol, .slice R9 droot.length rc9, .int .i64 dix, .slice P9 dps.length pc9, .slice Q9 dqs.length qc9] 40)
                  have hq9 := (HS.out.2.2.2.quiet k3).quiet hal9
                  have kP := HB.out.2.1.below hq9.fz.below
                  have pp0 := kP.cell 0 _ rfl
                  have pp1 := kP.cell 1 _ rfl
                  have pp2 := kP.cell 2 _ rfl
                  have hbPl := kP.lt
                  have k1' : Bys w9 (.slice R9 droot.length rc9) droot := by
                    injection e9 with e9; injection e9 with e9; injection e9 with _ e9; injection e9 with e9 _
                    rw [e9]; exact k1
                  have H9 := Lib.hid (And.intro hq9 (And.intro (k1'.below hal9) (k2.cgsv.below hal9)))
                  clear k1 k1b k1c k1' k2 k3 hal9 hq9 kP e9
                  go_wp2_with fail
                  refine (HRC.out _ _ _ _ ⟨_, _, rfl, HB.out.2.2.1.below H9.out.1.fz.below, HB.out.2.2.2.1.below H9.out.1.fz.below⟩ ⟨_, rfl, H9.out.2.1⟩ H9.out.2.2).mono ?_
                  rintro e w10 ⟨rfl, hh⟩
                  have HN := Lib.hid (And.intro HS.out.1 (And.intro HS.out.2.1 (And.intro HS.out.2.2.1 (H9.out.1.quiet hh))))
                  clear hh H9 pp0 pp1 pp2 HDS HRC
                  by_cases hoz : ol = num
                  · have HOZ := Lib.hid hoz
                    have hnl : (((EN.length : Int)) != ((cnt : Nat) : Int)) = false := by
                      have h9 : EN.length = cnt := by
                        rcases HOD.out with ⟨_, _, a, _⟩ | ⟨_, a, _⟩
                        · rw [← a0, a, HN.out.2.2.1]
                        · exact absurd HOZ.out a
                      rw [h9]; simp
                    have hoz2 : ((ol == num) : Bool) = true := by rw [beq_iff_eq]; exact hoz
                    clear hoz
                    go_wp2
                    go_roundw
                    case rel => exact ⟨ol, _, i + 1, d, seen, rfl, by go_num, by go_num, by omega, by omega, by omega, by omega, by omega, Lib.hid ⟨HN.out.1, HN.out.2.1, HN.out.2.2.1, HOO.out, _, _, HN.out.2.2.2⟩⟩
                    case measure => simp [intOf]; omega
                  · have hoz2 : ((ol == num) : Bool) = false := by rw [beq_eq_false_iff_ne]; exact hoz
                    clear hoz
                    go_wp2
                    go_roundw
                    case rel => exact ⟨ol, _, i + 1, d, seen, rfl, by go_num, by go_num, by omega, by omega, by omega, by omega, by omega, Lib.hid ⟨HN.out.1, HN.out.2.1, HN.out.2.2.1, HOO.out, _, _, HN.out.2.2.2⟩⟩
                    case measure => simp [intOf]; omega
            | false =>
              have HAG := Lib.hid (hRT.hear hJT.pol HPP.out.2.2 wn hwk hSB (cgz wn) (HGZ.out wn hwk).1 (HGZ.out wn hwk).2.2 (HGZ.out wn hwk).2.1 0 num)
              have HCW := Lib.hid hcw
              have c2 := hWT.sb.cell wn _ hcw
              clear hJT hRT hcT hWT hcw hSB
              go_wp2
              refine wp_region_held_drew (S := fun w' => w'.cell? ⟨b, 0, none⟩ = some (.int .i64 num) ∧ w'.cell? ⟨b, 1, none⟩ = some (.slice R root.length cr) ∧ w'.cell? ⟨sn, wn, none⟩ = some (.bool false)) (by kernel_rfl) ?_ (fun hHeld => ?_)
              · exact ⟨c0, c1', c2⟩
              refine take_yes 0 92 rfl rfl (by kernel_rfl) (by kernel_rfl) (by kernel_rfl) (fun _ _ _ h => h) (by assumption) (by rfl) (v := ?_) ?_ ?_
              rotate_left 1
              · (intro w hSw; (try dsimp only at hSw); go_simp; try with_reducible rfl)
              simp only [List.setIfInBounds_toArray, List.set_cons_zero, List.set_cons_succ]
              refine take_yes 1 93 rfl rfl (by kernel_rfl) (by kernel_rfl) (by kernel_rfl) (fun _ _ _ h => h) (by assumption) (by rfl) (v := ?_) ?_ ?_
              rotate_left 1
              · (intro w hSw; (try dsimp only at hSw); go_simp; try with_reducible rfl)
              simp only [List.setIfInBounds_toArray, List.set_cons_zero, List.set_cons_succ]
              refine take_yes 2 94 rfl rfl (by kernel_rfl) (by kernel_rfl) (by kernel_rfl) (fun _ _ _ h => h) (by assumption) (by rfl) (v := ?_) ?_ ?_
              rotate_left 1
              · (intro w hSw; (try dsimp only at hSw); go_simp; try with_reducible rfl)
              simp only [List.setIfInBounds_toArray, List.set_cons_zero, List.set_cons_succ]
              refine take_yes 3 95 rfl rfl (by kernel_rfl) (by kernel_rfl) (by kernel_rfl) (fun _ _ _ h => h) (by assumption) (by rfl) (v := ?_) ?_ ?_
              rotate_left 1
              · (intro w hSw; (try dsimp only at hSw); go_simp; try with_reducible rfl)
              simp only [List.setIfInBounds_toArray, List.set_cons_zero, List.set_cons_succ]
              refine take_yes 4 96 rfl rfl (by kernel_rfl) (by kernel_rfl) (by kernel_rfl) (fun _ _ _ h => h) (by assumption) (by rfl) (v := ?_) ?_ ?_
              rotate_left 1
              · (intro w hSw; (try dsimp only at hSw); go_simp; try with_reducible rfl)
              simp only [List.setIfInBounds_toArray, List.set_cons_zero, List.set_cons_succ]
              refine take_yes 5 97 rfl rfl (by kernel_rfl) (by kernel_rfl) (by kernel_rfl) (fun _ _ _ h => h) (by assumption) (by rfl) (v := ?_) ?_ ?_
              rotate_left 1
              · (intro w hSw; (try dsimp only at hSw); go_simp; try with_reducible rfl)
              simp only [List.setIfInBounds_toArray, List.set_cons_zero, List.set_cons_succ]
              refine take_yes 7 99 rfl rfl (by kernel_rfl) (by kernel_rfl) (by kernel_rfl) (fun _ _ _ h => h) (by assumption) (by rfl) (v := ?_) ?_ ?_
              rotate_left 1
              · (intro w hSw; (try dsimp only at hSw); go_simp; try with_reducible rfl)
              simp only [List.setIfInBounds_toArray, List.set_cons_zero, List.set_cons_succ]
              refine take_yes 9 101 rfl rfl (by kernel_rfl) (by kernel_rfl) (by kernel_rfl) (fun _ _ _ h => h) (by assumption) (by rfl) (v := ?_) ?_ ?_
              rotate_left 1
              · (intro w hSw; (try dsimp only at hSw); go_simp; try with_reducible rfl)
              simp only [List.setIfInBounds_toArray, List.set_cons_zero, List.set_cons_succ]
              refine take_yes 10 102 rfl rfl (by kernel_rfl) (by kernel_rfl) (by kernel_rfl) (fun _ _ _ h => h) (by assumption) (by rfl) (v := ?_) ?_ ?_
              rotate_left 1
              · (intro w hSw; (try dsimp only at hSw); go_simp; try with_reducible rfl)
              simp only [List.setIfInBounds_toArray, List.set_cons_zero, List.set_cons_succ]
              refine take_yes 11 103 rfl rfl (by kernel_rfl) (by kernel_rfl) (by kernel_rfl) (fun _ _ _ h => h) (by assumption) (by rfl) (v := ?_) ?_ ?_
              rotate_left 1
              · (intro w hSw; (try dsimp only at hSw); go_simp; try with_reducible rfl)
              simp only [List.setIfInBounds_toArray, List.set_cons_zero, List.set_cons_succ]
              refine take_yes 12 104 rfl rfl (by kernel_rfl) (by kernel_rfl) (by kernel_rfl) (fun _ _ _ h => h) (by assumption) (by rfl) (v := ?_) ?_ ?_
              rotate_left 1
              · (intro w hSw; (try dsimp only at hSw); go_simp; try with_reducible rfl)
              simp only [List.setIfInBounds_toArray, List.set_cons_zero, List.set_cons_succ]
              refine take_yes 13 105 rfl rfl (by kernel_rfl) (by kernel_rfl) (by kernel_rfl) (fun _ _ _ h => h) (by assumption) (by rfl) (v := ?_) ?_ ?_
              rotate_left 1
              · (intro w hSw; (try dsimp only at hSw); go_simp; try with_reducible rfl)
              simp only [List.setIfInBounds_toArray, List.set_cons_zero, List.set_cons_succ]
              refine wpAnyH_ready (rs := [6]) (by kernel_rfl) (by simp) ?_
              refine AllReadyH.cons rfl (fun K hK => ?_) AllReadyH.nil
              -- 6:  dst := some 98, op := Op.call  callee := Callee.value (Operand.func 13), args := #[Operand.tmp 94, Operand.tmp 95, Operand.tmp 
              go_simp
              go_at_call 13
              refine (HOZ.out wn hwk S g o c1 _ wr.drew ((HB.out.1.below HT.out.2.2.2.fz.below).below (Below.refl wr.heap.size wr).drew) (fun x hx => Nat.lt_of_lt_of_le (HB.out.2.2.2.2.2 x hx) HT.out.2.2.2.fz.below.size) ⟨_, rfl, HBY.out.below (Below.refl wr.heap.size wr).drew⟩).mono ?_
              rintro e w7 ⟨v7, rfl, ⟨p7, q7, rfl, z1, z2⟩, h7'⟩
              have h7 : Below wr.heap.size wr w7 := ⟨h7'.os, h7'.tape, h7'.output, h7'.size, h7'.block⟩
              obtain ⟨P7, cp7, rfl⟩ := z1.form
              obtain ⟨Q7, cq7, rfl⟩ := z2.form
              have hq7 := HT.out.2.2.2.quiet h7
              have x0 := hq7.sg.cell 0 _ rfl
              have x1 := hq7.sg.cell 1 _ rfl
              have x2 := hq7.sb.cell wn _ HCW.out
              have H7 := Lib.hid (And.intro hq7 (show CgV w7 (.agg #[.int .i64 (cgz wn).wit, .int .i64 (cgz wn).sig.index, .slice P7 (cgz wn).sig.parts.length cp7, .slice Q7 (cgz wn).sig.path.length cq7]) (cgz wn) from ⟨_, _, rfl, z1, z2⟩))
              clear z1 z2 h7 h7' hq7
              try dsimp only
              refine hK.out _ _ ⟨x0, x1, x2⟩ (fun hHeld6 => ?_)
              clear hK K
              try simp only [Act.put, List.setIfInBounds_toArray, List.set_cons_zero, List.set_cons_succ]
              refine wpAnyH_ready (rs := [8]) (by kernel_rfl) (by simp) ?_
              refine AllReadyH.cons rfl (fun K hK => ?_) AllReadyH.nil
              -- 8:  dst := some 100, op := Op.call  callee := Callee.value (Operand.func 12), args := #[Operand.tmp 92, Operand.tmp 93, Operand.tmp
              go_simp
              go_at_call 12
              refine (reply_fd Zt f d P 3 kn _ _ (cgz wn) (wn : Int) 0 num HT.out.1 (by omega) (by omega) HSP.out (HGZ.out wn hwk).2.1 (by have := HT.out.2.2.1; omega) w7 H7.out.1.fz.fd H7.out.2 (fun x hx => (H7.out.1.fz.zz x hx).2)).mono ?_
              rw [HAG.out.1]
              rintro e w8 ⟨rfl, m1, m2⟩
              have hq8 := H7.out.1.on m1 m2 (fun x hx => hx)
              have u0 := hq8.sg.cell 0 _ rfl
              have u1 := hq8.sg.cell 1 _ rfl
              have u2 := hq8.sb.cell wn _ HCW.out
              have H8 := Lib.hid hq8
              clear m1 m2 hq8
              try dsimp only
              refine hK.out _ _ ⟨u0, u1, u2⟩ (fun hHeld8 => ?_)
              clear hK K
              try simp only [Act.put, List.setIfInBounds_toArray, List.set_cons_zero, List.set_cons_succ]
              refine take_yes 14 106 rfl rfl (by kernel_rfl) (by kernel_rfl) (by kernel_rfl) (fun _ _ _ h => h) (by assumption) (by rfl) (v := ?_) ?_ ?_
              rotate_left 1
              · (intro w hSw; (try dsimp only at hSw); go_simp; try with_reducible rfl)
              simp only [List.setIfInBounds_toArray, List.set_cons_zero, List.set_cons_succ]
              refine wpAnyH_done (by kernel_rfl) ?_ _
              clear hHeld hHeld6 hHeld8 c0 c1' c2 x0 x1 x2 u0 u1
              have hls8 := H8.out.sb.lt
              have y8 := H8.out.sb.free wn
              have hc81 : cnt + 1 ≤ 8 := by have h1 := HT.out.2.1.kl; have h2 := HT.out.2.2.1; omega
              have H9 := Lib.hid (H8.out.see wn hws)
              by_cases hq : q ≤ (cnt : Int) + 1
              · have HS : Hid (FdJ (anyRN d wn (cgz wn) 0 num) P 3 kn (40 * j + 1 + 2 * (i + 1)) ∧ RunS P kn q num ⟨⟨num, root⟩, ⟨ix, Ps, Qs⟩⟩ (i + 1) num (seen.set wn true) (anyRN d wn (cgz wn) 0 num) ∧ (anyRN d wn (cgz wn) 0 num).kept.length = cnt + 1 ∧ DnW (Wide Zt w7 w8) Y wB (w8.setCell ⟨sn, wn, none⟩ (.bool true)) b sn bz f [.int .i64 num, .slice R root.length cr, .int .i64 ix, .slice P4 Ps.length cp, .slice Q4 Qs.length cq] ⟨⟨num, root⟩, ⟨ix, Ps, Qs⟩⟩ (seen.set wn true) (anyRN d wn (cgz wn) 0 num)) := Lib.hid ⟨(HT.out.1.anyRN _ _ _ _).more (by omega), by
                  have h1 := HAG.out.2.1
                  rw [HT.out.2.2.1, if_pos hq] at h1
                  exact h1, by rw [HAG.out.2.2, HT.out.2.2.1], H9.out⟩
                clear H8 H9 HAG HT
                generalize anyRN d wn (cgz wn) 0 num = dU at *
                have hdn := HS.out.2.1.dn rfl hz0 hv2 hv3 (by omega)
                rcases hdn with ⟨e1, e2, e3⟩ | ⟨e1, e2, e3, e4, e5, e6, e7, e8⟩
                · exact absurd e1 (by omega)
                · have HV := Lib.hid e4
                  have HE5 := Lib.hid e5
                  have HRU := HS.out.2.1
                  have HOD := Lib.hid HRU.od
                  clear HRU
                  obtain ⟨EN, a0⟩ : ∃ EN, dU.enough = EN := ⟨_, rfl⟩
                  obtain ⟨DD, b0⟩ : ∃ DD, dU.done = DD := ⟨_, rfl⟩
                  rw [a0] at e3 e4 e5 e8 HV HE5
                  rw [b0] at e2 e4 e6 e7 HV
                  have HDS := Lib.hid (fun (wz : World) (Zz : Nat → Prop) (z : FdAt Zz wz f dU) => done_some Zz f dU DD b0 EN.length (by rw [a0]) (by omega) (by omega) (by rw [a0]; exact e5) (by omega) e6 wz z)
                  rw [a0] at HDS
                  obtain ⟨⟨dn, droot⟩, ⟨dix, dps, dqs⟩⟩ := DD
                  have e2' : num = dn := Eq.symm e2
                  subst e2'
                  have HRC := Lib.hid (fun (wz : World) (vp vc vl : Value) (z1 : PolV wz vp P) (z2 : CkV wz vc ⟨num, droot⟩) (z3 : CgsV wz vl EN) => rcount_any vp vc vl P ⟨num, droot⟩ EN HSP.out (by show droot.length ≤ _; have : droot.length ≤ 1000000 := e7; omega) e5 (by omega) wz z1 z2 z3)
                  rw [count_valid e4] at HRC
                  have hcq : ¬ ((EN.length : Int) < q) := by omega
                  have hen8 : EN.length ≤ 8 := e8
                  clear e4 e5 e6 e7 e8 e3 HV HE5
                  go_wp2_with fail
                  refine (HDS.out _ _ HS.out.2.2.2.fz.fd).mono ?_
                  rintro e w9 ⟨R9, rc9, P9, pc9, Q9, qc9, A9, c9, rfl, ⟨r9, p9, q9, e9, k1, k1b, k1c⟩, k2, k3⟩
                  have hal9 := (Below.refl w9.heap.size w9).alloc (Nat.le_refl _) (.cells #[.int .i64 num, .slice R9 droot.length rc9, .int .i64 dix, .slice P9 dps.length pc9, .slice Q9 dqs.length qc9] 40)
                  have hq9 := (HS.out.2.2.2.quiet k3).quiet hal9
                  have kP := HB.out.2.1.below hq9.fz.below
                  have pp0 := kP.cell 0 _ rfl
                  have pp1 := kP.cell 1 _ rfl
                  have pp2 := kP.cell 2 _ rfl
                  have hbPl := kP.lt
                  have k1' : Bys w9 (.slice R9 droot.length rc9) droot := by
                    injection e9 with e9; injection e9 with e9; injection e9 with _ e9; injection e9 with e9 _
                    rw [e9]; exact k1
                  have H9 := Lib.hid (And.intro hq9 (And.intro (k1'.below hal9) (k2.cgsv.below hal9)))
                  clear k1 k1b k1c k1' k2 k3 hal9 hq9 kP e9
                  go_wp2_with fail
                  refine (HRC.out _ _ _ _ ⟨_, _, rfl, HB.out.2.2.1.below H9.out.1.fz.below, HB.out.2.2.2.1.below H9.out.1.fz.below⟩ ⟨_, rfl, H9.out.2.1⟩ H9.out.2.2).mono ?_
                  rintro e w10 ⟨rfl, hh⟩
                  have HN := Lib.hid (And.intro HS.out.1 (And.intro HS.out.2.1 (And.intro HS.out.2.2.1 (H9.out.1.quiet hh))))
                  clear hh H9 pp0 pp1 pp2 HDS HRC
                  have hnl : (((EN.length : Int)) != (((cnt : Int) + 1) : Int)) = false := by
                    have h9 : EN.length = cnt + 1 := by
                      rcases HOD.out with ⟨_, _, a, _⟩ | ⟨_, a, _⟩
                      · rw [← a0, a, HN.out.2.2.1]
                      · exact absurd rfl a
                    rw [h9]; simp
                  go_wp2
                  go_roundw
                  case rel => exact ⟨num, _, i + 1, dU, (seen.set wn true), rfl, by go_num, by go_num, by omega, by omega, by omega, by omega, by omega, Lib.hid ⟨HN.out.1, HN.out.2.1, HN.out.2.2.1, .inl rfl, _, _, HN.out.2.2.2⟩⟩
                  case measure => simp [intOf]; omega
              · have HS : Hid (FdJ (anyRN d wn (cgz wn) 0 num) P 3 kn (40 * j + 1 + 2 * (i + 1)) ∧ RunS P kn q num ⟨⟨num, root⟩, ⟨ix, Ps, Qs⟩⟩ (i + 1) ol (seen.set wn true) (anyRN d wn (cgz wn) 0 num) ∧ (anyRN d wn (cgz wn) 0 num).kept.length = cnt + 1 ∧ DnW (Wide Zt w7 w8) Y wB (w8.setCell ⟨sn, wn, none⟩ (.bool true)) b sn bz f [.int .i64 num, .slice R root.length cr, .int .i64 ix, .slice P4 Ps.length cp, .slice Q4 Qs.length cq] ⟨⟨num, root⟩, ⟨ix, Ps, Qs⟩⟩ (seen.set wn true) (anyRN d wn (cgz wn) 0 num)) := Lib.hid ⟨(HT.out.1.anyRN _ _ _ _).more (by omega), by
                  have h1 := HAG.out.2.1
                  rw [HT.out.2.2.1, if_neg hq] at h1
                  exact h1, by rw [HAG.out.2.2, HT.out.2.2.1], H9.out⟩
                clear H8 H9 HAG HT
                generalize anyRN d wn (cgz wn) 0 num = dU at *
                have hdn := HS.out.2.1.dn rfl hz0 hv2 hv3 (by omega)
                rcases hdn with ⟨e1, e2, e3⟩ | ⟨e1, e2, e3, e4, e5, e6, e7, e8⟩
                · have e1' : ol = -1 := e1
                  subst e1'
                  go_wp2_with fail
                  refine (done_none _ f dU e2 e3 _ HS.out.2.2.2.fz.fd).mono ?_
                  rintro e w9 ⟨R9, rn9, rc9, P9, pn9, pc9, Q9, qn9, qc9, A9, c9, rfl, k3⟩
                  have HN := Lib.hid (And.intro HS.out.1 (And.intro HS.out.2.1 (And.intro HS.out.2.2.1 ((HS.out.2.2.2.quiet k3).quiet ((Below.refl w9.heap.size w9).alloc (Nat.le_refl _) (.cells #[.int .i64 0, .slice R9 rn9 rc9, .int .i64 0, .slice P9 pn9 pc9, .slice Q9 qn9 qc9] 40))))))
                  clear k3 HS
                  go_wp2
                  go_roundw
                  case rel => exact ⟨-1, _, i + 1, dU, (seen.set wn true), rfl, by go_num, by go_num, by omega, by omega, by decide, by decide, by omega, Lib.hid ⟨HN.out.1, HN.out.2.1, HN.out.2.2.1, HOO.out, _, _, HN.out.2.2.2⟩⟩
                  case measure => simp [intOf]; omega
                · have HV := Lib.hid e4
                  have HE5 := Lib.hid e5
                  have HRU := HS.out.2.1
                  have HOD := Lib.hid HRU.od
                  clear HRU
                  obtain ⟨EN, a0⟩ : ∃ EN, dU.enough = EN := ⟨_, rfl⟩
                  obtain ⟨DD, b0⟩ : ∃ DD, dU.done = DD := ⟨_, rfl⟩
                  rw [a0] at e3 e4 e5 e8 HV HE5
                  rw [b0] at e2 e4 e6 e7 HV
                  have HDS := Lib.hid (fun (wz : World) (Zz : Nat → Prop) (z : FdAt Zz wz f dU) => done_some Zz f dU DD b0 EN.length (by rw [a0]) (by omega) (by omega) (by rw [a0]; exact e5) (by omega) e6 wz z)
                  rw [a0] at HDS
                  obtain ⟨⟨dn, droot⟩, ⟨dix, dps, dqs⟩⟩ := DD
                  have e2' : ol = dn := Eq.symm e2
                  subst e2'
                  have HRC := Lib.hid (fun (wz : World) (vp vc vl : Value) (z1 : PolV wz vp P) (z2 : CkV wz vc ⟨ol, droot⟩) (z3 : CgsV wz vl EN) => rcount_any vp vc vl P ⟨ol, droot⟩ EN HSP.out (by show droot.length ≤ _; have : droot.length ≤ 1000000 := e7; omega) e5 (by omega) wz z1 z2 z3)
                  rw [count_valid e4] at HRC
                  have hcq : ¬ ((EN.length : Int) < q) := by omega
                  have hen8 : EN.length ≤ 8 := e8
                  clear e4 e5 e6 e7 e8 e3 HV HE5
                  go_wp2_with fail
                  refine (HDS.out _ _ HS.out.2.2.2.fz.fd).mono ?_
                  rintro e w9 ⟨R9, rc9, P9, pc9, Q9, qc9, A9, c9, rfl, ⟨r9, p9, q9, e9, k1, k1b, k1c⟩, k2, k3⟩
                  have hal9 := (Below.refl w9.heap.size w9).alloc (Nat.le_refl _) (.cells #[.int .i64 ol, .slice R9 droot.length rc9, .int .i64 dix, .slice P9 dps.length pc9, .slice Q9 dqs.length qc9] 40)
                  have hq9 := (HS.out.2.2.2.quiet k3).quiet hal9
                  have kP := HB.out.2.1.below hq9.fz.below
                  have pp0 := kP.cell 0 _ rfl
                  have pp1 := kP.cell 1 _ rfl
                  have pp2 := kP.cell 2 _ rfl
                  have hbPl := kP.lt
                  have k1' : Bys w9 (.slice R9 droot.length rc9) droot := by
                    injection e9 with e9; injection e9 with e9; injection e9 with _ e9; injection e9 with e9 _
                    rw [e9]; exact k1
                  have H9 := Lib.hid (And.intro hq9 (And.intro (k1'.below hal9) (k2.cgsv.below hal9)))
                  clear k1 k1b k1c k1' k2 k3 hal9 hq9 kP e9
                  go_wp2_with fail
                  refine (HRC.out _ _ _ _ ⟨_, _, rfl, HB.out.2.2.1.below H9.out.1.fz.below, HB.out.2.2.2.1.below H9.out.1.fz.below⟩ ⟨_, rfl, H9.out.2.1⟩ H9.out.2.2).mono ?_
                  rintro e w10 ⟨rfl, hh⟩
                  have HN := Lib.hid (And.intro HS.out.1 (And.intro HS.out.2.1 (And.intro HS.out.2.2.1 (H9.out.1.quiet hh))))
                  clear hh H9 pp0 pp1 pp2 HDS HRC
                  by_cases hoz : ol = num
                  · have HOZ := Lib.hid hoz
                    have hnl : (((EN.length : Int)) != (((cnt : Int) + 1) : Int)) = false := by
                      have h9 : EN.length = cnt + 1 := by
                        rcases HOD.out with ⟨_, _, a, _⟩ | ⟨_, a, _⟩
                        · rw [← a0, a, HN.out.2.2.1]
                        · exact absurd HOZ.out a
                      rw [h9]; simp
                    have hoz2 : ((ol == num) : Bool) = true := by rw [beq_iff_eq]; exact hoz
                    clear hoz
                    go_wp2
                    go_roundw
                    case rel => exact ⟨ol, _, i + 1, dU, (seen.set wn true), rfl, by go_num, by go_num, by omega, by omega, by omega, by omega, by omega, Lib.hid ⟨HN.out.1, HN.out.2.1, HN.out.2.2.1, HOO.out, _, _, HN.out.2.2.2⟩⟩
                    case measure => simp [intOf]; omega
                  · have hoz2 : ((ol == num) : Bool) = false := by rw [beq_eq_false_iff_ne]; exact hoz
                    clear hoz
                    go_wp2
                    go_roundw
                    case rel => exact ⟨ol, _, i + 1, dU, (seen.set wn true), rfl, by go_num, by go_num, by omega, by omega, by omega, by omega, by omega, Lib.hid ⟨HN.out.1, HN.out.2.1, HN.out.2.2.1, HOO.out, _, _, HN.out.2.2.2⟩⟩
                    case measure => simp [intOf]; omega
        · have hlt2 : ¬ i < xs.length ∨ (i < xs.length ∧ ¬ i < 8) := by omega
          obtain ⟨hJ, hR, hcnt, hO, Z, Y, hW⟩ := HI.out
          have HN : Hid (DnJ P kn q (j + 1) ol d ∧ ∃ Z, FZ Z wB wr f d ∧ Blk wr bz 3 [.int .i64 3, .int .i64 8] ∧ ∀ x, Z x → x ≠ bz) := Lib.hid (by
            refine ⟨⟨hJ.more (by omega), hR.dn rfl hz0 hv2 hv3 hi8, ?_, fun _ e => ?_, fun e => by omega⟩, Z, hW.fz, hW.ze, fun x hx => (hW.ap x hx).2.2.1⟩
            · rcases hO with e | e
              · rcases hz3 with ⟨h1, h2⟩ | ⟨h1, h2⟩
                · exact .inr (.inl ⟨by omega, by omega⟩)
                · exact .inr (.inr (by omega))
              · rcases HDJ.out.2.2.1 with a | ⟨a, a2⟩ | a
                · exact .inl (by omega)
                · exact .inr (.inl ⟨by omega, by omega⟩)
                · exact .inr (.inr (by omega))
            · rw [hR.cur]
              rcases hz3 with ⟨rfl, rfl⟩ | ⟨rfl, rfl⟩
              · rfl
              · omega)
          clear hJ hR hcnt hO hW HI hlt
          rcases hlt2 with hlt | ⟨hlt, hlt2⟩
          all_goals
            go_wp2
            go_roundw
            case rel => exact ⟨ol, j + 1, d, rfl, by go_num, by omega, hol0, hol8, HN⟩
            case measure => simp [intOf]; omega
    · obtain rfl : j = 2 := by omega
      obtain ⟨_, Z, hF, _, _⟩ := HI.out
      have HE := Lib.hid (HB.out.2.2.2.2.1.trans (hF.below.mono HB.out.2.2.2.2.1.size))
      clear hF HI
      rw [show ((2 : Nat) : Int) = 2 from rfl]
      go_wp2_with fail
      refine (known_any _).mono ?_
      rintro e w' ⟨rfl, h⟩
      have HE2 := Lib.hid (HE.out.trans (h.mono HE.out.size))
      clear h
      go_wp2
      go_ret
      exact ⟨rfl, HE2.out⟩
end Go.Proofs.YtlkgeifmppadmaaGreat

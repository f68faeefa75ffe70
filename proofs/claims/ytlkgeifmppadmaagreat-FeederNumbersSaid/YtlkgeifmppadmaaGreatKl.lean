/- The model's reply: its parts in memory. The model's reply where no cosignature is kept, and the whole reply. Conditions: as each theorem states them. -/
import Derived.Test.YtlkgeifmppadmaaGreatKj
import Derived.Test.YtlkgeifmppadmaaGreatKe
namespace Go.Proofs.YtlkgeifmppadmaaGreat
open Go.RowKit
set_option linter.unusedVariables false
set_option linter.unusedSimpArgs false

def mearB (d : MdD) (wit : Int) (g : CgD) : Bool := d.has && (decide (0 ≤ wit) && (decide (wit < (d.th.length : Int)) && (!(hasW d.kept wit) && (decide (g.wit = wit) && cgVerB d.p d.cur.ck g))))
def mtakB (d : MdD) (wit size : Int) : Bool := d.has && (decide (0 ≤ wit) && (decide (wit < (d.th.length : Int)) && (!(hasW d.kept wit) && (decide (0 ≤ size) && (decide (size ≤ d.cur.ck.num) && !decide (size = d.th.getD wit.toNat 0))))))
def mkep0 (d : MdD) (k : Nat) (g : CgD) : MdD := { d with kept := d.kept ++ [g], th := d.th.set k d.cur.ck.num, plans := canP (k : Int) d.plans }
def mkepD (d : MdD) (k : Nat) (g : CgD) : MdD := if d.p.quorum ≤ ((d.kept.length + 1 : Nat) : Int) then { mkep0 d k g with done := d.cur, dh := true, dk := d.kept ++ [g] } else mkep0 d k g
def msizD (d : MdD) (k : Nat) (size now : Int) : MdD := { d with th := d.th.set k size, plans := insP now (k : Int) (canP (k : Int) d.plans) }
def mrepB (d : MdD) (wit : Int) (g : CgD) (size : Int) : Bool := mearB d wit g || mtakB d wit size
def mrepN (d : MdD) (wit : Int) (g : CgD) (size now : Int) : MdD := if mearB d wit g = true then mkepD d wit.toNat g else if mtakB d wit size = true then msizD d wit.toNat size now else d
theorem MdOk.thought {D : Nat → Prop} {w : World} {mb tb rb : Nat} {d : MdD} {r : MdR} (h : MdOk D w mb tb rb d r) (k : Nat) (x : Int) (hk : k < d.th.length) :
  MdOk D (w.setCell ⟨tb, k, none⟩ (.int .i64 x)) mb tb rb { d with th := d.th.set k x } r ∧ Chg w (w.setCell ⟨tb, k, none⟩ (.int .i64 x)) (fun g => g = tb) := by
 have hcs : Chg w (w.setCell ⟨tb, k, none⟩ (.int .i64 x)) (fun g => g = tb) := chg_cell (Chg.refl w _) k (.int .i64 x)
 have hD3 : ∀ g, D g → ¬ (g = tb) := fun g hg e => (h.dd g hg).1 (.inr (.inl e))
 have t := h.tx.chg hcs hD3
 refine ⟨⟨?_, ?_, h.rbk.chg hcs (fun e => h.n3 e.symm), ⟨t.pl, t.pw, t.cr, t.cp, t.cq, t.kv, t.pv, t.dr, t.dp, t.dq, t.ev⟩, fun g hg => ⟨(h.dd g hg).1, Nat.lt_of_lt_of_le (h.dd g hg).2 hcs.size⟩, h.n1, h.n2, h.n3⟩, hcs⟩
 ·have h9 := h.blk.chg hcs h.n1
  unfold mdCells at h9 ⊢
  dsimp only at h9 ⊢
  rw [List.length_set]
  exact h9
 ·rw [← intsV_set]
  exact h.tbk.set k _ (by unfold intsV; rw [List.length_map]; exact hk)
theorem MdOk.keeps {D D' : Nat → Prop} {w W : World} {mb tb rb : Nat} {d : MdD} {r : MdR} (h : MdOk D w mb tb rb d r) {kv : Value} {l : List CgD} (hb : Below w.heap.size w W)
  (hp : CgsP D' W kv l) (hi : ∀ g, D g → D' g) (hd : ∀ g, D' g → ¬ MdM mb tb rb g ∧ g < W.heap.size) :
  MdOk D' (W.setCell ⟨mb, 12, none⟩ kv) mb tb rb { d with kept := l } { r with kv := kv } ∧ Chg w (W.setCell ⟨mb, 12, none⟩ kv) (fun k => k = mb) := by
 have hc2 : Chg W (W.setCell ⟨mb, 12, none⟩ kv) (fun k => k = mb) := chg_cell (Chg.refl W _) 12 kv
 have h1 := h.below hb
 have hF : ∀ g, D' g → ¬ (g = mb) := fun g hg e => (hd g hg).1 (.inl e)
 have t := (h1.tx.mono hi).chg hc2 hF
 refine ⟨⟨h1.blk.set 12 kv (by simp only [mdCells_length]; decide), h1.tbk.chg hc2 (fun e => h.n1 e.symm), h1.rbk.chg hc2 (fun e => h.n2 e.symm), ⟨t.pl, t.pw, t.cr, t.cp, t.cq, hp.chg hc2 hF, t.pv, t.dr, t.dp, t.dq, t.ev⟩, fun g hg => ⟨(hd g hg).1, Nat.lt_of_lt_of_le (hd g hg).2 hc2.size⟩, h.n1, h.n2, h.n3⟩, ((Chg.refl w _).trans (Chg.of_below (S := fun _ => False) hb) (fun _ _ h => h.elim)).trans hc2 (fun _ _ h => h)⟩
theorem MdOk.keepg {D Y : Nat → Prop} {w w2 w0 W : World} {mb tb rb : Nat} {d : MdD} {r : MdR} {us : List Value} {kv p q : Value} {g : CgD} {e : TypeId} (h00 : MdOk D w mb tb rb d r) (hb : Below w2.heap.size w2 W) (h0 : Below w2.heap.size w2 w0) (hs : w0.heap.size ≤ W.heap.size) (hw : Below w.heap.size w w2)
  (hr : CgRow D w us d.kept) (hY : ∀ g, Y g → ¬ MdM mb tb rb g ∧ g < w.heap.size) (h1 : RwsF Y w p g.sig.parts) (h2 : RwsF Y w q g.sig.path)
  (ho : W.ownsRow w0.heap.size e 4 kv (d.kept.length + 1) (us ++ [.int .i64 g.wit, .int .i64 g.sig.index, p, q])) :
  MdOk (fun x => D x ∨ Y x ∨ Fresh w W x) (W.setCell ⟨mb, 12, none⟩ kv) mb tb rb { d with kept := d.kept ++ [g] } { r with kv := kv } ∧ Chg w2 (W.setCell ⟨mb, 12, none⟩ kv) (fun k => k = mb) := by
 have hs0 := h0.size
 have hs2 := hw.size
 have h := h00.below hw
 have hml := h00.blk.lt
 have htl := h00.tbk.lt
 have hrl := h00.rbk.lt
 have hbw : Below w.heap.size w W := hw.trans (hb.mono hs2)
 refine h.keeps hb ⟨us ++ [.int .i64 g.wit, .int .i64 g.sig.index, p, q], ?_, ?_⟩ (fun g hg => .inl hg) (fun x hx => ?_)
 ·rw [List.length_append]
  exact (ShoP.own ho).mono (fun x hx => .inr (.inr ⟨by have := hx.1; omega, hx.2⟩))
 ·refine CgRow.snoc ((hr.chg (Chg.of_below (S := fun _ => False) hbw) (fun _ _ h => h)).mono (fun x hx => .inl hx)) ⟨rfl, fun i hi => ?_⟩
  obtain rfl : i = 0 := by simp at hi; exact hi
  exact ⟨p, q, rfl, rfl, rfl, rfl, (h1.below hbw).mono (fun x hx => .inr (.inl hx)), (h2.below hbw).mono (fun x hx => .inr (.inl hx))⟩
 ·rcases hx with hx | hx | hx
  ·have := h.dd x hx; exact ⟨this.1, by have := hb.size; omega⟩
  ·have := hY x hx; exact ⟨this.1, by have := hb.size; omega⟩
  ·refine ⟨fun e => ?_, hx.2⟩
   have h9 : w.heap.size ≤ x := hx.1
   rcases e with e | e | e <;> omega
theorem MdOk.done {D : Nat → Prop} {w W : World} {mb tb rb : Nat} {d : MdD} {r : MdR} (h : MdOk D w mb tb rb d r) (hc : Chg w W (fun k => k = mb))
  (hb : Blk W mb 85 (mdCells tb rb { d with done := d.cur, dh := true, dk := d.kept } { r with dr := r.cr, dp := r.cp, dq := r.cq, ev := r.kv })) :
  MdOk D W mb tb rb { d with done := d.cur, dh := true, dk := d.kept } { r with dr := r.cr, dp := r.cp, dq := r.cq, ev := r.kv } := by
 have hF : ∀ g, D g → ¬ (g = mb) := fun g hg e => (h.dd g hg).1 (.inl e)
 have t := h.tx.chg hc hF
 exact ⟨hb, h.tbk.chg hc (fun e => h.n1 e.symm), h.rbk.chg hc (fun e => h.n2 e.symm), ⟨t.pl, t.pw, t.cr, t.cp, t.cq, t.kv, t.pv, t.cr, t.cp, t.cq, t.kv⟩, fun g hg => ⟨(h.dd g hg).1, Nat.lt_of_lt_of_le (h.dd g hg).2 hc.size⟩, h.n1, h.n2, h.n3⟩
def MrpS (D Y : Nat → Prop) (w : World) (mb tb rb : Nat) (d : MdD) (W : World) : Prop := ∃ D' r', MdOk D' W mb tb rb d r' ∧ (∀ x, D' x → D x ∨ Y x ∨ Fresh w W x) ∧ Chg w W (fun k => k = mb ∨ k = tb)
theorem MrpS.drew {D Y : Nat → Prop} {w W : World} {mb tb rb : Nat} {d : MdD} (h : MrpS D Y w mb tb rb d W) : MrpS D Y w mb tb rb d W.drew := by
 obtain ⟨D', r', h1, h2, h3⟩ := h
 have hb := (Below.refl W.heap.size W).drew
 exact ⟨D', r', h1.below hb, fun x hx => (h2 x hx).imp id (Or.imp id (fun h => ⟨h.1, Nat.lt_of_lt_of_le h.2 hb.size⟩)), h3.trans (Chg.of_below (S := fun _ => False) hb) (fun _ _ h => h.elim)⟩
theorem MrpS.next {D Y D3 : Nat → Prop} {w W W2 : World} {mb tb rb : Nat} {d : MdD} (h : ∀ x, D3 x → D x ∨ Y x ∨ Fresh w W x) (hc : Chg w W (fun k => k = mb ∨ k = tb)) (hm : MdAt (fun x => D3 x ∨ Fresh W W2 x) W2 mb tb rb d) (h2 : Chg W W2 (fun k => k = mb)) : MrpS D Y w mb tb rb d W2 := by
 obtain ⟨r, hm⟩ := hm
 have z1 := hc.size
 have z2 := h2.size
 refine ⟨_, r, hm, fun x hx => ?_, hc.trans h2 (fun _ _ h => .inl h)⟩
 rcases hx with hx | hx
 ·exact (h x hx).imp id (Or.imp id (fun h => ⟨h.1, Nat.lt_of_lt_of_le h.2 z2⟩))
 ·exact .inr (.inr ⟨Nat.le_trans z1 hx.1, hx.2⟩)
theorem MrpS.same {D Y D3 : Nat → Prop} {w W W2 : World} {mb tb rb : Nat} {d : MdD} {r : MdR} (h : ∀ x, D3 x → D x ∨ Y x ∨ Fresh w W x) (hc : Chg w W (fun k => k = mb ∨ k = tb)) (hm : MdOk D3 W2 mb tb rb d r) (h2 : Chg W W2 (fun k => k = mb ∨ k = tb)) : MrpS D Y w mb tb rb d W2 :=
 ⟨_, r, hm, fun x hx => (h x hx).imp id (Or.imp id (fun h => ⟨h.1, Nat.lt_of_lt_of_le h.2 h2.size⟩)), hc.trans h2 (fun _ _ h => h)⟩
set_option maxRecDepth 100000 in
set_option maxHeartbeats 8000000 in
theorem mreply_kv (D Y : Nat → Prop) (mb tb rb : Nat) (d : MdD) (v : Value) (g : CgD) (k : Nat) (size now : Int) (hp : SmallPol d.p) (hr : d.cur.ck.root.length ≤ 100000000) (hs : SmallSig g.sig) (hkk : d.kept.length ≤ 1000) (hpl : d.plans.length ≤ 100000) (w : World) (hok : MdAt D w mb tb rb d) (hv : CgF Y w v g) (hY : ∀ g, Y g → ¬ MdM mb tb rb g ∧ g < w.heap.size) (hgw : g.wit = (k : Int)) (hhas : d.has = true) (hkl : k < d.th.length) (hke : hasW d.kept (k : Int) = false) (hyes : cgVerB d.p d.cur.ck g = true) :
  Calls Tryz.prog 39 #[.pointer (some ⟨mb, 0, none⟩), .int .i64 k, v, .int .i64 size, .int .i64 now] w fun e w' => e = .returned (.bool true) ∧ ∃ D', MdAt D' w' mb tb rb (mkepD d k g) ∧ (∀ g, D' g → D g ∨ Y g ∨ Fresh w w' g) ∧ Chg w w' (fun k => k = mb ∨ k = tb) := by
 obtain ⟨r, hok⟩ := hok
 obtain ⟨i0, hi0, hz0, hz1, hz2⟩ := info_parts info_cosig
 have HYM := Lib.hid hY
 have HGW := Lib.hid hgw
 have HVF := Lib.hid (fun (wz : World) (vp vc vg : Value) (z1 : PolV wz vp d.p) (z2 : CkV wz vc d.cur.ck) (z3 : CgV wz vg g) => rcosigned_any vp vc vg d.p d.cur.ck g hp hr hs wz z1 z2 z3)
 rw [hyes] at HVF
 have HHS := Lib.hid (fun (wz : World) (z : MdAt D wz mb tb rb d) => mhas_any D mb tb rb d (k : Int) (by omega) wz z)
 rw [hke] at HHS
 obtain ⟨p1, q1, rfl, h1, h2⟩ := hv
 obtain ⟨P, cp, rfl⟩ := h1.rws.form
 obtain ⟨Q, cq, rfl⟩ := h2.rws.form
 obtain ⟨PL, plc, hpl1⟩ := hok.tx.pl.1.form
 obtain ⟨PW, pwc, hpw⟩ := hok.tx.pw.rws.form
 obtain ⟨RA, rc, hcr⟩ := hok.tx.cr.1.form
 have HPL := Lib.hid (And.intro hpl1 (And.intro hpw hcr))
 obtain ⟨us, hsk, hrow⟩ := hok.tx.kv
 obtain ⟨KA, kc, hkv⟩ := hsk.sho.form
 have HKV := Lib.hid hkv
 have HUS := Lib.hid hrow.one
 rw [hkv] at hsk
 have HKR := Lib.hid (And.intro hsk hrow)
 have HX := Lib.hid (And.intro h1 h2)
 have HKK := Lib.hid hkk
 have hb0 := (Below.refl w.heap.size w).alloc (Nat.le_refl _) (.cells #[.int .i64 g.wit, .int .i64 g.sig.index, .slice P g.sig.parts.length cp, .slice Q g.sig.path.length cq] 47)
 have hk0 := Blk.new w 47 [.int .i64 g.wit, .int .i64 g.sig.index, .slice P g.sig.parts.length cp, .slice Q g.sig.path.length cq]
 have hm1 := hok.below hb0
 have H0 := Lib.hid (And.intro hk0 (And.intro hb0 hm1))
 have f9 := hm1.blk.cell 9 _ rfl
 have f10 : (w.alloc (.cells #[.int .i64 g.wit, .int .i64 g.sig.index, .slice P g.sig.parts.length cp, .slice Q g.sig.path.length cq] 47)).cell? ⟨mb, 10, none⟩ = some (.slice (some ⟨tb, 0, none⟩) d.th.length d.th.length) := hm1.blk.cell 10 _ rfl
 rw [hhas] at f9
 have hml := hm1.blk.lt
 have hki : (k : Int) < (d.th.length : Int) := by omega
 have HO := Lib.hid hok
 clear hb0 hk0 hm1 h1 h2 hpl1 hpw hcr hkv hsk hrow hok hY hp hr hs hgw hhas hke hyes
 go_enter Tryz.func39, Tryz.ntmps39
 go_wp2_with fail
 refine (HHS.out _ ⟨r, H0.out.2.2⟩).mono ?_
 rintro e w' ⟨rfl, rfl⟩
 go_wp2
 refine code_at (fun w1 => Blk w1 w.heap.size 47 [.int .i64 g.wit, .int .i64 g.sig.index, .slice P g.sig.parts.length cp, .slice Q g.sig.path.length cq] ∧ Below w.heap.size w w1 ∧ MdOk D w1 mb tb rb d r) H0.out ?_
 rintro w1 ⟨k0, kb, km⟩
 have z0 := k0.cell 0 _ rfl
 have z1 := k0.cell 1 _ rfl
 have z2 := k0.cell 2 _ rfl
 have z3 := k0.cell 3 _ rfl
 have z4 : w1.cell? ⟨mb, 0, none⟩ = some (.slice PL d.p.log.length plc) := by rw [← HPL.out.1]; exact km.blk.cell 0 _ rfl
 have z5 : w1.cell? ⟨mb, 1, none⟩ = some (.slice PW d.p.wits.length pwc) := by rw [← HPL.out.2.1]; exact km.blk.cell 1 _ rfl
 have z6 := km.blk.cell 2 _ rfl
 have z7 := km.blk.cell 4 _ rfl
 have z8 : w1.cell? ⟨mb, 5, none⟩ = some (.slice RA d.cur.ck.root.length rc) := by rw [← HPL.out.2.2]; exact km.blk.cell 5 _ rfl
 rw [HGW.out] at z0
 have hl1 := k0.lt
 have hl2 := km.blk.lt
 have H1 := Lib.hid (And.intro k0 (And.intro kb km))
 clear k0 kb km H0 f9 f10 hml
 refine wp_region_held_drew (S := fun w' => w'.cell? ⟨w.heap.size, 0, none⟩ = some (.int .i64 k) ∧ w'.cell? ⟨w.heap.size, 1, none⟩ = some (.int .i64 g.sig.index) ∧ w'.cell? ⟨w.heap.size, 2, none⟩ = some (.slice P g.sig.parts.length cp) ∧ w'.cell? ⟨w.heap.size, 3, none⟩ = some (.slice Q g.sig.path.length cq) ∧ w'.cell? ⟨mb, 0, none⟩ = some (.slice PL d.p.log.length plc) ∧ w'.cell? ⟨mb, 1, none⟩ = some (.slice PW d.p.wits.length pwc) ∧ w'.cell? ⟨mb, 2, none⟩ = some (.int .i64 d.p.quorum) ∧ w'.cell? ⟨mb, 4, none⟩ = some (.int .i64 d.cur.ck.num) ∧ w'.cell? ⟨mb, 5, none⟩ = some (.slice RA d.cur.ck.root.length rc)) (by kernel_rfl) ?_ (fun hHeld => ?_)
 ·exact ⟨z0, z1, z2, z3, z4, z5, z6, z7, z8⟩
 refine ty 0 34 rfl rfl ?_; simp only [sa, sb, sc]
 refine ty 1 35 rfl rfl ?_; simp only [sa, sb, sc]
 refine ty 2 36 rfl rfl ?_; simp only [sa, sb, sc]
 refine ty 3 37 rfl rfl ?_; simp only [sa, sb, sc]
 refine ty 4 38 rfl rfl ?_; simp only [sa, sb, sc]
 refine ty 5 39 rfl rfl ?_; simp only [sa, sb, sc]
 refine ty 6 40 rfl rfl ?_; simp only [sa, sb, sc]
 refine ty 7 41 rfl rfl ?_; simp only [sa, sb, sc]
 refine ty 8 42 rfl rfl ?_; simp only [sa, sb, sc]
 refine ty 9 43 rfl rfl ?_; simp only [sa, sb, sc]
 refine ty 10 44 rfl rfl ?_; simp only [sa, sb, sc]
 refine ty 11 45 rfl rfl ?_; simp only [sa, sb, sc]
 refine ty 12 46 rfl rfl ?_; simp only [sa, sb, sc]
 refine ty 13 47 rfl rfl ?_; simp only [sa, sb, sc]
 refine ty 14 48 rfl rfl ?_; simp only [sa, sb, sc]
 refine rd 15 (by kernel_rfl) rfl (fun K hK => ?_)
 go_simp
 go_at_call 34
 refine (HVF.out w1.drew _ _ _ ⟨_, _, rfl, by rw [← HPL.out.1]; exact H1.out.2.2.tx.pl.1.below (Below.refl w1.heap.size w1).drew, by rw [← HPL.out.2.1]; exact H1.out.2.2.tx.pw.rws.below (Below.refl w1.heap.size w1).drew⟩ ⟨_, rfl, by rw [← HPL.out.2.2]; exact H1.out.2.2.tx.cr.1.below (Below.refl w1.heap.size w1).drew⟩ ⟨_, _, by rw [HGW.out], (HX.out.1.rws.below H1.out.2.1).below (Below.refl w1.heap.size w1).drew, (HX.out.2.rws.below H1.out.2.1).below (Below.refl w1.heap.size w1).drew⟩).mono ?_
 rintro e w2 ⟨rfl, h2'⟩
 have h2 : Below w1.heap.size w1 w2 := ⟨h2'.os, h2'.tape, h2'.output, h2'.size, h2'.block⟩
 have kB := H1.out.1.below h2
 have kM := (H1.out.2.2.below h2).blk
 have x0 := kB.cell 0 _ rfl
 have x1 := kB.cell 1 _ rfl
 have x2 := kB.cell 2 _ rfl
 have x3 := kB.cell 3 _ rfl
 have x4 : w2.cell? ⟨mb, 0, none⟩ = some (.slice PL d.p.log.length plc) := by rw [← HPL.out.1]; exact kM.cell 0 _ rfl
 have x5 : w2.cell? ⟨mb, 1, none⟩ = some (.slice PW d.p.wits.length pwc) := by rw [← HPL.out.2.1]; exact kM.cell 1 _ rfl
 have x6 := kM.cell 2 _ rfl
 have x7 := kM.cell 4 _ rfl
 have x8 : w2.cell? ⟨mb, 5, none⟩ = some (.slice RA d.cur.ck.root.length rc) := by rw [← HPL.out.2.2]; exact kM.cell 5 _ rfl
 rw [HGW.out] at x0
 have H2 := Lib.hid (And.intro kB (And.intro (H1.out.2.1.trans (h2.mono H1.out.2.1.size)) (H1.out.2.2.below h2)))
 clear h2 h2' kB kM
 try dsimp only
 refine hK.out _ _ ⟨x0, x1, x2, x3, x4, x5, x6, x7, x8⟩ (fun hHeld15 => ?_)
 clear hK K; try simp only [Act.put, sa, sb, sc]
 refine ty 16 50 rfl rfl ?_; simp only [sa, sb, sc]
 refine wpAnyH_done (by kernel_rfl) ?_ _
 clear hHeld hHeld15 z0 z1 z2 z3 z4 z5 z6 z7 z8 x0 x1 x2 x3 x4 x5 x6 x7 x8
 have K0 : Hid (Below w2.drew.heap.size w2.drew w2.drew ∧ Blk w2.drew mb 85 (mdCells tb rb d r) ∧ Blk w2.drew w.heap.size 47 [.int .i64 k, .int .i64 g.sig.index, .slice P g.sig.parts.length cp, .slice Q g.sig.path.length cq]) := Lib.hid ⟨Below.refl _ _, H2.out.2.2.blk.below (Below.refl _ _).drew, by rw [← HGW.out]; exact H2.out.1.below (Below.refl _ _).drew⟩
 have HSK : Hid (Sho w2.drew (.slice KA d.kept.length kc) d.kept.length 4 us) := Lib.hid ((HKR.out.1.sho.below H2.out.2.1).below (Below.refl _ _).drew)
 have HB0 : Hid (Below w2.heap.size w2 w2.drew) := Lib.hid (Below.refl _ _).drew
 have c12 : w2.drew.cell? ⟨mb, 12, none⟩ = some (.slice KA d.kept.length kc) := by rw [← HKV.out]; exact K0.out.2.1.cell 12 _ rfl
 have z0 := K0.out.2.2.cell 0 _ rfl
 have z1 := K0.out.2.2.cell 1 _ rfl
 have z2 := K0.out.2.2.cell 2 _ rfl
 have z3 := K0.out.2.2.cell 3 _ rfl
 have hmb0 := K0.out.2.1.lt
 have hxl0 := K0.out.2.2.lt
 have hkkl : d.kept.length ≤ 1000 := HKK.out
 go_wp2
 refine wp_region_drewT 10 (S := fun w' => w'.cell? ⟨mb, 12, none⟩ = some (.slice KA d.kept.length kc) ∧ w'.cell? ⟨w.heap.size, 0, none⟩ = some (.int .i64 k) ∧ w'.cell? ⟨w.heap.size, 1, none⟩ = some (.int .i64 g.sig.index) ∧ w'.cell? ⟨w.heap.size, 2, none⟩ = some (.slice P g.sig.parts.length cp) ∧ w'.cell? ⟨w.heap.size, 3, none⟩ = some (.slice Q g.sig.path.length cq)) (by kernel_rfl) ?_ (fun hHeld => ?_)
 ·exact ⟨c12, z0, z1, z2, z3⟩
 generalize w2.drew = w0 at *
 refine tt 0 51 rfl rfl ?_; simp only [sa, sb, sc]
 refine tt 2 53 rfl rfl ?_; simp only [sa, sb, sc]
 refine tt 3 54 rfl rfl ?_; simp only [sa, sb, sc]
 refine tt 4 55 rfl rfl ?_; simp only [sa, sb, sc]
 refine tt 5 56 rfl rfl ?_; simp only [sa, sb, sc]
 refine tt 7 58 rfl rfl ?_; simp only [sa, sb, sc]
 refine wpAnyT_ready (rs := [1, 8]) (by kernel_rfl) (by simp) ?_
 refine AllReadyT.cons rfl (fun K hK => ?wrg44_1) (AllReadyT.cons rfl (fun K hK => ?wrg44_8) AllReadyT.nil)
 case' wrg44_8 =>
  go_simp
  have hb8 := K0.out.1.alloc K0.out.1.size (.cells #[.int .i64 k, .int .i64 g.sig.index, .slice P g.sig.parts.length cp, .slice Q g.sig.path.length cq] 47)
  have hm8 := K0.out.2.1.alloc (.cells #[.int .i64 k, .int .i64 g.sig.index, .slice P g.sig.parts.length cp, .slice Q g.sig.path.length cq] 47)
  have hx8 := K0.out.2.2.alloc (.cells #[.int .i64 k, .int .i64 g.sig.index, .slice P g.sig.parts.length cp, .slice Q g.sig.path.length cq] 47)
  have hB1 := Blk.new w0 47 [.int .i64 k, .int .i64 g.sig.index, .slice P g.sig.parts.length cp, .slice Q g.sig.path.length cq]
  generalize w0.alloc (.cells #[.int .i64 k, .int .i64 g.sig.index, .slice P g.sig.parts.length cp, .slice Q g.sig.path.length cq] 47) = w8 at *
  have HB := Lib.hid hB1
  clear hB1
  have K8 := Lib.hid (And.intro hb8 (And.intro hm8 hx8))
  have c12_8 : w8.cell? ⟨mb, 12, none⟩ = some (.slice KA d.kept.length kc) := by rw [← HKV.out]; exact hm8.cell 12 _ rfl
  have z0_8 := hx8.cell 0 _ rfl
  have z1_8 := hx8.cell 1 _ rfl
  have z2_8 := hx8.cell 2 _ rfl
  have z3_8 := hx8.cell 3 _ rfl
  have hmb8 := hm8.lt
  have hxl8 := hx8.lt
  clear hb8 hm8 hx8
  try dsimp only
  refine hK.out _ _ (fun _ => ⟨c12_8, z0_8, z1_8, z2_8, z3_8⟩) (fun hHeld8' => ?_)
  have hHeld8 := hHeld8' (by decide)
  clear hHeld8'
  clear hK K; try simp only [Act.put, sa, sb, sc]
  refine wpAnyT_ready (rs := [1]) (by kernel_rfl) (by simp) (.cons rfl (fun K hK => ?_) .nil)
  go_simp
  have hb1 := K8.out.1.alloc K8.out.1.size (.cells #[] 47)
  have hm1 := K8.out.2.1.alloc (.cells #[] 47)
  have hx1 := K8.out.2.2.alloc (.cells #[] 47)
  have hE1 : (w8.alloc (.cells #[] 47)).ownsRow w0.heap.size 47 4 (.slice (some ⟨w8.heap.size, 0, none⟩) 0 0) 0 [] := own_none (Blk.new w8 47 []) K8.out.1.size
  have hB1 := HB.out.alloc (.cells #[] 47)
  have hne := HB.out.lt
  generalize w8.alloc (.cells #[] 47) = w1 at *
  have HE := Lib.hid hE1
  have HB := Lib.hid hB1
  clear hE1
  clear hB1
  have K1 := Lib.hid (And.intro hb1 (And.intro hm1 hx1))
  have c12_1 : w1.cell? ⟨mb, 12, none⟩ = some (.slice KA d.kept.length kc) := by rw [← HKV.out]; exact hm1.cell 12 _ rfl
  have z0_1 := hx1.cell 0 _ rfl
  have z1_1 := hx1.cell 1 _ rfl
  have z2_1 := hx1.cell 2 _ rfl
  have z3_1 := hx1.cell 3 _ rfl
  have hmb1 := hm1.lt
  have hxl1 := hx1.lt
  clear hb1 hm1 hx1
  try dsimp only
  refine hK.out _ _ (fun _ => ⟨c12_1, z0_1, z1_1, z2_1, z3_1⟩) (fun hHeld1' => ?_)
  have hHeld1 := hHeld1' (by decide)
  clear hHeld1'
  clear hK K; try simp only [Act.put, sa, sb, sc]
  refine wpAnyT_ready (rs := [6]) (by kernel_rfl) (by simp) (.cons rfl (fun K hK => ?_) .nil)
  skip
  have HNE : Hid (∀ x : Nat, (Value.slice (some ⟨w8.heap.size, 0, none⟩) 0 0).ownBlock = some x → x ≠ w0.heap.size) := Lib.hid (fun x hx => by have hx' : some w8.heap.size = some x := hx; injection hx' with hx'; omega)
  refine step_append_lie rfl (.tmp 52) (.tmp 56) 49 rfl w0.heap.size 47 i0 (.agg #[.int .i64 0, .int .i64 0, .slice none 0 0, .slice none 0 0]) 4 64 Tryz.underlying49 hi0 hz0 hz1 hz2 rfl (by decide) _ 0 [] rfl HE.out _ d.kept.length us rfl ((HSK.out.below K1.out.1).news HUS.out) (by unfold maxLen; omega) (by omega) K1.out.1.size ?_
  intro v6 w6 hown6 hgrow6 hlie6
  have hc6 : Chg w1 w6 _ := Chg.of_grown hgrow6
  have hlo6 := fun x hx => (World.ownsRow.lt HE.out x hx).1
  have hb6 := K1.out.1.trans (hc6.below K1.out.1.size (fun x hx => hlo6 x hx.symm))
  have hm6 := K1.out.2.1.chg hc6 (fun e => by have := hlo6 _ e.symm; omega)
  have hx6 := K1.out.2.2.chg hc6 (fun e => by have := hlo6 _ e.symm; omega)
  have hR6 : w6.ownsRow w0.heap.size 47 4 v6 d.kept.length us := by simpa only [Nat.zero_add, List.nil_append] using hown6
  have hB8 := HB.out.chg hc6 (fun e => HNE.out _ e.symm rfl)
  have HB := Lib.hid hB8
  clear hB8
  obtain ⟨A6, c6, rfl⟩ := (Sho.own hR6).form
  have HR := Lib.hid hR6
  clear hR6 hown6 hgrow6 hlie6 hc6 hlo6
  simp only [Act.put, List.getElem_toArray, List.getElem_cons_succ, List.getElem_cons_zero, List.setIfInBounds_toArray, List.set_cons_zero, List.set_cons_succ]
  have K6 := Lib.hid (And.intro hb6 (And.intro hm6 hx6))
  have c12_6 : w6.cell? ⟨mb, 12, none⟩ = some (.slice KA d.kept.length kc) := by rw [← HKV.out]; exact hm6.cell 12 _ rfl
  have z0_6 := hx6.cell 0 _ rfl
  have z1_6 := hx6.cell 1 _ rfl
  have z2_6 := hx6.cell 2 _ rfl
  have z3_6 := hx6.cell 3 _ rfl
  have hmb6 := hm6.lt
  have hxl6 := hx6.lt
  clear hb6 hm6 hx6
  try dsimp only
  refine hK.out _ _ (fun _ => ⟨c12_6, z0_6, z1_6, z2_6, z3_6⟩) (fun hHeld6' => ?_)
  have hHeld6 := hHeld6' (by decide)
  clear hHeld6'
  clear hK K; try simp only [Act.put, sa, sb, sc]
  refine wpAnyT_ready (rs := [9]) (by kernel_rfl) (by simp) (.cons rfl (fun K hK => ?_) .nil)
  skip
  have hnw : NewsOf w6 (.slice (some ⟨w0.heap.size, 0, none⟩) 1 1) 1 4 [.int .i64 k, .int .i64 g.sig.index, .slice P g.sig.parts.length cp, .slice Q g.sig.path.length cq] := Sho.news ⟨rfl, .inr ⟨w0.heap.size, 0, 1, rfl, Nat.le_refl _, by decide, HB.out.lt, fun j u hj => by rw [Nat.zero_add]; exact HB.out.cell j u hj⟩⟩ (fun u hu => by simp at hu; rcases hu with rfl | rfl | rfl | rfl <;> rfl)
  refine step_append_lie rfl (.tmp 57) (.tmp 59) 49 rfl w0.heap.size 47 i0 (.agg #[.int .i64 0, .int .i64 0, .slice none 0 0, .slice none 0 0]) 4 64 Tryz.underlying49 hi0 hz0 hz1 hz2 rfl (by decide) _ d.kept.length us rfl HR.out _ 1 [.int .i64 k, .int .i64 g.sig.index, .slice P g.sig.parts.length cp, .slice Q g.sig.path.length cq] rfl hnw (by unfold maxLen; omega) (by omega) K6.out.1.size ?_
  intro v9 w9 hown9 hgrow9 hlie9
  have hc9 : Chg w6 w9 _ := Chg.of_grown hgrow9
  have hlo9 := fun x hx => (World.ownsRow.lt HR.out x hx).1
  have hb9 := K6.out.1.trans (hc9.below K6.out.1.size (fun x hx => hlo9 x hx.symm))
  have hm9 := K6.out.2.1.chg hc9 (fun e => by have := hlo9 _ e.symm; omega)
  have hx9 := K6.out.2.2.chg hc9 (fun e => by have := hlo9 _ e.symm; omega)
  have hR9 := hown9
  obtain ⟨A9, c9, rfl⟩ := (Sho.own hR9).form
  have HR := Lib.hid hR9
  have y12 := hm9.free 12
  clear hR9 hown9 hgrow9 hlie9 hc9 hlo9 hnw
  simp only [Act.put, List.getElem_toArray, List.getElem_cons_succ, List.getElem_cons_zero, List.setIfInBounds_toArray, List.set_cons_zero, List.set_cons_succ]
  have K9 := Lib.hid (And.intro hb9 (And.intro hm9 hx9))
  have c12_9 : w9.cell? ⟨mb, 12, none⟩ = some (.slice KA d.kept.length kc) := by rw [← HKV.out]; exact hm9.cell 12 _ rfl
  have z0_9 := hx9.cell 0 _ rfl
  have z1_9 := hx9.cell 1 _ rfl
  have z2_9 := hx9.cell 2 _ rfl
  have z3_9 := hx9.cell 3 _ rfl
  have hmb9 := hm9.lt
  have hxl9 := hx9.lt
  clear hb9 hm9 hx9
  try dsimp only
  refine hK.out _ _ (fun _ => ⟨c12_9, z0_9, z1_9, z2_9, z3_9⟩) (fun hHeld9' => ?_)
  have hHeld9 := hHeld9' (by decide)
  clear hHeld9'
  clear hK K; try simp only [Act.put, sa, sb, sc]
  refine tl 10 61 rfl rfl ?_; simp only [sa, sb, sc]
  refine tl 11 62 rfl rfl ?_; simp only [sa, sb, sc]
  refine wpAnyT_ready (rs := [12]) (by kernel_rfl) (by simp) (.cons rfl (fun K hK => ?_) .nil)
  go_simp
  refine hK.out _ _ (fun h => absurd h (by decide)) (fun _ => ?_)
  clear hK K; try simp only [Act.put, sa, sb, sc]
  refine wpAnyT_done (by kernel_rfl) ?_ _
  have hb9 := HB0.out.trans (K9.out.1.mono HB0.out.size)
  have hfin := HO.out.keepg (Y := Y) (W := w9) (g := g) hb9 HB0.out K9.out.1.size H2.out.2.1 (HKR.out.2) HYM.out HX.out.1 HX.out.2 (by rw [HGW.out]; exact HR.out)
  have hsz : Chg w9 (w9.setCell ⟨mb, 12, none⟩ (.slice A9 (d.kept.length + 1) c9)) (fun k => k = mb) := chg_cell (Chg.refl w9 _) 12 _
  have HF : Hid (MrpS D Y w mb tb rb { d with kept := d.kept ++ [g] } (w9.setCell ⟨mb, 12, none⟩ (.slice A9 (d.kept.length + 1) c9)).drew) := Lib.hid (MrpS.drew ⟨_, _, hfin.1, fun x hx => hx.imp id (Or.imp id (fun h => ⟨h.1, Nat.lt_of_lt_of_le h.2 hsz.size⟩)), (((Chg.refl w _).trans (Chg.of_below (S := fun _ => False) H2.out.2.1) (fun _ _ h => h.elim)).trans hfin.2 (fun _ _ h => h)).mono (fun _ _ h => .inl h)⟩)
  clear hfin hb9 hsz
  generalize w9.setCell ⟨mb, 12, none⟩ (.slice A9 (d.kept.length + 1) c9) = w3' at HF ⊢
  obtain ⟨D3, r3, hm3, hD3, hc3⟩ := HF.out
  clear HF
  have c10 : w3'.drew.cell? ⟨mb, 10, none⟩ = some (.slice (some ⟨tb, 0, none⟩) d.th.length d.th.length) := hm3.blk.cell 10 _ rfl
  have c4 : w3'.drew.cell? ⟨mb, 4, none⟩ = some (.int .i64 d.cur.ck.num) := hm3.blk.cell 4 _ rfl
  have ct := hm3.tbk.cell k _ (intsV_at _ k hkl)
  have ft := hm3.tbk.free k
  have hml := hm3.blk.lt
  have htl := hm3.tbk.lt
  have HM3 := Lib.hid (And.intro hm3 (And.intro hD3 hc3))
  clear hm3 hD3 hc3
  go_wp2
  refine wp_region_drewT 12 (S := fun w' => w'.cell? ⟨mb, 10, none⟩ = some (.slice (some ⟨tb, 0, none⟩) d.th.length d.th.length) ∧ w'.cell? ⟨mb, 4, none⟩ = some (.int .i64 d.cur.ck.num)) (by kernel_rfl) ?_ (fun hHeld5 => ?_)
  ·exact ⟨c10, c4⟩
  generalize w3'.drew = w3 at *
  refine tt 0 63 rfl rfl ?_; simp only [sa, sb, sc]
  refine tt 1 64 rfl rfl ?_; simp only [sa, sb, sc]
  refine tt 2 65 rfl rfl ?_; simp only [sa, sb, sc]
  refine tt 3 66 rfl rfl ?_; simp only [sa, sb, sc]
  refine tt 4 67 rfl rfl ?_; simp only [sa, sb, sc]
  refine tt 5 68 rfl rfl ?_; simp only [sa, sb, sc]
  refine tt 6 69 rfl rfl ?_; simp only [sa, sb, sc]
  refine tt 7 70 rfl rfl ?_; simp only [sa, sb, sc]
  refine tt 8 71 rfl rfl ?_; simp only [sa, sb, sc]
  refine tt 9 72 rfl rfl ?_; simp only [sa, sb, sc]
  refine tt 10 73 rfl rfl ?_; simp only [sa, sb, sc]
  refine tt 11 74 rfl rfl ?_; simp only [sa, sb, sc]
  refine wpAnyT_ready (rs := [12]) (by kernel_rfl) (by simp) (.cons rfl (fun K hK => ?_) .nil)
  go_simp
  refine hK.out _ _ (fun h => absurd h (by decide)) (fun _ => ?_)
  clear hK K; try simp only [Act.put, sa, sb, sc]
  refine wpAnyT_done (by kernel_rfl) ?_ _
  have HF : Hid (MrpS D Y w mb tb rb { d with kept := d.kept ++ [g], th := d.th.set k d.cur.ck.num } (w3.setCell ⟨tb, k, none⟩ (.int .i64 d.cur.ck.num))) := Lib.hid (by
   obtain ⟨hm4, hc4⟩ := HM3.out.1.thought k d.cur.ck.num hkl
   exact MrpS.same HM3.out.2.1 HM3.out.2.2 hm4 (hc4.mono (fun _ _ h => .inr h)))
  generalize w3.setCell ⟨tb, k, none⟩ (.int .i64 d.cur.ck.num) = w4 at HF ⊢
  obtain ⟨D4, r4, hm4, hD4, hc4⟩ := HF.out
  clear HF HM3
  go_wp2_with fail
  refine (mcancel_any D4 mb tb rb _ (k : Int) (by show d.plans.length ≤ _; omega) _ ⟨_, hm4⟩).mono ?_
  rintro e w5' ⟨rfl, hm5, hc5⟩
  have HF : Hid (MrpS D Y w mb tb rb (mkep0 d k g) w5'.drew) := Lib.hid (MrpS.next hD4 hc4 hm5 hc5).drew
  clear hm5 hc5 hm4 hD4 hc4
  obtain ⟨D5, r5, hm5, hD5, hc5⟩ := HF.out
  clear HF
  obtain ⟨us5, hsk5, hrow5⟩ := hm5.tx.kv
  obtain ⟨KB, kb5, hkv5⟩ := hsk5.sho.form
  clear hsk5 hrow5
  have d12 : w5'.drew.cell? ⟨mb, 12, none⟩ = some (.slice KB (d.kept.length + 1) kb5) := by have h9 := hm5.blk.cell 12 _ rfl; rw [hkv5] at h9; rw [h9]; congr 2; simp [mkep0]
  have d2 : w5'.drew.cell? ⟨mb, 2, none⟩ = some (.int .i64 d.p.quorum) := hm5.blk.cell 2 _ rfl
  have hml5 := hm5.blk.lt
  have HKV5 := Lib.hid hkv5
  have HM5 := Lib.hid (And.intro hm5 (And.intro hD5 hc5))
  clear hm5 hD5 hc5 hkv5
  go_wp2
  refine wp_region_held_drew (S := fun w' => w'.cell? ⟨mb, 12, none⟩ = some (.slice KB (d.kept.length + 1) kb5) ∧ w'.cell? ⟨mb, 2, none⟩ = some (.int .i64 d.p.quorum)) (by kernel_rfl) ?_ (fun hHeld7 => ?_)
  ·exact ⟨d12, d2⟩
  generalize w5'.drew = w5 at *
  refine ty 0 78 rfl rfl ?_; simp only [sa, sb, sc]
  refine ty 1 79 rfl rfl ?_; simp only [sa, sb, sc]
  refine ty 2 80 rfl rfl ?_; simp only [sa, sb, sc]
  refine ty 3 81 rfl rfl ?_; simp only [sa, sb, sc]
  refine ty 4 82 rfl rfl ?_; simp only [sa, sb, sc]
  refine ty 5 83 rfl rfl ?_; simp only [sa, sb, sc]
  refine ty 6 84 rfl rfl ?_; simp only [sa, sb, sc]
  refine ty 7 85 rfl rfl ?_; simp only [sa, sb, sc]
  refine ty 8 86 rfl rfl ?_; simp only [sa, sb, sc]
  refine ty 9 87 rfl rfl ?_; simp only [sa, sb, sc]
  refine ty 10 88 rfl rfl ?_; simp only [sa, sb, sc]
  refine wpAnyH_done (by kernel_rfl) ?_ _
  by_cases hq : d.p.quorum ≤ ((d.kept.length + 1 : Nat) : Int)
  ·obtain ⟨D6, r6, hm6, hD6, hc6⟩ := MrpS.drew ⟨_, _, HM5.out.1, HM5.out.2.1, HM5.out.2.2⟩
   obtain ⟨us6, hsk6, hrow6⟩ := hm6.tx.kv
   obtain ⟨KC, kc6, hkv6⟩ := hsk6.sho.form
   obtain ⟨RB, rb6, hcr6⟩ := hm6.tx.cr.1.form
   obtain ⟨PB, pb6, hcp6⟩ := hm6.tx.cp.rws.form
   obtain ⟨QB, qb6, hcq6⟩ := hm6.tx.cq.rws.form
   clear hsk6 hrow6
   have hkv6' : r6.kv = .slice KC (d.kept.length + 1) kc6 := by rw [hkv6]; congr 1; simp [mkep0]
   have HKV6 : Hid (r6.cr = .slice RB d.cur.ck.root.length rb6 ∧ r6.cp = .slice PB d.cur.sig.parts.length pb6 ∧ r6.cq = .slice QB d.cur.sig.path.length qb6 ∧ r6.kv = .slice KC (d.kept.length + 1) kc6) := Lib.hid ⟨hcr6, hcp6, hcq6, hkv6'⟩
   have e4 : w5.drew.cell? ⟨mb, 4, none⟩ = some (.int .i64 d.cur.ck.num) := hm6.blk.cell 4 _ rfl
   have e5 : w5.drew.cell? ⟨mb, 5, none⟩ = some (.slice RB d.cur.ck.root.length rb6) := by rw [← HKV6.out.1]; exact hm6.blk.cell 5 _ rfl
   have e6 : w5.drew.cell? ⟨mb, 6, none⟩ = some (.int .i64 d.cur.sig.index) := hm6.blk.cell 6 _ rfl
   have e7 : w5.drew.cell? ⟨mb, 7, none⟩ = some (.slice PB d.cur.sig.parts.length pb6) := by rw [← HKV6.out.2.1]; exact hm6.blk.cell 7 _ rfl
   have e8 : w5.drew.cell? ⟨mb, 8, none⟩ = some (.slice QB d.cur.sig.path.length qb6) := by rw [← HKV6.out.2.2.1]; exact hm6.blk.cell 8 _ rfl
   have e12 : w5.drew.cell? ⟨mb, 12, none⟩ = some (.slice KC (d.kept.length + 1) kc6) := by rw [← HKV6.out.2.2.2]; exact hm6.blk.cell 12 _ rfl
   have y14 := hm6.blk.free 14
   have v14 := hm6.blk.cell 14 _ rfl
   have y15 := hm6.blk.free 15
   have v15 := hm6.blk.cell 15 _ rfl
   have y16 := hm6.blk.free 16
   have v16 := hm6.blk.cell 16 _ rfl
   have y17 := hm6.blk.free 17
   have v17 := hm6.blk.cell 17 _ rfl
   have y18 := hm6.blk.free 18
   have v18 := hm6.blk.cell 18 _ rfl
   have y19 := hm6.blk.free 19
   have v19 := hm6.blk.cell 19 _ rfl
   have y20 := hm6.blk.free 20
   have v20 := hm6.blk.cell 20 _ rfl
   have hml6 := hm6.blk.lt
   have HM6 := Lib.hid (And.intro hm6 (And.intro hD6 hc6))
   clear hm6 hD6 hc6 hkv6 hkv6' hcr6 hcp6 hcq6
   go_wp2
   refine wp_region_held_drew (S := fun w' => w'.cell? ⟨mb, 4, none⟩ = some (.int .i64 d.cur.ck.num) ∧ w'.cell? ⟨mb, 5, none⟩ = some (.slice RB d.cur.ck.root.length rb6) ∧ w'.cell? ⟨mb, 6, none⟩ = some (.int .i64 d.cur.sig.index) ∧ w'.cell? ⟨mb, 7, none⟩ = some (.slice PB d.cur.sig.parts.length pb6) ∧ w'.cell? ⟨mb, 8, none⟩ = some (.slice QB d.cur.sig.path.length qb6) ∧ w'.cell? ⟨mb, 12, none⟩ = some (.slice KC (d.kept.length + 1) kc6)) (by kernel_rfl) ?_ (fun hHeld8 => ?_)
   ·exact ⟨e4, e5, e6, e7, e8, e12⟩
   generalize w5.drew = w6 at *
   refine ty 0 89 rfl rfl ?_; simp only [sa, sb, sc]
   refine ty 1 90 rfl rfl ?_; simp only [sa, sb, sc]
   refine ty 2 91 rfl rfl ?_; simp only [sa, sb, sc]
   refine ty 3 92 rfl rfl ?_; simp only [sa, sb, sc]
   refine ty 4 93 rfl rfl ?_; simp only [sa, sb, sc]
   refine ty 5 94 rfl rfl ?_; simp only [sa, sb, sc]
   refine ty 6 95 rfl rfl ?_; simp only [sa, sb, sc]
   refine ty 7 96 rfl rfl ?_; simp only [sa, sb, sc]
   refine ty 8 97 rfl rfl ?_; simp only [sa, sb, sc]
   refine ty 9 98 rfl rfl ?_; simp only [sa, sb, sc]
   refine ty 10 99 rfl rfl ?_; simp only [sa, sb, sc]
   refine ty 11 100 rfl rfl ?_; simp only [sa, sb, sc]
   refine ty 12 101 rfl rfl ?_; simp only [sa, sb, sc]
   refine rd 13 (by kernel_rfl) rfl (fun K hK => ?_)
   go_simp
   have hcc0 : Chg w6 w6 (fun k => k = mb) := Chg.refl _ _
   have hbb0 := HM6.out.1.blk
   have hcc1 := chg_cell hcc0 14 (.int .i64 d.cur.ck.num)
   have hbb1 := hbb0.set 14 (.int .i64 d.cur.ck.num) (by simp only [List.length_set, mdCells_length]; decide)
   have hcc2 := chg_cell hcc1 15 (.slice RB d.cur.ck.root.length rb6)
   have hbb2 := hbb1.set 15 (.slice RB d.cur.ck.root.length rb6) (by simp only [List.length_set, mdCells_length]; decide)
   have hcc3 := chg_cell hcc2 16 (.int .i64 d.cur.sig.index)
   have hbb3 := hbb2.set 16 (.int .i64 d.cur.sig.index) (by simp only [List.length_set, mdCells_length]; decide)
   have hcc4 := chg_cell hcc3 17 (.slice PB d.cur.sig.parts.length pb6)
   have hbb4 := hbb3.set 17 (.slice PB d.cur.sig.parts.length pb6) (by simp only [List.length_set, mdCells_length]; decide)
   have hcc5 := chg_cell hcc4 18 (.slice QB d.cur.sig.path.length qb6)
   have hbb5 := hbb4.set 18 (.slice QB d.cur.sig.path.length qb6) (by simp only [List.length_set, mdCells_length]; decide)
   refine hK.out _ _ ⟨hbb5.cell 4 _ rfl, (hbb5.cell 5 _ rfl).trans (congrArg some HKV6.out.1), hbb5.cell 6 _ rfl, (hbb5.cell 7 _ rfl).trans (congrArg some HKV6.out.2.1), (hbb5.cell 8 _ rfl).trans (congrArg some HKV6.out.2.2.1), (hbb5.cell 12 _ rfl).trans (congrArg some HKV6.out.2.2.2)⟩ (fun hHeld13 => ?_)
   clear hK K; try simp only [Act.put, sa, sb, sc]
   refine ty 14 102 rfl rfl ?_; simp only [sa, sb, sc]
   refine ty 15 103 rfl rfl ?_; simp only [sa, sb, sc]
   refine rd 16 (by kernel_rfl) rfl (fun K hK => ?_)
   go_simp
   have hcc6 := chg_cell hcc5 19 (.bool true)
   have hbb6 := hbb5.set 19 (.bool true) (by simp only [List.length_set, mdCells_length]; decide)
   refine hK.out _ _ ⟨hbb6.cell 4 _ rfl, (hbb6.cell 5 _ rfl).trans (congrArg some HKV6.out.1), hbb6.cell 6 _ rfl, (hbb6.cell 7 _ rfl).trans (congrArg some HKV6.out.2.1), (hbb6.cell 8 _ rfl).trans (congrArg some HKV6.out.2.2.1), (hbb6.cell 12 _ rfl).trans (congrArg some HKV6.out.2.2.2)⟩ (fun hHeld16 => ?_)
   clear hK K; try simp only [Act.put, sa, sb, sc]
   refine ty 17 104 rfl rfl ?_; simp only [sa, sb, sc]
   refine ty 18 105 rfl rfl ?_; simp only [sa, sb, sc]
   refine rd 19 (by kernel_rfl) rfl (fun K hK => ?_)
   go_simp
   have hcc7 := chg_cell hcc6 20 (.slice KC (d.kept.length + 1) kc6)
   have hbb7 := hbb6.set 20 (.slice KC (d.kept.length + 1) kc6) (by simp only [List.length_set, mdCells_length]; decide)
   refine hK.out _ _ ⟨hbb7.cell 4 _ rfl, (hbb7.cell 5 _ rfl).trans (congrArg some HKV6.out.1), hbb7.cell 6 _ rfl, (hbb7.cell 7 _ rfl).trans (congrArg some HKV6.out.2.1), (hbb7.cell 8 _ rfl).trans (congrArg some HKV6.out.2.2.1), (hbb7.cell 12 _ rfl).trans (congrArg some HKV6.out.2.2.2)⟩ (fun hHeld19 => ?_)
   clear hK K; try simp only [Act.put, sa, sb, sc]
   refine wpAnyH_done (by kernel_rfl) ?_ _
   have hb8 := hbb7
   have hc8 := hcc7
   clear hcc0 hbb0 hcc1 hbb1 hcc2 hbb2 hcc3 hbb3 hcc4 hbb4 hcc5 hbb5 hcc6 hbb6 hcc7 hbb7
   generalize (((((((w6.setCell ⟨mb, 14, none⟩ (.int .i64 d.cur.ck.num)).setCell ⟨mb, 15, none⟩ (.slice RB d.cur.ck.root.length rb6)).setCell ⟨mb, 16, none⟩ (.int .i64 d.cur.sig.index)).setCell ⟨mb, 17, none⟩ (.slice PB d.cur.sig.parts.length pb6)).setCell ⟨mb, 18, none⟩ (.slice QB d.cur.sig.path.length qb6)).setCell ⟨mb, 19, none⟩ (.bool true)).setCell ⟨mb, 20, none⟩ (.slice KC (d.kept.length + 1) kc6)) = w8 at *
   have HF : Hid (∃ D', MdAt D' w8 mb tb rb (mkepD d k g) ∧ (∀ g, D' g → D g ∨ Y g ∨ Fresh w w8 g) ∧ Chg w w8 (fun k => k = mb ∨ k = tb)) := Lib.hid (by
    have hd := HM6.out.1.done hc8 (by have h := hb8; rw [← HKV6.out.1, ← HKV6.out.2.1, ← HKV6.out.2.2.1, ← HKV6.out.2.2.2] at h; exact h)
    obtain ⟨D9, r9, a1, a2, a3⟩ := MrpS.same HM6.out.2.1 HM6.out.2.2 hd (hc8.mono (fun _ _ h => .inl h))
    refine ⟨D9, ?_, a2, a3⟩
    unfold mkepD
    rw [if_pos hq]
    exact ⟨r9, a1⟩)
   go_wp2
   go_ret
   exact ⟨rfl, HF.out⟩
  ·go_wp2
   go_ret
   refine ⟨rfl, D5, ?_, HM5.out.2.1, HM5.out.2.2⟩
   unfold mkepD
   rw [if_neg (Int.not_le.2 hq)]
   exact ⟨r5, HM5.out.1⟩
 case' wrg44_1 =>
  go_simp
  have hb1 := K0.out.1.alloc K0.out.1.size (.cells #[] 47)
  have hm1 := K0.out.2.1.alloc (.cells #[] 47)
  have hx1 := K0.out.2.2.alloc (.cells #[] 47)
  have hE1 : (w0.alloc (.cells #[] 47)).ownsRow w0.heap.size 47 4 (.slice (some ⟨w0.heap.size, 0, none⟩) 0 0) 0 [] := own_none (Blk.new w0 47 []) K0.out.1.size
  generalize w0.alloc (.cells #[] 47) = w1 at *
  have HE := Lib.hid hE1
  clear hE1
  have K1 := Lib.hid (And.intro hb1 (And.intro hm1 hx1))
  have c12_1 : w1.cell? ⟨mb, 12, none⟩ = some (.slice KA d.kept.length kc) := by rw [← HKV.out]; exact hm1.cell 12 _ rfl
  have z0_1 := hx1.cell 0 _ rfl
  have z1_1 := hx1.cell 1 _ rfl
  have z2_1 := hx1.cell 2 _ rfl
  have z3_1 := hx1.cell 3 _ rfl
  have hmb1 := hm1.lt
  have hxl1 := hx1.lt
  clear hb1 hm1 hx1
  try dsimp only
  refine hK.out _ _ (fun _ => ⟨c12_1, z0_1, z1_1, z2_1, z3_1⟩) (fun hHeld1' => ?_)
  have hHeld1 := hHeld1' (by decide)
  clear hHeld1'
  clear hK K; try simp only [Act.put, sa, sb, sc]
  refine wpAnyT_ready (rs := [6, 8]) (by kernel_rfl) (by simp) ?_
  refine AllReadyT.cons rfl (fun K hK => ?wrg44_1_6) (AllReadyT.cons rfl (fun K hK => ?wrg44_1_8) AllReadyT.nil)
  case' wrg44_1_8 =>
   go_simp
   have hb8 := K1.out.1.alloc K1.out.1.size (.cells #[.int .i64 k, .int .i64 g.sig.index, .slice P g.sig.parts.length cp, .slice Q g.sig.path.length cq] 47)
   have hm8 := K1.out.2.1.alloc (.cells #[.int .i64 k, .int .i64 g.sig.index, .slice P g.sig.parts.length cp, .slice Q g.sig.path.length cq] 47)
   have hx8 := K1.out.2.2.alloc (.cells #[.int .i64 k, .int .i64 g.sig.index, .slice P g.sig.parts.length cp, .slice Q g.sig.path.length cq] 47)
   have hB1 := Blk.new w1 47 [.int .i64 k, .int .i64 g.sig.index, .slice P g.sig.parts.length cp, .slice Q g.sig.path.length cq]
   have hE1 := World.ownsRow.alloc HE.out (.cells #[.int .i64 k, .int .i64 g.sig.index, .slice P g.sig.parts.length cp, .slice Q g.sig.path.length cq] 47)
   have hne := fun x hx => (World.ownsRow.lt HE.out x hx).2
   generalize w1.alloc (.cells #[.int .i64 k, .int .i64 g.sig.index, .slice P g.sig.parts.length cp, .slice Q g.sig.path.length cq] 47) = w8 at *
   have HB := Lib.hid hB1
   clear hB1
   have HE := Lib.hid hE1
   clear hE1
   have K8 := Lib.hid (And.intro hb8 (And.intro hm8 hx8))
   have c12_8 : w8.cell? ⟨mb, 12, none⟩ = some (.slice KA d.kept.length kc) := by rw [← HKV.out]; exact hm8.cell 12 _ rfl
   have z0_8 := hx8.cell 0 _ rfl
   have z1_8 := hx8.cell 1 _ rfl
   have z2_8 := hx8.cell 2 _ rfl
   have z3_8 := hx8.cell 3 _ rfl
   have hmb8 := hm8.lt
   have hxl8 := hx8.lt
   clear hb8 hm8 hx8
   try dsimp only
   refine hK.out _ _ (fun _ => ⟨c12_8, z0_8, z1_8, z2_8, z3_8⟩) (fun hHeld8' => ?_)
   have hHeld8 := hHeld8' (by decide)
   clear hHeld8'
   clear hK K; try simp only [Act.put, sa, sb, sc]
   refine wpAnyT_ready (rs := [6]) (by kernel_rfl) (by simp) (.cons rfl (fun K hK => ?_) .nil)
   skip
   have HNE : Hid (∀ x : Nat, (Value.slice (some ⟨w0.heap.size, 0, none⟩) 0 0).ownBlock = some x → x ≠ w1.heap.size) := Lib.hid (fun x hx => by have hx' : some w0.heap.size = some x := hx; injection hx' with hx'; have h9 : w0.heap.size < w1.heap.size := hne _ rfl; omega)
   refine step_append_lie rfl (.tmp 52) (.tmp 56) 49 rfl w0.heap.size 47 i0 (.agg #[.int .i64 0, .int .i64 0, .slice none 0 0, .slice none 0 0]) 4 64 Tryz.underlying49 hi0 hz0 hz1 hz2 rfl (by decide) _ 0 [] rfl HE.out _ d.kept.length us rfl ((HSK.out.below K8.out.1).news HUS.out) (by unfold maxLen; omega) (by omega) K8.out.1.size ?_
   intro v6 w6 hown6 hgrow6 hlie6
   have hc6 : Chg w8 w6 _ := Chg.of_grown hgrow6
   have hlo6 := fun x hx => (World.ownsRow.lt HE.out x hx).1
   have hb6 := K8.out.1.trans (hc6.below K8.out.1.size (fun x hx => hlo6 x hx.symm))
   have hm6 := K8.out.2.1.chg hc6 (fun e => by have := hlo6 _ e.symm; omega)
   have hx6 := K8.out.2.2.chg hc6 (fun e => by have := hlo6 _ e.symm; omega)
   have hR6 : w6.ownsRow w0.heap.size 47 4 v6 d.kept.length us := by simpa only [Nat.zero_add, List.nil_append] using hown6
   have hB8 := HB.out.chg hc6 (fun e => HNE.out _ e.symm rfl)
   have HB := Lib.hid hB8
   clear hB8
   obtain ⟨A6, c6, rfl⟩ := (Sho.own hR6).form
   have HR := Lib.hid hR6
   clear hR6 hown6 hgrow6 hlie6 hc6 hlo6
   simp only [Act.put, List.getElem_toArray, List.getElem_cons_succ, List.getElem_cons_zero, List.setIfInBounds_toArray, List.set_cons_zero, List.set_cons_succ]
   have K6 := Lib.hid (And.intro hb6 (And.intro hm6 hx6))
   have c12_6 : w6.cell? ⟨mb, 12, none⟩ = some (.slice KA d.kept.length kc) := by rw [← HKV.out]; exact hm6.cell 12 _ rfl
   have z0_6 := hx6.cell 0 _ rfl
   have z1_6 := hx6.cell 1 _ rfl
   have z2_6 := hx6.cell 2 _ rfl
   have z3_6 := hx6.cell 3 _ rfl
   have hmb6 := hm6.lt
   have hxl6 := hx6.lt
   clear hb6 hm6 hx6
   try dsimp only
   refine hK.out _ _ (fun _ => ⟨c12_6, z0_6, z1_6, z2_6, z3_6⟩) (fun hHeld6' => ?_)
   have hHeld6 := hHeld6' (by decide)
   clear hHeld6'
   clear hK K; try simp only [Act.put, sa, sb, sc]
   refine wpAnyT_ready (rs := [9]) (by kernel_rfl) (by simp) (.cons rfl (fun K hK => ?_) .nil)
   skip
   have hnw : NewsOf w6 (.slice (some ⟨w1.heap.size, 0, none⟩) 1 1) 1 4 [.int .i64 k, .int .i64 g.sig.index, .slice P g.sig.parts.length cp, .slice Q g.sig.path.length cq] := Sho.news ⟨rfl, .inr ⟨w1.heap.size, 0, 1, rfl, Nat.le_refl _, by decide, HB.out.lt, fun j u hj => by rw [Nat.zero_add]; exact HB.out.cell j u hj⟩⟩ (fun u hu => by simp at hu; rcases hu with rfl | rfl | rfl | rfl <;> rfl)
   refine step_append_lie rfl (.tmp 57) (.tmp 59) 49 rfl w0.heap.size 47 i0 (.agg #[.int .i64 0, .int .i64 0, .slice none 0 0, .slice none 0 0]) 4 64 Tryz.underlying49 hi0 hz0 hz1 hz2 rfl (by decide) _ d.kept.length us rfl HR.out _ 1 [.int .i64 k, .int .i64 g.sig.index, .slice P g.sig.parts.length cp, .slice Q g.sig.path.length cq] rfl hnw (by unfold maxLen; omega) (by omega) K6.out.1.size ?_
   intro v9 w9 hown9 hgrow9 hlie9
   have hc9 : Chg w6 w9 _ := Chg.of_grown hgrow9
   have hlo9 := fun x hx => (World.ownsRow.lt HR.out x hx).1
   have hb9 := K6.out.1.trans (hc9.below K6.out.1.size (fun x hx => hlo9 x hx.symm))
   have hm9 := K6.out.2.1.chg hc9 (fun e => by have := hlo9 _ e.symm; omega)
   have hx9 := K6.out.2.2.chg hc9 (fun e => by have := hlo9 _ e.symm; omega)
   have hR9 := hown9
   obtain ⟨A9, c9, rfl⟩ := (Sho.own hR9).form
   have HR := Lib.hid hR9
   have y12 := hm9.free 12
   clear hR9 hown9 hgrow9 hlie9 hc9 hlo9 hnw
   simp only [Act.put, List.getElem_toArray, List.getElem_cons_succ, List.getElem_cons_zero, List.setIfInBounds_toArray, List.set_cons_zero, List.set_cons_succ]
   have K9 := Lib.hid (And.intro hb9 (And.intro hm9 hx9))
   have c12_9 : w9.cell? ⟨mb, 12, none⟩ = some (.slice KA d.kept.length kc) := by rw [← HKV.out]; exact hm9.cell 12 _ rfl
   have z0_9 := hx9.cell 0 _ rfl
   have z1_9 := hx9.cell 1 _ rfl
   have z2_9 := hx9.cell 2 _ rfl
   have z3_9 := hx9.cell 3 _ rfl
   have hmb9 := hm9.lt
   have hxl9 := hx9.lt
   clear hb9 hm9 hx9
   try dsimp only
   refine hK.out _ _ (fun _ => ⟨c12_9, z0_9, z1_9, z2_9, z3_9⟩) (fun hHeld9' => ?_)
   have hHeld9 := hHeld9' (by decide)
   clear hHeld9'
   clear hK K; try simp only [Act.put, sa, sb, sc]
   refine tl 10 61 rfl rfl ?_; simp only [sa, sb, sc]
   refine tl 11 62 rfl rfl ?_; simp only [sa, sb, sc]
   refine wpAnyT_ready (rs := [12]) (by kernel_rfl) (by simp) (.cons rfl (fun K hK => ?_) .nil)
   go_simp
   refine hK.out _ _ (fun h => absurd h (by decide)) (fun _ => ?_)
   clear hK K; try simp only [Act.put, sa, sb, sc]
   refine wpAnyT_done (by kernel_rfl) ?_ _
   have hb9 := HB0.out.trans (K9.out.1.mono HB0.out.size)
   have hfin := HO.out.keepg (Y := Y) (W := w9) (g := g) hb9 HB0.out K9.out.1.size H2.out.2.1 (HKR.out.2) HYM.out HX.out.1 HX.out.2 (by rw [HGW.out]; exact HR.out)
   have hsz : Chg w9 (w9.setCell ⟨mb, 12, none⟩ (.slice A9 (d.kept.length + 1) c9)) (fun k => k = mb) := chg_cell (Chg.refl w9 _) 12 _
   have HF : Hid (MrpS D Y w mb tb rb { d with kept := d.kept ++ [g] } (w9.setCell ⟨mb, 12, none⟩ (.slice A9 (d.kept.length + 1) c9)).drew) := Lib.hid (MrpS.drew ⟨_, _, hfin.1, fun x hx => hx.imp id (Or.imp id (fun h => ⟨h.1, Nat.lt_of_lt_of_le h.2 hsz.size⟩)), (((Chg.refl w _).trans (Chg.of_below (S := fun _ => False) H2.out.2.1) (fun _ _ h => h.elim)).trans hfin.2 (fun _ _ h => h)).mono (fun _ _ h => .inl h)⟩)
   clear hfin hb9 hsz
   generalize w9.setCell ⟨mb, 12, none⟩ (.slice A9 (d.kept.length + 1) c9) = w3' at HF ⊢
   obtain ⟨D3, r3, hm3, hD3, hc3⟩ := HF.out
   clear HF
   have c10 : w3'.drew.cell? ⟨mb, 10, none⟩ = some (.slice (some ⟨tb, 0, none⟩) d.th.length d.th.length) := hm3.blk.cell 10 _ rfl
   have c4 : w3'.drew.cell? ⟨mb, 4, none⟩ = some (.int .i64 d.cur.ck.num) := hm3.blk.cell 4 _ rfl
   have ct := hm3.tbk.cell k _ (intsV_at _ k hkl)
   have ft := hm3.tbk.free k
   have hml := hm3.blk.lt
   have htl := hm3.tbk.lt
   have HM3 := Lib.hid (And.intro hm3 (And.intro hD3 hc3))
   clear hm3 hD3 hc3
   go_wp2
   refine wp_region_drewT 12 (S := fun w' => w'.cell? ⟨mb, 10, none⟩ = some (.slice (some ⟨tb, 0, none⟩) d.th.length d.th.length) ∧ w'.cell? ⟨mb, 4, none⟩ = some (.int .i64 d.cur.ck.num)) (by kernel_rfl) ?_ (fun hHeld5 => ?_)
   ·exact ⟨c10, c4⟩
   generalize w3'.drew = w3 at *
   refine tt 0 63 rfl rfl ?_; simp only [sa, sb, sc]
   refine tt 1 64 rfl rfl ?_; simp only [sa, sb, sc]
   refine tt 2 65 rfl rfl ?_; simp only [sa, sb, sc]
   refine tt 3 66 rfl rfl ?_; simp only [sa, sb, sc]
   refine tt 4 67 rfl rfl ?_; simp only [sa, sb, sc]
   refine tt 5 68 rfl rfl ?_; simp only [sa, sb, sc]
   refine tt 6 69 rfl rfl ?_; simp only [sa, sb, sc]
   refine tt 7 70 rfl rfl ?_; simp only [sa, sb, sc]
   refine tt 8 71 rfl rfl ?_; simp only [sa, sb, sc]
   refine tt 9 72 rfl rfl ?_; simp only [sa, sb, sc]
   refine tt 10 73 rfl rfl ?_; simp only [sa, sb, sc]
   refine tt 11 74 rfl rfl ?_; simp only [sa, sb, sc]
   refine wpAnyT_ready (rs := [12]) (by kernel_rfl) (by simp) (.cons rfl (fun K hK => ?_) .nil)
   go_simp
   refine hK.out _ _ (fun h => absurd h (by decide)) (fun _ => ?_)
   clear hK K; try simp only [Act.put, sa, sb, sc]
   refine wpAnyT_done (by kernel_rfl) ?_ _
   have HF : Hid (MrpS D Y w mb tb rb { d with kept := d.kept ++ [g], th := d.th.set k d.cur.ck.num } (w3.setCell ⟨tb, k, none⟩ (.int .i64 d.cur.ck.num))) := Lib.hid (by
    obtain ⟨hm4, hc4⟩ := HM3.out.1.thought k d.cur.ck.num hkl
    exact MrpS.same HM3.out.2.1 HM3.out.2.2 hm4 (hc4.mono (fun _ _ h => .inr h)))
   generalize w3.setCell ⟨tb, k, none⟩ (.int .i64 d.cur.ck.num) = w4 at HF ⊢
   obtain ⟨D4, r4, hm4, hD4, hc4⟩ := HF.out
   clear HF HM3
   go_wp2_with fail
   refine (mcancel_any D4 mb tb rb _ (k : Int) (by show d.plans.length ≤ _; omega) _ ⟨_, hm4⟩).mono ?_
   rintro e w5' ⟨rfl, hm5, hc5⟩
   have HF : Hid (MrpS D Y w mb tb rb (mkep0 d k g) w5'.drew) := Lib.hid (MrpS.next hD4 hc4 hm5 hc5).drew
   clear hm5 hc5 hm4 hD4 hc4
   obtain ⟨D5, r5, hm5, hD5, hc5⟩ := HF.out
   clear HF
   obtain ⟨us5, hsk5, hrow5⟩ := hm5.tx.kv
   obtain ⟨KB, kb5, hkv5⟩ := hsk5.sho.form
   clear hsk5 hrow5
   have d12 : w5'.drew.cell? ⟨mb, 12, none⟩ = some (.slice KB (d.kept.length + 1) kb5) := by have h9 := hm5.blk.cell 12 _ rfl; rw [hkv5] at h9; rw [h9]; congr 2; simp [mkep0]
   have d2 : w5'.drew.cell? ⟨mb, 2, none⟩ = some (.int .i64 d.p.quorum) := hm5.blk.cell 2 _ rfl
   have hml5 := hm5.blk.lt
   have HKV5 := Lib.hid hkv5
   have HM5 := Lib.hid (And.intro hm5 (And.intro hD5 hc5))
   clear hm5 hD5 hc5 hkv5
   go_wp2
   refine wp_region_held_drew (S := fun w' => w'.cell? ⟨mb, 12, none⟩ = some (.slice KB (d.kept.length + 1) kb5) ∧ w'.cell? ⟨mb, 2, none⟩ = some (.int .i64 d.p.quorum)) (by kernel_rfl) ?_ (fun hHeld7 => ?_)
   ·exact ⟨d12, d2⟩
   generalize w5'.drew = w5 at *
   refine ty 0 78 rfl rfl ?_; simp only [sa, sb, sc]
   refine ty 1 79 rfl rfl ?_; simp only [sa, sb, sc]
   refine ty 2 80 rfl rfl ?_; simp only [sa, sb, sc]
   refine ty 3 81 rfl rfl ?_; simp only [sa, sb, sc]
   refine ty 4 82 rfl rfl ?_; simp only [sa, sb, sc]
   refine ty 5 83 rfl rfl ?_; simp only [sa, sb, sc]
   refine ty 6 84 rfl rfl ?_; simp only [sa, sb, sc]
   refine ty 7 85 rfl rfl ?_; simp only [sa, sb, sc]
   refine ty 8 86 rfl rfl ?_; simp only [sa, sb, sc]
   refine ty 9 87 rfl rfl ?_; simp only [sa, sb, sc]
   refine ty 10 88 rfl rfl ?_; simp only [sa, sb, sc]
   refine wpAnyH_done (by kernel_rfl) ?_ _
   by_cases hq : d.p.quorum ≤ ((d.kept.length + 1 : Nat) : Int)
   ·obtain ⟨D6, r6, hm6, hD6, hc6⟩ := MrpS.drew ⟨_, _, HM5.out.1, HM5.out.2.1, HM5.out.2.2⟩
    obtain ⟨us6, hsk6, hrow6⟩ := hm6.tx.kv
    obtain ⟨KC, kc6, hkv6⟩ := hsk6.sho.form
    obtain ⟨RB, rb6, hcr6⟩ := hm6.tx.cr.1.form
    obtain ⟨PB, pb6, hcp6⟩ := hm6.tx.cp.rws.form
    obtain ⟨QB, qb6, hcq6⟩ := hm6.tx.cq.rws.form
    clear hsk6 hrow6
    have hkv6' : r6.kv = .slice KC (d.kept.length + 1) kc6 := by rw [hkv6]; congr 1; simp [mkep0]
    have HKV6 : Hid (r6.cr = .slice RB d.cur.ck.root.length rb6 ∧ r6.cp = .slice PB d.cur.sig.parts.length pb6 ∧ r6.cq = .slice QB d.cur.sig.path.length qb6 ∧ r6.kv = .slice KC (d.kept.length + 1) kc6) := Lib.hid ⟨hcr6, hcp6, hcq6, hkv6'⟩
    have e4 : w5.drew.cell? ⟨mb, 4, none⟩ = some (.int .i64 d.cur.ck.num) := hm6.blk.cell 4 _ rfl
    have e5 : w5.drew.cell? ⟨mb, 5, none⟩ = some (.slice RB d.cur.ck.root.length rb6) := by rw [← HKV6.out.1]; exact hm6.blk.cell 5 _ rfl
    have e6 : w5.drew.cell? ⟨mb, 6, none⟩ = some (.int .i64 d.cur.sig.index) := hm6.blk.cell 6 _ rfl
    have e7 : w5.drew.cell? ⟨mb, 7, none⟩ = some (.slice PB d.cur.sig.parts.length pb6) := by rw [← HKV6.out.2.1]; exact hm6.blk.cell 7 _ rfl
    have e8 : w5.drew.cell? ⟨mb, 8, none⟩ = some (.slice QB d.cur.sig.path.length qb6) := by rw [← HKV6.out.2.2.1]; exact hm6.blk.cell 8 _ rfl
    have e12 : w5.drew.cell? ⟨mb, 12, none⟩ = some (.slice KC (d.kept.length + 1) kc6) := by rw [← HKV6.out.2.2.2]; exact hm6.blk.cell 12 _ rfl
    have y14 := hm6.blk.free 14
    have v14 := hm6.blk.cell 14 _ rfl
    have y15 := hm6.blk.free 15
    have v15 := hm6.blk.cell 15 _ rfl
    have y16 := hm6.blk.free 16
    have v16 := hm6.blk.cell 16 _ rfl
    have y17 := hm6.blk.free 17
    have v17 := hm6.blk.cell 17 _ rfl
    have y18 := hm6.blk.free 18
    have v18 := hm6.blk.cell 18 _ rfl
    have y19 := hm6.blk.free 19
    have v19 := hm6.blk.cell 19 _ rfl
    have y20 := hm6.blk.free 20
    have v20 := hm6.blk.cell 20 _ rfl
    have hml6 := hm6.blk.lt
    have HM6 := Lib.hid (And.intro hm6 (And.intro hD6 hc6))
    clear hm6 hD6 hc6 hkv6 hkv6' hcr6 hcp6 hcq6
    go_wp2
    refine wp_region_held_drew (S := fun w' => w'.cell? ⟨mb, 4, none⟩ = some (.int .i64 d.cur.ck.num) ∧ w'.cell? ⟨mb, 5, none⟩ = some (.slice RB d.cur.ck.root.length rb6) ∧ w'.cell? ⟨mb, 6, none⟩ = some (.int .i64 d.cur.sig.index) ∧ w'.cell? ⟨mb, 7, none⟩ = some (.slice PB d.cur.sig.parts.length pb6) ∧ w'.cell? ⟨mb, 8, none⟩ = some (.slice QB d.cur.sig.path.length qb6) ∧ w'.cell? ⟨mb, 12, none⟩ = some (.slice KC (d.kept.length + 1) kc6)) (by kernel_rfl) ?_ (fun hHeld8 => ?_)
    ·exact ⟨e4, e5, e6, e7, e8, e12⟩
    generalize w5.drew = w6 at *
    refine ty 0 89 rfl rfl ?_; simp only [sa, sb, sc]
    refine ty 1 90 rfl rfl ?_; simp only [sa, sb, sc]
    refine ty 2 91 rfl rfl ?_; simp only [sa, sb, sc]
    refine ty 3 92 rfl rfl ?_; simp only [sa, sb, sc]
    refine ty 4 93 rfl rfl ?_; simp only [sa, sb, sc]
    refine ty 5 94 rfl rfl ?_; simp only [sa, sb, sc]
    refine ty 6 95 rfl rfl ?_; simp only [sa, sb, sc]
    refine ty 7 96 rfl rfl ?_; simp only [sa, sb, sc]
    refine ty 8 97 rfl rfl ?_; simp only [sa, sb, sc]
    refine ty 9 98 rfl rfl ?_; simp only [sa, sb, sc]
    refine ty 10 99 rfl rfl ?_; simp only [sa, sb, sc]
    refine ty 11 100 rfl rfl ?_; simp only [sa, sb, sc]
    refine ty 12 101 rfl rfl ?_; simp only [sa, sb, sc]
    refine rd 13 (by kernel_rfl) rfl (fun K hK => ?_)
    go_simp
    have hcc0 : Chg w6 w6 (fun k => k = mb) := Chg.refl _ _
    have hbb0 := HM6.out.1.blk
    have hcc1 := chg_cell hcc0 14 (.int .i64 d.cur.ck.num)
    have hbb1 := hbb0.set 14 (.int .i64 d.cur.ck.num) (by simp only [List.length_set, mdCells_length]; decide)
    have hcc2 := chg_cell hcc1 15 (.slice RB d.cur.ck.root.length rb6)
    have hbb2 := hbb1.set 15 (.slice RB d.cur.ck.root.length rb6) (by simp only [List.length_set, mdCells_length]; decide)
    have hcc3 := chg_cell hcc2 16 (.int .i64 d.cur.sig.index)
    have hbb3 := hbb2.set 16 (.int .i64 d.cur.sig.index) (by simp only [List.length_set, mdCells_length]; decide)
    have hcc4 := chg_cell hcc3 17 (.slice PB d.cur.sig.parts.length pb6)
    have hbb4 := hbb3.set 17 (.slice PB d.cur.sig.parts.length pb6) (by simp only [List.length_set, mdCells_length]; decide)
    have hcc5 := chg_cell hcc4 18 (.slice QB d.cur.sig.path.length qb6)
    have hbb5 := hbb4.set 18 (.slice QB d.cur.sig.path.length qb6) (by simp only [List.length_set, mdCells_length]; decide)
    refine hK.out _ _ ⟨hbb5.cell 4 _ rfl, (hbb5.cell 5 _ rfl).trans (congrArg some HKV6.out.1), hbb5.cell 6 _ rfl, (hbb5.cell 7 _ rfl).trans (congrArg some HKV6.out.2.1), (hbb5.cell 8 _ rfl).trans (congrArg some HKV6.out.2.2.1), (hbb5.cell 12 _ rfl).trans (congrArg some HKV6.out.2.2.2)⟩ (fun hHeld13 => ?_)
    clear hK K; try simp only [Act.put, sa, sb, sc]
    refine ty 14 102 rfl rfl ?_; simp only [sa, sb, sc]
    refine ty 15 103 rfl rfl ?_; simp only [sa, sb, sc]
    refine rd 16 (by kernel_rfl) rfl (fun K hK => ?_)
    go_simp
    have hcc6 := chg_cell hcc5 19 (.bool true)
    have hbb6 := hbb5.set 19 (.bool true) (by simp only [List.length_set, mdCells_length]; decide)
    refine hK.out _ _ ⟨hbb6.cell 4 _ rfl, (hbb6.cell 5 _ rfl).trans (congrArg some HKV6.out.1), hbb6.cell 6 _ rfl, (hbb6.cell 7 _ rfl).trans (congrArg some HKV6.out.2.1), (hbb6.cell 8 _ rfl).trans (congrArg some HKV6.out.2.2.1), (hbb6.cell 12 _ rfl).trans (congrArg some HKV6.out.2.2.2)⟩ (fun hHeld16 => ?_)
    clear hK K; try simp only [Act.put, sa, sb, sc]
    refine ty 17 104 rfl rfl ?_; simp only [sa, sb, sc]
    refine ty 18 105 rfl rfl ?_; simp only [sa, sb, sc]
    refine rd 19 (by kernel_rfl) rfl (fun K hK => ?_)
    go_simp
    have hcc7 := chg_cell hcc6 20 (.slice KC (d.kept.length + 1) kc6)
    have hbb7 := hbb6.set 20 (.slice KC (d.kept.length + 1) kc6) (by simp only [List.length_set, mdCells_length]; decide)
    refine hK.out _ _ ⟨hbb7.cell 4 _ rfl, (hbb7.cell 5 _ rfl).trans (congrArg some HKV6.out.1), hbb7.cell 6 _ rfl, (hbb7.cell 7 _ rfl).trans (congrArg some HKV6.out.2.1), (hbb7.cell 8 _ rfl).trans (congrArg some HKV6.out.2.2.1), (hbb7.cell 12 _ rfl).trans (congrArg some HKV6.out.2.2.2)⟩ (fun hHeld19 => ?_)
    clear hK K; try simp only [Act.put, sa, sb, sc]
    refine wpAnyH_done (by kernel_rfl) ?_ _
    have hb8 := hbb7
    have hc8 := hcc7
    clear hcc0 hbb0 hcc1 hbb1 hcc2 hbb2 hcc3 hbb3 hcc4 hbb4 hcc5 hbb5 hcc6 hbb6 hcc7 hbb7
    generalize (((((((w6.setCell ⟨mb, 14, none⟩ (.int .i64 d.cur.ck.num)).setCell ⟨mb, 15, none⟩ (.slice RB d.cur.ck.root.length rb6)).setCell ⟨mb, 16, none⟩ (.int .i64 d.cur.sig.index)).setCell ⟨mb, 17, none⟩ (.slice PB d.cur.sig.parts.length pb6)).setCell ⟨mb, 18, none⟩ (.slice QB d.cur.sig.path.length qb6)).setCell ⟨mb, 19, none⟩ (.bool true)).setCell ⟨mb, 20, none⟩ (.slice KC (d.kept.length + 1) kc6)) = w8 at *
    have HF : Hid (∃ D', MdAt D' w8 mb tb rb (mkepD d k g) ∧ (∀ g, D' g → D g ∨ Y g ∨ Fresh w w8 g) ∧ Chg w w8 (fun k => k = mb ∨ k = tb)) := Lib.hid (by
     have hd := HM6.out.1.done hc8 (by have h := hb8; rw [← HKV6.out.1, ← HKV6.out.2.1, ← HKV6.out.2.2.1, ← HKV6.out.2.2.2] at h; exact h)
     obtain ⟨D9, r9, a1, a2, a3⟩ := MrpS.same HM6.out.2.1 HM6.out.2.2 hd (hc8.mono (fun _ _ h => .inl h))
     refine ⟨D9, ?_, a2, a3⟩
     unfold mkepD
     rw [if_pos hq]
     exact ⟨r9, a1⟩)
    go_wp2
    go_ret
    exact ⟨rfl, HF.out⟩
   ·go_wp2
    go_ret
    refine ⟨rfl, D5, ?_, HM5.out.2.1, HM5.out.2.2⟩
    unfold mkepD
    rw [if_neg (Int.not_le.2 hq)]
    exact ⟨r5, HM5.out.1⟩
  case' wrg44_1_6 =>
   skip
   refine step_append_lie rfl (.tmp 52) (.tmp 56) 49 rfl w0.heap.size 47 i0 (.agg #[.int .i64 0, .int .i64 0, .slice none 0 0, .slice none 0 0]) 4 64 Tryz.underlying49 hi0 hz0 hz1 hz2 rfl (by decide) _ 0 [] rfl HE.out _ d.kept.length us rfl ((HSK.out.below K1.out.1).news HUS.out) (by unfold maxLen; omega) (by omega) K1.out.1.size ?_
   intro v6 w6 hown6 hgrow6 hlie6
   have hc6 : Chg w1 w6 _ := Chg.of_grown hgrow6
   have hlo6 := fun x hx => (World.ownsRow.lt HE.out x hx).1
   have hb6 := K1.out.1.trans (hc6.below K1.out.1.size (fun x hx => hlo6 x hx.symm))
   have hm6 := K1.out.2.1.chg hc6 (fun e => by have := hlo6 _ e.symm; omega)
   have hx6 := K1.out.2.2.chg hc6 (fun e => by have := hlo6 _ e.symm; omega)
   have hR6 : w6.ownsRow w0.heap.size 47 4 v6 d.kept.length us := by simpa only [Nat.zero_add, List.nil_append] using hown6
   obtain ⟨A6, c6, rfl⟩ := (Sho.own hR6).form
   have HR := Lib.hid hR6
   clear hR6 hown6 hgrow6 hlie6 hc6 hlo6
   simp only [Act.put, List.getElem_toArray, List.getElem_cons_succ, List.getElem_cons_zero, List.setIfInBounds_toArray, List.set_cons_zero, List.set_cons_succ]
   have K6 := Lib.hid (And.intro hb6 (And.intro hm6 hx6))
   have c12_6 : w6.cell? ⟨mb, 12, none⟩ = some (.slice KA d.kept.length kc) := by rw [← HKV.out]; exact hm6.cell 12 _ rfl
   have z0_6 := hx6.cell 0 _ rfl
   have z1_6 := hx6.cell 1 _ rfl
   have z2_6 := hx6.cell 2 _ rfl
   have z3_6 := hx6.cell 3 _ rfl
   have hmb6 := hm6.lt
   have hxl6 := hx6.lt
   clear hb6 hm6 hx6
   try dsimp only
   refine hK.out _ _ (fun _ => ⟨c12_6, z0_6, z1_6, z2_6, z3_6⟩) (fun hHeld6' => ?_)
   have hHeld6 := hHeld6' (by decide)
   clear hHeld6'
   clear hK K; try simp only [Act.put, sa, sb, sc]
   refine wpAnyT_ready (rs := [8]) (by kernel_rfl) (by simp) (.cons rfl (fun K hK => ?_) .nil)
   go_simp
   have hb8 := K6.out.1.alloc K6.out.1.size (.cells #[.int .i64 k, .int .i64 g.sig.index, .slice P g.sig.parts.length cp, .slice Q g.sig.path.length cq] 47)
   have hm8 := K6.out.2.1.alloc (.cells #[.int .i64 k, .int .i64 g.sig.index, .slice P g.sig.parts.length cp, .slice Q g.sig.path.length cq] 47)
   have hx8 := K6.out.2.2.alloc (.cells #[.int .i64 k, .int .i64 g.sig.index, .slice P g.sig.parts.length cp, .slice Q g.sig.path.length cq] 47)
   have hB1 := Blk.new w6 47 [.int .i64 k, .int .i64 g.sig.index, .slice P g.sig.parts.length cp, .slice Q g.sig.path.length cq]
   have hR1 := World.ownsRow.alloc HR.out (.cells #[.int .i64 k, .int .i64 g.sig.index, .slice P g.sig.parts.length cp, .slice Q g.sig.path.length cq] 47)
   have hne := fun x hx => (World.ownsRow.lt HR.out x hx).2
   generalize w6.alloc (.cells #[.int .i64 k, .int .i64 g.sig.index, .slice P g.sig.parts.length cp, .slice Q g.sig.path.length cq] 47) = w8 at *
   have HB := Lib.hid hB1
   clear hB1
   have HR := Lib.hid hR1
   clear hR1
   have K8 := Lib.hid (And.intro hb8 (And.intro hm8 hx8))
   have c12_8 : w8.cell? ⟨mb, 12, none⟩ = some (.slice KA d.kept.length kc) := by rw [← HKV.out]; exact hm8.cell 12 _ rfl
   have z0_8 := hx8.cell 0 _ rfl
   have z1_8 := hx8.cell 1 _ rfl
   have z2_8 := hx8.cell 2 _ rfl
   have z3_8 := hx8.cell 3 _ rfl
   have hmb8 := hm8.lt
   have hxl8 := hx8.lt
   clear hb8 hm8 hx8
   try dsimp only
   refine hK.out _ _ (fun _ => ⟨c12_8, z0_8, z1_8, z2_8, z3_8⟩) (fun hHeld8' => ?_)
   have hHeld8 := hHeld8' (by decide)
   clear hHeld8'
   clear hK K; try simp only [Act.put, sa, sb, sc]
   refine wpAnyT_ready (rs := [9]) (by kernel_rfl) (by simp) (.cons rfl (fun K hK => ?_) .nil)
   skip
   have hnw : NewsOf w8 (.slice (some ⟨w6.heap.size, 0, none⟩) 1 1) 1 4 [.int .i64 k, .int .i64 g.sig.index, .slice P g.sig.parts.length cp, .slice Q g.sig.path.length cq] := Sho.news ⟨rfl, .inr ⟨w6.heap.size, 0, 1, rfl, Nat.le_refl _, by decide, HB.out.lt, fun j u hj => by rw [Nat.zero_add]; exact HB.out.cell j u hj⟩⟩ (fun u hu => by simp at hu; rcases hu with rfl | rfl | rfl | rfl <;> rfl)
   refine step_append_lie rfl (.tmp 57) (.tmp 59) 49 rfl w0.heap.size 47 i0 (.agg #[.int .i64 0, .int .i64 0, .slice none 0 0, .slice none 0 0]) 4 64 Tryz.underlying49 hi0 hz0 hz1 hz2 rfl (by decide) _ d.kept.length us rfl HR.out _ 1 [.int .i64 k, .int .i64 g.sig.index, .slice P g.sig.parts.length cp, .slice Q g.sig.path.length cq] rfl hnw (by unfold maxLen; omega) (by omega) K8.out.1.size ?_
   intro v9 w9 hown9 hgrow9 hlie9
   have hc9 : Chg w8 w9 _ := Chg.of_grown hgrow9
   have hlo9 := fun x hx => (World.ownsRow.lt HR.out x hx).1
   have hb9 := K8.out.1.trans (hc9.below K8.out.1.size (fun x hx => hlo9 x hx.symm))
   have hm9 := K8.out.2.1.chg hc9 (fun e => by have := hlo9 _ e.symm; omega)
   have hx9 := K8.out.2.2.chg hc9 (fun e => by have := hlo9 _ e.symm; omega)
   have hR9 := hown9
   obtain ⟨A9, c9, rfl⟩ := (Sho.own hR9).form
   have HR := Lib.hid hR9
   have y12 := hm9.free 12
   clear hR9 hown9 hgrow9 hlie9 hc9 hlo9 hnw
   simp only [Act.put, List.getElem_toArray, List.getElem_cons_succ, List.getElem_cons_zero, List.setIfInBounds_toArray, List.set_cons_zero, List.set_cons_succ]
   have K9 := Lib.hid (And.intro hb9 (And.intro hm9 hx9))
   have c12_9 : w9.cell? ⟨mb, 12, none⟩ = some (.slice KA d.kept.length kc) := by rw [← HKV.out]; exact hm9.cell 12 _ rfl
   have z0_9 := hx9.cell 0 _ rfl
   have z1_9 := hx9.cell 1 _ rfl
   have z2_9 := hx9.cell 2 _ rfl
   have z3_9 := hx9.cell 3 _ rfl
   have hmb9 := hm9.lt
   have hxl9 := hx9.lt
   clear hb9 hm9 hx9
   try dsimp only
   refine hK.out _ _ (fun _ => ⟨c12_9, z0_9, z1_9, z2_9, z3_9⟩) (fun hHeld9' => ?_)
   have hHeld9 := hHeld9' (by decide)
   clear hHeld9'
   clear hK K; try simp only [Act.put, sa, sb, sc]
   refine tl 10 61 rfl rfl ?_; simp only [sa, sb, sc]
   refine tl 11 62 rfl rfl ?_; simp only [sa, sb, sc]
   refine wpAnyT_ready (rs := [12]) (by kernel_rfl) (by simp) (.cons rfl (fun K hK => ?_) .nil)
   go_simp
   refine hK.out _ _ (fun h => absurd h (by decide)) (fun _ => ?_)
   clear hK K; try simp only [Act.put, sa, sb, sc]
   refine wpAnyT_done (by kernel_rfl) ?_ _
   have hb9 := HB0.out.trans (K9.out.1.mono HB0.out.size)
   have hfin := HO.out.keepg (Y := Y) (W := w9) (g := g) hb9 HB0.out K9.out.1.size H2.out.2.1 (HKR.out.2) HYM.out HX.out.1 HX.out.2 (by rw [HGW.out]; exact HR.out)
   have hsz : Chg w9 (w9.setCell ⟨mb, 12, none⟩ (.slice A9 (d.kept.length + 1) c9)) (fun k => k = mb) := chg_cell (Chg.refl w9 _) 12 _
   have HF : Hid (MrpS D Y w mb tb rb { d with kept := d.kept ++ [g] } (w9.setCell ⟨mb, 12, none⟩ (.slice A9 (d.kept.length + 1) c9)).drew) := Lib.hid (MrpS.drew ⟨_, _, hfin.1, fun x hx => hx.imp id (Or.imp id (fun h => ⟨h.1, Nat.lt_of_lt_of_le h.2 hsz.size⟩)), (((Chg.refl w _).trans (Chg.of_below (S := fun _ => False) H2.out.2.1) (fun _ _ h => h.elim)).trans hfin.2 (fun _ _ h => h)).mono (fun _ _ h => .inl h)⟩)
   clear hfin hb9 hsz
   generalize w9.setCell ⟨mb, 12, none⟩ (.slice A9 (d.kept.length + 1) c9) = w3' at HF ⊢
   obtain ⟨D3, r3, hm3, hD3, hc3⟩ := HF.out
   clear HF
   have c10 : w3'.drew.cell? ⟨mb, 10, none⟩ = some (.slice (some ⟨tb, 0, none⟩) d.th.length d.th.length) := hm3.blk.cell 10 _ rfl
   have c4 : w3'.drew.cell? ⟨mb, 4, none⟩ = some (.int .i64 d.cur.ck.num) := hm3.blk.cell 4 _ rfl
   have ct := hm3.tbk.cell k _ (intsV_at _ k hkl)
   have ft := hm3.tbk.free k
   have hml := hm3.blk.lt
   have htl := hm3.tbk.lt
   have HM3 := Lib.hid (And.intro hm3 (And.intro hD3 hc3))
   clear hm3 hD3 hc3
   go_wp2
   refine wp_region_drewT 12 (S := fun w' => w'.cell? ⟨mb, 10, none⟩ = some (.slice (some ⟨tb, 0, none⟩) d.th.length d.th.length) ∧ w'.cell? ⟨mb, 4, none⟩ = some (.int .i64 d.cur.ck.num)) (by kernel_rfl) ?_ (fun hHeld5 => ?_)
   ·exact ⟨c10, c4⟩
   generalize w3'.drew = w3 at *
   refine tt 0 63 rfl rfl ?_; simp only [sa, sb, sc]
   refine tt 1 64 rfl rfl ?_; simp only [sa, sb, sc]
   refine tt 2 65 rfl rfl ?_; simp only [sa, sb, sc]
   refine tt 3 66 rfl rfl ?_; simp only [sa, sb, sc]
   refine tt 4 67 rfl rfl ?_; simp only [sa, sb, sc]
   refine tt 5 68 rfl rfl ?_; simp only [sa, sb, sc]
   refine tt 6 69 rfl rfl ?_; simp only [sa, sb, sc]
   refine tt 7 70 rfl rfl ?_; simp only [sa, sb, sc]
   refine tt 8 71 rfl rfl ?_; simp only [sa, sb, sc]
   refine tt 9 72 rfl rfl ?_; simp only [sa, sb, sc]
   refine tt 10 73 rfl rfl ?_; simp only [sa, sb, sc]
   refine tt 11 74 rfl rfl ?_; simp only [sa, sb, sc]
   refine wpAnyT_ready (rs := [12]) (by kernel_rfl) (by simp) (.cons rfl (fun K hK => ?_) .nil)
   go_simp
   refine hK.out _ _ (fun h => absurd h (by decide)) (fun _ => ?_)
   clear hK K; try simp only [Act.put, sa, sb, sc]
   refine wpAnyT_done (by kernel_rfl) ?_ _
   have HF : Hid (MrpS D Y w mb tb rb { d with kept := d.kept ++ [g], th := d.th.set k d.cur.ck.num } (w3.setCell ⟨tb, k, none⟩ (.int .i64 d.cur.ck.num))) := Lib.hid (by
    obtain ⟨hm4, hc4⟩ := HM3.out.1.thought k d.cur.ck.num hkl
    exact MrpS.same HM3.out.2.1 HM3.out.2.2 hm4 (hc4.mono (fun _ _ h => .inr h)))
   generalize w3.setCell ⟨tb, k, none⟩ (.int .i64 d.cur.ck.num) = w4 at HF ⊢
   obtain ⟨D4, r4, hm4, hD4, hc4⟩ := HF.out
   clear HF HM3
   go_wp2_with fail
   refine (mcancel_any D4 mb tb rb _ (k : Int) (by show d.plans.length ≤ _; omega) _ ⟨_, hm4⟩).mono ?_
   rintro e w5' ⟨rfl, hm5, hc5⟩
   have HF : Hid (MrpS D Y w mb tb rb (mkep0 d k g) w5'.drew) := Lib.hid (MrpS.next hD4 hc4 hm5 hc5).drew
   clear hm5 hc5 hm4 hD4 hc4
   obtain ⟨D5, r5, hm5, hD5, hc5⟩ := HF.out
   clear HF
   obtain ⟨us5, hsk5, hrow5⟩ := hm5.tx.kv
   obtain ⟨KB, kb5, hkv5⟩ := hsk5.sho.form
   clear hsk5 hrow5
   have d12 : w5'.drew.cell? ⟨mb, 12, none⟩ = some (.slice KB (d.kept.length + 1) kb5) := by have h9 := hm5.blk.cell 12 _ rfl; rw [hkv5] at h9; rw [h9]; congr 2; simp [mkep0]
   have d2 : w5'.drew.cell? ⟨mb, 2, none⟩ = some (.int .i64 d.p.quorum) := hm5.blk.cell 2 _ rfl
   have hml5 := hm5.blk.lt
   have HKV5 := Lib.hid hkv5
   have HM5 := Lib.hid (And.intro hm5 (And.intro hD5 hc5))
   clear hm5 hD5 hc5 hkv5
   go_wp2
   refine wp_region_held_drew (S := fun w' => w'.cell? ⟨mb, 12, none⟩ = some (.slice KB (d.kept.length + 1) kb5) ∧ w'.cell? ⟨mb, 2, none⟩ = some (.int .i64 d.p.quorum)) (by kernel_rfl) ?_ (fun hHeld7 => ?_)
   ·exact ⟨d12, d2⟩
   generalize w5'.drew = w5 at *
   refine ty 0 78 rfl rfl ?_; simp only [sa, sb, sc]
   refine ty 1 79 rfl rfl ?_; simp only [sa, sb, sc]
   refine ty 2 80 rfl rfl ?_; simp only [sa, sb, sc]
   refine ty 3 81 rfl rfl ?_; simp only [sa, sb, sc]
   refine ty 4 82 rfl rfl ?_; simp only [sa, sb, sc]
   refine ty 5 83 rfl rfl ?_; simp only [sa, sb, sc]
   refine ty 6 84 rfl rfl ?_; simp only [sa, sb, sc]
   refine ty 7 85 rfl rfl ?_; simp only [sa, sb, sc]
   refine ty 8 86 rfl rfl ?_; simp only [sa, sb, sc]
   refine ty 9 87 rfl rfl ?_; simp only [sa, sb, sc]
   refine ty 10 88 rfl rfl ?_; simp only [sa, sb, sc]
   refine wpAnyH_done (by kernel_rfl) ?_ _
   by_cases hq : d.p.quorum ≤ ((d.kept.length + 1 : Nat) : Int)
   ·obtain ⟨D6, r6, hm6, hD6, hc6⟩ := MrpS.drew ⟨_, _, HM5.out.1, HM5.out.2.1, HM5.out.2.2⟩
    obtain ⟨us6, hsk6, hrow6⟩ := hm6.tx.kv
    obtain ⟨KC, kc6, hkv6⟩ := hsk6.sho.form
    obtain ⟨RB, rb6, hcr6⟩ := hm6.tx.cr.1.form
    obtain ⟨PB, pb6, hcp6⟩ := hm6.tx.cp.rws.form
    obtain ⟨QB, qb6, hcq6⟩ := hm6.tx.cq.rws.form
    clear hsk6 hrow6
    have hkv6' : r6.kv = .slice KC (d.kept.length + 1) kc6 := by rw [hkv6]; congr 1; simp [mkep0]
    have HKV6 : Hid (r6.cr = .slice RB d.cur.ck.root.length rb6 ∧ r6.cp = .slice PB d.cur.sig.parts.length pb6 ∧ r6.cq = .slice QB d.cur.sig.path.length qb6 ∧ r6.kv = .slice KC (d.kept.length + 1) kc6) := Lib.hid ⟨hcr6, hcp6, hcq6, hkv6'⟩
    have e4 : w5.drew.cell? ⟨mb, 4, none⟩ = some (.int .i64 d.cur.ck.num) := hm6.blk.cell 4 _ rfl
    have e5 : w5.drew.cell? ⟨mb, 5, none⟩ = some (.slice RB d.cur.ck.root.length rb6) := by rw [← HKV6.out.1]; exact hm6.blk.cell 5 _ rfl
    have e6 : w5.drew.cell? ⟨mb, 6, none⟩ = some (.int .i64 d.cur.sig.index) := hm6.blk.cell 6 _ rfl
    have e7 : w5.drew.cell? ⟨mb, 7, none⟩ = some (.slice PB d.cur.sig.parts.length pb6) := by rw [← HKV6.out.2.1]; exact hm6.blk.cell 7 _ rfl
    have e8 : w5.drew.cell? ⟨mb, 8, none⟩ = some (.slice QB d.cur.sig.path.length qb6) := by rw [← HKV6.out.2.2.1]; exact hm6.blk.cell 8 _ rfl
    have e12 : w5.drew.cell? ⟨mb, 12, none⟩ = some (.slice KC (d.kept.length + 1) kc6) := by rw [← HKV6.out.2.2.2]; exact hm6.blk.cell 12 _ rfl
    have y14 := hm6.blk.free 14
    have v14 := hm6.blk.cell 14 _ rfl
    have y15 := hm6.blk.free 15
    have v15 := hm6.blk.cell 15 _ rfl
    have y16 := hm6.blk.free 16
    have v16 := hm6.blk.cell 16 _ rfl
    have y17 := hm6.blk.free 17
    have v17 := hm6.blk.cell 17 _ rfl
    have y18 := hm6.blk.free 18
    have v18 := hm6.blk.cell 18 _ rfl
    have y19 := hm6.blk.free 19
    have v19 := hm6.blk.cell 19 _ rfl
    have y20 := hm6.blk.free 20
    have v20 := hm6.blk.cell 20 _ rfl
    have hml6 := hm6.blk.lt
    have HM6 := Lib.hid (And.intro hm6 (And.intro hD6 hc6))
    clear hm6 hD6 hc6 hkv6 hkv6' hcr6 hcp6 hcq6
    go_wp2
    refine wp_region_held_drew (S := fun w' => w'.cell? ⟨mb, 4, none⟩ = some (.int .i64 d.cur.ck.num) ∧ w'.cell? ⟨mb, 5, none⟩ = some (.slice RB d.cur.ck.root.length rb6) ∧ w'.cell? ⟨mb, 6, none⟩ = some (.int .i64 d.cur.sig.index) ∧ w'.cell? ⟨mb, 7, none⟩ = some (.slice PB d.cur.sig.parts.length pb6) ∧ w'.cell? ⟨mb, 8, none⟩ = some (.slice QB d.cur.sig.path.length qb6) ∧ w'.cell? ⟨mb, 12, none⟩ = some (.slice KC (d.kept.length + 1) kc6)) (by kernel_rfl) ?_ (fun hHeld8 => ?_)
    ·exact ⟨e4, e5, e6, e7, e8, e12⟩
    generalize w5.drew = w6 at *
    refine ty 0 89 rfl rfl ?_; simp only [sa, sb, sc]
    refine ty 1 90 rfl rfl ?_; simp only [sa, sb, sc]
    refine ty 2 91 rfl rfl ?_; simp only [sa, sb, sc]
    refine ty 3 92 rfl rfl ?_; simp only [sa, sb, sc]
    refine ty 4 93 rfl rfl ?_; simp only [sa, sb, sc]
    refine ty 5 94 rfl rfl ?_; simp only [sa, sb, sc]
    refine ty 6 95 rfl rfl ?_; simp only [sa, sb, sc]
    refine ty 7 96 rfl rfl ?_; simp only [sa, sb, sc]
    refine ty 8 97 rfl rfl ?_; simp only [sa, sb, sc]
    refine ty 9 98 rfl rfl ?_; simp only [sa, sb, sc]
    refine ty 10 99 rfl rfl ?_; simp only [sa, sb, sc]
    refine ty 11 100 rfl rfl ?_; simp only [sa, sb, sc]
    refine ty 12 101 rfl rfl ?_; simp only [sa, sb, sc]
    refine rd 13 (by kernel_rfl) rfl (fun K hK => ?_)
    go_simp
    have hcc0 : Chg w6 w6 (fun k => k = mb) := Chg.refl _ _
    have hbb0 := HM6.out.1.blk
    have hcc1 := chg_cell hcc0 14 (.int .i64 d.cur.ck.num)
    have hbb1 := hbb0.set 14 (.int .i64 d.cur.ck.num) (by simp only [List.length_set, mdCells_length]; decide)
    have hcc2 := chg_cell hcc1 15 (.slice RB d.cur.ck.root.length rb6)
    have hbb2 := hbb1.set 15 (.slice RB d.cur.ck.root.length rb6) (by simp only [List.length_set, mdCells_length]; decide)
    have hcc3 := chg_cell hcc2 16 (.int .i64 d.cur.sig.index)
    have hbb3 := hbb2.set 16 (.int .i64 d.cur.sig.index) (by simp only [List.length_set, mdCells_length]; decide)
    have hcc4 := chg_cell hcc3 17 (.slice PB d.cur.sig.parts.length pb6)
    have hbb4 := hbb3.set 17 (.slice PB d.cur.sig.parts.length pb6) (by simp only [List.length_set, mdCells_length]; decide)
    have hcc5 := chg_cell hcc4 18 (.slice QB d.cur.sig.path.length qb6)
    have hbb5 := hbb4.set 18 (.slice QB d.cur.sig.path.length qb6) (by simp only [List.length_set, mdCells_length]; decide)
    refine hK.out _ _ ⟨hbb5.cell 4 _ rfl, (hbb5.cell 5 _ rfl).trans (congrArg some HKV6.out.1), hbb5.cell 6 _ rfl, (hbb5.cell 7 _ rfl).trans (congrArg some HKV6.out.2.1), (hbb5.cell 8 _ rfl).trans (congrArg some HKV6.out.2.2.1), (hbb5.cell 12 _ rfl).trans (congrArg some HKV6.out.2.2.2)⟩ (fun hHeld13 => ?_)
    clear hK K; try simp only [Act.put, sa, sb, sc]
    refine ty 14 102 rfl rfl ?_; simp only [sa, sb, sc]
    refine ty 15 103 rfl rfl ?_; simp only [sa, sb, sc]
    refine rd 16 (by kernel_rfl) rfl (fun K hK => ?_)
    go_simp
    have hcc6 := chg_cell hcc5 19 (.bool true)
    have hbb6 := hbb5.set 19 (.bool true) (by simp only [List.length_set, mdCells_length]; decide)
    refine hK.out _ _ ⟨hbb6.cell 4 _ rfl, (hbb6.cell 5 _ rfl).trans (congrArg some HKV6.out.1), hbb6.cell 6 _ rfl, (hbb6.cell 7 _ rfl).trans (congrArg some HKV6.out.2.1), (hbb6.cell 8 _ rfl).trans (congrArg some HKV6.out.2.2.1), (hbb6.cell 12 _ rfl).trans (congrArg some HKV6.out.2.2.2)⟩ (fun hHeld16 => ?_)
    clear hK K; try simp only [Act.put, sa, sb, sc]
    refine ty 17 104 rfl rfl ?_; simp only [sa, sb, sc]
    refine ty 18 105 rfl rfl ?_; simp only [sa, sb, sc]
    refine rd 19 (by kernel_rfl) rfl (fun K hK => ?_)
    go_simp
    have hcc7 := chg_cell hcc6 20 (.slice KC (d.kept.length + 1) kc6)
    have hbb7 := hbb6.set 20 (.slice KC (d.kept.length + 1) kc6) (by simp only [List.length_set, mdCells_length]; decide)
    refine hK.out _ _ ⟨hbb7.cell 4 _ rfl, (hbb7.cell 5 _ rfl).trans (congrArg some HKV6.out.1), hbb7.cell 6 _ rfl, (hbb7.cell 7 _ rfl).trans (congrArg some HKV6.out.2.1), (hbb7.cell 8 _ rfl).trans (congrArg some HKV6.out.2.2.1), (hbb7.cell 12 _ rfl).trans (congrArg some HKV6.out.2.2.2)⟩ (fun hHeld19 => ?_)
    clear hK K; try simp only [Act.put, sa, sb, sc]
    refine wpAnyH_done (by kernel_rfl) ?_ _
    have hb8 := hbb7
    have hc8 := hcc7
    clear hcc0 hbb0 hcc1 hbb1 hcc2 hbb2 hcc3 hbb3 hcc4 hbb4 hcc5 hbb5 hcc6 hbb6 hcc7 hbb7
    generalize (((((((w6.setCell ⟨mb, 14, none⟩ (.int .i64 d.cur.ck.num)).setCell ⟨mb, 15, none⟩ (.slice RB d.cur.ck.root.length rb6)).setCell ⟨mb, 16, none⟩ (.int .i64 d.cur.sig.index)).setCell ⟨mb, 17, none⟩ (.slice PB d.cur.sig.parts.length pb6)).setCell ⟨mb, 18, none⟩ (.slice QB d.cur.sig.path.length qb6)).setCell ⟨mb, 19, none⟩ (.bool true)).setCell ⟨mb, 20, none⟩ (.slice KC (d.kept.length + 1) kc6)) = w8 at *
    have HF : Hid (∃ D', MdAt D' w8 mb tb rb (mkepD d k g) ∧ (∀ g, D' g → D g ∨ Y g ∨ Fresh w w8 g) ∧ Chg w w8 (fun k => k = mb ∨ k = tb)) := Lib.hid (by
     have hd := HM6.out.1.done hc8 (by have h := hb8; rw [← HKV6.out.1, ← HKV6.out.2.1, ← HKV6.out.2.2.1, ← HKV6.out.2.2.2] at h; exact h)
     obtain ⟨D9, r9, a1, a2, a3⟩ := MrpS.same HM6.out.2.1 HM6.out.2.2 hd (hc8.mono (fun _ _ h => .inl h))
     refine ⟨D9, ?_, a2, a3⟩
     unfold mkepD
     rw [if_pos hq]
     exact ⟨r9, a1⟩)
    go_wp2
    go_ret
    exact ⟨rfl, HF.out⟩
   ·go_wp2
    go_ret
    refine ⟨rfl, D5, ?_, HM5.out.2.1, HM5.out.2.2⟩
    unfold mkepD
    rw [if_neg (Int.not_le.2 hq)]
    exact ⟨r5, HM5.out.1⟩
def mtakN (d : MdD) (wit size now : Int) : MdD := if mtakB d wit size = true then msizD d wit.toNat size now else d
set_option maxRecDepth 100000 in
set_option maxHeartbeats 8000000 in
theorem mreply_nk (D Y : Nat → Prop) (mb tb rb : Nat) (d : MdD) (v : Value) (g : CgD) (k : Nat) (size now : Int) (hp : SmallPol d.p) (hr : d.cur.ck.root.length ≤ 100000000) (hs : SmallSig g.sig) (hkk : d.kept.length ≤ 1000) (hpl : d.plans.length ≤ 100000) (w : World) (hok : MdAt D w mb tb rb d) (hv : CgF Y w v g) (hhas : d.has = true) (hkl : k < d.th.length) (hke : hasW d.kept (k : Int) = false) (hno : g.wit = (k : Int) → cgVerB d.p d.cur.ck g = false) :
  Calls Tryz.prog 39 #[.pointer (some ⟨mb, 0, none⟩), .int .i64 k, v, .int .i64 size, .int .i64 now] w fun e w' => e = .returned (.bool (mtakB d (k : Int) size)) ∧ ∃ D', MdAt D' w' mb tb rb (mtakN d (k : Int) size now) ∧ (∀ g, D' g → D g ∨ Y g ∨ Fresh w w' g) ∧ Chg w w' (fun k => k = mb ∨ k = tb) := by
 obtain ⟨r, hok⟩ := hok
 have HVF := Lib.hid (fun (wz : World) (vp vc vg : Value) (z1 : PolV wz vp d.p) (z2 : CkV wz vc d.cur.ck) (z3 : CgV wz vg g) => rcosigned_any vp vc vg d.p d.cur.ck g hp hr hs wz z1 z2 z3)
 obtain ⟨p1, q1, rfl, h1, h2⟩ := hv
 obtain ⟨P, cp, rfl⟩ := h1.rws.form
 obtain ⟨Q, cq, rfl⟩ := h2.rws.form
 obtain ⟨PL, plc, hpl1⟩ := hok.tx.pl.1.form
 obtain ⟨PW, pwc, hpw⟩ := hok.tx.pw.rws.form
 obtain ⟨RA, rc, hcr⟩ := hok.tx.cr.1.form
 have HPL := Lib.hid (And.intro hpl1 (And.intro hpw hcr))
 have HX := Lib.hid (And.intro h1 h2)
 have hb0 := (Below.refl w.heap.size w).alloc (Nat.le_refl _) (.cells #[.int .i64 g.wit, .int .i64 g.sig.index, .slice P g.sig.parts.length cp, .slice Q g.sig.path.length cq] 47)
 have hk0 := Blk.new w 47 [.int .i64 g.wit, .int .i64 g.sig.index, .slice P g.sig.parts.length cp, .slice Q g.sig.path.length cq]
 have hm1 := hok.below hb0
 have H0 := Lib.hid (And.intro hk0 (And.intro hb0 hm1))
 have f9 := hm1.blk.cell 9 _ rfl
 have f10 : (w.alloc (.cells #[.int .i64 g.wit, .int .i64 g.sig.index, .slice P g.sig.parts.length cp, .slice Q g.sig.path.length cq] 47)).cell? ⟨mb, 10, none⟩ = some (.slice (some ⟨tb, 0, none⟩) d.th.length d.th.length) := hm1.blk.cell 10 _ rfl
 have hml := hm1.blk.lt
 clear hb0 hk0 hm1 h1 h2 hpl1 hpw hcr
 have HHS := Lib.hid (fun (wz : World) (z : MdAt D wz mb tb rb d) => mhas_any D mb tb rb d (k : Int) (by omega) wz z)
 rw [hke] at HHS
 rw [hhas] at f9
 have HHA := Lib.hid hhas
 have HKE := Lib.hid hke
 have HNO := Lib.hid hno
 have hki : (k : Int) < (d.th.length : Int) := by omega
 have hk0 : (0 : Int) ≤ (k : Int) := by omega
 clear hok hp hr hs hhas hke hno
 go_enter Tryz.func39, Tryz.ntmps39
 go_wp2_with fail
 refine (HHS.out _ ⟨r, H0.out.2.2⟩).mono ?_
 rintro e w' ⟨rfl, rfl⟩
 go_wp2
 refine code_at (fun w1 => Blk w1 w.heap.size 47 [.int .i64 g.wit, .int .i64 g.sig.index, .slice P g.sig.parts.length cp, .slice Q g.sig.path.length cq] ∧ Below w.heap.size w w1 ∧ MdOk D w1 mb tb rb d r) H0.out ?_
 rintro w1 ⟨k0, kb, km⟩
 by_cases hgw : g.wit = (k : Int)
 ·have HGW := Lib.hid hgw
  rw [HNO.out hgw] at HVF
  have z0 := k0.cell 0 _ rfl
  have z1 := k0.cell 1 _ rfl
  have z2 := k0.cell 2 _ rfl
  have z3 := k0.cell 3 _ rfl
  have z4 : w1.cell? ⟨mb, 0, none⟩ = some (.slice PL d.p.log.length plc) := by rw [← HPL.out.1]; exact km.blk.cell 0 _ rfl
  have z5 : w1.cell? ⟨mb, 1, none⟩ = some (.slice PW d.p.wits.length pwc) := by rw [← HPL.out.2.1]; exact km.blk.cell 1 _ rfl
  have z6 := km.blk.cell 2 _ rfl
  have z7 := km.blk.cell 4 _ rfl
  have z8 : w1.cell? ⟨mb, 5, none⟩ = some (.slice RA d.cur.ck.root.length rc) := by rw [← HPL.out.2.2]; exact km.blk.cell 5 _ rfl
  rw [HGW.out] at z0
  have hl1 := k0.lt
  have hl2 := km.blk.lt
  have H1 := Lib.hid (And.intro k0 (And.intro kb km))
  clear k0 kb km H0 f9 f10 hml hgw
  refine wp_region_held_drew (S := fun w' => w'.cell? ⟨w.heap.size, 0, none⟩ = some (.int .i64 k) ∧ w'.cell? ⟨w.heap.size, 1, none⟩ = some (.int .i64 g.sig.index) ∧ w'.cell? ⟨w.heap.size, 2, none⟩ = some (.slice P g.sig.parts.length cp) ∧ w'.cell? ⟨w.heap.size, 3, none⟩ = some (.slice Q g.sig.path.length cq) ∧ w'.cell? ⟨mb, 0, none⟩ = some (.slice PL d.p.log.length plc) ∧ w'.cell? ⟨mb, 1, none⟩ = some (.slice PW d.p.wits.length pwc) ∧ w'.cell? ⟨mb, 2, none⟩ = some (.int .i64 d.p.quorum) ∧ w'.cell? ⟨mb, 4, none⟩ = some (.int .i64 d.cur.ck.num) ∧ w'.cell? ⟨mb, 5, none⟩ = some (.slice RA d.cur.ck.root.length rc)) (by kernel_rfl) ?_ (fun hHeld => ?_)
  ·exact ⟨z0, z1, z2, z3, z4, z5, z6, z7, z8⟩
  refine ty 0 34 rfl rfl ?_; simp only [sa, sb, sc]
  refine ty 1 35 rfl rfl ?_; simp only [sa, sb, sc]
  refine ty 2 36 rfl rfl ?_; simp only [sa, sb, sc]
  refine ty 3 37 rfl rfl ?_; simp only [sa, sb, sc]
  refine ty 4 38 rfl rfl ?_; simp only [sa, sb, sc]
  refine ty 5 39 rfl rfl ?_; simp only [sa, sb, sc]
  refine ty 6 40 rfl rfl ?_; simp only [sa, sb, sc]
  refine ty 7 41 rfl rfl ?_; simp only [sa, sb, sc]
  refine ty 8 42 rfl rfl ?_; simp only [sa, sb, sc]
  refine ty 9 43 rfl rfl ?_; simp only [sa, sb, sc]
  refine ty 10 44 rfl rfl ?_; simp only [sa, sb, sc]
  refine ty 11 45 rfl rfl ?_; simp only [sa, sb, sc]
  refine ty 12 46 rfl rfl ?_; simp only [sa, sb, sc]
  refine ty 13 47 rfl rfl ?_; simp only [sa, sb, sc]
  refine ty 14 48 rfl rfl ?_; simp only [sa, sb, sc]
  refine rd 15 (by kernel_rfl) rfl (fun K hK => ?_)
  go_simp
  go_at_call 34
  refine (HVF.out w1.drew _ _ _ ⟨_, _, rfl, by rw [← HPL.out.1]; exact H1.out.2.2.tx.pl.1.below (Below.refl w1.heap.size w1).drew, by rw [← HPL.out.2.1]; exact H1.out.2.2.tx.pw.rws.below (Below.refl w1.heap.size w1).drew⟩ ⟨_, rfl, by rw [← HPL.out.2.2]; exact H1.out.2.2.tx.cr.1.below (Below.refl w1.heap.size w1).drew⟩ ⟨_, _, by rw [HGW.out], (HX.out.1.rws.below H1.out.2.1).below (Below.refl w1.heap.size w1).drew, (HX.out.2.rws.below H1.out.2.1).below (Below.refl w1.heap.size w1).drew⟩).mono ?_
  rintro e w2 ⟨rfl, h2'⟩
  have h2 : Below w1.heap.size w1 w2 := ⟨h2'.os, h2'.tape, h2'.output, h2'.size, h2'.block⟩
  have kB := H1.out.1.below h2
  have kM := (H1.out.2.2.below h2).blk
  have x0 := kB.cell 0 _ rfl
  have x1 := kB.cell 1 _ rfl
  have x2 := kB.cell 2 _ rfl
  have x3 := kB.cell 3 _ rfl
  have x4 : w2.cell? ⟨mb, 0, none⟩ = some (.slice PL d.p.log.length plc) := by rw [← HPL.out.1]; exact kM.cell 0 _ rfl
  have x5 : w2.cell? ⟨mb, 1, none⟩ = some (.slice PW d.p.wits.length pwc) := by rw [← HPL.out.2.1]; exact kM.cell 1 _ rfl
  have x6 := kM.cell 2 _ rfl
  have x7 := kM.cell 4 _ rfl
  have x8 : w2.cell? ⟨mb, 5, none⟩ = some (.slice RA d.cur.ck.root.length rc) := by rw [← HPL.out.2.2]; exact kM.cell 5 _ rfl
  rw [HGW.out] at x0
  have H2 := Lib.hid (And.intro kB (And.intro (H1.out.2.1.trans (h2.mono H1.out.2.1.size)) (H1.out.2.2.below h2)))
  clear h2 h2' kB kM
  try dsimp only
  refine hK.out _ _ ⟨x0, x1, x2, x3, x4, x5, x6, x7, x8⟩ (fun hHeld15 => ?_)
  clear hK K; try simp only [Act.put, sa, sb, sc]
  refine ty 16 50 rfl rfl ?_; simp only [sa, sb, sc]
  refine wpAnyH_done (by kernel_rfl) ?_ _
  clear hHeld hHeld15 z0 z1 z2 z3 z4 z5 z6 z7 z8 x0 x1 x2 x3 x4 x5 x6 x7 x8
  have hA : Below w.heap.size w w2 ∧ MdOk D w2 mb tb rb d r := H2.out.2
  have HA := Lib.hid hA
  have c4 := hA.2.blk.cell 4 _ rfl
  have c10 : w2.cell? ⟨mb, 10, none⟩ = some (.slice (some ⟨tb, 0, none⟩) d.th.length d.th.length) := hA.2.blk.cell 10 _ rfl
  have ct := hA.2.tbk.cell k _ (intsV_at _ k hkl)
  have ft := hA.2.tbk.free k
  have hml := hA.2.blk.lt
  have htl := hA.2.tbk.lt
  clear hA
  by_cases g1 : 0 ≤ size
  ·by_cases g2 : size ≤ d.cur.ck.num
   ·by_cases g3 : size = d.th.getD k 0
    ·have HT : Hid (mtakB d (k : Int) size = false) := Lib.hid (by unfold mtakB; rw [Int.toNat_natCast, decide_eq_true g3]; simp)
     generalize d.th.getD k 0 = TH at *
     go_wp2
     go_ret
     refine ⟨by rw [HT.out]; rfl, D, ?_, fun g hg => .inl hg, (Chg.refl w _).trans (Chg.of_below (S := fun _ => False) HA.out.1) (fun _ _ h => h.elim)⟩
     unfold mtakN
     rw [HT.out, if_neg (by decide)]
     exact ⟨r, HA.out.2⟩
    ·have HT : Hid (mtakB d (k : Int) size = true) := Lib.hid (by unfold mtakB; rw [Int.toNat_natCast, HHA.out, HKE.out, decide_eq_true g1, decide_eq_true g2, decide_eq_false g3, decide_eq_true hki, decide_eq_true hk0]; rfl)
     have HMS : Hid (msizD d ((k : Int)).toNat size now = { { { d with th := d.th.set k size } with plans := canP (k : Int) d.plans } with plans := insP now (k : Int) (canP (k : Int) d.plans) }) := Lib.hid (by rw [Int.toNat_natCast]; rfl)
     generalize d.th.getD k 0 = TH at *
     obtain ⟨hm4, hc4⟩ := HA.out.2.thought k size hkl
     have HM4 := Lib.hid (And.intro hm4 (((Chg.refl w (fun k => k = mb ∨ k = tb)).trans (Chg.of_below (S := fun _ => False) HA.out.1) (fun _ _ h => h.elim)).trans hc4 (fun _ _ h => .inr h)))
     clear hm4 hc4
     go_wp2_with fail
     refine (mcancel_any D mb tb rb _ (k : Int) (by show d.plans.length ≤ _; omega) _ ⟨_, HM4.out.1⟩).mono ?_
     rintro e w5 ⟨rfl, hm5, hc5⟩
     have HF : Hid (MrpS D Y w mb tb rb { { d with th := d.th.set k size } with plans := canP (k : Int) d.plans } w5) := Lib.hid (MrpS.next (fun x hx => .inl hx) HM4.out.2 hm5 hc5)
     clear hm5 hc5 HM4
     obtain ⟨D5, r5, hm5, hD5, hc5⟩ := HF.out
     clear HF
     go_wp2_with fail
     refine (madd_any D5 mb tb rb _ now (k : Int) (by show (canP (k : Int) d.plans).length ≤ _; have := List.length_filter_le (fun x : Int × Int => x.2 != (k : Int)) d.plans; unfold canP; omega) _ ⟨_, hm5⟩).mono ?_
     rintro e w6 ⟨rfl, hm6, hc6⟩
     have HF : Hid (MrpS D Y w mb tb rb { { { d with th := d.th.set k size } with plans := canP (k : Int) d.plans } with plans := insP now (k : Int) (canP (k : Int) d.plans) } w6) := Lib.hid (MrpS.next hD5 hc5 hm6 hc6)
     clear hm6 hc6 hm5 hD5 hc5
     go_wp2
     go_ret
     obtain ⟨D7, r7, a1, a2, a3⟩ := HF.out
     refine ⟨by rw [HT.out]; rfl, D7, ?_, a2, a3⟩
     unfold mtakN
     rw [HT.out, if_pos rfl, HMS.out]
     exact ⟨r7, a1⟩
   ·have HT : Hid (mtakB d (k : Int) size = false) := Lib.hid (by unfold mtakB; rw [decide_eq_false g2]; simp)
    generalize d.th.getD k 0 = TH at *
    go_wp2
    go_ret
    refine ⟨by rw [HT.out]; rfl, D, ?_, fun g hg => .inl hg, (Chg.refl w _).trans (Chg.of_below (S := fun _ => False) HA.out.1) (fun _ _ h => h.elim)⟩
    unfold mtakN
    rw [HT.out, if_neg (by decide)]
    exact ⟨r, HA.out.2⟩
  ·have HT : Hid (mtakB d (k : Int) size = false) := Lib.hid (by unfold mtakB; rw [decide_eq_false g1]; simp)
   generalize d.th.getD k 0 = TH at *
   go_wp2
   go_ret
   refine ⟨by rw [HT.out]; rfl, D, ?_, fun g hg => .inl hg, (Chg.refl w _).trans (Chg.of_below (S := fun _ => False) HA.out.1) (fun _ _ h => h.elim)⟩
   unfold mtakN
   rw [HT.out, if_neg (by decide)]
   exact ⟨r, HA.out.2⟩
 ·have HGW := Lib.hid hgw
  have z0 := k0.cell 0 _ rfl
  have z1 := k0.cell 1 _ rfl
  have z2 := k0.cell 2 _ rfl
  have z3 := k0.cell 3 _ rfl
  have z4 : w1.cell? ⟨mb, 0, none⟩ = some (.slice PL d.p.log.length plc) := by rw [← HPL.out.1]; exact km.blk.cell 0 _ rfl
  have z5 : w1.cell? ⟨mb, 1, none⟩ = some (.slice PW d.p.wits.length pwc) := by rw [← HPL.out.2.1]; exact km.blk.cell 1 _ rfl
  have z6 := km.blk.cell 2 _ rfl
  have z7 := km.blk.cell 4 _ rfl
  have z8 : w1.cell? ⟨mb, 5, none⟩ = some (.slice RA d.cur.ck.root.length rc) := by rw [← HPL.out.2.2]; exact km.blk.cell 5 _ rfl
  have hl1 := k0.lt
  have hl2 := km.blk.lt
  have hbd := (Below.refl w1.heap.size w1).drew
  have H2 := Lib.hid (And.intro (kb.trans (hbd.mono kb.size)) (km.below hbd))
  clear k0 kb km H0 f9 f10 hml hbd
  generalize g.wit = X at *
  refine wp_region_held_drew (S := fun w' => w'.cell? ⟨w.heap.size, 0, none⟩ = some (.int .i64 X) ∧ w'.cell? ⟨w.heap.size, 1, none⟩ = some (.int .i64 g.sig.index) ∧ w'.cell? ⟨w.heap.size, 2, none⟩ = some (.slice P g.sig.parts.length cp) ∧ w'.cell? ⟨w.heap.size, 3, none⟩ = some (.slice Q g.sig.path.length cq) ∧ w'.cell? ⟨mb, 0, none⟩ = some (.slice PL d.p.log.length plc) ∧ w'.cell? ⟨mb, 1, none⟩ = some (.slice PW d.p.wits.length pwc) ∧ w'.cell? ⟨mb, 2, none⟩ = some (.int .i64 d.p.quorum) ∧ w'.cell? ⟨mb, 4, none⟩ = some (.int .i64 d.cur.ck.num) ∧ w'.cell? ⟨mb, 5, none⟩ = some (.slice RA d.cur.ck.root.length rc)) (by kernel_rfl) ?_ (fun hHeld => ?_)
  ·exact ⟨z0, z1, z2, z3, z4, z5, z6, z7, z8⟩
  refine ty 0 34 rfl rfl ?_; simp only [sa, sb, sc]
  refine ty 1 35 rfl rfl ?_; simp only [sa, sb, sc]
  refine ty 2 36 rfl rfl ?_; simp only [sa, sb, sc]
  refine take_yes 3 37 rfl rfl (by kernel_rfl) (by kernel_rfl) (by kernel_rfl) (fun _ _ _ h => h) (by assumption) (by rfl) (v := .bool false) ?_ ?_
  ·(intro w hSw; (try dsimp only at hSw); go_simp <;> simp [hgw])
  simp only [sa, sb, sc]
  refine ty 4 38 rfl rfl ?_; simp only [sa, sb, sc]
  refine tn 5 39 rfl rfl ?_; simp only [sa, sb, sc]
  refine tn 6 40 rfl rfl ?_; simp only [sa, sb, sc]
  refine tn 7 41 rfl rfl ?_; simp only [sa, sb, sc]
  refine tn 8 42 rfl rfl ?_; simp only [sa, sb, sc]
  refine tn 9 43 rfl rfl ?_; simp only [sa, sb, sc]
  refine tn 10 44 rfl rfl ?_; simp only [sa, sb, sc]
  refine tn 11 45 rfl rfl ?_; simp only [sa, sb, sc]
  refine tn 12 46 rfl rfl ?_; simp only [sa, sb, sc]
  refine tn 13 47 rfl rfl ?_; simp only [sa, sb, sc]
  refine tn 14 48 rfl rfl ?_; simp only [sa, sb, sc]
  refine tn 15 49 rfl rfl ?_; simp only [sa, sb, sc]
  refine ty 16 50 rfl rfl ?_; simp only [sa, sb, sc]
  refine wpAnyH_done (by kernel_rfl) ?_ _
  clear hHeld z0 z1 z2 z3 z4 z5 z6 z7 z8
  generalize w1.drew = W at *
  have hA : Below w.heap.size w W ∧ MdOk D W mb tb rb d r := H2.out
  have HA := Lib.hid hA
  have c4 := hA.2.blk.cell 4 _ rfl
  have c10 : W.cell? ⟨mb, 10, none⟩ = some (.slice (some ⟨tb, 0, none⟩) d.th.length d.th.length) := hA.2.blk.cell 10 _ rfl
  have ct := hA.2.tbk.cell k _ (intsV_at _ k hkl)
  have ft := hA.2.tbk.free k
  have hml := hA.2.blk.lt
  have htl := hA.2.tbk.lt
  clear hA
  by_cases g1 : 0 ≤ size
  ·by_cases g2 : size ≤ d.cur.ck.num
   ·by_cases g3 : size = d.th.getD k 0
    ·have HT : Hid (mtakB d (k : Int) size = false) := Lib.hid (by unfold mtakB; rw [Int.toNat_natCast, decide_eq_true g3]; simp)
     generalize d.th.getD k 0 = TH at *
     go_wp2
     go_ret
     refine ⟨by rw [HT.out]; rfl, D, ?_, fun g hg => .inl hg, (Chg.refl w _).trans (Chg.of_below (S := fun _ => False) HA.out.1) (fun _ _ h => h.elim)⟩
     unfold mtakN
     rw [HT.out, if_neg (by decide)]
     exact ⟨r, HA.out.2⟩
    ·have HT : Hid (mtakB d (k : Int) size = true) := Lib.hid (by unfold mtakB; rw [Int.toNat_natCast, HHA.out, HKE.out, decide_eq_true g1, decide_eq_true g2, decide_eq_false g3, decide_eq_true hki, decide_eq_true hk0]; rfl)
     have HMS : Hid (msizD d ((k : Int)).toNat size now = { { { d with th := d.th.set k size } with plans := canP (k : Int) d.plans } with plans := insP now (k : Int) (canP (k : Int) d.plans) }) := Lib.hid (by rw [Int.toNat_natCast]; rfl)
     generalize d.th.getD k 0 = TH at *
     obtain ⟨hm4, hc4⟩ := HA.out.2.thought k size hkl
     have HM4 := Lib.hid (And.intro hm4 (((Chg.refl w (fun k => k = mb ∨ k = tb)).trans (Chg.of_below (S := fun _ => False) HA.out.1) (fun _ _ h => h.elim)).trans hc4 (fun _ _ h => .inr h)))
     clear hm4 hc4
     go_wp2_with fail
     refine (mcancel_any D mb tb rb _ (k : Int) (by show d.plans.length ≤ _; omega) _ ⟨_, HM4.out.1⟩).mono ?_
     rintro e w5 ⟨rfl, hm5, hc5⟩
     have HF : Hid (MrpS D Y w mb tb rb { { d with th := d.th.set k size } with plans := canP (k : Int) d.plans } w5) := Lib.hid (MrpS.next (fun x hx => .inl hx) HM4.out.2 hm5 hc5)
     clear hm5 hc5 HM4
     obtain ⟨D5, r5, hm5, hD5, hc5⟩ := HF.out
     clear HF
     go_wp2_with fail
     refine (madd_any D5 mb tb rb _ now (k : Int) (by show (canP (k : Int) d.plans).length ≤ _; have := List.length_filter_le (fun x : Int × Int => x.2 != (k : Int)) d.plans; unfold canP; omega) _ ⟨_, hm5⟩).mono ?_
     rintro e w6 ⟨rfl, hm6, hc6⟩
     have HF : Hid (MrpS D Y w mb tb rb { { { d with th := d.th.set k size } with plans := canP (k : Int) d.plans } with plans := insP now (k : Int) (canP (k : Int) d.plans) } w6) := Lib.hid (MrpS.next hD5 hc5 hm6 hc6)
     clear hm6 hc6 hm5 hD5 hc5
     go_wp2
     go_ret
     obtain ⟨D7, r7, a1, a2, a3⟩ := HF.out
     refine ⟨by rw [HT.out]; rfl, D7, ?_, a2, a3⟩
     unfold mtakN
     rw [HT.out, if_pos rfl, HMS.out]
     exact ⟨r7, a1⟩
   ·have HT : Hid (mtakB d (k : Int) size = false) := Lib.hid (by unfold mtakB; rw [decide_eq_false g2]; simp)
    generalize d.th.getD k 0 = TH at *
    go_wp2
    go_ret
    refine ⟨by rw [HT.out]; rfl, D, ?_, fun g hg => .inl hg, (Chg.refl w _).trans (Chg.of_below (S := fun _ => False) HA.out.1) (fun _ _ h => h.elim)⟩
    unfold mtakN
    rw [HT.out, if_neg (by decide)]
    exact ⟨r, HA.out.2⟩
  ·have HT : Hid (mtakB d (k : Int) size = false) := Lib.hid (by unfold mtakB; rw [decide_eq_false g1]; simp)
   generalize d.th.getD k 0 = TH at *
   go_wp2
   go_ret
   refine ⟨by rw [HT.out]; rfl, D, ?_, fun g hg => .inl hg, (Chg.refl w _).trans (Chg.of_below (S := fun _ => False) HA.out.1) (fun _ _ h => h.elim)⟩
   unfold mtakN
   rw [HT.out, if_neg (by decide)]
   exact ⟨r, HA.out.2⟩

set_option maxRecDepth 100000 in
set_option maxHeartbeats 8000000 in
theorem mreply_nv (D Y : Nat → Prop) (mb tb rb : Nat) (d : MdD) (v : Value) (g : CgD) (wit size now : Int) (hp : SmallPol d.p) (hr : d.cur.ck.root.length ≤ 100000000) (hs : SmallSig g.sig) (hkk : d.kept.length ≤ 1000) (hpl : d.plans.length ≤ 100000) (w : World) (hok : MdAt D w mb tb rb d) (hv : CgF Y w v g) (hno : mearB d wit g = false) :
  Calls Tryz.prog 39 #[.pointer (some ⟨mb, 0, none⟩), .int .i64 wit, v, .int .i64 size, .int .i64 now] w fun e w' => e = .returned (.bool (mtakB d wit size)) ∧ ∃ D', MdAt D' w' mb tb rb (mtakN d wit size now) ∧ (∀ g, D' g → D g ∨ Y g ∨ Fresh w w' g) ∧ Chg w w' (fun k => k = mb ∨ k = tb) := by
 by_cases e1 : d.has = true
 ·by_cases e2 : 0 ≤ wit
  ·by_cases e3 : wit < (d.th.length : Int)
   ·by_cases e4 : hasW d.kept wit = true
    ·have HT : Hid (mtakB d wit size = false) := Lib.hid (by unfold mtakB; rw [e4]; simp)
     obtain ⟨r, hok⟩ := hok
     have HVF := Lib.hid (fun (wz : World) (vp vc vg : Value) (z1 : PolV wz vp d.p) (z2 : CkV wz vc d.cur.ck) (z3 : CgV wz vg g) => rcosigned_any vp vc vg d.p d.cur.ck g hp hr hs wz z1 z2 z3)
     obtain ⟨p1, q1, rfl, h1, h2⟩ := hv
     obtain ⟨P, cp, rfl⟩ := h1.rws.form
     obtain ⟨Q, cq, rfl⟩ := h2.rws.form
     obtain ⟨PL, plc, hpl1⟩ := hok.tx.pl.1.form
     obtain ⟨PW, pwc, hpw⟩ := hok.tx.pw.rws.form
     obtain ⟨RA, rc, hcr⟩ := hok.tx.cr.1.form
     have HPL := Lib.hid (And.intro hpl1 (And.intro hpw hcr))
     have HX := Lib.hid (And.intro h1 h2)
     have hb0 := (Below.refl w.heap.size w).alloc (Nat.le_refl _) (.cells #[.int .i64 g.wit, .int .i64 g.sig.index, .slice P g.sig.parts.length cp, .slice Q g.sig.path.length cq] 47)
     have hk0 := Blk.new w 47 [.int .i64 g.wit, .int .i64 g.sig.index, .slice P g.sig.parts.length cp, .slice Q g.sig.path.length cq]
     have hm1 := hok.below hb0
     have H0 := Lib.hid (And.intro hk0 (And.intro hb0 hm1))
     have f9 := hm1.blk.cell 9 _ rfl
     have f10 : (w.alloc (.cells #[.int .i64 g.wit, .int .i64 g.sig.index, .slice P g.sig.parts.length cp, .slice Q g.sig.path.length cq] 47)).cell? ⟨mb, 10, none⟩ = some (.slice (some ⟨tb, 0, none⟩) d.th.length d.th.length) := hm1.blk.cell 10 _ rfl
     have hml := hm1.blk.lt
     clear hb0 hk0 hm1 h1 h2 hpl1 hpw hcr
     have HHS := Lib.hid (fun (wz : World) (z : MdAt D wz mb tb rb d) => mhas_any D mb tb rb d wit (by omega) wz z)
     rw [e4] at HHS
     rw [e1] at f9
     clear hok hp hr hs hno e4 e1
     go_enter Tryz.func39, Tryz.ntmps39
     go_wp2_with fail
     refine (HHS.out _ ⟨r, H0.out.2.2⟩).mono ?_
     rintro e w' ⟨rfl, rfl⟩
     go_wp2
     go_ret
     refine ⟨by rw [HT.out]; rfl, D, ?_, fun g hg => .inl hg, (Chg.refl w _).trans (Chg.of_below (S := fun _ => False) H0.out.2.1) (fun _ _ h => h.elim)⟩
     unfold mtakN
     rw [HT.out, if_neg (by decide)]
     exact ⟨r, H0.out.2.2⟩
    ·obtain ⟨k, rfl⟩ := Int.eq_ofNat_of_zero_le e2
     refine mreply_nk D Y mb tb rb d v g k size now hp hr hs hkk hpl w hok hv e1 (by omega) (by simpa using e4) (fun hg => ?_)
     have h := hno
     unfold mearB at h
     rw [e1, decide_eq_true e2, decide_eq_true e3, decide_eq_true hg] at h
     have e5 : hasW d.kept (k : Int) = false := by simpa using e4
     rw [show hasW d.kept ((k : Nat) : Int) = false from e5] at h
     simpa using h
   ·have HT : Hid (mtakB d wit size = false) := Lib.hid (by unfold mtakB; rw [decide_eq_false e3]; simp)
    obtain ⟨r, hok⟩ := hok
    have HVF := Lib.hid (fun (wz : World) (vp vc vg : Value) (z1 : PolV wz vp d.p) (z2 : CkV wz vc d.cur.ck) (z3 : CgV wz vg g) => rcosigned_any vp vc vg d.p d.cur.ck g hp hr hs wz z1 z2 z3)
    obtain ⟨p1, q1, rfl, h1, h2⟩ := hv
    obtain ⟨P, cp, rfl⟩ := h1.rws.form
    obtain ⟨Q, cq, rfl⟩ := h2.rws.form
    obtain ⟨PL, plc, hpl1⟩ := hok.tx.pl.1.form
    obtain ⟨PW, pwc, hpw⟩ := hok.tx.pw.rws.form
    obtain ⟨RA, rc, hcr⟩ := hok.tx.cr.1.form
    have HPL := Lib.hid (And.intro hpl1 (And.intro hpw hcr))
    have HX := Lib.hid (And.intro h1 h2)
    have hb0 := (Below.refl w.heap.size w).alloc (Nat.le_refl _) (.cells #[.int .i64 g.wit, .int .i64 g.sig.index, .slice P g.sig.parts.length cp, .slice Q g.sig.path.length cq] 47)
    have hk0 := Blk.new w 47 [.int .i64 g.wit, .int .i64 g.sig.index, .slice P g.sig.parts.length cp, .slice Q g.sig.path.length cq]
    have hm1 := hok.below hb0
    have H0 := Lib.hid (And.intro hk0 (And.intro hb0 hm1))
    have f9 := hm1.blk.cell 9 _ rfl
    have f10 : (w.alloc (.cells #[.int .i64 g.wit, .int .i64 g.sig.index, .slice P g.sig.parts.length cp, .slice Q g.sig.path.length cq] 47)).cell? ⟨mb, 10, none⟩ = some (.slice (some ⟨tb, 0, none⟩) d.th.length d.th.length) := hm1.blk.cell 10 _ rfl
    have hml := hm1.blk.lt
    clear hb0 hk0 hm1 h1 h2 hpl1 hpw hcr
    rw [e1] at f9
    clear hok hp hr hs hno e1
    go_enter Tryz.func39, Tryz.ntmps39
    go_wp2
    go_ret
    refine ⟨by rw [HT.out]; rfl, D, ?_, fun g hg => .inl hg, (Chg.refl w _).trans (Chg.of_below (S := fun _ => False) H0.out.2.1) (fun _ _ h => h.elim)⟩
    unfold mtakN
    rw [HT.out, if_neg (by decide)]
    exact ⟨r, H0.out.2.2⟩
  ·have HT : Hid (mtakB d wit size = false) := Lib.hid (by unfold mtakB; rw [decide_eq_false e2]; simp)
   obtain ⟨r, hok⟩ := hok
   have HVF := Lib.hid (fun (wz : World) (vp vc vg : Value) (z1 : PolV wz vp d.p) (z2 : CkV wz vc d.cur.ck) (z3 : CgV wz vg g) => rcosigned_any vp vc vg d.p d.cur.ck g hp hr hs wz z1 z2 z3)
   obtain ⟨p1, q1, rfl, h1, h2⟩ := hv
   obtain ⟨P, cp, rfl⟩ := h1.rws.form
   obtain ⟨Q, cq, rfl⟩ := h2.rws.form
   obtain ⟨PL, plc, hpl1⟩ := hok.tx.pl.1.form
   obtain ⟨PW, pwc, hpw⟩ := hok.tx.pw.rws.form
   obtain ⟨RA, rc, hcr⟩ := hok.tx.cr.1.form
   have HPL := Lib.hid (And.intro hpl1 (And.intro hpw hcr))
   have HX := Lib.hid (And.intro h1 h2)
   have hb0 := (Below.refl w.heap.size w).alloc (Nat.le_refl _) (.cells #[.int .i64 g.wit, .int .i64 g.sig.index, .slice P g.sig.parts.length cp, .slice Q g.sig.path.length cq] 47)
   have hk0 := Blk.new w 47 [.int .i64 g.wit, .int .i64 g.sig.index, .slice P g.sig.parts.length cp, .slice Q g.sig.path.length cq]
   have hm1 := hok.below hb0
   have H0 := Lib.hid (And.intro hk0 (And.intro hb0 hm1))
   have f9 := hm1.blk.cell 9 _ rfl
   have f10 : (w.alloc (.cells #[.int .i64 g.wit, .int .i64 g.sig.index, .slice P g.sig.parts.length cp, .slice Q g.sig.path.length cq] 47)).cell? ⟨mb, 10, none⟩ = some (.slice (some ⟨tb, 0, none⟩) d.th.length d.th.length) := hm1.blk.cell 10 _ rfl
   have hml := hm1.blk.lt
   clear hb0 hk0 hm1 h1 h2 hpl1 hpw hcr
   rw [e1] at f9
   clear hok hp hr hs hno e1
   go_enter Tryz.func39, Tryz.ntmps39
   go_wp2
   go_ret
   refine ⟨by rw [HT.out]; rfl, D, ?_, fun g hg => .inl hg, (Chg.refl w _).trans (Chg.of_below (S := fun _ => False) H0.out.2.1) (fun _ _ h => h.elim)⟩
   unfold mtakN
   rw [HT.out, if_neg (by decide)]
   exact ⟨r, H0.out.2.2⟩
 ·have HT : Hid (mtakB d wit size = false) := Lib.hid (by unfold mtakB; rw [show d.has = false by simpa using e1]; rfl)
  obtain ⟨r, hok⟩ := hok
  have HVF := Lib.hid (fun (wz : World) (vp vc vg : Value) (z1 : PolV wz vp d.p) (z2 : CkV wz vc d.cur.ck) (z3 : CgV wz vg g) => rcosigned_any vp vc vg d.p d.cur.ck g hp hr hs wz z1 z2 z3)
  obtain ⟨p1, q1, rfl, h1, h2⟩ := hv
  obtain ⟨P, cp, rfl⟩ := h1.rws.form
  obtain ⟨Q, cq, rfl⟩ := h2.rws.form
  obtain ⟨PL, plc, hpl1⟩ := hok.tx.pl.1.form
  obtain ⟨PW, pwc, hpw⟩ := hok.tx.pw.rws.form
  obtain ⟨RA, rc, hcr⟩ := hok.tx.cr.1.form
  have HPL := Lib.hid (And.intro hpl1 (And.intro hpw hcr))
  have HX := Lib.hid (And.intro h1 h2)
  have hb0 := (Below.refl w.heap.size w).alloc (Nat.le_refl _) (.cells #[.int .i64 g.wit, .int .i64 g.sig.index, .slice P g.sig.parts.length cp, .slice Q g.sig.path.length cq] 47)
  have hk0 := Blk.new w 47 [.int .i64 g.wit, .int .i64 g.sig.index, .slice P g.sig.parts.length cp, .slice Q g.sig.path.length cq]
  have hm1 := hok.below hb0
  have H0 := Lib.hid (And.intro hk0 (And.intro hb0 hm1))
  have f9 := hm1.blk.cell 9 _ rfl
  have f10 : (w.alloc (.cells #[.int .i64 g.wit, .int .i64 g.sig.index, .slice P g.sig.parts.length cp, .slice Q g.sig.path.length cq] 47)).cell? ⟨mb, 10, none⟩ = some (.slice (some ⟨tb, 0, none⟩) d.th.length d.th.length) := hm1.blk.cell 10 _ rfl
  have hml := hm1.blk.lt
  clear hb0 hk0 hm1 h1 h2 hpl1 hpw hcr
  rw [show d.has = false by simpa using e1] at f9
  clear hok hp hr hs hno e1
  go_enter Tryz.func39, Tryz.ntmps39
  go_wp2
  go_ret
  refine ⟨by rw [HT.out]; rfl, D, ?_, fun g hg => .inl hg, (Chg.refl w _).trans (Chg.of_below (S := fun _ => False) H0.out.2.1) (fun _ _ h => h.elim)⟩
  unfold mtakN
  rw [HT.out, if_neg (by decide)]
  exact ⟨r, H0.out.2.2⟩

theorem mreply_any (D Y : Nat → Prop) (mb tb rb : Nat) (d : MdD) (v : Value) (g : CgD) (wit size now : Int) (hp : SmallPol d.p) (hr : d.cur.ck.root.length ≤ 100000000) (hs : SmallSig g.sig) (hkk : d.kept.length ≤ 1000) (hpl : d.plans.length ≤ 100000) (w : World) (hok : MdAt D w mb tb rb d) (hv : CgF Y w v g) (hY : ∀ g, Y g → ¬ MdM mb tb rb g ∧ g < w.heap.size) :
  Calls Tryz.prog 39 #[.pointer (some ⟨mb, 0, none⟩), .int .i64 wit, v, .int .i64 size, .int .i64 now] w fun e w' => e = .returned (.bool (mrepB d wit g size)) ∧ ∃ D', MdAt D' w' mb tb rb (mrepN d wit g size now) ∧ (∀ g, D' g → D g ∨ Y g ∨ Fresh w w' g) ∧ Chg w w' (fun k => k = mb ∨ k = tb) := by
 cases h : mearB d wit g
 ·refine (mreply_nv D Y mb tb rb d v g wit size now hp hr hs hkk hpl w hok hv h).mono ?_
  rintro e w' ⟨rfl, D', h1, h2⟩
  refine ⟨by unfold mrepB; rw [h]; rfl, D', ?_, h2⟩
  have e : mrepN d wit g size now = mtakN d wit size now := by unfold mrepN mtakN; rw [h, if_neg (by decide)]
  rw [e]
  exact h1
 ·have h0 := h
  unfold mearB at h0
  simp only [Bool.and_eq_true, decide_eq_true_eq, Bool.not_eq_true'] at h0
  obtain ⟨a1, a2, a3, a4, a5, a6⟩ := h0
  obtain ⟨k, rfl⟩ := Int.eq_ofNat_of_zero_le a2
  refine (mreply_kv D Y mb tb rb d v g k size now hp hr hs hkk hpl w hok hv hY a5 a1 (by omega) a4 a6).mono ?_
  rintro e w' ⟨rfl, D', h1, h2⟩
  refine ⟨by unfold mrepB; rw [h]; rfl, D', ?_, h2⟩
  unfold mrepN
  rw [h, if_pos rfl, Int.toNat_natCast]
  exact h1
end Go.Proofs.YtlkgeifmppadmaaGreat

/- The program's tagged sums. The program's digests. A row of texts of one's own, its elements anywhere but in the row's own block. The program's root of a signature made once. The program's signatures: what is right. The program's signatures: Right. The program's signatures: Verify. Heaps of entries, as lists: plain mathematics, no program. The agenda's inner functions: before, and the heap's five methods over a pile. The heap's functions over a pile: up, down, Push, Pop, Init. Conditions: as each theorem states them. -/
import Derived.Test.YtlkgeifmppadmaaJd
import Derived.Test.YtlkgeifmppadmaaJb
import Derived.Test.YtlkgeifmppadmaaJc
import Derived.Lib.Hide
import Derived.Test.YtlkgeifmppadmaaJa
import Derived.Test.YtlkgeifmppadmaaProg
import Derived.KernelRfl
import Derived.Deep.QuietTactic
import Derived.BigQuiet
import Derived.BigRegion
import Derived.RegionTactic
import Derived.StillTailTactics
import Derived.Laws.StructEq
import Derived.Deep.RegionLaw
import Derived.Deep.AppendLies
import Derived.WalkSpells
import Derived.WalkLawsBesides
namespace Go.Proofs.Ytlkgeifmppadmaa
open Go.RowKit
set_option linter.unusedVariables false
set_option linter.unusedSimpArgs false


set_option maxRecDepth 100000 in
set_option maxHeartbeats 1000000 in
theorem ptag_any (t : Int) (b : UInt8) (hb : ((b.toNat : Nat) : Int) = t) (v : Value) (ls : List (List UInt8)) (hsm : ls.flatten.length ≤ 100000000000) (hls : ls.length ≤ 100000000000) (w : World) (hx : Rws w v ls) :
    Calls Try.prog 74 #[.int .u8 t, v] w fun e w' => ∃ v', e = .returned v' ∧ OwnB w' w.heap.size v' (tagH b ls) ∧ Below w.heap.size w w' := by
  obtain ⟨i0, hi0, hz0, hz1, hz2⟩ := info_parts info_u8
  obtain ⟨A, c, rfl⟩ := hx.form
  have HX := Lib.hid (And.intro hx (bys_u8 b t hb))
  clear hx hb
  go_enter Try.func74, Try.ntmps74
  go_wp2
  go_loopw [5, 12] (fun v5 v6 wr => ∃ k : Nat, v6 = .int .i64 k ∧ k ≤ ls.length ∧ Hid (Below w.heap.size w wr ∧ OwnB wr w.heap.size v5 (b :: (ls.take k).flatten))) (fun _ v _ => ls.length - (intOf v).toNat)
  case atStart => exact ⟨0, rfl, Nat.zero_le _, Lib.hid ⟨(Below.refl _ _).alloc (Nat.le_refl _) _, by
    have := own_new (w := w) (base := w.heap.size) (size := 1) (n := 1) 5 [.int .u8 t] rfl (by decide) (Nat.le_refl _)
    show World.ownsRow _ _ _ _ _ 1 (bys [b])
    rw [HX.out.2]
    exact this⟩⟩
  case round =>
    obtain ⟨k, rfl, hk, HI⟩ := hrel
    have hlen : (b :: (ls.take k).flatten).length ≤ 100000000001 := by have := flat_le ls k; simp only [List.length_cons]; omega
    by_cases hlt : k < ls.length
    · obtain ⟨g, o, u, rfl, hg, -, -, hcu, hbu⟩ := HX.out.1.at' k hlt
      have p0 := (HI.out.1.cell (p := ⟨g, o + k, none⟩) hg).trans hcu
      have HU := Lib.hid (hbu.below HI.out.1)
      have HT := Lib.hid (flat_take ls k hlt)
      have hlk : (b :: (ls.take k).flatten).length + ls[k].length ≤ 100000000001 := by have := flat_le ls (k + 1); rw [HT.out, List.length_append] at this; simp only [List.length_cons]; omega
      generalize ls[k] = x at *
      generalize (ls.take k).flatten = D at *
      have hsz := HI.out.1.size
      clear hcu hbu
      go_wp2_with (at_builtin; (refine wpList_append_any rfl (.tmp 16) (.tmp 17) 30 rfl w.heap.size 5 i0 (.int .u8 0) 1 1 Try.underlying30 hi0 hz0 hz1 hz2 rfl (by decide) _ _ _ rfl HI.out.2.any _ x.length (bys x) rfl HU.out.news (by unfold maxLen; omega) (by omega) hsz ?_); intro v2 W2 hown2 hgrow2; have HB2 : Hid (Below w.heap.size w W2) := Lib.hid (HI.out.1.grown hgrow2 hsz (fun k e => OwnB.ge HI.out.2 e)); have HO2 : Hid (OwnB W2 w.heap.size v2 ((b :: D) ++ x)) := Lib.hid (OwnB.append rfl hown2); clear hown2 hgrow2)
      go_roundw
      case rel => exact ⟨k + 1, by go_num, by omega, Lib.hid ⟨HB2.out, by rw [HT.out]; exact HO2.out⟩⟩
      case measure => simp [intOf]; omega
    · obtain rfl : k = ls.length := by omega
      have HO := HI.out.2
      rw [List.take_length] at HO
      have HO2 := Lib.hid HO
      have hlen2 : (b :: ls.flatten).length ≤ 1000000000000 := by simp only [List.length_cons]; omega
      clear HO
      have HB := Lib.hid HI.out.1
      clear HI
      go_wp2_with fail
      refine (psum_any _ (b :: ls.flatten) hlen2 wr HO2.out.bys).mono ?_
      rintro e w2 ⟨v', rfl, h1, h2⟩
      have HF := Lib.hid (And.intro h1 h2)
      clear h1 h2
      go_wp2
      go_ret
      exact ⟨_, rfl, own_mono' HF.out.1 HB.out.size, HB.out.trans (HF.out.2.mono HB.out.size)⟩
end Go.Proofs.Ytlkgeifmppadmaa
namespace Go.Proofs.Ytlkgeifmppadmaa
open Go.RowKit
set_option linter.unusedVariables false
set_option linter.unusedSimpArgs false

set_option maxRecDepth 100000 in
set_option maxHeartbeats 1000000 in
theorem pdigest_any (v : Value) (msg : List UInt8) (hsm : msg.length ≤ 1000000000) (w : World) (hx : Bys w v msg) :
    Calls Try.prog 87 #[v] w fun e w' => e = .returned (.int .u32 (digS msg)) ∧ Below w.heap.size w w' := by
  obtain ⟨A, c, rfl⟩ := hx.form
  have HX := Lib.hid hx
  clear hx
  have hL := tagH_length 13 [msg]
  have HD : Hid (digS msg = wordAt (tagH 13 [msg]) 0 4) := Lib.hid rfl
  generalize digS msg = DS at *
  generalize hTE : tagH 13 [msg] = T at *
  have HTE := Lib.hid hTE
  clear hTE
  go_enter Try.func87, Try.ntmps87
  have hal := (Below.refl w.heap.size w).alloc (Nat.le_refl _) (.cells #[.slice A msg.length c] 30)
  go_wp2_with fail
  have HT := Lib.hid (ptag_any 13 13 rfl _ [msg] (by simp; omega) (by simp) _ (new1 30 (b := w.heap.size) rfl HX.out))
  rw [HTE.out] at HT
  refine HT.out.mono ?_
  rintro e w1 ⟨v1, rfl, h1, h2⟩
  obtain ⟨A1, c1, rfl⟩ := h1.form
  obtain ⟨g, o, rfl, -, hg, hc1, -, hcells⟩ := h1.bys.place (by omega)
  have H1 := Lib.hid (hal.trans (h2.mono (by simp)))
  have HC : Hid (∀ k, k < 4 → ∃ x : Nat, x < 256 ∧ w1.cell? ⟨g, o + k, none⟩ = some (.int .u8 x) ∧ wordAt T 0 (k + 1) = bits .or .u32 (wordAt T 0 k * 256 % 4294967296) x) := Lib.hid (fun k hk => by
    have hkT : k < T.length := by omega
    refine ⟨T[k].toNat, T[k].toNat_lt, hcells k hkT, ?_⟩
    have := wordAt_succ T 0 k (by omega)
    simpa using this)
  have HLT := Lib.hid hL
  have hc4 : (4 : Int) ≤ (c1 : Int) := by omega
  have hw0 : Hid (wordAt T 0 0 = 0) := Lib.hid (by simp [wordAt])
  clear HT h1 h2 hal hcells hL
  generalize T.length = TL at *
  go_wp2
  go_loopw [3, 11] (fun v3 v11 wr => ∃ k : Nat, v3 = .int .u32 (wordAt T 0 k) ∧ v11 = .int .i64 k ∧ k ≤ 4 ∧ Hid (Below w1.heap.size w1 wr)) (fun _ v _ => 4 - (intOf v).toNat)
  case atStart => exact ⟨0, by rw [hw0.out], rfl, by decide, Lib.hid (Below.refl _ _)⟩
  case round =>
    obtain ⟨k, rfl, rfl, hk, HI⟩ := hrel
    by_cases hlt : k < 4
    · obtain ⟨x, hx, hc, hw⟩ := HC.out k hlt
      have p0 := (HI.out.cell (p := ⟨g, o + k, none⟩) hg).trans hc
      have HWS := Lib.hid hw
      have ex : ((x : Nat) : Int) % 4294967296 = (x : Nat) := by omega
      clear hc hw
      generalize wordAt T 0 k = X at *
      go_wp2
      go_roundw
      case rel => exact ⟨k + 1, by rw [HWS.out], by go_num, by omega, HI⟩
      case measure => simp [intOf]; omega
    · obtain rfl : k = 4 := by omega
      go_wp2
      go_ret
      exact ⟨by rw [HD.out]; rfl, H1.out.trans (HI.out.mono H1.out.size)⟩

theorem told_any (d : Int) (j : Nat) (s : Int) (hj : j < 32) (w : World) :
    Calls Try.prog 88 #[.int .u32 d, .int .i64 j, .int .i64 s] w fun e w' => e = .returned (.bool (bitS d j == s)) ∧ w = w' := by
  have es : IntKind.i64.wrap (31 - (j : Int)) = 31 - (j : Int) := IntWalk.i64_in _ (by omega)
  have et : (31 - (j : Int)).toNat = 31 - j := by omega
  have HB : Hid (bitS d j = wrap64 (bits .and .u32 (d / 2 ^ (31 - j)) 1)) := Lib.hid rfl
  go_enter Try.func88, Try.ntmps88
  go_wp2
  go_ret
  exact ⟨by rw [HB.out]; rfl, rfl⟩
end Go.Proofs.Ytlkgeifmppadmaa
namespace Go.Proofs.Ytlkgeifmppadmaa
open Go.RowKit
set_option linter.unusedVariables false
set_option linter.unusedSimpArgs false

def OwnV (w : World) (base : Nat) (v : Value) (ls : List (List UInt8)) : Prop :=
  ∃ us, w.ownsRow base 30 1 v ls.length us ∧ ∀ i (h : i < ls.length), ∃ u, us[i]? = some u ∧ Bys w u ls[i] ∧ (0 < ls[i].length → ∀ g, u.ownBlock = some g → v.ownBlock ≠ some g)
theorem OwnV.nil (w : World) (base : Nat) : OwnV w base (.slice none 0 0) [] := ⟨[], World.ownsRow_nil _ _ _ _, fun i h => absurd h (Nat.not_lt_zero _)⟩
theorem OwnV.rws {w : World} {base : Nat} {v : Value} {ls : List (List UInt8)} (h : OwnV w base v ls) : Rws w v ls := by
  obtain ⟨us, h1, h2⟩ := h
  exact ⟨us, Sho.own h1, fun i hi => by obtain ⟨u, e, hu, _⟩ := h2 i hi; exact ⟨u, e, hu⟩⟩
theorem OwnV.keep {w w1 : World} {base : Nat} {v : Value} {ls : List (List UInt8)} (h : OwnV w base v ls) (hb : Below w.heap.size w w1) : OwnV w1 base v ls := by
  obtain ⟨us, h1, h2⟩ := h
  exact ⟨us, ownsRow_chg h1 (Chg.of_below (S := fun _ => False) hb) (fun _ _ h => h), fun i hi => by obtain ⟨u, e, hu, hn⟩ := h2 i hi; exact ⟨u, e, hu.below hb, hn⟩⟩
theorem OwnV.push {w W : World} {base : Nat} {v v' u : Value} {ls : List (List UInt8)} {l : List UInt8} {us : List Value} {t : TypeId} {cs : Array Value}
    (h0 : w.ownsRow base 30 1 v ls.length us) (h1 : ∀ i (h : i < ls.length), ∃ u, us[i]? = some u ∧ Bys w u ls[i] ∧ (0 < ls[i].length → ∀ g, u.ownBlock = some g → v.ownBlock ≠ some g))
    (hu : Bys w u l) (hun : 0 < l.length → ∀ g, u.ownBlock = some g → v.ownBlock ≠ some g)
    (ho : W.ownsRow base 30 1 v' (ls.length + 1) (us ++ [u])) (hg : (w.alloc (.cells cs t)).grownBy W v.ownBlock) (hv : v'.ownBlock = v.ownBlock ∨ ∃ q, v'.ownBlock = some q ∧ w.heap.size ≤ q) : OwnV W base v' (ls ++ [l]) := by
  have hc : Chg w W (fun k => v.ownBlock = some k) := ((Chg.refl w _).alloc _).trans (Chg.of_grown hg) (fun i _ h => h.symm)
  have keep : ∀ (x : Value) (m : List UInt8), Bys w x m → (0 < m.length → ∀ g, x.ownBlock = some g → v.ownBlock ≠ some g) → Bys W x m := fun x m hx hn =>
    Sho.chgF hx (S := fun g => v.ownBlock ≠ some g) hn hc (fun g hg e => hg e)
  have apart : ∀ (x : Value) (m : List UInt8), Bys w x m → (0 < m.length → ∀ g, x.ownBlock = some g → v.ownBlock ≠ some g) → (0 < m.length → ∀ g, x.ownBlock = some g → v'.ownBlock ≠ some g) := fun x m hx hn hp g hg => by
    rcases hv with e | ⟨q, e, hq⟩
    · rw [e]; exact hn hp g hg
    · rw [e]
      intro e2
      injection e2 with e2
      have := Sho.lt hx hp g hg
      omega
  have hl : us.length = ls.length := by have := h0.1; omega
  refine ⟨us ++ [u], by rw [List.length_append]; exact ho, fun i hi => ?_⟩
  by_cases hi' : i < ls.length
  · obtain ⟨x, e, hx, hn⟩ := h1 i hi'
    refine ⟨x, by rw [List.getElem?_append_left (by omega)]; exact e, ?_, ?_⟩
    · rw [List.getElem_append_left hi']; exact keep x _ hx hn
    · rw [List.getElem_append_left hi']; exact apart x _ hx hn
  · have : i = ls.length := by simp at hi; omega
    subst this
    refine ⟨u, by rw [List.getElem?_append_right (by omega), hl]; simp, ?_, ?_⟩
    · rw [List.getElem_append_right (Nat.le_refl _)]; simpa using keep u l hu hun
    · intro hp
      exact apart u l hu hun (by rw [List.getElem_append_right (Nat.le_refl _)] at hp; simpa using hp)
end Go.Proofs.Ytlkgeifmppadmaa
namespace Go.Proofs.Ytlkgeifmppadmaa
open Go.RowKit
set_option linter.unusedVariables false
set_option linter.unusedSimpArgs false

def pAcc (d : Int) (ls : List (List UInt8)) : Nat → List (List UInt8)
  | 0 => []
  | i + 1 => pAcc d ls i ++ [rootPart d i (ls.getD i [])]
theorem pAcc_flat (d : Int) (ls : List (List UInt8)) (i : Nat) : (pAcc d ls i).flatten = rootAcc d ls i := by
  induction i with
  | zero => rfl
  | succ i ih => simp only [pAcc, rootAcc, List.flatten_append, ih]; simp
theorem pAcc_length (d : Int) (ls : List (List UInt8)) (i : Nat) : (pAcc d ls i).length = i := by
  induction i with
  | zero => rfl
  | succ i ih => simp only [pAcc, List.length_append, ih]; rfl
theorem tag_pAcc (d : Int) (ls : List (List UInt8)) (i : Nat) : tagH 12 (pAcc d ls i) = tagH 12 [rootAcc d ls i] := by
  unfold tagH; rw [pAcc_flat]; simp
theorem rootAcc_len (d : Int) (ls : List (List UInt8)) (h32 : ∀ i (h : i < ls.length), ls[i].length = 32) : ∀ i, i ≤ ls.length → (rootAcc d ls i).length = 32 * i
  | 0, _ => rfl
  | i + 1, h => by
    have hlt : i < ls.length := h
    show (rootAcc d ls i ++ rootPart d i (ls.getD i [])).length = _
    rw [List.length_append, rootAcc_len d ls h32 i (by omega), List.getD_eq_getElem?_getD, List.getElem?_eq_getElem hlt]
    have := rootPart_length d i ls[i] (h32 i hlt)
    simp only [Option.getD_some]
    omega

set_option maxRecDepth 100000 in
set_option maxHeartbeats 4000000 in
theorem proot_any (v u : Value) (msg : List UInt8) (ls : List (List UInt8)) (h64 : ls.length = 64) (h32 : ∀ i (h : i < ls.length), ls[i].length = 32) (hsm : msg.length ≤ 1000000000) (w : World) (hx : Bys w v msg) (hy : Rws w u ls) :
    Calls Try.prog 73 #[v, u] w fun e w' => ∃ v', e = .returned (.tuple #[v', .bool true]) ∧ OwnB w' w.heap.size v' (rootS msg ls) ∧ Below w.heap.size w w' := by
  obtain ⟨i0, hi0, hz0, hz1, hz2⟩ := info_parts info_bytes
  obtain ⟨A, c, rfl⟩ := hx.form
  obtain ⟨B, d, rfl⟩ := hy.form
  have HX := Lib.hid (And.intro hx hy)
  have H64 := Lib.hid h64
  have H32 := Lib.hid h32
  have HRS : Hid (rootS msg ls = tagH 12 (pAcc (digS msg) ls 64)) := Lib.hid (by rw [tag_pAcc]; rfl)
  generalize rootS msg ls = RS at *
  have hne : (((ls.length : Nat) : Int) != 64) = false := by simp [h64]
  clear hx hy h64 h32
  go_enter Try.func73, Try.ntmps73
  go_wp2_with fail
  refine (pdigest_any _ msg hsm w HX.out.1).mono ?_
  rintro e w1 ⟨rfl, h1⟩
  have H1 := Lib.hid h1
  generalize digS msg = D at *
  clear h1 hne
  go_wp2
  go_loopw [7, 17] (fun v7 v8 wr => ∃ i : Nat, v8 = .int .i64 i ∧ i ≤ ls.length ∧ Hid (Below w.heap.size w wr ∧ OwnV wr w.heap.size v7 (pAcc D ls i))) (fun _ v _ => ls.length - (intOf v).toNat)
  case atStart => exact ⟨0, rfl, Nat.zero_le _, Lib.hid ⟨H1.out, OwnV.nil _ _⟩⟩
  case round =>
    obtain ⟨i, rfl, hi, HI⟩ := hrel
    by_cases hlt : i < ls.length
    · have hi64 : i < 64 := by have := H64.out; omega
      obtain ⟨g, o, up, rfl, hg, -, -, hcu, hbu⟩ := HX.out.2.at' i hlt
      have p0 := (HI.out.1.cell (p := ⟨g, o + i, none⟩) hg).trans hcu
      have HN : Hid (0 < ls[i].length → ∀ q, up.ownBlock = some q → q < w.heap.size) := Lib.hid (fun hp q hq => Sho.lt hbu hp q hq)
      have HBU := hbu.below HI.out.1
      obtain ⟨A9, c9, rfl⟩ := HBU.form
      have HU := Lib.hid HBU
      have HL := Lib.hid (H32.out i hlt)
      have HACC : Hid (pAcc D ls (i + 1) = pAcc D ls i ++ [rootPart D i ls[i]]) := Lib.hid (by
        show pAcc D ls i ++ [rootPart D i (ls.getD i [])] = _
        rw [List.getD_eq_getElem?_getD, List.getElem?_eq_getElem hlt]; rfl)
      have HPART : Hid (rootPart D i ls[i] = if (bitS D (i / 2) == ((i % 2 : Nat) : Int)) = true then tagH 11 [ls[i]] else ls[i]) := Lib.hid rfl
      have hnl : (((ls[i].length : Nat) : Int) != 32) = false := by simp [HL.out]
      have HTO : Hid (∀ wz : World, Calls Try.prog 88 #[.int .u32 D, .int .i64 ((i : Int) / 2), .int .i64 ((i : Int) % 2)] wz fun e w' => e = .returned (.bool (bitS D (i / 2) == ((i % 2 : Nat) : Int))) ∧ wz = w') := Lib.hid (fun wz => by
        have := told_any D (i / 2) ((i % 2 : Nat) : Int) (by omega) wz
        simpa using this)
      have HTG := Lib.hid (fun (wz : World) (hz : Bys wz (.slice A9 ls[i].length c9) ls[i]) => ptag_any 11 11 rfl _ [ls[i]] (by simp; have := HL.out; omega) (by simp) _ (new1 30 (b := wz.heap.size) rfl hz))
      have hpl : (pAcc D ls i).length ≤ 100 := by rw [pAcc_length]; omega
      clear hcu hbu HBU
      have hsz := HI.out.1.size
      obtain ⟨A7, c7, rfl⟩ := HI.out.2.rws.form
      generalize rootPart D i ls[i] = PT at *
      generalize tagH 11 [ls[i]] = TG at *
      generalize ls[i] = P at *
      generalize (bitS D (i / 2) == ((i % 2 : Nat) : Int)) = BI at *
      generalize pAcc D ls i = PA at *
      cases BI with
      | true =>
        have HPT : Hid (PT = TG) := Lib.hid (by rw [HPART.out, if_pos rfl])
        have hal1 := (Below.refl wr.heap.size wr).alloc (Nat.le_refl _) (.cells #[.slice A9 P.length c9] 30)
        go_wp2_with (go_at_call 88; refine (HTO.out wr).mono ?_; rintro e w' ⟨rfl, rfl⟩)
        refine (HTG.out wr HU.out).mono ?_
        rintro e w2 ⟨v2, rfl, h1, h2⟩
        obtain ⟨A2, c2, rfl⟩ := h1.form
        have hb2 := hal1.trans (h2.mono (by simp))
        have HB2 := Lib.hid (And.intro hb2 (And.intro (own_mono' h1 (show wr.heap.size ≤ _ by simp)) h1.bys))
        have hsz2 := hb2.size
        obtain ⟨us0, hq1, hq2⟩ := HI.out.2
        have HQ := Lib.hid hq1
        obtain ⟨us, hu1, hu2⟩ := HI.out.2.keep hb2
        have HK := Lib.hid (And.intro hu1 hu2)
        clear hu1 hu2 h1 h2 hb2 hal1 hq1 hq2
        go_wp2_with (at_builtin; (refine wpList_append_lies _ rfl (.tmp 34) (.tmp 36) 31 rfl w.heap.size 30 i0 (.slice none 0 0) 1 24 Try.underlying31 hi0 hz0 hz1 hz2 rfl (by decide) _ PA.length us rfl (World.ownsRow.alloc HK.out.1 _) ⟨w2.heap.size, 0, none⟩ 1 1 [.slice A2 TG.length c2] rfl rfl (World.news_of_block (blk_new _ _)) (by simp [Value.oneCell']) (by decide) (by unfold maxLen; omega) (by omega) (by simp; omega) (w2.heap.size + 1) (by simp) ?_); intro g3 c3 W3 hown3 hgrow3 hlie3 hlt3)
        have HV3 : Hid (OwnV W3 w.heap.size (.slice (some ⟨g3, 0, none⟩) (PA.length + 1) c3) (PA ++ [TG])) := Lib.hid (OwnV.push HK.out.1 HK.out.2 HB2.out.2.2 (fun hp q hq e => by have h1 := (World.ownsRow.lt HB2.out.2.1 q hq).1; have h2 := (World.ownsRow.lt HQ.out q e).2; omega) hown3 hgrow3 (by
          rcases hlie3 with e | e
          · exact .inl (show some g3 = _ from e.symm)
          · exact .inr ⟨g3, rfl, by omega⟩))
        have HB3 : Hid (Below w.heap.size w W3) := Lib.hid ((HI.out.1.trans (HB2.out.1.mono hsz)).trans (((Below.refl w.heap.size w2).alloc (by omega) _).grown hgrow3 (by simp; omega) (fun k e => (World.ownsRow.lt HK.out.1 k e).1)))
        go_roundw
        case rel => exact ⟨i + 1, by go_num, by omega, Lib.hid ⟨HB3.out, by rw [HACC.out, HPT.out]; exact HV3.out⟩⟩
        case measure => simp [intOf]; omega
      | false =>
        have HPT : Hid (PT = P) := Lib.hid (by rw [HPART.out]; rfl)
        obtain ⟨us, hu1, hu2⟩ := HI.out.2
        have HK := Lib.hid (And.intro hu1 hu2)
        clear hu1 hu2
        go_wp2_with (first
          | (go_at_call 88; refine (HTO.out wr).mono ?_; rintro e w' ⟨rfl, rfl⟩)
          | (at_builtin; (refine wpList_append_lies _ rfl (.tmp 34) (.tmp 36) 31 rfl w.heap.size 30 i0 (.slice none 0 0) 1 24 Try.underlying31 hi0 hz0 hz1 hz2 rfl (by decide) _ PA.length us rfl (World.ownsRow.alloc HK.out.1 _) ⟨wr.heap.size, 0, none⟩ 1 1 [.slice A9 P.length c9] rfl rfl (World.news_of_block (blk_new _ _)) (by simp [Value.oneCell']) (by decide) (by unfold maxLen; omega) (by omega) (by simp; omega) (wr.heap.size + 1) (by simp) ?_); intro g3 c3 W3 hown3 hgrow3 hlie3 hlt3))
        have HV3 : Hid (OwnV W3 w.heap.size (.slice (some ⟨g3, 0, none⟩) (PA.length + 1) c3) (PA ++ [P])) := Lib.hid (OwnV.push HK.out.1 HK.out.2 HU.out (fun hp q hq e => by have h1 := HN.out hp q hq; have h2 := (World.ownsRow.lt HK.out.1 q e).1; omega) hown3 hgrow3 (by
          rcases hlie3 with e | e
          · exact .inl (show some g3 = _ from e.symm)
          · exact .inr ⟨g3, rfl, by omega⟩))
        have HB3 : Hid (Below w.heap.size w W3) := Lib.hid (HI.out.1.trans (((Below.refl w.heap.size wr).alloc hsz _).grown hgrow3 (by simp; omega) (fun k e => (World.ownsRow.lt HK.out.1 k e).1)))
        go_roundw
        case rel => exact ⟨i + 1, by go_num, by omega, Lib.hid ⟨HB3.out, by rw [HACC.out, HPT.out]; exact HV3.out⟩⟩
        case measure => simp [intOf]; omega
    · have hi64 : Hid (i = 64) := Lib.hid (by have := H64.out; omega)
      have hie : (i : Int) = (ls.length : Int) := by omega
      have hnl : ¬ (i : Int) < (ls.length : Int) := by omega
      have HB := Lib.hid HI.out.1
      have hsz := HI.out.1.size
      have hpl : (pAcc D ls i).length ≤ 100 := by rw [pAcc_length, hi64.out]; decide
      have hfl : (pAcc D ls i).flatten.length ≤ 100000000 := by rw [pAcc_flat, rootAcc_len D ls H32.out i (by omega), hi64.out]; decide
      have HRA : Hid (tagH 12 (pAcc D ls i) = RS) := Lib.hid (by rw [HRS.out, hi64.out])
      obtain ⟨A7, c7, rfl⟩ := HI.out.2.rws.form
      have HO := Lib.hid HI.out.2
      generalize pAcc D ls i = PA at *
      have HT := Lib.hid (ptag_any 12 12 rfl _ PA (by omega) (by omega) wr HO.out.rws)
      rw [HRA.out] at HT
      clear hie
      go_wp2_with fail
      refine HT.out.mono ?_
      rintro e w2 ⟨v2, rfl, h1, h2⟩
      have H2 := Lib.hid (And.intro h1 h2)
      clear h1 h2
      go_wp2
      go_ret2
      exact ⟨_, rfl, own_mono' H2.out.1 hsz, HB.out.trans (H2.out.2.mono hsz)⟩
end Go.Proofs.Ytlkgeifmppadmaa
namespace Go.Proofs.Ytlkgeifmppadmaa
open Go.RowKit
set_option linter.unusedVariables false
set_option linter.unusedSimpArgs false

theorem hashes1_any (A : Option Addr) (n c : Nat) (w : World) :
    Calls Try.prog 93 #[.slice A n c] w fun e w' => e = .returned (.bool (((n : Nat) : Int) != 32)) ∧ w = w' := by
  go_enter Try.func93, Try.ntmps93
  go_wp2
  go_ret
  exact ⟨rfl, rfl⟩
set_option maxRecDepth 100000 in
set_option maxHeartbeats 2000000 in
theorem indexf_any (v : Value) (ls : List (List UInt8)) (hsm : ls.length ≤ 1000000000) (w : World) (hx : Rws w v ls) :
    Calls Try.prog 66 #[v, .func (.func 93) #[] #[]] w fun e w' => ∃ r : Int, e = .returned (.int .i64 r) ∧ decide (0 ≤ r) = !(ls.all len32) ∧ Below w.heap.size w w' := by
  obtain ⟨A, c, rfl⟩ := hx.form
  have HX := Lib.hid hx
  clear hx
  go_enter Try.func66, Try.ntmps66
  go_wp2
  go_loopw [8] (fun v8 wr => ∃ k : Nat, v8 = .int .i64 k ∧ k ≤ ls.length ∧ Hid (Below w.heap.size w wr ∧ ∀ j (h : j < ls.length), j < k → ls[j].length = 32)) (fun v _ => ls.length - (intOf v).toNat)
  case atStart => exact ⟨0, rfl, Nat.zero_le _, Lib.hid ⟨Below.refl _ _, fun j h hj => by omega⟩⟩
  case round =>
    obtain ⟨k, rfl, hk, HI⟩ := hrel
    by_cases hlt : k < ls.length
    · obtain ⟨g, o, u, rfl, hg, -, -, hcu, hbu⟩ := HX.out.at' k hlt
      have p0 := (HI.out.1.cell (p := ⟨g, o + k, none⟩) hg).trans hcu
      obtain ⟨A9, c9, rfl⟩ := hbu.form
      clear hcu hbu
      by_cases h32 : ls[k].length = 32
      · have hnl : (((ls[k].length : Nat) : Int) != 32) = false := by simp [h32]
        have H32 := Lib.hid h32
        have HC := Lib.hid (hashes1_any A9 ls[k].length c9 wr)
        rw [hnl] at HC
        clear h32 hnl
        go_wp2_with (go_at_call 93; refine HC.out.mono ?_; rintro e w' ⟨rfl, rfl⟩)
        go_roundw
        case rel => exact ⟨k + 1, by go_num, by omega, Lib.hid ⟨HI.out.1, fun j h hj => by
          by_cases e : j = k
          · subst e; exact H32.out
          · exact HI.out.2 j h (by omega)⟩⟩
        case measure => simp [intOf]; omega
      · have hnl : (((ls[k].length : Nat) : Int) != 32) = true := by simp; omega
        have HF : Hid (ls.all len32 = false) := Lib.hid (all32_not k hlt h32)
        have HC := Lib.hid (hashes1_any A9 ls[k].length c9 wr)
        rw [hnl] at HC
        clear h32 hnl
        go_wp2_with (go_at_call 93; refine HC.out.mono ?_; rintro e w' ⟨rfl, rfl⟩)
        go_ret
        exact ⟨_, rfl, by rw [HF.out]; simp, HI.out.1⟩
    · have HA : Hid (ls.all len32 = true) := Lib.hid (all32_of (fun j h => HI.out.2 j h (by omega)))
      go_wp2
      go_ret
      exact ⟨_, rfl, by rw [HA.out]; rfl, HI.out.1⟩
theorem containsf_any (v : Value) (ls : List (List UInt8)) (hsm : ls.length ≤ 1000000000) (w : World) (hx : Rws w v ls) :
    Calls Try.prog 47 #[v, .func (.func 93) #[] #[]] w fun e w' => e = .returned (.bool (!(ls.all len32))) ∧ Below w.heap.size w w' := by
  have HI := Lib.hid (indexf_any v ls hsm w hx)
  obtain ⟨A, c, rfl⟩ := hx.form
  go_enter Try.func47, Try.ntmps47
  go_wp2_with fail
  refine HI.out.mono ?_
  rintro e w1 ⟨r, rfl, h1, h2⟩
  have H1 := Lib.hid (And.intro h1 h2)
  clear h1 h2
  go_wp2
  go_ret
  exact ⟨by rw [← H1.out.1]; rfl, H1.out.2⟩
theorem hashes_any (v : Value) (n : Nat) (ls : List (List UInt8)) (hsm : ls.length ≤ 1000000000) (w : World) (hx : Rws w v ls) :
    Calls Try.prog 86 #[v, .int .i64 n] w fun e w' => e = .returned (.bool (decide (ls.length = n) && ls.all len32)) ∧ Below w.heap.size w w' := by
  have HI := Lib.hid (containsf_any v ls hsm w hx)
  obtain ⟨A, c, rfl⟩ := hx.form
  go_enter Try.func86, Try.ntmps86
  by_cases h : ls.length = n
  · have hb : (((ls.length : Nat) : Int) == (n : Int)) = true := by simp [h]
    have H := Lib.hid h
    clear h
    go_wp2_with fail
    refine HI.out.mono ?_
    rintro e w1 ⟨rfl, h2⟩
    have H2 := Lib.hid h2
    clear h2
    go_wp2
    go_ret
    exact ⟨by rw [H.out]; simp, H2.out⟩
  · have hb : (((ls.length : Nat) : Int) == (n : Int)) = false := by simp; omega
    have H := Lib.hid h
    clear h
    go_wp2
    go_ret
    exact ⟨by simp [H.out], Below.refl _ _⟩
end Go.Proofs.Ytlkgeifmppadmaa
namespace Go.Proofs.Ytlkgeifmppadmaa
open Go.RowKit
set_option linter.unusedVariables false
set_option linter.unusedSimpArgs false

set_option maxRecDepth 100000 in
set_option maxHeartbeats 2000000 in
theorem pright_any (v : Value) (s : SigD) (hp : s.parts.length ≤ 1000000000) (hq : s.path.length ≤ 1000000000) (w : World) (hv : SigV w v s) :
    Calls Try.prog 72 #[v] w fun e w' => e = .returned (.bool (rightB s)) ∧ Below w.heap.size w w' := by
  obtain ⟨p, q, rfl, h1, h2⟩ := hv
  obtain ⟨P, cp, rfl⟩ := h1.form
  obtain ⟨Q, cq, rfl⟩ := h2.form
  have hk0 := Blk.new w 38 [.int .i64 s.index, .slice P s.parts.length cp, .slice Q s.path.length cq]
  have HB0 := Lib.hid ((Below.refl w.heap.size w).alloc (Nat.le_refl _) (.cells #[.int .i64 s.index, .slice P s.parts.length cp, .slice Q s.path.length cq] 38))
  have HR := Lib.hid (And.intro h1 (And.intro h2 hk0))
  have HH1 := Lib.hid (fun wz hz => hashes_any (.slice P s.parts.length cp) 64 s.parts hp wz hz)
  have HH2 := Lib.hid (fun wz hz => hashes_any (.slice Q s.path.length cq) 4 s.path hq wz hz)
  have HRB : Hid (rightB s = ((decide (0 ≤ s.index) && decide (s.index < 16)) && (decide (s.parts.length = 64) && s.parts.all len32) && (decide (s.path.length = 4) && s.path.all len32))) := Lib.hid (by
    unfold rightB
    cases decide (0 ≤ s.index) <;> cases decide (s.index < 16) <;> cases decide (s.parts.length = 64) <;> cases decide (s.path.length = 4) <;> cases s.parts.all len32 <;> cases s.path.all len32 <;> rfl)
  clear h1 h2 hk0
  generalize rightB s = RB at *
  generalize s.index = ix at *
  generalize hb1 : (decide (s.parts.length = 64) && s.parts.all len32) = B1 at *
  generalize hb2 : (decide (s.path.length = 4) && s.path.all len32) = B2 at *
  clear hb1 hb2
  generalize s.parts = Ps at *
  generalize s.path = Qs at *
  go_enter Try.func72, Try.ntmps72
  by_cases k1 : 0 ≤ ix
  · by_cases k2 : ix < 16
    · cases B1 with
      | false =>
        have HT : Hid (RB = false) := Lib.hid (by rw [HRB.out]; simp)
        go_wp2_with fail
        refine (HH1.out _ (HR.out.1.below HB0.out)).mono ?_
        rintro e w1 ⟨rfl, h1⟩
        have HW := Lib.hid (And.intro (HR.out.2.2.below h1) (HB0.out.trans (h1.mono (by simp))))
        have q0 := HW.out.1.cell 0 _ rfl
        have q1 := HW.out.1.cell 1 _ rfl
        have q2 := HW.out.1.cell 2 _ rfl
        clear h1
        go_wp2
        go_ret
        exact ⟨by rw [HT.out]; rfl, HW.out.2⟩
      | true =>
        have HT : Hid (RB = B2) := Lib.hid (by rw [HRB.out]; simp [k1, k2])
        go_wp2_with fail
        refine (HH1.out _ (HR.out.1.below HB0.out)).mono ?_
        rintro e w1 ⟨rfl, h1⟩
        have HW := Lib.hid (And.intro (HR.out.2.2.below h1) (HB0.out.trans (h1.mono (by simp))))
        have q0 := HW.out.1.cell 0 _ rfl
        have q1 := HW.out.1.cell 1 _ rfl
        have q2 := HW.out.1.cell 2 _ rfl
        clear h1
        go_wp2_with fail
        refine (HH2.out _ (HR.out.2.1.below HW.out.2)).mono ?_
        rintro e w2 ⟨rfl, h2⟩
        have HW2 := Lib.hid (HW.out.2.trans (h2.mono HW.out.2.size))
        clear h2
        go_wp2
        go_ret
        exact ⟨by rw [HT.out]; rfl, HW2.out⟩
    · have HT : Hid (RB = false) := Lib.hid (by rw [HRB.out]; simp [k2])
      go_wp2
      go_ret
      exact ⟨by rw [HT.out]; rfl, HB0.out⟩
  · have HT : Hid (RB = false) := Lib.hid (by rw [HRB.out]; simp [k1])
    go_wp2
    go_ret
    exact ⟨by rw [HT.out]; rfl, HB0.out⟩
end Go.Proofs.Ytlkgeifmppadmaa
namespace Go.Proofs.Ytlkgeifmppadmaa
open Go.RowKit
set_option linter.unusedVariables false
set_option linter.unusedSimpArgs false

def atS (ix : Int) : Nat → Int
  | 0 => ix
  | h + 1 => atS ix h / 2
theorem side_ok : ∀ i : Fin 16, ∀ h : Fin 4, 0 ≤ atS (i.val : Int) h.val ∧ atS (i.val : Int) h.val < 16 ∧ (sideS (i.val : Int) h.val == 0) = (atS (i.val : Int) h.val % 2 == 0) := by decide +kernel
theorem side_at (ix : Int) (h0 : 0 ≤ ix) (h1 : ix < 16) (h : Nat) (hh : h < 4) : 0 ≤ atS ix h ∧ atS ix h < 16 ∧ (sideS ix h == 0) = (atS ix h % 2 == 0) := by
  obtain ⟨n, rfl⟩ := Int.eq_ofNat_of_zero_le h0
  exact side_ok ⟨n, by omega⟩ ⟨h, hh⟩
set_option maxRecDepth 100000 in
set_option maxHeartbeats 4000000 in
theorem pverify_any (vp vm v : Value) (pub msg : List UInt8) (s : SigD) (hpub : pub.length ≤ 1000000000) (hmsg : msg.length ≤ 1000000000) (hp : s.parts.length ≤ 1000000000) (hq : s.path.length ≤ 1000000000) (w : World) (hvp : Bys w vp pub) (hvm : Bys w vm msg) (hv : SigV w v s) :
    Calls Try.prog 55 #[vp, vm, v] w fun e w' => e = .returned (.bool (verifyB pub msg s)) ∧ Below w.heap.size w w' := by
  have HRI := Lib.hid (fun (wz : World) (v : Value) (hz : SigV wz v s) => pright_any v s hp hq wz hz)
  obtain ⟨p, q, rfl, h1, h2⟩ := hv
  obtain ⟨P, cp, rfl⟩ := h1.form
  obtain ⟨Q, cq, rfl⟩ := h2.form
  obtain ⟨A, c, rfl⟩ := hvp.form
  obtain ⟨B, d, rfl⟩ := hvm.form
  have HR := Lib.hid (And.intro h1 (And.intro h2 (And.intro hvp hvm)))
  have HVB : Hid (verifyB pub msg s = (rightB s && (upS s.index s.path (rootS msg s.parts) 4 == pub))) := Lib.hid rfl
  clear h1 h2 hvp hvm
  generalize verifyB pub msg s = VB at *
  go_enter Try.func55, Try.ntmps55
  go_wp2_with fail
  refine calls_at (fun w1 => Below w.heap.size w w1 ∧ Blk w1 w.heap.size 38 [.int .i64 s.index, .slice P s.parts.length cp, .slice Q s.path.length cq]) ⟨(Below.refl w.heap.size w).alloc (Nat.le_refl _) _, Blk.new w 38 [.int .i64 s.index, .slice P s.parts.length cp, .slice Q s.path.length cq]⟩ ?_
  rintro w1 ⟨hb1, hk1⟩
  have H1 := Lib.hid (And.intro hb1 hk1)
  refine (HRI.out w1 _ ⟨_, _, rfl, HR.out.1.below hb1, HR.out.2.1.below hb1⟩).mono ?_
  clear hb1 hk1
  rintro e w2 ⟨rfl, h2⟩
  have H2 := Lib.hid (And.intro (H1.out.1.trans (h2.mono H1.out.1.size)) (H1.out.2.below h2))
  clear h2 H1
  cases hrb : rightB s with
  | false =>
    have HF : Hid (VB = false) := Lib.hid (by rw [HVB.out, hrb]; rfl)
    clear hrb
    go_wp2
    go_ret
    exact ⟨by rw [HF.out]; rfl, H2.out.1⟩
  | true =>
    obtain ⟨k1, k2, k3, k4, k5, k6⟩ := rightB_facts hrb
    have HK := Lib.hid (And.intro k3 (And.intro k4 (And.intro k5 k6)))
    have HVB2 : Hid (VB = (upS s.index s.path (rootS msg s.parts) 4 == pub)) := Lib.hid (by rw [HVB.out, hrb]; rfl)
    clear hrb k3 k4 k5 k6
    have q1 := H2.out.2.cell 1 _ rfl
    have q0 := H2.out.2.cell 0 _ rfl
    have q2 := H2.out.2.cell 2 _ rfl
    go_wp2_with fail
    refine (proot_any _ _ msg s.parts HK.out.1 HK.out.2.2.1 hmsg w2 (HR.out.2.2.2.below H2.out.1) (HR.out.1.below H2.out.1)).mono ?_
    rintro e w3 ⟨v3, rfl, h3, h4⟩
    have HRL := Lib.hid (tagH_length 12 [rootAcc (digS msg) s.parts 64])
    have HRE : Hid (rootS msg s.parts = tagH 12 [rootAcc (digS msg) s.parts 64]) := Lib.hid rfl
    have H3 := Lib.hid (And.intro (H2.out.1.trans (h4.mono H2.out.1.size)) (And.intro (H2.out.2.below h4) (h3.bys)))
    have q1 := H3.out.2.1.cell 1 _ rfl
    have q0 := H3.out.2.1.cell 0 _ rfl
    have q2 := H3.out.2.1.cell 2 _ rfl
    clear h3 h4
    go_wp2
    go_loopw [7, 9, 27] (fun v7 v9 v27 wr => ∃ h : Nat, v9 = .int .i64 (atS s.index h) ∧ v27 = .int .i64 h ∧ h ≤ s.path.length ∧ Hid (Below w.heap.size w wr ∧ Bys wr v7 (upS s.index s.path (rootS msg s.parts) h))) (fun _ _ v _ => s.path.length - (intOf v).toNat)
    case atStart => exact ⟨0, rfl, rfl, Nat.zero_le _, Lib.hid ⟨H3.out.1, H3.out.2.2⟩⟩
    case round =>
      obtain ⟨h, rfl, rfl, hh, HI⟩ := hrel
      clear q0 q1 q2
      by_cases hpl : h < s.path.length
      · have hlt : h < 4 := by have := HK.out.2.1; omega
        obtain ⟨g, o, un, rfl, hg, -, -, hcu, hbu⟩ := HR.out.2.1.at' h hpl
        have p0 := (HI.out.1.cell (p := ⟨g, o + h, none⟩) hg).trans hcu
        have hbn := hbu.below HI.out.1
        obtain ⟨A9, c9, rfl⟩ := hbn.form
        obtain ⟨A7, c7, rfl⟩ := HI.out.2.form
        have hlN : s.path[h].length = 32 := HK.out.2.2.2 h hpl
        have hlU := upS_length s.index s.path (rootS msg s.parts) (by rw [HRE.out]; exact HRL.out) h
        have HUP : Hid (upS s.index s.path (rootS msg s.parts) (h + 1) = if (sideS s.index h == 0) = true then tagH 14 [upS s.index s.path (rootS msg s.parts) h, s.path[h]] else tagH 14 [s.path[h], upS s.index s.path (rootS msg s.parts) h]) := Lib.hid (by
          show (if (sideS s.index h == 0) = true then tagH 14 [upS s.index s.path (rootS msg s.parts) h, s.path.getD h []] else tagH 14 [s.path.getD h [], upS s.index s.path (rootS msg s.parts) h]) = _
          rw [List.getD_eq_getElem?_getD, List.getElem?_eq_getElem hpl]; rfl)
        obtain ⟨ha0, ha1, haS⟩ := side_at s.index k1 k2 h hlt
        rw [haS] at HUP
        have HAN : Hid (atS s.index (h + 1) = atS s.index h / 2) := Lib.hid rfl
        clear haS
        have H9 := Lib.hid (And.intro HI.out.2 hbn)
        have hU2E : ∃ U2, upS s.index s.path (rootS msg s.parts) (h + 1) = U2 := ⟨_, rfl⟩
        obtain ⟨U2, hU2E⟩ := hU2E
        rw [hU2E] at HUP
        have HU2E := Lib.hid hU2E
        clear hU2E hcu hbu hbn
        generalize upS s.index s.path (rootS msg s.parts) h = U at *
        generalize s.path[h] = N at *
        generalize atS s.index h = AT at *
        have HL9 := Lib.hid (And.intro hlN hlU)
        clear hlN hlU
        have hsz := HI.out.1.size
        by_cases hside : AT % 2 = 0
        ·
          have hsf : (AT % 2 == 0) = true := by simpa using hside
          have HU2 : Hid (U2 = tagH 14 [U, N]) := Lib.hid (by rw [HUP.out, if_pos hsf])
          clear hside
          have hal := (Below.refl wr.heap.size wr).alloc (Nat.le_refl _) (.cells #[.slice A7 U.length c7, .slice A9 N.length c9] 30)
          go_wp2_with fail
          refine (ptag_any 14 14 rfl _ [U, N] (by have := HL9.out; simp; omega) (by simp) _ (new2 30 (b := wr.heap.size) rfl H9.out.1 H9.out.2)).mono ?_
          rintro e w5 ⟨v5, rfl, h5, h6⟩
          have hb5 := hal.trans (h6.mono (by simp))
          have H5 := Lib.hid (And.intro (HI.out.1.trans (hb5.mono hsz)) h5.bys)
          clear h5 h6 hb5 hal
          go_wp2
          go_roundw
          case rel => exact ⟨h + 1, by rw [HAN.out], by go_num, by omega, Lib.hid ⟨H5.out.1, by rw [HU2E.out, HU2.out]; exact H5.out.2⟩⟩
          case measure => simp [intOf]; omega
        ·
          have hsf : (AT % 2 == 0) = false := by simpa using hside
          have HU2 : Hid (U2 = tagH 14 [N, U]) := Lib.hid (by rw [HUP.out, hsf]; rfl)
          clear hside
          have hal := (Below.refl wr.heap.size wr).alloc (Nat.le_refl _) (.cells #[.slice A9 N.length c9, .slice A7 U.length c7] 30)
          go_wp2_with fail
          refine (ptag_any 14 14 rfl _ [N, U] (by have := HL9.out; simp; omega) (by simp) _ (new2 30 (b := wr.heap.size) rfl H9.out.2 H9.out.1)).mono ?_
          rintro e w5 ⟨v5, rfl, h5, h6⟩
          have hb5 := hal.trans (h6.mono (by simp))
          have H5 := Lib.hid (And.intro (HI.out.1.trans (hb5.mono hsz)) h5.bys)
          clear h5 h6 hb5 hal
          go_wp2
          go_roundw
          case rel => exact ⟨h + 1, by rw [HAN.out], by go_num, by omega, Lib.hid ⟨H5.out.1, by rw [HU2E.out, HU2.out]; exact H5.out.2⟩⟩
          case measure => simp [intOf]; omega
      · have h4 : Hid (h = 4) := Lib.hid (by have := HK.out.2.1; omega)
        have hbA := HR.out.2.2.1.below HI.out.1
        obtain ⟨A7, c7, rfl⟩ := HI.out.2.form
        have HSM := Lib.hid (same_bytes _ _ _ _ wr HI.out.2 hbA)
        have HUE : Hid (upS s.index s.path (rootS msg s.parts) 4 = upS s.index s.path (rootS msg s.parts) h) := Lib.hid (by rw [h4.out])
        rw [HUE.out] at HVB2
        have HB := Lib.hid HI.out.1
        have hnl : ¬ (h : Int) < (s.path.length : Int) := by omega
        clear hbA HI hpl HUE
        generalize upS s.index s.path (rootS msg s.parts) h = U at *
        go_wp2_with fail
        refine HSM.out.mono ?_
        rintro e w' ⟨rfl, rfl⟩
        go_wp2
        go_ret
        exact ⟨by rw [HVB2.out]; rfl, HB.out⟩
end Go.Proofs.Ytlkgeifmppadmaa
namespace Go.Proofs.Ytlkgeifmppadmaa
set_option linter.unusedVariables false

structure Ent where
  tm : Int
  ord : Int
  wh : Int
  deriving DecidableEq
def zE : Ent := ⟨0, 0, 0⟩
def cmpE (a b : Ent) : Int := if a.tm < b.tm ∨ (a.tm = b.tm ∧ a.ord < b.ord) then -1 else if a = b then 0 else 1
def Ent.le (a b : Ent) : Prop := a.tm < b.tm ∨ (a.tm = b.tm ∧ a.ord ≤ b.ord)
theorem cmpE_neg (a b : Ent) : cmpE a b < 0 ↔ ¬ b.le a := by
  unfold cmpE Ent.le
  split
  · constructor <;> intro _ <;> omega
  · split <;> constructor <;> intro h <;> omega
theorem le_refl' (a : Ent) : a.le a := .inr ⟨rfl, Int.le_refl _⟩
theorem le_trans' {a b c : Ent} (h : a.le b) (k : b.le c) : a.le c := by unfold Ent.le at *; omega
theorem le_total' {a b : Ent} (h : ¬ a.le b) : b.le a := by unfold Ent.le at *; omega

def gE (l : List Ent) (i : Nat) : Ent := l.getD i zE
theorem gE_at {l : List Ent} {i : Nat} (h : i < l.length) : gE l i = l[i] := by simp [gE, List.getD_eq_getElem?_getD, List.getElem?_eq_getElem h]
theorem gE_set (l : List Ent) (i : Nat) (x : Ent) (k : Nat) (hi : i < l.length) : gE (l.set i x) k = if k = i then x else gE l k := by
  unfold gE
  rw [List.getD_eq_getElem?_getD, List.getD_eq_getElem?_getD, List.getElem?_set]
  by_cases h : i = k
  · subst h; simp [hi]
  · rw [if_neg h, if_neg (fun e => h e.symm)]
def sw (l : List Ent) (i j : Nat) : List Ent := (l.set i (gE l j)).set j (gE l i)
theorem sw_length (l : List Ent) (i j : Nat) : (sw l i j).length = l.length := by simp [sw]
theorem gE_sw (l : List Ent) (i j k : Nat) (hi : i < l.length) (hj : j < l.length) : gE (sw l i j) k = if k = j then gE l i else if k = i then gE l j else gE l k := by
  unfold sw
  rw [gE_set _ _ _ _ (by simpa using hj), gE_set _ _ _ _ hi]
theorem sw_perm (l : List Ent) (i j : Nat) (hi : i < l.length) (hj : j < l.length) : (sw l i j).Perm l := by
  unfold sw
  rw [gE_at hi, gE_at hj]
  exact List.set_set_perm hi hj

/-! ### Up -/
def HeapFrom (l : List Ent) (i0 n : Nat) : Prop := ∀ k, 0 < k → k < n → i0 ≤ (k - 1) / 2 → (gE l ((k - 1) / 2)).le (gE l k)
def UpInv (l : List Ent) (j : Nat) : Prop :=
  (∀ k, 0 < k → k < l.length → k ≠ j → (gE l ((k - 1) / 2)).le (gE l k)) ∧ (∀ k, 0 < k → k < l.length → (k - 1) / 2 = j → 0 < j → (gE l ((j - 1) / 2)).le (gE l k))
theorem up_start {l : List Ent} (x : Ent) (h : HeapFrom l 0 l.length) : UpInv (l ++ [x]) l.length := by
  have e : ∀ k, k < l.length → gE (l ++ [x]) k = gE l k := fun k hk => by simp [gE, List.getD_eq_getElem?_getD, List.getElem?_append_left hk]
  constructor
  · intro k h0 h1 hne
    rw [List.length_append, List.length_singleton] at h1
    rw [e k (by omega), e ((k - 1) / 2) (by omega)]
    exact h k h0 (by omega) (by omega)
  · intro k h0 h1 h2 h3
    rw [List.length_append, List.length_singleton] at h1
    omega
theorem up_step {l : List Ent} {j : Nat} (hj : j < l.length) (h0 : 0 < j) (h : UpInv l j) (hlt : ¬ (gE l ((j - 1) / 2)).le (gE l j)) : UpInv (sw l ((j - 1) / 2) j) ((j - 1) / 2) := by
  have hi : (j - 1) / 2 < l.length := by omega
  generalize hI : (j - 1) / 2 = i at *
  have hlt' := le_total' hlt
  constructor
  · intro k k0 k1 hne
    rw [sw_length] at k1
    rw [gE_sw l i j _ hi hj, gE_sw l i j _ hi hj]
    by_cases e1 : k = j
    · subst e1
      rw [if_pos rfl, if_neg (by omega), if_pos hI]
      exact hlt'
    · rw [if_neg e1, if_neg hne]
      by_cases e2 : (k - 1) / 2 = j
      · rw [if_pos e2]
        have := h.2 k k0 k1 e2 h0
        rw [hI] at this
        exact this
      · rw [if_neg e2]
        by_cases e3 : (k - 1) / 2 = i
        · rw [if_pos e3]
          have := h.1 k k0 k1 e1
          rw [e3] at this
          exact le_trans' hlt' this
        · rw [if_neg e3]
          exact h.1 k k0 k1 e1
  · intro k k0 k1 e hi0
    rw [sw_length] at k1
    have h3 := h.1 i hi0 hi (by omega)
    rw [gE_sw l i j _ hi hj, gE_sw l i j _ hi hj, if_neg (by omega), if_neg (by omega)]
    by_cases e1 : k = j
    · rw [if_pos e1]; exact h3
    · rw [if_neg e1, if_neg (by omega)]
      have := h.1 k k0 k1 e1
      rw [e] at this
      exact le_trans' h3 this
theorem up_end {l : List Ent} {j : Nat} (h : UpInv l j) (hd : j = 0 ∨ (gE l ((j - 1) / 2)).le (gE l j)) : HeapFrom l 0 l.length := by
  intro k k0 k1 _
  by_cases e : k = j
  · subst e
    rcases hd with hd | hd
    · omega
    · exact hd
  · exact h.1 k k0 k1 e

/-! ### Down -/
def DownInv (l : List Ent) (i0 i n : Nat) : Prop :=
  (∀ k, 0 < k → k < n → i0 ≤ (k - 1) / 2 → (k - 1) / 2 ≠ i → (gE l ((k - 1) / 2)).le (gE l k)) ∧ (∀ k, 0 < k → k < n → (k - 1) / 2 = i → i0 < i → (i - 1) / 2 ≥ i0 → (gE l ((i - 1) / 2)).le (gE l k))
theorem down_start {l : List Ent} {i0 n : Nat} (h : HeapFrom l (i0 + 1) n) : DownInv l i0 i0 n :=
  ⟨fun k k0 k1 h1 hne => h k k0 k1 (by omega), fun k k0 k1 e h1 => by omega⟩
/-- j: the least child of i. -/
theorem down_step {l : List Ent} {i0 i j n : Nat} (hn : n ≤ l.length) (hj : j < n) (hj0 : 0 < j) (hp : (j - 1) / 2 = i) (hi0 : i0 ≤ i) (h : DownInv l i0 i n)
    (hmin : ∀ k, 0 < k → k < n → (k - 1) / 2 = i → (gE l j).le (gE l k)) (hlt : ¬ (gE l i).le (gE l j)) : DownInv (sw l i j) i0 j n := by
  have hi : i < l.length := by omega
  have hjl : j < l.length := by omega
  have hlt' := le_total' hlt
  constructor
  · intro k k0 k1 h1 hne
    rw [gE_sw l i j _ hi hjl, gE_sw l i j _ hi hjl, if_neg hne]
    by_cases e1 : (k - 1) / 2 = i
    · rw [if_pos e1]
      by_cases e2 : k = j
      · rw [if_pos e2]; exact hlt'
      · rw [if_neg e2, if_neg (by omega)]
        exact hmin k k0 k1 e1
    · rw [if_neg e1]
      by_cases e2 : k = j
      · subst e2; exact absurd hp e1
      · rw [if_neg e2]
        by_cases e3 : k = i
        · rw [if_pos e3]
          subst e3
          exact h.2 j hj0 hj hp (by omega) h1
        · rw [if_neg e3]
          exact h.1 k k0 k1 h1 e1
  · intro k k0 k1 e h1 h2
    rw [gE_sw l i j _ hi hjl, gE_sw l i j _ hi hjl, hp, if_neg (by omega), if_pos rfl, if_neg (by omega), if_neg (by omega)]
    have := h.1 k k0 k1 (by omega) (by omega)
    rw [e] at this
    exact this
theorem down_end {l : List Ent} {i0 i n : Nat} (h : DownInv l i0 i n) (hd : ∀ k, 0 < k → k < n → (k - 1) / 2 = i → (gE l i).le (gE l k)) : HeapFrom l i0 n := by
  intro k k0 k1 h1
  by_cases e : (k - 1) / 2 = i
  · rw [e]; exact hd k k0 k1 e
  · exact h.1 k k0 k1 h1 e

theorem heap_min {l : List Ent} (h : HeapFrom l 0 l.length) : ∀ k, k < l.length → (gE l 0).le (gE l k) := by
  intro k
  induction k using Nat.strongRecOn with
  | _ k ih =>
    intro hk
    by_cases e : k = 0
    · subst e; exact le_refl' _
    · exact le_trans' (ih ((k - 1) / 2) (by omega) (by omega)) (h k (by omega) hk (by omega))
end Go.Proofs.Ytlkgeifmppadmaa
namespace Go.Proofs.Ytlkgeifmppadmaa
open Go.RowKit
set_option linter.unusedVariables false
set_option linter.unusedSimpArgs false
set_option maxRecDepth 100000

def Ent.cells (e : Ent) : List Value := [.int .i64 e.tm, .int .i64 e.ord, .int .i64 e.wh]
def Ent.val (e : Ent) : Value := .agg #[.int .i64 e.tm, .int .i64 e.ord, .int .i64 e.wh]
theorem ent_eql (a b : Ent) (w : World) : (binOp .eql 117 (.agg #[.int .i64 a.tm, .int .i64 a.ord, .int .i64 a.wh]) (.agg #[.int .i64 b.tm, .int .i64 b.ord, .int .i64 b.wh])).run Try.prog w = .ok (.bool (decide (a = b))) w := by
  have u3 := Try.underlying3
  have a3 := Try.isAgg3
  have z3 := Try.sizeOf3
  have hS : Try.prog.underlying 117 = some (.struct (Try.prog.fieldsOf 117)) := by kernel_rfl
  have hp : Try.prog.stoodInHeld 117 = false := by kernel_rfl
  rw [run_eql_struct, show (10000 : Nat) = 9999 + 1 from rfl, run_equalIn_agg w 9999 117 _ _ hS hp]
  simp only [Program.fieldsOf, Try.underlying117]
  go_simp
  obtain ⟨a1, a2, a3⟩ := a
  obtain ⟨b1, b2, b3⟩ := b
  by_cases h1 : a1 = b1 <;> by_cases h2 : a2 = b2 <;> by_cases h3 : a3 = b3 <;> simp [h1, h2, h3]

/-- 'before': two boxes, nothing else. -/
theorem before_any (a b : Ent) (w : World) :
    Calls Try.prog 122 #[.agg #[.int .i64 a.tm, .int .i64 a.ord, .int .i64 a.wh], .agg #[.int .i64 b.tm, .int .i64 b.ord, .int .i64 b.wh]] w
      fun e w' => e = .returned (.int .i64 (cmpE a b)) ∧ ∃ n, w' = ((w.alloc (.cells a.cells.toArray 117)).alloc (.cells b.cells.toArray 117)).drewN n := by
  have heq := fun w => ent_eql a b w
  unfold cmpE
  by_cases h1 : a.tm < b.tm
  · rw [if_pos (.inl h1)]
    go_enter Try.func122, Try.ntmps122
    go_wp2
    go_ret
    exact ⟨rfl, 0, rfl⟩
  · by_cases h2 : a.tm = b.tm ∧ a.ord < b.ord
    · have h2a : (a.tm == b.tm) = true := beq_iff_eq.2 h2.1
      have h2b := h2.2
      rw [if_pos (.inr h2)]
      clear h2
      go_enter Try.func122, Try.ntmps122
      go_wp2
      go_ret
      exact ⟨rfl, 0, rfl⟩
    · rw [if_neg (fun h => h.elim h1 h2)]
      have hcase : ((a.tm == b.tm) = true ∧ ¬ a.ord < b.ord) ∨ (a.tm == b.tm) = false := by
        by_cases e : a.tm = b.tm
        · exact .inl ⟨beq_iff_eq.2 e, fun h => h2 ⟨e, h⟩⟩
        · exact .inr (beq_eq_false_iff_ne.2 e)
      clear h2
      rcases hcase with ⟨g1, g2⟩ | g1
      all_goals
        by_cases e : a = b
        · rw [if_pos e]
          have ed : decide (a = b) = true := decide_eq_true e
          clear e
          go_enter Try.func122, Try.ntmps122
          go_wp2
          go_ret
          exact ⟨rfl, 0, rfl⟩
        · rw [if_neg e]
          have ed : decide (a = b) = false := decide_eq_false e
          clear e
          go_enter Try.func122, Try.ntmps122
          go_wp2
          go_ret
          exact ⟨rfl, 0, rfl⟩

/-! ### Entries in a row -/
def cellsOf (l : List Ent) : List Value := l.flatMap Ent.cells
theorem cellsOf_length (l : List Ent) : (cellsOf l).length = l.length * 3 := by
  induction l with
  | nil => rfl
  | cons x l ih => simp only [cellsOf, List.flatMap_cons, List.length_append] at ih ⊢; rw [ih]; simp [Ent.cells]; omega
theorem cellsOf_cons (x : Ent) (l : List Ent) : cellsOf (x :: l) = x.cells ++ cellsOf l := rfl
theorem cellsOf_append (l m : List Ent) : cellsOf (l ++ m) = cellsOf l ++ cellsOf m := by simp [cellsOf]
theorem cellsOf_at (l : List Ent) : ∀ (i : Nat) (hi : i < l.length), (cellsOf l)[i * 3]? = some (.int .i64 l[i].tm) ∧ (cellsOf l)[i * 3 + 1]? = some (.int .i64 l[i].ord) ∧ (cellsOf l)[i * 3 + 2]? = some (.int .i64 l[i].wh) := by
  induction l with
  | nil => intro i hi; exact absurd hi (Nat.not_lt_zero _)
  | cons x l ih =>
    intro i hi
    cases i with
    | zero => exact ⟨rfl, rfl, rfl⟩
    | succ i =>
      have h := ih i (by simpa using hi)
      rw [cellsOf_cons]
      have e : ∀ j, (x.cells ++ cellsOf l)[(i + 1) * 3 + j]? = (cellsOf l)[i * 3 + j]? := by
        intro j
        rw [List.getElem?_append_right (by simp [Ent.cells]; omega)]
        congr 1
        simp [Ent.cells]; omega
      exact ⟨(e 0).trans h.1, (e 1).trans h.2.1, (e 2).trans h.2.2⟩
theorem cellsOf_set (l : List Ent) : ∀ (i : Nat) (x : Ent), i < l.length → cellsOf (l.set i x) = (((cellsOf l).set (i * 3) (.int .i64 x.tm)).set (i * 3 + 1) (.int .i64 x.ord)).set (i * 3 + 2) (.int .i64 x.wh) := by
  induction l with
  | nil => intro i x hi; exact absurd hi (Nat.not_lt_zero _)
  | cons y l ih =>
    intro i x hi
    cases i with
    | zero => rfl
    | succ i =>
      have h := ih i x (by simpa using hi)
      rw [List.set_cons_succ, cellsOf_cons, cellsOf_cons, h]
      have e : ∀ (m : List Value) (j : Nat) (v : Value), (y.cells ++ m).set ((i + 1) * 3 + j) v = y.cells ++ m.set (i * 3 + j) v := by
        intro m j v
        rw [List.set_append_right _ _ (by simp [Ent.cells]; omega)]
        congr 2
        simp [Ent.cells]; omega
      have e0 := fun m v => e m 0 v
      simp only [Nat.add_zero] at e0
      rw [e0, e, e]

/-- The block of a pile: its entries, and what room there is. -/
structure PileAt (w : World) (g cap : Nat) (l : List Ent) (rest : List Value) : Prop where
  blk : Blk w g 117 (cellsOf l ++ rest)
  le : l.length ≤ cap
  max : cap ≤ maxLen
  len : l.length * 3 + rest.length = cap * 3
namespace PileAt
variable {w w1 : World} {g cap : Nat} {l : List Ent} {rest : List Value} {S : Nat → Prop}
theorem chg (h : PileAt w g cap l rest) (hc : Chg w w1 S) (hn : ¬ S g) : PileAt w1 g cap l rest := ⟨h.blk.chg hc hn, h.le, h.max, h.len⟩
theorem below (h : PileAt w g cap l rest) (hc : Below w.heap.size w w1) : PileAt w1 g cap l rest := ⟨h.blk.below hc, h.le, h.max, h.len⟩
theorem alloc (h : PileAt w g cap l rest) (o : Obj) : PileAt (w.alloc o) g cap l rest := ⟨h.blk.alloc o, h.le, h.max, h.len⟩
theorem setOther (h : PileAt w g cap l rest) (p : Addr) (v : Value) (hp : g ≠ p.block) : PileAt (w.setCell p v) g cap l rest := ⟨h.blk.setOther p v hp, h.le, h.max, h.len⟩
theorem drop {x : Ent} (h : PileAt w g cap (l ++ [x]) rest) : PileAt w g cap l (x.cells ++ rest) := by
  obtain ⟨hb, h1, h2, h3⟩ := h
  rw [List.length_append, List.length_singleton] at h1 h3
  refine ⟨?_, by omega, h2, by simp [Ent.cells]; omega⟩
  rw [cellsOf_append] at hb
  simpa [cellsOf] using hb
theorem drew (h : PileAt w g cap l rest) : PileAt w.drew g cap l rest := ⟨h.blk, h.le, h.max, h.len⟩
theorem drewN (h : PileAt w g cap l rest) (n : Nat) : PileAt (w.drewN n) g cap l rest := ⟨h.blk, h.le, h.max, h.len⟩
theorem cells (h : PileAt w g cap l rest) (i : Nat) (hi : i < l.length) : w.cell? ⟨g, i * 3, none⟩ = some (.int .i64 l[i].tm) ∧ w.cell? ⟨g, i * 3 + 1, none⟩ = some (.int .i64 l[i].ord) ∧ w.cell? ⟨g, i * 3 + 2, none⟩ = some (.int .i64 l[i].wh) := by
  obtain ⟨h0, h1, h2⟩ := cellsOf_at l i hi
  have hl := cellsOf_length l
  refine ⟨h.blk.cell _ _ ?_, h.blk.cell _ _ ?_, h.blk.cell _ _ ?_⟩ <;> rw [List.getElem?_append_left (by omega)] <;> assumption
theorem free (h : PileAt w g cap l rest) (j : Nat) : w.frozen? ⟨g, j, none⟩ = false := h.blk.free j
/-- An entry is stored. -/
theorem set (h : PileAt w g cap l rest) (i : Nat) (x : Ent) (hi : i < l.length) :
    PileAt (((w.setCell ⟨g, i * 3, none⟩ (.int .i64 x.tm)).setCell ⟨g, i * 3 + 1, none⟩ (.int .i64 x.ord)).setCell ⟨g, i * 3 + 2, none⟩ (.int .i64 x.wh)) g cap (l.set i x) rest := by
  have hl := cellsOf_length l
  refine ⟨?_, by rw [List.length_set]; exact h.le, h.max, by rw [List.length_set]; exact h.len⟩
  have b := ((h.blk.set (i * 3) (.int .i64 x.tm) (by rw [List.length_append]; omega)).set (i * 3 + 1) (.int .i64 x.ord) (by rw [List.length_set, List.length_append]; omega)).set (i * 3 + 2) (.int .i64 x.wh) (by rw [List.length_set, List.length_set, List.length_append]; omega)
  rw [cellsOf_set l i x hi]
  rw [List.set_append_left _ _ (by omega), List.set_append_left _ _ (by rw [List.length_set]; omega), List.set_append_left _ _ (by rw [List.length_set, List.length_set]; omega)] at b
  exact b
end PileAt

theorem len_any (A : Option Addr) (n c : Nat) (w : World) : Calls Try.prog 119 #[.slice A n c] w fun e w' => e = .returned (.int .i64 n) ∧ w = w' := by
  go_enter Try.func119, Try.ntmps119
  go_wp2
  go_ret
  exact ⟨rfl, rfl⟩

theorem less_any (g cap : Nat) (l : List Ent) (rest : List Value) (i j : Nat) (hi : i < l.length) (hj : j < l.length) (w : World) (h : PileAt w g cap l rest) :
    Calls Try.prog 120 #[.slice (some ⟨g, 0, none⟩) l.length cap, .int .i64 i, .int .i64 j] w fun e w' => e = .returned (.bool (decide (cmpE l[i] l[j] < 0))) ∧ Below w.heap.size w w' := by
  obtain ⟨p0, p1, p2⟩ := h.cells i hi
  obtain ⟨q0, q1, q2⟩ := h.cells j hj
  have HI := Lib.hid h
  clear h
  have hi' : (i : Int) < (l.length : Int) := by omega
  have hj' : (j : Int) < (l.length : Int) := by omega
  generalize hx : l[i] = x at *
  generalize hy : l[j] = y at *
  go_enter Try.func120, Try.ntmps120
  go_wp2
  go_still_tail 8, (by kernel_rfl)
  go_wp2_with (go_at_call 122; refine (before_any x y _).mono ?_; rintro e w' ⟨rfl, n, rfl⟩)
  go_ret
  refine ⟨rfl, ?_⟩
  exact below_drewN (((Below.refl w.heap.size w).alloc (Nat.le_refl _) _).alloc (by simp) _) _

def swapL (l : List Ent) (i j : Nat) (hi : i < l.length) (hj : j < l.length) : List Ent := (l.set i l[j]).set j l[i]
theorem swapL_length (l : List Ent) (i j : Nat) (hi : i < l.length) (hj : j < l.length) : (swapL l i j hi hj).length = l.length := by simp [swapL]

theorem swap_ne (g cap : Nat) (l : List Ent) (rest : List Value) (i j : Nat) (hi : i < l.length) (hj : j < l.length) (hne : i ≠ j) (w : World) (h : PileAt w g cap l rest) :
    Calls Try.prog 121 #[.slice (some ⟨g, 0, none⟩) l.length cap, .int .i64 i, .int .i64 j] w fun e w' => e = .returned (.tuple #[]) ∧ PileAt w' g cap (swapL l i j hi hj) rest ∧ Chg w w' (fun k => k = g) := by
  obtain ⟨p0, p1, p2⟩ := h.cells i hi
  obtain ⟨q0, q1, q2⟩ := h.cells j hj
  have hf := h.free
  have HI := Lib.hid h
  clear h
  have hi' : (i : Int) < (l.length : Int) := by omega
  have hj' : (j : Int) < (l.length : Int) := by omega
  generalize hx : l[i] = x at *
  generalize hy : l[j] = y at *
  go_enter Try.func121, Try.ntmps121
  go_wp2
  go_region
  go_wp2
  go_end0
  refine ⟨rfl, ?_, by repeat (first | (with_reducible exact Chg.refl _ _) | (with_reducible refine Chg.drew ?_) | (with_reducible refine Chg.setCell ?_ _ _ ?_) | exact fun _ => rfl)⟩
  have h2 := ((HI.out.set i y hi).set j x (by rw [List.length_set]; exact hj))
  unfold swapL
  rw [hx, hy]
  with_reducible exact h2.drew

theorem swap_eq (g cap : Nat) (l : List Ent) (rest : List Value) (i : Nat) (hi : i < l.length) (w : World) (h : PileAt w g cap l rest) :
    Calls Try.prog 121 #[.slice (some ⟨g, 0, none⟩) l.length cap, .int .i64 i, .int .i64 i] w fun e w' => e = .returned (.tuple #[]) ∧ PileAt w' g cap (swapL l i i hi hi) rest ∧ Chg w w' (fun k => k = g) := by
  obtain ⟨p0, p1, p2⟩ := h.cells i hi
  have hf := h.free
  have HI := Lib.hid h
  clear h
  have hi' : (i : Int) < (l.length : Int) := by omega
  generalize hx : l[i] = x at *
  go_enter Try.func121, Try.ntmps121
  go_wp2
  go_region
  go_wp2
  go_end0
  refine ⟨rfl, ?_, by repeat (first | (with_reducible exact Chg.refl _ _) | (with_reducible refine Chg.drew ?_) | (with_reducible refine Chg.setCell ?_ _ _ ?_) | exact fun _ => rfl)⟩
  have h2 := ((HI.out.set i x hi).set i x (by rw [List.length_set]; exact hi))
  unfold swapL
  rw [hx]
  with_reducible exact h2.drew

theorem swap_any (g cap : Nat) (l : List Ent) (rest : List Value) (i j : Nat) (hi : i < l.length) (hj : j < l.length) (w : World) (h : PileAt w g cap l rest) :
    Calls Try.prog 121 #[.slice (some ⟨g, 0, none⟩) l.length cap, .int .i64 i, .int .i64 j] w fun e w' => e = .returned (.tuple #[]) ∧ PileAt w' g cap (swapL l i j hi hj) rest ∧ Chg w w' (fun k => k = g) := by
  by_cases e : i = j
  · subst e; exact swap_eq g cap l rest i hi w h
  · exact swap_ne g cap l rest i j hi hj e w h

/-! ### Push, Pop: through the pointer to the pile (the first field of block b) -/
theorem pop_any (b g cap : Nat) (l : List Ent) (x : Ent) (rest : List Value) (o : Value) (w : World) (hb : Blk w b 105 [.slice (some ⟨g, 0, none⟩) (l.length + 1) cap, o]) (h : PileAt w g cap (l ++ [x]) rest) (hbg : b ≠ g) :
    Calls Try.prog 123 #[.pointer (some ⟨b, 0, none⟩)] w fun e w' => e = .returned (.iface 117 (.agg #[.int .i64 x.tm, .int .i64 x.ord, .int .i64 x.wh])) ∧ Blk w' b 105 [.slice (some ⟨g, 0, none⟩) l.length cap, o] ∧ PileAt w' g cap l (x.cells ++ rest) ∧ Chg w w' (fun k => k = b) := by
  obtain ⟨p0, p1, p2⟩ := h.cells l.length (by simp)
  have hc := hb.cell 0 _ rfl
  have hf := hb.free
  have HI := Lib.hid h
  have HB := Lib.hid hb
  clear h hb
  have e : (l ++ [x])[l.length] = x := by simp
  rw [e] at p0 p1 p2
  clear e
  have hl1 := HI.out.le
  have hbl := HB.out.lt
  have hl2 := HI.out.max
  rw [List.length_append, List.length_singleton] at hl1
  unfold maxLen at hl2
  go_enter Try.func123, Try.ntmps123
  go_wp2
  go_ret
  refine ⟨rfl, (HB.out.set 0 _ (by simp)).alloc _, ?_, ?_⟩
  · exact (HI.out.drop.setOther ⟨b, 0, none⟩ _ (fun e => hbg e.symm)).alloc _
  · exact (((Chg.refl w (fun k => k = b)).setCell ⟨b, 0, none⟩ _ (fun _ => rfl)).alloc _)

theorem info_entry : (Try.prog.info? 117).map (fun i => (i.zero, i.size, i.bytes)) = some (some (.agg #[.int .i64 0, .int .i64 0, .int .i64 0]), 3, 24) := by kernel_rfl

theorem run_assert (x y z : Value) (w : World) : (Instr.typeAssert (.iface 117 (.agg #[x, y, z])) 20 117 false).run Try.prog w = .ok (.agg #[x, y, z]) w := by kernel_rfl
/-- Push into a pile that has a block. -/
theorem push_any (b : Nat) (v : Value) (l : List Ent) (x : Ent) (o : Value) (base : Nat) (w0 w : World) (hb : Blk w b 105 [v, o]) (hv : w.ownsRow base 117 3 v l.length (cellsOf l)) (hbb : base ≤ b) (hvb : v.ownBlock ≠ some b) (hl : l.length < 1000000000000) :
    Calls Try.prog 124 #[.pointer (some ⟨b, 0, none⟩), .iface 117 (.agg #[.int .i64 x.tm, .int .i64 x.ord, .int .i64 x.wh])] w fun e w' => e = .returned (.tuple #[]) ∧ ∃ v', Blk w' b 105 [v', o] ∧ w'.ownsRow base 117 3 v' (l.length + 1) (cellsOf (l ++ [x])) ∧ (v'.ownBlock = v.ownBlock ∨ ∃ k, v'.ownBlock = some k ∧ w.heap.size ≤ k) ∧ Chg w w' (fun k => k = b ∨ some k = v.ownBlock) := by
  have hc := hb.cell 0 _ rfl
  have hf := hb.free
  have hbl := hb.lt
  have HV := Lib.hid hv
  have HB := Lib.hid hb
  clear hv hb
  go_enter Try.func124, Try.ntmps124
  go_wp2
  obtain ⟨i0, hi, hz0, hz1, hz2⟩ := info_parts info_entry
  have hta := run_assert
  go_region_law (refine step_append_lies _ rfl _ _ 103 rfl base 117 i0 (.agg #[.int .i64 0, .int .i64 0, .int .i64 0]) 3 24 Try.underlying103 hi hz0 hz1 hz2 rfl (by decide) v l.length (cellsOf l) rfl (World.ownsRow.alloc (w := w.drew) HV.out _) ⟨w.heap.size, 0, none⟩ 1 1 x.cells rfl rfl (World.news_of_block (blk_new w.drew _)) (by simp [Ent.cells, Value.oneCell']) (by decide) (by unfold maxLen; omega) (by omega) (by simp; omega) _ rfl ?_; intro g cap w1 hown hgrow hat hlt; have HB1 := Lib.hid (Blk.grown (Blk.alloc (w := w.drew) HB.out _) hgrow (fun e => hvb e.symm)); have hc1 := HB1.out.cell 0 _ rfl; have hf1 := HB1.out.free)
  all_goals go_wp2
  all_goals go_end0
  all_goals
    have hgb : some g ≠ some b := by
      rcases hat with hat | hat
      · rw [← hat]; exact hvb
      · intro e; injection e with e; rw [hat] at e; simp at e; omega
    refine ⟨rfl, _, HB1.out.set 0 _ (by simp), ?_, ?_, ?_⟩
    · rw [show cellsOf (l ++ [x]) = cellsOf l ++ x.cells from by simp [cellsOf]]
      exact ownsRow_set hown ⟨b, 0, none⟩ _ hgb
    · rcases hat with hat | hat
      · exact .inl hat.symm
      · exact .inr ⟨g, rfl, by rw [hat]; simp⟩
    · have h1 : Chg w (w.alloc (.cells #[.int .i64 x.tm, .int .i64 x.ord, .int .i64 x.wh] 117)).drew (fun k => k = b ∨ some k = v.ownBlock) := ((Chg.refl w _).alloc _).drew
      exact (h1.trans (Chg.of_grown hgrow) (fun i _ h => .inr h)).setCell ⟨b, 0, none⟩ _ (fun _ => .inl rfl)
end Go.Proofs.Ytlkgeifmppadmaa
namespace Go.Proofs.Ytlkgeifmppadmaa
open Go.RowKit
set_option linter.unusedVariables false
set_option maxRecDepth 100000
set_option linter.unusedSimpArgs false

/-- A pile behind a pointer: the first field of block b. -/
structure Hp (w : World) (b g cap : Nat) (l : List Ent) (rest : List Value) (o : Value) : Prop where
  blk : Blk w b 105 [.slice (some ⟨g, 0, none⟩) l.length cap, o]
  pile : PileAt w g cap l rest
  ne : b ≠ g
namespace Hp
variable {w w1 : World} {b g cap : Nat} {l : List Ent} {rest : List Value} {o : Value} {S : Nat → Prop}
theorem below (h : Hp w b g cap l rest o) (hc : Below w.heap.size w w1) : Hp w1 b g cap l rest o := ⟨h.blk.below hc, h.pile.below hc, h.ne⟩
theorem drewN (h : Hp w b g cap l rest o) (n : Nat) : Hp (w.drewN n) b g cap l rest o := ⟨h.blk, h.pile.drewN n, h.ne⟩
theorem cell (h : Hp w b g cap l rest o) : w.cell? ⟨b, 0, none⟩ = some (.slice (some ⟨g, 0, none⟩) l.length cap) := h.blk.cell 0 _ rfl
/-- The pile's entries have been turned, in their own block. -/
theorem turned {l' : List Ent} (h : Hp w b g cap l rest o) (hp : PileAt w1 g cap l' rest) (hl : l'.length = l.length) (hc : Chg w w1 (fun k => k = g)) : Hp w1 b g cap l' rest o := ⟨by rw [hl]; exact h.blk.chg hc h.ne, hp, h.ne⟩
end Hp

theorem swapL_eq (l : List Ent) (i j : Nat) (hi : i < l.length) (hj : j < l.length) : swapL l i j hi hj = sw l i j := by unfold swapL sw; rw [gE_at hi, gE_at hj]
theorem meth_Len (b : Nat) (A : Option Addr) (n c : Nat) (w : World) (h : w.cell? ⟨b, 0, none⟩ = some (.slice A n c)) : (method 279 119 (.pointer (some ⟨b, 0, none⟩)) "Len").run Try.prog w = .ok (119, .slice A n c) w :=
  method_through (e := 103) (by kernel_rfl) Try.underlying119 278 _ _ w (by go_simp)
theorem meth_Less (b : Nat) (A : Option Addr) (n c : Nat) (w : World) (h : w.cell? ⟨b, 0, none⟩ = some (.slice A n c)) : (method 279 119 (.pointer (some ⟨b, 0, none⟩)) "Less").run Try.prog w = .ok (120, .slice A n c) w :=
  method_through (e := 103) (by kernel_rfl) Try.underlying119 278 _ _ w (by go_simp)
theorem meth_Swap (b : Nat) (A : Option Addr) (n c : Nat) (w : World) (h : w.cell? ⟨b, 0, none⟩ = some (.slice A n c)) : (method 279 119 (.pointer (some ⟨b, 0, none⟩)) "Swap").run Try.prog w = .ok (121, .slice A n c) w :=
  method_through (e := 103) (by kernel_rfl) Try.underlying119 278 _ _ w (by go_simp)
theorem meth_Push (a : Addr) (w : World) : (method 279 119 (.pointer (some a)) "Push").run Try.prog w = .ok (124, .pointer (some a)) w := by kernel_rfl
theorem meth_Pop (a : Addr) (w : World) : (method 279 119 (.pointer (some a)) "Pop").run Try.prog w = .ok (123, .pointer (some a)) w := by kernel_rfl

theorem up_any (b g cap : Nat) (l0 : List Ent) (rest : List Value) (o : Value) (j0 : Nat) (hj0 : j0 < l0.length) (hsm : l0.length < 1000000000000) (w : World) (h0 : Hp w b g cap l0 rest o) (hup : UpInv l0 j0) :
    Calls Try.prog 92 #[.iface 119 (.pointer (some ⟨b, 0, none⟩)), .int .i64 j0] w
      fun e w' => e = .returned (.tuple #[]) ∧ ∃ l, l.Perm l0 ∧ HeapFrom l 0 l.length ∧ Hp w' b g cap l rest o ∧ Chg w w' (fun k => k = g) := by
  have H0 := Lib.hid h0
  have HU := Lib.hid hup
  clear h0 hup
  go_enter Try.func92, Try.ntmps92
  go_wp2
  go_loopw [1] (fun v wr => ∃ (j : Nat) (l : List Ent), v = .int .i64 j ∧ j < l.length ∧ l.length ≤ l0.length ∧ Hid (l.Perm l0) ∧ Hid (UpInv l j) ∧ Hid (Hp wr b g cap l rest o) ∧ Hid (Chg w wr (fun k => k = g))) (fun v _ => (intOf v).toNat)
  case atStart => exact ⟨j0, l0, rfl, hj0, Nat.le_refl _, Lib.hid (List.Perm.refl _), HU, H0, Lib.hid (Chg.refl _ _)⟩
  case round =>
    obtain ⟨j, l, rfl, hj, hlen, HP, HI, HH, HC⟩ := hrel
    by_cases hz : j = 0
    · subst hz
      go_wp2
      go_end0
      exact ⟨rfl, l, HP.out, up_end HI.out (.inl rfl), HH.out, HC.out⟩
    · have hcell := HH.out.cell
      have hmL := meth_Less b (some ⟨g, 0, none⟩) l.length cap wr hcell
      have hne : (((j : Int) - 1) / 2 == (j : Int)) = false := by rw [beq_eq_false_iff_ne]; omega
      have hpn := Lib.hid (show ((j : Int) - 1) / 2 = (((j - 1) / 2 : Nat) : Int) by omega)
      go_wp2_with fail
      rw [hpn.out]
      refine (less_any g cap l rest j ((j - 1) / 2) hj (by omega) wr HH.out.pile).mono ?_
      rintro e w1 ⟨rfl, hb⟩
      generalize hd : decide (cmpE l[j] l[(j - 1) / 2] < 0) = d
      have HD := Lib.hid hd
      have HH1 := Lib.hid (HH.out.below hb)
      have HC1 := Lib.hid (HC.out.trans (Chg.of_below (S := fun _ => False) hb) (fun _ _ h => h.elim))
      clear hd hb hcell hmL HH HC
      have hcell := HH1.out.cell
      have hmS := meth_Swap b (some ⟨g, 0, none⟩) l.length cap w1 hcell
      cases d with
      | false =>
        go_wp2
        go_end0
        refine ⟨rfl, l, HP.out, up_end HI.out (.inr ?_), HH1.out, HC1.out⟩
        have h1 := of_decide_eq_false HD.out
        rw [cmpE_neg] at h1
        rw [gE_at (by omega), gE_at hj]
        exact Classical.not_not.1 h1
      | true =>
        go_wp2_with fail
        refine (swap_any g cap l rest ((j - 1) / 2) j (by omega) hj w1 HH1.out.pile).mono ?_
        rintro e w2 ⟨rfl, hp2, hc2⟩
        have HP2 := Lib.hid hp2
        have HC2 := Lib.hid hc2
        clear hp2 hc2
        go_wp2
        go_roundw
        case rel =>
          have hp3 := HP2.out
          rw [swapL_eq] at hp3
          refine ⟨(j - 1) / 2, sw l ((j - 1) / 2) j, by congr 1, by rw [sw_length]; omega, by rw [sw_length]; exact hlen, Lib.hid ((sw_perm l _ j (by omega) hj).trans HP.out), Lib.hid (up_step hj (by omega) HI.out ?_), Lib.hid (HH1.out.turned hp3 (sw_length _ _ _) HC2.out), Lib.hid (HC1.out.trans HC2.out (fun _ _ h => h))⟩
          have h1 := of_decide_eq_true HD.out
          rw [cmpE_neg] at h1
          rw [gE_at (by omega), gE_at hj]
          exact h1
        case measure => simp [intOf]; omega

/-! ### Push -/
theorem row_pile {w : World} {base g cap n : Nat} {l : List Ent} (h : w.ownsRow base 117 3 (.slice (some ⟨g, 0, none⟩) n cap) n (cellsOf l)) (hn : n = l.length) : base ≤ g ∧ ∃ rest, PileAt w g cap l rest := by
  obtain ⟨_, h2⟩ := h
  rcases h2 with ⟨h2, _⟩ | ⟨g', cap', cur, he, hb, hh, hle, hm, hs, ht⟩
  · cases h2
  · injection he with h1 h2 h3
    injection h1 with h1
    injection h1 with h1 _ _
    subst h1 h3
    rw [hn] at ht hle
    have hcl : cur.toList.length = cap * 3 := by rw [← hs]; exact Array.length_toList
    refine ⟨hb, cur.toList.drop (l.length * 3), ?_, hle, hm, ?_⟩
    · unfold Blk
      rw [← ht, List.take_append_drop]
      exact hh
    · rw [List.length_drop, hcl]; omega
theorem pile_row {w : World} {base g cap : Nat} {l : List Ent} {rest : List Value} (h : PileAt w g cap l rest) (hb : base ≤ g) : w.ownsRow base 117 3 (.slice (some ⟨g, 0, none⟩) l.length cap) l.length (cellsOf l) := by
  have hl := cellsOf_length l
  refine ⟨hl, .inr ⟨g, cap, (cellsOf l ++ rest).toArray, rfl, hb, h.blk, h.le, h.max, ?_, ?_⟩⟩
  · have := h.len; simp; omega
  · simp [← hl]

/-- An agenda's memory: block b, and the row of its pile. -/
structure Ag (w : World) (base b : Nat) (v o : Value) (l : List Ent) : Prop where
  blk : Blk w b 105 [v, o]
  row : w.ownsRow base 117 3 v l.length (cellsOf l)
  le : base ≤ b
  ne : v.ownBlock ≠ some b
/-- The blocks of an agenda. -/
def Foot (b : Nat) (v : Value) (k : Nat) : Prop := k = b ∨ some k = v.ownBlock
namespace Ag
variable {w w1 : World} {base b : Nat} {v o : Value} {l : List Ent} {S : Nat → Prop}
theorem chg (h : Ag w base b v o l) (hc : Chg w w1 S) (hn : ∀ k, Foot b v k → ¬ S k) : Ag w1 base b v o l := ⟨h.blk.chg hc (hn b (.inl rfl)), ownsRow_chg h.row hc (fun k hk => hn k (.inr hk.symm)), h.le, h.ne⟩
theorem below (h : Ag w base b v o l) (hb : Below w.heap.size w w1) : Ag w1 base b v o l := h.chg (Chg.of_below (S := fun _ => False) hb) (fun _ _ h => h)
theorem drewN (h : Ag w base b v o l) (n : Nat) : Ag (w.drewN n) base b v o l := ⟨h.blk, h.row, h.le, h.ne⟩
theorem alloc (h : Ag w base b v o l) (x : Obj) : Ag (w.alloc x) base b v o l := h.below ((Below.refl _ _).alloc (Nat.le_refl _) x)
theorem foot_lt (h : Ag w base b v o l) : ∀ k, Foot b v k → k < w.heap.size := by
  rintro k (rfl | hk)
  · exact h.blk.lt
  · exact (h.row.lt k hk.symm).2
theorem foot_ge (h : Ag w base b v o l) : ∀ k, Foot b v k → base ≤ k := by
  rintro k (rfl | hk)
  · exact h.le
  · exact (h.row.lt k hk.symm).1
/-- With at least one entry there is a row. -/
theorem hp (h : Ag w base b v o l) (h0 : 0 < l.length) : ∃ g cap rest, v = .slice (some ⟨g, 0, none⟩) l.length cap ∧ base ≤ g ∧ Hp w b g cap l rest o := by
  obtain ⟨g, cap, rfl, hg, _⟩ := h.row.form h0
  obtain ⟨_, rest, hp⟩ := row_pile h.row rfl
  exact ⟨g, cap, rest, rfl, hg, h.blk, hp, fun e => h.ne (by simp [Value.ownBlock, e])⟩
end Ag
theorem Hp.ag {w : World} {base b g cap : Nat} {l : List Ent} {rest : List Value} {o : Value} (h : Hp w b g cap l rest o) (hb : base ≤ b) (hg : base ≤ g) : Ag w base b (.slice (some ⟨g, 0, none⟩) l.length cap) o l :=
  ⟨h.blk, pile_row h.pile hg, hb, by simpa [Value.ownBlock] using fun e => h.ne e.symm⟩

theorem hpush_any (base b : Nat) (v o : Value) (l : List Ent) (x : Ent) (hsm : l.length < 100000000000) (w : World) (h0 : Ag w base b v o l) (hh : HeapFrom l 0 l.length) :
    Calls Try.prog 83 #[.iface 119 (.pointer (some ⟨b, 0, none⟩)), .iface 117 (.agg #[.int .i64 x.tm, .int .i64 x.ord, .int .i64 x.wh])] w
      fun e w' => e = .returned (.tuple #[]) ∧ ∃ v' l', Ag w' base b v' o l' ∧ HeapFrom l' 0 l'.length ∧ l'.Perm (l ++ [x]) ∧ (v'.ownBlock = v.ownBlock ∨ ∃ k, v'.ownBlock = some k ∧ w.heap.size ≤ k) ∧ Chg w w' (Foot b v) := by
  have H0 := Lib.hid h0
  have HH := Lib.hid hh
  clear h0 hh
  have hmP := meth_Push
  go_enter Try.func83, Try.ntmps83
  go_wp2_with fail
  refine (push_any b v l x o base w w H0.out.blk H0.out.row H0.out.le H0.out.ne (by omega)).mono ?_
  rintro e w1 ⟨rfl, v1, hb1, hr1, hat, hc1⟩
  obtain ⟨g, cap, rfl, hg, _⟩ := hr1.form (Nat.succ_pos _)
  obtain ⟨_, rest, hp1⟩ := row_pile hr1 (by simp)
  have hne : b ≠ g := by
    rcases hat with hat | ⟨k, hat, hk⟩
    · intro e; subst e; exact H0.out.ne (by rw [← hat]; rfl)
    · have := H0.out.blk.lt
      simp [Value.ownBlock] at hat
      omega
  have h1 : Hp w1 b g cap (l ++ [x]) rest o := ⟨by simpa using hb1, hp1, hne⟩
  have hcell := h1.cell
  have hlen : (l ++ [x]).length = l.length + 1 := by simp
  rw [hlen] at hcell
  have hmL := meth_Len b (some ⟨g, 0, none⟩) (l.length + 1) cap w1 hcell
  have HL := Lib.hid hlen
  have H1 := Lib.hid h1
  have HC1 := Lib.hid hc1
  have HA := Lib.hid hat
  clear hb1 hr1 hp1 h1 hc1 hat hlen hcell
  go_wp2_with (go_at_call 119; refine (len_any _ _ _ _).mono ?_; rintro e w' ⟨rfl, rfl⟩)
  refine (up_any b g cap (l ++ [x]) rest o l.length (by simp) (by simp; omega) w1 H1.out (up_start x HH.out)).mono ?_
  rintro e w2 ⟨rfl, l', hperm, hheap, hp', hc'⟩
  have HF := Lib.hid (And.intro hperm (And.intro hheap (And.intro hp' hc')))
  clear hperm hheap hp' hc'
  go_wp2
  go_end0
  obtain ⟨hperm, hheap, hp', hc'⟩ := HF.out
  refine ⟨rfl, _, l', hp'.ag H0.out.le hg, hheap, hperm, ?_, HC1.out.trans hc' ?_⟩
  · exact HA.out
  · rintro i hi rfl
    rcases HA.out with hat | ⟨k, hat, hk⟩
    · exact .inr (by rw [← hat]; rfl)
    · simp [Value.ownBlock] at hat; omega

/-! ### down -/
theorem less_b (b g cap : Nat) (l : List Ent) (rest : List Value) (o : Value) (x y : Int) (i j : Nat) (hx : x = i) (hy : y = j) (hi : i < l.length) (hj : j < l.length) (w : World) (h : Hp w b g cap l rest o) :
    Calls Try.prog 120 #[.slice (some ⟨g, 0, none⟩) l.length cap, .int .i64 x, .int .i64 y] w fun e w' => ∃ d : Bool, e = .returned (.bool d) ∧ Hid ((d = true ↔ ¬ (gE l j).le (gE l i)) ∧ Hp w' b g cap l rest o ∧ Below w.heap.size w w') ∧ (method 279 119 (.pointer (some ⟨b, 0, none⟩)) "Less").run Try.prog w' = .ok (120, .slice (some ⟨g, 0, none⟩) l.length cap) w' ∧ (method 279 119 (.pointer (some ⟨b, 0, none⟩)) "Swap").run Try.prog w' = .ok (121, .slice (some ⟨g, 0, none⟩) l.length cap) w' := by
  subst hx hy
  exact (less_any g cap l rest i j hi hj w h.pile).mono fun e w' ⟨he, hb⟩ => ⟨_, he, Lib.hid ⟨by rw [decide_eq_true_iff, cmpE_neg, gE_at hi, gE_at hj], h.below hb, hb⟩, meth_Less b _ _ _ w' (h.below hb).cell, meth_Swap b _ _ _ w' (h.below hb).cell⟩
theorem swap_b (b g cap : Nat) (l : List Ent) (rest : List Value) (o : Value) (x y : Int) (i j : Nat) (hx : x = i) (hy : y = j) (hi : i < l.length) (hj : j < l.length) (w : World) (h : Hp w b g cap l rest o) :
    Calls Try.prog 121 #[.slice (some ⟨g, 0, none⟩) l.length cap, .int .i64 x, .int .i64 y] w fun e w' => e = .returned (.tuple #[]) ∧ Hid (Hp w' b g cap (sw l i j) rest o ∧ Chg w w' (fun k => k = g)) := by
  subst hx hy
  exact (swap_any g cap l rest i j hi hj w h.pile).mono fun e w' ⟨he, hp, hc⟩ => ⟨he, Lib.hid ⟨h.turned (swapL_eq l i j hi hj ▸ hp) (sw_length _ _ _) hc, hc⟩⟩

def DownPost (w : World) (b g cap : Nat) (l0 : List Ent) (rest : List Value) (o : Value) (i0 n : Nat) (e : Ending) (w' : World) : Prop :=
  ∃ (d : Bool) (l : List Ent), e = .returned (.bool d) ∧ l.Perm l0 ∧ HeapFrom l i0 n ∧ (∀ k, n ≤ k → gE l k = gE l0 k) ∧ Hp w' b g cap l rest o ∧ Chg w w' (fun k => k = g)
set_option maxRecDepth 100000 in
set_option maxHeartbeats 2000000 in
theorem down_any (b g cap : Nat) (l0 : List Ent) (rest : List Value) (o : Value) (i0 n : Nat) (hn : n ≤ l0.length) (hi0 : i0 ≤ l0.length) (hsm : l0.length < 1000000000000) (w : World) (h0 : Hp w b g cap l0 rest o) (hd : HeapFrom l0 (i0 + 1) n) :
    Calls Try.prog 84 #[.iface 119 (.pointer (some ⟨b, 0, none⟩)), .int .i64 i0, .int .i64 n] w
      (DownPost w b g cap l0 rest o i0 n) := by
  have H0 := Lib.hid h0
  have HU := Lib.hid (down_start hd)
  clear h0 hd
  go_enter Try.func84, Try.ntmps84
  go_wp2
  go_loopw [7] (fun v wr => ∃ (i : Nat) (l : List Ent), v = .int .i64 i ∧ i0 ≤ i ∧ i ≤ l.length ∧ l.length = l0.length ∧ Hid (l.Perm l0 ∧ DownInv l i0 i n ∧ (∀ k, n ≤ k → gE l k = gE l0 k) ∧ Hp wr b g cap l rest o ∧ Chg w wr (fun k => k = g))) (fun v _ => n - (intOf v).toNat)
  case atStart => exact ⟨i0, l0, rfl, Nat.le_refl _, hi0, rfl, Lib.hid ⟨List.Perm.refl _, HU.out, fun _ _ => rfl, H0.out, Chg.refl _ _⟩⟩
  case round =>
    obtain ⟨i, l, rfl, hi, hil, hlen', HI⟩ := hrel
    have hlen := Nat.le_of_eq hlen'
    have hlen2 := Nat.le_of_eq hlen'.symm
    clear hlen'
    have hmL := meth_Less b (some ⟨g, 0, none⟩) l.length cap wr HI.out.2.2.2.1.cell
    have hmS := meth_Swap b (some ⟨g, 0, none⟩) l.length cap wr HI.out.2.2.2.1.cell
    by_cases hA : 2 * i + 1 < n
    · by_cases hB : 2 * i + 2 < n
      · go_wp2_with fail
        refine (less_b b g cap l rest o _ _ (2 * i + 2) (2 * i + 1) (by omega) (by omega) (by omega) (by omega) wr HI.out.2.2.2.1).mono ?_
        rintro e w1 ⟨d1, rfl, HL1, hmL1, hmS1⟩
        clear hmL hmS
        have hmL := hmL1
        have hmS := hmS1
        clear hmL1 hmS1
        have HL1' := HL1.out
        clear HL1
        cases d1
        · have HM : Hid (∀ k, 0 < k → k < n → (k - 1) / 2 = i → (gE l (2 * i + 1)).le (gE l k)) := by
            refine Lib.hid fun k k0 k1 e => ?_
            have hle := Classical.not_not.1 (fun h => Bool.false_ne_true (HL1'.1.2 h))
            rcases (by omega : k = 2 * i + 1 ∨ k = 2 * i + 2) with rfl | rfl
            · exact le_refl' _
            · exact hle
          have HL1 := Lib.hid (And.intro trivial (And.intro HL1'.2.1 (Chg.of_below (S := fun k => k = g) HL1'.2.2)))
          clear HL1'
          go_wp2_with fail
          refine (less_b b g cap l rest o _ _ (2 * i + 1) i (by omega) rfl (by omega) (by omega) _ HL1.out.2.1).mono ?_
          rintro e w2 ⟨d2, rfl, HL2, hmL2, hmS2⟩
          cases d2
          · go_wp2
            go_ret
            have hle := Classical.not_not.1 (fun h => by have h2 := HL2.out.1; first | exact Bool.false_ne_true (h2.2 h) | exact h2.2 h)
            exact ⟨_, l, rfl, HI.out.1, down_end HI.out.2.1 (fun k k0 k1 e => le_trans' hle (HM.out k k0 k1 e)), HI.out.2.2.1, HL2.out.2.1, (HI.out.2.2.2.2.trans HL1.out.2.2 (fun _ _ h => h)).trans (Chg.of_below (S := fun _ => False) HL2.out.2.2) (fun _ _ h => h.elim)⟩
          · go_wp2_with fail
            refine (swap_b b g cap l rest o _ _ i (2 * i + 1) rfl (by omega) (by omega) (by omega) _ HL2.out.2.1).mono ?_
            rintro e w3 ⟨rfl, HS⟩
            go_wp2
            go_roundw
            case rel =>
              refine ⟨(2 * i + 1), sw l i ((2 * i + 1)), by congr 1, by omega, by rw [sw_length]; omega, by rw [sw_length]; omega, Lib.hid ⟨(sw_perm l i _ (by omega) (by omega)).trans HI.out.1, down_step (by omega) (by omega) (by omega) (by omega) hi HI.out.2.1 HM.out (by have h := HL2.out.1; first | exact h.1 rfl | exact h.1 trivial | simpa using h), ?_, HS.out.1, ((HI.out.2.2.2.2.trans HL1.out.2.2 (fun _ _ h => h)).trans (Chg.of_below (S := fun _ => False) HL2.out.2.2) (fun _ _ h => h.elim)).trans HS.out.2 (fun _ _ h => h)⟩⟩
              intro k hk
              rw [gE_sw l i _ k (by omega) (by omega), if_neg (by omega), if_neg (by omega)]
              exact HI.out.2.2.1 k hk
            case measure => simp [intOf]; omega
        · have HM : Hid (∀ k, 0 < k → k < n → (k - 1) / 2 = i → (gE l (2 * i + 2)).le (gE l k)) := by
            refine Lib.hid fun k k0 k1 e => ?_
            have hle := le_total' (HL1'.1.1 rfl)
            rcases (by omega : k = 2 * i + 1 ∨ k = 2 * i + 2) with rfl | rfl
            · exact hle
            · exact le_refl' _
          have HL1 := Lib.hid (And.intro trivial (And.intro HL1'.2.1 (Chg.of_below (S := fun k => k = g) HL1'.2.2)))
          clear HL1'
          go_wp2_with fail
          refine (less_b b g cap l rest o _ _ (2 * i + 2) i (by omega) rfl (by omega) (by omega) _ HL1.out.2.1).mono ?_
          rintro e w2 ⟨d2, rfl, HL2, hmL2, hmS2⟩
          cases d2
          · go_wp2
            go_ret
            have hle := Classical.not_not.1 (fun h => by have h2 := HL2.out.1; first | exact Bool.false_ne_true (h2.2 h) | exact h2.2 h)
            exact ⟨_, l, rfl, HI.out.1, down_end HI.out.2.1 (fun k k0 k1 e => le_trans' hle (HM.out k k0 k1 e)), HI.out.2.2.1, HL2.out.2.1, (HI.out.2.2.2.2.trans HL1.out.2.2 (fun _ _ h => h)).trans (Chg.of_below (S := fun _ => False) HL2.out.2.2) (fun _ _ h => h.elim)⟩
          · go_wp2_with fail
            refine (swap_b b g cap l rest o _ _ i (2 * i + 2) rfl (by omega) (by omega) (by omega) _ HL2.out.2.1).mono ?_
            rintro e w3 ⟨rfl, HS⟩
            go_wp2
            go_roundw
            case rel =>
              refine ⟨(2 * i + 2), sw l i ((2 * i + 2)), by congr 1, by omega, by rw [sw_length]; omega, by rw [sw_length]; omega, Lib.hid ⟨(sw_perm l i _ (by omega) (by omega)).trans HI.out.1, down_step (by omega) (by omega) (by omega) (by omega) hi HI.out.2.1 HM.out (by have h := HL2.out.1; first | exact h.1 rfl | exact h.1 trivial | simpa using h), ?_, HS.out.1, ((HI.out.2.2.2.2.trans HL1.out.2.2 (fun _ _ h => h)).trans (Chg.of_below (S := fun _ => False) HL2.out.2.2) (fun _ _ h => h.elim)).trans HS.out.2 (fun _ _ h => h)⟩⟩
              intro k hk
              rw [gE_sw l i _ k (by omega) (by omega), if_neg (by omega), if_neg (by omega)]
              exact HI.out.2.2.1 k hk
            case measure => simp [intOf]; omega
      · have HM : Hid (∀ k, 0 < k → k < n → (k - 1) / 2 = i → (gE l (2 * i + 1)).le (gE l k)) := by
          refine Lib.hid fun k k0 k1 e => ?_
          obtain rfl : k = 2 * i + 1 := by omega
          exact le_refl' _
        have HL1 := Lib.hid (And.intro trivial (And.intro HI.out.2.2.2.1 (Chg.refl wr (fun k => k = g))))
        go_wp2_with fail
        refine (less_b b g cap l rest o _ _ (2 * i + 1) i (by omega) rfl (by omega) (by omega) _ HL1.out.2.1).mono ?_
        rintro e w2 ⟨d2, rfl, HL2, hmL2, hmS2⟩
        cases d2
        · go_wp2
          go_ret
          have hle := Classical.not_not.1 (fun h => by have h2 := HL2.out.1; first | exact Bool.false_ne_true (h2.2 h) | exact h2.2 h)
          exact ⟨_, l, rfl, HI.out.1, down_end HI.out.2.1 (fun k k0 k1 e => le_trans' hle (HM.out k k0 k1 e)), HI.out.2.2.1, HL2.out.2.1, (HI.out.2.2.2.2.trans HL1.out.2.2 (fun _ _ h => h)).trans (Chg.of_below (S := fun _ => False) HL2.out.2.2) (fun _ _ h => h.elim)⟩
        · go_wp2_with fail
          refine (swap_b b g cap l rest o _ _ i (2 * i + 1) rfl (by omega) (by omega) (by omega) _ HL2.out.2.1).mono ?_
          rintro e w3 ⟨rfl, HS⟩
          go_wp2
          go_roundw
          case rel =>
            refine ⟨(2 * i + 1), sw l i ((2 * i + 1)), by congr 1, by omega, by rw [sw_length]; omega, by rw [sw_length]; omega, Lib.hid ⟨(sw_perm l i _ (by omega) (by omega)).trans HI.out.1, down_step (by omega) (by omega) (by omega) (by omega) hi HI.out.2.1 HM.out (by have h := HL2.out.1; first | exact h.1 rfl | exact h.1 trivial | simpa using h), ?_, HS.out.1, ((HI.out.2.2.2.2.trans HL1.out.2.2 (fun _ _ h => h)).trans (Chg.of_below (S := fun _ => False) HL2.out.2.2) (fun _ _ h => h.elim)).trans HS.out.2 (fun _ _ h => h)⟩⟩
            intro k hk
            rw [gE_sw l i _ k (by omega) (by omega), if_neg (by omega), if_neg (by omega)]
            exact HI.out.2.2.1 k hk
          case measure => simp [intOf]; omega
    · go_wp2
      go_ret
      exact ⟨_, l, rfl, HI.out.1, down_end HI.out.2.1 (fun k k0 k1 e => by omega), HI.out.2.2.1, HI.out.2.2.2.1, HI.out.2.2.2.2⟩
end Go.Proofs.Ytlkgeifmppadmaa

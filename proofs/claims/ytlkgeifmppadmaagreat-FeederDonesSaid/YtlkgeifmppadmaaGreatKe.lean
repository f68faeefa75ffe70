/- The program's root of a signature made once. The program's signatures: what is right. The program's signatures: Right. The program's signatures: Verify. Appending whatever is shown, and where the new row lies. No program in sight. The program's writer of bytes. The reference's owners sign. The reference's checkpoints: what is right, what is the same. A row of one's own whose frozen place, if it has one, lies behind its last cell (what a conversion of a string leaves): appending to it. No program in sight. Steps of a region that draws its order, one by one: an operation that yields, one that is not wanted. No program in sight. Conditions: as each theorem states them. -/
import Derived.Test.YtlkgeifmppadmaaGreatKd
import Derived.Test.YtlkgeifmppadmaaGreatKa
import Derived.Lib.ConvBytes
import Derived.Deep.RegionHeld3
namespace Go.Proofs.YtlkgeifmppadmaaGreat
open Go.RowKit
set_option linter.unusedVariables false
set_option linter.unusedSimpArgs false

def pAcc (d : Int) (ls : List (List UInt8)) : Nat → List (List UInt8)
  | 0 => []
  | i + 1 => pAcc d ls i ++ [rootPart d i (ls.getD i [])]
theorem pAcc_flat (d : Int) (ls : List (List UInt8)) (i : Nat) : (pAcc d ls i).flatten = rootAcc d ls i := by
  induction i with
  | zero => rfl
  | succ i ih => simp only [pAcc, rootAcc, List.flatten_append, ih]; simp
theorem pAcc_length (d : Int) (ls : List (List UInt8)) (i : Nat) : (pAcc d ls i).length = i := by
  induction i with
  | zero => rfl
  | succ i ih => simp only [pAcc, List.length_append, ih]; rfl
theorem tag_pAcc (d : Int) (ls : List (List UInt8)) (i : Nat) : tagH 12 (pAcc d ls i) = tagH 12 [rootAcc d ls i] := by
  unfold tagH; rw [pAcc_flat]; simp
theorem rootAcc_len (d : Int) (ls : List (List UInt8)) (h32 : ∀ i (h : i < ls.length), ls[i].length = 32) : ∀ i, i ≤ ls.length → (rootAcc d ls i).length = 32 * i
  | 0, _ => rfl
  | i + 1, h => by
    have hlt : i < ls.length := h
    show (rootAcc d ls i ++ rootPart d i (ls.getD i [])).length = _
    rw [List.length_append, rootAcc_len d ls h32 i (by omega), List.getD_eq_getElem?_getD, List.getElem?_eq_getElem hlt]
    have := rootPart_length d i ls[i] (h32 i hlt)
    simp only [Option.getD_some]
    omega

set_option maxRecDepth 100000 in
set_option maxHeartbeats 4000000 in
theorem proot_any (v u : Value) (msg : List UInt8) (ls : List (List UInt8)) (h64 : ls.length = 64) (h32 : ∀ i (h : i < ls.length), ls[i].length = 32) (hsm : msg.length ≤ 1000000000) (w : World) (hx : Bys w v msg) (hy : Rws w u ls) :
    Calls Tryz.prog 78 #[v, u] w fun e w' => ∃ v', e = .returned (.tuple #[v', .bool true]) ∧ OwnB w' w.heap.size v' (rootS msg ls) ∧ Below w.heap.size w w' := by
  obtain ⟨i0, hi0, hz0, hz1, hz2⟩ := info_parts info_bytes
  obtain ⟨A, c, rfl⟩ := hx.form
  obtain ⟨B, d, rfl⟩ := hy.form
  have HX := Lib.hid (And.intro hx hy)
  have H64 := Lib.hid h64
  have H32 := Lib.hid h32
  have HRS : Hid (rootS msg ls = tagH 12 (pAcc (digS msg) ls 64)) := Lib.hid (by rw [tag_pAcc]; rfl)
  generalize rootS msg ls = RS at *
  have hne : (((ls.length : Nat) : Int) != 64) = false := by simp [h64]
  clear hx hy h64 h32
  go_enter Tryz.func78, Tryz.ntmps78
  go_wp2_with fail
  refine (pdigest_any _ msg hsm w HX.out.1).mono ?_
  rintro e w1 ⟨rfl, h1⟩
  have H1 := Lib.hid h1
  generalize digS msg = D at *
  clear h1 hne
  go_wp2
  go_loopw [7, 17] (fun v7 v8 wr => ∃ i : Nat, v8 = .int .i64 i ∧ i ≤ ls.length ∧ Hid (Below w.heap.size w wr ∧ OwnV wr w.heap.size v7 (pAcc D ls i))) (fun _ v _ => ls.length - (intOf v).toNat)
  case atStart => exact ⟨0, rfl, Nat.zero_le _, Lib.hid ⟨H1.out, OwnV.nil _ _⟩⟩
  case round =>
    obtain ⟨i, rfl, hi, HI⟩ := hrel
    by_cases hlt : i < ls.length
    · have hi64 : i < 64 := by have := H64.out; omega
      obtain ⟨g, o, up, rfl, hg, -, -, hcu, hbu⟩ := HX.out.2.at' i hlt
      have p0 := (HI.out.1.cell (p := ⟨g, o + i, none⟩) hg).trans hcu
      have HN : Hid (0 < ls[i].length → ∀ q, up.ownBlock = some q → q < w.heap.size) := Lib.hid (fun hp q hq => Sho.lt hbu hp q hq)
      have HBU := hbu.below HI.out.1
      obtain ⟨A9, c9, rfl⟩ := HBU.form
      have HU := Lib.hid HBU
      have HL := Lib.hid (H32.out i hlt)
      have HACC : Hid (pAcc D ls (i + 1) = pAcc D ls i ++ [rootPart D i ls[i]]) := Lib.hid (by
        show pAcc D ls i ++ [rootPart D i (ls.getD i [])] = _
        rw [List.getD_eq_getElem?_getD, List.getElem?_eq_getElem hlt]; rfl)
      have HPART : Hid (rootPart D i ls[i] = if (bitS D (i / 2) == ((i % 2 : Nat) : Int)) = true then tagH 11 [ls[i]] else ls[i]) := Lib.hid rfl
      have hnl : (((ls[i].length : Nat) : Int) != 32) = false := by simp [HL.out]
      have HTO : Hid (∀ wz : World, Calls Tryz.prog 97 #[.int .u32 D, .int .i64 ((i : Int) / 2), .int .i64 ((i : Int) % 2)] wz fun e w' => e = .returned (.bool (bitS D (i / 2) == ((i % 2 : Nat) : Int))) ∧ wz = w') := Lib.hid (fun wz => by
        have := told_any D (i / 2) ((i % 2 : Nat) : Int) (by omega) wz
        simpa using this)
      have HTG := Lib.hid (fun (wz : World) (hz : Bys wz (.slice A9 ls[i].length c9) ls[i]) => ptag_any 11 11 rfl _ [ls[i]] (by simp; have := HL.out; omega) (by simp) _ (new1 26 (b := wz.heap.size) rfl hz))
      have hpl : (pAcc D ls i).length ≤ 100 := by rw [pAcc_length]; omega
      clear hcu hbu HBU
      have hsz := HI.out.1.size
      obtain ⟨A7, c7, rfl⟩ := HI.out.2.rws.form
      generalize rootPart D i ls[i] = PT at *
      generalize tagH 11 [ls[i]] = TG at *
      generalize ls[i] = P at *
      generalize (bitS D (i / 2) == ((i % 2 : Nat) : Int)) = BI at *
      generalize pAcc D ls i = PA at *
      cases BI with
      | true =>
        have HPT : Hid (PT = TG) := Lib.hid (by rw [HPART.out, if_pos rfl])
        have hal1 := (Below.refl wr.heap.size wr).alloc (Nat.le_refl _) (.cells #[.slice A9 P.length c9] 26)
        go_wp2_with (go_at_call 97; refine (HTO.out wr).mono ?_; rintro e w' ⟨rfl, rfl⟩)
        refine (HTG.out wr HU.out).mono ?_
        rintro e w2 ⟨v2, rfl, h1, h2⟩
        obtain ⟨A2, c2, rfl⟩ := h1.form
        have hb2 := hal1.trans (h2.mono (by simp))
        have HB2 := Lib.hid (And.intro hb2 (And.intro (own_mono' h1 (show wr.heap.size ≤ _ by simp)) h1.bys))
        have hsz2 := hb2.size
        obtain ⟨us0, hq1, hq2⟩ := HI.out.2
        have HQ := Lib.hid hq1
        obtain ⟨us, hu1, hu2⟩ := HI.out.2.keep hb2
        have HK := Lib.hid (And.intro hu1 hu2)
        clear hu1 hu2 h1 h2 hb2 hal1 hq1 hq2
        go_wp2_with (at_builtin; (refine wpList_append_lies _ rfl (.tmp 34) (.tmp 36) 27 rfl w.heap.size 26 i0 (.slice none 0 0) 1 24 Tryz.underlying27 hi0 hz0 hz1 hz2 rfl (by decide) _ PA.length us rfl (World.ownsRow.alloc HK.out.1 _) ⟨w2.heap.size, 0, none⟩ 1 1 [.slice A2 TG.length c2] rfl rfl (World.news_of_block (blk_new _ _)) (by simp [Value.oneCell']) (by decide) (by unfold maxLen; omega) (by omega) (by simp; omega) (w2.heap.size + 1) (by simp) ?_); intro g3 c3 W3 hown3 hgrow3 hlie3 hlt3)
        have HV3 : Hid (OwnV W3 w.heap.size (.slice (some ⟨g3, 0, none⟩) (PA.length + 1) c3) (PA ++ [TG])) := Lib.hid (OwnV.push HK.out.1 HK.out.2 HB2.out.2.2 (fun hp q hq e => by have h1 := (World.ownsRow.lt HB2.out.2.1 q hq).1; have h2 := (World.ownsRow.lt HQ.out q e).2; omega) hown3 hgrow3 (by
          rcases hlie3 with e | e
          · exact .inl (show some g3 = _ from e.symm)
          · exact .inr ⟨g3, rfl, by omega⟩))
        have HB3 : Hid (Below w.heap.size w W3) := Lib.hid ((HI.out.1.trans (HB2.out.1.mono hsz)).trans (((Below.refl w.heap.size w2).alloc (by omega) _).grown hgrow3 (by simp; omega) (fun k e => (World.ownsRow.lt HK.out.1 k e).1)))
        go_roundw
        case rel => exact ⟨i + 1, by go_num, by omega, Lib.hid ⟨HB3.out, by rw [HACC.out, HPT.out]; exact HV3.out⟩⟩
        case measure => simp [intOf]; omega
      | false =>
        have HPT : Hid (PT = P) := Lib.hid (by rw [HPART.out]; rfl)
        obtain ⟨us, hu1, hu2⟩ := HI.out.2
        have HK := Lib.hid (And.intro hu1 hu2)
        clear hu1 hu2
        go_wp2_with (first
          | (go_at_call 97; refine (HTO.out wr).mono ?_; rintro e w' ⟨rfl, rfl⟩)
          | (at_builtin; (refine wpList_append_lies _ rfl (.tmp 34) (.tmp 36) 27 rfl w.heap.size 26 i0 (.slice none 0 0) 1 24 Tryz.underlying27 hi0 hz0 hz1 hz2 rfl (by decide) _ PA.length us rfl (World.ownsRow.alloc HK.out.1 _) ⟨wr.heap.size, 0, none⟩ 1 1 [.slice A9 P.length c9] rfl rfl (World.news_of_block (blk_new _ _)) (by simp [Value.oneCell']) (by decide) (by unfold maxLen; omega) (by omega) (by simp; omega) (wr.heap.size + 1) (by simp) ?_); intro g3 c3 W3 hown3 hgrow3 hlie3 hlt3))
        have HV3 : Hid (OwnV W3 w.heap.size (.slice (some ⟨g3, 0, none⟩) (PA.length + 1) c3) (PA ++ [P])) := Lib.hid (OwnV.push HK.out.1 HK.out.2 HU.out (fun hp q hq e => by have h1 := HN.out hp q hq; have h2 := (World.ownsRow.lt HK.out.1 q e).1; omega) hown3 hgrow3 (by
          rcases hlie3 with e | e
          · exact .inl (show some g3 = _ from e.symm)
          · exact .inr ⟨g3, rfl, by omega⟩))
        have HB3 : Hid (Below w.heap.size w W3) := Lib.hid (HI.out.1.trans (((Below.refl w.heap.size wr).alloc hsz _).grown hgrow3 (by simp; omega) (fun k e => (World.ownsRow.lt HK.out.1 k e).1)))
        go_roundw
        case rel => exact ⟨i + 1, by go_num, by omega, Lib.hid ⟨HB3.out, by rw [HACC.out, HPT.out]; exact HV3.out⟩⟩
        case measure => simp [intOf]; omega
    · have hi64 : Hid (i = 64) := Lib.hid (by have := H64.out; omega)
      have hie : (i : Int) = (ls.length : Int) := by omega
      have hnl : ¬ (i : Int) < (ls.length : Int) := by omega
      have HB := Lib.hid HI.out.1
      have hsz := HI.out.1.size
      have hpl : (pAcc D ls i).length ≤ 100 := by rw [pAcc_length, hi64.out]; decide
      have hfl : (pAcc D ls i).flatten.length ≤ 100000000 := by rw [pAcc_flat, rootAcc_len D ls H32.out i (by omega), hi64.out]; decide
      have HRA : Hid (tagH 12 (pAcc D ls i) = RS) := Lib.hid (by rw [HRS.out, hi64.out])
      obtain ⟨A7, c7, rfl⟩ := HI.out.2.rws.form
      have HO := Lib.hid HI.out.2
      generalize pAcc D ls i = PA at *
      have HT := Lib.hid (ptag_any 12 12 rfl _ PA (by omega) (by omega) wr HO.out.rws)
      rw [HRA.out] at HT
      clear hie
      go_wp2_with fail
      refine HT.out.mono ?_
      rintro e w2 ⟨v2, rfl, h1, h2⟩
      have H2 := Lib.hid (And.intro h1 h2)
      clear h1 h2
      go_wp2
      go_ret2
      exact ⟨_, rfl, own_mono' H2.out.1 hsz, HB.out.trans (H2.out.2.mono hsz)⟩
end Go.Proofs.YtlkgeifmppadmaaGreat
namespace Go.Proofs.YtlkgeifmppadmaaGreat
open Go.RowKit
set_option linter.unusedVariables false
set_option linter.unusedSimpArgs false

theorem hashes1_any (A : Option Addr) (n c : Nat) (w : World) :
    Calls Tryz.prog 104 #[.slice A n c] w fun e w' => e = .returned (.bool (((n : Nat) : Int) != 32)) ∧ w = w' := by
  go_enter Tryz.func104, Tryz.ntmps104
  go_wp2
  go_ret
  exact ⟨rfl, rfl⟩
set_option maxRecDepth 100000 in
set_option maxHeartbeats 2000000 in
theorem indexf_any (v : Value) (ls : List (List UInt8)) (hsm : ls.length ≤ 1000000000) (w : World) (hx : Rws w v ls) :
    Calls Tryz.prog 73 #[v, .func (.func 104) #[] #[]] w fun e w' => ∃ r : Int, e = .returned (.int .i64 r) ∧ decide (0 ≤ r) = !(ls.all len32) ∧ Below w.heap.size w w' := by
  obtain ⟨A, c, rfl⟩ := hx.form
  have HX := Lib.hid hx
  clear hx
  go_enter Tryz.func73, Tryz.ntmps73
  go_wp2
  go_loopw [8] (fun v8 wr => ∃ k : Nat, v8 = .int .i64 k ∧ k ≤ ls.length ∧ Hid (Below w.heap.size w wr ∧ ∀ j (h : j < ls.length), j < k → ls[j].length = 32)) (fun v _ => ls.length - (intOf v).toNat)
  case atStart => exact ⟨0, rfl, Nat.zero_le _, Lib.hid ⟨Below.refl _ _, fun j h hj => by omega⟩⟩
  case round =>
    obtain ⟨k, rfl, hk, HI⟩ := hrel
    by_cases hlt : k < ls.length
    · obtain ⟨g, o, u, rfl, hg, -, -, hcu, hbu⟩ := HX.out.at' k hlt
      have p0 := (HI.out.1.cell (p := ⟨g, o + k, none⟩) hg).trans hcu
      obtain ⟨A9, c9, rfl⟩ := hbu.form
      clear hcu hbu
      by_cases h32 : ls[k].length = 32
      · have hnl : (((ls[k].length : Nat) : Int) != 32) = false := by simp [h32]
        have H32 := Lib.hid h32
        have HC := Lib.hid (hashes1_any A9 ls[k].length c9 wr)
        rw [hnl] at HC
        clear h32 hnl
        go_wp2_with (go_at_call 104; refine HC.out.mono ?_; rintro e w' ⟨rfl, rfl⟩)
        go_roundw
        case rel => exact ⟨k + 1, by go_num, by omega, Lib.hid ⟨HI.out.1, fun j h hj => by
          by_cases e : j = k
          · subst e; exact H32.out
          · exact HI.out.2 j h (by omega)⟩⟩
        case measure => simp [intOf]; omega
      · have hnl : (((ls[k].length : Nat) : Int) != 32) = true := by simp; omega
        have HF : Hid (ls.all len32 = false) := Lib.hid (all32_not k hlt h32)
        have HC := Lib.hid (hashes1_any A9 ls[k].length c9 wr)
        rw [hnl] at HC
        clear h32 hnl
        go_wp2_with (go_at_call 104; refine HC.out.mono ?_; rintro e w' ⟨rfl, rfl⟩)
        go_ret
        exact ⟨_, rfl, by rw [HF.out]; simp, HI.out.1⟩
    · have HA : Hid (ls.all len32 = true) := Lib.hid (all32_of (fun j h => HI.out.2 j h (by omega)))
      go_wp2
      go_ret
      exact ⟨_, rfl, by rw [HA.out]; rfl, HI.out.1⟩
theorem containsf_any (v : Value) (ls : List (List UInt8)) (hsm : ls.length ≤ 1000000000) (w : World) (hx : Rws w v ls) :
    Calls Tryz.prog 48 #[v, .func (.func 104) #[] #[]] w fun e w' => e = .returned (.bool (!(ls.all len32))) ∧ Below w.heap.size w w' := by
  have HI := Lib.hid (indexf_any v ls hsm w hx)
  obtain ⟨A, c, rfl⟩ := hx.form
  go_enter Tryz.func48, Tryz.ntmps48
  go_wp2_with fail
  refine HI.out.mono ?_
  rintro e w1 ⟨r, rfl, h1, h2⟩
  have H1 := Lib.hid (And.intro h1 h2)
  clear h1 h2
  go_wp2
  go_ret
  exact ⟨by rw [← H1.out.1]; rfl, H1.out.2⟩
theorem hashes_any (v : Value) (n : Nat) (ls : List (List UInt8)) (hsm : ls.length ≤ 1000000000) (w : World) (hx : Rws w v ls) :
    Calls Tryz.prog 95 #[v, .int .i64 n] w fun e w' => e = .returned (.bool (decide (ls.length = n) && ls.all len32)) ∧ Below w.heap.size w w' := by
  have HI := Lib.hid (containsf_any v ls hsm w hx)
  obtain ⟨A, c, rfl⟩ := hx.form
  go_enter Tryz.func95, Tryz.ntmps95
  by_cases h : ls.length = n
  · have hb : (((ls.length : Nat) : Int) == (n : Int)) = true := by simp [h]
    have H := Lib.hid h
    clear h
    go_wp2_with fail
    refine HI.out.mono ?_
    rintro e w1 ⟨rfl, h2⟩
    have H2 := Lib.hid h2
    clear h2
    go_wp2
    go_ret
    exact ⟨by rw [H.out]; simp, H2.out⟩
  · have hb : (((ls.length : Nat) : Int) == (n : Int)) = false := by simp; omega
    have H := Lib.hid h
    clear h
    go_wp2
    go_ret
    exact ⟨by simp [H.out], Below.refl _ _⟩
end Go.Proofs.YtlkgeifmppadmaaGreat
namespace Go.Proofs.YtlkgeifmppadmaaGreat
open Go.RowKit
set_option linter.unusedVariables false
set_option linter.unusedSimpArgs false

set_option maxRecDepth 100000 in
set_option maxHeartbeats 2000000 in
theorem pright_any (v : Value) (s : SigD) (hp : s.parts.length ≤ 1000000000) (hq : s.path.length ≤ 1000000000) (w : World) (hv : SigV w v s) :
    Calls Tryz.prog 77 #[v] w fun e w' => e = .returned (.bool (rightB s)) ∧ Below w.heap.size w w' := by
  obtain ⟨p, q, rfl, h1, h2⟩ := hv
  obtain ⟨P, cp, rfl⟩ := h1.form
  obtain ⟨Q, cq, rfl⟩ := h2.form
  have hk0 := Blk.new w 38 [.int .i64 s.index, .slice P s.parts.length cp, .slice Q s.path.length cq]
  have HB0 := Lib.hid ((Below.refl w.heap.size w).alloc (Nat.le_refl _) (.cells #[.int .i64 s.index, .slice P s.parts.length cp, .slice Q s.path.length cq] 38))
  have HR := Lib.hid (And.intro h1 (And.intro h2 hk0))
  have HH1 := Lib.hid (fun wz hz => hashes_any (.slice P s.parts.length cp) 64 s.parts hp wz hz)
  have HH2 := Lib.hid (fun wz hz => hashes_any (.slice Q s.path.length cq) 4 s.path hq wz hz)
  have HRB : Hid (rightB s = ((decide (0 ≤ s.index) && decide (s.index < 16)) && (decide (s.parts.length = 64) && s.parts.all len32) && (decide (s.path.length = 4) && s.path.all len32))) := Lib.hid (by
    unfold rightB
    cases decide (0 ≤ s.index) <;> cases decide (s.index < 16) <;> cases decide (s.parts.length = 64) <;> cases decide (s.path.length = 4) <;> cases s.parts.all len32 <;> cases s.path.all len32 <;> rfl)
  clear h1 h2 hk0
  generalize rightB s = RB at *
  generalize s.index = ix at *
  generalize hb1 : (decide (s.parts.length = 64) && s.parts.all len32) = B1 at *
  generalize hb2 : (decide (s.path.length = 4) && s.path.all len32) = B2 at *
  clear hb1 hb2
  generalize s.parts = Ps at *
  generalize s.path = Qs at *
  go_enter Tryz.func77, Tryz.ntmps77
  by_cases k1 : 0 ≤ ix
  · by_cases k2 : ix < 16
    · cases B1 with
      | false =>
        have HT : Hid (RB = false) := Lib.hid (by rw [HRB.out]; simp)
        go_wp2_with fail
        refine (HH1.out _ (HR.out.1.below HB0.out)).mono ?_
        rintro e w1 ⟨rfl, h1⟩
        have HW := Lib.hid (And.intro (HR.out.2.2.below h1) (HB0.out.trans (h1.mono (by simp))))
        have q0 := HW.out.1.cell 0 _ rfl
        have q1 := HW.out.1.cell 1 _ rfl
        have q2 := HW.out.1.cell 2 _ rfl
        clear h1
        go_wp2
        go_ret
        exact ⟨by rw [HT.out]; rfl, HW.out.2⟩
      | true =>
        have HT : Hid (RB = B2) := Lib.hid (by rw [HRB.out]; simp [k1, k2])
        go_wp2_with fail
        refine (HH1.out _ (HR.out.1.below HB0.out)).mono ?_
        rintro e w1 ⟨rfl, h1⟩
        have HW := Lib.hid (And.intro (HR.out.2.2.below h1) (HB0.out.trans (h1.mono (by simp))))
        have q0 := HW.out.1.cell 0 _ rfl
        have q1 := HW.out.1.cell 1 _ rfl
        have q2 := HW.out.1.cell 2 _ rfl
        clear h1
        go_wp2_with fail
        refine (HH2.out _ (HR.out.2.1.below HW.out.2)).mono ?_
        rintro e w2 ⟨rfl, h2⟩
        have HW2 := Lib.hid (HW.out.2.trans (h2.mono HW.out.2.size))
        clear h2
        go_wp2
        go_ret
        exact ⟨by rw [HT.out]; rfl, HW2.out⟩
    · have HT : Hid (RB = false) := Lib.hid (by rw [HRB.out]; simp [k2])
      go_wp2
      go_ret
      exact ⟨by rw [HT.out]; rfl, HB0.out⟩
  · have HT : Hid (RB = false) := Lib.hid (by rw [HRB.out]; simp [k1])
    go_wp2
    go_ret
    exact ⟨by rw [HT.out]; rfl, HB0.out⟩
end Go.Proofs.YtlkgeifmppadmaaGreat
namespace Go.Proofs.YtlkgeifmppadmaaGreat
open Go.RowKit
set_option linter.unusedVariables false
set_option linter.unusedSimpArgs false

def atS (ix : Int) : Nat → Int
  | 0 => ix
  | h + 1 => atS ix h / 2
theorem side_ok : ∀ i : Fin 16, ∀ h : Fin 4, 0 ≤ atS (i.val : Int) h.val ∧ atS (i.val : Int) h.val < 16 ∧ (sideS (i.val : Int) h.val == 0) = (atS (i.val : Int) h.val % 2 == 0) := by decide +kernel
theorem side_at (ix : Int) (h0 : 0 ≤ ix) (h1 : ix < 16) (h : Nat) (hh : h < 4) : 0 ≤ atS ix h ∧ atS ix h < 16 ∧ (sideS ix h == 0) = (atS ix h % 2 == 0) := by
  obtain ⟨n, rfl⟩ := Int.eq_ofNat_of_zero_le h0
  exact side_ok ⟨n, by omega⟩ ⟨h, hh⟩
set_option maxRecDepth 100000 in
set_option maxHeartbeats 4000000 in
theorem pverify_any (vp vm v : Value) (pub msg : List UInt8) (s : SigD) (hpub : pub.length ≤ 1000000000) (hmsg : msg.length ≤ 1000000000) (hp : s.parts.length ≤ 1000000000) (hq : s.path.length ≤ 1000000000) (w : World) (hvp : Bys w vp pub) (hvm : Bys w vm msg) (hv : SigV w v s) :
    Calls Tryz.prog 53 #[vp, vm, v] w fun e w' => e = .returned (.bool (verifyB pub msg s)) ∧ Below w.heap.size w w' := by
  have HRI := Lib.hid (fun (wz : World) (v : Value) (hz : SigV wz v s) => pright_any v s hp hq wz hz)
  obtain ⟨p, q, rfl, h1, h2⟩ := hv
  obtain ⟨P, cp, rfl⟩ := h1.form
  obtain ⟨Q, cq, rfl⟩ := h2.form
  obtain ⟨A, c, rfl⟩ := hvp.form
  obtain ⟨B, d, rfl⟩ := hvm.form
  have HR := Lib.hid (And.intro h1 (And.intro h2 (And.intro hvp hvm)))
  have HVB : Hid (verifyB pub msg s = (rightB s && (upS s.index s.path (rootS msg s.parts) 4 == pub))) := Lib.hid rfl
  clear h1 h2 hvp hvm
  generalize verifyB pub msg s = VB at *
  go_enter Tryz.func53, Tryz.ntmps53
  go_wp2_with fail
  refine calls_at (fun w1 => Below w.heap.size w w1 ∧ Blk w1 w.heap.size 38 [.int .i64 s.index, .slice P s.parts.length cp, .slice Q s.path.length cq]) ⟨(Below.refl w.heap.size w).alloc (Nat.le_refl _) _, Blk.new w 38 [.int .i64 s.index, .slice P s.parts.length cp, .slice Q s.path.length cq]⟩ ?_
  rintro w1 ⟨hb1, hk1⟩
  have H1 := Lib.hid (And.intro hb1 hk1)
  refine (HRI.out w1 _ ⟨_, _, rfl, HR.out.1.below hb1, HR.out.2.1.below hb1⟩).mono ?_
  clear hb1 hk1
  rintro e w2 ⟨rfl, h2⟩
  have H2 := Lib.hid (And.intro (H1.out.1.trans (h2.mono H1.out.1.size)) (H1.out.2.below h2))
  clear h2 H1
  cases hrb : rightB s with
  | false =>
    have HF : Hid (VB = false) := Lib.hid (by rw [HVB.out, hrb]; rfl)
    clear hrb
    go_wp2
    go_ret
    exact ⟨by rw [HF.out]; rfl, H2.out.1⟩
  | true =>
    obtain ⟨k1, k2, k3, k4, k5, k6⟩ := rightB_facts hrb
    have HK := Lib.hid (And.intro k3 (And.intro k4 (And.intro k5 k6)))
    have HVB2 : Hid (VB = (upS s.index s.path (rootS msg s.parts) 4 == pub)) := Lib.hid (by rw [HVB.out, hrb]; rfl)
    clear hrb k3 k4 k5 k6
    have q1 := H2.out.2.cell 1 _ rfl
    have q0 := H2.out.2.cell 0 _ rfl
    have q2 := H2.out.2.cell 2 _ rfl
    go_wp2_with fail
    refine (proot_any _ _ msg s.parts HK.out.1 HK.out.2.2.1 hmsg w2 (HR.out.2.2.2.below H2.out.1) (HR.out.1.below H2.out.1)).mono ?_
    rintro e w3 ⟨v3, rfl, h3, h4⟩
    have HRL := Lib.hid (tagH_length 12 [rootAcc (digS msg) s.parts 64])
    have HRE : Hid (rootS msg s.parts = tagH 12 [rootAcc (digS msg) s.parts 64]) := Lib.hid rfl
    have H3 := Lib.hid (And.intro (H2.out.1.trans (h4.mono H2.out.1.size)) (And.intro (H2.out.2.below h4) (h3.bys)))
    have q1 := H3.out.2.1.cell 1 _ rfl
    have q0 := H3.out.2.1.cell 0 _ rfl
    have q2 := H3.out.2.1.cell 2 _ rfl
    clear h3 h4
    go_wp2
    go_loopw [7, 9, 27] (fun v7 v9 v27 wr => ∃ h : Nat, v9 = .int .i64 (atS s.index h) ∧ v27 = .int .i64 h ∧ h ≤ s.path.length ∧ Hid (Below w.heap.size w wr ∧ Bys wr v7 (upS s.index s.path (rootS msg s.parts) h))) (fun _ _ v _ => s.path.length - (intOf v).toNat)
    case atStart => exact ⟨0, rfl, rfl, Nat.zero_le _, Lib.hid ⟨H3.out.1, H3.out.2.2⟩⟩
    case round =>
      obtain ⟨h, rfl, rfl, hh, HI⟩ := hrel
      clear q0 q1 q2
      by_cases hpl : h < s.path.length
      · have hlt : h < 4 := by have := HK.out.2.1; omega
        obtain ⟨g, o, un, rfl, hg, -, -, hcu, hbu⟩ := HR.out.2.1.at' h hpl
        have p0 := (HI.out.1.cell (p := ⟨g, o + h, none⟩) hg).trans hcu
        have hbn := hbu.below HI.out.1
        obtain ⟨A9, c9, rfl⟩ := hbn.form
        obtain ⟨A7, c7, rfl⟩ := HI.out.2.form
        have hlN : s.path[h].length = 32 := HK.out.2.2.2 h hpl
        have hlU := upS_length s.index s.path (rootS msg s.parts) (by rw [HRE.out]; exact HRL.out) h
        have HUP : Hid (upS s.index s.path (rootS msg s.parts) (h + 1) = if (sideS s.index h == 0) = true then tagH 14 [upS s.index s.path (rootS msg s.parts) h, s.path[h]] else tagH 14 [s.path[h], upS s.index s.path (rootS msg s.parts) h]) := Lib.hid (by
          show (if (sideS s.index h == 0) = true then tagH 14 [upS s.index s.path (rootS msg s.parts) h, s.path.getD h []] else tagH 14 [s.path.getD h [], upS s.index s.path (rootS msg s.parts) h]) = _
          rw [List.getD_eq_getElem?_getD, List.getElem?_eq_getElem hpl]; rfl)
        obtain ⟨ha0, ha1, haS⟩ := side_at s.index k1 k2 h hlt
        rw [haS] at HUP
        have HAN : Hid (atS s.index (h + 1) = atS s.index h / 2) := Lib.hid rfl
        clear haS
        have H9 := Lib.hid (And.intro HI.out.2 hbn)
        have hU2E : ∃ U2, upS s.index s.path (rootS msg s.parts) (h + 1) = U2 := ⟨_, rfl⟩
        obtain ⟨U2, hU2E⟩ := hU2E
        rw [hU2E] at HUP
        have HU2E := Lib.hid hU2E
        clear hU2E hcu hbu hbn
        generalize upS s.index s.path (rootS msg s.parts) h = U at *
        generalize s.path[h] = N at *
        generalize atS s.index h = AT at *
        have HL9 := Lib.hid (And.intro hlN hlU)
        clear hlN hlU
        have hsz := HI.out.1.size
        by_cases hside : AT % 2 = 0
        ·
          have hsf : (AT % 2 == 0) = true := by simpa using hside
          have HU2 : Hid (U2 = tagH 14 [U, N]) := Lib.hid (by rw [HUP.out, if_pos hsf])
          clear hside
          have hal := (Below.refl wr.heap.size wr).alloc (Nat.le_refl _) (.cells #[.slice A7 U.length c7, .slice A9 N.length c9] 26)
          go_wp2_with fail
          refine (ptag_any 14 14 rfl _ [U, N] (by have := HL9.out; simp; omega) (by simp) _ (new2 26 (b := wr.heap.size) rfl H9.out.1 H9.out.2)).mono ?_
          rintro e w5 ⟨v5, rfl, h5, h6⟩
          have hb5 := hal.trans (h6.mono (by simp))
          have H5 := Lib.hid (And.intro (HI.out.1.trans (hb5.mono hsz)) h5.bys)
          clear h5 h6 hb5 hal
          go_wp2
          go_roundw
          case rel => exact ⟨h + 1, by rw [HAN.out], by go_num, by omega, Lib.hid ⟨H5.out.1, by rw [HU2E.out, HU2.out]; exact H5.out.2⟩⟩
          case measure => simp [intOf]; omega
        ·
          have hsf : (AT % 2 == 0) = false := by simpa using hside
          have HU2 : Hid (U2 = tagH 14 [N, U]) := Lib.hid (by rw [HUP.out, hsf]; rfl)
          clear hside
          have hal := (Below.refl wr.heap.size wr).alloc (Nat.le_refl _) (.cells #[.slice A9 N.length c9, .slice A7 U.length c7] 26)
          go_wp2_with fail
          refine (ptag_any 14 14 rfl _ [N, U] (by have := HL9.out; simp; omega) (by simp) _ (new2 26 (b := wr.heap.size) rfl H9.out.2 H9.out.1)).mono ?_
          rintro e w5 ⟨v5, rfl, h5, h6⟩
          have hb5 := hal.trans (h6.mono (by simp))
          have H5 := Lib.hid (And.intro (HI.out.1.trans (hb5.mono hsz)) h5.bys)
          clear h5 h6 hb5 hal
          go_wp2
          go_roundw
          case rel => exact ⟨h + 1, by rw [HAN.out], by go_num, by omega, Lib.hid ⟨H5.out.1, by rw [HU2E.out, HU2.out]; exact H5.out.2⟩⟩
          case measure => simp [intOf]; omega
      · have h4 : Hid (h = 4) := Lib.hid (by have := HK.out.2.1; omega)
        have hbA := HR.out.2.2.1.below HI.out.1
        obtain ⟨A7, c7, rfl⟩ := HI.out.2.form
        have HSM := Lib.hid (same_bytes _ _ _ _ wr HI.out.2 hbA)
        have HUE : Hid (upS s.index s.path (rootS msg s.parts) 4 = upS s.index s.path (rootS msg s.parts) h) := Lib.hid (by rw [h4.out])
        rw [HUE.out] at HVB2
        have HB := Lib.hid HI.out.1
        have hnl : ¬ (h : Int) < (s.path.length : Int) := by omega
        clear hbA HI hpl HUE
        generalize upS s.index s.path (rootS msg s.parts) h = U at *
        go_wp2_with fail
        refine HSM.out.mono ?_
        rintro e w' ⟨rfl, rfl⟩
        go_wp2
        go_ret
        exact ⟨by rw [HVB2.out]; rfl, HB.out⟩
end Go.Proofs.YtlkgeifmppadmaaGreat
namespace Go.Proofs.YtlkgeifmppadmaaGreat
open Go.RowKit
set_option linter.unusedVariables false

/-- The new row lies where the old one did, or in a new block. -/
def LieOf (w : World) (v v' : Value) : Prop := v'.ownBlock = v.ownBlock ∨ ∃ q, v'.ownBlock = some q ∧ w.heap.size ≤ q
section
variable {P : Program} {w : World}
theorem run_append_lie (base : Nat) (t ty e : TypeId) (i : TypeInfo) (z : Value) (size bytes : Nat) (ht : P.underlying t = some (.slice e)) (hi : P.info? e = some i) (hz : i.zero = some z)
    (hsize : i.size = size) (hby : i.bytes = bytes) (hzs : z.cells.size = size) (hsz : 0 < size)
    (v : Value) (n : Nat) (xs : List Value) (hown : w.ownsRow base e size v n xs)
    (x : Value) (m : Nat) (news : List Value) (hx : NewsOf w x m size news)
    (h63 : n + m ≤ maxLen) (hbytes : (n + m) * bytes ≤ 140737488355328) (hbase : base ≤ w.heap.size) :
    ∃ v' w', (Builtin.append_ #[t, t] ty #[v, x]).run P w = .ok v' w' ∧ w'.ownsRow base e size v' (n + m) (xs ++ news) ∧ w.grownBy w' v.ownBlock ∧ LieOf w v v' := by
  obtain ⟨hl, h1, A, c, rfl, hA⟩ := hx
  rcases hA with rfl | ⟨ad, rfl, hn⟩
  · have hnil : news = [] := List.eq_nil_of_length_eq_zero (by simpa using hl)
    subst hnil
    exact ⟨v, w, run_append_none t ty e i size base ht hi v n xs hown A c, by simpa using hown, ⟨rfl, rfl, rfl, Nat.le_refl _, fun _ _ _ => rfl⟩, .inl rfl⟩
  · obtain ⟨v', w', hr, h2, h3, _, h5⟩ := run_append_own_at (P := P) w base t ty e i z size bytes ht hi hz hsize hby hzs hsz v n xs hown ad m c news hl hn h1 h63 hbytes hbase
    refine ⟨v', w', hr, h2, h3, ?_⟩
    rcases h5 with h5 | h5
    · exact .inl h5
    · exact .inr ⟨_, h5, Nat.le_refl _⟩
theorem wpList_append_lie {ops : Array Oper} {rest : List Oper} {o : Oper} {a : Act} {Q : Exit → Act → World → Prop} (hgd : o.guard = none) (s x : Operand) (t : TypeId)
    (ho : o.op = .call { callee := .builtin .append, args := #[s, x], argTypes := #[t, t] })
    (base : Nat) (e : TypeId) (i : TypeInfo) (z : Value) (size bytes : Nat) (ht : P.underlying t = some (.slice e)) (hi : P.info? e = some i) (hz : i.zero = some z)
    (hsize : i.size = size) (hby : i.bytes = bytes) (hzs : z.cells.size = size) (hsz : 0 < size)
    (v : Value) (n : Nat) (xs : List Value) (hs : a.eval s = v) (hown : w.ownsRow base e size v n xs)
    (y : Value) (m : Nat) (news : List Value) (hy : a.eval x = y) (hx : NewsOf w y m size news)
    (h63 : n + m ≤ maxLen) (hbytes : (n + m) * bytes ≤ 140737488355328) (hbase : base ≤ w.heap.size)
    (h : ∀ v' w', w'.ownsRow base e size v' (n + m) (xs ++ news) → w.grownBy w' v.ownBlock → LieOf w v v' → wpList P ops Q rest (a.put o.dst v') w') : wpList P ops Q (o :: rest) a w :=
  wpList_plain hgd fun _ hK => by
    obtain ⟨v', w', hr, h2, h3, h4⟩ := run_append_lie (P := P) base t o.type e i z size bytes ht hi hz hsize hby hzs hsz v n xs hown y m news hx h63 hbytes hbase
    unfold Oper.wp execOp
    simp only [ho, resolve, invoke, builtin, Sem.run_bind, Sem.run_pure, Result.andThen_ok, List.map_toArray, List.map_cons, List.map_nil, hs, hy, hr]
    exact hK _ _ (h v' w' h2 h3 h4)
/-- The same, as a step of a region that draws. -/
theorem step_append_lie {ops : Array Oper} {o : Oper} {a : Act} {K : Act → World → Prop} {Q : Exit → Act → World → Prop} {E : Prop} (hgd : o.guard = none) (s x : Operand) (t : TypeId)
    (ho : o.op = .call { callee := .builtin .append, args := #[s, x], argTypes := #[t, t] })
    (base : Nat) (e : TypeId) (i : TypeInfo) (z : Value) (size bytes : Nat) (ht : P.underlying t = some (.slice e)) (hi : P.info? e = some i) (hz : i.zero = some z)
    (hsize : i.size = size) (hby : i.bytes = bytes) (hzs : z.cells.size = size) (hsz : 0 < size)
    (v : Value) (n : Nat) (xs : List Value) (hs : a.eval s = v) (hown : w.ownsRow base e size v n xs)
    (y : Value) (m : Nat) (news : List Value) (hy : a.eval x = y) (hx : NewsOf w y m size news)
    (h63 : n + m ≤ maxLen) (hbytes : (n + m) * bytes ≤ 140737488355328) (hbase : base ≤ w.heap.size)
    (h : ∀ v' w', w'.ownsRow base e size v' (n + m) (xs ++ news) → w.grownBy w' v.ownBlock → LieOf w v v' → K (a.put o.dst v') w') :
    if Region.wanted o (yielded ops a.tmps) = true then Oper.wp P o a w K Q else E := by
  have hw : Region.wanted o (yielded ops a.tmps) = true := by simp [Region.wanted, hgd]
  rw [if_pos hw]
  obtain ⟨v', w', hr, h2, h3, h4⟩ := run_append_lie (P := P) base t o.type e i z size bytes ht hi hz hsize hby hzs hsz v n xs hown y m news hx h63 hbytes hbase
  unfold Oper.wp execOp
  simp only [ho, resolve, invoke, builtin, Sem.run_bind, Sem.run_pure, Result.andThen_ok, List.map_toArray, List.map_cons, List.map_nil, hs, hy, hr]
  exact h v' w' h2 h3 h4
end
theorem LieOf.ne {w : World} {v v' : Value} {b : Nat} (h : LieOf w v v') (hne : v.ownBlock ≠ some b) (hb : b < w.heap.size) : v'.ownBlock ≠ some b := by
  rcases h with e | ⟨q, e, hq⟩
  · rw [e]; exact hne
  · rw [e]
    intro e2
    injection e2 with e2
    omega
end Go.Proofs.YtlkgeifmppadmaaGreat
namespace Go.Proofs.YtlkgeifmppadmaaGreat
open Go.RowKit
set_option linter.unusedVariables false
set_option linter.unusedSimpArgs false

/-- A writer at block b holds the bytes l. -/
structure WrAt (w : World) (base b : Nat) (v : Value) (l : List UInt8) : Prop where
  blk : Blk w b 154 [v]
  own : OwnB w base v l
  ne : v.ownBlock ≠ some b
  le : base ≤ b
/-- The same, whatever its slice. -/
def WrX (w : World) (base b : Nat) (l : List UInt8) : Prop := ∃ v, WrAt w base b v l
theorem WrX.below {w w1 : World} {base b : Nat} {l : List UInt8} (h : WrX w base b l) (hb : Below w.heap.size w w1) : WrX w1 base b l := by
  obtain ⟨v, h1, h2, h3, h4⟩ := h
  exact ⟨v, h1.below hb, h2.keep hb, h3, h4⟩
theorem WrAt.after {w W : World} {base b : Nat} {v v2 : Value} {l m : List UInt8} (h : WrAt w base b v l) (o : OwnB W base v2 m) (hg : w.grownBy W v.ownBlock) (hlie : LieOf w v v2) :
    Blk W b 154 [v] ∧ WrX (W.setCell ⟨b, 0, none⟩ v2) base b m ∧ Below base w (W.setCell ⟨b, 0, none⟩ v2) := by
  have hne : v2.ownBlock ≠ some b := hlie.ne h.ne h.blk.lt
  have hb : Blk W b 154 [v] := h.blk.grown hg (fun e => h.ne e.symm)
  have hle := h.le
  have hlt := h.blk.lt
  exact ⟨hb, ⟨v2, hb.set 0 _ (by simp), ownsRow_set o _ _ (show v2.ownBlock ≠ some b from hne), hne, h.le⟩, ((Below.refl base w).grown hg (by omega) (fun k e => h.own.ge e)).setCell (show base ≤ b from hle) _⟩
theorem WrAt.after_new {w W : World} {base b : Nat} {v v2 : Value} {l m : List UInt8} {o : Obj} (h : WrAt w base b v l) (ho : OwnB W base v2 m) (hg : (w.alloc o).grownBy W v.ownBlock) (hlie : LieOf (w.alloc o) v v2) (hb : base ≤ w.heap.size) :
    Blk W b 154 [v] ∧ WrX (W.setCell ⟨b, 0, none⟩ v2) base b m ∧ Below base w (W.setCell ⟨b, 0, none⟩ v2) := by
  have h2 : WrAt (w.alloc o) base b v l := ⟨h.blk.alloc o, World.ownsRow.alloc h.own o, h.ne, h.le⟩
  obtain ⟨h3, h4, h5⟩ := h2.after ho hg hlie
  exact ⟨h3, h4, ((Below.refl base w).alloc hb o).trans h5⟩
theorem wnew_any (w : World) : Calls Tryz.prog 80 #[] w fun e w' => e = .returned (.pointer (some ⟨w.heap.size, 0, none⟩)) ∧ WrX w' w.heap.size w.heap.size [] ∧ Below w.heap.size w w' := by
  go_enter Tryz.func80, Tryz.ntmps80
  go_wp2
  go_ret
  exact ⟨rfl, ⟨_, Blk.new w 154 [.slice none 0 0], World.ownsRow_nil _ _ _ _, by simp [Value.ownBlock], Nat.le_refl _⟩, (Below.refl _ _).alloc (Nat.le_refl _) _⟩
theorem wdone_any (base b : Nat) (l : List UInt8) (hsm : l.length ≤ 1000000000) (w : World) (h : WrX w base b l) : Calls Tryz.prog 83 #[.pointer (some ⟨b, 0, none⟩)] w (RetB w l) := by
  obtain ⟨v, hk, ho, hne, hle⟩ := h
  obtain ⟨A, c, rfl⟩ := ho.form
  have HC := Lib.hid (clone_any _ l (by omega) w ho.bys)
  have q0 := hk.cell 0 _ rfl
  go_enter Tryz.func83, Tryz.ntmps83
  go_wp2_with fail
  refine HC.out.mono ?_
  rintro e w1 ⟨v1, rfl, h1, h2⟩
  have H1 := Lib.hid (And.intro h1 h2)
  clear h1 h2
  go_wp2
  go_ret
  exact ⟨_, rfl, H1.out.1, H1.out.2⟩
set_option maxHeartbeats 1000000 in
theorem wraw_any (base b : Nat) (l m : List UInt8) (u : Value) (hsm : l.length ≤ 1000000000) (hsm2 : m.length ≤ 1000000000) (w : World) (hbw : base ≤ w.heap.size) (h : WrX w base b l) (hu : Bys w u m) :
    Calls Tryz.prog 81 #[.pointer (some ⟨b, 0, none⟩), u] w fun e w' => e = .returned (.tuple #[]) ∧ WrX w' base b (l ++ m) ∧ Below base w w' := by
  obtain ⟨i0, hi0, hz0, hz1, hz2⟩ := info_parts info_u8
  obtain ⟨v, hw⟩ := h
  obtain ⟨A, c, rfl⟩ := hw.own.form
  obtain ⟨B, d, rfl⟩ := hu.form
  have q0 := hw.blk.cell 0 _ rfl
  have f0 := hw.blk.free 0
  have HW := Lib.hid (And.intro hw hu)
  clear hw hu
  go_enter Tryz.func81, Tryz.ntmps81
  go_wp2_with (at_builtin; (refine wpList_append_lie rfl (.tmp 8) (.tmp 9) 26 rfl base 5 i0 (.int .u8 0) 1 1 Tryz.underlying26 hi0 hz0 hz1 hz2 rfl (by decide) _ l.length (bys l) rfl HW.out.1.own _ m.length (bys m) rfl HW.out.2.news (by unfold maxLen; omega) (by omega) hbw ?_); intro v2 W2 hown2 hgrow2 hlie2; obtain ⟨A2, c2, rfl⟩ := (Sho.own hown2).form; have H2 := Lib.hid (HW.out.1.after (OwnB.append rfl hown2) hgrow2 hlie2); have q2 := H2.out.1.cell 0 _ rfl; have f2 := H2.out.1.free 0; clear hown2 hgrow2 hlie2)
  go_end0
  exact ⟨rfl, H2.out.2.1, H2.out.2.2⟩
set_option maxHeartbeats 4000000 in
theorem wnum4_any (base b : Nat) (l : List UInt8) (n : Int) (hn0 : 0 ≤ n) (hn1 : n < 4294967296) (hsm : l.length ≤ 1000000000) (w : World) (hbw : base ≤ w.heap.size) (h : WrX w base b l) :
    Calls Tryz.prog 99 #[.pointer (some ⟨b, 0, none⟩), .int .u32 n, .int .i64 4] w fun e w' => e = .returned (.tuple #[]) ∧ WrX w' base b (l ++ be4 n) ∧ Below base w w' := by
  obtain ⟨i0, hi0, hz0, hz1, hz2⟩ := info_parts info_u8
  have HX := Lib.hid h
  clear h
  go_enter Tryz.func99, Tryz.ntmps99
  go_wp2
  go_loopw [6] (fun v6 wr => ∃ (j : Nat) (i : Int), v6 = .int .i64 i ∧ (-1 ≤ i ∧ i ≤ 3) ∧ Hid (j ≤ 4 ∧ i = 3 - (j : Int) ∧ Below base w wr ∧ WrX wr base b (l ++ (be4 n).take j))) (fun v _ => (intOf v + 1).toNat)
  case atStart => exact ⟨0, 3, rfl, by decide, Lib.hid ⟨by decide, rfl, Below.refl _ _, by rw [List.take_zero, List.append_nil]; exact HX.out⟩⟩
  case round =>
    obtain ⟨j, i, rfl, hi, HJ⟩ := hrel
    obtain rfl | rfl | rfl | rfl | rfl : j = 0 ∨ j = 1 ∨ j = 2 ∨ j = 3 ∨ j = 4 := by have := HJ.out.1; omega
    · obtain rfl : i = 3 := by have := HJ.out.2.1; omega
      obtain ⟨v, hw⟩ := HJ.out.2.2.2
      obtain ⟨A, c, rfl⟩ := hw.own.form
      have q0 := hw.blk.cell 0 _ rfl
      have f0 := hw.blk.free 0
      have HT : Hid (l ++ (be4 n).take 1 = (l ++ (be4 n).take 0) ++ [ub (n / 16777216)]) := Lib.hid (by rw [List.append_assoc]; rfl)
      have hll : (l ++ (be4 n).take 0).length ≤ 1000000100 := by rw [List.length_append, List.length_take]; omega
      have eb : IntKind.u8.wrap (n / 16777216) = (((ub (n / 16777216)).toNat : Nat) : Int) := by rw [ub_val]; simp [IntKind.wrap, IntKind.bits, IntKind.signed]
      have ew : IntKind.i64.wrap 24 = 24 := by decide
      have HW := Lib.hid hw
      have hsz : base ≤ wr.heap.size := Nat.le_trans hbw HJ.out.2.2.1.size
      have hgb := hw.blk.lt
      clear hw
      generalize l ++ (be4 n).take 0 = D at *
      generalize ub (n / 16777216) = x at *
      go_wp2
      go_region_law (first
        | ((refine step_append_lie rfl (.tmp 17) (.tmp 23) 26 rfl base 5 i0 (.int .u8 0) 1 1 Tryz.underlying26 hi0 hz0 hz1 hz2 rfl (by decide) _ D.length (bys D) rfl (by first | exact World.ownsRow.alloc HW.out.own _ | exact HW.out.own) _ 1 (bys [x]) rfl (by first | exact Bys.new _ [x] 1 rfl (by decide) | exact Bys.new_drew _ [x] 1 rfl (by decide)) (by unfold maxLen; omega) (by omega) (by simp; omega) ?_); intro v2 W2 hown2 hgrow2 hlie2
           obtain ⟨A2, c2, rfl⟩ := (Sho.own hown2).form
           have H2 := Lib.hid (WrAt.after_new HW.out (OwnB.append rfl hown2) ⟨hgrow2.os, hgrow2.tape, hgrow2.output, hgrow2.size, hgrow2.block⟩ hlie2 hsz)
           have q2 := H2.out.1.cell 0 _ rfl
           have f2 := H2.out.1.free 0
           clear hown2 hgrow2 hlie2))
      all_goals
        go_wp2
        go_roundw
        case rel => exact ⟨1, 2, rfl, by decide, Lib.hid ⟨by decide, by decide, HJ.out.2.2.1.trans H2.out.2.2, by rw [HT.out]; exact H2.out.2.1⟩⟩
        case measure => simp [intOf]
    · obtain rfl : i = 2 := by have := HJ.out.2.1; omega
      obtain ⟨v, hw⟩ := HJ.out.2.2.2
      obtain ⟨A, c, rfl⟩ := hw.own.form
      have q0 := hw.blk.cell 0 _ rfl
      have f0 := hw.blk.free 0
      have HT : Hid (l ++ (be4 n).take 2 = (l ++ (be4 n).take 1) ++ [ub (n / 65536)]) := Lib.hid (by rw [List.append_assoc]; rfl)
      have hll : (l ++ (be4 n).take 1).length ≤ 1000000100 := by rw [List.length_append, List.length_take]; omega
      have eb : IntKind.u8.wrap (n / 65536) = (((ub (n / 65536)).toNat : Nat) : Int) := by rw [ub_val]; simp [IntKind.wrap, IntKind.bits, IntKind.signed]
      have ew : IntKind.i64.wrap 16 = 16 := by decide
      have HW := Lib.hid hw
      have hsz : base ≤ wr.heap.size := Nat.le_trans hbw HJ.out.2.2.1.size
      have hgb := hw.blk.lt
      clear hw
      generalize l ++ (be4 n).take 1 = D at *
      generalize ub (n / 65536) = x at *
      go_wp2
      go_region_law (first
        | ((refine step_append_lie rfl (.tmp 17) (.tmp 23) 26 rfl base 5 i0 (.int .u8 0) 1 1 Tryz.underlying26 hi0 hz0 hz1 hz2 rfl (by decide) _ D.length (bys D) rfl (by first | exact World.ownsRow.alloc HW.out.own _ | exact HW.out.own) _ 1 (bys [x]) rfl (by first | exact Bys.new _ [x] 1 rfl (by decide) | exact Bys.new_drew _ [x] 1 rfl (by decide)) (by unfold maxLen; omega) (by omega) (by simp; omega) ?_); intro v2 W2 hown2 hgrow2 hlie2
           obtain ⟨A2, c2, rfl⟩ := (Sho.own hown2).form
           have H2 := Lib.hid (WrAt.after_new HW.out (OwnB.append rfl hown2) ⟨hgrow2.os, hgrow2.tape, hgrow2.output, hgrow2.size, hgrow2.block⟩ hlie2 hsz)
           have q2 := H2.out.1.cell 0 _ rfl
           have f2 := H2.out.1.free 0
           clear hown2 hgrow2 hlie2))
      all_goals
        go_wp2
        go_roundw
        case rel => exact ⟨2, 1, rfl, by decide, Lib.hid ⟨by decide, by decide, HJ.out.2.2.1.trans H2.out.2.2, by rw [HT.out]; exact H2.out.2.1⟩⟩
        case measure => simp [intOf]
    · obtain rfl : i = 1 := by have := HJ.out.2.1; omega
      obtain ⟨v, hw⟩ := HJ.out.2.2.2
      obtain ⟨A, c, rfl⟩ := hw.own.form
      have q0 := hw.blk.cell 0 _ rfl
      have f0 := hw.blk.free 0
      have HT : Hid (l ++ (be4 n).take 3 = (l ++ (be4 n).take 2) ++ [ub (n / 256)]) := Lib.hid (by rw [List.append_assoc]; rfl)
      have hll : (l ++ (be4 n).take 2).length ≤ 1000000100 := by rw [List.length_append, List.length_take]; omega
      have eb : IntKind.u8.wrap (n / 256) = (((ub (n / 256)).toNat : Nat) : Int) := by rw [ub_val]; simp [IntKind.wrap, IntKind.bits, IntKind.signed]
      have ew : IntKind.i64.wrap 8 = 8 := by decide
      have HW := Lib.hid hw
      have hsz : base ≤ wr.heap.size := Nat.le_trans hbw HJ.out.2.2.1.size
      have hgb := hw.blk.lt
      clear hw
      generalize l ++ (be4 n).take 2 = D at *
      generalize ub (n / 256) = x at *
      go_wp2
      go_region_law (first
        | ((refine step_append_lie rfl (.tmp 17) (.tmp 23) 26 rfl base 5 i0 (.int .u8 0) 1 1 Tryz.underlying26 hi0 hz0 hz1 hz2 rfl (by decide) _ D.length (bys D) rfl (by first | exact World.ownsRow.alloc HW.out.own _ | exact HW.out.own) _ 1 (bys [x]) rfl (by first | exact Bys.new _ [x] 1 rfl (by decide) | exact Bys.new_drew _ [x] 1 rfl (by decide)) (by unfold maxLen; omega) (by omega) (by simp; omega) ?_); intro v2 W2 hown2 hgrow2 hlie2
           obtain ⟨A2, c2, rfl⟩ := (Sho.own hown2).form
           have H2 := Lib.hid (WrAt.after_new HW.out (OwnB.append rfl hown2) ⟨hgrow2.os, hgrow2.tape, hgrow2.output, hgrow2.size, hgrow2.block⟩ hlie2 hsz)
           have q2 := H2.out.1.cell 0 _ rfl
           have f2 := H2.out.1.free 0
           clear hown2 hgrow2 hlie2))
      all_goals
        go_wp2
        go_roundw
        case rel => exact ⟨3, 0, rfl, by decide, Lib.hid ⟨by decide, by decide, HJ.out.2.2.1.trans H2.out.2.2, by rw [HT.out]; exact H2.out.2.1⟩⟩
        case measure => simp [intOf]
    · obtain rfl : i = 0 := by have := HJ.out.2.1; omega
      obtain ⟨v, hw⟩ := HJ.out.2.2.2
      obtain ⟨A, c, rfl⟩ := hw.own.form
      have q0 := hw.blk.cell 0 _ rfl
      have f0 := hw.blk.free 0
      have HT : Hid (l ++ (be4 n).take 4 = (l ++ (be4 n).take 3) ++ [ub (n)]) := Lib.hid (by rw [List.append_assoc]; rfl)
      have hll : (l ++ (be4 n).take 3).length ≤ 1000000100 := by rw [List.length_append, List.length_take]; omega
      have eb : IntKind.u8.wrap (n) = (((ub (n)).toNat : Nat) : Int) := by rw [ub_val]; simp [IntKind.wrap, IntKind.bits, IntKind.signed]
      have ew : IntKind.i64.wrap 0 = 0 := by decide
      have HW := Lib.hid hw
      have hsz : base ≤ wr.heap.size := Nat.le_trans hbw HJ.out.2.2.1.size
      have hgb := hw.blk.lt
      clear hw
      generalize l ++ (be4 n).take 3 = D at *
      generalize ub (n) = x at *
      go_wp2
      go_region_law (first
        | ((refine step_append_lie rfl (.tmp 17) (.tmp 23) 26 rfl base 5 i0 (.int .u8 0) 1 1 Tryz.underlying26 hi0 hz0 hz1 hz2 rfl (by decide) _ D.length (bys D) rfl (by first | exact World.ownsRow.alloc HW.out.own _ | exact HW.out.own) _ 1 (bys [x]) rfl (by first | exact Bys.new _ [x] 1 rfl (by decide) | exact Bys.new_drew _ [x] 1 rfl (by decide)) (by unfold maxLen; omega) (by omega) (by simp; omega) ?_); intro v2 W2 hown2 hgrow2 hlie2
           obtain ⟨A2, c2, rfl⟩ := (Sho.own hown2).form
           have H2 := Lib.hid (WrAt.after_new HW.out (OwnB.append rfl hown2) ⟨hgrow2.os, hgrow2.tape, hgrow2.output, hgrow2.size, hgrow2.block⟩ hlie2 hsz)
           have q2 := H2.out.1.cell 0 _ rfl
           have f2 := H2.out.1.free 0
           clear hown2 hgrow2 hlie2))
      all_goals
        go_wp2
        go_roundw
        case rel => exact ⟨4, -1, rfl, by decide, Lib.hid ⟨by decide, by decide, HJ.out.2.2.1.trans H2.out.2.2, by rw [HT.out]; exact H2.out.2.1⟩⟩
        case measure => simp [intOf]
    · obtain rfl : i = -1 := by have := HJ.out.2.1; omega
      have HB := Lib.hid (And.intro HJ.out.2.2.2 HJ.out.2.2.1)
      clear HJ
      go_wp2
      go_end0
      exact ⟨rfl, by have h := HB.out.1; rwa [List.take_of_length_le (by rw [be4_length]; decide)] at h, HB.out.2⟩
theorem wnum_any (base b : Nat) (l : List UInt8) (n : Int) (hn0 : 0 ≤ n) (hn1 : n < 4294967296) (hsm : l.length ≤ 1000000000) (w : World) (hbw : base ≤ w.heap.size) (h : WrX w base b l) :
    Calls Tryz.prog 82 #[.pointer (some ⟨b, 0, none⟩), .int .u32 n] w fun e w' => e = .returned (.tuple #[]) ∧ WrX w' base b (l ++ be4 n) ∧ Below base w w' := by
  have H := Lib.hid (wnum4_any base b l n hn0 hn1 hsm w hbw h)
  clear h
  go_enter Tryz.func82, Tryz.ntmps82
  go_wp2_with fail
  refine H.out.mono ?_
  rintro e w1 ⟨rfl, h1, h2⟩
  have H1 := Lib.hid (And.intro h1 h2)
  clear h1 h2
  go_wp2
  go_end0
  exact ⟨rfl, H1.out.1, H1.out.2⟩
end Go.Proofs.YtlkgeifmppadmaaGreat
namespace Go.Proofs.YtlkgeifmppadmaaGreat
open Go.RowKit
set_option linter.unusedVariables false
set_option linter.unusedSimpArgs false

theorem under_sig : Tryz.prog.underlying 38 = some (.struct (Tryz.prog.fieldsOf 38)) := by kernel_rfl
theorem size_sig : (Tryz.prog.info? 38).map (·.size) = some 3 := by kernel_rfl
set_option maxRecDepth 100000 in
set_option maxHeartbeats 4000000 in
theorem rosign_any (b : Nat) (vm : Value) (seed msg : List UInt8) (ix : Int) (h0 : 0 ≤ ix) (h1 : ix < 16) (hsm : seed.length ≤ 1000000000) (hsm2 : msg.length ≤ 1000000000) (w : World) (ho : OwnerAt w b seed) (hm : Bys w vm msg) :
    Calls Tryz.prog 25 #[.pointer (some ⟨b, 0, none⟩), .int .i64 ix, vm] w fun e w' => ∃ v, e = .returned v ∧ SigV w' v (signS seed ix msg) ∧ Below w.heap.size w w' := by
  obtain ⟨i0, hi0, hz0, hz1, hz2⟩ := info_parts info_bytes
  obtain ⟨vs, vl, us, k1, k2, k3, k4⟩ := ho
  obtain ⟨As, cs, rfl⟩ := k2.form
  obtain ⟨Am, cm, rfl⟩ := hm.form
  obtain ⟨Al, cl, rfl⟩ := k3.form
  obtain ⟨gl, ol, rfl, -, hgl, hcl, -, hcells⟩ := k3.place (by decide)
  have HO := Lib.hid (And.intro k1 (And.intro k2 (And.intro hm (And.intro hcells k4))))
  have hbw := k1.lt
  have q0 := k1.cell 0 _ rfl
  clear k1 k2 k3 k4 hcells hm
  go_enter Tryz.func25, Tryz.ntmps25
  go_wp2_with fail
  refine calls_at (fun w1 => Below w.heap.size w w1 ∧ Blk w1 w.heap.size 38 [.int .i64 0, .slice none 0 0, .slice none 0 0]) ⟨(Below.refl w.heap.size w).alloc (Nat.le_refl _) _, Blk.new w 38 [.int .i64 0, .slice none 0 0, .slice none 0 0]⟩ ?_
  rintro w1 ⟨hb1, hk1⟩
  refine (rsign_any _ _ seed msg ix (by omega) hsm hsm2 w1 (HO.out.2.1.below hb1) (HO.out.2.2.1.below hb1)).mono ?_
  rintro e w2 ⟨v2, rfl, h2, h3⟩
  have hlt1 := hk1.lt
  have H2 := Lib.hid (And.intro (hb1.trans (h3.mono hb1.size)) (And.intro (hk1.below h3) (h2.foot.mono (fun g hg => (show w.heap.size < g ∧ g < w2.heap.size from ⟨by omega, hg.2⟩)))))
  obtain ⟨A2, c2, rfl⟩ := h2.rws.form
  clear hb1 hk1 h2 h3 q0
  have HPL := Lib.hid (partsS_length seed ix msg)
  have HSG : Hid (signS seed ix msg = ⟨ix, partsS seed ix msg, sigPath seed ix 4⟩) := Lib.hid rfl
  generalize partsS seed ix msg = PS at *
  have hsw := H2.out.2.1.lt
  go_wp2
  refine code_at (fun w3 => Below w.heap.size w w3 ∧ Blk w3 w.heap.size 38 [.int .i64 0, .slice none 0 0, .slice none 0 0] ∧ RwsF (fun g => w.heap.size < g ∧ g < w2.heap.size) w3 (.slice A2 PS.length c2) PS ∧ Blk w3 w2.heap.size 38 [.int .i64 ix, .slice A2 PS.length c2, .slice none 0 0]) ?_ ?_
  · have hal : Below w2.heap.size w2 (w2.alloc (.cells #[.int .i64 ix, .slice A2 PS.length c2, .slice none 0 0] 38)) := (Below.refl _ _).alloc (Nat.le_refl _) _
    exact ⟨H2.out.1.trans (hal.mono H2.out.1.size), H2.out.2.1.below hal, H2.out.2.2.chg (Chg.of_below (S := fun _ => False) hal) (fun g hg h => h), Blk.new w2 38 [.int .i64 ix, .slice A2 PS.length c2, .slice none 0 0]⟩
  intro w3 hw3
  have HW := Lib.hid hw3
  clear hw3 H2
  generalize w2.heap.size = B7 at *
  go_loopw [8] (fun v8 wr => ∃ h : Nat, v8 = .int .i64 h ∧ h ≤ 4 ∧ Hid (Below w.heap.size w wr ∧ Blk wr w.heap.size 38 [.int .i64 0, .slice none 0 0, .slice none 0 0] ∧ RwsF (fun g => w.heap.size < g ∧ g < B7) wr (.slice A2 PS.length c2) PS ∧ ∃ pv, Blk wr B7 38 [.int .i64 ix, .slice A2 PS.length c2, pv] ∧ OwnU wr w.heap.size (B7 + 1) pv (sigPath seed ix h))) (fun v _ => 4 - (intOf v).toNat)
  case atStart => exact ⟨0, rfl, by decide, Lib.hid ⟨HW.out.1, HW.out.2.1, HW.out.2.2.1, _, HW.out.2.2.2, OwnU.nil _ _ _⟩⟩
  case round =>
    clear HW
    obtain ⟨h, rfl, hh, HI⟩ := hrel
    by_cases hlt : h < 4
    · obtain ⟨pv, kb7, kpu⟩ := HI.out.2.2.2
      obtain ⟨ul, eul, hul⟩ := HO.out.2.2.2.2 h (by omega)
      obtain ⟨Ah, ch, rfl⟩ := hul.form
      have hsib := sib_lt seed ix h0 h1 h hlt
      have hsib0 := (sib_at ix h0 h1 h hlt).1
      obtain ⟨gh, oh, un, rfl, hgh, -, -, hcu, hbu⟩ := hul.at' (sibS ix h).toNat hsib
      have HACC : Hid (sigPath seed ix (h + 1) = sigPath seed ix h ++ [(levelS seed h)[(sibS ix h).toNat]]) := Lib.hid (by
        show sigPath seed ix h ++ [(levelS seed h).getD (sibS ix h).toNat []] = _
        rw [List.getD_eq_getElem?_getD, List.getElem?_eq_getElem hsib]; rfl)
      have esib : bits BinOp.xor .i64 (ix / 2 ^ h) 1 = ((sibS ix h).toNat : Int) := by rw [Int.toNat_of_nonneg hsib0]; rfl
      have hpl : (sigPath seed ix h).length ≤ 10 := by rw [sigPath_length]; omega
      have hslen : (((sibS ix h).toNat : Nat) : Int) < (((levelS seed h).length : Nat) : Int) := by omega
      obtain ⟨An, cn, rfl⟩ := hbu.form
      have HUN : Hid (0 < ((levelS seed h)[(sibS ix h).toNat]).length → ∀ g, (Value.slice An ((levelS seed h)[(sibS ix h).toNat]).length cn).ownBlock = some g → g < w.heap.size) := Lib.hid (fun hp g hg => Sho.lt hbu hp g hg)
      have HBU := Lib.hid (hbu.below HI.out.1)
      have r0 := (HI.out.1.cell (p := ⟨b, 1, none⟩) hbw).trans (HO.out.1.cell 1 _ rfl)
      have r1 := (HI.out.1.cell (p := ⟨gl, ol + h, none⟩) hgl).trans (HO.out.2.2.2.1 h _ eul)
      have r2 := (HI.out.1.cell (p := ⟨gh, oh + (sibS ix h).toNat, none⟩) hgh).trans hcu
      obtain ⟨us3, ku1, ku2⟩ := kpu
      obtain ⟨A3, c3, rfl⟩ := (Sho.own ku1).form
      have r3 := kb7.cell 2 _ rfl
      have HK := Lib.hid (And.intro kb7 (And.intro ku1 ku2))
      have hsz := HI.out.1.size
      have h7 := kb7.lt
      have hh5 : (h : Int) < 5 := by omega
      have hh0 : (0 : Int) ≤ (h : Int) := by omega
      have ehc : IntKind.u64.wrap (h : Int) = (h : Int) := by rw [show IntKind.u64.wrap (h : Int) = (h : Int) % 18446744073709551616 by simp [IntKind.wrap, IntKind.bits, IntKind.signed]]; omega
      clear hcu hbu kb7 ku1 ku2 hul eul hsib0
      generalize (levelS seed h)[(sibS ix h).toNat] = X at *
      generalize (sibS ix h).toNat = sb at *
      generalize levelS seed h = L at *
      generalize sigPath seed ix h = SP at *
      go_wp2
      go_region_law (first
        | ((refine step_append_any rfl (.tmp 23) (.tmp 38) 27 rfl (B7 + 1) 26 i0 (.slice none 0 0) 1 24 Tryz.underlying27 hi0 hz0 hz1 hz2 rfl (by decide) _ SP.length us3 rfl (by first | exact HK.out.2.1 | exact World.ownsRow.alloc HK.out.2.1 _) _ 1 [.slice An X.length cn] rfl (by first | exact news1 _ 26 _ rfl | exact news1_drew _ 26 _ rfl) (by unfold maxLen; omega) (by omega) (by simp; omega) ?_); intro v9 W9 hown9 hgrow9'
           obtain ⟨A9, c9, rfl⟩ := (Sho.own hown9).form
           have hgrow9 : (wr.alloc (.cells #[.slice An X.length cn] 26)).grownBy W9 (Value.slice A3 SP.length c3).ownBlock := ⟨hgrow9'.os, hgrow9'.tape, hgrow9'.output, hgrow9'.size, hgrow9'.block⟩
           have HC9 : Hid (OwnU W9 w.heap.size (B7 + 1) (.slice A9 (SP.length + 1) c9) (SP ++ [X]) ∧ Chg wr W9 (fun k => (Value.slice A3 SP.length c3).ownBlock = some k)) := Lib.hid ⟨OwnU.push (w := wr) (by omega) HK.out.2.1 HK.out.2.2 HBU.out HUN.out hown9 hgrow9, ((Chg.refl wr _).alloc _).trans (Chg.of_grown hgrow9) (fun i _ h => h.symm)⟩
           have HK9 : Hid (Blk W9 B7 38 [.int .i64 ix, .slice A2 PS.length c2, .slice A3 SP.length c3]) := Lib.hid (HK.out.1.chg HC9.out.2 (fun e => by have := (World.ownsRow.lt HK.out.2.1 B7 e).1; omega))
           have s3 := HK9.out.cell 2 _ rfl
           have f3 := HK9.out.free 2
           clear hown9 hgrow9 hgrow9'))
      all_goals
        have hset : Chg W9 (W9.setCell ⟨B7, 2, none⟩ (.slice A9 (SP.length + 1) c9)) (fun k => k = B7) := (Chg.refl W9 _).setCell _ _ (fun _ => rfl)
        have hC9 : Chg wr W9 (fun k => B7 + 1 ≤ k) := HC9.out.2.mono (fun k _ e => (World.ownsRow.lt HK.out.2.1 k e).1)
        have HALL := Lib.hid (show Below w.heap.size w (W9.setCell ⟨B7, 2, none⟩ (.slice A9 (SP.length + 1) c9)) ∧ Blk (W9.setCell ⟨B7, 2, none⟩ (.slice A9 (SP.length + 1) c9)) w.heap.size 38 [.int .i64 0, .slice none 0 0, .slice none 0 0] ∧ RwsF (fun g => w.heap.size < g ∧ g < B7) (W9.setCell ⟨B7, 2, none⟩ (.slice A9 (SP.length + 1) c9)) (.slice A2 PS.length c2) PS ∧ ∃ pv, Blk (W9.setCell ⟨B7, 2, none⟩ (.slice A9 (SP.length + 1) c9)) B7 38 [.int .i64 ix, .slice A2 PS.length c2, pv] ∧ OwnU (W9.setCell ⟨B7, 2, none⟩ (.slice A9 (SP.length + 1) c9)) w.heap.size (B7 + 1) pv (sigPath seed ix (h + 1)) from
          ⟨(HI.out.1.trans (hC9.below hsz (fun k hk => by omega))).trans (hset.below (by have := hC9.size; omega) (fun k hk => by omega)), (HI.out.2.1.chg hC9 (by omega)).setOther _ _ (fun e => by have e' : w.heap.size = B7 := e; omega), (HI.out.2.2.1.chg hC9 (fun g hg e => by omega)).chg hset (fun g hg e => by omega), _, HK9.out.set 2 _ (by simp), by rw [HACC.out]; exact HC9.out.1.chg hset (fun g hg => by omega)⟩)
        clear hset hC9 s3 f3
        go_wp2
        go_roundw
        case rel => exact ⟨h + 1, by go_num, by omega, HALL⟩
        case measure => simp [intOf]; omega
    · obtain rfl : h = 4 := by omega
      obtain ⟨pv, kb7, kpu⟩ := HI.out.2.2.2
      obtain ⟨A3, c3, rfl⟩ := kpu.rws.form
      have HK := Lib.hid (And.intro kb7 (And.intro HI.out.2.1 (And.intro HI.out.2.2.1 kpu)))
      have HBel := Lib.hid HI.out.1
      clear kb7 kpu HI
      have q0 := HK.out.1.cell 0 _ rfl
      have q1 := HK.out.1.cell 1 _ rfl
      have q2 := HK.out.1.cell 2 _ rfl
      have z0 := HK.out.2.1.cell 0 _ rfl
      have z1 := HK.out.2.1.cell 1 _ rfl
      have z2 := HK.out.2.1.cell 2 _ rfl
      have ff : ∀ k, wr.frozen? ⟨w.heap.size, k, none⟩ = false := fun k => HK.out.2.1.free k
      go_wp2
      have hch : Chg wr (((wr.setCell ⟨w.heap.size, 0, none⟩ (.int .i64 ix)).setCell ⟨w.heap.size, 1, none⟩ (.slice A2 PS.length c2)).setCell ⟨w.heap.size, 2, none⟩ (.slice A3 (sigPath seed ix 4).length c3)) (fun k => k = w.heap.size) := chg_cell (chg_cell (chg_cell (Chg.refl wr _) 0 _) 1 _) 2 _
      have hfin : Blk (((wr.setCell ⟨w.heap.size, 0, none⟩ (.int .i64 ix)).setCell ⟨w.heap.size, 1, none⟩ (.slice A2 PS.length c2)).setCell ⟨w.heap.size, 2, none⟩ (.slice A3 (sigPath seed ix 4).length c3)) w.heap.size 38 [.int .i64 ix, .slice A2 PS.length c2, .slice A3 (sigPath seed ix 4).length c3] := ((HK.out.2.1.set 0 _ (by simp)).set 1 _ (by simp)).set 2 _ (by simp)
      refine bodyPost_ret (v := .agg [.int .i64 ix, .slice A2 PS.length c2, .slice A3 (sigPath seed ix 4).length c3].toArray) ?_ ?_ ⟨_, rfl, ?_, ?_⟩
      · exact results_cell_row Tryz.results25 _ _ w.heap.size 38 _ (0, 0) _ rfl hfin under_sig rfl size_sig
      · rfl
      · rw [HSG.out]
        exact ⟨_, _, rfl, (HK.out.2.2.1.chg hch (fun g hg e => by omega)).rws, (HK.out.2.2.2.chg2 hch (by omega)).rws⟩
      · exact HBel.out.trans (hch.below HBel.out.size (fun k hk => by omega))
end Go.Proofs.YtlkgeifmppadmaaGreat
namespace Go.Proofs.YtlkgeifmppadmaaGreat
open Go.RowKit
set_option linter.unusedVariables false
set_option linter.unusedSimpArgs false

structure CkD where
  num : Int
  root : List UInt8
def CkV (w : World) (v : Value) (c : CkD) : Prop := ∃ p, v = .agg #[.int .i64 c.num, p] ∧ Bys w p c.root
theorem CkV.below {w w1 : World} {v : Value} {c : CkD} (h : CkV w v c) (hb : Below w.heap.size w w1) : CkV w1 v c := by
  obtain ⟨p, e, h1⟩ := h
  exact ⟨p, e, h1.below hb⟩
def ckB (c : CkD) : Bool := decide (0 ≤ c.num) && decide (c.num ≤ 256) && decide (c.root.length = 32)

set_option maxRecDepth 100000 in
theorem rckright_any (v : Value) (c : CkD) (hl : c.root.length ≤ 1000000000) (w : World) (hv : CkV w v c) :
    Calls Tryz.prog 61 #[v] w fun e w' => e = .returned (.bool (ckB c)) ∧ Below w.heap.size w w' := by
  obtain ⟨p, rfl, h1⟩ := hv
  obtain ⟨P, cp, rfl⟩ := h1.form
  have HB0 := Lib.hid ((Below.refl w.heap.size w).alloc (Nat.le_refl _) (.cells #[.int .i64 c.num, .slice P c.root.length cp] 36))
  have HRB : Hid (ckB c = (decide (0 ≤ c.num) && decide (c.num ≤ 256) && decide (c.root.length = 32))) := Lib.hid rfl
  clear h1
  generalize ckB c = RB at *
  generalize c.num = ix at *
  generalize c.root = R at *
  go_enter Tryz.func61, Tryz.ntmps61
  by_cases k1 : 0 ≤ ix
  · by_cases k2 : ix ≤ 256
    · have HF : Hid (RB = decide (R.length = 32)) := Lib.hid (by rw [HRB.out]; simp [k1, k2])
      by_cases k3 : R.length = 32
      · have n3 : (((R.length : Nat) : Int) == 32) = true := by simp [k3]
        have HT : Hid (RB = true) := Lib.hid (by rw [HF.out]; simp [k3])
        clear k3
        go_wp2
        go_ret
        exact ⟨by rw [HT.out]; rfl, HB0.out⟩
      · have n3 : (((R.length : Nat) : Int) == 32) = false := by simp; omega
        have HT : Hid (RB = false) := Lib.hid (by rw [HF.out]; simp [k3])
        clear k3
        go_wp2
        go_ret
        exact ⟨by rw [HT.out]; rfl, HB0.out⟩
    · have HT : Hid (RB = false) := Lib.hid (by rw [HRB.out]; simp [k2])
      go_wp2
      go_ret
      exact ⟨by rw [HT.out]; rfl, HB0.out⟩
  · have HT : Hid (RB = false) := Lib.hid (by rw [HRB.out]; simp [k1])
    go_wp2
    go_ret
    exact ⟨by rw [HT.out]; rfl, HB0.out⟩
end Go.Proofs.YtlkgeifmppadmaaGreat
namespace Go.Proofs.YtlkgeifmppadmaaGreat
open Go.RowKit
set_option linter.unusedVariables false

/-- A row of one's own; what is frozen of its block lies behind the row. -/
def OwnG (w : World) (base : Nat) (e : TypeId) (size : Nat) (v : Value) (n : Nat) (xs : List Value) : Prop :=
  w.ownsRow base e size v n xs ∨
  (xs.length = n * size ∧ ∃ g cap cur fz, v = .slice (some ⟨g, 0, none⟩) n cap ∧ base ≤ g ∧ w.heap[g]? = some (.cells cur e fz) ∧ cur.size ≤ fz.1 ∧ n ≤ cap ∧ cap ≤ maxLen ∧ cur.size = cap * size ∧ cur.toList.take (n * size) = xs)
namespace OwnG
variable {w w1 : World} {base : Nat} {e : TypeId} {size n : Nat} {v : Value} {xs : List Value}
theorem sho (h : OwnG w base e size v n xs) : Sho w v n size xs := by
  rcases h with h | ⟨hl, g, cap, cur, fz, rfl, hb, hg, -, hn, hc, hs, ht⟩
  · exact Sho.own h
  · refine ⟨hl, .inr ⟨g, 0, cap, rfl, hn, hc, (Array.getElem?_eq_some_iff.1 hg).1, fun j u hj => ?_⟩⟩
    rw [← ht, List.getElem?_take] at hj
    split at hj
    · simp only [World.cell?, hg, Nat.zero_add]
      simpa using hj
    · cases hj
theorem lt (h : OwnG w base e size v n xs) : ∀ k, v.ownBlock = some k → base ≤ k ∧ k < w.heap.size := by
  rcases h with h | ⟨hl, g, cap, cur, fz, rfl, hb, hg, -⟩
  · exact fun k hk => World.ownsRow.lt h k hk
  · intro k hk
    simp [Value.ownBlock] at hk
    subst hk
    exact ⟨hb, (Array.getElem?_eq_some_iff.1 hg).1⟩
theorem chg {S : Nat → Prop} (h : OwnG w base e size v n xs) (hc : Chg w w1 S) (hn : ∀ k, v.ownBlock = some k → ¬ S k) : OwnG w1 base e size v n xs := by
  rcases h with h | ⟨hl, g, cap, cur, fz, rfl, hb, hg, r⟩
  · exact .inl (ownsRow_chg h hc hn)
  · exact .inr ⟨hl, g, cap, cur, fz, rfl, hb, (hc.block g (Array.getElem?_eq_some_iff.1 hg).1 (hn g (by simp [Value.ownBlock]))).trans hg, r⟩
theorem mono {b' : Nat} (h : OwnG w base e size v n xs) (hb : b' ≤ base) : OwnG w b' e size v n xs := by
  rcases h with h | ⟨hl, g, cap, cur, fz, rfl, hbg, r⟩
  · exact .inl (own_mono' h hb)
  · exact .inr ⟨hl, g, cap, cur, fz, rfl, Nat.le_trans hb hbg, r⟩
end OwnG
section
variable {P : Program} {w : World}
theorem store_seg (g o : Nat) (t : TypeId) (fz : Nat × Nat) (vs : List Value) : ∀ (i : Nat) (cur : Array Value) (w : World), w.heap[g]? = some (.cells cur t fz) → cur.size ≤ fz.1 → o + i + vs.length ≤ cur.size → (∀ v ∈ vs, v.oneCell' = true) →
    ∃ cur', cur'.size = cur.size ∧ cur'.toList.take (o + i + vs.length) = cur.toList.take (o + i) ++ vs ∧ (storeCells ⟨g, o, none⟩ vs i).run P w = .ok () (w.setRow g cur') := by
  induction vs with
  | nil =>
    intro i cur w hg _ _ _
    refine ⟨cur, rfl, by simp, ?_⟩
    rw [setRow_self w g cur t fz hg]
    rfl
  | cons v rest ih =>
    intro i cur w hg hf hl h1
    simp only [List.length_cons] at hl
    have hi : o + i < cur.size := by omega
    have ea : (⟨g, o, none⟩ : Addr).add i = ⟨g, o + i, none⟩ := Go.WideShapes.add_plain _ _ _
    have ec : w.cell? ⟨g, o + i, none⟩ = some cur[o + i] := by simp [World.cell?, hg, hi]
    have ef : w.frozen? ⟨g, o + i, none⟩ = false := by
      obtain ⟨lo, hi'⟩ := fz
      have : ¬ lo ≤ o + i := by simp only at hf; omega
      simp [World.frozen?, hg, this]
    have es : (store ((⟨g, o, none⟩ : Addr).add i) v).run P w = .ok () (w.setRow g (cur.setIfInBounds (o + i) v)) := by
      rw [ea, run_store P w _ v _ (h1 v (by simp)), ec]
      simp [ef, setCell_eq_setRow w g (o + i) cur t fz v hg]
    obtain ⟨cur', k1, k2, k3⟩ := ih (i + 1) (cur.setIfInBounds (o + i) v) (w.setRow g (cur.setIfInBounds (o + i) v)) (setRow_heap w g cur _ t _ hg) (by simpa using hf) (by simp; omega) (fun x hx => h1 x (by simp [hx]))
    refine ⟨cur', by simpa using k1, ?_, ?_⟩
    · have e1 : o + i + (v :: rest).length = o + (i + 1) + rest.length := by simp; omega
      rw [e1, k2]
      have e2 : (cur.setIfInBounds (o + i) v).toList.take (o + (i + 1)) = cur.toList.take (o + i) ++ [v] := by
        have hlt : o + i < (cur.setIfInBounds (o + i) v).toList.length := by simpa using hi
        rw [show o + (i + 1) = (o + i) + 1 from rfl, List.take_succ_eq_append_getElem hlt]
        simp [Array.toList_setIfInBounds, List.take_set_of_le]
      rw [e2, List.append_assoc]
      rfl
    · simp only [storeCells, Sem.run_bind, es, Result.andThen_ok, k3, setRow_setRow]

theorem run_append_g (base : Nat) (t ty e : TypeId) (i : TypeInfo) (z : Value) (size bytes : Nat) (ht : P.underlying t = some (.slice e)) (hi : P.info? e = some i) (hz : i.zero = some z)
    (hsize : i.size = size) (hby : i.bytes = bytes) (hzs : z.cells.size = size) (hsz : 0 < size)
    (v : Value) (n : Nat) (xs : List Value) (hown : OwnG w base e size v n xs)
    (x : Value) (m : Nat) (news : List Value) (hx : NewsOf w x m size news)
    (h63 : n + m ≤ maxLen) (hbytes : (n + m) * bytes ≤ 140737488355328) (hbase : base ≤ w.heap.size) :
    ∃ v' w', (Builtin.append_ #[t, t] ty #[v, x]).run P w = .ok v' w' ∧ OwnG w' base e size v' (n + m) (xs ++ news) ∧ w.grownBy w' v.ownBlock := by
  rcases hown with hown | ⟨hl, g, cap, cur, fz, rfl, hb, hg, hf, hn, hc, hs, htk⟩
  · obtain ⟨v', w', r, h2, h3⟩ := run_append_any (P := P) base t ty e i z size bytes ht hi hz hsize hby hzs hsz v n xs hown x m news hx h63 hbytes hbase
    exact ⟨v', w', r, .inl h2, h3⟩
  · subst hsize
    subst hby
    obtain ⟨hnl, h1, A, c, rfl, hA⟩ := hx
    rcases hA with rfl | ⟨ad, rfl, hnews⟩
    · have hnil : news = [] := List.eq_nil_of_length_eq_zero (by simpa using hnl)
      subst hnil
      refine ⟨.slice (some ⟨g, 0, none⟩) n cap, w, ?_, .inr ⟨by simpa using hl, g, cap, cur, fz, rfl, hb, hg, hf, hn, hc, hs, by simpa using htk⟩, ⟨rfl, rfl, rfl, Nat.le_refl _, fun _ _ _ => rfl⟩⟩
      have hfc : (Builtin.firstCells i.size 0 (.slice A 0 c)).run P w = .ok #[] w := by
        cases A <;> simp [Builtin.firstCells, loadCells, loadCellsFrom]
      simp [Builtin.append_, run_underlying ht, sizeOf, typeInfo, hi, Builtin.lenOf, hfc, hn, storeCells]
    · have hsm : n + m ≤ 9223372036854775807 := by simp only [maxLen] at h63; omega
      have hlen : (xs ++ news).length = (n + m) * i.size := by rw [List.length_append, hl, hnl, Nat.add_mul]
      by_cases hroom : n + m ≤ cap
      · have hfit : n * i.size + news.length ≤ cur.size := by rw [hnl, hs, ← Nat.add_mul]; exact Nat.mul_le_mul_right _ hroom
        have hfc := run_firstCells_some (P := P) w i.size m ad m c news hnl hnews
        obtain ⟨cur', k1, k2, k3⟩ := store_seg (P := P) g (n * i.size) e fz news 0 cur w hg hf (by simpa using hfit) h1
        refine ⟨.slice (some ⟨g, 0, none⟩) (n + m) cap, w.setRow g cur', ?_, .inr ⟨hlen, g, cap, cur', fz, rfl, hb, setRow_heap w g cur _ e _ hg, by omega, hroom, hc, by omega, ?_⟩, ⟨rfl, rfl, rfl, by simp, fun k _ hk => setRow_other w g k _ (fun e => hk (by simp [Value.ownBlock, e]))⟩⟩
        · simp [Builtin.append_, run_underlying ht, sizeOf, typeInfo, hi, Builtin.lenOf, hroom, hfc, Addr.add_lit, k3]
        · rw [Nat.add_mul, ← hnl]
          rw [Nat.add_zero] at k2
          rw [k2, htk]
      · have holds : ∀ j u, xs[j]? = some u → w.cell? ((⟨g, 0, none⟩ : Addr).add j) = some u := by
          intro j u hj
          rw [Go.WideShapes.add_plain, Nat.zero_add]
          rw [← htk, List.getElem?_take] at hj
          split at hj
          · simp only [World.cell?, hg]
            simpa using hj
          · cases hj
        have hr := run_append_grow (P := P) w t ty e i z ht hi hz ⟨g, 0, none⟩ n cap xs hl holds ad m c news hnl hnews (by omega) (by omega) (growslice_fits (by omega) hbytes)
        have hge := grownCap_ge w (n + m) cap e
        have hcm2 : grownCap w (n + m) cap e ≤ maxLen := grownCap_le_maxLen w (n + m) cap e h63
        refine ⟨_, _, hr, .inl ⟨hlen, .inr ⟨w.heap.size, _, _, rfl, hbase, heap_alloc_new w.drew _, hge, hcm2, ?_, ?_⟩⟩, ⟨rfl, rfl, rfl, by simp, fun k hk _ => heap_alloc_old w.drew _ hk⟩⟩
        · simp only [Array.size_append, List.size_toArray, size_zeroCells, hzs, hl, hnl, ← Nat.add_mul]
          congr 1
          omega
        · simp only [Array.toList_append, List.append_assoc]
          rw [← List.append_assoc, ← hlen]
          exact List.take_left
theorem wpList_append_g {ops : Array Oper} {rest : List Oper} {o : Oper} {a : Act} {Q : Exit → Act → World → Prop} (hgd : o.guard = none) (s x : Operand) (t : TypeId)
    (ho : o.op = .call { callee := .builtin .append, args := #[s, x], argTypes := #[t, t] })
    (base : Nat) (e : TypeId) (i : TypeInfo) (z : Value) (size bytes : Nat) (ht : P.underlying t = some (.slice e)) (hi : P.info? e = some i) (hz : i.zero = some z)
    (hsize : i.size = size) (hby : i.bytes = bytes) (hzs : z.cells.size = size) (hsz : 0 < size)
    (v : Value) (n : Nat) (xs : List Value) (hs : a.eval s = v) (hown : OwnG w base e size v n xs)
    (y : Value) (m : Nat) (news : List Value) (hy : a.eval x = y) (hx : NewsOf w y m size news)
    (h63 : n + m ≤ maxLen) (hbytes : (n + m) * bytes ≤ 140737488355328) (hbase : base ≤ w.heap.size)
    (h : ∀ v' w', OwnG w' base e size v' (n + m) (xs ++ news) → w.grownBy w' v.ownBlock → wpList P ops Q rest (a.put o.dst v') w') : wpList P ops Q (o :: rest) a w :=
  wpList_plain hgd fun _ hK => by
    obtain ⟨v', w', hr, h2, h3⟩ := run_append_g (P := P) base t o.type e i z size bytes ht hi hz hsize hby hzs hsz v n xs hown y m news hx h63 hbytes hbase
    unfold Oper.wp execOp
    simp only [ho, resolve, invoke, builtin, Sem.run_bind, Sem.run_pure, Result.andThen_ok, List.map_toArray, List.map_cons, List.map_nil, hs, hy, hr]
    exact hK _ _ (h v' w' h2 h3)
theorem step_append_g {ops : Array Oper} {o : Oper} {a : Act} {K : Act → World → Prop} {Q : Exit → Act → World → Prop} {E : Prop} (hgd : o.guard = none) (s x : Operand) (t : TypeId)
    (ho : o.op = .call { callee := .builtin .append, args := #[s, x], argTypes := #[t, t] })
    (base : Nat) (e : TypeId) (i : TypeInfo) (z : Value) (size bytes : Nat) (ht : P.underlying t = some (.slice e)) (hi : P.info? e = some i) (hz : i.zero = some z)
    (hsize : i.size = size) (hby : i.bytes = bytes) (hzs : z.cells.size = size) (hsz : 0 < size)
    (v : Value) (n : Nat) (xs : List Value) (hs : a.eval s = v) (hown : OwnG w base e size v n xs)
    (y : Value) (m : Nat) (news : List Value) (hy : a.eval x = y) (hx : NewsOf w y m size news)
    (h63 : n + m ≤ maxLen) (hbytes : (n + m) * bytes ≤ 140737488355328) (hbase : base ≤ w.heap.size)
    (h : ∀ v' w', OwnG w' base e size v' (n + m) (xs ++ news) → w.grownBy w' v.ownBlock → K (a.put o.dst v') w') :
    if Region.wanted o (yielded ops a.tmps) = true then Oper.wp P o a w K Q else E := by
  have hw : Region.wanted o (yielded ops a.tmps) = true := by simp [Region.wanted, hgd]
  rw [if_pos hw]
  obtain ⟨v', w', hr, h2, h3⟩ := run_append_g (P := P) base t o.type e i z size bytes ht hi hz hsize hby hzs hsz v n xs hown y m news hx h63 hbytes hbase
  unfold Oper.wp execOp
  simp only [ho, resolve, invoke, builtin, Sem.run_bind, Sem.run_pure, Result.andThen_ok, List.map_toArray, List.map_cons, List.map_nil, hs, hy, hr]
  exact h v' w' h2 h3
/-- What a conversion of a string leaves: a row of one's own. -/
theorem bytes_own (w : World) (base : Nat) (e : TypeId) (s : ByteArray) (hb : base ≤ w.heap.size) (hm : s.size ≤ maxLen) :
    OwnG (Lib.bytesWorld w e s) base e 1 (.slice (some ⟨w.heap.size, 0, none⟩) s.size (grownCap w s.size 0 e)) s.size (s.data.toList.map fun b => Value.int .u8 b.toNat) ∧ Below w.heap.size w (Lib.bytesWorld w e s) := by
  have hge := grownCap_ge w s.size 0 e
  have hcm := grownCap_le_maxLen w s.size 0 e hm
  have hsz : (Lib.bytesCells w e s).size = grownCap w s.size 0 e := by
    have : s.data.size = s.size := rfl
    simp [Lib.bytesCells, this]
    try omega
  refine ⟨.inr ⟨by simp, w.heap.size, _, _, _, rfl, hb, Lib.bytesWorld_at_new w e s, Nat.le_refl _, hge, hcm, by rw [hsz, Nat.mul_one], ?_⟩, ⟨rfl, rfl, rfl, by rw [Lib.bytesWorld_size]; omega, fun k hk => Lib.bytesWorld_at_old w e s k hk⟩⟩
  have : s.data.size = s.size := rfl
  simp only [Lib.bytesCells, Array.toList_append, Array.toList_map, Nat.mul_one]
  rw [List.take_append_of_le_length (by simp <;> omega), List.take_of_length_le (by simp <;> omega)]
end
end Go.Proofs.YtlkgeifmppadmaaGreat
namespace Go.Proofs.YtlkgeifmppadmaaGreat
open Go.RowKit
set_option linter.unusedVariables false
section
variable {P : Program} {ops : Array Oper} {Q : Exit → Act → World → Prop} {md : Region.Mode} {S : World → Prop}
theorem put_some (a : Act) (o : Oper) (d : Nat) (v : Value) (h : o.dst = some d) : a.put o.dst v = ⟨a.tmps.setIfInBounds d v, a.defers⟩ := by rw [h]; rfl
theorem take_yes (i d : Nat) {oi : Oper} {v : Value} {fuel : Nat} {listed : Array Bool} {a : Act} {w : World} (hi : ops[i]? = some oi) (hd : oi.dst = some d)
    (hs : Region.noSelect ops = true) (hf : Region.free md ops listed i = true) (hr : (Region.ready md ops listed).contains i = true)
    (hQ : ∀ c a w, Q (.panic c) (a.put oi.dst v) w → Q (.panic c) a w) (hS : S w) (hw : Region.wanted oi (yielded ops a.tmps) = true) (hy : ∀ w, S w → (execOp a.eval oi).run P w = .ok (.value v) w)
    (h : wpAnyH P md ops Q S fuel (listed.setIfInBounds i true) ⟨a.tmps.setIfInBounds d v, a.defers⟩ w) : wpAnyH P md ops Q S (fuel + 1) listed a w :=
  wpAnyH_take hi hs hf hr hQ (.inl ⟨hw, hy⟩) hS (by rw [put_some a oi d v hd]; exact h)
theorem take_no (i d : Nat) {oi : Oper} {fuel : Nat} {listed : Array Bool} {a : Act} {w : World} (hi : ops[i]? = some oi) (hd : oi.dst = some d)
    (hs : Region.noSelect ops = true) (hf : Region.free md ops listed i = true) (hr : (Region.ready md ops listed).contains i = true)
    (hQ : ∀ c a w, Q (.panic c) (a.put oi.dst undef) w → Q (.panic c) a w) (hS : S w) (hw : Region.wanted oi (yielded ops a.tmps) = false)
    (h : wpAnyH P md ops Q S fuel (listed.setIfInBounds i true) ⟨a.tmps.setIfInBounds d undef, a.defers⟩ w) : wpAnyH P md ops Q S (fuel + 1) listed a w :=
  wpAnyH_take hi hs hf hr hQ (.inr ⟨hw, rfl⟩) hS (by rw [put_some a oi d undef hd]; exact h)
theorem any_yes (i d : Nat) {oi : Oper} {v : Value} {fuel : Nat} {listed : Array Bool} {a : Act} {w : World} (hi : ops[i]? = some oi) (hd : oi.dst = some d)
    (hs : Region.noSelect ops = true) (hf : Region.free md ops listed i = true) (hr : (Region.ready md ops listed).contains i = true)
    (hQ : ∀ c a w, Q (.panic c) (a.put oi.dst v) w → Q (.panic c) a w) (hw : Region.wanted oi (yielded ops a.tmps) = true) (hy : ∀ w, (execOp a.eval oi).run P w = .ok (.value v) w)
    (h : wpAny P md ops Q fuel (listed.setIfInBounds i true) ⟨a.tmps.setIfInBounds d v, a.defers⟩ w) : wpAny P md ops Q (fuel + 1) listed a w :=
  wpAny_take hi hs hf hr hQ (.inl ⟨hw, hy⟩) (by rw [put_some a oi d v hd]; exact h)
theorem any_no (i d : Nat) {oi : Oper} {fuel : Nat} {listed : Array Bool} {a : Act} {w : World} (hi : ops[i]? = some oi) (hd : oi.dst = some d)
    (hs : Region.noSelect ops = true) (hf : Region.free md ops listed i = true) (hr : (Region.ready md ops listed).contains i = true)
    (hQ : ∀ c a w, Q (.panic c) (a.put oi.dst undef) w → Q (.panic c) a w) (hw : Region.wanted oi (yielded ops a.tmps) = false)
    (h : wpAny P md ops Q fuel (listed.setIfInBounds i true) ⟨a.tmps.setIfInBounds d undef, a.defers⟩ w) : wpAny P md ops Q (fuel + 1) listed a w :=
  wpAny_take hi hs hf hr hQ (.inr ⟨hw, rfl⟩) (by rw [put_some a oi d undef hd]; exact h)
end
end Go.Proofs.YtlkgeifmppadmaaGreat

/- Paths: what is right, what they lead to. Conditions: as each theorem states them. -/
import Derived.Test.YtgeplpdcnanmnaaGreatZaq
import Derived.Test.YtgeplpdcnanmnaaGreatZam
import Derived.Test.YtgeplpdcnanmnaaGreatZaj
import Derived.Test.YtgeplpdcnanmnaaGreatZbb
import Derived.Test.YtgeplpdcnanmnaaGreatZbd
import Derived.Test.YtgeplpdcnanmnaaGreatZaa
import Derived.Deep.DeepCutAuto
namespace Go.Proofs.YtgeplpdcnanmnaaGreat
open Go.RowKit
set_option linter.unusedVariables false
set_option linter.unusedSimpArgs false

theorem pathB_eq (ls : List (List UInt8)) : pathB ls = (decide (ls.length ≤ 16) && ls.all len32) := by
 unfold pathB
 congr 1
theorem is_any (A : Option Addr) (n c : Nat) (w : World) :
  Calls Tryz.prog 143 #[.slice A n c] w fun e w' => e = .returned (.bool (((n : Nat) : Int) == 32)) ∧ w = w' := by
 go_enter Tryz.func143, Tryz.ntmps143
 go_wp2
 go_ret
 exact ⟨rfl, rfl⟩
theorem pright1_any (A : Option Addr) (n c : Nat) (w : World) :
  Calls Tryz.prog 142 #[.slice A n c] w fun e w' => e = .returned (.bool (((n : Nat) : Int) != 32)) ∧ w = w' := by
 have HI := Lib.hid (is_any A n c w)
 have HN : Hid ((((n : Nat) : Int) != 32) = !(((n : Nat) : Int) == 32)) := Lib.hid rfl
 generalize (((n : Nat) : Int) != 32) = b at *
 go_enter Tryz.func142, Tryz.ntmps142
 go_wp2_with fail
 refine HI.out.mono ?_
 rintro e w' ⟨rfl, rfl⟩
 go_wp2
 go_ret
 rw [HN.out]
 exact ⟨rfl, rfl⟩
set_option maxRecDepth 100000 in
set_option maxHeartbeats 2000000 in
theorem indexp_any (v : Value) (ls : List (List UInt8)) (hsm : ls.length ≤ 1000000000) (w : World) (hx : Rws w v ls) :
  Calls Tryz.prog 177 #[v, .func (.func 142) #[] #[]] w fun e w' => ∃ r : Int, e = .returned (.int .i64 r) ∧ decide (0 ≤ r) = !(ls.all len32) ∧ Below w.heap.size w w' := by
 obtain ⟨A, c, rfl⟩ := hx.form
 have HX := Lib.hid hx
 clear hx
 go_enter Tryz.func177, Tryz.ntmps177
 go_wp2
 go_loopw [8] (fun v8 wr => ∃ k : Nat, v8 = .int .i64 k ∧ k ≤ ls.length ∧ Hid (Below w.heap.size w wr ∧ ∀ j (h : j < ls.length), j < k → ls[j].length = 32)) (fun v _ => ls.length - (intOf v).toNat)
 case atStart => exact ⟨0, rfl, Nat.zero_le _, Lib.hid ⟨Below.refl _ _, fun j h hj => by omega⟩⟩
 case round =>
  obtain ⟨k, rfl, hk, HI⟩ := hrel
  by_cases hlt : k < ls.length
  ·obtain ⟨g, o, u, rfl, hg, -, -, hcu, hbu⟩ := HX.out.at' k hlt
   have p0 := (HI.out.1.cell (p := ⟨g, o + k, none⟩) hg).trans hcu
   obtain ⟨A9, c9, rfl⟩ := hbu.form
   clear hcu hbu
   by_cases h32 : ls[k].length = 32
   ·have hnl : (((ls[k].length : Nat) : Int) != 32) = false := by simp [h32]
    have H32 := Lib.hid h32
    have HC := Lib.hid (pright1_any A9 ls[k].length c9 wr)
    rw [hnl] at HC
    clear h32 hnl
    go_wp2_with (go_at_call 142; refine HC.out.mono ?_; rintro e w' ⟨rfl, rfl⟩)
    go_roundw
    case rel => exact ⟨k + 1, by go_num, by omega, Lib.hid ⟨HI.out.1, fun j h hj => by
     by_cases e : j = k
     ·subst e; exact H32.out
     ·exact HI.out.2 j h (by omega)⟩⟩
    case measure => simp [intOf]; omega
   ·have hnl : (((ls[k].length : Nat) : Int) != 32) = true := by simp; omega
    have HF : Hid (ls.all len32 = false) := Lib.hid (all32_not k hlt h32)
    have HC := Lib.hid (pright1_any A9 ls[k].length c9 wr)
    rw [hnl] at HC
    clear h32 hnl
    go_wp2_with (go_at_call 142; refine HC.out.mono ?_; rintro e w' ⟨rfl, rfl⟩)
    go_ret
    exact ⟨_, rfl, by rw [HF.out]; simp, HI.out.1⟩
  ·have HA : Hid (ls.all len32 = true) := Lib.hid (all32_of (fun j h => HI.out.2 j h (by omega)))
   go_wp2
   go_ret
   exact ⟨_, rfl, by rw [HA.out]; rfl, HI.out.1⟩
theorem containsp_any (v : Value) (ls : List (List UInt8)) (hsm : ls.length ≤ 1000000000) (w : World) (hx : Rws w v ls) :
  Calls Tryz.prog 131 #[v, .func (.func 142) #[] #[]] w fun e w' => e = .returned (.bool (!(ls.all len32))) ∧ Below w.heap.size w w' := by
 have HI := Lib.hid (indexp_any v ls hsm w hx)
 obtain ⟨A, c, rfl⟩ := hx.form
 go_enter Tryz.func131, Tryz.ntmps131
 go_wp2_with fail
 refine HI.out.mono ?_
 rintro e w1 ⟨r, rfl, h1, h2⟩
 have H1 := Lib.hid (And.intro h1 h2)
 clear h1 h2
 go_wp2
 go_ret
 exact ⟨by rw [← H1.out.1]; rfl, H1.out.2⟩
theorem pathright_any (v : Value) (ls : List (List UInt8)) (hsm : ls.length ≤ 1000000000) (w : World) (hx : Rws w v ls) :
  Calls Tryz.prog 77 #[v] w fun e w' => e = .returned (.bool (pathB ls)) ∧ Below w.heap.size w w' := by
 have HI := Lib.hid (containsp_any v ls hsm w hx)
 have HP := Lib.hid (pathB_eq ls)
 obtain ⟨A, c, rfl⟩ := hx.form
 generalize pathB ls = R at *
 go_enter Tryz.func77, Tryz.ntmps77
 by_cases h : ls.length ≤ 16
 ·have H : Hid (R = ls.all len32) := Lib.hid (by rw [HP.out, decide_eq_true h]; rfl)
  have hl : ((ls.length : Nat) : Int) ≤ 16 := by omega
  go_wp2_with fail
  refine HI.out.mono ?_
  rintro e w1 ⟨rfl, h2⟩
  have H2 := Lib.hid h2
  clear h2
  go_wp2
  go_ret
  exact ⟨by rw [H.out]; simp, H2.out⟩
 ·have H : Hid (R = false) := Lib.hid (by rw [HP.out, decide_eq_false h]; rfl)
  have hl : ¬ ((ls.length : Nat) : Int) ≤ 16 := by omega
  go_wp2
  go_ret
  rw [H.out]
  exact ⟨rfl, Below.refl _ _⟩
set_option maxRecDepth 100000 in
theorem last_none (A : Option Addr) (c : Nat) (w : World) :
  Calls Tryz.prog 202 #[.slice A 0 c] w fun e w' => e = .returned (.tuple #[.slice none 0 0, .slice none 0 0, .bool false]) ∧ w = w' := by
 go_enter Tryz.func202, Tryz.ntmps202
 go_wp2
 go_ret3
 exact ⟨rfl, rfl⟩
set_option maxRecDepth 100000 in
theorem last_any (A : Option Addr) (n c : Nat) (ls : List (List UInt8)) (k : Nat) (hk : ls.length = k + 1) (hsm : ls.length ≤ 1000000000) (w : World) (hx : Rws w (.slice A n c) ls) :
  Calls Tryz.prog 202 #[.slice A n c] w fun e w' => ∃ u, e = .returned (.tuple #[.slice A k c, u, .bool true]) ∧ Rws w' (.slice A k c) (ls.take k) ∧ Bys w' u (ls.getD k []) ∧ Below w.heap.size w w' := by
 have hr := hx.take k (by omega)
 have hm := hx.room (by omega)
 obtain ⟨g, o, u, rfl, hg, e1, hc, hcu, hbu⟩ := hx.get k (by omega)
 obtain ⟨A9, c9, rfl⟩ := hbu.form
 have HR := Lib.hid (And.intro hr hbu)
 obtain rfl : k = n - 1 := by omega
 have hnc : n ≤ c := by omega
 have hn1 : (1 : Int) ≤ (n : Int) := by omega
 have hn2 : (n : Int) - 1 ≤ (c : Int) := by omega
 have hn3 : (n : Int) - 1 < (n : Int) := by omega
 have hc2 := hm.2
 unfold maxLen at hc2
 clear hr hbu hx hm e1 hk hsm hc
 generalize hX : ls.getD (n - 1) [] = X at *
 generalize ls.take (n - 1) = LT at *
 clear hX
 go_enter Tryz.func202, Tryz.ntmps202
 go_wp2
 refine wp_region_held_drew (S := fun w' => w'.cell? ⟨g, o + (n - 1), none⟩ = some (.slice A9 X.length c9)) (by kernel_rfl) hcu (fun hHeld => ?_)
 refine ty 0 11 rfl rfl ?_; simp only [sa, sb, sc]
 refine ty 1 12 rfl rfl ?_; simp only [sa, sb, sc]
 refine ty 2 13 rfl rfl ?_; simp only [sa, sb, sc]
 refine ty 3 14 rfl rfl ?_; simp only [sa, sb, sc]
 refine ty 4 15 rfl rfl ?_; simp only [sa, sb, sc]
 refine ty 5 16 rfl rfl ?_; simp only [sa, sb, sc]
 refine ty 6 17 rfl rfl ?_; simp only [sa, sb, sc]
 refine ty 7 2 rfl rfl ?_; simp only [sa, sb, sc]
 refine ty 8 3 rfl rfl ?_; simp only [sa, sb, sc]
 refine ty 9 4 rfl rfl ?_; simp only [sa, sb, sc]
 refine wpAnyH_done (by kernel_rfl) ?_ _
 clear hHeld
 go_wp2
 go_ret3
 have hd := (Below.refl w.heap.size w).drew
 exact ⟨_, rfl, HR.out.1.below hd, HR.out.2.below hd, hd⟩
theorem leadT_rev (ls : List (List UInt8)) (k : Nat) (hk : ls.length = k + 1) : ls.reverse = ls.getD k [] :: (ls.take k).reverse := by
 have h : ls = ls.take k ++ [ls.getD k []] := by
  have hi : k < ls.length := by omega
  rw [List.getD_eq_getElem?_getD, List.getElem?_eq_getElem hi]
  have := List.take_succ_eq_append_getElem hi
  rw [List.take_of_length_le (by omega)] at this
  exact this
 conv => lhs; rw [h]
 rw [List.reverse_append]
 rfl
theorem leadT_pos {x : List UInt8} {r : List (List UInt8)} {i n : Nat} {leaf : List UInt8} (h2 : ¬ n < 2) (h : i < splitN n) : leadT (x :: r) i n leaf = (nodeH (leadT r i (splitN n) leaf).1 x, (leadT r i (splitN n) leaf).2) := by
 conv => lhs; unfold leadT
 rw [if_neg h2, if_pos h]
theorem leadT_neg {x : List UInt8} {r : List (List UInt8)} {i n : Nat} {leaf : List UInt8} (h2 : ¬ n < 2) (h : ¬ i < splitN n) : leadT (x :: r) i n leaf = (nodeH x (leadT r (i - splitN n) (n - splitN n) leaf).1, (leadT r (i - splitN n) (n - splitN n) leaf).2) := by
 conv => lhs; unfold leadT
 rw [if_neg h2, if_neg h]
set_option maxRecDepth 100000 in
set_option maxHeartbeats 2000000 in
theorem lead_zero (A : Option Addr) (c : Nat) (lv : Value) (i n : Nat) (leaf : List UInt8) (hn : n ≤ 60000) (hll : leaf.length ≤ 1000) (w : World) (hv : Bys w lv leaf) :
  Calls Tryz.prog 181 #[.slice A 0 c, .int .i64 i, .int .i64 n, lv] w fun e w' => ∃ u, e = .returned (.tuple #[u, .bool (leadT [] i n leaf).2]) ∧ Bys w' u (leadT [] i n leaf).1 ∧ Below w.heap.size w w' := by
 obtain ⟨L, cl, rfl⟩ := hv.form
 have HC := Lib.hid (clone_any _ leaf (by omega) w hv)
 have HS := Lib.hid (split_any (n : Int) (by omega) w)
 rw [Int.toNat_natCast] at HS
 have HL := Lib.hid (last_none A c w)
 clear hv
 by_cases h2 : n < 2
 ·have HT : Hid (leadT [] i n leaf = (leaf, true)) := Lib.hid (by unfold leadT; rw [if_pos h2])
  have hsp : splitN n = 0 := splitN_small h2
  rw [hsp] at HS
  clear h2 hsp
  generalize leadT [] i n leaf = T at *
  go_enter Tryz.func181, Tryz.ntmps181
  go_wp2_with fail
  refine HS.out.mono ?_
  rintro e w' ⟨rfl, rfl⟩
  go_wp2_with fail
  refine HC.out.mono ?_
  rintro e w1 ⟨v1, rfl, k1, k2⟩
  have H1 := Lib.hid (And.intro k1.bys k2)
  obtain ⟨A1, c1, rfl⟩ := k1.form
  clear k1 k2
  go_wp2
  go_ret2
  rw [HT.out]
  exact ⟨_, rfl, H1.out.1, H1.out.2⟩
 ·have HT : Hid (leadT [] i n leaf = ([], false)) := Lib.hid (by unfold leadT; rw [if_neg h2])
  have hsp := splitN_lt (n := n) (by omega)
  have h0 : 0 < splitN n := by omega
  clear h2 hsp
  generalize leadT [] i n leaf = T at *
  generalize splitN n = sn at *
  go_enter Tryz.func181, Tryz.ntmps181
  go_wp2_with fail
  refine HS.out.mono ?_
  rintro e w' ⟨rfl, rfl⟩
  go_wp2_with fail
  refine HL.out.mono ?_
  rintro e w' ⟨rfl, rfl⟩
  go_wp2
  go_ret2
  rw [HT.out]
  exact ⟨_, rfl, Sho.nil _ 1, Below.refl _ _⟩
set_option maxRecDepth 100000 in
set_option maxHeartbeats 2000000 in
theorem lead_any : ∀ (m : Nat) (ls : List (List UInt8)) (v lv : Value) (i n : Nat) (leaf : List UInt8), ls.length = m → m ≤ 1000000 → (∀ x ∈ ls, x.length ≤ 1000) → n ≤ 60000 → i < 60000 → leaf.length ≤ 1000 → ∀ (w : World), Rws w v ls → Bys w lv leaf →
  Calls Tryz.prog 181 #[v, .int .i64 i, .int .i64 n, lv] w fun e w' => ∃ u, e = .returned (.tuple #[u, .bool (leadT ls.reverse i n leaf).2]) ∧ Bys w' u (leadT ls.reverse i n leaf).1 ∧ Below w.heap.size w w' := by
 intro m
 induction m with
 | zero =>
  intro ls v lv i n leaf hm hsm hx8 hn hi hll w hx hv
  obtain rfl : ls = [] := List.length_eq_zero_iff.1 hm
  obtain ⟨A, c, rfl⟩ := hx.form
  exact lead_zero A c lv i n leaf hn hll w hv
 | succ m ih =>
  intro ls v lv i n leaf hm hsm hx8 hn hi hll w hx hv
  obtain ⟨A, c, rfl⟩ := hx.form
  obtain ⟨L, cl, rfl⟩ := hv.form
  have hrev := leadT_rev ls m hm
  have hx9 : (ls.getD m []).length ≤ 1000 := by
   have h9 : m < ls.length := by omega
   rw [List.getD_eq_getElem?_getD, List.getElem?_eq_getElem h9]
   exact hx8 _ (List.getElem_mem h9)
  have htl : (ls.take m).length = m := by rw [List.length_take]; omega
  have hx8' : ∀ x ∈ ls.take m, x.length ≤ 1000 := fun x hx => hx8 x (List.mem_of_mem_take hx)
  have HC := Lib.hid (clone_any _ leaf (by omega) w hv)
  have HS := Lib.hid (split_any (n : Int) (by omega) w)
  rw [Int.toNat_natCast] at HS
  have HL := Lib.hid (last_any A ls.length c ls m hm (by omega) w hx)
  have HI := Lib.hid (fun (i' n' : Nat) (hn' : n' ≤ 60000) (hi' : i' < 60000) (wz : World) (vz : Value) (z : Rws wz vz (ls.take m)) (zl : Bys wz (.slice L leaf.length cl) leaf) => ih (ls.take m) vz _ i' n' leaf htl (by omega) hx8' hn' hi' hll wz z zl)
  have HV0 := Lib.hid hv
  have HLE := Lib.hid (fun (i' n' : Nat) => leadT_le (ls.take m).reverse i' n' leaf)
  rw [hrev]
  rw [hm] at HL ⊢
  clear ih hx hv hx8 hx8' htl hrev hm
  generalize (ls.take m).reverse = R at *
  generalize ls.getD m [] = X at *
  by_cases h2 : n < 2
  ·have HT : Hid (leadT (X :: R) i n leaf = (leaf, false)) := Lib.hid (by unfold leadT; rw [if_pos h2])
   have hsp : splitN n = 0 := splitN_small h2
   rw [hsp] at HS
   clear h2 hsp
   generalize leadT (X :: R) i n leaf = T at *
   go_enter Tryz.func181, Tryz.ntmps181
   go_wp2_with fail
   refine HS.out.mono ?_
   rintro e w' ⟨rfl, rfl⟩
   go_wp2_with fail
   refine HC.out.mono ?_
   rintro e w1 ⟨v1, rfl, k1, k2⟩
   have H1 := Lib.hid (And.intro k1.bys k2)
   obtain ⟨A1, c1, rfl⟩ := k1.form
   clear k1 k2
   go_wp2
   go_ret2
   rw [HT.out]
   exact ⟨_, by simp; omega, H1.out.1, H1.out.2⟩
  ·have hsp := splitN_lt (n := n) (by omega)
   have h0 : 0 < splitN n := by omega
   by_cases hlt : i < splitN n
   ·have HT : Hid (leadT (X :: R) i n leaf = (nodeH (leadT R i (splitN n) leaf).1 X, (leadT R i (splitN n) leaf).2)) := Lib.hid (leadT_pos h2 hlt)
    have HI1 := Lib.hid (HI.out i (splitN n) (by omega) hi)
    have hle := HLE.out i (splitN n)
    have hlti : (i : Int) < ((splitN n : Nat) : Int) := by omega
    clear HI HLE hsp h2
    generalize leadT (X :: R) i n leaf = T at *
    generalize leadT R i (splitN n) leaf = T' at *
    obtain ⟨tb, tf⟩ := T'
    dsimp only at *
    have hle' : tb.length ≤ 1000000000 := by omega
    have HN := Lib.hid (fun (wz : World) (u v : Value) (z1 : Bys wz u tb) (z2 : Bys wz v X) => node_any u v tb X hle' (by omega) wz z1 z2)
    have HLE := Lib.hid hle
    clear hle hle'
    generalize splitN n = sn at *
    go_enter Tryz.func181, Tryz.ntmps181
    go_wp2_with fail
    refine HS.out.mono ?_
    rintro e w' ⟨rfl, rfl⟩
    go_wp2_with fail
    refine HL.out.mono ?_
    rintro e w5 ⟨u, rfl, k1, k2, k3⟩
    obtain ⟨A2, c2, rfl⟩ := k2.form
    have H2 := Lib.hid (And.intro k1 (And.intro k2 (And.intro (HV0.out.below k3) k3)))
    clear k1 k2 k3
    go_wp2_with fail
    refine (HI1.out _ _ H2.out.1 H2.out.2.2.1).mono ?_
    rintro e w1 ⟨u1, rfl, k1, k2⟩
    obtain ⟨A1, c1, rfl⟩ := k1.form
    have H1 := Lib.hid (And.intro k1 (And.intro (H2.out.2.1.below k2) (H2.out.2.2.2.trans (k2.mono H2.out.2.2.2.size))))
    clear k1 k2
    go_wp2_with fail
    refine (HN.out _ _ _ H1.out.1 H1.out.2.1).mono ?_
    rintro e w3 ⟨u3, rfl, k1, k2⟩
    obtain ⟨A3, c3, rfl⟩ := k1.form
    have H3 := Lib.hid (And.intro k1.bys (H1.out.2.2.trans (k2.mono H1.out.2.2.size)))
    clear k1 k2
    go_wp2
    go_ret2
    rw [HT.out]
    exact ⟨_, rfl, H3.out.1, H3.out.2⟩
   ·have HT : Hid (leadT (X :: R) i n leaf = (nodeH X (leadT R (i - splitN n) (n - splitN n) leaf).1, (leadT R (i - splitN n) (n - splitN n) leaf).2)) := Lib.hid (leadT_neg h2 hlt)
    have HI1 := Lib.hid (HI.out (i - splitN n) (n - splitN n) (by omega) (by omega))
    have hle := HLE.out (i - splitN n) (n - splitN n)
    have hlti : ¬ (i : Int) < ((splitN n : Nat) : Int) := by omega
    have hs1 : (i : Int) - ((splitN n : Nat) : Int) = ((i - splitN n : Nat) : Int) := by omega
    have hs2 : (n : Int) - ((splitN n : Nat) : Int) = ((n - splitN n : Nat) : Int) := by omega
    have hs3 : splitN n ≤ i := by omega
    have hs4 : splitN n < n := by omega
    clear HI HLE hsp h2
    generalize leadT (X :: R) i n leaf = T at *
    generalize leadT R (i - splitN n) (n - splitN n) leaf = T' at *
    obtain ⟨tb, tf⟩ := T'
    dsimp only at *
    have hle' : tb.length ≤ 1000000000 := by omega
    have HN := Lib.hid (fun (wz : World) (u v : Value) (z1 : Bys wz u X) (z2 : Bys wz v tb) => node_any u v X tb (by omega) hle' wz z1 z2)
    have HLE := Lib.hid hle
    clear hle hle'
    generalize splitN n = sn at *
    generalize hi1 : i - sn = i1 at *
    generalize hn1 : n - sn = n1 at *
    have hw1 : wrap64 ((i : Int) - (sn : Int)) = (i1 : Int) := by rw [hs1]; exact IntWalk.wrap64_in _ (by omega)
    have hw2 : wrap64 ((n : Int) - (sn : Int)) = (n1 : Int) := by rw [hs2]; exact IntWalk.wrap64_in _ (by omega)
    clear hi1 hn1
    go_enter Tryz.func181, Tryz.ntmps181
    go_wp2_with fail
    refine HS.out.mono ?_
    rintro e w' ⟨rfl, rfl⟩
    go_wp2_with fail
    refine HL.out.mono ?_
    rintro e w5 ⟨u, rfl, k1, k2, k3⟩
    obtain ⟨A2, c2, rfl⟩ := k2.form
    have H2 := Lib.hid (And.intro k1 (And.intro k2 (And.intro (HV0.out.below k3) k3)))
    clear k1 k2 k3
    go_wp2_with fail
    refine (HI1.out _ _ H2.out.1 H2.out.2.2.1).mono ?_
    rintro e w1 ⟨u1, rfl, k1, k2⟩
    obtain ⟨A1, c1, rfl⟩ := k1.form
    have H1 := Lib.hid (And.intro k1 (And.intro (H2.out.2.1.below k2) (H2.out.2.2.2.trans (k2.mono H2.out.2.2.2.size))))
    clear k1 k2
    go_wp2_with fail
    refine (HN.out _ _ _ H1.out.2.1 H1.out.1).mono ?_
    rintro e w3 ⟨u3, rfl, k1, k2⟩
    obtain ⟨A3, c3, rfl⟩ := k1.form
    have H3 := Lib.hid (And.intro k1.bys (H1.out.2.2.trans (k2.mono H1.out.2.2.size)))
    clear k1 k2
    go_wp2
    go_ret2
    rw [HT.out]
    exact ⟨_, rfl, H3.out.1, H3.out.2⟩
def PrV (w : World) (v : Value) (p : PrD) : Prop := ∃ q, v = .agg #[.int .i64 p.index, .int .i64 p.size, q] ∧ Rws w q p.path
theorem pathB_facts {ls : List (List UInt8)} (h : pathB ls = true) : ls.length ≤ 16 ∧ ∀ x ∈ ls, x.length = 32 := by
 unfold pathB at h
 simp only [Bool.and_eq_true, decide_eq_true_eq, List.all_eq_true] at h
 exact h
def leadQ (p : PrD) (leaf : List UInt8) : List UInt8 := if leadB p leaf = true then leadV p leaf else []
set_option maxRecDepth 100000 in
set_option maxHeartbeats 4000000 in
theorem leadp_any (v lv : Value) (p : PrD) (leaf : List UInt8) (hsm : p.path.length ≤ 1000000000) (hi : -1000000 ≤ p.index ∧ p.index ≤ 1000000) (hz : -1000000 ≤ p.size ∧ p.size ≤ 60000) (hll : leaf.length ≤ 1000) (w : World) (hv : PrV w v p) (hlv : Bys w lv leaf) :
  Calls Tryz.prog 135 #[v, lv] w fun e w' => ∃ u, e = .returned (.tuple #[u, .bool (leadB p leaf)]) ∧ Bys w' u (leadQ p leaf) ∧ Below w.heap.size w w' := by
 obtain ⟨q, rfl, h1⟩ := hv
 obtain ⟨A, c, rfl⟩ := h1.form
 obtain ⟨L, cl, rfl⟩ := hlv.form
 obtain ⟨ix, sz, ls⟩ := p
 dsimp only at *
 have hb := (Below.refl w.heap.size w).alloc (Nat.le_refl _) (.cells #[.int .i64 ix, .int .i64 sz, .slice A ls.length c] 33)
 have HW := Lib.hid (And.intro (Blk.new w 33 [.int .i64 ix, .int .i64 sz, .slice A ls.length c]) hb)
 have HR := Lib.hid (pathright_any _ ls hsm _ (h1.below hb))
 have HX := Lib.hid (And.intro (h1.below hb) (hlv.below hb))
 have HE : Hid (leadB ⟨ix, sz, ls⟩ leaf = (pathB ls && (decide (leaf.length = 32) && (decide (0 ≤ ix) && (decide (ix < sz) && (leadT ls.reverse ix.toNat sz.toNat leaf).2))))) := Lib.hid rfl
 have HV : Hid (leadV ⟨ix, sz, ls⟩ leaf = (leadT ls.reverse ix.toNat sz.toNat leaf).1) := Lib.hid rfl
 have HP := Lib.hid (fun (h : pathB ls = true) => pathB_facts h)
 have HLQ : Hid (leadQ ⟨ix, sz, ls⟩ leaf = if leadB ⟨ix, sz, ls⟩ leaf = true then leadV ⟨ix, sz, ls⟩ leaf else []) := Lib.hid rfl
 clear hb h1 hlv
 generalize leadB ⟨ix, sz, ls⟩ leaf = LB at *
 generalize leadV ⟨ix, sz, ls⟩ leaf = LV at *
 generalize leadQ ⟨ix, sz, ls⟩ leaf = LQ at *
 have HQ0 : Hid (LB = false → LQ = []) := Lib.hid (fun e => by rw [HLQ.out, if_neg (by rw [e]; decide)])
 have HQ1 : Hid (LB = true → LQ = LV) := Lib.hid (fun e => by rw [HLQ.out, if_pos e])
 clear HLQ
 go_enter Tryz.func135, Tryz.ntmps135
 have z0 := HW.out.1.cell 0 _ rfl
 have z1 := HW.out.1.cell 1 _ rfl
 have z2 := HW.out.1.cell 2 _ rfl
 go_wp2_with fail
 refine HR.out.mono ?_
 rintro e w1 ⟨rfl, k1⟩
 have HB := Lib.hid (HW.out.2.trans (k1.mono HW.out.2.size))
 have K1 := HW.out.1.below k1
 have HY := Lib.hid (And.intro (HX.out.1.below k1) (HX.out.2.below k1))
 clear z0 z1 z2
 have z0 := K1.cell 0 _ rfl
 have z1 := K1.cell 1 _ rfl
 have z2 := K1.cell 2 _ rfl
 clear k1 K1 HR HW HX
 cases hpb : pathB ls with
 | false =>
  have HZ : Hid (LB = false) := Lib.hid (by rw [HE.out, hpb]; rfl)
  go_wp2
  go_ret2
  rw [HQ0.out HZ.out, HZ.out]
  exact ⟨_, rfl, Sho.nil _ 1, HB.out⟩
 | true =>
  obtain ⟨q1, q2⟩ := HP.out hpb
  have HI := Lib.hid (fun (i n : Nat) (hn : n ≤ 60000) (hi : i < 60000) => lead_any ls.length ls (.slice A ls.length c) (.slice L leaf.length cl) i n leaf rfl (by omega) (fun x hx => by rw [q2 x hx]; decide) hn hi hll w1 HY.out.1 HY.out.2)
  have HIS := Lib.hid (is_any L leaf.length cl w1)
  clear q2
  generalize leaf.length = n0 at *
  by_cases h32 : n0 = 32
  ·subst h32
   by_cases h0 : ix < 0
   ·have HZ : Hid (LB = false) := Lib.hid (by rw [HE.out, decide_eq_false (show ¬ 0 ≤ ix by omega)]; simp)
    go_wp2_with fail
    refine HIS.out.mono ?_
    rintro e w' ⟨rfl, rfl⟩
    go_wp2
    go_ret2
    rw [HQ0.out HZ.out, HZ.out]
    exact ⟨_, rfl, Sho.nil _ 1, HB.out⟩
   ·by_cases hlt : ix < sz
    ·obtain ⟨i, rfl⟩ := Int.eq_ofNat_of_zero_le (show 0 ≤ ix by omega)
     obtain ⟨n, rfl⟩ := Int.eq_ofNat_of_zero_le (show 0 ≤ sz by omega)
     have HI2 := Lib.hid (HI.out i n (by omega) (by omega))
     rw [Int.toNat_natCast, Int.toNat_natCast] at HE HV
     have HZ : Hid (LB = (leadT ls.reverse i n leaf).2) := Lib.hid (by rw [HE.out, hpb, decide_eq_true (show (32 : Nat) = 32 from rfl), decide_eq_true (show (0 : Int) ≤ (i : Int) by omega), decide_eq_true hlt]; rfl)
     have HV2 := Lib.hid HV.out
     clear HE HV HI
     generalize leadT ls.reverse i n leaf = T at *
     obtain ⟨tb, tf⟩ := T
     dsimp only at *
     go_wp2_with fail
     refine HIS.out.mono ?_
     rintro e w' ⟨rfl, rfl⟩
     go_wp2_with fail
     refine HI2.out.mono ?_
     rintro e w2 ⟨u2, rfl, k1, k2⟩
     obtain ⟨A2, c2, rfl⟩ := k1.form
     have H2 := Lib.hid (And.intro k1 (HB.out.trans (k2.mono HB.out.size)))
     clear k1 k2
     cases tf with
     | false =>
      go_wp2
      go_ret2
      rw [HQ0.out HZ.out, HZ.out]
      exact ⟨_, rfl, Sho.nil _ 1, H2.out.2⟩
     | true =>
      go_wp2
      go_ret2
      rw [HQ1.out HZ.out, HZ.out, HV2.out]
      exact ⟨_, rfl, H2.out.1, H2.out.2⟩
    ·have HZ : Hid (LB = false) := Lib.hid (by rw [HE.out, decide_eq_false hlt]; simp)
     go_wp2_with fail
     refine HIS.out.mono ?_
     rintro e w' ⟨rfl, rfl⟩
     go_wp2
     go_ret2
     rw [HQ0.out HZ.out, HZ.out]
     exact ⟨_, rfl, Sho.nil _ 1, HB.out⟩
  ·have e32 : (((n0 : Nat) : Int) == 32) = false := by simp; omega
   rw [e32] at HIS
   have HZ : Hid (LB = false) := Lib.hid (by rw [HE.out, decide_eq_false h32]; simp)
   go_wp2_with fail
   refine HIS.out.mono ?_
   rintro e w' ⟨rfl, rfl⟩
   go_wp2
   go_ret2
   rw [HQ0.out HZ.out, HZ.out]
   exact ⟨_, rfl, Sho.nil _ 1, HB.out⟩
set_option maxRecDepth 100000 in
set_option maxHeartbeats 4000000 in
theorem pcheck_any (v lv rv : Value) (p : PrD) (leaf root : List UInt8) (hsm : p.path.length ≤ 1000000000) (hi : -1000000 ≤ p.index ∧ p.index ≤ 1000000) (hz : -1000000 ≤ p.size ∧ p.size ≤ 60000) (hll : leaf.length ≤ 1000) (w : World) (hv : PrV w v p) (hlv : Bys w lv leaf) (hrv : Bys w rv root) :
  Calls Tryz.prog 53 #[v, lv, rv] w fun e w' => e = .returned (.bool (prfB p leaf root)) ∧ Below w.heap.size w w' := by
 obtain ⟨q, rfl, h1⟩ := hv
 obtain ⟨A, c, rfl⟩ := h1.form
 obtain ⟨L, cl, rfl⟩ := hlv.form
 obtain ⟨R, cr, rfl⟩ := hrv.form
 obtain ⟨ix, sz, ls⟩ := p
 dsimp only at *
 have hb := (Below.refl w.heap.size w).alloc (Nat.le_refl _) (.cells #[.int .i64 ix, .int .i64 sz, .slice A ls.length c] 33)
 have HW := Lib.hid (And.intro (Blk.new w 33 [.int .i64 ix, .int .i64 sz, .slice A ls.length c]) (And.intro hb (hrv.below hb)))
 have HL := Lib.hid (leadp_any (.agg #[.int .i64 ix, .int .i64 sz, .slice A ls.length c]) (.slice L leaf.length cl) ⟨ix, sz, ls⟩ leaf hsm hi hz hll _ ⟨_, rfl, h1.below hb⟩ (hlv.below hb))
 have HLQ : Hid (leadQ ⟨ix, sz, ls⟩ leaf = if leadB ⟨ix, sz, ls⟩ leaf = true then leadV ⟨ix, sz, ls⟩ leaf else []) := Lib.hid rfl
 have HE : Hid (prfB ⟨ix, sz, ls⟩ leaf root = (leadB ⟨ix, sz, ls⟩ leaf && (leadV ⟨ix, sz, ls⟩ leaf == root))) := Lib.hid rfl
 clear hb h1 hlv hrv
 generalize prfB ⟨ix, sz, ls⟩ leaf root = PB at *
 generalize leadB ⟨ix, sz, ls⟩ leaf = LB at *
 generalize leadV ⟨ix, sz, ls⟩ leaf = LV at *
 generalize leadQ ⟨ix, sz, ls⟩ leaf = LQ at *
 go_enter Tryz.func53, Tryz.ntmps53
 have z0 := HW.out.1.cell 0 _ rfl
 have z1 := HW.out.1.cell 1 _ rfl
 have z2 := HW.out.1.cell 2 _ rfl
 go_wp2_with fail
 refine HL.out.mono ?_
 rintro e w1 ⟨u, rfl, k1, k2⟩
 have H1 := Lib.hid (And.intro (HW.out.2.2.below k2) (HW.out.2.1.trans (k2.mono HW.out.2.1.size)))
 clear z0 z1 z2 k2
 cases LB with
 | false =>
  obtain ⟨A1, c1, rfl⟩ := k1.form
  clear k1
  go_wp2
  go_ret
  exact ⟨by rw [HE.out]; rfl, H1.out.2⟩
 | true =>
  rw [HLQ.out, if_pos rfl] at k1
  obtain ⟨A1, c1, rfl⟩ := k1.form
  have HS := Lib.hid (same_bytes _ _ LV root w1 k1 H1.out.1)
  clear k1
  go_wp2_with fail
  refine HS.out.mono ?_
  rintro e w2 ⟨rfl, rfl⟩
  go_wp2
  go_ret
  exact ⟨by rw [HE.out]; rfl, H1.out.2⟩
end Go.Proofs.YtgeplpdcnanmnaaGreat

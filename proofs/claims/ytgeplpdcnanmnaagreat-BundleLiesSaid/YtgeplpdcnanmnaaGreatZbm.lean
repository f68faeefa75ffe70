/- The reference's proofs: Include, Long, Right, lead, Lead. Conditions: as each theorem states them. -/
import Derived.Test.YtgeplpdcnanmnaaGreatZbd
import Derived.Test.YtgeplpdcnanmnaaGreatZbi
import Derived.Test.YtgeplpdcnanmnaaGreatZaa
namespace Go.Proofs.YtgeplpdcnanmnaaGreat
open Go.RowKit
set_option linter.unusedVariables false
set_option linter.unusedSimpArgs false

set_option maxRecDepth 100000 in
set_option maxHeartbeats 2000000 in
theorem long8_any : ∀ (m n i : Nat), n ≤ m → m ≤ 60000 → i < 60000 → ∀ (w : World),
  Calls Tryz.prog 57 #[.int .i64 n, .int .i64 i] w fun e w' => e = .returned (.int .i64 ((longN n i : Nat) : Int)) ∧ w = w' := by
 intro m
 induction m with
 | zero =>
  intro n i hn hm hi w
  obtain rfl : n = 0 := by omega
  have HZ : Hid (longN 0 i = 0) := Lib.hid (longN_small (by decide))
  generalize longN 0 i = LN at *
  go_enter Tryz.func57, Tryz.ntmps57
  go_wp2
  go_ret
  rw [HZ.out]
  exact ⟨rfl, rfl⟩
 | succ m ih =>
  intro n i hn hm hi w
  by_cases h2 : n < 2
  ·have HZ : Hid (longN n i = 0) := Lib.hid (longN_small h2)
   generalize longN n i = LN at *
   go_enter Tryz.func57, Tryz.ntmps57
   go_wp2
   go_ret
   rw [HZ.out]
   exact ⟨rfl, rfl⟩
  ·have hs := splitN_lt (n := n) (by omega)
   have HS := Lib.hid (split6_any n (by omega) w)
   by_cases hlt : i < splitN n
   ·have HI := Lib.hid (ih (splitN n) i (by omega) (by omega) hi w)
    have HZ := Lib.hid (longN_left (n := n) (i := i) (by omega) hlt)
    have hle := longN_le (splitN n) i
    clear ih
    generalize longN n i = LN at *
    generalize longN (splitN n) i = LM at *
    generalize splitN n = k at *
    have hlt2 : (i : Int) < (k : Int) := by omega
    go_enter Tryz.func57, Tryz.ntmps57
    go_wp2_with fail
    refine HS.out.mono ?_
    rintro e w' ⟨rfl, rfl⟩
    go_wp2_with fail
    refine HI.out.mono ?_
    rintro e w' ⟨rfl, rfl⟩
    go_wp2
    go_ret
    rw [HZ.out]
    exact ⟨by go_num, rfl⟩
   ·have HI := Lib.hid (ih (n - splitN n) (i - splitN n) (by omega) (by omega) (by omega) w)
    have HZ := Lib.hid (longN_right (n := n) (i := i) (by omega) hlt)
    have hle := longN_le (n - splitN n) (i - splitN n)
    clear ih
    generalize longN n i = LN at *
    generalize longN (n - splitN n) (i - splitN n) = LM at *
    generalize splitN n = k at *
    have hlt2 : ¬ (i : Int) < (k : Int) := by omega
    have hw1 : (n : Int) - (k : Int) = ((n - k : Nat) : Int) := by omega
    have hw2 : (i : Int) - (k : Int) = ((i - k : Nat) : Int) := by omega
    generalize hn1 : n - k = n1 at *
    generalize hi1 : i - k = i1 at *
    have hb1 : n1 ≤ 60000 := by omega
    have hb2 : i1 ≤ 60000 := by omega
    clear hn1 hi1
    go_enter Tryz.func57, Tryz.ntmps57
    go_wp2_with fail
    refine HS.out.mono ?_
    rintro e w' ⟨rfl, rfl⟩
    go_wp2_with fail
    refine HI.out.mono ?_
    rintro e w' ⟨rfl, rfl⟩
    go_wp2
    go_ret
    rw [HZ.out]
    exact ⟨by go_num, rfl⟩
theorem all32_take (ls : List (List UInt8)) (k : Nat) (h : k < ls.length) : (ls.take (k + 1)).all len32 = ((ls.take k).all len32 && len32 (ls.getD k [])) := by
 rw [List.take_succ_eq_append_getElem h, List.all_append, List.getD_eq_getElem?_getD, List.getElem?_eq_getElem h]
 simp
theorem all32_short (ls : List (List UInt8)) (k : Nat) (h : k < ls.length) (hb : len32 (ls.getD k []) = false) : ls.all len32 = false := by
 rw [List.getD_eq_getElem?_getD, List.getElem?_eq_getElem h] at hb
 rw [List.all_eq_false]
 exact ⟨ls[k], List.getElem_mem h, by rw [show len32 ls[k] = false from hb]; decide⟩
set_option maxRecDepth 100000 in
set_option maxHeartbeats 2000000 in
theorem right8_any (v : Value) (ls : List (List UInt8)) (hsm : ls.length ≤ 1000000000) (w : World) (hv : Rws w v ls) :
  Calls Tryz.prog 56 #[v] w fun e w' => e = .returned (.bool (pathB ls)) ∧ w = w' := by
 obtain ⟨A, c, rfl⟩ := hv.form
 have HX := Lib.hid hv
 have HP := Lib.hid (pathB_eq ls)
 have HAT := Lib.hid (all32_take ls)
 have HSH := Lib.hid (all32_short ls)
 have HEN : Hid (ls.take ls.length = ls) := Lib.hid List.take_length
 have H0 : Hid ((ls.take 0).all len32 = true) := Lib.hid rfl
 clear hv
 generalize pathB ls = R at *
 by_cases h16 : ls.length ≤ 16
 ·have HP2 : Hid (R = ls.all len32) := Lib.hid (by rw [HP.out, decide_eq_true h16]; rfl)
  clear HP
  go_enter Tryz.func56, Tryz.ntmps56
  go_wp2
  go_loopw [3] (fun v3 wr => ∃ k : Nat, v3 = .int .i64 k ∧ k ≤ ls.length ∧ Hid ((ls.take k).all len32 = true) ∧ wr = w) (fun v _ => ls.length - (intOf v).toNat)
  case atStart => exact ⟨0, rfl, Nat.zero_le _, H0, rfl⟩
  case round =>
   obtain ⟨k, rfl, hk, HI, rfl⟩ := hrel
   by_cases hlt : k < ls.length
   ·obtain ⟨g, o, u, rfl, hg, -, hcap, hcu, hbu⟩ := HX.out.get k hlt
    obtain ⟨A9, c9, rfl⟩ := hbu.form
    have hat := HAT.out k hlt
    have hsh := HSH.out k hlt
    rw [HI.out, Bool.true_and] at hat
    have HL : Hid (len32 (ls.getD k []) = ((ls.getD k []).length == 32)) := Lib.hid rfl
    have HB := Lib.hid (And.intro hat hsh)
    clear hat hsh hbu
    generalize len32 (ls.getD k []) = LB at *
    generalize (ls.getD k []).length = n9 at *
    by_cases h32 : n9 = 32
    ·subst h32
     have HT : Hid ((ls.take (k + 1)).all len32 = true) := Lib.hid (by rw [HB.out.1, HL.out]; rfl)
     go_wp2
     go_roundw
     case rel => exact ⟨k + 1, by go_num, by omega, HT, trivial⟩
     case measure => simp [intOf]; omega
    ·have HZ : Hid (R = false) := Lib.hid (by rw [HP2.out, HB.out.2 (by rw [HL.out]; simp [h32])])
     go_wp2
     go_ret
     rw [HZ.out]
     exact ⟨rfl, rfl⟩
   ·obtain rfl : k = ls.length := by omega
    have HZ : Hid (R = true) := Lib.hid (by have := HI.out; rw [HEN.out] at this; rw [HP2.out, this])
    go_wp2
    go_ret
    rw [HZ.out]
    exact ⟨rfl, rfl⟩
 ·have HZ : Hid (R = false) := Lib.hid (by rw [HP.out, decide_eq_false h16]; rfl)
  go_enter Tryz.func56, Tryz.ntmps56
  go_wp2
  go_ret
  rw [HZ.out]
  exact ⟨rfl, rfl⟩
set_option maxRecDepth 100000 in
set_option maxHeartbeats 4000000 in
theorem lead8_any : ∀ (m : Nat) (ls : List (List UInt8)) (v lv : Value) (i n : Nat) (leaf : List UInt8), ls.length = m → m ≤ 1000000 → (∀ x ∈ ls, x.length ≤ 1000) → n ≤ 60000 → i < 60000 → leaf.length ≤ 1000 → ls.length = longN n i → ∀ (w : World), Rws w v ls → Bys w lv leaf →
  Calls Tryz.prog 58 #[.int .i64 n, .int .i64 i, v, lv] w fun e w' => ∃ u, e = .returned u ∧ Bys w' u (leadT ls.reverse i n leaf).1 ∧ Below w.heap.size w w' := by
 intro m
 induction m with
 | zero =>
  intro ls v lv i n leaf hm hsm hx8 hn hi hll hlg w hx hv
  obtain rfl : ls = [] := List.length_eq_zero_iff.1 hm
  obtain ⟨A, c, rfl⟩ := hx.form
  obtain ⟨L, cl, rfl⟩ := hv.form
  have h2 : n < 2 := by
   by_cases h : n < 2
   ·exact h
   ·by_cases h' : i < splitN n
    ·rw [longN_left (by omega) h'] at hlg; simp at hlg; omega
    ·rw [longN_right (by omega) h'] at hlg; simp at hlg; omega
  have HT : Hid ((leadT ([] : List (List UInt8)).reverse i n leaf).1 = leaf) := Lib.hid (by show (leadT [] i n leaf).1 = leaf; unfold leadT; rw [if_pos h2])
  have HV := Lib.hid hv
  clear hv hx hlg
  generalize (leadT ([] : List (List UInt8)).reverse i n leaf).1 = T at *
  go_enter Tryz.func58, Tryz.ntmps58
  go_wp2
  go_ret
  rw [HT.out]
  exact ⟨_, rfl, HV.out, Below.refl _ _⟩
 | succ m ih =>
  intro ls v lv i n leaf hm hsm hx8 hn hi hll hlg w hx hv
  obtain ⟨A, c, rfl⟩ := hx.form
  obtain ⟨L, cl, rfl⟩ := hv.form
  have h2 : ¬ n < 2 := fun h => by rw [longN_small h] at hlg; omega
  have hrev := leadT_rev ls m hm
  have hroom := hx.room (by omega)
  have hx9 : (ls.getD m []).length ≤ 1000 := by
   have h9 : m < ls.length := by omega
   rw [List.getD_eq_getElem?_getD, List.getElem?_eq_getElem h9]
   exact hx8 _ (List.getElem_mem h9)
  have htl : (ls.take m).length = m := by rw [List.length_take]; omega
  have hx8' : ∀ x ∈ ls.take m, x.length ≤ 1000 := fun x hx => hx8 x (List.mem_of_mem_take hx)
  have HS := Lib.hid (split6_any n hn w)
  obtain ⟨g, o, u, rfl, hg, -, -, hcu, hbu⟩ := hx.get m (by omega)
  obtain ⟨A9, c9, rfl⟩ := hbu.form
  have hX := hx.take m (by omega)
  have HI := Lib.hid (fun (i' n' : Nat) (hn' : n' ≤ 60000) (hi' : i' < 60000) (hl' : m = longN n' i') => ih (ls.take m) _ _ i' n' leaf htl (by omega) hx8' hn' hi' hll (by rw [htl]; exact hl') w hX hv)
  have HLE := Lib.hid (fun (i' n' : Nat) => leadT_le (ls.take m).reverse i' n' leaf)
  have HB := Lib.hid hbu
  have hsp := splitN_lt (n := n) (by omega)
  have hnc : ls.length ≤ c := hroom.1
  have hc2 := hroom.2
  unfold maxLen at hc2
  have hm1 : m = ls.length - 1 := by omega
  have hN1 : 1 ≤ ls.length := by omega
  rw [hrev]
  clear ih hx hv hx8 hx8' htl hrev hX hbu hroom
  generalize (ls.take m).reverse = R at *
  generalize ls.getD m [] = X at *
  rw [hm1] at hcu HI
  generalize hNl : ls.length = N at *
  clear hNl
  have hn1 : (1 : Int) ≤ (N : Int) := by omega
  have hn2 : (N : Int) - 1 ≤ (c : Int) := by omega
  have hn3 : (N : Int) - 1 < (N : Int) := by omega
  by_cases hlt : i < splitN n
  ·have HT : Hid ((leadT (X :: R) i n leaf).1 = nodeH (leadT R i (splitN n) leaf).1 X) := Lib.hid (by rw [leadT_pos h2 hlt])
   have hl' := longN_left (n := n) (i := i) (by omega) hlt
   have HI1 := Lib.hid (HI.out i (splitN n) (by omega) hi (by omega))
   have hle := HLE.out i (splitN n)
   have hlti : (i : Int) < ((splitN n : Nat) : Int) := by omega
   clear HI HLE hl' hlg hm1 hm
   generalize (leadT (X :: R) i n leaf).1 = T at *
   generalize (leadT R i (splitN n) leaf).1 = tb at *
   have HN := Lib.hid (fun (wz : World) (u v : Value) (z1 : Bys wz u tb) (z2 : Bys wz v X) => rnode_any u v tb X (by omega) (by omega) wz z1 z2)
   clear hle hx9
   generalize splitN n = sn at *
   go_enter Tryz.func58, Tryz.ntmps58
   go_wp2_with fail
   refine HS.out.mono ?_
   rintro e w' ⟨rfl, rfl⟩
   go_wp2_with fail
   refine HI1.out.mono ?_
   rintro e w1 ⟨u1, rfl, k1, k2⟩
   obtain ⟨A1, c1, rfl⟩ := k1.form
   have H1 := Lib.hid (And.intro k1 (And.intro (HB.out.below k2) k2))
   clear k1 k2
   go_wp2_with fail
   refine (HN.out _ _ _ H1.out.1 H1.out.2.1).mono ?_
   rintro e w3 ⟨u3, rfl, k1, k2⟩
   obtain ⟨A3, c3, rfl⟩ := k1.form
   have H3 := Lib.hid (And.intro k1.bys (H1.out.2.2.trans (k2.mono H1.out.2.2.size)))
   clear k1 k2
   go_wp2
   go_ret
   rw [HT.out]
   exact ⟨_, rfl, H3.out.1, H3.out.2⟩
  ·have HT : Hid ((leadT (X :: R) i n leaf).1 = nodeH X (leadT R (i - splitN n) (n - splitN n) leaf).1) := Lib.hid (by rw [leadT_neg h2 hlt])
   have hl' := longN_right (n := n) (i := i) (by omega) hlt
   have HI1 := Lib.hid (HI.out (i - splitN n) (n - splitN n) (by omega) (by omega) (by omega))
   have hle := HLE.out (i - splitN n) (n - splitN n)
   have hlti : ¬ (i : Int) < ((splitN n : Nat) : Int) := by omega
   have hs1 : (i : Int) - ((splitN n : Nat) : Int) = ((i - splitN n : Nat) : Int) := by omega
   have hs2 : (n : Int) - ((splitN n : Nat) : Int) = ((n - splitN n : Nat) : Int) := by omega
   have hs3 : splitN n ≤ i := by omega
   have hs4 : splitN n < n := by omega
   clear HI HLE hl' hlg hm1 hm
   generalize (leadT (X :: R) i n leaf).1 = T at *
   generalize (leadT R (i - splitN n) (n - splitN n) leaf).1 = tb at *
   have HN := Lib.hid (fun (wz : World) (u v : Value) (z1 : Bys wz u X) (z2 : Bys wz v tb) => rnode_any u v X tb (by omega) (by omega) wz z1 z2)
   clear hle hx9
   generalize splitN n = sn at *
   generalize hi1 : i - sn = i1 at *
   generalize hn1 : n - sn = n1 at *
   have hw1 : wrap64 ((i : Int) - (sn : Int)) = (i1 : Int) := by rw [hs1]; exact IntWalk.wrap64_in _ (by omega)
   have hw2 : wrap64 ((n : Int) - (sn : Int)) = (n1 : Int) := by rw [hs2]; exact IntWalk.wrap64_in _ (by omega)
   clear hi1 hn1
   go_enter Tryz.func58, Tryz.ntmps58
   go_wp2_with fail
   refine HS.out.mono ?_
   rintro e w' ⟨rfl, rfl⟩
   go_wp2_with fail
   refine HI1.out.mono ?_
   rintro e w1 ⟨u1, rfl, k1, k2⟩
   obtain ⟨A1, c1, rfl⟩ := k1.form
   have H1 := Lib.hid (And.intro k1 (And.intro (HB.out.below k2) k2))
   clear k1 k2
   go_wp2_with fail
   refine (HN.out _ _ _ H1.out.2.1 H1.out.1).mono ?_
   rintro e w3 ⟨u3, rfl, k1, k2⟩
   obtain ⟨A3, c3, rfl⟩ := k1.form
   have H3 := Lib.hid (And.intro k1.bys (H1.out.2.2.trans (k2.mono H1.out.2.2.size)))
   clear k1 k2
   go_wp2
   go_ret
   rw [HT.out]
   exact ⟨_, rfl, H3.out.1, H3.out.2⟩
set_option maxRecDepth 100000 in
set_option maxHeartbeats 4000000 in
theorem include8_any (S : Nat → Prop) : ∀ (m : Nat) (ls : List (List UInt8)) (v : Value) (i : Nat), ls.length ≤ m → m ≤ 60000 → i < ls.length → (∀ x ∈ ls, x.length ≤ 1000) → ∀ (w : World), (∀ g, S g → g < w.heap.size) → RwsF S w v ls →
  Calls Tryz.prog 44 #[v, .int .i64 i] w fun e w' => ∃ u, e = .returned u ∧ OwnV w' w.heap.size u (inclL ls i) ∧ Below w.heap.size w w' := by
 obtain ⟨i0, hi0, hz0, hz1, hz2⟩ := info_parts info_bytes6
 intro m
 induction m with
 | zero => intro ls v i hm hm2 hi hx w hS hv; omega
 | succ m ih =>
  intro ls v i hm hm2 hi hx w hS hv
  obtain ⟨A, c, rfl⟩ := hv.rws.form
  by_cases h2 : ls.length < 2
  ·have HZ := Lib.hid (incl_small (i := i) h2)
   generalize inclL ls i = R at *
   clear ih hv hx
   go_enter Tryz.func44, Tryz.ntmps44
   go_wp2
   go_ret
   rw [HZ.out]
   exact ⟨_, rfl, OwnV.nil _ _, Below.refl _ _⟩
  ·have hs := splitN_lt (n := ls.length) (by omega)
   have hroom := hv.rws.room (by omega)
   obtain ⟨g, o, u, rfl, hg, -, -, hcu, hbu⟩ := hv.get 0 (by omega)
   clear hcu hbu
   have HS := Lib.hid (split6_any ls.length (by omega) w)
   have e1 : (ls.take (splitN ls.length)).length = splitN ls.length := by rw [List.length_take]; omega
   have e2 : (ls.drop (splitN ls.length)).length = ls.length - splitN ls.length := List.length_drop
   have hxt : ∀ x ∈ ls.take (splitN ls.length), x.length ≤ 1000 := fun x hx' => hx x (List.mem_of_mem_take hx')
   have hxd : ∀ x ∈ ls.drop (splitN ls.length), x.length ≤ 1000 := fun x hx' => hx x (List.mem_of_mem_drop hx')
   have HR1 := Lib.hid (fun (wz : World) (vz : Value) (z : RwsF S wz vz (ls.take (splitN ls.length))) => rroot6_f S _ (ls.take (splitN ls.length)) vz (Nat.le_refl _) (by omega) hxt wz z)
   have HR2 := Lib.hid (fun (wz : World) (vz : Value) (z : RwsF S wz vz (ls.drop (splitN ls.length))) => rroot6_f S _ (ls.drop (splitN ls.length)) vz (Nat.le_refl _) (by omega) hxd wz z)
   have HI1 := Lib.hid (fun (hlt : i < splitN ls.length) (wz : World) (vz : Value) (hS' : ∀ g, S g → g < wz.heap.size) (z : RwsF S wz vz (ls.take (splitN ls.length))) => ih (ls.take (splitN ls.length)) vz i (by omega) (by omega) (by omega) hxt wz hS' z)
   have HI2 := Lib.hid (fun (hlt : ¬ i < splitN ls.length) (wz : World) (vz : Value) (hS' : ∀ g, S g → g < wz.heap.size) (z : RwsF S wz vz (ls.drop (splitN ls.length))) => ih (ls.drop (splitN ls.length)) vz (i - splitN ls.length) (by omega) (by omega) (by omega) hxd wz hS' z)
   have r1 := hv.take (splitN ls.length) (by omega)
   have r2 := hv.drop (by omega) (splitN ls.length) (by omega)
   have HZ1 := Lib.hid (fun (hlt : i < splitN ls.length) => incl_left (l := ls) (by omega) hlt)
   have HZ2 := Lib.hid (fun (hlt : ¬ i < splitN ls.length) => incl_right (l := ls) (by omega) hlt)
   have HX := Lib.hid (And.intro r1 r2)
   have hSs := Lib.hid hS
   have hck : ¬ c = splitN ls.length := by omega
   have hkc : splitN ls.length ≤ c := by omega
   have hkn : splitN ls.length ≤ ls.length := by omega
   have hni : ls.length ≤ c := hroom.1
   have hroom2 := hroom.2
   unfold maxLen at hroom2
   have hn60 : ls.length ≤ 60000 := by omega
   by_cases hlt : i < splitN ls.length
   ·have HZ := Lib.hid (HZ1.out hlt)
    have HI := Lib.hid (fun wz vz z1 z2 => HI1.out hlt wz vz z1 z2)
    have hil : (inclL (ls.take (splitN ls.length)) i).length ≤ 60000 := by
     rw [incl_length _ _ (by omega)]
     have := longN_le (ls.take (splitN ls.length)).length i
     omega
    have hlti : (i : Int) < ((splitN ls.length : Nat) : Int) := by omega
    clear ih hv hx e1 e2 r1 r2 hxt hxd hroom HZ1 HZ2 HI1 HI2 HR1 hS
    generalize inclL (ls.take (splitN ls.length)) i = IL at *
    generalize rootL (ls.drop (splitN ls.length)) = RL at *
    generalize inclL ls i = R at *
    generalize ls.take (splitN ls.length) = L1 at *
    generalize ls.drop (splitN ls.length) = L2 at *
    generalize splitN ls.length = k at *
    generalize ls.length = n at *
    go_enter Tryz.func44, Tryz.ntmps44
    go_wp2_with fail
    refine HS.out.mono ?_
    rintro e w' ⟨rfl, rfl⟩
    go_upto_region 5 with fail
    have HD := Lib.hid (Below.refl w.heap.size w).drew
    refine wp_region_held_drew (S := fun _ => True) (by kernel_rfl) True.intro (fun hHeld => ?_)
    generalize w.drew = wr at *
    refine ty 0 15 rfl rfl ?_; simp only [sa, sb, sc]
    refine ty 1 16 rfl rfl ?_; simp only [sa, sb, sc]
    refine ty 2 17 rfl rfl ?_; simp only [sa, sb, sc]
    refine ty 3 18 rfl rfl ?_; simp only [sa, sb, sc]
    refine ty 5 20 rfl rfl ?_; simp only [sa, sb, sc]
    refine ty 6 21 rfl rfl ?_; simp only [sa, sb, sc]
    refine ty 7 22 rfl rfl ?_; simp only [sa, sb, sc]
    refine rd 4 (by kernel_rfl) rfl (fun K hK => ?_)
    go_simp
    go_at_call 44
    refine (HI.out _ _ (fun g hg => Nat.lt_of_lt_of_le (hSs.out g hg) HD.out.size) (HX.out.1.below HD.out)).mono ?_
    rintro e w1 ⟨u1, rfl, k1, k2⟩
    obtain ⟨A1, c1, rfl⟩ := k1.rws.form
    have H1 := Lib.hid (And.intro k1 (HD.out.trans (k2.mono HD.out.size)))
    clear k1 k2
    try dsimp only
    refine hK.out _ _ True.intro (fun hHeld4 => ?_)
    clear hK K; try simp only [Act.put, sa, sb, sc]
    refine rd 8 (by kernel_rfl) rfl (fun K hK => ?_)
    go_simp
    go_at_call 43
    refine (HR2.out _ _ (HX.out.2.below H1.out.2)).mono ?_
    rintro e w2 ⟨u2, rfl, k1, k2⟩
    obtain ⟨A2, c2, rfl⟩ := k1.1.form
    obtain ⟨us, q1, q2⟩ := H1.out.1.keep k2
    have hvl : ∀ g, (Value.slice A1 IL.length c1).ownBlock = some g → wr.heap.size ≤ g ∧ g < w1.heap.size := fun g hg => by obtain ⟨us', q1', _⟩ := H1.out.1; exact World.ownsRow.lt q1' g hg
    have H2 := Lib.hid (And.intro k1 (And.intro q1 (And.intro q2 (And.intro hvl (H1.out.2.trans (k2.mono H1.out.2.size))))))
    clear k1 k2 q1 q2 hvl
    try dsimp only
    refine hK.out _ _ True.intro (fun hHeld8 => ?_)
    clear hK K; try simp only [Act.put, sa, sb, sc]
    refine rd 9 (by kernel_rfl) rfl (fun K hK => ?_)
    go_simp
    refine hK.out _ _ True.intro (fun hHeld9 => ?_)
    clear hK K; try simp only [Act.put, sa, sb, sc]
    refine rd 10 (by kernel_rfl) rfl (fun K hK => ?_)
    skip
    have hsz2 := H2.out.2.2.2.2.size
    have hszD := HD.out.size
    refine step_append_lie rfl (.tmp 19) (.tmp 24) 28 rfl w.heap.size 24 i0 (.slice none 0 0) 1 24 Tryz.underlying28 hi0 hz0 hz1 hz2 rfl (by decide) _ IL.length us rfl (World.ownsRow.alloc (own_mono' H2.out.2.1 hszD) _) _ 1 [.slice A2 RL.length c2] rfl (news1 w2 24 _ rfl) (by unfold maxLen; omega) (by omega) (by simp; omega) ?_
    intro v5 W5 hown5 hgrow5 hlie5
    obtain ⟨A5, c5, rfl⟩ := (Sho.own hown5).form
    have H5 : Hid (OwnV W5 w.heap.size (.slice A5 (IL.length + 1) c5) (IL ++ [RL]) ∧ Below w.heap.size w W5) := Lib.hid (by
     obtain ⟨p1, p2, p3, p4, p5⟩ := H2.out
     refine ⟨OwnV.push (own_mono' p2 hszD) p3 p1.1 (fun h0 g hg e => ?_) hown5 hgrow5 ?_, (p5.alloc p5.size _).grown hgrow5 (by simp; omega) (fun k e => Nat.le_trans hszD (p4 k e).1)⟩
     ·have := p4 g e
      rcases p1.2 h0 g hg with h9 | h9
      ·have := hSs.out g h9; omega
      ·have h8 : w1.heap.size ≤ g := h9; omega
     ·rcases hlie5 with e | ⟨q, e, hq⟩
      ·exact .inl e
      ·exact .inr ⟨q, e, by simp at hq; omega⟩)
    clear hown5 hgrow5 hlie5
    simp only [Act.put, List.getElem_toArray, List.getElem_cons_succ, List.getElem_cons_zero, List.setIfInBounds_toArray, List.set_cons_zero, List.set_cons_succ]
    refine hK.out _ _ True.intro (fun hHeld10 => ?_)
    clear hK K; try simp only [Act.put, sa, sb, sc]
    refine ty 11 4 rfl rfl ?_; simp only [sa, sb, sc]
    refine wpAnyH_done (by kernel_rfl) ?_ _
    clear hHeld
    go_wp2
    go_ret
    rw [HZ.out]
    exact ⟨_, rfl, H5.out.1, H5.out.2⟩
   ·have HZ := Lib.hid (HZ2.out hlt)
    have HI := Lib.hid (fun wz vz z1 z2 => HI2.out hlt wz vz z1 z2)
    have hil : (inclL (ls.drop (splitN ls.length)) (i - splitN ls.length)).length ≤ 60000 := by
     rw [incl_length _ _ (by omega)]
     have := longN_le (ls.drop (splitN ls.length)).length (i - splitN ls.length)
     omega
    have hlti : ¬ (i : Int) < ((splitN ls.length : Nat) : Int) := by omega
    have hwi : wrap64 ((i : Int) - ((splitN ls.length : Nat) : Int)) = ((i - splitN ls.length : Nat) : Int) := by rw [show (i : Int) - ((splitN ls.length : Nat) : Int) = ((i - splitN ls.length : Nat) : Int) from by omega]; exact IntWalk.wrap64_in _ (by omega)
    have hwi2 : IntKind.wrap .i64 ((i : Int) - ((splitN ls.length : Nat) : Int)) = ((i - splitN ls.length : Nat) : Int) := by rw [show (i : Int) - ((splitN ls.length : Nat) : Int) = ((i - splitN ls.length : Nat) : Int) from by omega]; exact IntWalk.i64_in _ (by omega)
    clear ih hv hx e1 e2 r1 r2 hxt hxd hroom HZ1 HZ2 HI1 HI2 HR2 hS
    generalize inclL (ls.drop (splitN ls.length)) (i - splitN ls.length) = IL at *
    generalize rootL (ls.take (splitN ls.length)) = RL at *
    generalize inclL ls i = R at *
    generalize ls.take (splitN ls.length) = L1 at *
    generalize ls.drop (splitN ls.length) = L2 at *
    generalize splitN ls.length = k at *
    generalize ls.length = n at *
    generalize i - k = i1 at *
    go_enter Tryz.func44, Tryz.ntmps44
    go_wp2_with fail
    refine HS.out.mono ?_
    rintro e w' ⟨rfl, rfl⟩
    go_upto_region 6 with fail
    have HD := Lib.hid (Below.refl w.heap.size w).drew
    refine wp_region_held_drew (S := fun _ => True) (by kernel_rfl) True.intro (fun hHeld => ?_)
    generalize w.drew = wr at *
    refine ty 0 26 rfl rfl ?_; simp only [sa, sb, sc]
    refine ty 1 27 rfl rfl ?_; simp only [sa, sb, sc]
    refine ty 2 28 rfl rfl ?_; simp only [sa, sb, sc]
    refine ty 3 29 rfl rfl ?_; simp only [sa, sb, sc]
    refine ty 4 30 rfl rfl ?_; simp only [sa, sb, sc]
    refine ty 5 31 rfl rfl ?_; simp only [sa, sb, sc]
    refine ty 7 33 rfl rfl ?_; simp only [sa, sb, sc]
    refine ty 8 34 rfl rfl ?_; simp only [sa, sb, sc]
    refine ty 9 35 rfl rfl ?_; simp only [sa, sb, sc]
    refine rd 6 (by kernel_rfl) rfl (fun K hK => ?_)
    go_simp
    go_at_call 44
    refine (HI.out _ _ (fun g hg => Nat.lt_of_lt_of_le (hSs.out g hg) HD.out.size) (HX.out.2.below HD.out)).mono ?_
    rintro e w1 ⟨u1, rfl, k1, k2⟩
    obtain ⟨A1, c1, rfl⟩ := k1.rws.form
    have H1 := Lib.hid (And.intro k1 (HD.out.trans (k2.mono HD.out.size)))
    clear k1 k2
    try dsimp only
    refine hK.out _ _ True.intro (fun hHeld6 => ?_)
    clear hK K; try simp only [Act.put, sa, sb, sc]
    refine rd 10 (by kernel_rfl) rfl (fun K hK => ?_)
    go_simp
    go_at_call 43
    refine (HR1.out _ _ (HX.out.1.below H1.out.2)).mono ?_
    rintro e w2 ⟨u2, rfl, k1, k2⟩
    obtain ⟨A2, c2, rfl⟩ := k1.1.form
    obtain ⟨us, q1, q2⟩ := H1.out.1.keep k2
    have hvl : ∀ g, (Value.slice A1 IL.length c1).ownBlock = some g → wr.heap.size ≤ g ∧ g < w1.heap.size := fun g hg => by obtain ⟨us', q1', _⟩ := H1.out.1; exact World.ownsRow.lt q1' g hg
    have H2 := Lib.hid (And.intro k1 (And.intro q1 (And.intro q2 (And.intro hvl (H1.out.2.trans (k2.mono H1.out.2.size))))))
    clear k1 k2 q1 q2 hvl
    try dsimp only
    refine hK.out _ _ True.intro (fun hHeld10 => ?_)
    clear hK K; try simp only [Act.put, sa, sb, sc]
    refine rd 11 (by kernel_rfl) rfl (fun K hK => ?_)
    go_simp
    refine hK.out _ _ True.intro (fun hHeld11 => ?_)
    clear hK K; try simp only [Act.put, sa, sb, sc]
    refine rd 12 (by kernel_rfl) rfl (fun K hK => ?_)
    skip
    have hsz2 := H2.out.2.2.2.2.size
    have hszD := HD.out.size
    refine step_append_lie rfl (.tmp 32) (.tmp 37) 28 rfl w.heap.size 24 i0 (.slice none 0 0) 1 24 Tryz.underlying28 hi0 hz0 hz1 hz2 rfl (by decide) _ IL.length us rfl (World.ownsRow.alloc (own_mono' H2.out.2.1 hszD) _) _ 1 [.slice A2 RL.length c2] rfl (news1 w2 24 _ rfl) (by unfold maxLen; omega) (by omega) (by simp; omega) ?_
    intro v5 W5 hown5 hgrow5 hlie5
    obtain ⟨A5, c5, rfl⟩ := (Sho.own hown5).form
    have H5 : Hid (OwnV W5 w.heap.size (.slice A5 (IL.length + 1) c5) (IL ++ [RL]) ∧ Below w.heap.size w W5) := Lib.hid (by
     obtain ⟨p1, p2, p3, p4, p5⟩ := H2.out
     refine ⟨OwnV.push (own_mono' p2 hszD) p3 p1.1 (fun h0 g hg e => ?_) hown5 hgrow5 ?_, (p5.alloc p5.size _).grown hgrow5 (by simp; omega) (fun k e => Nat.le_trans hszD (p4 k e).1)⟩
     ·have := p4 g e
      rcases p1.2 h0 g hg with h9 | h9
      ·have := hSs.out g h9; omega
      ·have h8 : w1.heap.size ≤ g := h9; omega
     ·rcases hlie5 with e | ⟨q, e, hq⟩
      ·exact .inl e
      ·exact .inr ⟨q, e, by simp at hq; omega⟩)
    clear hown5 hgrow5 hlie5
    simp only [Act.put, List.getElem_toArray, List.getElem_cons_succ, List.getElem_cons_zero, List.setIfInBounds_toArray, List.set_cons_zero, List.set_cons_succ]
    refine hK.out _ _ True.intro (fun hHeld12 => ?_)
    clear hK K; try simp only [Act.put, sa, sb, sc]
    refine ty 13 4 rfl rfl ?_; simp only [sa, sb, sc]
    refine wpAnyH_done (by kernel_rfl) ?_ _
    clear hHeld
    go_wp2
    go_ret
    rw [HZ.out]
    exact ⟨_, rfl, H5.out.1, H5.out.2⟩
set_option maxRecDepth 100000 in
set_option maxHeartbeats 8000000 in
theorem lead8v_any (v lv : Value) (p : PrD) (leaf : List UInt8) (hsm : p.path.length ≤ 1000000000) (hi : -1000000 ≤ p.index ∧ p.index ≤ 1000000) (hz : -1000000 ≤ p.size ∧ p.size ≤ 60000) (hll : leaf.length ≤ 1000) (w : World) (hv : PrV w v p) (hlv : Bys w lv leaf) :
  Calls Tryz.prog 18 #[v, lv] w fun e w' => ∃ u, e = .returned (.tuple #[u, .bool (leadB p leaf)]) ∧ Bys w' u (leadQ p leaf) ∧ Below w.heap.size w w' := by
 obtain ⟨q, rfl, h1⟩ := hv
 obtain ⟨A, c, rfl⟩ := h1.form
 obtain ⟨L, cl, rfl⟩ := hlv.form
 obtain ⟨ix, sz, ls⟩ := p
 dsimp only at *
 have hb := ((Below.refl w.heap.size w).alloc (Nat.le_refl _) (.cells #[.int .i64 ix, .int .i64 sz, .slice A ls.length c] 33)).drew
 have HW := Lib.hid (And.intro (Blk.new w 33 [.int .i64 ix, .int .i64 sz, .slice A ls.length c]).drew hb)
 have HR := Lib.hid (fun wz (z : Rws wz (.slice A ls.length c) ls) => right8_any _ ls hsm wz z)
 have HX := Lib.hid (And.intro (h1.below hb) (hlv.below hb))
 have HE : Hid (leadB ⟨ix, sz, ls⟩ leaf = (pathB ls && (decide (leaf.length = 32) && (decide (0 ≤ ix) && (decide (ix < sz) && (leadT ls.reverse ix.toNat sz.toNat leaf).2))))) := Lib.hid rfl
 have HV : Hid (leadV ⟨ix, sz, ls⟩ leaf = (leadT ls.reverse ix.toNat sz.toNat leaf).1) := Lib.hid rfl
 have HP := Lib.hid (fun (h : pathB ls = true) => pathB_facts h)
 have HLQ : Hid (leadQ ⟨ix, sz, ls⟩ leaf = if leadB ⟨ix, sz, ls⟩ leaf = true then leadV ⟨ix, sz, ls⟩ leaf else []) := Lib.hid rfl
 clear hb h1 hlv
 generalize leadB ⟨ix, sz, ls⟩ leaf = LB at *
 generalize leadV ⟨ix, sz, ls⟩ leaf = LV at *
 generalize leadQ ⟨ix, sz, ls⟩ leaf = LQ at *
 have HQ0 : Hid (LB = false → LQ = []) := Lib.hid (fun e => by rw [HLQ.out, if_neg (by rw [e]; decide)])
 have HQ1 : Hid (LB = true → LQ = LV) := Lib.hid (fun e => by rw [HLQ.out, if_pos e])
 clear HLQ
 go_enter Tryz.func18, Tryz.ntmps18
 have z0 := HW.out.1.cell 0 _ rfl
 have z1 := HW.out.1.cell 1 _ rfl
 have z2 := HW.out.1.cell 2 _ rfl
 go_upto_region 1 with fail
 refine code_at (fun w2 => w2.drew.cell? ⟨w.heap.size, 0, none⟩ = some (.int .i64 ix) ∧ w2.drew.cell? ⟨w.heap.size, 1, none⟩ = some (.int .i64 sz) ∧ w2.drew.cell? ⟨w.heap.size, 2, none⟩ = some (.slice A ls.length c) ∧ Hid (Below w.heap.size w w2.drew ∧ Rws w2.drew (.slice A ls.length c) ls ∧ Bys w2.drew (.slice L leaf.length cl) leaf)) ⟨z0, z1, z2, Lib.hid ⟨HW.out.2, HX.out.1, HX.out.2⟩⟩ ?_
 clear z0 z1 z2 HX HW
 rintro w2 ⟨z0, z1, z2, HB⟩
 generalize hPB : pathB ls = PB at *
 cases PB with
 | false =>
  have HZ : Hid (LB = false) := Lib.hid (by rw [HE.out]; rfl)
  refine wp_region_held_drew (S := fun w' => w'.cell? ⟨w.heap.size, 0, none⟩ = some (.int .i64 ix) ∧ w'.cell? ⟨w.heap.size, 1, none⟩ = some (.int .i64 sz) ∧ w'.cell? ⟨w.heap.size, 2, none⟩ = some (.slice A ls.length c)) (by kernel_rfl) ⟨z0, z1, z2⟩ (fun hHeld => ?_)
  generalize w2.drew = wr at *
  refine ty 0 6 rfl rfl ?_; simp only [sa, sb, sc]
  refine ty 1 7 rfl rfl ?_; simp only [sa, sb, sc]
  refine rd 2 (by kernel_rfl) rfl (fun K hK => ?_)
  go_simp
  go_at_call 56
  refine (HR.out _ HB.out.2.1).mono ?_
  rintro e w' ⟨rfl, rfl⟩
  try dsimp only
  refine hK.out _ _ ⟨z0, z1, z2⟩ (fun hHeld2 => ?_)
  clear hK K; try simp only [Act.put, sa, sb, sc]
  refine ty 3 9 rfl rfl ?_; simp only [sa, sb, sc]
  refine ty 4 10 rfl rfl ?_; simp only [sa, sb, sc]
  refine tn 5 11 rfl rfl ?_; simp only [sa, sb, sc]
  refine tn 6 12 rfl rfl ?_; simp only [sa, sb, sc]
  refine tn 7 13 rfl rfl ?_; simp only [sa, sb, sc]
  refine ty 8 14 rfl rfl ?_; simp only [sa, sb, sc]
  refine ty 9 15 rfl rfl ?_; simp only [sa, sb, sc]
  refine tn 10 16 rfl rfl ?_; simp only [sa, sb, sc]
  refine tn 11 17 rfl rfl ?_; simp only [sa, sb, sc]
  refine tn 12 18 rfl rfl ?_; simp only [sa, sb, sc]
  refine ty 13 19 rfl rfl ?_; simp only [sa, sb, sc]
  refine ty 14 20 rfl rfl ?_; simp only [sa, sb, sc]
  refine tn 15 21 rfl rfl ?_; simp only [sa, sb, sc]
  refine tn 16 22 rfl rfl ?_; simp only [sa, sb, sc]
  refine tn 17 23 rfl rfl ?_; simp only [sa, sb, sc]
  refine tn 18 24 rfl rfl ?_; simp only [sa, sb, sc]
  refine tn 19 25 rfl rfl ?_; simp only [sa, sb, sc]
  refine ty 20 26 rfl rfl ?_; simp only [sa, sb, sc]
  refine ty 21 27 rfl rfl ?_; simp only [sa, sb, sc]
  refine tn 22 28 rfl rfl ?_; simp only [sa, sb, sc]
  refine tn 23 29 rfl rfl ?_; simp only [sa, sb, sc]
  refine tn 24 30 rfl rfl ?_; simp only [sa, sb, sc]
  refine tn 25 31 rfl rfl ?_; simp only [sa, sb, sc]
  refine tn 26 32 rfl rfl ?_; simp only [sa, sb, sc]
  refine tn 27 33 rfl rfl ?_; simp only [sa, sb, sc]
  refine tn 28 34 rfl rfl ?_; simp only [sa, sb, sc]
  refine tn 29 35 rfl rfl ?_; simp only [sa, sb, sc]
  refine tn 30 36 rfl rfl ?_; simp only [sa, sb, sc]
  refine ty 31 37 rfl rfl ?_; simp only [sa, sb, sc]
  refine wpAnyH_done (by kernel_rfl) ?_ _
  clear hHeld z0 z1 z2
  go_wp2
  go_ret2
  rw [HQ0.out HZ.out, HZ.out]
  exact ⟨_, rfl, Sho.nil _ 1, HB.out.1⟩
 | true =>
  obtain ⟨q1, q2⟩ := HP.out rfl
  have HQ2 := Lib.hid q2
  clear q2
  have HLI := Lib.hid (fun (wz : World) (i n : Nat) (hn : n ≤ 60000) (hi : i < 60000) (hl : ls.length = longN n i) (z1 : Rws wz (.slice A ls.length c) ls) (z2 : Bys wz (.slice L leaf.length cl) leaf) => lead8_any ls.length ls (.slice A ls.length c) (.slice L leaf.length cl) i n leaf rfl (by omega) (fun x hx => by rw [HQ2.out x hx]; decide) hn hi hll hl wz z1 z2)
  have HLF := Lib.hid (fun (i n : Nat) => leadT_fits ls.reverse i n leaf)
  generalize leaf.length = n0 at *
  by_cases h32 : n0 = 32
  ·subst h32
   by_cases h0 : ix < 0
   ·have HZ : Hid (LB = false) := Lib.hid (by rw [HE.out, decide_eq_false (show ¬ 0 ≤ ix by omega)]; simp)
    refine wp_region_held_drew (S := fun w' => w'.cell? ⟨w.heap.size, 0, none⟩ = some (.int .i64 ix) ∧ w'.cell? ⟨w.heap.size, 1, none⟩ = some (.int .i64 sz) ∧ w'.cell? ⟨w.heap.size, 2, none⟩ = some (.slice A ls.length c)) (by kernel_rfl) ⟨z0, z1, z2⟩ (fun hHeld => ?_)
    generalize w2.drew = wr at *
    refine ty 0 6 rfl rfl ?_; simp only [sa, sb, sc]
    refine ty 1 7 rfl rfl ?_; simp only [sa, sb, sc]
    refine rd 2 (by kernel_rfl) rfl (fun K hK => ?_)
    go_simp
    go_at_call 56
    refine (HR.out _ HB.out.2.1).mono ?_
    rintro e w' ⟨rfl, rfl⟩
    try dsimp only
    refine hK.out _ _ ⟨z0, z1, z2⟩ (fun hHeld2 => ?_)
    clear hK K; try simp only [Act.put, sa, sb, sc]
    refine ty 3 9 rfl rfl ?_; simp only [sa, sb, sc]
    refine ty 4 10 rfl rfl ?_; simp only [sa, sb, sc]
    refine ty 5 11 rfl rfl ?_; simp only [sa, sb, sc]
    refine ty 6 12 rfl rfl ?_; simp only [sa, sb, sc]
    refine ty 7 13 rfl rfl ?_; simp only [sa, sb, sc]
    refine ty 8 14 rfl rfl ?_; simp only [sa, sb, sc]
    refine ty 9 15 rfl rfl ?_; simp only [sa, sb, sc]
    refine ty 10 16 rfl rfl ?_; simp only [sa, sb, sc]
    refine ty 11 17 rfl rfl ?_; simp only [sa, sb, sc]
    refine ty 12 18 rfl rfl ?_; simp only [sa, sb, sc]
    refine ty 13 19 rfl rfl ?_; simp only [sa, sb, sc]
    refine ty 14 20 rfl rfl ?_; simp only [sa, sb, sc]
    refine tn 15 21 rfl rfl ?_; simp only [sa, sb, sc]
    refine tn 16 22 rfl rfl ?_; simp only [sa, sb, sc]
    refine tn 17 23 rfl rfl ?_; simp only [sa, sb, sc]
    refine tn 18 24 rfl rfl ?_; simp only [sa, sb, sc]
    refine tn 19 25 rfl rfl ?_; simp only [sa, sb, sc]
    refine ty 20 26 rfl rfl ?_; simp only [sa, sb, sc]
    refine ty 21 27 rfl rfl ?_; simp only [sa, sb, sc]
    refine tn 22 28 rfl rfl ?_; simp only [sa, sb, sc]
    refine tn 23 29 rfl rfl ?_; simp only [sa, sb, sc]
    refine tn 24 30 rfl rfl ?_; simp only [sa, sb, sc]
    refine tn 25 31 rfl rfl ?_; simp only [sa, sb, sc]
    refine tn 26 32 rfl rfl ?_; simp only [sa, sb, sc]
    refine tn 27 33 rfl rfl ?_; simp only [sa, sb, sc]
    refine tn 28 34 rfl rfl ?_; simp only [sa, sb, sc]
    refine tn 29 35 rfl rfl ?_; simp only [sa, sb, sc]
    refine tn 30 36 rfl rfl ?_; simp only [sa, sb, sc]
    refine ty 31 37 rfl rfl ?_; simp only [sa, sb, sc]
    refine wpAnyH_done (by kernel_rfl) ?_ _
    clear hHeld z0 z1 z2
    go_wp2
    go_ret2
    rw [HQ0.out HZ.out, HZ.out]
    exact ⟨_, rfl, Sho.nil _ 1, HB.out.1⟩
   ·by_cases hlt : ix < sz
    ·obtain ⟨i, rfl⟩ := Int.eq_ofNat_of_zero_le (show 0 ≤ ix by omega)
     obtain ⟨n, rfl⟩ := Int.eq_ofNat_of_zero_le (show 0 ≤ sz by omega)
     rw [Int.toNat_natCast, Int.toNat_natCast] at HE HV
     have hfit := HLF.out i n
     rw [List.length_reverse] at hfit
     have HLG := Lib.hid (fun wz : World => long8_any n n i (Nat.le_refl _) (by omega) (by omega) wz)
     have hlle := longN_le n i
     have hni1 : i < n := by omega
     have hni2 : ¬ n ≤ i := by omega
     have hni3 : ¬ (n : Int) ≤ (i : Int) := by omega
     have HZ : Hid (LB = decide (ls.length = longN n i)) := Lib.hid (by rw [HE.out, hfit, decide_eq_true (show (32 : Nat) = 32 from rfl), decide_eq_true (show (0 : Int) ≤ (i : Int) by omega), decide_eq_true hlt]; rfl)
     have HLI2 := Lib.hid (fun wz z => HLI.out wz i n (by omega) (by omega) z)
     clear hfit HE HLI HLF
     generalize (leadT ls.reverse i n leaf).1 = tb at *
     generalize longN n i = LN at *
     by_cases hlen : ls.length = LN
     ·have HL2 := Lib.hid hlen
      have hne : (((ls.length : Nat) : Int) != ((LN : Nat) : Int)) = false := by simp [hlen]
      have HZ2 : Hid (LB = true) := Lib.hid (by rw [HZ.out, decide_eq_true hlen])
      clear hlen
      refine wp_region_held_drew (S := fun w' => w'.cell? ⟨w.heap.size, 0, none⟩ = some (.int .i64 ((i : Nat) : Int)) ∧ w'.cell? ⟨w.heap.size, 1, none⟩ = some (.int .i64 ((n : Nat) : Int)) ∧ w'.cell? ⟨w.heap.size, 2, none⟩ = some (.slice A ls.length c)) (by kernel_rfl) ⟨z0, z1, z2⟩ (fun hHeld => ?_)
      generalize w2.drew = wr at *
      refine ty 0 6 rfl rfl ?_; simp only [sa, sb, sc]
      refine ty 1 7 rfl rfl ?_; simp only [sa, sb, sc]
      refine rd 2 (by kernel_rfl) rfl (fun K hK => ?_)
      go_simp
      go_at_call 56
      refine (HR.out _ HB.out.2.1).mono ?_
      rintro e w' ⟨rfl, rfl⟩
      try dsimp only
      refine hK.out _ _ ⟨z0, z1, z2⟩ (fun hHeld2 => ?_)
      clear hK K; try simp only [Act.put, sa, sb, sc]
      refine ty 3 9 rfl rfl ?_; simp only [sa, sb, sc]
      refine ty 4 10 rfl rfl ?_; simp only [sa, sb, sc]
      refine ty 5 11 rfl rfl ?_; simp only [sa, sb, sc]
      refine ty 6 12 rfl rfl ?_; simp only [sa, sb, sc]
      refine ty 7 13 rfl rfl ?_; simp only [sa, sb, sc]
      refine ty 8 14 rfl rfl ?_; simp only [sa, sb, sc]
      refine ty 9 15 rfl rfl ?_; simp only [sa, sb, sc]
      refine ty 10 16 rfl rfl ?_; simp only [sa, sb, sc]
      refine ty 11 17 rfl rfl ?_; simp only [sa, sb, sc]
      refine ty 12 18 rfl rfl ?_; simp only [sa, sb, sc]
      refine ty 13 19 rfl rfl ?_; simp only [sa, sb, sc]
      refine ty 14 20 rfl rfl ?_; simp only [sa, sb, sc]
      refine ty 15 21 rfl rfl ?_; simp only [sa, sb, sc]
      refine ty 16 22 rfl rfl ?_; simp only [sa, sb, sc]
      refine ty 17 23 rfl rfl ?_; simp only [sa, sb, sc]
      refine ty 18 24 rfl rfl ?_; simp only [sa, sb, sc]
      refine ty 19 25 rfl rfl ?_; simp only [sa, sb, sc]
      refine ty 20 26 rfl rfl ?_; simp only [sa, sb, sc]
      refine ty 21 27 rfl rfl ?_; simp only [sa, sb, sc]
      refine ty 22 28 rfl rfl ?_; simp only [sa, sb, sc]
      refine ty 23 29 rfl rfl ?_; simp only [sa, sb, sc]
      refine ty 24 30 rfl rfl ?_; simp only [sa, sb, sc]
      refine ty 25 31 rfl rfl ?_; simp only [sa, sb, sc]
      refine ty 26 32 rfl rfl ?_; simp only [sa, sb, sc]
      refine ty 27 33 rfl rfl ?_; simp only [sa, sb, sc]
      refine ty 28 34 rfl rfl ?_; simp only [sa, sb, sc]
      refine rd 29 (by kernel_rfl) rfl (fun K hK => ?_)
      go_simp
      go_at_call 57
      refine (HLG.out _).mono ?_
      rintro e w' ⟨rfl, rfl⟩
      try dsimp only
      refine hK.out _ _ ⟨z0, z1, z2⟩ (fun hHeld29 => ?_)
      clear hK K; try simp only [Act.put, sa, sb, sc]
      refine ty 30 36 rfl rfl ?_; simp only [sa, sb, sc]
      refine ty 31 37 rfl rfl ?_; simp only [sa, sb, sc]
      refine wpAnyH_done (by kernel_rfl) ?_ _
      clear hHeld hne
      go_wp2_with fail
      refine (HLI2.out _ HL2.out HB.out.2.1 HB.out.2.2).mono ?_
      rintro e w5 ⟨u5, rfl, k1, k2⟩
      obtain ⟨A5, c5, rfl⟩ := k1.form
      have H5 := Lib.hid (And.intro k1 (HB.out.1.trans (k2.mono HB.out.1.size)))
      clear k1 k2 z0 z1 z2
      go_wp2
      go_ret2
      rw [HQ1.out HZ2.out, HZ2.out, HV.out]
      exact ⟨_, rfl, H5.out.1, H5.out.2⟩
     ·have hne : (((ls.length : Nat) : Int) != ((LN : Nat) : Int)) = true := by simp; omega
      have HZ2 : Hid (LB = false) := Lib.hid (by rw [HZ.out, decide_eq_false hlen])
      clear hlen
      refine wp_region_held_drew (S := fun w' => w'.cell? ⟨w.heap.size, 0, none⟩ = some (.int .i64 ((i : Nat) : Int)) ∧ w'.cell? ⟨w.heap.size, 1, none⟩ = some (.int .i64 ((n : Nat) : Int)) ∧ w'.cell? ⟨w.heap.size, 2, none⟩ = some (.slice A ls.length c)) (by kernel_rfl) ⟨z0, z1, z2⟩ (fun hHeld => ?_)
      generalize w2.drew = wr at *
      refine ty 0 6 rfl rfl ?_; simp only [sa, sb, sc]
      refine ty 1 7 rfl rfl ?_; simp only [sa, sb, sc]
      refine rd 2 (by kernel_rfl) rfl (fun K hK => ?_)
      go_simp
      go_at_call 56
      refine (HR.out _ HB.out.2.1).mono ?_
      rintro e w' ⟨rfl, rfl⟩
      try dsimp only
      refine hK.out _ _ ⟨z0, z1, z2⟩ (fun hHeld2 => ?_)
      clear hK K; try simp only [Act.put, sa, sb, sc]
      refine ty 3 9 rfl rfl ?_; simp only [sa, sb, sc]
      refine ty 4 10 rfl rfl ?_; simp only [sa, sb, sc]
      refine ty 5 11 rfl rfl ?_; simp only [sa, sb, sc]
      refine ty 6 12 rfl rfl ?_; simp only [sa, sb, sc]
      refine ty 7 13 rfl rfl ?_; simp only [sa, sb, sc]
      refine ty 8 14 rfl rfl ?_; simp only [sa, sb, sc]
      refine ty 9 15 rfl rfl ?_; simp only [sa, sb, sc]
      refine ty 10 16 rfl rfl ?_; simp only [sa, sb, sc]
      refine ty 11 17 rfl rfl ?_; simp only [sa, sb, sc]
      refine ty 12 18 rfl rfl ?_; simp only [sa, sb, sc]
      refine ty 13 19 rfl rfl ?_; simp only [sa, sb, sc]
      refine ty 14 20 rfl rfl ?_; simp only [sa, sb, sc]
      refine ty 15 21 rfl rfl ?_; simp only [sa, sb, sc]
      refine ty 16 22 rfl rfl ?_; simp only [sa, sb, sc]
      refine ty 17 23 rfl rfl ?_; simp only [sa, sb, sc]
      refine ty 18 24 rfl rfl ?_; simp only [sa, sb, sc]
      refine ty 19 25 rfl rfl ?_; simp only [sa, sb, sc]
      refine ty 20 26 rfl rfl ?_; simp only [sa, sb, sc]
      refine ty 21 27 rfl rfl ?_; simp only [sa, sb, sc]
      refine ty 22 28 rfl rfl ?_; simp only [sa, sb, sc]
      refine ty 23 29 rfl rfl ?_; simp only [sa, sb, sc]
      refine ty 24 30 rfl rfl ?_; simp only [sa, sb, sc]
      refine ty 25 31 rfl rfl ?_; simp only [sa, sb, sc]
      refine ty 26 32 rfl rfl ?_; simp only [sa, sb, sc]
      refine ty 27 33 rfl rfl ?_; simp only [sa, sb, sc]
      refine ty 28 34 rfl rfl ?_; simp only [sa, sb, sc]
      refine rd 29 (by kernel_rfl) rfl (fun K hK => ?_)
      go_simp
      go_at_call 57
      refine (HLG.out _).mono ?_
      rintro e w' ⟨rfl, rfl⟩
      try dsimp only
      refine hK.out _ _ ⟨z0, z1, z2⟩ (fun hHeld29 => ?_)
      clear hK K; try simp only [Act.put, sa, sb, sc]
      refine ty 30 36 rfl rfl ?_; simp only [sa, sb, sc]
      refine ty 31 37 rfl rfl ?_; simp only [sa, sb, sc]
      refine wpAnyH_done (by kernel_rfl) ?_ _
      clear hHeld hne z0 z1 z2
      go_wp2
      go_ret2
      rw [HQ0.out HZ2.out, HZ2.out]
      exact ⟨_, rfl, Sho.nil _ 1, HB.out.1⟩
    ·have HZ : Hid (LB = false) := Lib.hid (by rw [HE.out, decide_eq_false hlt]; simp)
     have hge : sz ≤ ix := by omega
     refine wp_region_held_drew (S := fun w' => w'.cell? ⟨w.heap.size, 0, none⟩ = some (.int .i64 ix) ∧ w'.cell? ⟨w.heap.size, 1, none⟩ = some (.int .i64 sz) ∧ w'.cell? ⟨w.heap.size, 2, none⟩ = some (.slice A ls.length c)) (by kernel_rfl) ⟨z0, z1, z2⟩ (fun hHeld => ?_)
     generalize w2.drew = wr at *
     refine ty 0 6 rfl rfl ?_; simp only [sa, sb, sc]
     refine ty 1 7 rfl rfl ?_; simp only [sa, sb, sc]
     refine rd 2 (by kernel_rfl) rfl (fun K hK => ?_)
     go_simp
     go_at_call 56
     refine (HR.out _ HB.out.2.1).mono ?_
     rintro e w' ⟨rfl, rfl⟩
     try dsimp only
     refine hK.out _ _ ⟨z0, z1, z2⟩ (fun hHeld2 => ?_)
     clear hK K; try simp only [Act.put, sa, sb, sc]
     refine ty 3 9 rfl rfl ?_; simp only [sa, sb, sc]
     refine ty 4 10 rfl rfl ?_; simp only [sa, sb, sc]
     refine ty 5 11 rfl rfl ?_; simp only [sa, sb, sc]
     refine ty 6 12 rfl rfl ?_; simp only [sa, sb, sc]
     refine ty 7 13 rfl rfl ?_; simp only [sa, sb, sc]
     refine ty 8 14 rfl rfl ?_; simp only [sa, sb, sc]
     refine ty 9 15 rfl rfl ?_; simp only [sa, sb, sc]
     refine ty 10 16 rfl rfl ?_; simp only [sa, sb, sc]
     refine ty 11 17 rfl rfl ?_; simp only [sa, sb, sc]
     refine ty 12 18 rfl rfl ?_; simp only [sa, sb, sc]
     refine ty 13 19 rfl rfl ?_; simp only [sa, sb, sc]
     refine ty 14 20 rfl rfl ?_; simp only [sa, sb, sc]
     refine ty 15 21 rfl rfl ?_; simp only [sa, sb, sc]
     refine ty 16 22 rfl rfl ?_; simp only [sa, sb, sc]
     refine ty 17 23 rfl rfl ?_; simp only [sa, sb, sc]
     refine ty 18 24 rfl rfl ?_; simp only [sa, sb, sc]
     refine ty 19 25 rfl rfl ?_; simp only [sa, sb, sc]
     refine ty 20 26 rfl rfl ?_; simp only [sa, sb, sc]
     refine ty 21 27 rfl rfl ?_; simp only [sa, sb, sc]
     refine tn 22 28 rfl rfl ?_; simp only [sa, sb, sc]
     refine tn 23 29 rfl rfl ?_; simp only [sa, sb, sc]
     refine tn 24 30 rfl rfl ?_; simp only [sa, sb, sc]
     refine tn 25 31 rfl rfl ?_; simp only [sa, sb, sc]
     refine tn 26 32 rfl rfl ?_; simp only [sa, sb, sc]
     refine tn 27 33 rfl rfl ?_; simp only [sa, sb, sc]
     refine tn 28 34 rfl rfl ?_; simp only [sa, sb, sc]
     refine tn 29 35 rfl rfl ?_; simp only [sa, sb, sc]
     refine tn 30 36 rfl rfl ?_; simp only [sa, sb, sc]
     refine ty 31 37 rfl rfl ?_; simp only [sa, sb, sc]
     refine wpAnyH_done (by kernel_rfl) ?_ _
     clear hHeld z0 z1 z2
     go_wp2
     go_ret2
     rw [HQ0.out HZ.out, HZ.out]
     exact ⟨_, rfl, Sho.nil _ 1, HB.out.1⟩
  ·have h32i : (((n0 : Nat) : Int) != 32) = true := by simp; omega
   have HZ : Hid (LB = false) := Lib.hid (by rw [HE.out, decide_eq_false h32]; simp)
   refine wp_region_held_drew (S := fun w' => w'.cell? ⟨w.heap.size, 0, none⟩ = some (.int .i64 ix) ∧ w'.cell? ⟨w.heap.size, 1, none⟩ = some (.int .i64 sz) ∧ w'.cell? ⟨w.heap.size, 2, none⟩ = some (.slice A ls.length c)) (by kernel_rfl) ⟨z0, z1, z2⟩ (fun hHeld => ?_)
   generalize w2.drew = wr at *
   refine ty 0 6 rfl rfl ?_; simp only [sa, sb, sc]
   refine ty 1 7 rfl rfl ?_; simp only [sa, sb, sc]
   refine rd 2 (by kernel_rfl) rfl (fun K hK => ?_)
   go_simp
   go_at_call 56
   refine (HR.out _ HB.out.2.1).mono ?_
   rintro e w' ⟨rfl, rfl⟩
   try dsimp only
   refine hK.out _ _ ⟨z0, z1, z2⟩ (fun hHeld2 => ?_)
   clear hK K; try simp only [Act.put, sa, sb, sc]
   refine ty 3 9 rfl rfl ?_; simp only [sa, sb, sc]
   refine ty 4 10 rfl rfl ?_; simp only [sa, sb, sc]
   refine ty 5 11 rfl rfl ?_; simp only [sa, sb, sc]
   refine ty 6 12 rfl rfl ?_; simp only [sa, sb, sc]
   refine ty 7 13 rfl rfl ?_; simp only [sa, sb, sc]
   refine ty 8 14 rfl rfl ?_; simp only [sa, sb, sc]
   refine ty 9 15 rfl rfl ?_; simp only [sa, sb, sc]
   refine tn 10 16 rfl rfl ?_; simp only [sa, sb, sc]
   refine tn 11 17 rfl rfl ?_; simp only [sa, sb, sc]
   refine tn 12 18 rfl rfl ?_; simp only [sa, sb, sc]
   refine ty 13 19 rfl rfl ?_; simp only [sa, sb, sc]
   refine ty 14 20 rfl rfl ?_; simp only [sa, sb, sc]
   refine tn 15 21 rfl rfl ?_; simp only [sa, sb, sc]
   refine tn 16 22 rfl rfl ?_; simp only [sa, sb, sc]
   refine tn 17 23 rfl rfl ?_; simp only [sa, sb, sc]
   refine tn 18 24 rfl rfl ?_; simp only [sa, sb, sc]
   refine tn 19 25 rfl rfl ?_; simp only [sa, sb, sc]
   refine ty 20 26 rfl rfl ?_; simp only [sa, sb, sc]
   refine ty 21 27 rfl rfl ?_; simp only [sa, sb, sc]
   refine tn 22 28 rfl rfl ?_; simp only [sa, sb, sc]
   refine tn 23 29 rfl rfl ?_; simp only [sa, sb, sc]
   refine tn 24 30 rfl rfl ?_; simp only [sa, sb, sc]
   refine tn 25 31 rfl rfl ?_; simp only [sa, sb, sc]
   refine tn 26 32 rfl rfl ?_; simp only [sa, sb, sc]
   refine tn 27 33 rfl rfl ?_; simp only [sa, sb, sc]
   refine tn 28 34 rfl rfl ?_; simp only [sa, sb, sc]
   refine tn 29 35 rfl rfl ?_; simp only [sa, sb, sc]
   refine tn 30 36 rfl rfl ?_; simp only [sa, sb, sc]
   refine ty 31 37 rfl rfl ?_; simp only [sa, sb, sc]
   refine wpAnyH_done (by kernel_rfl) ?_ _
   clear hHeld z0 z1 z2
   go_wp2
   go_ret2
   rw [HQ0.out HZ.out, HZ.out]
   exact ⟨_, rfl, Sho.nil _ 1, HB.out.1⟩
end Go.Proofs.YtgeplpdcnanmnaaGreat

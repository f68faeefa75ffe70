/- The key of the owner whose seed is number 3. Written by keys.py. What an owner signs verifies; the keys of the first owners are unlike. No walk. The feeder's plain law: what an offer and a step make of it. No walk. The feeder as the laws meet it: each of its steps, with what the law keeps of it. The law's known. The law FeederOffers: what a round holds. No walk. The program's cosignatures: Verify. Conditions: as each theorem states them. -/
import Derived.Test.YtlkgeifmppadmaaJk
import Derived.Test.YtlkgeifmppadmaaJc
import Derived.Test.YtlkgeifmppadmaaJd
import Derived.Test.YtlkgeifmppadmaaJe
import Derived.Test.YtlkgeifmppadmaaJj
import Derived.Test.YtlkgeifmppadmaaJf
import Derived.Test.YtlkgeifmppadmaaJh
namespace Go.Proofs.Ytlkgeifmppadmaa

theorem ky3_seed : seedN 3 = 99635693872900145543680866621542376662733435748152943543771334304243303475929 := by decide +kernel
theorem ky3_0 : pubN 99635693872900145543680866621542376662733435748152943543771334304243303475929 0 = 1551114227323312195824717521562936082920762641417957670758861872696973085538 := by decide +kernel
theorem ky3_1 : pubN 99635693872900145543680866621542376662733435748152943543771334304243303475929 1 = 75213495791676181026573349577008995038075517920378527379804450210022363171330 := by decide +kernel
theorem ky3_2 : pubN 99635693872900145543680866621542376662733435748152943543771334304243303475929 2 = 30659980478076591306732652079823029046941416540951259031921015220699240813300 := by decide +kernel
theorem ky3_3 : pubN 99635693872900145543680866621542376662733435748152943543771334304243303475929 3 = 23311156782947832235501284778360567279436113702243140013155284140168564403804 := by decide +kernel
theorem ky3_4 : pubN 99635693872900145543680866621542376662733435748152943543771334304243303475929 4 = 85363715684970906167801763762703007276317960788412461441736275000705002328610 := by decide +kernel
theorem ky3_5 : pubN 99635693872900145543680866621542376662733435748152943543771334304243303475929 5 = 103225527353764928267543908667371488846242006458009905249498637916222073410421 := by decide +kernel
theorem ky3_6 : pubN 99635693872900145543680866621542376662733435748152943543771334304243303475929 6 = 3322337727919865556145602010330977260558243672743636969585005273772641967871 := by decide +kernel
theorem ky3_7 : pubN 99635693872900145543680866621542376662733435748152943543771334304243303475929 7 = 16081376238006011031091255912633305394337617179968871857604980678743448113727 := by decide +kernel
theorem ky3_8 : pubN 99635693872900145543680866621542376662733435748152943543771334304243303475929 8 = 18979877916938300651988933170052815931413312341801490803075261522667851454058 := by decide +kernel
theorem ky3_9 : pubN 99635693872900145543680866621542376662733435748152943543771334304243303475929 9 = 9424388574888425107613437261926905563460193711163357777060550859344088441731 := by decide +kernel
theorem ky3_10 : pubN 99635693872900145543680866621542376662733435748152943543771334304243303475929 10 = 86519952128063823268860201812875712547695731747739306543497200538412063593054 := by decide +kernel
theorem ky3_11 : pubN 99635693872900145543680866621542376662733435748152943543771334304243303475929 11 = 84820927823738389206068578161717545833454934104932234548569683329511474204436 := by decide +kernel
theorem ky3_12 : pubN 99635693872900145543680866621542376662733435748152943543771334304243303475929 12 = 26379942420421280488222903031956507322142844851590377075378319301931198453649 := by decide +kernel
theorem ky3_13 : pubN 99635693872900145543680866621542376662733435748152943543771334304243303475929 13 = 41805887335899554461294227913018216528517553717983747578969212848311022326200 := by decide +kernel
theorem ky3_14 : pubN 99635693872900145543680866621542376662733435748152943543771334304243303475929 14 = 83264046737450878597107209336947846683058009124568805814284857657686678930953 := by decide +kernel
theorem ky3_15 : pubN 99635693872900145543680866621542376662733435748152943543771334304243303475929 15 = 50297029543163825640037716822712792125417859205670980222981420906435146585352 := by decide +kernel
theorem ky3_l1 : nodsN [1551114227323312195824717521562936082920762641417957670758861872696973085538, 75213495791676181026573349577008995038075517920378527379804450210022363171330, 30659980478076591306732652079823029046941416540951259031921015220699240813300, 23311156782947832235501284778360567279436113702243140013155284140168564403804, 85363715684970906167801763762703007276317960788412461441736275000705002328610, 103225527353764928267543908667371488846242006458009905249498637916222073410421, 3322337727919865556145602010330977260558243672743636969585005273772641967871, 16081376238006011031091255912633305394337617179968871857604980678743448113727, 18979877916938300651988933170052815931413312341801490803075261522667851454058, 9424388574888425107613437261926905563460193711163357777060550859344088441731, 86519952128063823268860201812875712547695731747739306543497200538412063593054, 84820927823738389206068578161717545833454934104932234548569683329511474204436, 26379942420421280488222903031956507322142844851590377075378319301931198453649, 41805887335899554461294227913018216528517553717983747578969212848311022326200, 83264046737450878597107209336947846683058009124568805814284857657686678930953, 50297029543163825640037716822712792125417859205670980222981420906435146585352] 8 = [40938809792158505745693348767819424843675534047862694169765251648742272882766, 99298271768815727864327766175896935615877727341532097211871684604601823161083, 76309990723236091893190037542325234607927140506755722785938237325128597568035, 11175190313047703067815349257218516578819415428168690580034700834741035588087, 98704599624661211391632848101500347206171566404208335563916916491382920281972, 72152858122630684800109521784856311979458276652203731480550994659130840159843, 49044833431342398643664781356140486286679595368262573265341534322753309018582, 88474334043291524828710508859841694432308365677958151149631311472283982089204] := by decide +kernel
theorem ky3_l2 : nodsN [40938809792158505745693348767819424843675534047862694169765251648742272882766, 99298271768815727864327766175896935615877727341532097211871684604601823161083, 76309990723236091893190037542325234607927140506755722785938237325128597568035, 11175190313047703067815349257218516578819415428168690580034700834741035588087, 98704599624661211391632848101500347206171566404208335563916916491382920281972, 72152858122630684800109521784856311979458276652203731480550994659130840159843, 49044833431342398643664781356140486286679595368262573265341534322753309018582, 88474334043291524828710508859841694432308365677958151149631311472283982089204] 4 = [79361678843354435033940789396502669091058800398919697066846995967613307245431, 97004098970874128980125679849071296798386720874490311120534769263271661170074, 107433019724443237367345901954149951872359529951033029832460268611746251736786, 56383811940590894125236217937533242362944118801533582313847396350423705613070] := by decide +kernel
theorem ky3_l3 : nodsN [79361678843354435033940789396502669091058800398919697066846995967613307245431, 97004098970874128980125679849071296798386720874490311120534769263271661170074, 107433019724443237367345901954149951872359529951033029832460268611746251736786, 56383811940590894125236217937533242362944118801533582313847396350423705613070] 2 = [72507194348109446547315496360542774833634288417763437391146138006890904019991, 78033935696214168122338071949481937844239476534432682828583159309485026055385] := by decide +kernel
theorem ky3_l4 : nodsN [72507194348109446547315496360542774833634288417763437391146138006890904019991, 78033935696214168122338071949481937844239476534432682828583159309485026055385] 1 = [93275825963024569002727419101659290428578900463670182386987771087501680122316] := by decide +kernel
theorem ky3 : valB (ownerS (tagH 99 [[ub ((3 : Nat) : Int)]])) = 93275825963024569002727419101659290428578900463670182386987771087501680122316 := by
  refine owner_val _ (tagH_length _ _) [1551114227323312195824717521562936082920762641417957670758861872696973085538, 75213495791676181026573349577008995038075517920378527379804450210022363171330, 30659980478076591306732652079823029046941416540951259031921015220699240813300, 23311156782947832235501284778360567279436113702243140013155284140168564403804, 85363715684970906167801763762703007276317960788412461441736275000705002328610, 103225527353764928267543908667371488846242006458009905249498637916222073410421, 3322337727919865556145602010330977260558243672743636969585005273772641967871, 16081376238006011031091255912633305394337617179968871857604980678743448113727, 18979877916938300651988933170052815931413312341801490803075261522667851454058, 9424388574888425107613437261926905563460193711163357777060550859344088441731, 86519952128063823268860201812875712547695731747739306543497200538412063593054, 84820927823738389206068578161717545833454934104932234548569683329511474204436, 26379942420421280488222903031956507322142844851590377075378319301931198453649, 41805887335899554461294227913018216528517553717983747578969212848311022326200, 83264046737450878597107209336947846683058009124568805814284857657686678930953, 50297029543163825640037716822712792125417859205670980222981420906435146585352] [40938809792158505745693348767819424843675534047862694169765251648742272882766, 99298271768815727864327766175896935615877727341532097211871684604601823161083, 76309990723236091893190037542325234607927140506755722785938237325128597568035, 11175190313047703067815349257218516578819415428168690580034700834741035588087, 98704599624661211391632848101500347206171566404208335563916916491382920281972, 72152858122630684800109521784856311979458276652203731480550994659130840159843, 49044833431342398643664781356140486286679595368262573265341534322753309018582, 88474334043291524828710508859841694432308365677958151149631311472283982089204] [79361678843354435033940789396502669091058800398919697066846995967613307245431, 97004098970874128980125679849071296798386720874490311120534769263271661170074, 107433019724443237367345901954149951872359529951033029832460268611746251736786, 56383811940590894125236217937533242362944118801533582313847396350423705613070] [72507194348109446547315496360542774833634288417763437391146138006890904019991, 78033935696214168122338071949481937844239476534432682828583159309485026055385] _ ?_ (fun k hk => ?_) ky3_l1 ky3_l2 ky3_l3 ky3_l4
  · rfl
  · rw [seed_val 3 (by decide), ky3_seed]
    match k, hk with
    | 0, _ => exact ky3_0
    | 1, _ => exact ky3_1
    | 2, _ => exact ky3_2
    | 3, _ => exact ky3_3
    | 4, _ => exact ky3_4
    | 5, _ => exact ky3_5
    | 6, _ => exact ky3_6
    | 7, _ => exact ky3_7
    | 8, _ => exact ky3_8
    | 9, _ => exact ky3_9
    | 10, _ => exact ky3_10
    | 11, _ => exact ky3_11
    | 12, _ => exact ky3_12
    | 13, _ => exact ky3_13
    | 14, _ => exact ky3_14
    | 15, _ => exact ky3_15
    | (n + 16), h => omega
end Go.Proofs.Ytlkgeifmppadmaa
namespace Go.Proofs.Ytlkgeifmppadmaa
open Go.RowKit
set_option linter.unusedVariables false
set_option linter.unusedSimpArgs false

theorem snoc_lt {α : Type} (l : List α) (x d : α) (i : Nat) (h : i < l.length) : (l ++ [x]).getD i d = l.getD i d := by
  simp only [List.getD_eq_getElem?_getD]
  rw [List.getElem?_append_left h]
theorem snoc_eq {α : Type} (l : List α) (x d : α) (i : Nat) (h : l.length = i) : (l ++ [x]).getD i d = x := by
  subst h
  simp [List.getD_eq_getElem?_getD]
theorem sigAcc_succ (seed : List UInt8) (key d : Int) (n : Nat) : sigAcc seed key d (n + 1) = sigAcc seed key d n ++ [partS seed key d (n / 2) (n % 2)] := rfl
theorem abN_succ (l : List (List UInt8)) (n : Nat) : abN l (n + 1) = abN l n ++ [tagH 14 [l.getD (2 * n) [], l.getD (2 * n + 1) []]] := rfl
theorem sigPath_succ (seed : List UInt8) (ix : Int) (h : Nat) : sigPath seed ix (h + 1) = sigPath seed ix h ++ [(levelS seed h).getD (sibS ix h).toNat []] := rfl
theorem sigAcc_get (seed : List UInt8) (key d : Int) (n i : Nat) (h : i < n) : (sigAcc seed key d n).getD i [] = partS seed key d (i / 2) (i % 2) := by
  induction n with
  | zero => omega
  | succ n ih =>
    rw [sigAcc_succ]
    by_cases hi : i < n
    · rw [snoc_lt _ _ _ _ (by rw [sigAcc_length]; exact hi)]
      exact ih hi
    · obtain rfl : i = n := by omega
      rw [snoc_eq _ _ _ _ (sigAcc_length seed key d _)]
theorem rootPart_of (seed : List UInt8) (key d : Int) (i : Nat) : rootPart d i (partS seed key d (i / 2) (i % 2)) = shownS seed key ((i / 2 : Nat) : Int) ((i % 2 : Nat) : Int) := by
  unfold rootPart partS
  by_cases h : (bitS d (i / 2) == ((i % 2 : Nat) : Int)) = true
  · rw [if_pos h, if_pos h]; rfl
  · rw [if_neg h, if_neg h]
theorem rootAcc_even (seed : List UInt8) (key d : Int) (ls : List (List UInt8)) (h : ∀ i, i < 64 → ls.getD i [] = partS seed key d (i / 2) (i % 2)) : ∀ j, j ≤ 32 → rootAcc d ls (2 * j) = pubAcc seed key j
  | 0, _ => rfl
  | j + 1, hj => by
    have e : rootAcc d ls (2 * (j + 1)) = (rootAcc d ls (2 * j) ++ rootPart d (2 * j) (ls.getD (2 * j) [])) ++ rootPart d (2 * j + 1) (ls.getD (2 * j + 1) []) := rfl
    rw [e, rootAcc_even seed key d ls h j (by omega), h _ (by omega), h _ (by omega), rootPart_of, rootPart_of]
    have e1 : 2 * j / 2 = j := by omega
    have e2 : 2 * j % 2 = 0 := by omega
    have e3 : (2 * j + 1) / 2 = j := by omega
    have e4 : (2 * j + 1) % 2 = 1 := by omega
    rw [e1, e2, e3, e4]
    rfl
theorem root_of (seed msg : List UInt8) (key : Int) : rootS msg (partsS seed key msg) = publicS seed key := by
  have e := rootAcc_even seed key (digS msg) (partsS seed key msg) (fun i hi => sigAcc_get seed key (digS msg) 64 i hi) 32 (Nat.le_refl _)
  unfold rootS publicS
  rw [← e]
theorem abN_get (l : List (List UInt8)) (n i : Nat) (h : i < n) : (abN l n).getD i [] = tagH 14 [l.getD (2 * i) [], l.getD (2 * i + 1) []] := by
  induction n with
  | zero => omega
  | succ n ih =>
    rw [abN_succ]
    by_cases hi : i < n
    · rw [snoc_lt _ _ _ _ (by rw [abN_length]; exact hi)]
      exact ih hi
    · obtain rfl : i = n := by omega
      rw [snoc_eq _ _ _ _ (abN_length l _)]
theorem sigPath_get (seed : List UInt8) (ix : Int) (n h : Nat) (hh : h < n) : (sigPath seed ix n).getD h [] = (levelS seed h).getD (sibS ix h).toNat [] := by
  induction n with
  | zero => omega
  | succ n ih =>
    rw [sigPath_succ]
    by_cases hi : h < n
    · rw [snoc_lt _ _ _ _ (by rw [sigPath_length]; exact hi)]
      exact ih hi
    · obtain rfl : h = n := by omega
      rw [snoc_eq _ _ _ _ (sigPath_length seed ix _)]
/-- Where a key's way goes. -/
def nodeI (ix : Nat) (h : Nat) : Nat := ix / 2 ^ h
theorem node_ok : ∀ i : Fin 16, ∀ h : Fin 4, (nodeI i.val (h.val + 1)) * 2 ^ (h.val + 1) < 16 ∧ ((sideS (i.val : Int) h.val == 0) = true → nodeI i.val h.val = 2 * nodeI i.val (h.val + 1) ∧ (sibS (i.val : Int) h.val).toNat = 2 * nodeI i.val (h.val + 1) + 1) ∧ ((sideS (i.val : Int) h.val == 0) = false → nodeI i.val h.val = 2 * nodeI i.val (h.val + 1) + 1 ∧ (sibS (i.val : Int) h.val).toNat = 2 * nodeI i.val (h.val + 1)) := by decide +kernel
theorem up_of (seed : List UInt8) (ix : Nat) (hix : ix < 16) : ∀ h, h ≤ 4 → upS (ix : Int) (sigPath seed (ix : Int) 4) ((levelS seed 0).getD ix []) h = (levelS seed h).getD (nodeI ix h) []
  | 0, _ => by show _ = (levelS seed 0).getD (ix / 2 ^ 0) []; rw [Nat.pow_zero, Nat.div_one]; rfl
  | h + 1, hh => by
    obtain ⟨k1, k2, k3⟩ := node_ok ⟨ix, hix⟩ ⟨h, by omega⟩
    simp only at k1 k2 k3
    have hp := level_pow seed (h + 1) hh
    have hlen : nodeI ix (h + 1) < (levelS seed (h + 1)).length := by
      refine Nat.lt_of_mul_lt_mul_right (a := 2 ^ (h + 1)) ?_
      rw [hp]; exact k1
    have hl2 : (levelS seed (h + 1)).length = (levelS seed h).length / 2 := by
      show (abN (levelS seed h) ((levelS seed h).length / 2)).length = _
      rw [abN_length]
    have e : (levelS seed (h + 1)).getD (nodeI ix (h + 1)) [] = tagH 14 [(levelS seed h).getD (2 * nodeI ix (h + 1)) [], (levelS seed h).getD (2 * nodeI ix (h + 1) + 1) []] := abN_get (levelS seed h) _ _ (by omega)
    rw [e]
    unfold upS
    rw [up_of seed ix hix h (by omega), sigPath_get seed _ 4 h (by omega)]
    cases hs : (sideS (ix : Int) h == 0) with
    | true =>
      obtain ⟨a, b⟩ := k2 hs
      rw [if_pos rfl, a, b]
    | false =>
      obtain ⟨a, b⟩ := k3 hs
      rw [if_neg (by decide), a, b]
theorem getD_mem {ls : List (List UInt8)} {x : List UInt8} (h : x ∈ ls) : ∃ i, i < ls.length ∧ ls.getD i [] = x := by
  obtain ⟨i, hi, rfl⟩ := List.getElem_of_mem h
  exact ⟨i, hi, by simp [List.getD_eq_getElem?_getD, List.getElem?_eq_getElem hi]⟩
theorem sigAcc_32 (seed : List UInt8) (key d : Int) (n : Nat) : ∀ x ∈ sigAcc seed key d n, x.length = 32 := fun x hx => by
  obtain ⟨i, hi, e⟩ := getD_mem hx
  rw [sigAcc_length] at hi
  rw [← e, sigAcc_get seed key d n i hi]
  exact partS_length _ _ _ _ _
theorem sigPath_32 (seed : List UInt8) (ix : Int) (h0 : 0 ≤ ix) (h1 : ix < 16) (n : Nat) (hn : n ≤ 4) : ∀ x ∈ sigPath seed ix n, x.length = 32 := fun x hx => by
  obtain ⟨i, hi, e⟩ := getD_mem hx
  rw [sigPath_length] at hi
  rw [← e, sigPath_get seed ix n i hi]
  have hs := sib_lt seed ix h0 h1 i (by omega)
  rw [List.getD_eq_getElem?_getD, List.getElem?_eq_getElem hs]
  exact levelS_32 seed i _ hs
theorem right_of (seed : List UInt8) (ix : Int) (h0 : 0 ≤ ix) (h1 : ix < 16) (msg : List UInt8) : rightB (signS seed ix msg) = true := by
  have e1 : (signS seed ix msg).parts.all len32 = true := by
    rw [List.all_eq_true]
    intro x hx
    have := sigAcc_32 seed ix (digS msg) 64 x hx
    simp [len32, this]
  have e2 : (signS seed ix msg).path.all len32 = true := by
    rw [List.all_eq_true]
    intro x hx
    have := sigPath_32 seed ix h0 h1 4 (Nat.le_refl _) x hx
    simp [len32, this]
  have e3 : (signS seed ix msg).parts.length = 64 := partsS_length seed ix msg
  have e4 : (signS seed ix msg).path.length = 4 := sigPath_length seed ix 4
  have e5 : (signS seed ix msg).index = ix := rfl
  unfold rightB
  rw [e1, e2, e3, e4, e5]
  simp [h0, h1]
theorem verify_of (seed : List UInt8) (ix : Int) (h0 : 0 ≤ ix) (h1 : ix < 16) (msg : List UInt8) : verifyB (ownerS seed) msg (signS seed ix msg) = true := by
  obtain ⟨k, rfl⟩ := Int.eq_ofNat_of_zero_le h0
  have hk : k < 16 := by omega
  unfold verifyB
  rw [right_of seed k h0 h1 msg, Bool.true_and, beq_iff_eq]
  have e1 : (signS seed (k : Int) msg).index = (k : Int) := rfl
  have e2 : (signS seed (k : Int) msg).path = sigPath seed (k : Int) 4 := rfl
  have e3 : (signS seed (k : Int) msg).parts = partsS seed (k : Int) msg := rfl
  rw [e1, e2, e3, root_of]
  have e4 : publicS seed (k : Int) = (levelS seed 0).getD k [] := by
    show _ = (pubs seed 16).getD k []
    unfold pubs
    rw [List.getD_eq_getElem?_getD, List.getElem?_map, List.getElem?_range hk]
    rfl
  rw [e4, up_of seed k hk 4 (Nat.le_refl _)]
  have e5 : nodeI k 4 = 0 := by unfold nodeI; omega
  rw [e5]
  rfl
theorem small_of (seed : List UInt8) (ix : Int) (h0 : 0 ≤ ix) (h1 : ix < 16) (msg : List UInt8) : SmallSig (signS seed ix msg) := by
  have e3 : (signS seed ix msg).parts.length = 64 := partsS_length seed ix msg
  have e4 : (signS seed ix msg).path.length = 4 := sigPath_length seed ix 4
  refine ⟨by omega, by omega, fun i hi => ?_, fun i hi => ?_⟩
  · have := sigAcc_32 seed ix (digS msg) 64 _ (List.getElem_mem hi)
    omega
  · have := sigPath_32 seed ix h0 h1 4 (Nat.le_refl _) _ (List.getElem_mem hi)
    omega
/-- A checkpoint that its log signed verifies. -/
theorem ck_of (seed : List UInt8) (z : Int) (h0 : 0 ≤ z) (h1 : z ≤ 256) : ckVerB (ownerS seed) (signedS seed z) = true := by
  unfold ckVerB
  have e : ckB (signedS seed z).ck = true := by
    show (decide (0 ≤ z) && decide (z ≤ 256) && decide ((hashS z).length = 32)) = true
    rw [hashS_length]; simp [h0, h1]
  rw [e, Bool.true_and]
  exact verify_of seed (z % 16) (by omega) (by omega) _
theorem keys_apart : ownerS (seedS 1) ≠ ownerS (seedS 2) ∧ ownerS (seedS 1) ≠ ownerS (seedS 3) ∧ ownerS (seedS 2) ≠ ownerS (seedS 3) := by
  have h1 := ky1
  have h2 := ky2
  have h3 := ky3
  have e1 : seedS 1 = tagH 99 [[ub ((1 : Nat) : Int)]] := rfl
  have e2 : seedS 2 = tagH 99 [[ub ((2 : Nat) : Int)]] := rfl
  have e3 : seedS 3 = tagH 99 [[ub ((3 : Nat) : Int)]] := rfl
  rw [← e1] at h1
  rw [← e2] at h2
  rw [← e3] at h3
  refine ⟨fun e => ?_, fun e => ?_, fun e => ?_⟩
  · rw [e, h2] at h1; exact absurd h1 (by decide)
  · rw [e, h3] at h1; exact absurd h1 (by decide)
  · rw [e, h3] at h2; exact absurd h2 (by decide)
theorem wits_right (n : Nat) (hn : n ≤ 3) : witsN (witS n) n = true := by
  obtain ⟨a12, a13, a23⟩ := keys_apart
  have l1 := ownerS_length (seedS 1)
  have l2 := ownerS_length (seedS 2)
  have l3 := ownerS_length (seedS 3)
  obtain rfl | rfl | rfl | rfl : n = 0 ∨ n = 1 ∨ n = 2 ∨ n = 3 := by omega
  · rfl
  · have e : witS 1 = [ownerS (seedS 1)] := rfl
    rw [e]
    generalize ownerS (seedS 1) = K1 at *
    simp [witsN, anyB, len32, l1]
  · have e : witS 2 = [ownerS (seedS 1), ownerS (seedS 2)] := rfl
    rw [e]
    generalize ownerS (seedS 1) = K1 at *
    generalize ownerS (seedS 2) = K2 at *
    simp [witsN, anyB, len32, l1, l2, a12]
  · have e : witS 3 = [ownerS (seedS 1), ownerS (seedS 2), ownerS (seedS 3)] := rfl
    rw [e]
    generalize ownerS (seedS 1) = K1 at *
    generalize ownerS (seedS 2) = K2 at *
    generalize ownerS (seedS 3) = K3 at *
    simp [witsN, anyB, len32, l1, l2, l3, a12, a13, a23]
/-- The law's policy is right. -/
theorem pol_right (n : Nat) (q : Int) (h1 : 1 ≤ n) (hn : n ≤ 3) (hq : 1 ≤ q) (hq2 : q ≤ (n : Int)) : polB (polS n q) = true := by
  have l0 : (polS n q).log.length = 32 := ownerS_length (seedS 0)
  have lw : (polS n q).wits.length = n := witS_length n
  have hw : witsN (polS n q).wits n = true := wits_right n hn
  have lq : (polS n q).quorum = q := rfl
  unfold polB
  rw [l0, lw, hw, lq]
  have a1 : (1 : Nat) ≤ n := h1
  have a2 : n ≤ 4 := by omega
  simp [a1, a2, hq, hq2]
theorem pol_small (n : Nat) (q : Int) (hn : n ≤ 10) (hq : 1 ≤ q) (hq2 : q ≤ 10) : SmallPol (polS n q) := by
  have l0 : (polS n q).log.length = 32 := ownerS_length (seedS 0)
  have lw : (polS n q).wits.length = n := witS_length n
  have lq : (polS n q).quorum = q := rfl
  refine ⟨by omega, by omega, fun i hi => ?_, by omega, by omega⟩
  have h : (polS n q).wits[i] ∈ witS n := List.getElem_mem hi
  simp only [witS, List.mem_map] at h
  obtain ⟨k, _, e⟩ := h
  rw [← e, ownerS_length]
  decide
end Go.Proofs.Ytlkgeifmppadmaa
namespace Go.Proofs.Ytlkgeifmppadmaa
open Go.RowKit
set_option linter.unusedVariables false
set_option linter.unusedSimpArgs false

theorem mem_insE {x y : Ent} {m : List Ent} : y ∈ insE x m ↔ y = x ∨ y ∈ m := by
  have := (insE_perm x m).mem_iff (a := y)
  rw [this]
  simp [or_comm]
theorem mem_keepW {what : Int} {y : Ent} {m : List Ent} : y ∈ keepW what m ↔ y ∈ m ∧ y.wh ≠ what := by simp [keepW]
theorem countP_insE (p : Ent → Bool) (x : Ent) (m : List Ent) : (insE x m).countP p = m.countP p + (if p x then 1 else 0) := by
  rw [(insE_perm x m).countP_eq, List.countP_append]
  simp [List.countP_cons]
theorem countP_keepW (p : Ent → Bool) (what : Int) (m : List Ent) (h : ∀ x ∈ m, p x = true → x.wh ≠ what) : (keepW what m).countP p = m.countP p := by
  unfold keepW
  rw [List.countP_filter]
  apply List.countP_congr
  intro x hx
  by_cases hp : p x = true
  · simp [hp, h x hx hp]
  · simp [hp]
/-- All that is planned behind an offer is planned for now, each witness once. -/
theorem offM_all (m : List Ent) (ord now : Int) (hm : ∀ x ∈ m, 0 ≤ x.wh) : ∀ i : Nat, (∀ x ∈ offM m ord now i, 0 ≤ x.wh ∧ ((x.wh < (i : Int) ∧ x.tm = now) ∨ (x ∈ m ∧ (i : Int) ≤ x.wh))) ∧ (offM m ord now i).countP (fun x => decide (x.wh < (i : Int))) = i
  | 0 => ⟨fun x hx => ⟨hm x hx, .inr ⟨hx, hm x hx⟩⟩, by
      rw [List.countP_eq_zero]
      intro x hx
      have := hm x hx
      simp; omega⟩
  | i + 1 => by
    obtain ⟨h1, h2⟩ := offM_all m ord now hm i
    have hk : ∀ x ∈ keepW (i : Int) (offM m ord now i), 0 ≤ x.wh ∧ ((x.wh < (i : Int) ∧ x.tm = now) ∨ (x ∈ m ∧ (i : Int) + 1 ≤ x.wh)) := fun x hx => by
      obtain ⟨a, b⟩ := mem_keepW.1 hx
      obtain ⟨c, e⟩ := h1 x a
      refine ⟨c, ?_⟩
      rcases e with e | e
      · exact .inl e
      · exact .inr ⟨e.1, by have := e.2; omega⟩
    constructor
    · intro x hx
      rcases mem_insE.1 hx with rfl | hx
      · exact ⟨by show (0 : Int) ≤ (i : Int); omega, .inl ⟨by show (i : Int) < ((i + 1 : Nat) : Int); omega, rfl⟩⟩
      · obtain ⟨a, b⟩ := hk x hx
        refine ⟨a, ?_⟩
        rcases b with b | b
        · exact .inl ⟨by have := b.1; omega, b.2⟩
        · exact .inr ⟨b.1, by have := b.2; omega⟩
    · show (insE _ (keepW (i : Int) (offM m ord now i))).countP _ = _
      rw [countP_insE]
      have e1 : (keepW (i : Int) (offM m ord now i)).countP (fun x => decide (x.wh < ((i + 1 : Nat) : Int))) = (keepW (i : Int) (offM m ord now i)).countP (fun x => decide (x.wh < (i : Int))) := by
        apply List.countP_congr
        intro x hx
        have := (mem_keepW.1 hx).2
        simp only [decide_eq_true_eq]
        omega
      rw [e1, countP_keepW _ _ _ (fun x hx hp => by simp at hp; omega), h2, if_pos (by simp; omega)]
theorem offM_due (m : List Ent) (ord now : Int) (k : Nat) (hm : ∀ x ∈ m, 0 ≤ x.wh ∧ x.wh < (k : Int)) : (∀ x ∈ offM m ord now k, 0 ≤ x.wh ∧ x.wh < (k : Int) ∧ x.tm = now) ∧ (offM m ord now k).length = k := by
  obtain ⟨h1, h2⟩ := offM_all m ord now (fun x hx => (hm x hx).1) k
  have h3 : ∀ x ∈ offM m ord now k, 0 ≤ x.wh ∧ x.wh < (k : Int) ∧ x.tm = now := fun x hx => by
    obtain ⟨a, b⟩ := h1 x hx
    rcases b with b | b
    · exact ⟨a, b.1, b.2⟩
    · have := (hm x b.1).2; have := b.2; omega
  refine ⟨h3, ?_⟩
  have h4 : (offM m ord now k).countP (fun x => decide (x.wh < (k : Int))) = (offM m ord now k).length := by
    rw [List.countP_eq_length]
    intro x hx
    simp [(h3 x hx).2.1]
  rw [← h4, h2]
theorem takeWhile_all {α : Type} (p : α → Bool) : ∀ l : List α, (∀ x ∈ l, p x = true) → l.takeWhile p = l
  | [], _ => rfl
  | x :: l, h => by
    rw [List.takeWhile_cons, if_pos (h x (by simp)), takeWhile_all p l (fun y hy => h y (List.mem_cons_of_mem _ hy))]
/-- The step behind an offer asks all. -/
theorem off_step (d : FdD) (s : SgD) (now : Int) (hm : ∀ x ∈ d.m, 0 ≤ x.wh ∧ x.wh < (d.l.length : Int)) : (reqL (offD d s now) now).length = d.l.length := by
  obtain ⟨h1, h2⟩ := offM_due d.m d.ord now d.l.length hm
  have e : dueL (offD d s now).m now = offM d.m d.ord now d.l.length := takeWhile_all _ _ (fun x hx => by simp [(h1 x hx).2.2])
  simp only [reqL, whoL, List.length_map]
  rw [e, h2]
theorem stN_wh (now : Int) (n : Nat) (ws : List Nat) : ∀ d : FdD, (∀ x ∈ d.m, 0 ≤ x.wh ∧ x.wh < (n : Int)) → (∀ k ∈ ws, k < n) → ∀ x ∈ (stN now d ws).m, 0 ≤ x.wh ∧ x.wh < (n : Int) := by
  induction ws with
  | nil => intro d h _; exact h
  | cons k ws ih =>
    intro d h hw
    refine ih (st1 now d k) (fun x hx => ?_) (fun j hj => hw j (List.mem_cons_of_mem _ hj))
    rcases mem_insE.1 hx with rfl | hx
    · have := hw k (by simp)
      exact ⟨by show (0 : Int) ≤ (k : Int); omega, by show (k : Int) < (n : Int); omega⟩
    · exact h x (mem_keepW.1 hx).1
/-- What the law keeps of its feeder. -/
structure FdJ (d : FdD) (p : PolD) (retry : Int) (n : Nat) (B : Nat) : Prop where
  pol : d.p = p
  re : d.retry = retry
  len : d.l.length = n
  wh : ∀ x ∈ d.m, 0 ≤ x.wh ∧ x.wh < (n : Int)
  ml : d.m.length ≤ 8 * B
  ord : d.ord ≤ 8 * (B : Int)
  tr : TrOk d.l (8 * (B : Int))
  sm : SmallSig d.cur.sig ∧ d.cur.ck.root.length ≤ 100000000
theorem tr_rst (l : List WtD) : TrOk (l.map rst) 0 := fun k => by
  unfold wAt
  rw [List.getD_eq_getElem?_getD, List.getElem?_map]
  cases l[k]? with
  | none => exact ⟨Int.le_refl _, Int.le_refl _⟩
  | some x => exact ⟨Int.le_refl _, Int.le_refl _⟩
theorem fdj_new (p : PolD) (retry : Int) : FdJ (fdNew p retry) p retry p.wits.length 0 := by
  refine ⟨rfl, rfl, by simp [fdNew], fun x hx => by simp [fdNew] at hx, by simp [fdNew], by simp [fdNew], fun k => ?_, ⟨⟨Nat.zero_le _, Nat.zero_le _, fun i h => absurd h (Nat.not_lt_zero _), fun i h => absurd h (Nat.not_lt_zero _)⟩, Nat.zero_le _⟩⟩
  show 0 ≤ (wAt (List.replicate p.wits.length ⟨0, 0, false⟩) k).tries ∧ _
  have e : (wAt (List.replicate p.wits.length ⟨0, 0, false⟩) k).tries = 0 := by
    unfold wAt
    rw [List.getD_eq_getElem?_getD, List.getElem?_replicate]
    split <;> rfl
  rw [show (fdNew p retry).l = List.replicate p.wits.length ⟨0, 0, false⟩ from rfl, e]
  exact ⟨Int.le_refl _, by omega⟩
theorem FdJ.offer {d : FdD} {p : PolD} {retry : Int} {n B : Nat} (h : FdJ d p retry n B) (hn : n ≤ 4) (s : SgD) (hs : SmallSig s.sig) (hr : s.ck.root.length ≤ 100000000) (now : Int) : FdJ (offD d s now) p retry n (B + 1) := by
  obtain ⟨h1, h2⟩ := offM_due d.m d.ord now n h.wh
  have e : (offD d s now).m = offM d.m d.ord now n := by show offM d.m d.ord now d.l.length = _; rw [h.len]
  refine ⟨h.pol, h.re, by show (d.l.map rst).length = n; rw [List.length_map, h.len], by rw [e]; exact fun x hx => ⟨(h1 x hx).1, (h1 x hx).2.1⟩, by rw [e, h2]; omega, ?_, ?_, ⟨hs, hr⟩⟩
  · show ordN d.ord d.l.length ≤ _
    rw [ordN_eq, h.len]
    have := h.ord
    omega
  · intro k
    have := tr_rst d.l k
    exact ⟨this.1, by have := this.2; show (wAt (d.l.map rst) k).tries ≤ _; omega⟩
theorem who_lt {d : FdD} {n : Nat} (h : ∀ x ∈ d.m, 0 ≤ x.wh ∧ x.wh < (n : Int)) (now : Int) : ∀ k ∈ whoL d.m now, k < n := fun k hk => by
  simp only [whoL, List.mem_map] at hk
  obtain ⟨x, hx, rfl⟩ := hk
  have := h x ((List.takeWhile_prefix _).subset hx)
  omega
theorem FdJ.step {d : FdD} {p : PolD} {retry : Int} {n B : Nat} (h : FdJ d p retry n B) (now : Int) (hq : dueN d.m now ≤ 8) : FdJ (stepD d now) p retry n (B + 1) := by
  have hw : (whoL d.m now).length ≤ 8 := by simp only [whoL, List.length_map]; exact hq
  have hd : (d.m.drop (dueN d.m now)).length ≤ d.m.length := by rw [List.length_drop]; omega
  refine ⟨by rw [stepD, stN_p]; exact h.pol, by rw [stepD, stN_retry]; exact h.re, by rw [stepD, stN_l]; exact h.len, ?_, ?_, ?_, ?_, ?_⟩
  · exact stN_wh now n _ _ (fun x hx => h.wh x (List.mem_of_mem_drop hx)) (who_lt h.wh now)
  · have := stN_m now (whoL d.m now) { d with m := d.m.drop (dueN d.m now) }
    have h2 := h.ml
    show (stN now _ _).m.length ≤ _
    have h3 : ({ d with m := d.m.drop (dueN d.m now) } : FdD).m.length ≤ d.m.length := hd
    omega
  · show (stN now _ _).ord ≤ _
    rw [stN_ord]
    have h2 := h.ord
    show d.ord + _ ≤ _
    omega
  · have := stN_tr now (whoL d.m now) { d with m := d.m.drop (dueN d.m now) } (8 * (B : Int)) h.tr
    intro k
    have h2 := this k
    exact ⟨h2.1, by have := h2.2; show (wAt (stN now _ _).l k).tries ≤ _; omega⟩
  · have e : ∀ (ws : List Nat) (d : FdD), (stN now d ws).cur = d.cur := fun ws => by
      induction ws with
      | nil => intro d; rfl
      | cons k ws ih => intro d; show (stN now (st1 now d k) ws).cur = _; rw [ih]; rfl
    have e2 : (stepD d now).cur = d.cur := e _ _
    rw [e2]
    exact h.sm
theorem step_has (d : FdD) (now : Int) : (stepD d now).has = d.has ∧ (stepD d now).cur = d.cur := by
  have e : ∀ (ws : List Nat) (d : FdD), (stN now d ws).has = d.has ∧ (stN now d ws).cur = d.cur := fun ws => by
    induction ws with
    | nil => intro d; exact ⟨rfl, rfl⟩
    | cons k ws ih => intro d; have := ih (st1 now d k); exact ⟨this.1, this.2⟩
  exact e _ _
end Go.Proofs.Ytlkgeifmppadmaa
namespace Go.Proofs.Ytlkgeifmppadmaa
open Go.RowKit
set_option linter.unusedVariables false
set_option linter.unusedSimpArgs false

/-- A feeder at block f, all in blocks from B on. -/
def FS (B : Nat) (w : World) (f : Nat) (d : FdD) : Prop := ∃ Z, FdAt Z w f d ∧ ∀ g, Z g → B ≤ g ∧ g < w.heap.size
theorem FS.below {B : Nat} {w w1 : World} {f : Nat} {d : FdD} (h : FS B w f d) (hb : Below w.heap.size w w1) : FS B w1 f d := by
  obtain ⟨Z, h1, h2⟩ := h
  exact ⟨Z, h1.below hb, fun g hg => ⟨(h2 g hg).1, Nat.lt_of_lt_of_le (h2 g hg).2 hb.size⟩⟩
theorem FS.low {B : Nat} {w : World} {f : Nat} {d : FdD} (h : FS B w f d) : B ≤ f ∧ f < w.heap.size := by
  obtain ⟨Z, ⟨r, us, es, h1⟩, h2⟩ := h
  exact h2 f (h1.mz f (.inl rfl))
theorem OwnersS.keep {B : Nat} {S : Nat → Prop} {w w1 : World} {v : Value} {n : Nat} (h : OwnersS S w v n) (hS : ∀ g, S g → g < B) (hb : Below B w w1) : OwnersS S w1 v n := h.chg (chg_belowB hb) (fun g hg e => by have := hS g hg; have h2 : B ≤ g := e; omega)
theorem new_fs (v : Value) (p : PolD) (retry : Int) (hs : SmallPol p) (hpb : polB p = true) (hr1 : 1 ≤ retry) (hr2 : retry ≤ 100) (w : World) (hv : PolV w v p) :
    Calls Try.prog 8 #[v, .int .i64 retry] w fun e w' => ∃ f, e = .returned (.tuple #[.pointer (some ⟨f, 0, none⟩), .int .i64 0]) ∧ FS w.heap.size w' f (fdNew p retry) ∧ Below w.heap.size w w' := by
  refine (fnew_yes v p retry hs hpb hr1 hr2 w hv).mono ?_
  rintro e w' ⟨f, Z, h1, h2, h3, h4⟩
  exact ⟨f, h1, ⟨Z, h2, h3⟩, h4⟩
/-- Behind an offer, taken or not. -/
def offN (d : FdD) (s : SgD) (now : Int) : FdD := if offB d s = true then offD d s now else d
theorem FdJ.offN {d : FdD} {p : PolD} {retry : Int} {n B : Nat} (h : FdJ d p retry n B) (hn : n ≤ 4) (s : SgD) (hs : SmallSig s.sig) (hr : s.ck.root.length ≤ 100000000) (now : Int) : FdJ (offN d s now) p retry n (B + 1) := by
  unfold Go.Proofs.Ytlkgeifmppadmaa.offN
  by_cases hb : offB d s = true
  · rw [if_pos hb]
    exact h.offer hn s hs hr now
  · rw [if_neg hb]
    exact ⟨h.pol, h.re, h.len, h.wh, by have := h.ml; omega, by have := h.ord; omega, fun k => by have := h.tr k; exact ⟨this.1, by have := this.2; omega⟩, h.sm⟩
theorem offer_fs (B : Nat) (f : Nat) (d : FdD) (p : PolD) (retry : Int) (n K : Nat) (v : Value) (s : SgD) (now : Int) (hj : FdJ d p retry n K) (hn : n ≤ 4) (hK : K ≤ 10000) (hp : p.log.length ≤ 1000000000) (hr : s.ck.root.length ≤ 100000000) (hs : SmallSig s.sig) (w : World) (hB : B ≤ w.heap.size) (h : FS B w f d) (hv : SgV w v s) :
    Calls Try.prog 15 #[.pointer (some ⟨f, 0, none⟩), v, .int .i64 now] w fun e w' => e = .returned (.bool (offB d s)) ∧ FS B w' f (offN d s now) ∧ Below B w w' := by
  obtain ⟨Z, ⟨r, us, es, h1⟩, h2⟩ := h
  have hlog : d.p.log.length ≤ 1000000000 := by rw [hj.pol]; exact hp
  cases hb : offB d s with
  | false =>
    refine (offer_no Z f d r us es v s now hlog hr hs w h1 hv hb).mono ?_
    rintro e w' ⟨e1, e2⟩
    refine ⟨e1, ?_, e2.mono hB⟩
    unfold offN
    rw [hb, if_neg (by decide)]
    exact FS.below ⟨Z, ⟨r, us, es, h1⟩, h2⟩ e2
  | true =>
    have h0 := hb
    simp only [offB, Bool.and_eq_true, Bool.not_eq_true', Bool.and_eq_false_iff, decide_eq_false_iff_not] at h0
    obtain ⟨a1, a2⟩ := h0
    refine (offer_yes Z f d r us es v s now hlog hr hs w h1 hv a1 (fun hh => by
      rcases a2 with a2 | a2
      · rw [hh] at a2; exact absurd a2 (by decide)
      · omega) (by have := hj.ml; omega) (by have := hj.ord; omega) (by rw [hj.len]; omega) (fun g hg => (h2 g hg).2)).mono ?_
    rintro e w' ⟨e1, e2, e3⟩
    refine ⟨e1, ?_, e3.below hB (fun k hk => (h2 k hk).1)⟩
    unfold offN
    rw [hb, if_pos rfl]
    refine ⟨_, e2, fun g hg => ?_⟩
    have hz := e3.size
    rcases hg with hg | hg
    · have := h2 g hg; exact ⟨this.1, by omega⟩
    · exact ⟨by have : w.heap.size ≤ g := hg.1; omega, hg.2⟩
theorem offer_fs_no (B : Nat) (f : Nat) (d : FdD) (p : PolD) (retry : Int) (n K : Nat) (v : Value) (s : SgD) (now : Int) (hj : FdJ d p retry n K) (hp : p.log.length ≤ 1000000000) (hr : s.ck.root.length ≤ 100000000) (hs : SmallSig s.sig) (hb : offB d s = false) (w : World) (h : FS B w f d) (hv : SgV w v s) :
    Calls Try.prog 15 #[.pointer (some ⟨f, 0, none⟩), v, .int .i64 now] w fun e w' => e = .returned (.bool false) ∧ Below w.heap.size w w' := by
  obtain ⟨Z, ⟨r, us, es, h1⟩, h2⟩ := h
  exact offer_no Z f d r us es v s now (by rw [hj.pol]; exact hp) hr hs w h1 hv hb
theorem step_fs (B : Nat) (f : Nat) (d : FdD) (p : PolD) (retry : Int) (n K : Nat) (now : Int) (hj : FdJ d p retry n K) (hn : n ≤ 4) (hK : K ≤ 10000) (hre : 1 ≤ retry ∧ retry ≤ 1000) (hnow : 0 ≤ now ∧ now ≤ 1000000000000) (w : World) (hB : B ≤ w.heap.size) (h : FS B w f d) :
    Calls Try.prog 16 #[.pointer (some ⟨f, 0, none⟩), .int .i64 now] w fun e w' => ∃ A c, e = .returned (.slice A (reqL d now).length c) ∧ w'.ownsRow w.heap.size 62 2 (.slice A (reqL d now).length c) (reqL d now).length (reqCells (reqL d now)) ∧ FS B w' f (stepD d now) ∧ Below B w w' := by
  obtain ⟨Z, h1, h2⟩ := h
  refine (step_any Z f d now hnow (by rw [hj.re]; exact hre) (by have := hj.ml; omega) (by have := hj.ord; omega) (fun x hx => by rw [hj.len]; exact hj.wh x hx) (fun k => by have := hj.tr k; exact ⟨this.1, by have := this.2; omega⟩) (by rw [hj.len]; omega) w (fun g hg => (h2 g hg).2) h1).mono ?_
  rintro e w' ⟨v, rfl, e1, e2, e3⟩
  obtain ⟨A, c, rfl⟩ := (Sho.own e1).form
  refine ⟨A, c, rfl, e1, ⟨_, e2, fun g hg => ?_⟩, e3.below hB (fun k hk => (h2 k hk).1)⟩
  have hz := e3.size
  rcases hg with hg | hg
  · have := h2 g hg; exact ⟨this.1, by omega⟩
  · exact ⟨by have : w.heap.size ≤ g := hg.1; omega, hg.2⟩
theorem current_fs (B : Nat) (f : Nat) (d : FdD) (p : PolD) (retry : Int) (n K : Nat) (hj : FdJ d p retry n K) (w : World) (h : FS B w f d) :
    Calls Try.prog 17 #[.pointer (some ⟨f, 0, none⟩)] w (CurPost w d) := by
  obtain ⟨Z, h1, h2⟩ := h
  exact current_any Z f d hj.sm.2 hj.sm.1 w h1
/-- What known finds, out of a feeder that was told nothing. -/
theorem known_law (P : PolD) (hw : P.wits.length = 2) (s : SgD) : (reqL (offD (fdNew P 5) s 0) 0).length = 2 ∧ (reqL (stepD (offD (fdNew P 5) s 0) 0) 0).length = 0 ∧ (reqL (stepD (stepD (offD (fdNew P 5) s 0) 0) 0) 5).length = 2 := by
  have e : offD (fdNew P 5) s 0 = ⟨P, 5, [⟨0, 0, 0⟩, ⟨0, 1, 1⟩], 2, [⟨0, 0, false⟩, ⟨0, 0, false⟩], s, true, [], zSg, []⟩ := by
    unfold offD fdNew
    dsimp only
    rw [hw]
    rfl
  rw [e]
  generalize zSg = z
  refine ⟨rfl, ?_, ?_⟩
  · have e1 : stepD ⟨P, 5, [⟨0, 0, 0⟩, ⟨0, 1, 1⟩], 2, [⟨0, 0, false⟩, ⟨0, 0, false⟩], s, true, [], z, []⟩ 0 = ⟨P, 5, [⟨5, 2, 0⟩, ⟨5, 3, 1⟩], 4, [⟨0, 1, false⟩, ⟨0, 1, false⟩], s, true, [], z, []⟩ := rfl
    rw [e1]; rfl
  · have e1 : stepD ⟨P, 5, [⟨0, 0, 0⟩, ⟨0, 1, 1⟩], 2, [⟨0, 0, false⟩, ⟨0, 0, false⟩], s, true, [], z, []⟩ 0 = ⟨P, 5, [⟨5, 2, 0⟩, ⟨5, 3, 1⟩], 4, [⟨0, 1, false⟩, ⟨0, 1, false⟩], s, true, [], z, []⟩ := rfl
    have e2 : stepD ⟨P, 5, [⟨5, 2, 0⟩, ⟨5, 3, 1⟩], 4, [⟨0, 1, false⟩, ⟨0, 1, false⟩], s, true, [], z, []⟩ 0 = ⟨P, 5, [⟨5, 2, 0⟩, ⟨5, 3, 1⟩], 4, [⟨0, 1, false⟩, ⟨0, 1, false⟩], s, true, [], z, []⟩ := rfl
    rw [e1, e2]; rfl
/-- What a law holds: its owners in blocks of S, its feeder in blocks from B on. -/
structure LawS (S : Nat → Prop) (B : Nat) (w wr : World) (v : Value) (n f : Nat) (d : FdD) : Prop where
  own : OwnersS S wr v n
  fs : FS B wr f d
  low : ∀ g, S g → g < B
  size : B ≤ wr.heap.size
  base : w.heap.size ≤ B
  below : Below w.heap.size w wr
theorem LawS.turn {S : Nat → Prop} {B : Nat} {w wr w1 : World} {v : Value} {n f : Nat} {d d1 : FdD} (h : LawS S B w wr v n f d) (hf : FS B w1 f d1) (hb : Below B wr w1) : LawS S B w w1 v n f d1 :=
  ⟨h.own.keep h.low hb, hf, h.low, Nat.le_trans h.size hb.size, h.base, h.below.trans (hb.mono h.base)⟩
theorem LawS.quiet {S : Nat → Prop} {B : Nat} {w wr w1 : World} {v : Value} {n f : Nat} {d : FdD} (h : LawS S B w wr v n f d) (hb : Below wr.heap.size wr w1) : LawS S B w w1 v n f d :=
  h.turn (h.fs.below hb) (hb.mono h.size)
theorem LawS.in {S : Nat → Prop} {B : Nat} {w wr : World} {v : Value} {n f : Nat} {d : FdD} (h : LawS S B w wr v n f d) : ∀ g, S g → g < wr.heap.size := fun g hg => Nat.lt_of_lt_of_le (h.low g hg) h.size
theorem OwnersS.get {S : Nat → Prop} {w : World} {g o m c n : Nat} (h : OwnersS S w (.slice (some ⟨g, o, none⟩) m c) n) (i : Nat) (hi : i < n) : ∃ b, g < w.heap.size ∧ w.cell? ⟨g, o + i, none⟩ = some (.pointer (some ⟨b, 0, none⟩)) ∧ OwnerS S w b (seedS (i : Int)) := by
  obtain ⟨g', o', b, e, h1, -, -, h2, h3⟩ := h.at' i hi
  injection e with e
  injection e with e1 e2
  subst e1 e2
  exact ⟨b, h1, h2, h3⟩
theorem reqL_dueN (d : FdD) (now : Int) : dueN d.m now = (reqL d now).length := by simp [reqL, whoL, dueN]
end Go.Proofs.Ytlkgeifmppadmaa
namespace Go.Proofs.Ytlkgeifmppadmaa
open Go.RowKit
set_option linter.unusedVariables false
set_option linter.unusedSimpArgs false

theorem signed_small (seed : List UInt8) (z : Int) (h0 : 0 ≤ z) : SmallSig (signedS seed z).sig ∧ (signedS seed z).ck.root.length ≤ 100000000 := ⟨small_of seed (z % 16) (by omega) (by omega) _, by show (hashS z).length ≤ _; rw [hashS_length]; decide⟩
theorem known_off (P : PolD) (s3 s2 : SgD) (h3 : ckVerB P.log s3 = true) (n3 : s3.ck.num = 3) (n2 : s2.ck.num = 2) : offB (fdNew P 5) s3 = true ∧ offB (offD (fdNew P 5) s3 0) s2 = false := by
  constructor
  · show (ckVerB P.log s3 && !(false && _)) = true
    rw [h3]; rfl
  · show (ckVerB P.log s2 && !(true && decide (s2.ck.num ≤ s3.ck.num))) = false
    rw [n3, n2]; simp
set_option maxRecDepth 100000 in
set_option maxHeartbeats 8000000 in
theorem known_any (w : World) : Calls Try.prog 14 #[] w fun e w' => e = .returned (.bool true) ∧ Below w.heap.size w w' := by
  have HO := Lib.hid (fun wz : World => owners_any 2 (by decide) wz)
  change Hid (∀ wz : World, Calls Try.prog 7 #[.int .i64 2] wz fun e w' => ∃ v, e = .returned v ∧ OwnersS (fun g => wz.heap.size ≤ g ∧ g < w'.heap.size) w' v 3 ∧ Below wz.heap.size wz w') at HO
  have HPO := Lib.hid (fun (wz : World) (S : Nat → Prop) (v : Value) (z1 : OwnersS S wz v 3) (z2 : ∀ g, S g → g < wz.heap.size) => lpolicy_any S 2 1 v (by decide) wz z1 z2)
  have HNW := Lib.hid (fun (wz : World) (v : Value) (z : PolV wz v (polS 2 1)) => new_fs v (polS 2 1) 5 (pol_small 2 1 (by decide) (by decide) (by decide)) (pol_right 2 1 (by decide) (by decide) (by decide) (by decide)) (by decide) (by decide) wz z)
  have HS3 := Lib.hid (fun (wz : World) (S : Nat → Prop) (b : Nat) (z1 : OwnerS S wz b (seedS ((0 : Nat) : Int))) (z2 : ∀ g, S g → g < wz.heap.size) => signed_any S b (seedS ((0 : Nat) : Int)) 3 (by decide) (by decide) (by rw [seedS_length]; decide) wz z1 z2)
  have HS2 := Lib.hid (fun (wz : World) (S : Nat → Prop) (b : Nat) (z1 : OwnerS S wz b (seedS ((0 : Nat) : Int))) (z2 : ∀ g, S g → g < wz.heap.size) => signed_any S b (seedS ((0 : Nat) : Int)) 2 (by decide) (by decide) (by rw [seedS_length]; decide) wz z1 z2)
  have HV3 : Hid (ckVerB (polS 2 1).log (signedS (seedS ((0 : Nat) : Int)) 3) = true) := Lib.hid (ck_of (seedS 0) 3 (by decide) (by decide))
  have hm3 := signed_small (seedS ((0 : Nat) : Int)) 3 (by decide)
  have hm2 := signed_small (seedS ((0 : Nat) : Int)) 2 (by decide)
  have hn3 : (signedS (seedS ((0 : Nat) : Int)) 3).ck.num = 3 := rfl
  have hn2 : (signedS (seedS ((0 : Nat) : Int)) 2).ck.num = 2 := rfl
  have hpl : (polS 2 1).log.length ≤ 1000000000 := by show (ownerS (seedS 0)).length ≤ _; rw [ownerS_length]; decide
  have hpw : (polS 2 1).wits.length = 2 := witS_length 2
  generalize signedS (seedS ((0 : Nat) : Int)) 3 = s3 at *
  generalize signedS (seedS ((0 : Nat) : Int)) 2 = s2 at *
  generalize polS 2 1 = P at *
  obtain ⟨ho3, ho2⟩ := known_off P s3 s2 HV3.out hn3 hn2
  obtain ⟨hr1, hr2, hr3⟩ := known_law P hpw s3
  have hj0 := fdj_new P 5
  rw [hpw] at hj0
  have e1 : offN (fdNew P 5) s3 0 = offD (fdNew P 5) s3 0 := by unfold offN; rw [ho3, if_pos rfl]
  have e2 : offN (offD (fdNew P 5) s3 0) s2 0 = offD (fdNew P 5) s3 0 := by unfold offN; rw [ho2, if_neg (by decide)]
  have hj1 := hj0.offN (by decide) s3 hm3.1 hm3.2 0
  rw [e1] at hj1
  have hj2 := hj1.offN (by decide) s2 hm2.1 hm2.2 0
  rw [e2] at hj2
  have hj3 := hj2.step 0 (by rw [reqL_dueN, hr1]; decide)
  have hj4 := hj3.step 0 (by rw [reqL_dueN, hr2]; decide)
  have HOF1 := Lib.hid (fun (wz : World) (B f : Nat) (v : Value) (z0 : B ≤ wz.heap.size) (z1 : FS B wz f (fdNew P 5)) (z2 : SgV wz v s3) => offer_fs B f (fdNew P 5) P 5 2 0 v s3 0 hj0 (by decide) (by decide) hpl hm3.2 hm3.1 wz z0 z1 z2)
  rw [ho3, e1] at HOF1
  have HOF2 := Lib.hid (fun (wz : World) (B f : Nat) (v : Value) (z0 : B ≤ wz.heap.size) (z1 : FS B wz f (offD (fdNew P 5) s3 0)) (z2 : SgV wz v s2) => offer_fs B f (offD (fdNew P 5) s3 0) P 5 2 _ v s2 0 hj1 (by decide) (by decide) hpl hm2.2 hm2.1 wz z0 z1 z2)
  rw [ho2, e2] at HOF2
  have HST1 := Lib.hid (fun (wz : World) (B f : Nat) (z0 : B ≤ wz.heap.size) (z1 : FS B wz f (offD (fdNew P 5) s3 0)) => step_fs B f _ P 5 2 _ 0 hj2 (by decide) (by decide) (by decide) (by decide) wz z0 z1)
  rw [hr1] at HST1
  have HST2 := Lib.hid (fun (wz : World) (B f : Nat) (z0 : B ≤ wz.heap.size) (z1 : FS B wz f (stepD (offD (fdNew P 5) s3 0) 0)) => step_fs B f _ P 5 2 _ 0 hj3 (by decide) (by decide) (by decide) (by decide) wz z0 z1)
  rw [hr2] at HST2
  have HST3 := Lib.hid (fun (wz : World) (B f : Nat) (z0 : B ≤ wz.heap.size) (z1 : FS B wz f (stepD (stepD (offD (fdNew P 5) s3 0) 0) 0)) => step_fs B f _ P 5 2 _ 5 hj4 (by decide) (by decide) (by decide) (by decide) wz z0 z1)
  rw [hr3] at HST3
  clear hm3 hm2 hn3 hn2 hpl hpw ho3 ho2 hr1 hr2 hr3 hj0 hj1 hj2 hj3 hj4 e1 e2 HV3
  generalize stepD (stepD (offD (fdNew P 5) s3 0) 0) 5 = d4 at *
  generalize stepD (stepD (offD (fdNew P 5) s3 0) 0) 0 = d3 at *
  generalize stepD (offD (fdNew P 5) s3 0) 0 = d2 at *
  generalize offD (fdNew P 5) s3 0 = d1 at *
  generalize fdNew P 5 = d0 at *
  generalize hsd : seedS ((0 : Nat) : Int) = sd at *
  have HSD := Lib.hid hsd
  clear hsd
  go_enter Try.func14, Try.ntmps14
  go_wp2_with fail
  refine (HO.out _).mono ?_
  rintro e w1 ⟨v1, rfl, h1, h2⟩
  obtain ⟨A, c, rfl⟩ := h1.form
  have H1 := Lib.hid (And.intro h1 h2)
  clear h1 h2
  go_wp2_with fail
  refine (HPO.out _ _ _ H1.out.1 (fun g hg => hg.2)).mono ?_
  rintro e w2 ⟨v2, rfl, h1, h2⟩
  have H2 := Lib.hid (And.intro h1 h2)
  clear h1 h2
  go_wp2_with fail
  refine (HNW.out _ _ H2.out.1).mono ?_
  rintro e w3 ⟨f, rfl, h1, h2⟩
  have H3 : Hid (LawS (fun g => w.heap.size ≤ g ∧ g < w1.heap.size) w2.heap.size w w3 (.slice A 3 c) 3 f d0) := Lib.hid ⟨(H1.out.1.below H2.out.2).below h2, h1, fun g hg => Nat.lt_of_lt_of_le hg.2 H2.out.2.size, h2.size, Nat.le_trans H1.out.2.size H2.out.2.size, (H1.out.2.trans (H2.out.2.mono H1.out.2.size)).trans (h2.mono (Nat.le_trans H1.out.2.size H2.out.2.size))⟩
  clear h1 h2
  obtain ⟨g, o, b0, rfl, hg, -, hcap, hc0, ho0⟩ := H3.out.own.at' 0 (by decide)
  rw [Nat.add_zero] at hc0
  rw [HSD.out] at ho0
  go_wp2_with fail
  refine (HS3.out _ _ _ ho0 H3.out.in).mono ?_
  rintro e w4 ⟨v4, rfl, h1, h2⟩
  have H4 := Lib.hid (And.intro h1.sgv (H3.out.quiet h2))
  clear h1 h2 hc0 ho0 hg
  go_wp2_with fail
  refine (HOF1.out _ _ _ _ H4.out.2.size H4.out.2.fs H4.out.1).mono ?_
  rintro e w5 ⟨rfl, h1, h2⟩
  have H5 := Lib.hid (H4.out.2.turn h1 h2)
  clear h1 h2
  obtain ⟨b0, hg, hc0, ho0⟩ := H5.out.own.get 0 (by decide)
  rw [Nat.add_zero] at hc0
  rw [HSD.out] at ho0
  go_wp2_with fail
  refine (HS2.out _ _ _ ho0 H5.out.in).mono ?_
  rintro e w6 ⟨v6, rfl, h1, h2⟩
  have H6 := Lib.hid (And.intro h1.sgv (H5.out.quiet h2))
  clear h1 h2 hc0 ho0 hg
  go_wp2_with fail
  refine (HOF2.out _ _ _ _ H6.out.2.size H6.out.2.fs H6.out.1).mono ?_
  rintro e w7 ⟨rfl, h1, h2⟩
  have H7 := Lib.hid (H6.out.2.turn h1 h2)
  clear h1 h2
  go_wp2_with fail
  refine (HST1.out _ _ _ H7.out.size H7.out.fs).mono ?_
  rintro e w8 ⟨A8, c8, rfl, -, h1, h2⟩
  have H8 := Lib.hid (H7.out.turn h1 h2)
  clear h1 h2
  go_wp2_with fail
  refine (HST2.out _ _ _ H8.out.size H8.out.fs).mono ?_
  rintro e w9 ⟨A9, c9, rfl, -, h1, h2⟩
  have H9 := Lib.hid (H8.out.turn h1 h2)
  clear h1 h2
  go_wp2_with fail
  refine (HST3.out _ _ _ H9.out.size H9.out.fs).mono ?_
  rintro e w10 ⟨A10, c10, rfl, -, h1, h2⟩
  have H10 := Lib.hid (H9.out.turn h1 h2)
  clear h1 h2
  go_wp2
  go_ret
  exact ⟨rfl, H10.out.below⟩
end Go.Proofs.Ytlkgeifmppadmaa
namespace Go.Proofs.Ytlkgeifmppadmaa
open Go.RowKit
set_option linter.unusedVariables false
set_option linter.unusedSimpArgs false

theorem FdJ.up {d : FdD} {p : PolD} {retry : Int} {n A B : Nat} (h : FdJ d p retry n A) (hAB : A ≤ B) : FdJ d p retry n B :=
  ⟨h.pol, h.re, h.len, h.wh, by have := h.ml; omega, by have := h.ord; omega, fun k => by have := h.tr k; exact ⟨this.1, by have := this.2; omega⟩, h.sm⟩
/-- The newest that the feeder took is the law's most. -/
def OfI (d : FdD) (M : Int) : Prop := (M = -1 ∧ d.has = false) ∨ (0 ≤ M ∧ d.has = true ∧ d.cur.ck.num = M)
theorem OfI.new (P : PolD) (retry : Int) : OfI (fdNew P retry) (-1) := .inl ⟨rfl, rfl⟩
theorem OfI.off {d : FdD} {M : Int} (h : OfI d M) {P : PolD} {retry : Int} {n K : Nat} (hj : FdJ d P retry n K) (s : SgD) (h1 : ckVerB P.log s = true) (h0 : 0 ≤ s.ck.num) : offB d s = decide (M < s.ck.num) := by
  unfold offB
  rw [hj.pol, h1]
  rcases h with ⟨rfl, h2⟩ | ⟨h2, h3, h4⟩
  · rw [h2]; simp; omega
  · rw [h3, h4]
    by_cases hm : M < s.ck.num
    · simp [hm]
    · have : s.ck.num ≤ M := by omega
      simp [this, hm]
theorem OfI.bad {d : FdD} {P : PolD} {retry : Int} {n K : Nat} (hj : FdJ d P retry n K) (s : SgD) (h1 : ckVerB P.log s = false) : offB d s = false := by
  unfold offB
  rw [hj.pol, h1]; rfl
theorem OfI.taken {d : FdD} (s : SgD) (now : Int) (h0 : 0 ≤ s.ck.num) : OfI (stepD (offD d s now) now) s.ck.num := by
  obtain ⟨h1, h2⟩ := step_has (offD d s now) now
  exact .inr ⟨h0, by rw [h1]; rfl, by rw [h2]; rfl⟩
theorem OfI.has {d : FdD} {M : Int} (h : OfI d M) (h0 : 0 ≤ M) : d.has = true ∧ d.cur.ck.num = M := by
  rcases h with ⟨rfl, _⟩ | ⟨_, h3, h4⟩
  · omega
  · exact ⟨h3, h4⟩
/-- What a round of the law starts from. -/
structure OfS (S : Nat → Prop) (B : Nat) (w wr : World) (v : Value) (n f : Nat) (P : PolD) (M : Int) (i : Nat) (d : FdD) : Prop where
  law : LawS S B w wr v (n + 1) f d
  jrn : FdJ d P 7 n (2 * i)
  oi : OfI d M
theorem dueN_ml {d : FdD} {p : PolD} {retry : Int} {n K : Nat} (h : FdJ d p retry n K) (hn : n ≤ 4) (s : SgD) (now : Int) : dueN (offD d s now).m now ≤ 8 := by
  have h1 := off_step d s now (by rw [h.len]; exact h.wh)
  rw [reqL_dueN, h1, h.len]
  omega
theorem current_of {M : Int} (B : Nat) (f : Nat) (d : FdD) (p : PolD) (retry : Int) (n K : Nat) (hj : FdJ d p retry n K) (ho : OfI d M) (h0 : 0 ≤ M) (w : World) (h : FS B w f d) :
    Calls Try.prog 17 #[.pointer (some ⟨f, 0, none⟩)] w fun e w' => ∃ R rn rc ix P pn pc Q qn qc, e = .returned (.tuple #[.agg #[.int .i64 M, .slice R rn rc, .int .i64 ix, .slice P pn pc, .slice Q qn qc], .bool true]) ∧ Below w.heap.size w w' := by
  obtain ⟨h1, h2⟩ := ho.has h0
  refine (current_fs B f d p retry n K hj w h).mono ?_
  rintro e w' ⟨v, rfl, ⟨rt, p, q, rfl, a1, a2, a3⟩, hb⟩
  obtain ⟨R, cr, rfl⟩ := a1.1.form
  obtain ⟨P, cp, rfl⟩ := a2.rws.form
  obtain ⟨Q, cq, rfl⟩ := a3.rws.form
  rw [h1, h2]
  exact ⟨_, _, _, _, _, _, _, _, _, _, rfl, hb⟩
end Go.Proofs.Ytlkgeifmppadmaa
namespace Go.Proofs.Ytlkgeifmppadmaa
open Go.RowKit
set_option linter.unusedVariables false
set_option linter.unusedSimpArgs false

def cgVerB (p : PolD) (c : CkD) (g : CgD) : Bool := polB p && (ckB c && (decide (0 ≤ g.wit) && (decide (g.wit < (p.wits.length : Int)) && verifyB (p.wits.getD g.wit.toNat []) (bodyS tagCo c) g.sig)))
theorem Rws.get {w : World} {A : Option Addr} {n c : Nat} {ls : List (List UInt8)} (h : Rws w (.slice A n c) ls) (i : Nat) (hi : i < ls.length) : ∃ g o u, A = some ⟨g, o, none⟩ ∧ g < w.heap.size ∧ n = ls.length ∧ ls.length ≤ c ∧ w.cell? ⟨g, o + i, none⟩ = some u ∧ Bys w u (ls.getD i []) := by
  obtain ⟨us, h1, h2⟩ := h
  obtain ⟨u, e, hu⟩ := h2 i hi
  obtain ⟨g, o, e1, e2, h3, h4, _, h5⟩ := h1.place (by omega)
  exact ⟨g, o, u, e1, h3, e2, h4, h5 i _ e, by rw [List.getD_eq_getElem?_getD, List.getElem?_eq_getElem hi]; exact hu⟩
set_option maxRecDepth 100000 in
set_option maxHeartbeats 8000000 in
theorem pcgverify_any (vp vc vg : Value) (p : PolD) (c : CkD) (g : CgD) (hp : SmallPol p) (hr : c.root.length ≤ 100000000) (hs : SmallSig g.sig) (w : World) (hvp : PolV w vp p) (hvc : CkV w vc c) (hvg : CgV w vg g) :
    Calls Try.prog 37 #[vp, vc, vg] w fun e w' => e = .returned (.bool (cgVerB p c g)) ∧ Below w.heap.size w w' := by
  have HPR := Lib.hid (fun (wz : World) (v : Value) (hz : PolV wz v p) => coright_any v p hp.1 hp.2.1 hp.2.2.2 wz hz)
  have HCR := Lib.hid (fun (wz : World) (v : Value) (hz : CkV wz v c) => pckright_any v c (by omega) wz hz)
  have HBD := Lib.hid (fun (wz : World) (v : Value) (hz : CkV wz v c) => pckcosign_any v c hr wz hz)
  have HBL : Hid ((bodyS tagCo c).length ≤ 1000000000) := Lib.hid (by have := bodyS_length tagCo c; have : tagCo.length = 17 := rfl; omega)
  have HVF := Lib.hid (fun (pub : List UInt8) (hpub : pub.length ≤ 1000000000) (wz : World) (vp vm v : Value) (z1 : Bys wz vp pub) (z2 : Bys wz vm (bodyS tagCo c)) (z3 : SigV wz v g.sig) => pverify_any vp vm v pub (bodyS tagCo c) g.sig hpub HBL.out hs.1 hs.2.1 wz z1 z2 z3)
  have HCV : Hid (cgVerB p c g = (polB p && (ckB c && (decide (0 ≤ g.wit) && (decide (g.wit < (p.wits.length : Int)) && verifyB (p.wits.getD g.wit.toNat []) (bodyS tagCo c) g.sig))))) := Lib.hid rfl
  have HPW : Hid (∀ i, i < p.wits.length → (p.wits.getD i []).length ≤ 1000000000) := Lib.hid (fun i hi => by have := hp.2.2.1 i hi; rw [List.getD_eq_getElem?_getD, List.getElem?_eq_getElem hi]; exact this)
  generalize cgVerB p c g = CV at *
  generalize bodyS tagCo c = BO at *
  clear hp hr hs HBL
  obtain ⟨l, ws, rfl, h1, h2⟩ := hvp
  obtain ⟨L, cl, rfl⟩ := h1.form
  obtain ⟨R, cr, rfl⟩ := h2.form
  obtain ⟨rt, rfl, h3⟩ := hvc
  obtain ⟨T, ct, rfl⟩ := h3.form
  obtain ⟨q1, q2, rfl, h4, h5⟩ := hvg
  obtain ⟨P, cp, rfl⟩ := h4.form
  obtain ⟨Q, cq, rfl⟩ := h5.form
  have HX := Lib.hid (And.intro h1 (And.intro h2 (And.intro h3 (And.intro h4 h5))))
  clear h1 h2 h3 h4 h5
  have hb1 := (Below.refl w.heap.size w).alloc (Nat.le_refl _) (.cells #[.slice L p.log.length cl, .slice R p.wits.length cr, .int .i64 p.quorum] 33)
  have hb2 := hb1.alloc (by simp) (.cells #[.int .i64 c.num, .slice T c.root.length ct] 36)
  have hb3 := hb2.alloc (by simp; omega) (.cells #[.int .i64 g.wit, .int .i64 g.sig.index, .slice P g.sig.parts.length cp, .slice Q g.sig.path.length cq] 58)
  have k1 := ((Blk.new w 33 [.slice L p.log.length cl, .slice R p.wits.length cr, .int .i64 p.quorum]).below ((Below.refl _ _).alloc (Nat.le_refl _) (.cells #[.int .i64 c.num, .slice T c.root.length ct] 36))).below ((Below.refl _ _).alloc (Nat.le_refl _) (.cells #[.int .i64 g.wit, .int .i64 g.sig.index, .slice P g.sig.parts.length cp, .slice Q g.sig.path.length cq] 58))
  have k2 := (Blk.new (w.alloc (.cells #[.slice L p.log.length cl, .slice R p.wits.length cr, .int .i64 p.quorum] 33)) 36 [.int .i64 c.num, .slice T c.root.length ct]).below ((Below.refl _ _).alloc (Nat.le_refl _) (.cells #[.int .i64 g.wit, .int .i64 g.sig.index, .slice P g.sig.parts.length cp, .slice Q g.sig.path.length cq] 58))
  have k3 := Blk.new ((w.alloc (.cells #[.slice L p.log.length cl, .slice R p.wits.length cr, .int .i64 p.quorum] 33)).alloc (.cells #[.int .i64 c.num, .slice T c.root.length ct] 36)) 58 [.int .i64 g.wit, .int .i64 g.sig.index, .slice P g.sig.parts.length cp, .slice Q g.sig.path.length cq]
  rw [show (w.alloc (.cells #[.slice L p.log.length cl, .slice R p.wits.length cr, .int .i64 p.quorum] 33)).heap.size = w.heap.size + 1 by simp] at k2
  rw [show ((w.alloc (.cells #[.slice L p.log.length cl, .slice R p.wits.length cr, .int .i64 p.quorum] 33)).alloc (.cells #[.int .i64 c.num, .slice T c.root.length ct] 36)).heap.size = w.heap.size + 2 by simp] at k3
  have HW := Lib.hid (And.intro k1 (And.intro k2 (And.intro k3 hb3)))
  clear k1 k2 k3 hb1 hb2 hb3
  go_enter Try.func37, Try.ntmps37
  go_wp2_with fail
  refine (HPR.out _ _ ⟨_, _, rfl, HX.out.1.below HW.out.2.2.2, HX.out.2.1.below HW.out.2.2.2⟩).mono ?_
  rintro e w1 ⟨rfl, h⟩
  have H1 := Lib.hid (And.intro (HW.out.1.below h) (And.intro (HW.out.2.1.below h) (And.intro (HW.out.2.2.1.below h) (HW.out.2.2.2.trans (h.mono (by simp; omega))))))
  clear h
  cases hpb : polB p with
  | false =>
    have HF : Hid (CV = false) := Lib.hid (by rw [HCV.out, hpb]; rfl)
    go_wp2
    go_ret
    exact ⟨by rw [HF.out]; rfl, H1.out.2.2.2⟩
  | true =>
    have HCV1 : Hid (CV = (ckB c && (decide (0 ≤ g.wit) && (decide (g.wit < (p.wits.length : Int)) && verifyB (p.wits.getD g.wit.toNat []) BO g.sig)))) := Lib.hid (by rw [HCV.out, hpb]; rfl)
    clear HCV hpb
    have c10 := H1.out.2.1.cell 0 _ rfl
    have c11 := H1.out.2.1.cell 1 _ rfl
    have l1 := H1.out.2.1.lt
    go_wp2_with fail
    refine (HCR.out _ _ ⟨_, rfl, HX.out.2.2.1.below H1.out.2.2.2⟩).mono ?_
    rintro e w2 ⟨rfl, h⟩
    have H2 := Lib.hid (And.intro (H1.out.1.below h) (And.intro (H1.out.2.1.below h) (And.intro (H1.out.2.2.1.below h) (H1.out.2.2.2.trans (h.mono H1.out.2.2.2.size)))))
    clear h c10 c11 l1
    cases hcb : ckB c with
    | false =>
      have HF : Hid (CV = false) := Lib.hid (by rw [HCV1.out, hcb]; rfl)
      go_wp2
      go_ret
      exact ⟨by rw [HF.out]; rfl, H2.out.2.2.2⟩
    | true =>
      have HCV2 : Hid (CV = (decide (0 ≤ g.wit) && (decide (g.wit < (p.wits.length : Int)) && verifyB (p.wits.getD g.wit.toNat []) BO g.sig))) := Lib.hid (by rw [HCV1.out, hcb]; rfl)
      clear HCV1 hcb
      have e1 := H2.out.1.cell 1 _ rfl
      have e20 := H2.out.2.2.1.cell 0 _ rfl
      have l0 := H2.out.1.lt
      have l2 := H2.out.2.2.1.lt
      by_cases hw0 : 0 ≤ g.wit
      · by_cases hw1 : g.wit < (p.wits.length : Int)
        · obtain ⟨wn, hwn⟩ := Int.eq_ofNat_of_zero_le hw0
          have hwl : wn < p.wits.length := by omega
          have HCV3 : Hid (CV = verifyB (p.wits.getD wn []) BO g.sig) := Lib.hid (by rw [HCV2.out, decide_eq_true hw0, decide_eq_true hw1, Bool.true_and, Bool.true_and, hwn, Int.toNat_natCast])
          clear HCV2
          have HWF := Lib.hid (HVF.out (p.wits.getD wn []) (HPW.out wn hwl))
          rw [← HCV3.out] at HWF
          obtain ⟨gr, o, u, rfl, hgr, -, hcap, hcr, hbu⟩ := (HX.out.2.1.below H2.out.2.2.2).get wn hwl
          obtain ⟨U, cu, rfl⟩ := hbu.form
          have HU := Lib.hid hbu
          clear hbu HVF
          generalize (p.wits.getD wn []) = PU at *
          have hwnI : (wn : Int) < (p.wits.length : Int) := by omega
          rw [hwn] at e20 hw0 hw1
          have e11 := H2.out.2.1.cell 1 _ rfl
          have e10 := H2.out.2.1.cell 0 _ rfl
          have l1 := H2.out.2.1.lt
          have e21 := H2.out.2.2.1.cell 1 _ rfl
          have e22 := H2.out.2.2.1.cell 2 _ rfl
          have e23 := H2.out.2.2.1.cell 3 _ rfl
          go_wp2
          refine wp_region_held_drew (S := fun w' => w'.cell? ⟨w.heap.size, 1, none⟩ = some (.slice (some ⟨gr, o, none⟩) p.wits.length cr) ∧ w'.cell? ⟨w.heap.size + 1, 0, none⟩ = some (.int .i64 c.num) ∧ w'.cell? ⟨w.heap.size + 1, 1, none⟩ = some (.slice T c.root.length ct) ∧ w'.cell? ⟨w.heap.size + 2, 0, none⟩ = some (.int .i64 wn) ∧ w'.cell? ⟨w.heap.size + 2, 1, none⟩ = some (.int .i64 g.sig.index) ∧ w'.cell? ⟨w.heap.size + 2, 2, none⟩ = some (.slice P g.sig.parts.length cp) ∧ w'.cell? ⟨w.heap.size + 2, 3, none⟩ = some (.slice Q g.sig.path.length cq) ∧ w'.cell? ⟨gr, o + wn, none⟩ = some (.slice U PU.length cu)) (by kernel_rfl) ?_ (fun hHeld => ?_)
          · exact ⟨e1, e10, e11, e20, e21, e22, e23, hcr⟩
          refine take_yes 0 28 rfl rfl (by kernel_rfl) (by kernel_rfl) (by kernel_rfl) (fun _ _ _ h => h) (by assumption) (by rfl) (v := ?_) ?_ ?_
          rotate_left 1
          · (intro w hSw; (try dsimp only at hSw); go_simp; try with_reducible rfl)
          simp only [List.setIfInBounds_toArray, List.set_cons_zero, List.set_cons_succ]
          refine take_yes 1 29 rfl rfl (by kernel_rfl) (by kernel_rfl) (by kernel_rfl) (fun _ _ _ h => h) (by assumption) (by rfl) (v := ?_) ?_ ?_
          rotate_left 1
          · (intro w hSw; (try dsimp only at hSw); go_simp; try with_reducible rfl)
          simp only [List.setIfInBounds_toArray, List.set_cons_zero, List.set_cons_succ]
          refine take_yes 2 30 rfl rfl (by kernel_rfl) (by kernel_rfl) (by kernel_rfl) (fun _ _ _ h => h) (by assumption) (by rfl) (v := ?_) ?_ ?_
          rotate_left 1
          · (intro w hSw; (try dsimp only at hSw); go_simp; try with_reducible rfl)
          simp only [List.setIfInBounds_toArray, List.set_cons_zero, List.set_cons_succ]
          refine take_yes 3 31 rfl rfl (by kernel_rfl) (by kernel_rfl) (by kernel_rfl) (fun _ _ _ h => h) (by assumption) (by rfl) (v := ?_) ?_ ?_
          rotate_left 1
          · (intro w hSw; (try dsimp only at hSw); go_simp; try with_reducible rfl)
          simp only [List.setIfInBounds_toArray, List.set_cons_zero, List.set_cons_succ]
          refine take_yes 4 32 rfl rfl (by kernel_rfl) (by kernel_rfl) (by kernel_rfl) (fun _ _ _ h => h) (by assumption) (by rfl) (v := ?_) ?_ ?_
          rotate_left 1
          · (intro w hSw; (try dsimp only at hSw); go_simp; try with_reducible rfl)
          simp only [List.setIfInBounds_toArray, List.set_cons_zero, List.set_cons_succ]
          refine take_yes 5 33 rfl rfl (by kernel_rfl) (by kernel_rfl) (by kernel_rfl) (fun _ _ _ h => h) (by assumption) (by rfl) (v := ?_) ?_ ?_
          rotate_left 1
          · (intro w hSw; (try dsimp only at hSw); go_simp; try with_reducible rfl)
          simp only [List.setIfInBounds_toArray, List.set_cons_zero, List.set_cons_succ]
          refine take_yes 6 34 rfl rfl (by kernel_rfl) (by kernel_rfl) (by kernel_rfl) (fun _ _ _ h => h) (by assumption) (by rfl) (v := ?_) ?_ ?_
          rotate_left 1
          · (intro w hSw; (try dsimp only at hSw); go_simp; try with_reducible rfl)
          simp only [List.setIfInBounds_toArray, List.set_cons_zero, List.set_cons_succ]
          refine take_yes 8 36 rfl rfl (by kernel_rfl) (by kernel_rfl) (by kernel_rfl) (fun _ _ _ h => h) (by assumption) (by rfl) (v := ?_) ?_ ?_
          rotate_left 1
          · (intro w hSw; (try dsimp only at hSw); go_simp; try with_reducible rfl)
          simp only [List.setIfInBounds_toArray, List.set_cons_zero, List.set_cons_succ]
          refine take_yes 9 37 rfl rfl (by kernel_rfl) (by kernel_rfl) (by kernel_rfl) (fun _ _ _ h => h) (by assumption) (by rfl) (v := ?_) ?_ ?_
          rotate_left 1
          · (intro w hSw; (try dsimp only at hSw); go_simp; try with_reducible rfl)
          simp only [List.setIfInBounds_toArray, List.set_cons_zero, List.set_cons_succ]
          refine wpAnyH_ready (rs := [7]) (by kernel_rfl) (by simp) ?_
          refine AllReadyH.cons rfl (fun K hK => ?_) AllReadyH.nil
          -- 7:  dst := some 35, op := Op.call  callee := Callee.value (Operand.func 62), args := #[Operand.tmp 34], argTypes := #[36] , type :
          go_simp
          go_at_call 62
          refine (HBD.out w2.drew _ ⟨_, rfl, HX.out.2.2.1.below H2.out.2.2.2.drew⟩).mono ?_
          rintro e w3 ⟨v3, rfl, h3, h4'⟩
          obtain ⟨A3, n3, rfl⟩ := h3.form
          have h4 : Below w2.heap.size w2 w3 := ⟨h4'.os, h4'.tape, h4'.output, h4'.size, h4'.block⟩
          have kA := H2.out.1.below h4
          have kB := H2.out.2.1.below h4
          have kC := H2.out.2.2.1.below h4
          have f1 := kA.cell 1 _ rfl
          have f10 := kB.cell 0 _ rfl
          have f11 := kB.cell 1 _ rfl
          have f20 := kC.cell 0 _ rfl
          rw [hwn] at f20
          have f21 := kC.cell 1 _ rfl
          have f22 := kC.cell 2 _ rfl
          have f23 := kC.cell 3 _ rfl
          have hcr3 := (h4.cell (p := ⟨gr, o + wn, none⟩) hgr).trans hcr
          have H3 := Lib.hid (And.intro h3 (And.intro (HU.out.below h4) (H2.out.2.2.2.trans (h4.mono H2.out.2.2.2.size))))
          have hz23 := h4.size
          clear h3 h4 h4' kA kB kC
          go_wp2_with fail
          refine hK.out _ _ ⟨f1, f10, f11, f20, f21, f22, f23, hcr3⟩ (fun hHeld7 => ?_)
          clear hK K
          try simp only [Act.put, List.setIfInBounds_toArray, List.set_cons_zero, List.set_cons_succ]
          refine wpAnyH_ready (rs := [10]) (by kernel_rfl) (by simp) ?_
          refine AllReadyH.cons rfl (fun K hK => ?_) AllReadyH.nil
          -- 10:  dst := some 38, op := Op.call  callee := Callee.value (Operand.func 55), args := #[Operand.tmp 33, Operand.tmp 35, Operand.tmp 
          go_simp
          go_at_call 55
          refine (HWF.out w3 _ _ _ H3.out.2.1 H3.out.1 ⟨_, _, rfl, HX.out.2.2.2.1.below H3.out.2.2, HX.out.2.2.2.2.below H3.out.2.2⟩).mono ?_
          rintro e w4 ⟨rfl, h4⟩
          have j1 := (h4.cell (p := ⟨w.heap.size, 1, none⟩) (Nat.lt_of_lt_of_le l0 hz23)).trans f1
          have j10 := (h4.cell (p := ⟨w.heap.size + 1, 0, none⟩) (Nat.lt_of_lt_of_le l1 hz23)).trans f10
          have j11 := (h4.cell (p := ⟨w.heap.size + 1, 1, none⟩) (Nat.lt_of_lt_of_le l1 hz23)).trans f11
          have j20 := (h4.cell (p := ⟨w.heap.size + 2, 0, none⟩) (Nat.lt_of_lt_of_le l2 hz23)).trans f20
          have j21 := (h4.cell (p := ⟨w.heap.size + 2, 1, none⟩) (Nat.lt_of_lt_of_le l2 hz23)).trans f21
          have j22 := (h4.cell (p := ⟨w.heap.size + 2, 2, none⟩) (Nat.lt_of_lt_of_le l2 hz23)).trans f22
          have j23 := (h4.cell (p := ⟨w.heap.size + 2, 3, none⟩) (Nat.lt_of_lt_of_le l2 hz23)).trans f23
          have hcr4 := (h4.cell (p := ⟨gr, o + wn, none⟩) (Nat.lt_of_lt_of_le hgr hz23)).trans hcr3
          have H4 := Lib.hid (H3.out.2.2.trans (h4.mono H3.out.2.2.size))
          clear h4
          go_wp2_with fail
          refine hK.out _ _ ⟨j1, j10, j11, j20, j21, j22, j23, hcr4⟩ (fun hHeld10 => ?_)
          clear hK K
          try simp only [Act.put, List.setIfInBounds_toArray, List.set_cons_zero, List.set_cons_succ]
          refine take_yes 11 6 rfl rfl (by kernel_rfl) (by kernel_rfl) (by kernel_rfl) (fun _ _ _ h => h) (by assumption) (by rfl) (v := ?_) ?_ ?_
          rotate_left 1
          · (intro w hSw; (try dsimp only at hSw); go_simp; try with_reducible rfl)
          simp only [List.setIfInBounds_toArray, List.set_cons_zero, List.set_cons_succ]
          refine wpAnyH_done (by kernel_rfl) ?_ _
          go_wp2
          go_ret
          exact ⟨rfl, H4.out⟩
        · have HF : Hid (CV = false) := Lib.hid (by rw [HCV2.out, decide_eq_false hw1]; simp)
          go_wp2
          go_ret
          exact ⟨by rw [HF.out]; rfl, H2.out.2.2.2⟩
      · have HF : Hid (CV = false) := Lib.hid (by rw [HCV2.out, decide_eq_false hw0]; rfl)
        go_wp2
        go_ret
        exact ⟨by rw [HF.out]; rfl, H2.out.2.2.2⟩
end Go.Proofs.Ytlkgeifmppadmaa

/- Sorting a pile's entries: the order, the world behind the sort, slices.Collect. Conditions: as each theorem states them. -/
import Derived.Test.YtlccileccmiomaaAgF
import Derived.Shelf.SlSortCmp.WholeK
namespace Go.Proofs.Ytlccileccmiomaa
open Go.RowKit Go.Sort
set_option linter.unusedVariables false
set_option linter.unusedSimpArgs false

instance : Inhabited Ent := ⟨zE⟩
theorem ltOf_bef (a b : Ent) : ltOf cmpE a b = true ↔ a.bef b := by
  unfold ltOf
  rw [decide_eq_true_iff, cmpE_neg]
  unfold Ent.le Ent.bef
  omega
theorem ltOf_not (a b : Ent) : ltOf cmpE a b = false ↔ ¬ a.bef b := by
  rw [← ltOf_bef, Bool.not_eq_true]
theorem swo_cmpE : SWO (ltOf cmpE) where
  irrefl x := by rw [ltOf_not]; unfold Ent.bef; omega
  trans x y z h1 h2 := by rw [ltOf_bef] at *; unfold Ent.bef at *; omega
  ntrans x y z h1 h2 := by rw [ltOf_not] at *; unfold Ent.bef at *; omega

theorem sorted_eq : ∀ {m l : List Ent}, m.Pairwise Ent.bef → l.Perm m → l.Pairwise (fun a b => ltOf cmpE b a = false) → l = m
  | [], l, _, hp, _ => by rw [List.perm_nil.1 hp]
  | x :: m, [], _, hp, _ => absurd (List.nil_perm.1 hp) (by simp)
  | x :: m, y :: l, hm, hp, hs => by
    rw [List.pairwise_cons] at hm hs
    have e : y = x := by
      rcases List.mem_cons.1 (hp.mem_iff.1 (List.mem_cons_self ..)) with e | e
      · exact e
      · rcases List.mem_cons.1 (hp.mem_iff.2 (List.mem_cons_self (a := x) (l := m))) with e' | e'
        · exact e'.symm
        · exact absurd (hm.1 y e) ((ltOf_not _ _).1 (hs.1 x e'))
    subst e
    rw [sorted_eq hm.2 hp.cons_inv hs.2]

theorem permIn_list {d d' : Array Ent} (h : PermIn 0 d.size d d') : d'.toList.Perm d.toList := by
  obtain ⟨h1, _, h3⟩ := h
  have e : (d'.extract 0 d.size).toList = d'.toList := by
    rw [← h1]; simp
  rw [e] at h3
  simpa using h3
theorem sortedIn_list {d : Array Ent} (h : SortedIn (ltOf cmpE) 0 d.size d) : d.toList.Pairwise (fun a b => ltOf cmpE b a = false) := by
  rw [List.pairwise_iff_getElem]
  intro i j hi hj hij
  have := h i j (Nat.zero_le _) hij (by simpa using hj)
  rw [getElem!_pos d i (by simpa using hi), getElem!_pos d j (by simpa using hj)] at this
  simpa using this

theorem chg_sorted (enc : Ent → List Value) (k : Nat) (w : World) (g off n : Nat) (d : Array Ent) (os : Array Obj) (hg : g < w.heap.size) : Chg w (sortWorldK enc k w g off n d os) (fun i => i = g) := by
  have hs : (putRowK enc k (Sort.ahead w n) g off d).heap.size = w.heap.size := by rw [size_putRowK]; rfl
  refine ⟨rfl, rfl, rfl, by unfold sortWorldK grow; simp [hs], fun i hi hn => ?_⟩
  unfold sortWorldK grow
  show ((putRowK enc k (Sort.ahead w n) g off d).heap ++ os)[i]? = w.heap[i]?
  rw [Array.getElem?_append_left (by omega)]
  unfold putRowK putRow mapBlock
  show (w.heap.modify g _)[i]? = w.heap[i]?
  rw [Array.getElem?_modify, if_neg (fun e => hn e.symm)]

theorem collect_any (Bs : Nat) (v : Value) (l : List Ent) (hsm : l.length < 100000000000) (w : World) (hBs : Bs < w.heap.size)
    (hc : w.cell? ⟨Bs, 0, none⟩ = some v) (hI : Shows w.heap.size w v l) :
    Calls Try.prog 32 #[.func (.func 34) #[] #[.pointer (some ⟨Bs, 0, none⟩)]] w (AppPost w l) := by
  have H := Lib.hid (appendSeq_any Bs v l hsm w hBs hc hI)
  clear hc hI hBs
  go_enter Try.func32, Try.ntmps32
  go_wp2_with fail
  refine H.out.mono ?_
  rintro e w' ⟨u, rfl, h1, h2⟩
  go_wp2
  go_ret
  exact ⟨u, rfl, h1, h2⟩

theorem cmpLays (blk off size : Nat) (w : World) : CmpLays Try.prog 27 #[] Ent.cells 3 cmpE blk off size w := fun m os dk hd x y => by
  refine (before_any x y _).mono ?_
  rintro e w' ⟨rfl, n, rfl⟩
  exact ⟨rfl, n, #[.cells x.cells.toArray 49, .cells y.cells.toArray 49], rfl⟩

theorem holds_pile {w : World} {g cap : Nat} {l : List Ent} {rest : List Value} (h : PileAt w g cap l rest) : HoldsK Ent.cells 3 w g 0 l.toArray := by
  intro j hj
  rw [size_flatK] at hj
  refine ⟨?_, by rw [Nat.zero_add]; exact h.free j⟩
  rw [get_flatK _ _ _ _ hj]
  have hj' : j / 3 < l.length := by simp at hj; omega
  obtain ⟨c0, c1, c2⟩ := h.cells (j / 3) hj'
  have e1 : (l.toArray)[j / 3]! = l[j / 3] := by rw [getElem!_pos _ _ (by simpa using hj')]; simp
  rw [e1]
  have h3 := Nat.div_add_mod j 3
  have h4 := Nat.mod_lt j (show 0 < 3 by decide)
  have h5 : j % 3 = 0 ∨ j % 3 = 1 ∨ j % 3 = 2 := by omega
  rcases h5 with e | e | e
  · rw [e, show 0 + j = j / 3 * 3 by omega]; exact c0
  · rw [e, show 0 + j = j / 3 * 3 + 1 by omega]; exact c1
  · rw [e, show 0 + j = j / 3 * 3 + 2 by omega]; exact c2
theorem shows_holds {w : World} {g cap n₀ : Nat} {d : Array Ent} (h : HoldsK Ent.cells 3 w g 0 d) (hg : g < n₀) : Shows n₀ w (.slice (some ⟨g, 0, none⟩) d.size cap) d.toList := by
  refine .inr ⟨g, cap, by simp, hg, fun k hk => ?_⟩
  have hk' : k < d.size := by simpa using hk
  have e1 : d[k]! = gE d.toList k := by rw [gE_at hk, getElem!_pos d k hk']; simp
  have c0 := (h.cell hk' (c := 0) (by decide)).1
  have c1 := (h.cell hk' (c := 1) (by decide)).1
  have c2 := (h.cell hk' (c := 2) (by decide)).1
  rw [e1] at c0 c1 c2
  exact ⟨by simpa [Ent.cells] using c0, by simpa [Ent.cells] using c1, by simpa [Ent.cells] using c2⟩
end Go.Proofs.Ytlccileccmiomaa

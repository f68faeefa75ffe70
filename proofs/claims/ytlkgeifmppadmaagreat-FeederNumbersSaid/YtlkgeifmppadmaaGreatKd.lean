/- A row of one's own whose frozen place, if it has one, lies behind its last cell (what a conversion of a string leaves): appending to it. No program in sight. Steps of a region that draws its order, one by one: an operation that yields, one that is not wanted. No program in sight. The reference's checkpoints as bytes. The reference's signed checkpoints. The program's checkpoints: Right, what is signed and cosigned. The program's checkpoints: Verify. The program's copies of texts. The program's copies of signatures, checkpoints, cosignatures. The program's policies: Right. The program's policies: Right (the walk). Conditions: as each theorem states them. -/
import Derived.Test.YtlkgeifmppadmaaGreatKa
import Derived.Lib.ConvBytes
import Derived.Deep.RegionHeld3
import Derived.Test.YtlkgeifmppadmaaGreatKc
import Derived.Lib.SlBytesConst
namespace Go.Proofs.YtlkgeifmppadmaaGreat
open Go.RowKit
set_option linter.unusedVariables false

def OwnG (w : World) (base : Nat) (e : TypeId) (size : Nat) (v : Value) (n : Nat) (xs : List Value) : Prop :=
 w.ownsRow base e size v n xs ∨
 (xs.length = n * size ∧ ∃ g cap cur fz, v = .slice (some ⟨g, 0, none⟩) n cap ∧ base ≤ g ∧ w.heap[g]? = some (.cells cur e fz) ∧ cur.size ≤ fz.1 ∧ n ≤ cap ∧ cap ≤ maxLen ∧ cur.size = cap * size ∧ cur.toList.take (n * size) = xs)
namespace OwnG
variable {w w1 : World} {base : Nat} {e : TypeId} {size n : Nat} {v : Value} {xs : List Value}
theorem sho (h : OwnG w base e size v n xs) : Sho w v n size xs := by
 rcases h with h | ⟨hl, g, cap, cur, fz, rfl, hb, hg, -, hn, hc, hs, ht⟩
 ·exact Sho.own h
 ·refine ⟨hl, .inr ⟨g, 0, cap, rfl, hn, hc, (Array.getElem?_eq_some_iff.1 hg).1, fun j u hj => ?_⟩⟩
  rw [← ht, List.getElem?_take] at hj
  split at hj
  ·simp only [World.cell?, hg, Nat.zero_add]
   simpa using hj
  ·cases hj
theorem lt (h : OwnG w base e size v n xs) : ∀ k, v.ownBlock = some k → base ≤ k ∧ k < w.heap.size := by
 rcases h with h | ⟨hl, g, cap, cur, fz, rfl, hb, hg, -⟩
 ·exact fun k hk => World.ownsRow.lt h k hk
 ·intro k hk
  simp [Value.ownBlock] at hk
  subst hk
  exact ⟨hb, (Array.getElem?_eq_some_iff.1 hg).1⟩
theorem chg {S : Nat → Prop} (h : OwnG w base e size v n xs) (hc : Chg w w1 S) (hn : ∀ k, v.ownBlock = some k → ¬ S k) : OwnG w1 base e size v n xs := by
 rcases h with h | ⟨hl, g, cap, cur, fz, rfl, hb, hg, r⟩
 ·exact .inl (ownsRow_chg h hc hn)
 ·exact .inr ⟨hl, g, cap, cur, fz, rfl, hb, (hc.block g (Array.getElem?_eq_some_iff.1 hg).1 (hn g (by simp [Value.ownBlock]))).trans hg, r⟩
theorem mono {b' : Nat} (h : OwnG w base e size v n xs) (hb : b' ≤ base) : OwnG w b' e size v n xs := by
 rcases h with h | ⟨hl, g, cap, cur, fz, rfl, hbg, r⟩
 ·exact .inl (own_mono' h hb)
 ·exact .inr ⟨hl, g, cap, cur, fz, rfl, Nat.le_trans hb hbg, r⟩
end OwnG
section
variable {P : Program} {w : World}
theorem store_seg (g o : Nat) (t : TypeId) (fz : Nat × Nat) (vs : List Value) : ∀ (i : Nat) (cur : Array Value) (w : World), w.heap[g]? = some (.cells cur t fz) → cur.size ≤ fz.1 → o + i + vs.length ≤ cur.size → (∀ v ∈ vs, v.oneCell' = true) →
  ∃ cur', cur'.size = cur.size ∧ cur'.toList.take (o + i + vs.length) = cur.toList.take (o + i) ++ vs ∧ (storeCells ⟨g, o, none⟩ vs i).run P w = .ok () (w.setRow g cur') := by
 induction vs with
 | nil =>
  intro i cur w hg _ _ _
  refine ⟨cur, rfl, by simp, ?_⟩
  rw [setRow_self w g cur t fz hg]
  rfl
 | cons v rest ih =>
  intro i cur w hg hf hl h1
  simp only [List.length_cons] at hl
  have hi : o + i < cur.size := by omega
  have ea : (⟨g, o, none⟩ : Addr).add i = ⟨g, o + i, none⟩ := Go.WideShapes.add_plain _ _ _
  have ec : w.cell? ⟨g, o + i, none⟩ = some cur[o + i] := by simp [World.cell?, hg, hi]
  have ef : w.frozen? ⟨g, o + i, none⟩ = false := by
   obtain ⟨lo, hi'⟩ := fz
   have : ¬ lo ≤ o + i := by simp only at hf; omega
   simp [World.frozen?, hg, this]
  have es : (store ((⟨g, o, none⟩ : Addr).add i) v).run P w = .ok () (w.setRow g (cur.setIfInBounds (o + i) v)) := by
   rw [ea, run_store P w _ v _ (h1 v (by simp)), ec]
   simp [ef, setCell_eq_setRow w g (o + i) cur t fz v hg]
  obtain ⟨cur', k1, k2, k3⟩ := ih (i + 1) (cur.setIfInBounds (o + i) v) (w.setRow g (cur.setIfInBounds (o + i) v)) (setRow_heap w g cur _ t _ hg) (by simpa using hf) (by simp; omega) (fun x hx => h1 x (by simp [hx]))
  refine ⟨cur', by simpa using k1, ?_, ?_⟩
  ·have e1 : o + i + (v :: rest).length = o + (i + 1) + rest.length := by simp; omega
   rw [e1, k2]
   have e2 : (cur.setIfInBounds (o + i) v).toList.take (o + (i + 1)) = cur.toList.take (o + i) ++ [v] := by
    have hlt : o + i < (cur.setIfInBounds (o + i) v).toList.length := by simpa using hi
    rw [show o + (i + 1) = (o + i) + 1 from rfl, List.take_succ_eq_append_getElem hlt]
    simp [Array.toList_setIfInBounds, List.take_set_of_le]
   rw [e2, List.append_assoc]
   rfl
  ·simp only [storeCells, Sem.run_bind, es, Result.andThen_ok, k3, setRow_setRow]

theorem run_append_g (base : Nat) (t ty e : TypeId) (i : TypeInfo) (z : Value) (size bytes : Nat) (ht : P.underlying t = some (.slice e)) (hi : P.info? e = some i) (hz : i.zero = some z)
  (hsize : i.size = size) (hby : i.bytes = bytes) (hzs : z.cells.size = size) (hsz : 0 < size)
  (v : Value) (n : Nat) (xs : List Value) (hown : OwnG w base e size v n xs)
  (x : Value) (m : Nat) (news : List Value) (hx : NewsOf w x m size news)
  (h63 : n + m ≤ maxLen) (hbytes : (n + m) * bytes ≤ 140737488355328) (hbase : base ≤ w.heap.size) :
  ∃ v' w', (Builtin.append_ #[t, t] ty #[v, x]).run P w = .ok v' w' ∧ OwnG w' base e size v' (n + m) (xs ++ news) ∧ w.grownBy w' v.ownBlock := by
 rcases hown with hown | ⟨hl, g, cap, cur, fz, rfl, hb, hg, hf, hn, hc, hs, htk⟩
 ·obtain ⟨v', w', r, h2, h3⟩ := run_append_any (P := P) base t ty e i z size bytes ht hi hz hsize hby hzs hsz v n xs hown x m news hx h63 hbytes hbase
  exact ⟨v', w', r, .inl h2, h3⟩
 ·subst hsize
  subst hby
  obtain ⟨hnl, h1, A, c, rfl, hA⟩ := hx
  rcases hA with rfl | ⟨ad, rfl, hnews⟩
  ·have hnil : news = [] := List.eq_nil_of_length_eq_zero (by simpa using hnl)
   subst hnil
   refine ⟨.slice (some ⟨g, 0, none⟩) n cap, w, ?_, .inr ⟨by simpa using hl, g, cap, cur, fz, rfl, hb, hg, hf, hn, hc, hs, by simpa using htk⟩, ⟨rfl, rfl, rfl, Nat.le_refl _, fun _ _ _ => rfl⟩⟩
   have hfc : (Builtin.firstCells i.size 0 (.slice A 0 c)).run P w = .ok #[] w := by
    cases A <;> simp [Builtin.firstCells, loadCells, loadCellsFrom]
   simp [Builtin.append_, run_underlying ht, sizeOf, typeInfo, hi, Builtin.lenOf, hfc, hn, storeCells]
  ·have hsm : n + m ≤ 9223372036854775807 := by simp only [maxLen] at h63; omega
   have hlen : (xs ++ news).length = (n + m) * i.size := by rw [List.length_append, hl, hnl, Nat.add_mul]
   by_cases hroom : n + m ≤ cap
   ·have hfit : n * i.size + news.length ≤ cur.size := by rw [hnl, hs, ← Nat.add_mul]; exact Nat.mul_le_mul_right _ hroom
    have hfc := run_firstCells_some (P := P) w i.size m ad m c news hnl hnews
    obtain ⟨cur', k1, k2, k3⟩ := store_seg (P := P) g (n * i.size) e fz news 0 cur w hg hf (by simpa using hfit) h1
    refine ⟨.slice (some ⟨g, 0, none⟩) (n + m) cap, w.setRow g cur', ?_, .inr ⟨hlen, g, cap, cur', fz, rfl, hb, setRow_heap w g cur _ e _ hg, by omega, hroom, hc, by omega, ?_⟩, ⟨rfl, rfl, rfl, by simp, fun k _ hk => setRow_other w g k _ (fun e => hk (by simp [Value.ownBlock, e]))⟩⟩
    ·simp [Builtin.append_, run_underlying ht, sizeOf, typeInfo, hi, Builtin.lenOf, hroom, hfc, Addr.add_lit, k3]
    ·rw [Nat.add_mul, ← hnl]
     rw [Nat.add_zero] at k2
     rw [k2, htk]
   ·have holds : ∀ j u, xs[j]? = some u → w.cell? ((⟨g, 0, none⟩ : Addr).add j) = some u := by
     intro j u hj
     rw [Go.WideShapes.add_plain, Nat.zero_add]
     rw [← htk, List.getElem?_take] at hj
     split at hj
     ·simp only [World.cell?, hg]
      simpa using hj
     ·cases hj
    have hr := run_append_grow (P := P) w t ty e i z ht hi hz ⟨g, 0, none⟩ n cap xs hl holds ad m c news hnl hnews (by omega) (by omega) (growslice_fits (by omega) hbytes)
    have hge := grownCap_ge w (n + m) cap e
    have hcm2 : grownCap w (n + m) cap e ≤ maxLen := grownCap_le_maxLen w (n + m) cap e h63
    refine ⟨_, _, hr, .inl ⟨hlen, .inr ⟨w.heap.size, _, _, rfl, hbase, heap_alloc_new w.drew _, hge, hcm2, ?_, ?_⟩⟩, ⟨rfl, rfl, rfl, by simp, fun k hk _ => heap_alloc_old w.drew _ hk⟩⟩
    ·simp only [Array.size_append, List.size_toArray, size_zeroCells, hzs, hl, hnl, ← Nat.add_mul]
     congr 1
     omega
    ·simp only [Array.toList_append, List.append_assoc]
     rw [← List.append_assoc, ← hlen]
     exact List.take_left
theorem wpList_append_g {ops : Array Oper} {rest : List Oper} {o : Oper} {a : Act} {Q : Exit → Act → World → Prop} (hgd : o.guard = none) (s x : Operand) (t : TypeId)
  (ho : o.op = .call { callee := .builtin .append, args := #[s, x], argTypes := #[t, t] })
  (base : Nat) (e : TypeId) (i : TypeInfo) (z : Value) (size bytes : Nat) (ht : P.underlying t = some (.slice e)) (hi : P.info? e = some i) (hz : i.zero = some z)
  (hsize : i.size = size) (hby : i.bytes = bytes) (hzs : z.cells.size = size) (hsz : 0 < size)
  (v : Value) (n : Nat) (xs : List Value) (hs : a.eval s = v) (hown : OwnG w base e size v n xs)
  (y : Value) (m : Nat) (news : List Value) (hy : a.eval x = y) (hx : NewsOf w y m size news)
  (h63 : n + m ≤ maxLen) (hbytes : (n + m) * bytes ≤ 140737488355328) (hbase : base ≤ w.heap.size)
  (h : ∀ v' w', OwnG w' base e size v' (n + m) (xs ++ news) → w.grownBy w' v.ownBlock → wpList P ops Q rest (a.put o.dst v') w') : wpList P ops Q (o :: rest) a w :=
 wpList_plain hgd fun _ hK => by
  obtain ⟨v', w', hr, h2, h3⟩ := run_append_g (P := P) base t o.type e i z size bytes ht hi hz hsize hby hzs hsz v n xs hown y m news hx h63 hbytes hbase
  unfold Oper.wp execOp
  simp only [ho, resolve, invoke, builtin, Sem.run_bind, Sem.run_pure, Result.andThen_ok, List.map_toArray, List.map_cons, List.map_nil, hs, hy, hr]
  exact hK _ _ (h v' w' h2 h3)
theorem step_append_g {ops : Array Oper} {o : Oper} {a : Act} {K : Act → World → Prop} {Q : Exit → Act → World → Prop} {E : Prop} (hgd : o.guard = none) (s x : Operand) (t : TypeId)
  (ho : o.op = .call { callee := .builtin .append, args := #[s, x], argTypes := #[t, t] })
  (base : Nat) (e : TypeId) (i : TypeInfo) (z : Value) (size bytes : Nat) (ht : P.underlying t = some (.slice e)) (hi : P.info? e = some i) (hz : i.zero = some z)
  (hsize : i.size = size) (hby : i.bytes = bytes) (hzs : z.cells.size = size) (hsz : 0 < size)
  (v : Value) (n : Nat) (xs : List Value) (hs : a.eval s = v) (hown : OwnG w base e size v n xs)
  (y : Value) (m : Nat) (news : List Value) (hy : a.eval x = y) (hx : NewsOf w y m size news)
  (h63 : n + m ≤ maxLen) (hbytes : (n + m) * bytes ≤ 140737488355328) (hbase : base ≤ w.heap.size)
  (h : ∀ v' w', OwnG w' base e size v' (n + m) (xs ++ news) → w.grownBy w' v.ownBlock → K (a.put o.dst v') w') :
  if Region.wanted o (yielded ops a.tmps) = true then Oper.wp P o a w K Q else E := by
 have hw : Region.wanted o (yielded ops a.tmps) = true := by simp [Region.wanted, hgd]
 rw [if_pos hw]
 obtain ⟨v', w', hr, h2, h3⟩ := run_append_g (P := P) base t o.type e i z size bytes ht hi hz hsize hby hzs hsz v n xs hown y m news hx h63 hbytes hbase
 unfold Oper.wp execOp
 simp only [ho, resolve, invoke, builtin, Sem.run_bind, Sem.run_pure, Result.andThen_ok, List.map_toArray, List.map_cons, List.map_nil, hs, hy, hr]
 exact h v' w' h2 h3
theorem bytes_own (w : World) (base : Nat) (e : TypeId) (s : ByteArray) (hb : base ≤ w.heap.size) (hm : s.size ≤ maxLen) :
  OwnG (Lib.bytesWorld w e s) base e 1 (.slice (some ⟨w.heap.size, 0, none⟩) s.size (grownCap w s.size 0 e)) s.size (s.data.toList.map fun b => Value.int .u8 b.toNat) ∧ Below w.heap.size w (Lib.bytesWorld w e s) := by
 have hge := grownCap_ge w s.size 0 e
 have hcm := grownCap_le_maxLen w s.size 0 e hm
 have hsz : (Lib.bytesCells w e s).size = grownCap w s.size 0 e := by
  have : s.data.size = s.size := rfl
  simp [Lib.bytesCells, this]
  try omega
 refine ⟨.inr ⟨by simp, w.heap.size, _, _, _, rfl, hb, Lib.bytesWorld_at_new w e s, Nat.le_refl _, hge, hcm, by rw [hsz, Nat.mul_one], ?_⟩, ⟨rfl, rfl, rfl, by rw [Lib.bytesWorld_size]; omega, fun k hk => Lib.bytesWorld_at_old w e s k hk⟩⟩
 have : s.data.size = s.size := rfl
 simp only [Lib.bytesCells, Array.toList_append, Array.toList_map, Nat.mul_one]
 rw [List.take_append_of_le_length (by simp <;> omega), List.take_of_length_le (by simp <;> omega)]
end
section
variable {P : Program} {ops : Array Oper} {Q : Exit → Act → World → Prop} {md : Region.Mode} {S : World → Prop}
theorem put_some (a : Act) (o : Oper) (d : Nat) (v : Value) (h : o.dst = some d) : a.put o.dst v = ⟨a.tmps.setIfInBounds d v, a.defers⟩ := by rw [h]; rfl
theorem take_yes (i d : Nat) {oi : Oper} {v : Value} {fuel : Nat} {listed : Array Bool} {a : Act} {w : World} (hi : ops[i]? = some oi) (hd : oi.dst = some d)
  (hs : Region.noSelect ops = true) (hf : Region.free md ops listed i = true) (hr : (Region.ready md ops listed).contains i = true)
  (hQ : ∀ c a w, Q (.panic c) (a.put oi.dst v) w → Q (.panic c) a w) (hS : S w) (hw : Region.wanted oi (yielded ops a.tmps) = true) (hy : ∀ w, S w → (execOp a.eval oi).run P w = .ok (.value v) w)
  (h : wpAnyH P md ops Q S fuel (listed.setIfInBounds i true) ⟨a.tmps.setIfInBounds d v, a.defers⟩ w) : wpAnyH P md ops Q S (fuel + 1) listed a w :=
 wpAnyH_take hi hs hf hr hQ (.inl ⟨hw, hy⟩) hS (by rw [put_some a oi d v hd]; exact h)
theorem take_no (i d : Nat) {oi : Oper} {fuel : Nat} {listed : Array Bool} {a : Act} {w : World} (hi : ops[i]? = some oi) (hd : oi.dst = some d)
  (hs : Region.noSelect ops = true) (hf : Region.free md ops listed i = true) (hr : (Region.ready md ops listed).contains i = true)
  (hQ : ∀ c a w, Q (.panic c) (a.put oi.dst undef) w → Q (.panic c) a w) (hS : S w) (hw : Region.wanted oi (yielded ops a.tmps) = false)
  (h : wpAnyH P md ops Q S fuel (listed.setIfInBounds i true) ⟨a.tmps.setIfInBounds d undef, a.defers⟩ w) : wpAnyH P md ops Q S (fuel + 1) listed a w :=
 wpAnyH_take hi hs hf hr hQ (.inr ⟨hw, rfl⟩) hS (by rw [put_some a oi d undef hd]; exact h)
theorem any_yes (i d : Nat) {oi : Oper} {v : Value} {fuel : Nat} {listed : Array Bool} {a : Act} {w : World} (hi : ops[i]? = some oi) (hd : oi.dst = some d)
  (hs : Region.noSelect ops = true) (hf : Region.free md ops listed i = true) (hr : (Region.ready md ops listed).contains i = true)
  (hQ : ∀ c a w, Q (.panic c) (a.put oi.dst v) w → Q (.panic c) a w) (hw : Region.wanted oi (yielded ops a.tmps) = true) (hy : ∀ w, (execOp a.eval oi).run P w = .ok (.value v) w)
  (h : wpAny P md ops Q fuel (listed.setIfInBounds i true) ⟨a.tmps.setIfInBounds d v, a.defers⟩ w) : wpAny P md ops Q (fuel + 1) listed a w :=
 wpAny_take hi hs hf hr hQ (.inl ⟨hw, hy⟩) (by rw [put_some a oi d v hd]; exact h)
end
section
variable {P : Program} {ops : Array Oper} {Q : Exit → Act → World → Prop} {md : Region.Mode} {S : World → Prop}
theorem ty (i d : Nat) {oi : Oper} {v : Value} {fuel : Nat} {listed : Array Bool} {a : Act} {w : World} (hi : ops[i]? = some oi) (hd : oi.dst = some d) (h : wpAnyH P md ops Q S fuel (listed.setIfInBounds i true) ⟨a.tmps.setIfInBounds d v, a.defers⟩ w)
    (hs : Region.noSelect ops = true := by kernel_rfl) (hf : Region.free md ops listed i = true := by kernel_rfl) (hr : (Region.ready md ops listed).contains i = true := by kernel_rfl) (hQ : ∀ c a w, Q (.panic c) (a.put oi.dst v) w → Q (.panic c) a w := by exact fun _ _ _ h => h) (hS : S w := by assumption) (hw : Region.wanted oi (yielded ops a.tmps) = true := by rfl)
    (hy : ∀ w, S w → (execOp a.eval oi).run P w = .ok (.value v) w := by (intro w hSw; (try dsimp only at hSw); go_simp; try with_reducible rfl)) : wpAnyH P md ops Q S (fuel + 1) listed a w := take_yes i d hi hd hs hf hr hQ hS hw hy h
theorem tn (i d : Nat) {oi : Oper} {fuel : Nat} {listed : Array Bool} {a : Act} {w : World} (hi : ops[i]? = some oi) (hd : oi.dst = some d) (h : wpAnyH P md ops Q S fuel (listed.setIfInBounds i true) ⟨a.tmps.setIfInBounds d undef, a.defers⟩ w)
    (hs : Region.noSelect ops = true := by kernel_rfl) (hf : Region.free md ops listed i = true := by kernel_rfl) (hr : (Region.ready md ops listed).contains i = true := by kernel_rfl) (hQ : ∀ c a w, Q (.panic c) (a.put oi.dst undef) w → Q (.panic c) a w := by exact fun _ _ _ h => h) (hS : S w := by assumption) (hw : Region.wanted oi (yielded ops a.tmps) = false := by rfl) : wpAnyH P md ops Q S (fuel + 1) listed a w := take_no i d hi hd hs hf hr hQ hS hw h
theorem ay (i d : Nat) {oi : Oper} {v : Value} {fuel : Nat} {listed : Array Bool} {a : Act} {w : World} (hi : ops[i]? = some oi) (hd : oi.dst = some d) (h : wpAny P md ops Q fuel (listed.setIfInBounds i true) ⟨a.tmps.setIfInBounds d v, a.defers⟩ w)
    (hs : Region.noSelect ops = true := by kernel_rfl) (hf : Region.free md ops listed i = true := by kernel_rfl) (hr : (Region.ready md ops listed).contains i = true := by kernel_rfl) (hQ : ∀ c a w, Q (.panic c) (a.put oi.dst v) w → Q (.panic c) a w := by exact fun _ _ _ h => h) (hw : Region.wanted oi (yielded ops a.tmps) = true := by rfl)
    (hy : ∀ w, (execOp a.eval oi).run P w = .ok (.value v) w := by (intro w; go_simp; try with_reducible rfl)) : wpAny P md ops Q (fuel + 1) listed a w := any_yes i d hi hd hs hf hr hQ hw hy h
theorem rd (i : Nat) {o : Oper} {fuel : Nat} {listed : Array Bool} {a : Act} {w : World} (hr : Region.ready md ops listed = [i]) (ho : ops[i]? = some o)
    (h : ∀ K' : Act → World → Prop, Shut (∀ a w, S w → (S w → wpAnyH P md ops Q S fuel (listed.setIfInBounds i true) a w) → K' a w) → if Region.wanted o (yielded ops a.tmps) = true then Oper.wp P o a w K' Q else K' (a.put o.dst undef) w) : wpAnyH P md ops Q S (fuel + 1) listed a w := wpAnyH_ready hr (by simp) (AllReadyH.cons ho h AllReadyH.nil)
end
set_option linter.unusedSimpArgs false
def OwnY (w : World) (base : Nat) (v : Value) (l : List UInt8) : Prop := OwnG w base 5 1 v l.length (bys l)
theorem OwnY.bys {w : World} {base : Nat} {v : Value} {l : List UInt8} (h : OwnY w base v l) : Bys w v l := OwnG.sho h
theorem OwnY.form {w : World} {base : Nat} {v : Value} {l : List UInt8} (h : OwnY w base v l) : ∃ A c, v = .slice A l.length c := h.bys.form
theorem OwnY.ge {w : World} {base : Nat} {v : Value} {l : List UInt8} (h : OwnY w base v l) {j : Nat} (e : v.ownBlock = some j) : base ≤ j := (OwnG.lt h j e).1
theorem OwnY.append {w : World} {base : Nat} {v : Value} {l m : List UInt8} {n : Nat} (hn : m.length = n) (h : OwnG w base 5 1 v (l.length + n) (Go.Proofs.YtlkgeifmppadmaaGreat.bys l ++ Go.Proofs.YtlkgeifmppadmaaGreat.bys m)) : OwnY w base v (l ++ m) := by
 subst hn
 unfold OwnY
 rw [List.length_append, bys_append]
 exact h

set_option maxRecDepth 100000 in
theorem rnumy_any (base : Nat) (v : Value) (l : List UInt8) (n : Int) (hsm : l.length ≤ 1000000000000) (w : World) (hb : base ≤ w.heap.size) (ho : OwnY w base v l) :
  Calls Tryz.prog 76 #[v, .int .u32 n] w fun e w' => ∃ v', e = .returned v' ∧ OwnY w' base v' (l ++ be4 n) ∧ Below base w w' ∧ Chg w w' (fun k => v.ownBlock = some k) := by
 obtain ⟨i0, hi0, hz0, hz1, hz2⟩ := info_parts info_u8
 have HO := Lib.hid ho
 clear ho
 have e1 : n / 16777216 % 256 = (((ub (n / 16777216)).toNat : Nat) : Int) := (ub_val _).symm
 have e2 : n / 65536 % 256 = (((ub (n / 65536)).toNat : Nat) : Int) := (ub_val _).symm
 have e3 : n / 256 % 256 = (((ub (n / 256)).toNat : Nat) : Int) := (ub_val _).symm
 have e4 : n % 256 = (((ub n).toNat : Nat) : Int) := (ub_val _).symm
 have HBE : Hid (be4 n = [ub (n / 16777216), ub (n / 65536), ub (n / 256), ub n]) := Lib.hid rfl
 generalize ub (n / 16777216) = b1 at *
 generalize ub (n / 65536) = b2 at *
 generalize ub (n / 256) = b3 at *
 generalize ub n = b4 at *
 generalize hbe : be4 n = B at *
 go_enter Tryz.func76, Tryz.ntmps76
 go_wp2_with (at_builtin; (refine wpList_append_g rfl (.tmp 5) (.tmp 17) 26 rfl base 5 i0 (.int .u8 0) 1 1 Tryz.underlying26 hi0 hz0 hz1 hz2 rfl (by decide) _ _ _ rfl (OwnG.chg HO.out ((Chg.refl w (fun _ => False)).alloc _) (fun _ _ h => h)) _ 4 (bys [b1, b2, b3, b4]) rfl (Bys.new w [b1, b2, b3, b4] 4 rfl (by decide)) (by unfold maxLen; omega) (by omega) (by simp; omega) ?_); intro v2 W2 hown2 hgrow2; have HB2 : Hid (Below base w W2) := Lib.hid (((Below.refl base w).alloc hb _).grown hgrow2 (by simp; omega) (fun k e => OwnY.ge HO.out e)); have HC2 : Hid (Chg w W2 (fun k => v.ownBlock = some k)) := Lib.hid (((Chg.refl w _).alloc _).trans (Chg.of_grown hgrow2) (fun i _ h => h.symm)); have HO2 : Hid (OwnY W2 base v2 (l ++ [b1, b2, b3, b4])) := Lib.hid (OwnY.append rfl hown2); clear hown2 hgrow2)
 go_ret
 exact ⟨_, rfl, by rw [HBE.out]; exact HO2.out, HB2.out, HC2.out⟩

theorem conv_bytes (w : World) (s : ByteArray) (hm : s.size ≤ maxLen) : ∃ c w', (convert 9 26 (.string s)).run Tryz.prog w = .ok (.slice (some ⟨w.heap.size, 0, none⟩) s.size c) w' ∧ OwnY w' w.heap.size (.slice (some ⟨w.heap.size, 0, none⟩) s.size c) s.data.toList ∧ Below w.heap.size w w' := by
 have hb := bytes_own w w.heap.size 5 s (Nat.le_refl _) hm
 exact ⟨_, _, Lib.run_convert_string_bytes (P := Tryz.prog) w 9 26 5 s Tryz.underlying9 Tryz.underlying26 Tryz.underlying5, hb.1, hb.2⟩

def bodyS (tag : List UInt8) (c : CkD) : List UInt8 := if ckB c then tag ++ be4 c.num ++ c.root else []

set_option maxRecDepth 100000 in
set_option maxHeartbeats 1000000 in
theorem rbody_any (t : ByteArray) (v : Value) (c : CkD) (ht : t.size ≤ 1000) (hl : c.root.length ≤ 1000000000) (w : World) (hv : CkV w v c) :
  Calls Tryz.prog 51 #[.string t, v] w fun e w' => ∃ v', e = .returned v' ∧ Bys w' v' (bodyS t.data.toList c) ∧ Below w.heap.size w w' := by
 obtain ⟨i0, hi0, hz0, hz1, hz2⟩ := info_parts info_u8
 obtain ⟨p, rfl, h1⟩ := hv
 obtain ⟨P, cp, rfl⟩ := h1.form
 have HX := Lib.hid h1
 have HBS : Hid (bodyS t.data.toList c = if ckB c then t.data.toList ++ be4 c.num ++ c.root else []) := Lib.hid rfl
 have HCK : Hid (ckB c = true → 0 ≤ c.num ∧ c.num ≤ 256) := Lib.hid (by intro h; simp [ckB] at h; exact ⟨h.1.1, h.1.2⟩)
 generalize bodyS t.data.toList c = BS at *
 have hts : t.data.toList.length = t.size := rfl
 clear h1
 go_enter Tryz.func51, Tryz.ntmps51
 have hk0 := Blk.new w 36 [.int .i64 c.num, .slice P c.root.length cp]
 have hb0 : Below w.heap.size w (w.alloc (.cells #[.int .i64 c.num, .slice P c.root.length cp] 36)) := (Below.refl w.heap.size w).alloc (Nat.le_refl _) _
 have HW := Lib.hid (And.intro hk0 hb0)
 clear hk0 hb0
 by_cases hck : ckB c = true
 ·rw [hck] at HBS
  obtain ⟨n0, n1⟩ := HCK.out hck
  go_wp2_with (go_at_call 61; refine (rckright_any _ c hl _ ⟨_, rfl, HX.out.below HW.out.2⟩).mono ?_; rintro e w1 ⟨rfl, h1⟩; rw [hck]; have HW1 := Lib.hid (And.intro (HW.out.1.below h1) (HW.out.2.trans (h1.mono (by simp)))); clear h1)
  have s0 := HW1.out.1.cell 0 _ rfl
  have s1 := HW1.out.1.cell 1 _ rfl
  have f0 := HW1.out.1.free 0
  have f1 := HW1.out.1.free 1
  have hw1 := HW1.out.2.size
  have hwlt := HW1.out.1.lt
  have ew : IntKind.u32.wrap c.num = c.num := by
   rw [show IntKind.u32.wrap c.num = c.num % 4294967296 by simp [IntKind.wrap, IntKind.bits, IntKind.signed]]; omega
  have HBS2 : Hid (BS = (t.data.toList ++ be4 c.num) ++ c.root) := Lib.hid (by rw [HBS, if_pos trivial])
  clear HBS
  obtain ⟨D, hD⟩ : ∃ D, t.data.toList ++ be4 c.num = D := ⟨_, rfl⟩
  have hDl : D.length ≤ 2000 := by rw [← hD, List.length_append, be4_length, hts]; omega
  have HD := Lib.hid hD
  rw [hD] at HBS2
  clear hD
  obtain ⟨c9, w2, hcv, h2, h3⟩ := conv_bytes w1.drew t (by unfold maxLen; omega)
  have hb2 : Below w1.heap.size w1 w2 := ⟨h3.os, h3.tape, h3.output, h3.size, h3.block⟩
  have t0 := (hb2.cell (p := ⟨w.heap.size, 0, none⟩) hwlt).trans s0
  have t1 := (hb2.cell (p := ⟨w.heap.size, 1, none⟩) hwlt).trans s1
  have H2 := Lib.hid (And.intro (show OwnY w2 w1.heap.size (.slice (some ⟨w1.heap.size, 0, none⟩) t.size c9) t.data.toList from h2) hb2)
  have hcv2 : (convert 9 26 (.string t)).run Tryz.prog w1.drew = .ok (.slice (some ⟨w1.heap.size, 0, none⟩) t.size c9) w2 := hcv
  clear h2 h3 hb2 hcv
  go_wp2
  refine wp_region_held_drew (S := fun w' => w'.cell? ⟨w.heap.size, 0, none⟩ = some (.int .i64 c.num) ∧ w'.cell? ⟨w.heap.size, 1, none⟩ = some (.slice P c.root.length cp)) (by kernel_rfl) ?_ (fun hHeld => ?_)
  ·exact ⟨s0, s1⟩
  refine ty 0 8 rfl rfl ?_; simp only [sa, sb, sc]
  refine ty 2 10 rfl rfl ?_; simp only [sa, sb, sc]
  refine ty 3 11 rfl rfl ?_; simp only [sa, sb, sc]
  refine ty 4 12 rfl rfl ?_; simp only [sa, sb, sc]
  refine ty 6 14 rfl rfl ?_; simp only [sa, sb, sc]
  refine ty 7 15 rfl rfl ?_; simp only [sa, sb, sc]
  refine rd 1 (by kernel_rfl) rfl (fun K hK => ?_)
  go_simp
  refine hK.out _ _ ⟨t0, t1⟩ (fun hHeld1 => ?_)
  clear hK K; try simp only [Act.put, sa, sb, sc]
  refine rd 5 (by kernel_rfl) rfl (fun K hK => ?_)
  go_simp
  go_at_call 76
  refine (rnumy_any w1.heap.size _ t.data.toList c.num (by omega) w2 H2.out.2.size H2.out.1).mono ?_
  rintro e w5 ⟨v5, rfl, h5, h6, -⟩
  rw [HD.out] at h5
  obtain ⟨A5, c5, rfl⟩ := h5.form
  have hb5 := H2.out.2.trans h6
  have u0 := (hb5.cell (p := ⟨w.heap.size, 0, none⟩) hwlt).trans s0
  have u1 := (hb5.cell (p := ⟨w.heap.size, 1, none⟩) hwlt).trans s1
  have H5 := Lib.hid (And.intro h5 (And.intro hb5 (HX.out.below (HW1.out.2.trans (hb5.mono hw1)))))
  clear h5 h6 hb5
  go_wp2_with fail
  refine hK.out _ _ ⟨u0, u1⟩ (fun hHeld5 => ?_)
  clear hK K; try simp only [Act.put, sa, sb, sc]
  refine rd 8 (by kernel_rfl) rfl (fun K hK => ?_)
  skip
  refine step_append_g rfl (.tmp 13) (.tmp 15) 26 rfl w1.heap.size 5 i0 (.int .u8 0) 1 1 Tryz.underlying26 hi0 hz0 hz1 hz2 rfl (by decide) _ D.length (bys D) rfl H5.out.1 _ c.root.length (bys c.root) rfl H5.out.2.2.news (by unfold maxLen; omega) (by omega) H5.out.2.1.size ?_
  intro v7 w7 h7 g7
  have HB7 := Lib.hid (H5.out.2.1.grown g7 (by have := H5.out.2.1.size; omega) (fun k e => OwnY.ge H5.out.1 e))
  have hy7 : OwnY w7 w1.heap.size v7 (D ++ c.root) := OwnY.append rfl h7
  obtain ⟨A7, c7, rfl⟩ := (OwnG.sho h7).form
  have HY7 := Lib.hid hy7
  have x0 := (HB7.out.cell (p := ⟨w.heap.size, 0, none⟩) hwlt).trans s0
  have x1 := (HB7.out.cell (p := ⟨w.heap.size, 1, none⟩) hwlt).trans s1
  clear h7 g7 hy7
  refine hK.out _ _ ⟨x0, x1⟩ (fun hHeld8 => ?_)
  clear hK K
  simp only [Act.put, List.getElem_toArray, List.getElem_cons_succ, List.getElem_cons_zero, List.setIfInBounds_toArray, List.set_cons_zero, List.set_cons_succ]
  refine take_yes 9 4 rfl rfl (by kernel_rfl) (by kernel_rfl) (by kernel_rfl) (fun _ _ _ h => h) (by assumption) (by rfl) (v := ?_) ?_ ?_
  rotate_left 1
  ·(intro w hSw; (try dsimp only at hSw); go_simp; try with_reducible rfl)
  try simp only [sa, sb, sc]
  refine wpAnyH_done (by kernel_rfl) ?_ _
  go_wp2
  go_ret
  exact ⟨_, rfl, by rw [HBS2.out]; exact HY7.out.bys, HW1.out.2.trans (HB7.out.mono hw1)⟩
 ·have hck' : ckB c = false := by simpa using hck
  rw [hck'] at HBS
  have HF : Hid (BS = []) := Lib.hid HBS.out
  go_wp2_with (go_at_call 61; refine (rckright_any _ c hl _ ⟨_, rfl, HX.out.below HW.out.2⟩).mono ?_; rintro e w1 ⟨rfl, h1⟩; rw [hck']; have HW1 := Lib.hid (And.intro (HW.out.1.below h1) (HW.out.2.trans (h1.mono (by simp)))); clear h1)
  go_wp2
  go_ret
  exact ⟨_, rfl, by rw [HF.out]; exact Sho.nil _ _, HW1.out.2⟩

set_option maxRecDepth 100000 in
theorem rckbody_any (v : Value) (c : CkD) (hl : c.root.length ≤ 1000000000) (w : World) (hv : CkV w v c) :
  Calls Tryz.prog 26 #[v] w fun e w' => ∃ v', e = .returned v' ∧ Bys w' v' (bodyS [98, 114, 111, 97, 100, 115, 104, 101, 101, 116, 32, 99, 104, 101, 99, 107] c) ∧ Below w.heap.size w w' := by
 obtain ⟨p, rfl, h1⟩ := hv
 obtain ⟨P, cp, rfl⟩ := h1.form
 have HX := Lib.hid h1
 clear h1
 have hb0 : Below w.heap.size w (w.alloc (.cells #[.int .i64 c.num, .slice P c.root.length cp] 36)) := (Below.refl w.heap.size w).alloc (Nat.le_refl _) _
 have HW := Lib.hid hb0
 clear hb0
 go_enter Tryz.func26, Tryz.ntmps26
 go_wp2_with (go_at_call 51; refine (rbody_any _ _ c (by decide) hl _ ⟨_, rfl, HX.out.below HW.out⟩).mono ?_; rintro e w1 ⟨v1, rfl, h1, h2⟩; obtain ⟨A1, c1, rfl⟩ := h1.form; have H1 := Lib.hid (And.intro h1 (HW.out.trans (h2.mono (by simp)))); clear h1 h2)
 go_ret
 exact ⟨_, rfl, H1.out.1, H1.out.2⟩
set_option maxRecDepth 100000 in
theorem rckcosign_any (v : Value) (c : CkD) (hl : c.root.length ≤ 1000000000) (w : World) (hv : CkV w v c) :
  Calls Tryz.prog 32 #[v] w fun e w' => ∃ v', e = .returned v' ∧ Bys w' v' (bodyS [98, 114, 111, 97, 100, 115, 104, 101, 101, 116, 32, 99, 111, 115, 105, 103, 110] c) ∧ Below w.heap.size w w' := by
 obtain ⟨p, rfl, h1⟩ := hv
 obtain ⟨P, cp, rfl⟩ := h1.form
 have HX := Lib.hid h1
 clear h1
 have hb0 : Below w.heap.size w (w.alloc (.cells #[.int .i64 c.num, .slice P c.root.length cp] 36)) := (Below.refl w.heap.size w).alloc (Nat.le_refl _) _
 have HW := Lib.hid hb0
 clear hb0
 go_enter Tryz.func32, Tryz.ntmps32
 go_wp2_with (go_at_call 51; refine (rbody_any _ _ c (by decide) hl _ ⟨_, rfl, HX.out.below HW.out⟩).mono ?_; rintro e w1 ⟨v1, rfl, h1, h2⟩; obtain ⟨A1, c1, rfl⟩ := h1.form; have H1 := Lib.hid (And.intro h1 (HW.out.trans (h2.mono (by simp)))); clear h1 h2)
 go_ret
 exact ⟨_, rfl, H1.out.1, H1.out.2⟩
structure SgD where
 ck : CkD
 sig : SigD
def SgV (w : World) (v : Value) (s : SgD) : Prop := ∃ r p q, v = .agg #[.int .i64 s.ck.num, r, .int .i64 s.sig.index, p, q] ∧ Bys w r s.ck.root ∧ Rws w p s.sig.parts ∧ Rws w q s.sig.path
def tagCk : List UInt8 := [98, 114, 111, 97, 100, 115, 104, 101, 101, 116, 32, 99, 104, 101, 99, 107]
def tagCo : List UInt8 := [98, 114, 111, 97, 100, 115, 104, 101, 101, 116, 32, 99, 111, 115, 105, 103, 110]
def ckVerB (pub : List UInt8) (s : SgD) : Bool := ckB s.ck && verifyB pub (bodyS tagCk s.ck) s.sig
def SmallSig (s : SigD) : Prop := s.parts.length ≤ 1000000000 ∧ s.path.length ≤ 1000000000 ∧ (∀ i (h : i < s.parts.length), s.parts[i].length ≤ 1000000000) ∧ (∀ i (h : i < s.path.length), s.path[i].length ≤ 1000000000)
theorem bodyS_length (t : List UInt8) (c : CkD) : (bodyS t c).length ≤ t.length + 4 + c.root.length := by
 unfold bodyS
 split
 ·simp only [List.length_append, be4_length]; omega
 ·exact Nat.zero_le _

set_option maxRecDepth 100000 in
set_option maxHeartbeats 2000000 in
theorem rckverify_any (vp v : Value) (pub : List UInt8) (s : SgD) (hpub : pub.length ≤ 1000000000) (hr : s.ck.root.length ≤ 100000000) (hs : SmallSig s.sig) (w : World) (hvp : Bys w vp pub) (hv : SgV w v s) :
  Calls Tryz.prog 64 #[vp, v] w fun e w' => e = .returned (.bool (ckVerB pub s)) ∧ Below w.heap.size w w' := by
 obtain ⟨r, p, q, rfl, h1, h2, h3⟩ := hv
 obtain ⟨R, cr, rfl⟩ := h1.form
 obtain ⟨P, cp, rfl⟩ := h2.form
 obtain ⟨Q, cq, rfl⟩ := h3.form
 obtain ⟨U, cu, rfl⟩ := hvp.form
 have HX := Lib.hid (And.intro h1 (And.intro h2 (And.intro h3 hvp)))
 have HCV : Hid (ckVerB pub s = (ckB s.ck && verifyB pub (bodyS tagCk s.ck) s.sig)) := Lib.hid rfl
 have hbl := bodyS_length tagCk s.ck
 have HBL : Hid ((bodyS tagCk s.ck).length ≤ 1000000000) := Lib.hid (by have : tagCk.length = 16 := rfl; omega)
 clear h1 h2 h3 hvp hbl
 generalize ckVerB pub s = CV at *
 obtain ⟨⟨num, root⟩, sg⟩ := s
 obtain ⟨hs1, hs2, hs3, hs4⟩ := hs
 have HS := Lib.hid (And.intro hs1 (And.intro hs2 (And.intro hs3 hs4)))
 clear hs1 hs2 hs3 hs4
 have hrl : root.length ≤ 1000000000 := by have : root.length ≤ 100000000 := hr; omega
 have HBD := Lib.hid (fun (wz : World) (v : Value) (hz : CkV wz v ⟨num, root⟩) => rckbody_any v ⟨num, root⟩ hrl wz hz)
 have HRT := Lib.hid (fun (wz : World) (v : Value) (hz : CkV wz v ⟨num, root⟩) => rckright_any v ⟨num, root⟩ hrl wz hz)
 have HVF := Lib.hid (fun (wz : World) (vp vm v : Value) (z1 : Bys wz vp pub) (z2 : Bys wz vm (bodyS tagCk ⟨num, root⟩)) (z3 : SigV wz v sg) => rverify_any vp vm v pub (bodyS tagCk ⟨num, root⟩) sg hpub HBL.out HS.out.1 HS.out.2.1 HS.out.2.2.1 HS.out.2.2.2 wz z1 z2 z3)
 obtain ⟨ix, Ps, Qs⟩ := sg
 go_enter Tryz.func64, Tryz.ntmps64
 have hk0 := Blk.new w 40 [.int .i64 num, .slice R root.length cr, .int .i64 ix, .slice P Ps.length cp, .slice Q Qs.length cq]
 have hb0 : Below w.heap.size w (w.alloc (.cells #[.int .i64 num, .slice R root.length cr, .int .i64 ix, .slice P Ps.length cp, .slice Q Qs.length cq] 40)) := (Below.refl w.heap.size w).alloc (Nat.le_refl _) _
 have HW := Lib.hid (And.intro hk0 hb0)
 clear hk0 hb0
 have HCB : Hid (ckB ⟨num, root⟩ = ckB ⟨num, root⟩) := Lib.hid rfl
 generalize hvb : verifyB pub (bodyS tagCk ⟨num, root⟩) ⟨ix, Ps, Qs⟩ = VB at *
 generalize hbo : bodyS tagCk ⟨num, root⟩ = BO at *
 change Hid (∀ (wz : World) (v : Value), CkV wz v ⟨num, root⟩ → Calls Tryz.prog 26 #[v] wz fun e w' => ∃ v', e = .returned v' ∧ Bys w' v' (bodyS tagCk ⟨num, root⟩) ∧ Below wz.heap.size wz w') at HBD
 rw [hbo] at HBD
 clear hvb hbo HCB
 by_cases hck : ckB ⟨num, root⟩ = true
 ·rw [hck] at HCV HRT
  go_wp2
  refine code_at (fun w1 => Blk w1 w.heap.size 40 [.int .i64 num, .slice R root.length cr, .int .i64 ix, .slice P Ps.length cp, .slice Q Qs.length cq] ∧ Below w.heap.size w w1) HW.out ?_
  intro w1 hw1
  have HW1 := Lib.hid hw1
  clear hw1 HW
  have hwlt := HW1.out.1.lt
  have hw1 := HW1.out.2.size
  have c0 := HW1.out.1.cell 0 _ rfl
  have c1 := HW1.out.1.cell 1 _ rfl
  have c2 := HW1.out.1.cell 2 _ rfl
  have c3 := HW1.out.1.cell 3 _ rfl
  have c4 := HW1.out.1.cell 4 _ rfl
  go_region_held3 (fun w' => w'.cell? ⟨w.heap.size, 0, none⟩ = some (.int .i64 num) ∧ w'.cell? ⟨w.heap.size, 1, none⟩ = some (.slice R root.length cr) ∧ w'.cell? ⟨w.heap.size, 2, none⟩ = some (.int .i64 ix) ∧ w'.cell? ⟨w.heap.size, 3, none⟩ = some (.slice P Ps.length cp) ∧ w'.cell? ⟨w.heap.size, 4, none⟩ = some (.slice Q Qs.length cq))
   (first
    | go_keep
    | exact ⟨c0, c1, c2, c3, c4⟩
    | exact ⟨d0, d1, d2, d3, d4⟩
    | exact ⟨e0, e1, e2, e3, e4⟩
    | exact ⟨g0, g1, g2, g3, g4⟩)
   (first
    | (go_simp; go_at_call 61; refine (HRT.out w1.drew _ ⟨_, rfl, HX.out.1.below HW1.out.2.drew⟩).mono ?_; rintro e w2 ⟨rfl, h2⟩; have hb2 : Below w1.heap.size w1 w2 := ⟨h2.os, h2.tape, h2.output, h2.size, h2.block⟩; have d0 := (hb2.cell (p := ⟨w.heap.size, 0, none⟩) hwlt).trans c0; have d1 := (hb2.cell (p := ⟨w.heap.size, 1, none⟩) hwlt).trans c1; have d2 := (hb2.cell (p := ⟨w.heap.size, 2, none⟩) hwlt).trans c2; have d3 := (hb2.cell (p := ⟨w.heap.size, 3, none⟩) hwlt).trans c3; have d4 := (hb2.cell (p := ⟨w.heap.size, 4, none⟩) hwlt).trans c4; have H2 := Lib.hid hb2; clear h2 hb2)
    | (go_simp; go_at_call 26; refine (HBD.out w2 _ ⟨_, rfl, HX.out.1.below (HW1.out.2.trans (H2.out.mono hw1))⟩).mono ?_; rintro e w3 ⟨v3, rfl, h3, h4⟩; obtain ⟨A3, k3, rfl⟩ := h3.form; have hb3 := H2.out.trans (h4.mono H2.out.size); have e0 := (hb3.cell (p := ⟨w.heap.size, 0, none⟩) hwlt).trans c0; have e1 := (hb3.cell (p := ⟨w.heap.size, 1, none⟩) hwlt).trans c1; have e2 := (hb3.cell (p := ⟨w.heap.size, 2, none⟩) hwlt).trans c2; have e3 := (hb3.cell (p := ⟨w.heap.size, 3, none⟩) hwlt).trans c3; have e4 := (hb3.cell (p := ⟨w.heap.size, 4, none⟩) hwlt).trans c4; have H3 := Lib.hid (And.intro h3 hb3); clear h3 h4 hb3)
    | (go_simp; go_at_call 62; refine (HVF.out w3 _ _ _ (HX.out.2.2.2.below (HW1.out.2.trans (H3.out.2.mono hw1))) H3.out.1 ⟨_, _, rfl, HX.out.2.1.below (HW1.out.2.trans (H3.out.2.mono hw1)), HX.out.2.2.1.below (HW1.out.2.trans (H3.out.2.mono hw1))⟩).mono ?_; rintro e w4 ⟨rfl, h4⟩; have hb4 := H3.out.2.trans (h4.mono H3.out.2.size); have g0 := (hb4.cell (p := ⟨w.heap.size, 0, none⟩) hwlt).trans c0; have g1 := (hb4.cell (p := ⟨w.heap.size, 1, none⟩) hwlt).trans c1; have g2 := (hb4.cell (p := ⟨w.heap.size, 2, none⟩) hwlt).trans c2; have g3 := (hb4.cell (p := ⟨w.heap.size, 3, none⟩) hwlt).trans c3; have g4 := (hb4.cell (p := ⟨w.heap.size, 4, none⟩) hwlt).trans c4; have H4 := Lib.hid hb4; clear h4 hb4))
  go_wp2
  go_ret
  exact ⟨by rw [HCV.out]; rfl, HW1.out.2.trans (H4.out.mono hw1)⟩
 ·have hck' : ckB ⟨num, root⟩ = false := by simpa using hck
  rw [hck'] at HCV HRT
  go_wp2
  refine code_at (fun w1 => Blk w1 w.heap.size 40 [.int .i64 num, .slice R root.length cr, .int .i64 ix, .slice P Ps.length cp, .slice Q Qs.length cq] ∧ Below w.heap.size w w1) HW.out ?_
  intro w1 hw1
  have HW1 := Lib.hid hw1
  clear hw1 HW
  have hwlt := HW1.out.1.lt
  have hw1 := HW1.out.2.size
  have c0 := HW1.out.1.cell 0 _ rfl
  have c1 := HW1.out.1.cell 1 _ rfl
  refine wp_region_held_drew (S := (fun w' => w'.cell? ⟨w.heap.size, 0, none⟩ = some (.int .i64 num) ∧ w'.cell? ⟨w.heap.size, 1, none⟩ = some (.slice R root.length cr))) (by kernel_rfl) ?_ (fun hHeld => ?_)
  ·exact ⟨c0, c1⟩
  refine ty 0 5 rfl rfl ?_; simp only [sa, sb, sc]
  refine ty 1 6 rfl rfl ?_; simp only [sa, sb, sc]
  refine rd 2 (by kernel_rfl) rfl (fun K hK => ?_)
  (go_simp; go_at_call 61; refine (HRT.out w1.drew _ ⟨_, rfl, HX.out.1.below HW1.out.2.drew⟩).mono ?_; rintro e w2 ⟨rfl, h2⟩; have hb2 : Below w1.heap.size w1 w2 := ⟨h2.os, h2.tape, h2.output, h2.size, h2.block⟩; have d0 := (hb2.cell (p := ⟨w.heap.size, 0, none⟩) hwlt).trans c0; have d1 := (hb2.cell (p := ⟨w.heap.size, 1, none⟩) hwlt).trans c1; have H2 := Lib.hid hb2; clear h2 hb2)
  go_wp2_with fail
  refine hK.out _ _ ⟨d0, d1⟩ (fun hHeld2 => ?_)
  clear hK K; try simp only [Act.put, sa, sb, sc]
  refine ty 3 8 rfl rfl ?_; simp only [sa, sb, sc]
  refine tn 4 9 rfl rfl ?_; simp only [sa, sb, sc]
  refine tn 5 10 rfl rfl ?_; simp only [sa, sb, sc]
  refine tn 6 11 rfl rfl ?_; simp only [sa, sb, sc]
  refine tn 7 12 rfl rfl ?_; simp only [sa, sb, sc]
  refine tn 8 13 rfl rfl ?_; simp only [sa, sb, sc]
  refine tn 9 14 rfl rfl ?_; simp only [sa, sb, sc]
  refine tn 10 15 rfl rfl ?_; simp only [sa, sb, sc]
  refine ty 11 16 rfl rfl ?_; simp only [sa, sb, sc]
  refine ty 12 4 rfl rfl ?_; simp only [sa, sb, sc]
  refine wpAnyH_done (by kernel_rfl) ?_ _
  all_goals
   go_wp2
   go_ret
   exact ⟨by rw [HCV.out]; rfl, HW1.out.2.trans (H2.out.mono hw1)⟩
set_option maxRecDepth 100000 in
theorem pckright_any (v : Value) (c : CkD) (hl : c.root.length ≤ 1000000000) (w : World) (hv : CkV w v c) :
  Calls Tryz.prog 52 #[v] w fun e w' => e = .returned (.bool (ckB c)) ∧ Below w.heap.size w w' := by
 obtain ⟨p, rfl, h1⟩ := hv
 obtain ⟨P, cp, rfl⟩ := h1.form
 have HB0 := Lib.hid ((Below.refl w.heap.size w).alloc (Nat.le_refl _) (.cells #[.int .i64 c.num, .slice P c.root.length cp] 36))
 have HRB : Hid (ckB c = (decide (0 ≤ c.num) && decide (c.num ≤ 256) && decide (c.root.length = 32))) := Lib.hid rfl
 clear h1
 generalize ckB c = RB at *
 generalize c.num = ix at *
 generalize c.root = R at *
 go_enter Tryz.func52, Tryz.ntmps52
 by_cases k1 : 0 ≤ ix
 ·by_cases k2 : ix ≤ 256
  ·have HF : Hid (RB = decide (R.length = 32)) := Lib.hid (by rw [HRB.out]; simp [k1, k2])
   by_cases k3 : R.length = 32
   ·have n3 : (((R.length : Nat) : Int) == 32) = true := by simp [k3]
    have HT : Hid (RB = true) := Lib.hid (by rw [HF.out]; simp [k3])
    clear k3
    go_wp2
    go_ret
    exact ⟨by rw [HT.out]; rfl, HB0.out⟩
   ·have n3 : (((R.length : Nat) : Int) == 32) = false := by simp; omega
    have HT : Hid (RB = false) := Lib.hid (by rw [HF.out]; simp [k3])
    clear k3
    go_wp2
    go_ret
    exact ⟨by rw [HT.out]; rfl, HB0.out⟩
  ·have HT : Hid (RB = false) := Lib.hid (by rw [HRB.out]; simp [k2])
   go_wp2
   go_ret
   exact ⟨by rw [HT.out]; rfl, HB0.out⟩
 ·have HT : Hid (RB = false) := Lib.hid (by rw [HRB.out]; simp [k1])
  go_wp2
  go_ret
  exact ⟨by rw [HT.out]; rfl, HB0.out⟩
theorem bys_newz (w : World) (t : TypeId) (l : List UInt8) (fz : Nat × Nat) (n : Nat) (hn : l.length = n) (hm : n ≤ 1000000) : Bys (w.alloc (.cells (bys l).toArray t fz)) (.slice (some ⟨w.heap.size, 0, none⟩) n n) l := by
 subst hn
 refine ⟨by rw [bys_length]; omega, .inr ⟨_, 0, l.length, rfl, Nat.le_refl _, by unfold maxLen; omega, by simp, fun j u hj => ?_⟩⟩
 have hb : (w.alloc (.cells (bys l).toArray t fz)).heap[w.heap.size]? = some (.cells (bys l).toArray t fz) := blk_new w _
 rw [Nat.zero_add]
 generalize w.alloc (.cells (bys l).toArray t fz) = W at *
 generalize w.heap.size = g at *
 simp [World.cell?, hb, hj]

set_option maxRecDepth 100000 in
set_option maxHeartbeats 1000000 in
theorem pckbody_any (v : Value) (c : CkD) (hl : c.root.length ≤ 100000000) (w : World) (hv : CkV w v c) :
  Calls Tryz.prog 54 #[v] w fun e w' => ∃ v', e = .returned v' ∧ Bys w' v' (bodyS tagCk c) ∧ Below w.heap.size w w' := by
 obtain ⟨p, rfl, h1⟩ := hv
 obtain ⟨P, cp, rfl⟩ := h1.form
 have HX := Lib.hid h1
 have HBS : Hid (bodyS tagCk c = if ckB c then tagCk ++ be4 c.num ++ c.root else []) := Lib.hid rfl
 have HCK : Hid (ckB c = true → 0 ≤ c.num ∧ c.num ≤ 256) := Lib.hid (by intro h; simp [ckB] at h; exact ⟨h.1.1, h.1.2⟩)
 generalize bodyS tagCk c = BS at *
 clear h1
 go_enter Tryz.func54, Tryz.ntmps54
 have hk0 := Blk.new w 36 [.int .i64 c.num, .slice P c.root.length cp]
 have hb0 : Below w.heap.size w (w.alloc (.cells #[.int .i64 c.num, .slice P c.root.length cp] 36)) := (Below.refl w.heap.size w).alloc (Nat.le_refl _) _
 have HW := Lib.hid (And.intro hk0 hb0)
 clear hk0 hb0
 go_wp2_with fail
 refine (pckright_any _ c (by omega) _ ⟨_, rfl, HX.out.below HW.out.2⟩).mono ?_
 rintro e w1 ⟨rfl, h1⟩
 have HW1 := Lib.hid (And.intro (HW.out.1.below h1) (HW.out.2.trans (h1.mono (by simp))))
 clear h1
 by_cases hck : ckB c = true
 ·rw [hck] at HBS
  obtain ⟨n0, n1⟩ := HCK.out hck
  rw [hck]
  have HBS2 : Hid (BS = (tagCk ++ be4 c.num) ++ c.root) := Lib.hid (by rw [HBS.out, if_pos rfl])
  clear HBS hck
  go_wp2_with fail
  refine (wnew_any w1).mono ?_
  rintro e w2 ⟨rfl, h2, h3⟩
  have H2 := Lib.hid (And.intro h2 h3)
  have hlt2 : w1.heap.size < w2.heap.size := by obtain ⟨v, h, _⟩ := h2; exact h.lt
  clear h2 h3
  have hal := (Below.refl w1.heap.size w2).alloc (Nat.le_of_lt hlt2) (.cells (bys tagCk).toArray 5 (16, 16 + 1))
  have hal2 := (Below.refl w2.heap.size w2).alloc (Nat.le_refl _) (.cells (bys tagCk).toArray 5 (16, 16 + 1))
  have HT2 := Lib.hid (And.intro (bys_newz w2 5 tagCk (16, 16 + 1) 16 rfl (by decide)) (And.intro (H2.out.1.below hal2) (H2.out.2.trans hal)))
  clear hal hal2
  have kc := fun (w : World) (C : Array Value) (n c : Nat) => Lib.run_convert_bytes_const (P := Tryz.prog) w 26 5 C n c Tryz.underlying26 Tryz.underlying5
  go_wp2_with fail
  refine (wraw_any w1.heap.size w1.heap.size [] tagCk _ (by decide) (by decide) _ (by simp; omega) HT2.out.2.1 HT2.out.1).mono ?_
  rintro e w3 ⟨rfl, h4, h5⟩
  have H3 := Lib.hid (And.intro (show WrX w3 w1.heap.size w1.heap.size tagCk from h4) (HT2.out.2.2.trans h5))
  have hsz3 := H3.out.2.size
  have q0 := (HW1.out.1.below (H3.out.2)).cell 0 _ rfl
  have ew : IntKind.u32.wrap c.num = c.num := by
   rw [show IntKind.u32.wrap c.num = c.num % 4294967296 by simp [IntKind.wrap, IntKind.bits, IntKind.signed]]; omega
  clear h4 h5
  go_wp2_with fail
  refine (wnum_any w1.heap.size w1.heap.size tagCk c.num n0 (by omega) (by decide) _ hsz3 H3.out.1).mono ?_
  rintro e w4 ⟨rfl, h4, h5⟩
  have H4 := Lib.hid (And.intro h4 (H3.out.2.trans h5))
  have hsz4 := H4.out.2.size
  have q1 := (HW1.out.1.below (H4.out.2)).cell 1 _ rfl
  clear h4 h5 q0 ew
  go_wp2_with fail
  refine (wraw_any w1.heap.size w1.heap.size (tagCk ++ be4 c.num) c.root _ (by rw [List.length_append, be4_length]; decide) (by omega) _ hsz4 H4.out.1 (HX.out.below (HW1.out.2.trans (H4.out.2.mono HW1.out.2.size)))).mono ?_
  rintro e w5 ⟨rfl, h4, h5⟩
  have H5 := Lib.hid (And.intro h4 (H4.out.2.trans h5))
  have hfl : ((tagCk ++ be4 c.num) ++ c.root).length ≤ 1000000000 := by rw [List.length_append, List.length_append, be4_length]; have : tagCk.length = 16 := rfl; omega
  clear h4 h5 q1
  generalize (tagCk ++ be4 c.num) ++ c.root = FULL at *
  go_wp2_with fail
  refine (wdone_any w1.heap.size w1.heap.size FULL hfl w5 H5.out.1).mono ?_
  rintro e w6 ⟨v6, rfl, h6, h7⟩
  have H6 := Lib.hid (And.intro h6.bys (H5.out.2.trans (h7.mono H5.out.2.size)))
  obtain ⟨A6, c6, rfl⟩ := h6.form
  clear h6 h7
  go_wp2
  go_ret
  exact ⟨_, rfl, by rw [HBS2.out]; exact H6.out.1, HW1.out.2.trans (H6.out.2.mono HW1.out.2.size)⟩
 ·have hck' : ckB c = false := by simpa using hck
  rw [hck'] at HBS
  rw [hck']
  have HF : Hid (BS = []) := Lib.hid HBS.out
  clear HBS hck hck'
  go_wp2
  go_ret
  exact ⟨_, rfl, by rw [HF.out]; exact Sho.nil _ _, HW1.out.2⟩

set_option maxRecDepth 100000 in
set_option maxHeartbeats 1000000 in
theorem pckcosign_any (v : Value) (c : CkD) (hl : c.root.length ≤ 100000000) (w : World) (hv : CkV w v c) :
  Calls Tryz.prog 58 #[v] w fun e w' => ∃ v', e = .returned v' ∧ Bys w' v' (bodyS tagCo c) ∧ Below w.heap.size w w' := by
 obtain ⟨p, rfl, h1⟩ := hv
 obtain ⟨P, cp, rfl⟩ := h1.form
 have HX := Lib.hid h1
 have HBS : Hid (bodyS tagCo c = if ckB c then tagCo ++ be4 c.num ++ c.root else []) := Lib.hid rfl
 have HCK : Hid (ckB c = true → 0 ≤ c.num ∧ c.num ≤ 256) := Lib.hid (by intro h; simp [ckB] at h; exact ⟨h.1.1, h.1.2⟩)
 generalize bodyS tagCo c = BS at *
 clear h1
 go_enter Tryz.func58, Tryz.ntmps58
 have hk0 := Blk.new w 36 [.int .i64 c.num, .slice P c.root.length cp]
 have hb0 : Below w.heap.size w (w.alloc (.cells #[.int .i64 c.num, .slice P c.root.length cp] 36)) := (Below.refl w.heap.size w).alloc (Nat.le_refl _) _
 have HW := Lib.hid (And.intro hk0 hb0)
 clear hk0 hb0
 go_wp2_with fail
 refine (pckright_any _ c (by omega) _ ⟨_, rfl, HX.out.below HW.out.2⟩).mono ?_
 rintro e w1 ⟨rfl, h1⟩
 have HW1 := Lib.hid (And.intro (HW.out.1.below h1) (HW.out.2.trans (h1.mono (by simp))))
 clear h1
 by_cases hck : ckB c = true
 ·rw [hck] at HBS
  obtain ⟨n0, n1⟩ := HCK.out hck
  rw [hck]
  have HBS2 : Hid (BS = (tagCo ++ be4 c.num) ++ c.root) := Lib.hid (by rw [HBS.out, if_pos rfl])
  clear HBS hck
  go_wp2_with fail
  refine (wnew_any w1).mono ?_
  rintro e w2 ⟨rfl, h2, h3⟩
  have H2 := Lib.hid (And.intro h2 h3)
  have hlt2 : w1.heap.size < w2.heap.size := by obtain ⟨v, h, _⟩ := h2; exact h.lt
  clear h2 h3
  have hal := (Below.refl w1.heap.size w2).alloc (Nat.le_of_lt hlt2) (.cells (bys tagCo).toArray 5 (17, 17 + 1))
  have hal2 := (Below.refl w2.heap.size w2).alloc (Nat.le_refl _) (.cells (bys tagCo).toArray 5 (17, 17 + 1))
  have HT2 := Lib.hid (And.intro (bys_newz w2 5 tagCo (17, 17 + 1) 17 rfl (by decide)) (And.intro (H2.out.1.below hal2) (H2.out.2.trans hal)))
  clear hal hal2
  have kc := fun (w : World) (C : Array Value) (n c : Nat) => Lib.run_convert_bytes_const (P := Tryz.prog) w 26 5 C n c Tryz.underlying26 Tryz.underlying5
  go_wp2_with fail
  refine (wraw_any w1.heap.size w1.heap.size [] tagCo _ (by decide) (by decide) _ (by simp; omega) HT2.out.2.1 HT2.out.1).mono ?_
  rintro e w3 ⟨rfl, h4, h5⟩
  have H3 := Lib.hid (And.intro (show WrX w3 w1.heap.size w1.heap.size tagCo from h4) (HT2.out.2.2.trans h5))
  have hsz3 := H3.out.2.size
  have q0 := (HW1.out.1.below (H3.out.2)).cell 0 _ rfl
  have ew : IntKind.u32.wrap c.num = c.num := by
   rw [show IntKind.u32.wrap c.num = c.num % 4294967296 by simp [IntKind.wrap, IntKind.bits, IntKind.signed]]; omega
  clear h4 h5
  go_wp2_with fail
  refine (wnum_any w1.heap.size w1.heap.size tagCo c.num n0 (by omega) (by decide) _ hsz3 H3.out.1).mono ?_
  rintro e w4 ⟨rfl, h4, h5⟩
  have H4 := Lib.hid (And.intro h4 (H3.out.2.trans h5))
  have hsz4 := H4.out.2.size
  have q1 := (HW1.out.1.below (H4.out.2)).cell 1 _ rfl
  clear h4 h5 q0 ew
  go_wp2_with fail
  refine (wraw_any w1.heap.size w1.heap.size (tagCo ++ be4 c.num) c.root _ (by rw [List.length_append, be4_length]; decide) (by omega) _ hsz4 H4.out.1 (HX.out.below (HW1.out.2.trans (H4.out.2.mono HW1.out.2.size)))).mono ?_
  rintro e w5 ⟨rfl, h4, h5⟩
  have H5 := Lib.hid (And.intro h4 (H4.out.2.trans h5))
  have hfl : ((tagCo ++ be4 c.num) ++ c.root).length ≤ 1000000000 := by rw [List.length_append, List.length_append, be4_length]; have : tagCo.length = 17 := rfl; omega
  clear h4 h5 q1
  generalize (tagCo ++ be4 c.num) ++ c.root = FULL at *
  go_wp2_with fail
  refine (wdone_any w1.heap.size w1.heap.size FULL hfl w5 H5.out.1).mono ?_
  rintro e w6 ⟨v6, rfl, h6, h7⟩
  have H6 := Lib.hid (And.intro h6.bys (H5.out.2.trans (h7.mono H5.out.2.size)))
  obtain ⟨A6, c6, rfl⟩ := h6.form
  clear h6 h7
  go_wp2
  go_ret
  exact ⟨_, rfl, by rw [HBS2.out]; exact H6.out.1, HW1.out.2.trans (H6.out.2.mono HW1.out.2.size)⟩
 ·have hck' : ckB c = false := by simpa using hck
  rw [hck'] at HBS
  rw [hck']
  have HF : Hid (BS = []) := Lib.hid HBS.out
  clear HBS hck hck'
  go_wp2
  go_ret
  exact ⟨_, rfl, by rw [HF.out]; exact Sho.nil _ _, HW1.out.2⟩
set_option maxRecDepth 100000 in
set_option maxHeartbeats 2000000 in
theorem pckverify_no (vp v : Value) (pub : List UInt8) (s : SgD) (hpub : pub.length ≤ 1000000000) (hr : s.ck.root.length ≤ 100000000) (hs : SmallSig s.sig) (w : World) (hvp : Bys w vp pub) (hv : SgV w v s) (hck0 : ckB s.ck = false) :
  Calls Tryz.prog 27 #[vp, v] w fun e w' => e = .returned (.bool (ckVerB pub s)) ∧ Below w.heap.size w w' := by
 obtain ⟨r, p, q, rfl, h1, h2, h3⟩ := hv
 obtain ⟨R, cr, rfl⟩ := h1.form
 obtain ⟨P, cp, rfl⟩ := h2.form
 obtain ⟨Q, cq, rfl⟩ := h3.form
 obtain ⟨U, cu, rfl⟩ := hvp.form
 have HX := Lib.hid (And.intro h1 (And.intro h2 (And.intro h3 hvp)))
 have HCV : Hid (ckVerB pub s = (ckB s.ck && verifyB pub (bodyS tagCk s.ck) s.sig)) := Lib.hid rfl
 have hbl := bodyS_length tagCk s.ck
 have HBL : Hid ((bodyS tagCk s.ck).length ≤ 1000000000) := Lib.hid (by have : tagCk.length = 16 := rfl; omega)
 clear h1 h2 h3 hvp hbl
 generalize ckVerB pub s = CV at *
 obtain ⟨⟨num, root⟩, sg⟩ := s
 have HCK0 := Lib.hid hck0
 clear hck0
 obtain ⟨hs1, hs2, hs3, hs4⟩ := hs
 have HS := Lib.hid (And.intro hs1 (And.intro hs2 (And.intro hs3 hs4)))
 clear hs1 hs2 hs3 hs4
 have hrl : root.length ≤ 1000000000 := by have : root.length ≤ 100000000 := hr; omega
 have HBD := Lib.hid (fun (wz : World) (v : Value) (hz : CkV wz v ⟨num, root⟩) => pckbody_any v ⟨num, root⟩ hr wz hz)
 have HRT := Lib.hid (fun (wz : World) (v : Value) (hz : CkV wz v ⟨num, root⟩) => pckright_any v ⟨num, root⟩ hrl wz hz)
 have HVF := Lib.hid (fun (wz : World) (vp vm v : Value) (z1 : Bys wz vp pub) (z2 : Bys wz vm (bodyS tagCk ⟨num, root⟩)) (z3 : SigV wz v sg) => pverify_any vp vm v pub (bodyS tagCk ⟨num, root⟩) sg hpub HBL.out HS.out.1 HS.out.2.1 wz z1 z2 z3)
 obtain ⟨ix, Ps, Qs⟩ := sg
 go_enter Tryz.func27, Tryz.ntmps27
 have hk0 := Blk.new w 40 [.int .i64 num, .slice R root.length cr, .int .i64 ix, .slice P Ps.length cp, .slice Q Qs.length cq]
 have hb0 : Below w.heap.size w (w.alloc (.cells #[.int .i64 num, .slice R root.length cr, .int .i64 ix, .slice P Ps.length cp, .slice Q Qs.length cq] 40)) := (Below.refl w.heap.size w).alloc (Nat.le_refl _) _
 have HW := Lib.hid (And.intro hk0 hb0)
 clear hk0 hb0
 have HCB : Hid (ckB ⟨num, root⟩ = ckB ⟨num, root⟩) := Lib.hid rfl
 generalize hvb : verifyB pub (bodyS tagCk ⟨num, root⟩) ⟨ix, Ps, Qs⟩ = VB at *
 generalize hbo : bodyS tagCk ⟨num, root⟩ = BO at *
 clear hvb hbo HCB
 have hck' : ckB ⟨num, root⟩ = false := HCK0.out
 rw [hck'] at HCV HRT
 go_wp2
 refine code_at (fun w1 => Blk w1 w.heap.size 40 [.int .i64 num, .slice R root.length cr, .int .i64 ix, .slice P Ps.length cp, .slice Q Qs.length cq] ∧ Below w.heap.size w w1) HW.out ?_
 intro w1 hw1
 have HW1 := Lib.hid hw1
 clear hw1 HW
 have hwlt := HW1.out.1.lt
 have hw1 := HW1.out.2.size
 have c0 := HW1.out.1.cell 0 _ rfl
 have c1 := HW1.out.1.cell 1 _ rfl
 refine wp_region_held_drew (S := (fun w' => w'.cell? ⟨w.heap.size, 0, none⟩ = some (.int .i64 num) ∧ w'.cell? ⟨w.heap.size, 1, none⟩ = some (.slice R root.length cr))) (by kernel_rfl) ?_ (fun hHeld => ?_)
 ·exact ⟨c0, c1⟩
 refine ty 0 5 rfl rfl ?_; simp only [sa, sb, sc]
 refine ty 1 6 rfl rfl ?_; simp only [sa, sb, sc]
 refine rd 2 (by kernel_rfl) rfl (fun K hK => ?_)
 (go_simp; go_at_call 52; refine (HRT.out w1.drew _ ⟨_, rfl, HX.out.1.below HW1.out.2.drew⟩).mono ?_; rintro e w2 ⟨rfl, h2⟩; have hb2 : Below w1.heap.size w1 w2 := ⟨h2.os, h2.tape, h2.output, h2.size, h2.block⟩; have d0 := (hb2.cell (p := ⟨w.heap.size, 0, none⟩) hwlt).trans c0; have d1 := (hb2.cell (p := ⟨w.heap.size, 1, none⟩) hwlt).trans c1; have H2 := Lib.hid hb2; clear h2 hb2)
 go_wp2_with fail
 refine hK.out _ _ ⟨d0, d1⟩ (fun hHeld2 => ?_)
 clear hK K; try simp only [Act.put, sa, sb, sc]
 refine ty 3 8 rfl rfl ?_; simp only [sa, sb, sc]
 refine tn 4 9 rfl rfl ?_; simp only [sa, sb, sc]
 refine tn 5 10 rfl rfl ?_; simp only [sa, sb, sc]
 refine tn 6 11 rfl rfl ?_; simp only [sa, sb, sc]
 refine tn 7 12 rfl rfl ?_; simp only [sa, sb, sc]
 refine tn 8 13 rfl rfl ?_; simp only [sa, sb, sc]
 refine tn 9 14 rfl rfl ?_; simp only [sa, sb, sc]
 refine tn 10 15 rfl rfl ?_; simp only [sa, sb, sc]
 refine ty 11 16 rfl rfl ?_; simp only [sa, sb, sc]
 refine ty 12 4 rfl rfl ?_; simp only [sa, sb, sc]
 refine wpAnyH_done (by kernel_rfl) ?_ _
 all_goals
  go_wp2
  go_ret
  exact ⟨by rw [HCV.out]; rfl, HW1.out.2.trans (H2.out.mono hw1)⟩

set_option maxRecDepth 100000 in
set_option maxHeartbeats 2000000 in
theorem pckverify_yes (vp v : Value) (pub : List UInt8) (s : SgD) (hpub : pub.length ≤ 1000000000) (hr : s.ck.root.length ≤ 100000000) (hs : SmallSig s.sig) (w : World) (hvp : Bys w vp pub) (hv : SgV w v s) (hck0 : ckB s.ck = true) :
  Calls Tryz.prog 27 #[vp, v] w fun e w' => e = .returned (.bool (ckVerB pub s)) ∧ Below w.heap.size w w' := by
 obtain ⟨r, p, q, rfl, h1, h2, h3⟩ := hv
 obtain ⟨R, cr, rfl⟩ := h1.form
 obtain ⟨P, cp, rfl⟩ := h2.form
 obtain ⟨Q, cq, rfl⟩ := h3.form
 obtain ⟨U, cu, rfl⟩ := hvp.form
 have HX := Lib.hid (And.intro h1 (And.intro h2 (And.intro h3 hvp)))
 have HCV : Hid (ckVerB pub s = (ckB s.ck && verifyB pub (bodyS tagCk s.ck) s.sig)) := Lib.hid rfl
 have hbl := bodyS_length tagCk s.ck
 have HBL : Hid ((bodyS tagCk s.ck).length ≤ 1000000000) := Lib.hid (by have : tagCk.length = 16 := rfl; omega)
 clear h1 h2 h3 hvp hbl
 generalize ckVerB pub s = CV at *
 obtain ⟨⟨num, root⟩, sg⟩ := s
 have HCK0 := Lib.hid hck0
 clear hck0
 obtain ⟨hs1, hs2, hs3, hs4⟩ := hs
 have HS := Lib.hid (And.intro hs1 (And.intro hs2 (And.intro hs3 hs4)))
 clear hs1 hs2 hs3 hs4
 have hrl : root.length ≤ 1000000000 := by have : root.length ≤ 100000000 := hr; omega
 have HBD := Lib.hid (fun (wz : World) (v : Value) (hz : CkV wz v ⟨num, root⟩) => pckbody_any v ⟨num, root⟩ hr wz hz)
 have HRT := Lib.hid (fun (wz : World) (v : Value) (hz : CkV wz v ⟨num, root⟩) => pckright_any v ⟨num, root⟩ hrl wz hz)
 have HVF := Lib.hid (fun (wz : World) (vp vm v : Value) (z1 : Bys wz vp pub) (z2 : Bys wz vm (bodyS tagCk ⟨num, root⟩)) (z3 : SigV wz v sg) => pverify_any vp vm v pub (bodyS tagCk ⟨num, root⟩) sg hpub HBL.out HS.out.1 HS.out.2.1 wz z1 z2 z3)
 obtain ⟨ix, Ps, Qs⟩ := sg
 go_enter Tryz.func27, Tryz.ntmps27
 have hk0 := Blk.new w 40 [.int .i64 num, .slice R root.length cr, .int .i64 ix, .slice P Ps.length cp, .slice Q Qs.length cq]
 have hb0 : Below w.heap.size w (w.alloc (.cells #[.int .i64 num, .slice R root.length cr, .int .i64 ix, .slice P Ps.length cp, .slice Q Qs.length cq] 40)) := (Below.refl w.heap.size w).alloc (Nat.le_refl _) _
 have HW := Lib.hid (And.intro hk0 hb0)
 clear hk0 hb0
 have HCB : Hid (ckB ⟨num, root⟩ = ckB ⟨num, root⟩) := Lib.hid rfl
 generalize hvb : verifyB pub (bodyS tagCk ⟨num, root⟩) ⟨ix, Ps, Qs⟩ = VB at *
 generalize hbo : bodyS tagCk ⟨num, root⟩ = BO at *
 clear hvb hbo HCB
 have hck : ckB ⟨num, root⟩ = true := HCK0.out
 rw [hck] at HCV HRT
 go_wp2
 refine code_at (fun w1 => Blk w1 w.heap.size 40 [.int .i64 num, .slice R root.length cr, .int .i64 ix, .slice P Ps.length cp, .slice Q Qs.length cq] ∧ Below w.heap.size w w1) HW.out ?_
 intro w1 hw1
 have HW1 := Lib.hid hw1
 clear hw1 HW
 have hwlt := HW1.out.1.lt
 have hw1 := HW1.out.2.size
 have c0 := HW1.out.1.cell 0 _ rfl
 have c1 := HW1.out.1.cell 1 _ rfl
 have c2 := HW1.out.1.cell 2 _ rfl
 have c3 := HW1.out.1.cell 3 _ rfl
 have c4 := HW1.out.1.cell 4 _ rfl
 go_region_held3 (fun w' => w'.cell? ⟨w.heap.size, 0, none⟩ = some (.int .i64 num) ∧ w'.cell? ⟨w.heap.size, 1, none⟩ = some (.slice R root.length cr) ∧ w'.cell? ⟨w.heap.size, 2, none⟩ = some (.int .i64 ix) ∧ w'.cell? ⟨w.heap.size, 3, none⟩ = some (.slice P Ps.length cp) ∧ w'.cell? ⟨w.heap.size, 4, none⟩ = some (.slice Q Qs.length cq))
  (first
   | go_keep
   | exact ⟨c0, c1, c2, c3, c4⟩
   | exact ⟨d0, d1, d2, d3, d4⟩
   | exact ⟨e0, e1, e2, e3, e4⟩
   | exact ⟨g0, g1, g2, g3, g4⟩)
  (first
   | (go_simp; go_at_call 52; refine (HRT.out w1.drew _ ⟨_, rfl, HX.out.1.below HW1.out.2.drew⟩).mono ?_; rintro e w2 ⟨rfl, h2⟩; have hb2 : Below w1.heap.size w1 w2 := ⟨h2.os, h2.tape, h2.output, h2.size, h2.block⟩; have d0 := (hb2.cell (p := ⟨w.heap.size, 0, none⟩) hwlt).trans c0; have d1 := (hb2.cell (p := ⟨w.heap.size, 1, none⟩) hwlt).trans c1; have d2 := (hb2.cell (p := ⟨w.heap.size, 2, none⟩) hwlt).trans c2; have d3 := (hb2.cell (p := ⟨w.heap.size, 3, none⟩) hwlt).trans c3; have d4 := (hb2.cell (p := ⟨w.heap.size, 4, none⟩) hwlt).trans c4; have H2 := Lib.hid hb2; clear h2 hb2)
   | (go_simp; go_at_call 54; refine (HBD.out w2 _ ⟨_, rfl, HX.out.1.below (HW1.out.2.trans (H2.out.mono hw1))⟩).mono ?_; rintro e w3 ⟨v3, rfl, h3, h4⟩; obtain ⟨A3, k3, rfl⟩ := h3.form; have hb3 := H2.out.trans (h4.mono H2.out.size); have e0 := (hb3.cell (p := ⟨w.heap.size, 0, none⟩) hwlt).trans c0; have e1 := (hb3.cell (p := ⟨w.heap.size, 1, none⟩) hwlt).trans c1; have e2 := (hb3.cell (p := ⟨w.heap.size, 2, none⟩) hwlt).trans c2; have e3 := (hb3.cell (p := ⟨w.heap.size, 3, none⟩) hwlt).trans c3; have e4 := (hb3.cell (p := ⟨w.heap.size, 4, none⟩) hwlt).trans c4; have H3 := Lib.hid (And.intro h3 hb3); clear h3 h4 hb3)
   | (go_simp; go_at_call 53; refine (HVF.out w3 _ _ _ (HX.out.2.2.2.below (HW1.out.2.trans (H3.out.2.mono hw1))) H3.out.1 ⟨_, _, rfl, HX.out.2.1.below (HW1.out.2.trans (H3.out.2.mono hw1)), HX.out.2.2.1.below (HW1.out.2.trans (H3.out.2.mono hw1))⟩).mono ?_; rintro e w4 ⟨rfl, h4⟩; have hb4 := H3.out.2.trans (h4.mono H3.out.2.size); have g0 := (hb4.cell (p := ⟨w.heap.size, 0, none⟩) hwlt).trans c0; have g1 := (hb4.cell (p := ⟨w.heap.size, 1, none⟩) hwlt).trans c1; have g2 := (hb4.cell (p := ⟨w.heap.size, 2, none⟩) hwlt).trans c2; have g3 := (hb4.cell (p := ⟨w.heap.size, 3, none⟩) hwlt).trans c3; have g4 := (hb4.cell (p := ⟨w.heap.size, 4, none⟩) hwlt).trans c4; have H4 := Lib.hid hb4; clear h4 hb4))
 go_wp2
 go_ret
 exact ⟨by rw [HCV.out]; rfl, HW1.out.2.trans (H4.out.mono hw1)⟩

theorem pckverify_any (vp v : Value) (pub : List UInt8) (s : SgD) (hpub : pub.length ≤ 1000000000) (hr : s.ck.root.length ≤ 100000000) (hs : SmallSig s.sig) (w : World) (hvp : Bys w vp pub) (hv : SgV w v s) :
  Calls Tryz.prog 27 #[vp, v] w fun e w' => e = .returned (.bool (ckVerB pub s)) ∧ Below w.heap.size w w' := by
 cases h : ckB s.ck with
 | true => exact pckverify_yes vp v pub s hpub hr hs w hvp hv h
 | false => exact pckverify_no vp v pub s hpub hr hs w hvp hv h
set_option maxRecDepth 100000 in
set_option maxHeartbeats 2000000 in
theorem clones_any (v : Value) (ls : List (List UInt8)) (hsm : ls.length ≤ 1000000000) (hl : ∀ i (h : i < ls.length), ls[i].length ≤ 1000000000) (w : World) (hx : Rws w v ls) :
  Calls Tryz.prog 84 #[v] w (RetR w ls) := by
 obtain ⟨i0, hi0, hz0, hz1, hz2⟩ := info_parts info_bytes
 obtain ⟨A, c, rfl⟩ := hx.form
 have HX := Lib.hid (And.intro hx hl)
 clear hx hl
 go_enter Tryz.func84, Tryz.ntmps84
 go_wp2
 go_loopw [3, 8] (fun v3 v8 wr => ∃ k : Nat, v8 = .int .i64 k ∧ k ≤ ls.length ∧ Hid (Below w.heap.size w wr ∧ OwnR wr w.heap.size v3 (ls.take k))) (fun _ v _ => ls.length - (intOf v).toNat)
 case atStart => exact ⟨0, rfl, Nat.zero_le _, Lib.hid ⟨Below.refl _ _, OwnR.nil _ _⟩⟩
 case round =>
  obtain ⟨k, rfl, hk, HJ⟩ := hrel
  by_cases hlt : k < ls.length
  ·obtain ⟨g, o, u, rfl, hg, -, -, hcu, hbu⟩ := HX.out.1.at' k hlt
   have p0 := (HJ.out.1.cell (p := ⟨g, o + k, none⟩) hg).trans hcu
   obtain ⟨A9, c9, rfl⟩ := hbu.form
   have hX9 := HX.out.2 k hlt
   have HU := Lib.hid (hbu.below HJ.out.1)
   have HT : Hid (ls.take (k + 1) = ls.take k ++ [ls[k]]) := Lib.hid (List.take_succ_eq_append_getElem hlt)
   have HTL : Hid ((ls.take k).length = k) := Lib.hid (by rw [List.length_take]; omega)
   have hal : (ls.take k).length ≤ 1000000000 := by rw [HTL.out]; omega
   have hsz := HJ.out.1.size
   clear hcu hbu
   obtain ⟨A8, c8, rfl⟩ := HJ.out.2.rws.form
   generalize ls[k] = X at *
   generalize ls.take k = L at *
   go_wp2_with fail
   refine (clone_any _ X (by omega) wr HU.out).mono ?_
   rintro e w2 ⟨v2, rfl, h1, h2⟩
   obtain ⟨A2, c2, rfl⟩ := h1.form
   obtain ⟨us, hu1, hu2⟩ := HJ.out.2.keep h2
   have H2 := Lib.hid (And.intro h1 (And.intro h2 (And.intro hu1 hu2)))
   have hsz2 := h2.size
   clear h1 h2 hu1 hu2
   go_wp2_with (at_builtin; (refine wpList_append_lies _ rfl (.tmp 12) (.tmp 15) 27 rfl w.heap.size 26 i0 (.slice none 0 0) 1 24 Tryz.underlying27 hi0 hz0 hz1 hz2 rfl (by decide) _ L.length us rfl (World.ownsRow.alloc H2.out.2.2.1 _) ⟨w2.heap.size, 0, none⟩ 1 1 [.slice A2 X.length c2] rfl rfl (World.news_of_block (blk_new _ _)) (by simp [Value.oneCell']) (by decide) (by unfold maxLen; omega) (by omega) (by simp; omega) (w2.heap.size + 1) (by simp) ?_); intro g3 c3 W3 hown3 hgrow3 hlie3 hlt3)
   have HR3 := Lib.hid (retr_push HJ.out.2 hsz H2.out.2.1 H2.out.1 H2.out.2.2.2 (by have := H2.out.2.2.1.1; omega) hown3 hgrow3 hlie3)
   go_roundw
   case rel => exact ⟨k + 1, by go_num, by omega, Lib.hid ⟨HJ.out.1.trans HR3.out.2, by rw [HT.out]; exact HR3.out.1⟩⟩
   case measure => simp [intOf]; omega
  ·obtain rfl : k = ls.length := by omega
   have HO := HJ.out.2
   rw [List.take_length] at HO
   have HB := Lib.hid (And.intro HO HJ.out.1)
   clear HO HJ
   go_wp2
   go_ret
   exact ⟨_, rfl, HB.out.1, HB.out.2⟩
def Fresh (w w' : World) (g : Nat) : Prop := w.heap.size ≤ g ∧ g < w'.heap.size
theorem Fresh.wide {w w0 w' w1 : World} {g : Nat} (h : Fresh w w' g) (h1 : w0.heap.size ≤ w.heap.size) (h2 : w'.heap.size ≤ w1.heap.size) : Fresh w0 w1 g := ⟨Nat.le_trans h1 h.1, Nat.lt_of_lt_of_le h.2 h2⟩
def SigF (S : Nat → Prop) (w : World) (v : Value) (s : SigD) : Prop := ∃ p q, v = .agg #[.int .i64 s.index, p, q] ∧ RwsF S w p s.parts ∧ RwsF S w q s.path
theorem RwsF.below {S : Nat → Prop} {w w1 : World} {v : Value} {ls : List (List UInt8)} (h : RwsF S w v ls) (hb : Below w.heap.size w w1) : RwsF S w1 v ls :=
 h.chg (Chg.of_below (S := fun _ => False) hb) (fun _ _ h => h)
def RetSig (w : World) (s : SigD) (e : Ending) (w' : World) : Prop := ∃ v, e = .returned v ∧ SigF (Fresh w w') w' v s ∧ Below w.heap.size w w'
theorem two_of {w : World} (A B : List Value) (t1 t2 : TypeId) : Blk ((w.alloc (.cells A.toArray t1)).alloc (.cells B.toArray t2)) w.heap.size t1 A ∧ Blk ((w.alloc (.cells A.toArray t1)).alloc (.cells B.toArray t2)) (w.heap.size + 1) t2 B ∧ Below w.heap.size w ((w.alloc (.cells A.toArray t1)).alloc (.cells B.toArray t2)) := by
 obtain ⟨h1, h2, h3⟩ := blk2 w A B t1 t2 _ rfl
 exact ⟨h2, h3, h1⟩

set_option maxRecDepth 100000 in
set_option maxHeartbeats 2000000 in
theorem sigcopy_any (v : Value) (s : SigD) (hs : SmallSig s) (w : World) (hv : SigV w v s) :
  Calls Tryz.prog 55 #[v] w (RetSig w s) := by
 obtain ⟨p, q, rfl, h1, h2⟩ := hv
 obtain ⟨P, cp, rfl⟩ := h1.form
 obtain ⟨Q, cq, rfl⟩ := h2.form
 obtain ⟨hs1, hs2, hs3, hs4⟩ := hs
 have HC1 := Lib.hid (fun wz hz => clones_any (.slice P s.parts.length cp) s.parts hs1 hs3 wz hz)
 have HC2 := Lib.hid (fun wz hz => clones_any (.slice Q s.path.length cq) s.path hs2 hs4 wz hz)
 have HX := Lib.hid (And.intro h1 h2)
 clear h1 h2 hs3 hs4
 obtain ⟨ix, Ps, Qs⟩ := s
 obtain ⟨k0, k1, kb⟩ := two_of (w := w) [.int .i64 ix, .slice P Ps.length cp, .slice Q Qs.length cq] [.int .i64 0, .slice none 0 0, .slice none 0 0] 38 38
 have HW := Lib.hid (And.intro k0 (And.intro k1 kb))
 clear k0 k1 kb
 go_enter Tryz.func55, Tryz.ntmps55
 go_wp2
 refine code_at (fun w1 => Blk w1 w.heap.size 38 [.int .i64 ix, .slice P Ps.length cp, .slice Q Qs.length cq] ∧ Blk w1 (w.heap.size + 1) 38 [.int .i64 0, .slice none 0 0, .slice none 0 0] ∧ Below w.heap.size w w1) HW.out ?_
 rintro w1 ⟨k0, k1, kb⟩
 have H1 := Lib.hid (And.intro k0 (And.intro k1 kb))
 have c0 := k0.cell 0 _ rfl
 have c1 := k0.cell 1 _ rfl
 have c2 := k0.cell 2 _ rfl
 have hsz1 := k1.lt
 clear k0 k1 kb HW
 refine wp_region_held_drew (S := fun w' => w'.cell? ⟨w.heap.size, 0, none⟩ = some (.int .i64 ix) ∧ w'.cell? ⟨w.heap.size, 1, none⟩ = some (.slice P Ps.length cp) ∧ w'.cell? ⟨w.heap.size, 2, none⟩ = some (.slice Q Qs.length cq)) (by kernel_rfl) ?_ (fun hHeld => ?_)
 ·exact ⟨c0, c1, c2⟩
 refine ty 0 3 rfl rfl ?_; simp only [sa, sb, sc]
 refine ty 1 4 rfl rfl ?_; simp only [sa, sb, sc]
 refine ty 2 5 rfl rfl ?_; simp only [sa, sb, sc]
 refine ty 3 6 rfl rfl ?_; simp only [sa, sb, sc]
 refine ty 5 8 rfl rfl ?_; simp only [sa, sb, sc]
 refine ty 6 9 rfl rfl ?_; simp only [sa, sb, sc]
 refine rd 4 (by kernel_rfl) rfl (fun K hK => ?_)
 go_simp
 go_at_call 84
 refine (HC1.out w1.drew (HX.out.1.below H1.out.2.2.drew)).mono ?_
 rintro e w2 ⟨v2, rfl, h2, h3⟩
 obtain ⟨A2, n2, rfl⟩ := h2.rws.form
 have hb2 : Below w1.heap.size w1 w2 := ⟨h3.os, h3.tape, h3.output, h3.size, h3.block⟩
 have k0 := H1.out.1.below hb2
 have e0 := k0.cell 0 _ rfl
 have e1 := k0.cell 1 _ rfl
 have e2 := k0.cell 2 _ rfl
 have H2 := Lib.hid (And.intro (show RwsF (fun g => w1.heap.size ≤ g ∧ g < w2.heap.size) w2 _ Ps from h2.foot) (And.intro hb2 (And.intro k0 (H1.out.2.1.below hb2))))
 clear h2 h3 hb2 k0
 go_wp2_with fail
 refine hK.out _ _ ⟨e0, e1, e2⟩ (fun hHeld4 => ?_)
 clear hK K; try simp only [Act.put, sa, sb, sc]
 refine rd 7 (by kernel_rfl) rfl (fun K hK => ?_)
 go_simp
 go_at_call 84
 refine (HC2.out w2 (HX.out.2.below (H1.out.2.2.trans (H2.out.2.1.mono H1.out.2.2.size)))).mono ?_
 rintro e w3 ⟨v3, rfl, h4, h5⟩
 obtain ⟨A3, n3, rfl⟩ := h4.rws.form
 have k0 := H2.out.2.2.1.below h5
 have k1 := H2.out.2.2.2.below h5
 have i0 := k0.cell 0 _ rfl
 have i1 := k0.cell 1 _ rfl
 have i2 := k0.cell 2 _ rfl
 have j0 := k1.cell 0 _ rfl
 have j1 := k1.cell 1 _ rfl
 have j2 := k1.cell 2 _ rfl
 have g0 := k1.free 0
 have g1 := k1.free 1
 have g2 := k1.free 2
 have H3 := Lib.hid (And.intro h4.foot (And.intro (H2.out.1.below h5) (And.intro k1 (And.intro (H1.out.2.2.trans ((H2.out.2.1.trans (h5.mono H2.out.2.1.size)).mono H1.out.2.2.size)) (And.intro H2.out.2.1.size h5.size)))))
 clear h4 h5 k0 k1 e0 e1 e2
 go_wp2_with fail
 refine hK.out _ _ ⟨i0, i1, i2⟩ (fun hHeld7 => ?_)
 clear hK K; try simp only [Act.put, sa, sb, sc]
 refine ty 8 11 rfl rfl ?_; simp only [sa, sb, sc]
 refine rd 9 (by kernel_rfl) rfl (fun K hK => ?_)
 go_simp
 have hq : True := trivial
 refine hK.out _ _ ⟨by go_keep, by go_keep, by go_keep⟩ (fun hHeld9 => ?_)
 clear hK K; try simp only [Act.put, sa, sb, sc]
 refine wpAnyH_done (by kernel_rfl) ?_ _
 have hch : Chg w3 (((w3.setCell ⟨w.heap.size + 1, 0, none⟩ (.int .i64 ix)).setCell ⟨w.heap.size + 1, 1, none⟩ (.slice A2 Ps.length n2)).setCell ⟨w.heap.size + 1, 2, none⟩ (.slice A3 Qs.length n3)) (fun k => k = w.heap.size + 1) := chg_cell (chg_cell (chg_cell (Chg.refl w3 _) 0 _) 1 _) 2 _
 have hfin : Blk (((w3.setCell ⟨w.heap.size + 1, 0, none⟩ (.int .i64 ix)).setCell ⟨w.heap.size + 1, 1, none⟩ (.slice A2 Ps.length n2)).setCell ⟨w.heap.size + 1, 2, none⟩ (.slice A3 Qs.length n3)) (w.heap.size + 1) 38 [.int .i64 ix, .slice A2 Ps.length n2, .slice A3 Qs.length n3] := ((H3.out.2.2.1.set 0 _ (by simp)).set 1 _ (by simp)).set 2 _ (by simp)
 generalize ((w3.setCell ⟨w.heap.size + 1, 0, none⟩ (.int .i64 ix)).setCell ⟨w.heap.size + 1, 1, none⟩ (.slice A2 Ps.length n2)).setCell ⟨w.heap.size + 1, 2, none⟩ (.slice A3 Qs.length n3) = w4 at *
 have HF := Lib.hid (And.intro hch hfin)
 clear hch hfin j0 j1 j2 g0 g1 g2 i0 i1 i2 c0 c1 c2
 go_wp2
 obtain ⟨h4, h5, h6, h7, h8, h9⟩ := H3.out
 refine bodyPost_ret (v := .agg [.int .i64 ix, .slice A2 Ps.length n2, .slice A3 Qs.length n3].toArray) ?_ ?_ ⟨_, rfl, ⟨_, _, rfl, ?_, ?_⟩, ?_⟩
 ·exact results_cell_row Tryz.results55 _ _ (w.heap.size + 1) 38 _ (0, 0) _ rfl HF.out.2 under_sig rfl size_sig
 ·rfl
 ·exact (h5.chg HF.out.1 (fun g hg e => by omega)).mono (fun g hg => ⟨by omega, by have := HF.out.1.size; omega⟩)
 ·exact (h4.chg HF.out.1 (fun g hg e => by omega)).mono (fun g hg => ⟨by omega, by have := HF.out.1.size; omega⟩)
 ·exact h7.trans (HF.out.1.below h7.size (fun k hk => by omega))
def BysF (S : Nat → Prop) (w : World) (v : Value) (l : List UInt8) : Prop := Bys w v l ∧ (0 < l.length → ∀ g, v.ownBlock = some g → S g)
theorem BysF.chg {S T : Nat → Prop} {w w1 : World} {v : Value} {l : List UInt8} (h : BysF S w v l) (hc : Chg w w1 T) (hS : ∀ g, S g → ¬ T g) : BysF S w1 v l := ⟨Sho.chgF h.1 h.2 hc hS, h.2⟩
theorem BysF.mono {S T : Nat → Prop} {w : World} {v : Value} {l : List UInt8} (h : BysF S w v l) (hS : ∀ g, S g → T g) : BysF T w v l := ⟨h.1, fun h0 g hg => hS g (h.2 h0 g hg)⟩
theorem BysF.below {S : Nat → Prop} {w w1 : World} {v : Value} {l : List UInt8} (h : BysF S w v l) (hb : Below w.heap.size w w1) : BysF S w1 v l := ⟨h.1.below hb, h.2⟩
theorem OwnB.foot {w : World} {base : Nat} {v : Value} {l : List UInt8} (h : OwnB w base v l) : BysF (fun g => base ≤ g ∧ g < w.heap.size) w v l := ⟨h.bys, fun _ g hg => World.ownsRow.lt h g hg⟩
def SgF (S : Nat → Prop) (w : World) (v : Value) (s : SgD) : Prop := ∃ r p q, v = .agg #[.int .i64 s.ck.num, r, .int .i64 s.sig.index, p, q] ∧ BysF S w r s.ck.root ∧ RwsF S w p s.sig.parts ∧ RwsF S w q s.sig.path
theorem SgF.sgv {S : Nat → Prop} {w : World} {v : Value} {s : SgD} (h : SgF S w v s) : SgV w v s := by
 obtain ⟨r, p, q, e, h0, h1, h2⟩ := h
 exact ⟨r, p, q, e, h0.1, h1.rws, h2.rws⟩
theorem under_signed : Tryz.prog.underlying 40 = some (.struct (Tryz.prog.fieldsOf 40)) := by kernel_rfl
theorem size_signed : (Tryz.prog.info? 40).map (·.size) = some 5 := by kernel_rfl
def RetSg (w : World) (s : SgD) (e : Ending) (w' : World) : Prop := ∃ v, e = .returned v ∧ SgF (Fresh w w') w' v s ∧ Below w.heap.size w w'
set_option maxRecDepth 100000 in
set_option maxHeartbeats 4000000 in
theorem ckcopy_any (v : Value) (s : SgD) (hr : s.ck.root.length ≤ 100000000) (hs : SmallSig s.sig) (w : World) (hv : SgV w v s) :
  Calls Tryz.prog 28 #[v] w (RetSg w s) := by
 obtain ⟨r, p, q, rfl, h0, h1, h2⟩ := hv
 obtain ⟨R, cr, rfl⟩ := h0.form
 obtain ⟨P, cp, rfl⟩ := h1.form
 obtain ⟨Q, cq, rfl⟩ := h2.form
 have HC1 := Lib.hid (fun wz hz => clone_any (.slice R s.ck.root.length cr) s.ck.root (by omega) wz hz)
 have HC2 := Lib.hid (fun wz v hz => sigcopy_any v s.sig hs wz hz)
 have HX := Lib.hid (And.intro h0 (And.intro h1 h2))
 clear h0 h1 h2 hs hr
 obtain ⟨⟨num, root⟩, ⟨ix, Ps, Qs⟩⟩ := s
 obtain ⟨k0, k1, kb⟩ := two_of (w := w) [.int .i64 num, .slice R root.length cr, .int .i64 ix, .slice P Ps.length cp, .slice Q Qs.length cq] [.int .i64 0, .slice none 0 0, .int .i64 0, .slice none 0 0, .slice none 0 0] 40 40
 have HW := Lib.hid (And.intro k0 (And.intro k1 kb))
 clear k0 k1 kb
 go_enter Tryz.func28, Tryz.ntmps28
 go_wp2
 refine code_at (fun w1 => Blk w1 w.heap.size 40 [.int .i64 num, .slice R root.length cr, .int .i64 ix, .slice P Ps.length cp, .slice Q Qs.length cq] ∧ Blk w1 (w.heap.size + 1) 40 [.int .i64 0, .slice none 0 0, .int .i64 0, .slice none 0 0, .slice none 0 0] ∧ Below w.heap.size w w1) HW.out ?_
 rintro w1 ⟨k0, k1, kb⟩
 have H1 := Lib.hid (And.intro k0 (And.intro k1 kb))
 have c0 := k0.cell 0 _ rfl
 have c1 := k0.cell 1 _ rfl
 have c2 := k0.cell 2 _ rfl
 have c3 := k0.cell 3 _ rfl
 have c4 := k0.cell 4 _ rfl
 have hsz1 := k1.lt
 clear k0 k1 kb HW
 refine wp_region_held_drew (S := fun w' => w'.cell? ⟨w.heap.size, 0, none⟩ = some (.int .i64 num) ∧ w'.cell? ⟨w.heap.size, 1, none⟩ = some (.slice R root.length cr) ∧ w'.cell? ⟨w.heap.size, 2, none⟩ = some (.int .i64 ix) ∧ w'.cell? ⟨w.heap.size, 3, none⟩ = some (.slice P Ps.length cp) ∧ w'.cell? ⟨w.heap.size, 4, none⟩ = some (.slice Q Qs.length cq)) (by kernel_rfl) ?_ (fun hHeld => ?_)
 ·exact ⟨c0, c1, c2, c3, c4⟩
 refine ty 0 3 rfl rfl ?_; simp only [sa, sb, sc]
 refine ty 1 4 rfl rfl ?_; simp only [sa, sb, sc]
 refine ty 2 5 rfl rfl ?_; simp only [sa, sb, sc]
 refine ty 3 6 rfl rfl ?_; simp only [sa, sb, sc]
 refine ty 4 7 rfl rfl ?_; simp only [sa, sb, sc]
 refine ty 5 8 rfl rfl ?_; simp only [sa, sb, sc]
 refine ty 8 11 rfl rfl ?_; simp only [sa, sb, sc]
 refine ty 9 12 rfl rfl ?_; simp only [sa, sb, sc]
 refine rd 6 (by kernel_rfl) rfl (fun K hK => ?_)
 go_simp
 go_at_call 49
 refine (HC1.out w1.drew (HX.out.1.below H1.out.2.2.drew)).mono ?_
 rintro e w2 ⟨v2, rfl, h2, h3⟩
 obtain ⟨A2, n2, rfl⟩ := h2.form
 have hb2 : Below w1.heap.size w1 w2 := ⟨h3.os, h3.tape, h3.output, h3.size, h3.block⟩
 have k0 := H1.out.1.below hb2
 have e0 := k0.cell 0 _ rfl
 have e1 := k0.cell 1 _ rfl
 have e2 := k0.cell 2 _ rfl
 have e3 := k0.cell 3 _ rfl
 have e4 := k0.cell 4 _ rfl
 have H2 := Lib.hid (And.intro (show BysF (fun g => w1.heap.size ≤ g ∧ g < w2.heap.size) w2 _ root from h2.foot) (And.intro hb2 (And.intro k0 (H1.out.2.1.below hb2))))
 clear h2 h3 hb2 k0
 go_wp2_with fail
 refine hK.out _ _ ⟨e0, e1, e2, e3, e4⟩ (fun hHeld6 => ?_)
 clear hK K; try simp only [Act.put, sa, sb, sc]
 refine ty 7 10 rfl rfl ?_; simp only [sa, sb, sc]
 refine rd 10 (by kernel_rfl) rfl (fun K hK => ?_)
 go_simp
 go_at_call 55
 refine (HC2.out w2 _ ⟨_, _, rfl, HX.out.2.1.below (H1.out.2.2.trans (H2.out.2.1.mono H1.out.2.2.size)), HX.out.2.2.below (H1.out.2.2.trans (H2.out.2.1.mono H1.out.2.2.size))⟩).mono ?_
 rintro e w3 ⟨v3, rfl, ⟨p3, q3, rfl, h4, h6⟩, h5⟩
 obtain ⟨A3, n3, rfl⟩ := h4.rws.form
 obtain ⟨A4, n4, rfl⟩ := h6.rws.form
 have k0 := H2.out.2.2.1.below h5
 have k1 := H2.out.2.2.2.below h5
 have i0 := k0.cell 0 _ rfl
 have i1 := k0.cell 1 _ rfl
 have i2 := k0.cell 2 _ rfl
 have i3 := k0.cell 3 _ rfl
 have i4 := k0.cell 4 _ rfl
 have j0 := k1.cell 0 _ rfl
 have j1 := k1.cell 1 _ rfl
 have j2 := k1.cell 2 _ rfl
 have j3 := k1.cell 3 _ rfl
 have j4 := k1.cell 4 _ rfl
 have g0 := k1.free 0
 have g1 := k1.free 1
 have g2 := k1.free 2
 have g3 := k1.free 3
 have g4 := k1.free 4
 have H3 := Lib.hid (And.intro h4 (And.intro h6 (And.intro (H2.out.1.below h5) (And.intro k1 (And.intro (H1.out.2.2.trans ((H2.out.2.1.trans (h5.mono H2.out.2.1.size)).mono H1.out.2.2.size)) (And.intro H2.out.2.1.size h5.size))))))
 clear h4 h5 h6 k0 k1 e0 e1 e2 e3 e4
 go_wp2_with fail
 refine hK.out _ _ ⟨i0, i1, i2, i3, i4⟩ (fun hHeld10 => ?_)
 clear hK K; try simp only [Act.put, sa, sb, sc]
 refine ty 11 14 rfl rfl ?_; simp only [sa, sb, sc]
 refine rd 12 (by kernel_rfl) rfl (fun K hK => ?_)
 go_simp
 have hq : True := trivial
 refine hK.out _ _ ⟨by go_keep, by go_keep, by go_keep, by go_keep, by go_keep⟩ (fun hHeld12 => ?_)
 clear hK K; try simp only [Act.put, sa, sb, sc]
 refine wpAnyH_done (by kernel_rfl) ?_ _
 have hch : Chg w3 (((((w3.setCell ⟨w.heap.size + 1, 0, none⟩ (.int .i64 num)).setCell ⟨w.heap.size + 1, 1, none⟩ (.slice A2 root.length n2)).setCell ⟨w.heap.size + 1, 2, none⟩ (.int .i64 ix)).setCell ⟨w.heap.size + 1, 3, none⟩ (.slice A3 Ps.length n3)).setCell ⟨w.heap.size + 1, 4, none⟩ (.slice A4 Qs.length n4)) (fun k => k = w.heap.size + 1) := chg_cell (chg_cell (chg_cell (chg_cell (chg_cell (Chg.refl w3 _) 0 _) 1 _) 2 _) 3 _) 4 _
 have hfin : Blk (((((w3.setCell ⟨w.heap.size + 1, 0, none⟩ (.int .i64 num)).setCell ⟨w.heap.size + 1, 1, none⟩ (.slice A2 root.length n2)).setCell ⟨w.heap.size + 1, 2, none⟩ (.int .i64 ix)).setCell ⟨w.heap.size + 1, 3, none⟩ (.slice A3 Ps.length n3)).setCell ⟨w.heap.size + 1, 4, none⟩ (.slice A4 Qs.length n4)) (w.heap.size + 1) 40 [.int .i64 num, .slice A2 root.length n2, .int .i64 ix, .slice A3 Ps.length n3, .slice A4 Qs.length n4] := ((((H3.out.2.2.2.1.set 0 _ (by simp)).set 1 _ (by simp)).set 2 _ (by simp)).set 3 _ (by simp)).set 4 _ (by simp)
 generalize ((((w3.setCell ⟨w.heap.size + 1, 0, none⟩ (.int .i64 num)).setCell ⟨w.heap.size + 1, 1, none⟩ (.slice A2 root.length n2)).setCell ⟨w.heap.size + 1, 2, none⟩ (.int .i64 ix)).setCell ⟨w.heap.size + 1, 3, none⟩ (.slice A3 Ps.length n3)).setCell ⟨w.heap.size + 1, 4, none⟩ (.slice A4 Qs.length n4) = w4 at *
 have HF := Lib.hid (And.intro hch hfin)
 clear hch hfin j0 j1 j2 j3 j4 g0 g1 g2 g3 g4 i0 i1 i2 i3 i4 c0 c1 c2 c3 c4
 go_wp2
 obtain ⟨h4, h6, h5, h5', h7, h8, h9⟩ := H3.out
 refine bodyPost_ret (v := .agg [.int .i64 num, .slice A2 root.length n2, .int .i64 ix, .slice A3 Ps.length n3, .slice A4 Qs.length n4].toArray) ?_ ?_ ⟨_, rfl, ⟨_, _, _, rfl, ?_, ?_, ?_⟩, ?_⟩
 ·exact results_cell_row Tryz.results28 _ _ (w.heap.size + 1) 40 _ (0, 0) _ rfl HF.out.2 under_signed rfl size_signed
 ·rfl
 ·exact (h5.chg HF.out.1 (fun g hg e => by omega)).mono (fun g hg => ⟨by omega, by have := HF.out.1.size; omega⟩)
 ·exact (h4.chg HF.out.1 (fun g hg e => by have := hg.1; omega)).mono (fun g hg => ⟨by have := hg.1; omega, by have := hg.2; have := HF.out.1.size; omega⟩)
 ·exact (h6.chg HF.out.1 (fun g hg e => by have := hg.1; omega)).mono (fun g hg => ⟨by have := hg.1; omega, by have := hg.2; have := HF.out.1.size; omega⟩)
 ·exact h7.trans (HF.out.1.below h7.size (fun k hk => by omega))
structure CgD where
 wit : Int
 sig : SigD
def CgV (w : World) (v : Value) (s : CgD) : Prop := ∃ p q, v = .agg #[.int .i64 s.wit, .int .i64 s.sig.index, p, q] ∧ Rws w p s.sig.parts ∧ Rws w q s.sig.path
def CgF (S : Nat → Prop) (w : World) (v : Value) (s : CgD) : Prop := ∃ p q, v = .agg #[.int .i64 s.wit, .int .i64 s.sig.index, p, q] ∧ RwsF S w p s.sig.parts ∧ RwsF S w q s.sig.path
theorem CgF.cgv {S : Nat → Prop} {w : World} {v : Value} {s : CgD} (h : CgF S w v s) : CgV w v s := by
 obtain ⟨p, q, e, h1, h2⟩ := h
 exact ⟨p, q, e, h1.rws, h2.rws⟩
theorem under_cosig : Tryz.prog.underlying 47 = some (.struct (Tryz.prog.fieldsOf 47)) := by kernel_rfl
theorem size_cosig : (Tryz.prog.info? 47).map (·.size) = some 4 := by kernel_rfl
def RetCg (w : World) (s : CgD) (e : Ending) (w' : World) : Prop := ∃ v, e = .returned v ∧ CgF (Fresh w w') w' v s ∧ Below w.heap.size w w'
set_option maxRecDepth 100000 in
set_option maxHeartbeats 4000000 in
theorem cgcopy_any (v : Value) (s : CgD) (hs : SmallSig s.sig) (w : World) (hv : CgV w v s) :
  Calls Tryz.prog 33 #[v] w (RetCg w s) := by
 obtain ⟨p, q, rfl, h1, h2⟩ := hv
 obtain ⟨P, cp, rfl⟩ := h1.form
 obtain ⟨Q, cq, rfl⟩ := h2.form
 have HC2 := Lib.hid (fun wz v hz => sigcopy_any v s.sig hs wz hz)
 have HX := Lib.hid (And.intro h1 h2)
 clear h1 h2 hs
 obtain ⟨wit, ⟨ix, Ps, Qs⟩⟩ := s
 obtain ⟨k0, k1, kb⟩ := two_of (w := w) [.int .i64 wit, .int .i64 ix, .slice P Ps.length cp, .slice Q Qs.length cq] [.int .i64 0, .int .i64 0, .slice none 0 0, .slice none 0 0] 47 47
 have HW := Lib.hid (And.intro k0 (And.intro k1 kb))
 clear k0 k1 kb
 go_enter Tryz.func33, Tryz.ntmps33
 go_wp2
 refine code_at (fun w1 => Blk w1 w.heap.size 47 [.int .i64 wit, .int .i64 ix, .slice P Ps.length cp, .slice Q Qs.length cq] ∧ Blk w1 (w.heap.size + 1) 47 [.int .i64 0, .int .i64 0, .slice none 0 0, .slice none 0 0] ∧ Below w.heap.size w w1) HW.out ?_
 rintro w1 ⟨k0, k1, kb⟩
 have H1 := Lib.hid (And.intro k0 (And.intro k1 kb))
 have c0 := k0.cell 0 _ rfl
 have c1 := k0.cell 1 _ rfl
 have c2 := k0.cell 2 _ rfl
 have c3 := k0.cell 3 _ rfl
 have hsz1 := k1.lt
 clear k0 k1 kb HW
 refine wp_region_held_drew (S := fun w' => w'.cell? ⟨w.heap.size, 0, none⟩ = some (.int .i64 wit) ∧ w'.cell? ⟨w.heap.size, 1, none⟩ = some (.int .i64 ix) ∧ w'.cell? ⟨w.heap.size, 2, none⟩ = some (.slice P Ps.length cp) ∧ w'.cell? ⟨w.heap.size, 3, none⟩ = some (.slice Q Qs.length cq)) (by kernel_rfl) ?_ (fun hHeld => ?_)
 ·exact ⟨c0, c1, c2, c3⟩
 refine ty 0 3 rfl rfl ?_; simp only [sa, sb, sc]
 refine ty 1 4 rfl rfl ?_; simp only [sa, sb, sc]
 refine ty 2 5 rfl rfl ?_; simp only [sa, sb, sc]
 refine ty 3 6 rfl rfl ?_; simp only [sa, sb, sc]
 refine rd 4 (by kernel_rfl) rfl (fun K hK => ?_)
 go_simp
 go_at_call 55
 refine (HC2.out w1.drew _ ⟨_, _, rfl, HX.out.1.below H1.out.2.2.drew, HX.out.2.below H1.out.2.2.drew⟩).mono ?_
 rintro e w3 ⟨v3, rfl, ⟨p3, q3, rfl, h4, h6⟩, h5'⟩
 obtain ⟨A3, n3, rfl⟩ := h4.rws.form
 obtain ⟨A4, n4, rfl⟩ := h6.rws.form
 have h5 : Below w1.heap.size w1 w3 := ⟨h5'.os, h5'.tape, h5'.output, h5'.size, h5'.block⟩
 have k0 := H1.out.1.below h5
 have k1 := H1.out.2.1.below h5
 have i0 := k0.cell 0 _ rfl
 have i1 := k0.cell 1 _ rfl
 have i2 := k0.cell 2 _ rfl
 have i3 := k0.cell 3 _ rfl
 have j0 := k1.cell 0 _ rfl
 have j1 := k1.cell 1 _ rfl
 have j2 := k1.cell 2 _ rfl
 have j3 := k1.cell 3 _ rfl
 have g0 := k1.free 0
 have g1 := k1.free 1
 have g2 := k1.free 2
 have g3 := k1.free 3
 have H3 := Lib.hid (And.intro (show RwsF (fun g => w1.heap.size ≤ g ∧ g < w3.heap.size) w3 _ Ps from h4) (And.intro (show RwsF (fun g => w1.heap.size ≤ g ∧ g < w3.heap.size) w3 _ Qs from h6) (And.intro k1 (And.intro (H1.out.2.2.trans (h5.mono H1.out.2.2.size)) h5.size))))
 clear h4 h5 h5' h6 k0 k1
 go_wp2_with fail
 refine hK.out _ _ ⟨i0, i1, i2, i3⟩ (fun hHeld4 => ?_)
 clear hK K; try simp only [Act.put, sa, sb, sc]
 refine ty 5 8 rfl rfl ?_; simp only [sa, sb, sc]
 refine rd 6 (by kernel_rfl) rfl (fun K hK => ?_)
 go_simp
 have hq : True := trivial
 refine hK.out _ _ ⟨by go_keep, by go_keep, by go_keep, by go_keep⟩ (fun hHeld6 => ?_)
 clear hK K; try simp only [Act.put, sa, sb, sc]
 refine wpAnyH_done (by kernel_rfl) ?_ _
 have hch : Chg w3 ((((w3.setCell ⟨w.heap.size + 1, 0, none⟩ (.int .i64 wit)).setCell ⟨w.heap.size + 1, 1, none⟩ (.int .i64 ix)).setCell ⟨w.heap.size + 1, 2, none⟩ (.slice A3 Ps.length n3)).setCell ⟨w.heap.size + 1, 3, none⟩ (.slice A4 Qs.length n4)) (fun k => k = w.heap.size + 1) := chg_cell (chg_cell (chg_cell (chg_cell (Chg.refl w3 _) 0 _) 1 _) 2 _) 3 _
 have hfin : Blk ((((w3.setCell ⟨w.heap.size + 1, 0, none⟩ (.int .i64 wit)).setCell ⟨w.heap.size + 1, 1, none⟩ (.int .i64 ix)).setCell ⟨w.heap.size + 1, 2, none⟩ (.slice A3 Ps.length n3)).setCell ⟨w.heap.size + 1, 3, none⟩ (.slice A4 Qs.length n4)) (w.heap.size + 1) 47 [.int .i64 wit, .int .i64 ix, .slice A3 Ps.length n3, .slice A4 Qs.length n4] := (((H3.out.2.2.1.set 0 _ (by simp)).set 1 _ (by simp)).set 2 _ (by simp)).set 3 _ (by simp)
 generalize (((w3.setCell ⟨w.heap.size + 1, 0, none⟩ (.int .i64 wit)).setCell ⟨w.heap.size + 1, 1, none⟩ (.int .i64 ix)).setCell ⟨w.heap.size + 1, 2, none⟩ (.slice A3 Ps.length n3)).setCell ⟨w.heap.size + 1, 3, none⟩ (.slice A4 Qs.length n4) = w4 at *
 have HF := Lib.hid (And.intro hch hfin)
 clear hch hfin j0 j1 j2 j3 g0 g1 g2 g3 i0 i1 i2 i3 c0 c1 c2 c3
 go_wp2
 obtain ⟨h4, h6, h5', h7, h8⟩ := H3.out
 refine bodyPost_ret (v := .agg [.int .i64 wit, .int .i64 ix, .slice A3 Ps.length n3, .slice A4 Qs.length n4].toArray) ?_ ?_ ⟨_, rfl, ⟨_, _, rfl, ?_, ?_⟩, ?_⟩
 ·exact results_cell_row Tryz.results33 _ _ (w.heap.size + 1) 47 _ (0, 0) _ rfl HF.out.2 under_cosig rfl size_cosig
 ·rfl
 ·exact (h4.chg HF.out.1 (fun g hg e => by omega)).mono (fun g hg => ⟨by omega, by have := HF.out.1.size; omega⟩)
 ·exact (h6.chg HF.out.1 (fun g hg e => by omega)).mono (fun g hg => ⟨by omega, by have := HF.out.1.size; omega⟩)
 ·exact h7.trans (HF.out.1.below h7.size (fun k hk => by omega))
structure PolD where
 log : List UInt8
 wits : List (List UInt8)
 quorum : Int
def PolV (w : World) (v : Value) (p : PolD) : Prop := ∃ l ws, v = .agg #[l, ws, .int .i64 p.quorum] ∧ Bys w l p.log ∧ Rws w ws p.wits
def PolF (S : Nat → Prop) (w : World) (v : Value) (p : PolD) : Prop := ∃ l ws, v = .agg #[l, ws, .int .i64 p.quorum] ∧ BysF S w l p.log ∧ RwsF S w ws p.wits
theorem PolF.polv {S : Nat → Prop} {w : World} {v : Value} {p : PolD} (h : PolF S w v p) : PolV w v p := by
 obtain ⟨l, ws, e, h1, h2⟩ := h
 exact ⟨l, ws, e, h1.1, h2.rws⟩
def anyB (ls : List (List UInt8)) (x : List UInt8) : Bool := ls.any (fun b => b == x)
def witsN (ls : List (List UInt8)) : Nat → Bool
 | 0 => true
 | k + 1 => witsN ls k && (len32 (ls.getD k []) && !(anyB (ls.take k) (ls.getD k [])))
theorem witsN_mono (ls : List (List UInt8)) (k : Nat) (h : witsN ls k = false) : ∀ j, k ≤ j → witsN ls j = false := by
  intro j hj
  induction j with
  | zero => obtain rfl : k = 0 := by omega
            exact h
  | succ j ih =>
    by_cases e : k = j + 1
    · subst e; exact h
    · show (witsN ls j && _) = false
      rw [ih (by omega), Bool.false_and]
def polB (p : PolD) : Bool := (decide (p.log.length = 32) && decide (1 ≤ p.wits.length) && decide (p.wits.length ≤ 4) && decide (1 ≤ p.quorum) && decide (p.quorum ≤ (p.wits.length : Int))) && witsN p.wits p.wits.length

theorem right1_any (x u : Value) (a b : List UInt8) (B : Nat) (w : World) (hx : Bys w x a) (hu : Bys w u b) (hB : w.cell? ⟨B, 0, none⟩ = some u) :
  Calls Tryz.prog 46 #[x, .pointer (some ⟨B, 0, none⟩)] w fun e w' => e = .returned (.bool (a == b)) ∧ w = w' := by
 have H := Lib.hid (same_bytes x u a b w hx hu)
 obtain ⟨A, c, rfl⟩ := hx.form
 obtain ⟨A', c', rfl⟩ := hu.form
 clear hx hu
 go_enter Tryz.func46, Tryz.ntmps46
 go_wp2_with fail
 refine H.out.mono ?_
 rintro e w' ⟨rfl, rfl⟩
 go_wp2
 go_ret
 exact ⟨rfl, rfl⟩
theorem anyB_at {ls : List (List UInt8)} {x : List UInt8} (k : Nat) (h : k < ls.length) (e : ls[k] = x) : anyB ls x = true := by
 unfold anyB
 rw [List.any_eq_true]
 exact ⟨_, List.getElem_mem h, by simp [e]⟩
theorem anyB_no {ls : List (List UInt8)} {x : List UInt8} (h : ∀ i (h : i < ls.length), ls[i] ≠ x) : anyB ls x = false := by
 unfold anyB
 rw [List.any_eq_false]
 intro y hy
 obtain ⟨i, hi, rfl⟩ := List.getElem_of_mem hy
 simpa using h i hi
set_option maxRecDepth 100000 in
set_option maxHeartbeats 2000000 in
theorem indexr_any (v u : Value) (ls : List (List UInt8)) (b : List UInt8) (B : Nat) (hsm : ls.length ≤ 1000000000) (w : World) (hx : Rws w v ls) (hu : Bys w u b) (hB : w.cell? ⟨B, 0, none⟩ = some u) :
  Calls Tryz.prog 73 #[v, .func (.func 46) #[] #[.pointer (some ⟨B, 0, none⟩)]] w fun e w' => ∃ r : Int, e = .returned (.int .i64 r) ∧ decide (0 ≤ r) = anyB ls b ∧ Below w.heap.size w w' := by
 obtain ⟨A, c, rfl⟩ := hx.form
 have HX := Lib.hid (And.intro hx (And.intro hu hB))
 have hBlt : B < w.heap.size := World.block_lt_of_cell? w _ hB
 clear hx hu hB
 go_enter Tryz.func73, Tryz.ntmps73
 go_wp2
 go_loopw [8] (fun v8 wr => ∃ k : Nat, v8 = .int .i64 k ∧ k ≤ ls.length ∧ Hid (Below w.heap.size w wr ∧ ∀ j (h : j < ls.length), j < k → ls[j] ≠ b)) (fun v _ => ls.length - (intOf v).toNat)
 case atStart => exact ⟨0, rfl, Nat.zero_le _, Lib.hid ⟨Below.refl _ _, fun j h hj => by omega⟩⟩
 case round =>
  obtain ⟨k, rfl, hk, HI⟩ := hrel
  by_cases hlt : k < ls.length
  ·obtain ⟨g, o, un, rfl, hg, -, -, hcu, hbu⟩ := HX.out.1.at' k hlt
   have p0 := (HI.out.1.cell (p := ⟨g, o + k, none⟩) hg).trans hcu
   have HC := Lib.hid (right1_any un u ls[k] b B wr (hbu.below HI.out.1) (HX.out.2.1.below HI.out.1) ((HI.out.1.cell (p := ⟨B, 0, none⟩) hBlt).trans HX.out.2.2))
   obtain ⟨A9, c9, rfl⟩ := hbu.form
   clear hcu hbu
   by_cases h32 : ls[k] = b
   ·have hnl : (ls[k] == b) = true := by simp [h32]
    have HF : Hid (anyB ls b = true) := Lib.hid (anyB_at k hlt h32)
    rw [hnl] at HC
    clear h32 hnl
    go_wp2_with (go_at_call 46; refine HC.out.mono ?_; rintro e w' ⟨rfl, rfl⟩)
    go_ret
    exact ⟨_, rfl, by rw [HF.out]; simp, HI.out.1⟩
   ·have hnl : (ls[k] == b) = false := by simp [h32]
    have H32 := Lib.hid h32
    rw [hnl] at HC
    clear h32 hnl
    go_wp2_with (go_at_call 46; refine HC.out.mono ?_; rintro e w' ⟨rfl, rfl⟩)
    go_roundw
    case rel => exact ⟨k + 1, by go_num, by omega, Lib.hid ⟨HI.out.1, fun j h hj => by
     by_cases e : j = k
     ·subst e; exact H32.out
     ·exact HI.out.2 j h (by omega)⟩⟩
    case measure => simp [intOf]; omega
  ·have HA : Hid (anyB ls b = false) := Lib.hid (anyB_no (fun j h => HI.out.2 j h (by omega)))
   go_wp2
   go_ret
   exact ⟨_, rfl, by rw [HA.out]; rfl, HI.out.1⟩
theorem containsr_any (v u : Value) (ls : List (List UInt8)) (b : List UInt8) (B : Nat) (hsm : ls.length ≤ 1000000000) (w : World) (hx : Rws w v ls) (hu : Bys w u b) (hB : w.cell? ⟨B, 0, none⟩ = some u) :
  Calls Tryz.prog 48 #[v, .func (.func 46) #[] #[.pointer (some ⟨B, 0, none⟩)]] w fun e w' => e = .returned (.bool (anyB ls b)) ∧ Below w.heap.size w w' := by
 have HI := Lib.hid (indexr_any v u ls b B hsm w hx hu hB)
 obtain ⟨A, c, rfl⟩ := hx.form
 clear hx hu hB
 go_enter Tryz.func48, Tryz.ntmps48
 go_wp2_with fail
 refine HI.out.mono ?_
 rintro e w1 ⟨r, rfl, h1, h2⟩
 have H1 := Lib.hid (And.intro h1 h2)
 clear h1 h2
 go_wp2
 go_ret
 exact ⟨by rw [← H1.out.1]; rfl, H1.out.2⟩
theorem Rws.take {w : World} {A : Option Addr} {n c : Nat} {ls : List (List UInt8)} (h : Rws w (.slice A n c) ls) (k : Nat) (hk : k ≤ ls.length) : Rws w (.slice A k c) (ls.take k) := by
 obtain ⟨us, h1, h2⟩ := h
 have hl := h1.1
 rcases Nat.eq_zero_or_pos ls.length with h0 | h0
 ·obtain rfl : k = 0 := by omega
  exact ⟨[], ⟨by simp, .inl ⟨by simp, A, c, rfl⟩⟩, fun i hi => by simp at hi⟩
 ·obtain ⟨g, o, rfl, rfl, h3, h4, h5, h6⟩ := h1.place h0
  have hp := Sho.piece h1 h0 0 k c (by omega) (by omega) h5
  simp only [Nat.zero_mul, Nat.add_zero, List.drop_zero, Nat.mul_one] at hp
  refine ⟨us.take k, ?_, fun i hi => ?_⟩
  ·rw [List.length_take, Nat.min_eq_left hk]
   exact hp
  ·rw [List.length_take] at hi
   obtain ⟨u, e, hu⟩ := h2 i (by omega)
   refine ⟨u, by rw [List.getElem?_take_of_lt (by omega)]; exact e, ?_⟩
   rw [List.getElem_take]
   exact hu
theorem Rws.room {w : World} {A : Option Addr} {n c : Nat} {ls : List (List UInt8)} (h : Rws w (.slice A n c) ls) (h0 : 0 < ls.length) : ls.length ≤ c ∧ c ≤ maxLen := by
 obtain ⟨us, h1, h2⟩ := h
 obtain ⟨g, o, rfl, rfl, h3, h4, h5, h6⟩ := h1.place h0
 exact ⟨h4, h5⟩
theorem key_any (A : Option Addr) (n c : Nat) (b : Bool) (hb : (((n : Nat) : Int) == 32) = b) (w : World) : Calls Tryz.prog 45 #[.slice A n c] w fun e w' => e = .returned (.bool b) ∧ w = w' := by
 go_enter Tryz.func45, Tryz.ntmps45
 go_wp2
 go_ret
 exact ⟨rfl, rfl⟩
set_option maxRecDepth 100000 in
set_option maxHeartbeats 4000000 in
theorem coright_any (v : Value) (p : PolD) (hl : p.log.length ≤ 1000000000) (hw : p.wits.length ≤ 1000000000) (hq : -1000000000 ≤ p.quorum ∧ p.quorum ≤ 1000000000) (w : World) (hv : PolV w v p) :
  Calls Tryz.prog 21 #[v] w fun e w' => e = .returned (.bool (polB p)) ∧ Below w.heap.size w w' := by
 obtain ⟨l, ws, rfl, h1, h2⟩ := hv
 obtain ⟨L, cl, rfl⟩ := h1.form
 obtain ⟨R, cr, rfl⟩ := h2.form
 have HPB : Hid (polB p = ((decide (p.log.length = 32) && decide (1 ≤ p.wits.length) && decide (p.wits.length ≤ 4) && decide (1 ≤ p.quorum) && decide (p.quorum ≤ (p.wits.length : Int))) && witsN p.wits p.wits.length)) := Lib.hid rfl
 have HX := Lib.hid (And.intro h1 h2)
 clear h1 h2
 generalize polB p = PB at *
 obtain ⟨log, wits, q⟩ := p
 obtain ⟨hq0, hq1⟩ := hq
 have hk0 := Blk.new w 29 [.slice L log.length cl, .slice R wits.length cr, .int .i64 q]
 have hb0 : Below w.heap.size w (w.alloc (.cells #[.slice L log.length cl, .slice R wits.length cr, .int .i64 q] 29)) := (Below.refl w.heap.size w).alloc (Nat.le_refl _) _
 have HW := Lib.hid (And.intro hk0 hb0)
 clear hk0 hb0
 go_enter Tryz.func21, Tryz.ntmps21
 by_cases k1 : log.length = 32
 ·have n1 : (((log.length : Nat) : Int) == 32) = true := by simp [k1]
  have K1 := Lib.hid k1
  clear k1
  by_cases k2 : 1 ≤ wits.length
  ·by_cases k3 : wits.length ≤ 4
   ·by_cases k4 : 1 ≤ q
    ·by_cases k5 : q ≤ (wits.length : Int)
     ·have HP2 : Hid (PB = witsN wits wits.length) := Lib.hid (by rw [HPB.out]; simp [K1.out, k2, k3, k4, k5])
      clear HPB
      go_wp2
      refine code_at (fun w1 => Blk w1 w.heap.size 29 [.slice L log.length cl, .slice R wits.length cr, .int .i64 q] ∧ Below w.heap.size w w1) HW.out ?_
      intro w1 hw1
      have H1 := Lib.hid hw1
      have hsz1 := hw1.1.lt
      have q1 := hw1.1.cell 1 _ rfl
      clear hw1 HW
      go_wp2
      go_loopw [36] (fun v36 wr => ∃ k : Nat, v36 = .int .i64 k ∧ k ≤ wits.length ∧ Hid (Below w1.heap.size w1 wr ∧ witsN wits k = true)) (fun v _ => wits.length - (intOf v).toNat)
      case atStart => exact ⟨0, rfl, Nat.zero_le _, Lib.hid ⟨Below.refl _ _, rfl⟩⟩
      case round =>
       obtain ⟨k, rfl, hk, HI⟩ := hrel
       clear q1
       by_cases hlt : k < wits.length
       ·have HRW := Lib.hid (HX.out.2.below H1.out.2)
        obtain ⟨g, o, u, rfl, hg, -, -, hcu, hbu⟩ := HRW.out.at' k hlt
        obtain ⟨hroom, hroom2⟩ := HRW.out.room (by omega)
        have p0 := (HI.out.1.cell (p := ⟨g, o + k, none⟩) hg).trans hcu
        have r1 := ((H1.out.1.below HI.out.1)).cell 1 _ rfl
        have hbw : w.heap.size < wr.heap.size := (H1.out.1.below HI.out.1).lt
        have hbn := hbu.below HI.out.1
        obtain ⟨A9, c9, rfl⟩ := hbn.form
        have HWS : Hid (witsN wits (k + 1) = (witsN wits k && (len32 wits[k] && !(anyB (wits.take k) wits[k])))) := Lib.hid (by
         show (witsN wits k && (len32 (wits.getD k []) && !(anyB (wits.take k) (wits.getD k [])))) = _
         rw [List.getD_eq_getElem?_getD, List.getElem?_eq_getElem hlt]; rfl)
        have HB := Lib.hid (And.intro hbn (HRW.out.below HI.out.1))
        have hszr := HI.out.1.size
        unfold maxLen at hroom2
        clear hcu hbu hbn
        by_cases h32 : wits[k].length = 32
        ·have nk : (((wits[k].length : Nat) : Int) == 32) = true := by simp [h32]
         have H32 : Hid (len32 wits[k] = true) := Lib.hid (by simp [len32, h32])
         clear h32
         have hal := (Below.refl wr.heap.size wr).alloc (Nat.le_refl _) (.cells #[.slice A9 wits[k].length c9] 26)
         have hkB := Blk.new wr 26 [.slice A9 wits[k].length c9]
         have HC := Lib.hid (containsr_any _ _ (wits.take k) wits[k] wr.heap.size (by rw [List.length_take]; omega) _ ((HB.out.2.take k hk).below hal) (HB.out.1.below hal) (hkB.cell 0 _ rfl))
         have HAL := Lib.hid (HI.out.1.trans (hal.mono hszr))
         have hsa := hal.size
         clear hal hkB
         generalize wits[k] = X at *
         generalize anyB (wits.take k) X = AB at *
         cases AB with
         | true =>
          have HF : Hid (PB = false) := Lib.hid (by rw [HP2.out]; exact witsN_mono wits (k + 1) (by rw [HWS.out]; simp) _ (by omega))
          go_wp2_with (first | (go_at_call 45; refine (key_any _ _ _ true nk _).mono ?_; rintro e w' ⟨rfl, rfl⟩) | (go_at_call 48; refine HC.out.mono ?_; rintro e w2 ⟨rfl, h2⟩; have H2 := Lib.hid (HAL.out.trans (h2.mono (Nat.le_trans hszr hsa))); clear h2))
          go_ret
          exact ⟨by rw [HF.out]; rfl, H1.out.2.trans (H2.out.mono H1.out.2.size)⟩
         | false =>
          have HT : Hid (witsN wits (k + 1) = true) := Lib.hid (by rw [HWS.out, HI.out.2, H32.out]; rfl)
          go_wp2_with (first | (go_at_call 45; refine (key_any _ _ _ true nk _).mono ?_; rintro e w' ⟨rfl, rfl⟩) | (go_at_call 48; refine HC.out.mono ?_; rintro e w2 ⟨rfl, h2⟩; have H2 := Lib.hid (HAL.out.trans (h2.mono (Nat.le_trans hszr hsa))); clear h2))
          go_roundw
          case rel => exact ⟨k + 1, by go_num, by omega, Lib.hid ⟨H2.out, HT.out⟩⟩
          case measure => simp [intOf]; omega
        ·have nk : (((wits[k].length : Nat) : Int) == 32) = false := by simp; omega
         have HF : Hid (PB = false) := Lib.hid (by rw [HP2.out]; exact witsN_mono wits (k + 1) (by rw [HWS.out]; simp [len32, h32]) _ (by omega))
         have HAL := Lib.hid (HI.out.1.alloc hszr (.cells #[.slice A9 wits[k].length c9] 26))
         clear h32
         go_wp2
         go_ret
         exact ⟨by rw [HF.out]; rfl, H1.out.2.trans (HAL.out.mono H1.out.2.size)⟩
       ·have HT : Hid (PB = true) := Lib.hid (by
         obtain rfl : k = wits.length := by omega
         rw [HP2.out]; exact HI.out.2)
        have hnl : ¬ (k : Int) < (wits.length : Int) := by omega
        clear hlt
        go_wp2
        go_ret
        exact ⟨by rw [HT.out]; rfl, H1.out.2.trans (HI.out.1.mono H1.out.2.size)⟩
     ·have HT : Hid (PB = false) := Lib.hid (by rw [HPB.out]; simp [k5])
      go_wp2
      go_ret
      exact ⟨by rw [HT.out]; rfl, HW.out.2⟩
    ·have HT : Hid (PB = false) := Lib.hid (by rw [HPB.out]; simp [k4])
     go_wp2
     go_ret
     exact ⟨by rw [HT.out]; rfl, HW.out.2⟩
   ·have HT : Hid (PB = false) := Lib.hid (by rw [HPB.out]; simp [k3])
    go_wp2
    go_ret
    exact ⟨by rw [HT.out]; rfl, HW.out.2⟩
  ·have HT : Hid (PB = false) := Lib.hid (by rw [HPB.out]; simp [k2])
   go_wp2
   go_ret
   exact ⟨by rw [HT.out]; rfl, HW.out.2⟩
 ·have n1 : (((log.length : Nat) : Int) == 32) = false := by simp; omega
  have HT : Hid (PB = false) := Lib.hid (by rw [HPB.out]; simp [k1])
  clear k1
  go_wp2
  go_ret
  exact ⟨by rw [HT.out]; rfl, HW.out.2⟩
end Go.Proofs.YtlkgeifmppadmaaGreat

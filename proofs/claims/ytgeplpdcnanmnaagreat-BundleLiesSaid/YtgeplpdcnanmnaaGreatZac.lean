/- The words of the rounds; the reference's turning and mixing. Conditions: as each theorem states them. -/
import Derived.Test.YtgeplpdcnanmnaaGreatZab
import Derived.Great.BuildSlice
namespace Go.Proofs.YtgeplpdcnanmnaaGreat
open Go.RowKit
set_option linter.unusedVariables false
set_option linter.unusedSimpArgs false

def shaK : List Int := [1116352408, 1899447441, 3049323471, 3921009573, 961987163, 1508970993, 2453635748, 2870763221, 3624381080, 310598401, 607225278, 1426881987, 1925078388, 2162078206, 2614888103, 3248222580, 3835390401, 4022224774, 264347078, 604807628, 770255983, 1249150122, 1555081692, 1996064986, 2554220882, 2821834349, 2952996808, 3210313671, 3336571891, 3584528711, 113926993, 338241895, 666307205, 773529912, 1294757372, 1396182291, 1695183700, 1986661051, 2177026350, 2456956037, 2730485921, 2820302411, 3259730800, 3345764771, 3516065817, 3600352804, 4094571909, 275423344, 430227734, 506948616, 659060556, 883997877, 958139571, 1322822218, 1537002063, 1747873779, 1955562222, 2024104815, 2227730452, 2361852424, 2428436474, 2756734187, 3204031479, 3329325298]
theorem shaK_length : shaK.length = 64 := by decide
theorem zero64 : (Tryz.prog.info? 220).bind (·.zero) = some (.agg (u32s (List.replicate 64 0)).toArray) := by kernel_rfl
theorem size_u32 : (Tryz.prog.info? 53).map (·.size) = some 1 := by kernel_rfl
set_option maxRecDepth 100000 in
set_option maxHeartbeats 2000000 in
theorem keys_any (w : World) : Calls Tryz.prog 210 #[] w fun e w' => e = .returned (.agg (u32s shaK).toArray) ∧ Below w.heap.size w w' := by
 have hz : ((Tryz.prog.info? 220).bind (·.zero)).map (·.cells.size) = some shaK.length := by rw [zero64]; rfl
 go_enter Tryz.func210, Tryz.ntmps210
 have HB : Hid (Blk (w.alloc (.cells (u32s (List.replicate 64 0)).toArray 220)) w.heap.size 220 (u32s (List.replicate 64 0))) := Lib.hid (Blk.new w _ _)
 go_wp2_with (first
  | (refine wpList_buildFlatArrTo rfl 220 53 64 _ rfl .u32 shaK (some 1) rfl under_row64 size_u32 hz (by kernel_rfl) ?_)
  | (refine wpList_store_rowTo rfl 220 (.tmp 0) (.tmp 1) rfl rfl w.heap.size (u32s shaK).toArray rfl rfl 220 (u32s (List.replicate 64 0)).toArray HB.out (size_row64 shaK shaK_length) rfl (u32s_one shaK) ?_))
 have hfin := blk_setRow HB.out (u32s shaK)
 refine bodyPost_ret (v := .agg (u32s shaK).toArray) ?_ ?_ ⟨rfl, ?_⟩
 ·exact results_cell_row Tryz.results210 _ _ w.heap.size 220 _ (0, 0) _ rfl hfin under_row64 rfl (size_row64 shaK shaK_length)
 ·rfl
 ·exact ((Below.refl w.heap.size w).alloc (Nat.le_refl _) _).trans ((chg_setRow _ w.heap.size _).below (by simp) (fun k hk => by omega))

theorem turn_any (k : Int) (hk : TurnsZ k) (x : Int) (w : World) : Calls Tryz.prog 198 #[.int .u32 x, .int .u64 k] w fun e w' => e = .returned (.int .u32 (rotr k.toNat x)) ∧ w = w' := by
 rcases hk with rfl | rfl | rfl | rfl | rfl | rfl | rfl | rfl | rfl | rfl
 all_goals
  go_enter Tryz.func198, Tryz.ntmps198
  go_wp2
  go_ret
  exact ⟨by rw [or_comm32]; rfl, rfl⟩
theorem turn_s (k : Int) (hk : TurnsZ k) (x : Int) (w : World) : Calls Tryz.prog 198 #[.int .u32 x, .int .u64 k] w fun e w' => e = .returned (.int .u32 (rotr k.toNat x)) ∧ w' = w :=
 (turn_any k hk x w).mono fun _ _ ⟨h1, h2⟩ => ⟨h1, h2.symm⟩
end Go.Proofs.YtgeplpdcnanmnaaGreat

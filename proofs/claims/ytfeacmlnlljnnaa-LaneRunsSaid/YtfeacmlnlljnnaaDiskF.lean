/- Package disk: what New comes to. -/
import Derived.Test.YtfeacmlnlljnnaaDiskE
namespace Go.Proofs.Ytfeacmlnlljnnaa
open Go Go.Proofs Go.RowKit

theorem info_sec : (Try.prog.info? 124).map (fun i => (i.zero, i.size, i.bytes)) = some (some (.agg (List.replicate 64 (Value.int .u8 0)).toArray), 64, 64) := by kernel_rfl
theorem info_reg : (Try.prog.info? 108).map (fun i => (i.zero, i.size, i.bytes)) = some (some (.agg #[.slice none 0 0, .bool false, .int .i64 0]), 3, 40) := by kernel_rfl

/-- A new disk of object X. -/
def MadeD (c : Col) (w : World) (X : Nat) (D : DiskM) (e : Ending) (w' : World) : Prop := ∃ c' d, e = .returned (.pointer (some ⟨d, 0, none⟩)) ∧ DiskRep c' w' X d D ∧ Ext (Obs []) c w c' w'

theorem new_fin {c : Col} {w : World} {X n size : Nat} (h1 : 1 ≤ n) (h2 : n ≤ 64) (h3 : 1 ≤ size) (h4 : size ≤ 65536) {w' : World} {c' : Col} {bd bg d : Nat} {data : List Value}
    (hd : Blk c' w' bd (X, 1) data) (hdata : data = List.replicate (n * size * 64) (.int .u8 0)) (hg : Blk c' w' bg (X, 2) (rcells n (fun _ => .slice none 0 0) (fun _ => false) (fun _ => 0)))
    (ht : Blk c' w' d (X, 0) [.int .i64 (size : Int), .slice (some ⟨bd, 0, none⟩) (n * size) (n * size), .slice (some ⟨bg, 0, none⟩) n n, .int .i64 0]) (he : Ext (Obs []) c w c' w') :
    MadeD c w X (DiskM.new n size) (.returned (.pointer (some ⟨d, 0, none⟩))) w' := by
  subst hdata
  refine ⟨c', d, rfl, ⟨bd, bg, fun _ => .slice none 0 0, 0, _, ht, hd, ⟨by simp [DiskM.new], fun r s j hr hs hj => ?_⟩, hg, fun r hr => Sl.nil _ _ _ _, DiskM.WF.new n size h1 h2 h3 h4⟩, he⟩
  have hlt : (r * size + s) * 64 + j < n * size * 64 := by
    have g1 := Nat.mul_le_mul_right size (show r + 1 ≤ n from hr)
    rw [Nat.succ_mul] at g1
    have hs' : s < size := hs
    have := Nat.mul_le_mul_right 64 (show r * size + s + 1 ≤ n * size by omega)
    omega
  show (List.replicate (n * size * 64) (Value.int .u8 0))[(r * size + s) * 64 + j]? = some (B ((zeros 64).getD j 0))
  have hz : (zeros 64).getD j 0 = 0 := by
    simp only [zeros, List.getD_eq_getElem?_getD, List.getElem?_replicate]; split <;> rfl
  rw [List.getElem?_replicate, if_pos hlt, hz]
  rfl

theorem reg_cells (n : Nat) : (madeCells (Value.agg #[.slice none 0 0, .bool false, .int .i64 0]).cells (n * 3)).toList = rcells n (fun _ => .slice none 0 0) (fun _ => false) (fun _ => 0) := by
  apply List.ext_getElem?
  intro j
  by_cases hj : j < n * 3
  · have e : j = j / 3 * 3 + j % 3 := by omega
    have hlt : j / 3 < n := by omega
    conv => rhs; rw [e]
    rw [rcells_get _ _ _ _ _ _ hlt (by omega)]
    simp only [madeCells, Value.cells, Array.toList_map, Array.toList_range, List.getElem?_map, List.getElem?_range, hj]
    have : j % 3 = 0 ∨ j % 3 = 1 ∨ j % 3 = 2 := by omega
    rcases this with h | h | h <;> simp [h, hj]
  · rw [List.getElem?_eq_none (by simp [madeCells]; omega), List.getElem?_eq_none (by rw [rcells_len]; omega)]

set_option maxRecDepth 100000 in
set_option maxHeartbeats 2000000 in
theorem new_in (c : Col) (w : World) (X n size : Nat) (h1 : 1 ≤ n) (h2 : n ≤ 64) (h3 : 1 ≤ size) (h4 : size ≤ 65536) :
    Calls Try.prog 11 #[.int .i64 (n : Int), .int .i64 (size : Int)] w (MadeD c w X (DiskM.new n size)) := by
  obtain ⟨is, his, hs1, hs2, hs3⟩ := info_parts info_sec
  obtain ⟨ir, hir, hr1, hr2, hr3⟩ := info_parts info_reg
  have hm : n * size ≤ 4194304 := by
    have : n * size ≤ 64 * 65536 := Nat.mul_le_mul h2 h4
    omega
  have hc : ((n * size : Nat) : Int) = (n : Int) * size := by simp
  have hw1 : IntKind.i64.wrap ((n : Int) * (size : Int)) = ((n * size : Nat) : Int) := by
    rw [← hc]
    exact IntWalk.i64_in _ (by omega)
  clear hc
  obtain ⟨N, hN⟩ : ∃ N, N = n * size := ⟨_, rfl⟩
  rw [← hN] at hm hw1
  have HN := Lib.hid hN
  clear hN
  go_enter Try.func11, Try.ntmps11
  go_upto_region 3 with fail
  refine X_begin [] [4, 6, 8] (fun _ => True) (by kernel_rfl) ?_
  refine X_pure 0 rfl (by kernel_rfl) (by kernel_rfl) (by kernel_rfl) (by kernel_rfl) (fun _ _ _ h => h) rfl (by intro w; go_simp; first | done | with_reducible rfl) ?_
  try simp only [Act.put, List.setIfInBounds_toArray, List.set_cons_zero, List.set_cons_succ]
  refine X_pure 1 rfl (by kernel_rfl) (by kernel_rfl) (by kernel_rfl) (by kernel_rfl) (fun _ _ _ h => h) rfl (by intro w; go_simp; first | done | with_reducible rfl) ?_
  try simp only [Act.put, List.setIfInBounds_toArray, List.set_cons_zero, List.set_cons_succ]
  refine X_pure 2 rfl (by kernel_rfl) (by kernel_rfl) (by kernel_rfl) (by kernel_rfl) (fun _ _ _ h => h) rfl (by intro w; go_simp; first | done | with_reducible rfl) ?_
  try simp only [Act.put, List.setIfInBounds_toArray, List.set_cons_zero, List.set_cons_succ]
  refine X_pure 3 rfl (by kernel_rfl) (by kernel_rfl) (by kernel_rfl) (by kernel_rfl) (fun _ _ _ h => h) rfl (by intro w; go_simp; first | done | with_reducible rfl) ?_
  try simp only [Act.put, List.setIfInBounds_toArray, List.set_cons_zero, List.set_cons_succ]
  refine X_pure 5 rfl (by kernel_rfl) (by kernel_rfl) (by kernel_rfl) (by kernel_rfl) (fun _ _ _ h => h) rfl (by intro w; go_simp; first | done | with_reducible rfl) ?_
  try simp only [Act.put, List.setIfInBounds_toArray, List.set_cons_zero, List.set_cons_succ]
  refine X_op2 4 6 rfl rfl (by kernel_rfl) (by kernel_rfl) (by kernel_rfl) (by kernel_rfl) (by kernel_rfl) ?_ ?_
  · refine make_new rfl 92 (.tmp 22) (.tmp 22) rfl 124 is _ 64 64 Try.underlying92 his hs1 hs2 hs3 N .i64 .i64 rfl rfl (by omega) (by omega) (by omega) ?_
    refine wpList_nil ?_
    have b0 := Blk.newA c w.drew (madeCells (Value.agg (List.replicate 64 (Value.int IntKind.u8 0)).toArray).cells (N * 64)) 124 (X, 1)
    have e0 := (Ext.refl (Obs []) c w).drew.alloc (.cells (madeCells (Value.agg (List.replicate 64 (Value.int IntKind.u8 0)).toArray).cells (N * 64)) 124) (X, 1)
    generalize setc c w.drew.heap.size (X, 1) = c1 at b0 e0
    generalize w.drew.alloc (.cells (madeCells (Value.agg (List.replicate 64 (Value.int IntKind.u8 0)).toArray).cells (N * 64)) 124) = w1 at b0 e0 ⊢
    generalize w.drew.heap.size = bd at b0 ⊢
    try simp only [Act.put, List.setIfInBounds_toArray, List.set_cons_zero, List.set_cons_succ]
    refine X_op 6 rfl (by kernel_rfl) (by kernel_rfl) (by kernel_rfl) ?_
    refine make_new rfl 93 (.tmp 24) (.tmp 24) rfl 108 ir _ 3 40 Try.underlying93 hir hr1 hr2 hr3 n .i64 .i64 rfl rfl (by omega) (by omega) (by omega) ?_
    refine wpList_nil ?_
    have b1 := Blk.newA c1 w1 (madeCells (Value.agg #[Value.slice none 0 0, Value.bool false, Value.int IntKind.i64 0]).cells (n * 3)) 108 (X, 2)
    have b2 := b0.alloc (.cells (madeCells (Value.agg #[Value.slice none 0 0, Value.bool false, Value.int IntKind.i64 0]).cells (n * 3)) 108) (X, 2)
    have e1 := e0.alloc (.cells (madeCells (Value.agg #[Value.slice none 0 0, Value.bool false, Value.int IntKind.i64 0]).cells (n * 3)) 108) (X, 2)
    clear b0 e0
    generalize setc c1 w1.heap.size (X, 2) = c2 at b1 b2 e1
    generalize w1.alloc (.cells (madeCells (Value.agg #[Value.slice none 0 0, Value.bool false, Value.int IntKind.i64 0]).cells (n * 3)) 108) = w2 at b1 b2 e1 ⊢
    generalize w1.heap.size = bg at b1 b2 ⊢
    try simp only [Act.put, List.setIfInBounds_toArray, List.set_cons_zero, List.set_cons_succ]
    refine X_pure 7 rfl (by kernel_rfl) (by kernel_rfl) (by kernel_rfl) (by kernel_rfl) (fun _ _ _ h => h) rfl (by intro w; go_simp; first | done | with_reducible rfl) ?_
    try simp only [Act.put, List.setIfInBounds_toArray, List.set_cons_zero, List.set_cons_succ]
    refine X_op 8 rfl (by kernel_rfl) (by kernel_rfl) (by kernel_rfl) ?_
    go_step
    go_step
    go_step
    refine wpList_nil ?_
    refine X_pure 9 rfl (by kernel_rfl) (by kernel_rfl) (by kernel_rfl) (by kernel_rfl) (fun _ _ _ h => h) rfl (by intro w; go_simp; first | done | with_reducible rfl) ?_
    try simp only [Act.put, List.setIfInBounds_toArray, List.set_cons_zero, List.set_cons_succ]
    refine X_done (by kernel_rfl) ?_ _
    go_wp2_with fail
    go_ret
    have hsd : (madeCells (Value.agg (List.replicate 64 (Value.int IntKind.u8 0)).toArray).cells (N * 64)).toList = List.replicate (n * size * 64) (.int .u8 0) := by
      rw [← HN.out]; exact madeCells_rep _ 64 _ (by omega)
    rw [hsd] at b2
    rw [reg_cells] at b1
    have b3 := Blk.new c2 w2 [.int .i64 (size : Int), .slice (some ⟨bd, 0, none⟩) N N, .slice (some ⟨bg, 0, none⟩) n n, .int .i64 0] 95 (X, 0)
    have d1 := b2.alloc (.cells [Value.int .i64 (size : Int), .slice (some ⟨bd, 0, none⟩) N N, .slice (some ⟨bg, 0, none⟩) n n, .int .i64 0].toArray 95) (X, 0)
    have d2 := b1.alloc (.cells [Value.int .i64 (size : Int), .slice (some ⟨bd, 0, none⟩) N N, .slice (some ⟨bg, 0, none⟩) n n, .int .i64 0].toArray 95) (X, 0)
    refine new_fin h1 h2 h3 h4 d1 rfl d2 ?_ (e1.alloc _ _)
    rw [← HN.out]
    exact b3
  · refine make_new rfl 93 (.tmp 24) (.tmp 24) rfl 108 ir _ 3 40 Try.underlying93 hir hr1 hr2 hr3 n .i64 .i64 rfl rfl (by omega) (by omega) (by omega) ?_
    refine wpList_nil ?_
    have b0 := Blk.newA c w.drew (madeCells (Value.agg #[Value.slice none 0 0, Value.bool false, Value.int IntKind.i64 0]).cells (n * 3)) 108 (X, 2)
    have e0 := (Ext.refl (Obs []) c w).drew.alloc (.cells (madeCells (Value.agg #[Value.slice none 0 0, Value.bool false, Value.int IntKind.i64 0]).cells (n * 3)) 108) (X, 2)
    generalize setc c w.drew.heap.size (X, 2) = c1 at b0 e0
    generalize w.drew.alloc (.cells (madeCells (Value.agg #[Value.slice none 0 0, Value.bool false, Value.int IntKind.i64 0]).cells (n * 3)) 108) = w1 at b0 e0 ⊢
    generalize w.drew.heap.size = bg at b0 ⊢
    try simp only [Act.put, List.setIfInBounds_toArray, List.set_cons_zero, List.set_cons_succ]
    refine X_op 4 rfl (by kernel_rfl) (by kernel_rfl) (by kernel_rfl) ?_
    refine make_new rfl 92 (.tmp 22) (.tmp 22) rfl 124 is _ 64 64 Try.underlying92 his hs1 hs2 hs3 N .i64 .i64 rfl rfl (by omega) (by omega) (by omega) ?_
    refine wpList_nil ?_
    have b1 := Blk.newA c1 w1 (madeCells (Value.agg (List.replicate 64 (Value.int IntKind.u8 0)).toArray).cells (N * 64)) 124 (X, 1)
    have b2 := b0.alloc (.cells (madeCells (Value.agg (List.replicate 64 (Value.int IntKind.u8 0)).toArray).cells (N * 64)) 124) (X, 1)
    have e1 := e0.alloc (.cells (madeCells (Value.agg (List.replicate 64 (Value.int IntKind.u8 0)).toArray).cells (N * 64)) 124) (X, 1)
    clear b0 e0
    generalize setc c1 w1.heap.size (X, 1) = c2 at b1 b2 e1
    generalize w1.alloc (.cells (madeCells (Value.agg (List.replicate 64 (Value.int IntKind.u8 0)).toArray).cells (N * 64)) 124) = w2 at b1 b2 e1 ⊢
    generalize w1.heap.size = bd at b1 b2 ⊢
    try simp only [Act.put, List.setIfInBounds_toArray, List.set_cons_zero, List.set_cons_succ]
    refine X_pure 7 rfl (by kernel_rfl) (by kernel_rfl) (by kernel_rfl) (by kernel_rfl) (fun _ _ _ h => h) rfl (by intro w; go_simp; first | done | with_reducible rfl) ?_
    try simp only [Act.put, List.setIfInBounds_toArray, List.set_cons_zero, List.set_cons_succ]
    refine X_op 8 rfl (by kernel_rfl) (by kernel_rfl) (by kernel_rfl) ?_
    go_step
    go_step
    go_step
    refine wpList_nil ?_
    refine X_pure 9 rfl (by kernel_rfl) (by kernel_rfl) (by kernel_rfl) (by kernel_rfl) (fun _ _ _ h => h) rfl (by intro w; go_simp; first | done | with_reducible rfl) ?_
    try simp only [Act.put, List.setIfInBounds_toArray, List.set_cons_zero, List.set_cons_succ]
    refine X_done (by kernel_rfl) ?_ _
    go_wp2_with fail
    go_ret
    have hsd : (madeCells (Value.agg (List.replicate 64 (Value.int IntKind.u8 0)).toArray).cells (N * 64)).toList = List.replicate (n * size * 64) (.int .u8 0) := by
      rw [← HN.out]; exact madeCells_rep _ 64 _ (by omega)
    rw [hsd] at b1
    rw [reg_cells] at b2
    have b3 := Blk.new c2 w2 [.int .i64 (size : Int), .slice (some ⟨bd, 0, none⟩) N N, .slice (some ⟨bg, 0, none⟩) n n, .int .i64 0] 95 (X, 0)
    have d1 := b1.alloc (.cells [Value.int .i64 (size : Int), .slice (some ⟨bd, 0, none⟩) N N, .slice (some ⟨bg, 0, none⟩) n n, .int .i64 0].toArray 95) (X, 0)
    have d2 := b2.alloc (.cells [Value.int .i64 (size : Int), .slice (some ⟨bd, 0, none⟩) N N, .slice (some ⟨bg, 0, none⟩) n n, .int .i64 0].toArray 95) (X, 0)
    refine new_fin h1 h2 h3 h4 d1 rfl d2 ?_ (e1.alloc _ _)
    rw [← HN.out]
    exact b3
end Go.Proofs.Ytfeacmlnlljnnaa

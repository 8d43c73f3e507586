/- Package lane: a lane as data, where it lies, and what its small functions come to. -/
import Derived.Test.YtfeacmlnlljnnaaRecG
import Derived.Test.YtfeacmlnlljnnaaDiskF
namespace Go.Proofs.Ytfeacmlnlljnnaa
open Go Go.Proofs Go.RowKit

structure LaneM where
  r : Nat
  gen : Nat
  bank : Nat
  b : Bs
  sure : Nat

structure LaneM.WF (L : LaneM) : Prop where
  r : L.r < 64
  gen : L.gen < 4294967296
  bank : L.bank ≤ 1
  b : L.b.length ≤ 14336
  sure : L.sure ≤ L.b.length

/-- A lane at block l, of object Z; its disk at block d. -/
structure LaneAt (c : Col) (w : World) (Z l d : Nat) (L : LaneM) (bv : Value) : Prop where
  top : Blk c w l (Z, 0) [.pointer (some ⟨d, 0, none⟩), .int .i64 (L.r : Int), .int .u64 (L.gen : Int), .int .i64 (L.bank : Int), bv, .int .i64 (L.sure : Int)]
  own : Own c w (Z, 1) bv L.b
  wf : L.WF
def LaneRep (c : Col) (w : World) (Z l d : Nat) (L : LaneM) : Prop := ∃ bv, LaneAt c w Z l d L bv

theorem LaneRep.keep {M : Nat × Nat → Prop} {c c' : Col} {w w' : World} {Z l d : Nat} {L : LaneM} (h : LaneRep c w Z l d L) (g : Ext M c w c' w') (h1 : ∀ q, ¬ M (Z, q)) : LaneRep c' w' Z l d L := by
  obtain ⟨bv, h⟩ := h
  exact ⟨bv, h.top.keep g (h1 _), h.own.keep g (h1 _), h.wf⟩

theorem first_in (w : World) (k : Nat) (hk : k ≤ 1) :
    Calls Try.prog 47 #[.int .i64 (k : Int)] w fun e w' => e = .returned (.int .i64 ((2 + k * 256 : Nat) : Int)) ∧ w = w' := by
  have hw : IntKind.i64.wrap (k * 256 : Int) = ((k * 256 : Nat) : Int) := by rw [IntWalk.i64_in _ ⟨by omega, by omega⟩]; omega
  have hw2 : IntKind.i64.wrap (2 + ((k * 256 : Nat) : Int)) = ((2 + k * 256 : Nat) : Int) := by rw [IntWalk.i64_in _ ⟨by omega, by omega⟩]; omega
  go_enter Try.func47, Try.ntmps47
  go_wp2
  go_ret
  refine ⟨?_, rfl⟩
  congr 2

theorem len_in (c : Col) (w : World) (Z l d : Nat) (L : LaneM) (h : LaneRep c w Z l d L) :
    Calls Try.prog 23 #[.pointer (some ⟨l, 0, none⟩)] w fun e w' => e = .returned (.int .i64 (L.b.length : Int)) ∧ w = w' := by
  obtain ⟨bv, h⟩ := h
  obtain ⟨q, cap, rfl⟩ := h.own.form
  have k4 : w.cell? ⟨l, 4, none⟩ = some (.slice q L.b.length cap) := by rw [h.top.cell]; rfl
  clear h
  go_enter Try.func23, Try.ntmps23
  go_wp2
  go_ret
  exact ⟨rfl, rfl⟩

theorem room_in (c : Col) (w : World) (Z l d : Nat) (L : LaneM) (h : LaneRep c w Z l d L) :
    Calls Try.prog 24 #[.pointer (some ⟨l, 0, none⟩)] w fun e w' => e = .returned (.int .i64 (14336 - (L.b.length : Int))) ∧ w = w' := by
  obtain ⟨bv, h⟩ := h
  obtain ⟨q, cap, rfl⟩ := h.own.form
  have k4 : w.cell? ⟨l, 4, none⟩ = some (.slice q L.b.length cap) := by rw [h.top.cell]; rfl
  have hb := h.wf.b
  have hw : IntKind.i64.wrap (14336 - (L.b.length : Int)) = 14336 - (L.b.length : Int) := IntWalk.i64_in _ ⟨by omega, by omega⟩
  clear h
  go_enter Try.func24, Try.ntmps24
  go_wp2
  go_ret
  exact ⟨rfl, rfl⟩

def placeN (gen at_ : Nat) : Nat := gen * 1048576 + at_ + 1

theorem place_in (c : Col) (w : World) (Z l d : Nat) (L : LaneM) (h : LaneRep c w Z l d L) (n : Nat) (hn : n ≤ 14336) :
    Calls Try.prog 42 #[.pointer (some ⟨l, 0, none⟩), .int .i64 (n : Int)] w fun e w' => e = .returned (.int .u64 (placeN L.gen n : Int)) ∧ w = w' := by
  obtain ⟨bv, h⟩ := h
  have k2 : w.cell? ⟨l, 2, none⟩ = some (.int .u64 (L.gen : Int)) := by rw [h.top.cell]; rfl
  have hg := h.wf.gen
  clear h
  obtain ⟨G, hG⟩ : ∃ G, G = L.gen * 1048576 := ⟨_, rfl⟩
  have hGl : G < 4503599627370496 := by omega
  go_enter Try.func42, Try.ntmps42
  go_wp2
  go_ret
  refine ⟨?_, rfl⟩
  unfold placeN
  congr 2

def strOf (bs : Bs) : ByteArray := ⟨bs.toArray⟩
theorem strOf_list (bs : Bs) : (strOf bs).data.toList = bs := rfl

/-- string(v), v these bytes. -/
theorem str_run {o : Oper} {a : Act} {w : World} (x : Operand) (ho : o.op = .convert 44 9 x)
    (c : Col) (Y : Nat) (v : Value) (hx : a.eval x = v) (bs : Bs) (hv : Rd c w Y v bs) : (execOp a.eval o).run Try.prog w = .ok (.value (.string (strOf bs))) w := by
  obtain ⟨q, cap, rfl, hc⟩ := hv.cells
  have hr : (convert 44 9 (.slice q bs.length cap)).run Try.prog w = .ok (.string (strOf bs)) w := by
    cases q with
    | none =>
      have : bs = [] := by
        cases bs with
        | nil => rfl
        | cons b l => obtain ⟨a', h, _⟩ := hc 0 (B b) (by simp); cases h
      subst this
      rw [run_convert_bytes_string w 44 9 5 none _ _ Try.underlying44 Try.underlying5 Try.underlying9]
      simp [Conv.bytesToString]
      rfl
    | some ad =>
      have e : (bs.map B) = (bs.map fun b => (b.toNat : Int)).map (Value.int .u8) := by rw [List.map_map]; rfl
      have hl : (loadCells ad bs.length).run Try.prog w = .ok ((bs.map fun b => (b.toNat : Int)).map (Value.int .u8)).toArray w := by
        have := run_loadCells_list (P := Try.prog) w ad (bs.map B) (fun j v hj => by
          obtain ⟨a', h, hv⟩ := hc j v hj
          obtain rfl : ad = a' := Option.some.inj h
          exact hv)
        rw [List.length_map, e] at this
        exact this
      have h2 := (run_convert_bytes_string w 44 9 5 (some ad) _ _ Try.underlying44 Try.underlying5 Try.underlying9).trans (run_bytesToString w ad bs.length cap _ hl)
      have e2 : ((bs.map fun b => (b.toNat : Int)).foldl (fun r n => r.push (UInt8.ofNat n.toNat)) ByteArray.empty) = strOf bs := str_eq (by rw [foldl_push, strOf_list]; simp)
      exact h2.trans (by rw [← e2])
  unfold execOp
  simp only [ho, hx, Sem.run_bind, Sem.run_pure, Result.andThen_ok, hr]

set_option maxRecDepth 100000 in
set_option maxHeartbeats 2000000 in
theorem zero_in (c : Col) (w : World) (Y : Nat) (v : Value) (bs : Bs) (hv : Rd c w Y v bs) (hl : bs.length ≤ 1000) :
    Calls Try.prog 66 #[v] w (Says c w (bs = zeros bs.length)) := by
  obtain ⟨q, cap, rfl, _⟩ := id hv
  obtain ⟨is, his, hs1, hs2, hs3⟩ := info_parts info_u8
  have HV := Lib.hid hv
  clear hv
  go_enter Try.func66, Try.ntmps66
  go_upto_region 1 with fail
  have hv := (HV.out).keep (Ext.refl (Obs []) c w).drew (fun q h => by simp [Obs] at h)
  have e0 := (Ext.refl (Obs []) c w).drew.alloc (.cells (madeCells (Value.int IntKind.u8 0).cells (bs.length * 1)) 5) (0, 0)
  have b0 := Blk.newA c w.drew (madeCells (Value.int IntKind.u8 0).cells (bs.length * 1)) 5 (0, 0)
  have hv2 := hv.keep ((Ext.refl (Obs []) c w.drew).alloc (.cells (madeCells (Value.int IntKind.u8 0).cells (bs.length * 1)) 5) (0, 0)) (fun q h => by simp [Obs] at h)
  have hz : (madeCells (Value.int IntKind.u8 0).cells (bs.length * 1)).toList = (zeros bs.length).map B := by
    rw [Nat.mul_one]
    have := madeCells_rep (.int .u8 0) 1 bs.length (by omega)
    simp only [List.replicate_one] at this
    refine this.trans ?_
    simp [zeros, B]
  rw [hz] at b0
  have HV1 := Lib.hid hv
  have HV2 := Lib.hid hv2
  have E0 := Lib.hid e0
  have B0 := Lib.hid b0
  clear hv hv2 e0 b0 HV
  refine X_begin [4] [] (fun w' => ∃ c', Rd c' w' Y (.slice q bs.length cap) bs) (by kernel_rfl) ?_
  refine X_pure 0 rfl (by kernel_rfl) (by kernel_rfl) (by kernel_rfl) (by kernel_rfl) (fun _ _ _ h => h) rfl (by intro w; go_simp; first | done | with_reducible rfl) ?_
  try simp only [Act.put, List.setIfInBounds_toArray, List.set_cons_zero, List.set_cons_succ]
  refine X_held 1 rfl (by kernel_rfl) (by kernel_rfl) (by kernel_rfl) (by kernel_rfl) (by kernel_rfl) (fun _ _ _ h => h) ⟨_, HV1.out⟩ rfl (fun w' hS => hS.elim fun c' h => str_run (.tmp 3) rfl c' Y _ rfl bs h) ?_
  try simp only [Act.put, List.setIfInBounds_toArray, List.set_cons_zero, List.set_cons_succ]
  refine X_pure 2 rfl (by kernel_rfl) (by kernel_rfl) (by kernel_rfl) (by kernel_rfl) (fun _ _ _ h => h) rfl (by intro w; go_simp; first | done | with_reducible rfl) ?_
  try simp only [Act.put, List.setIfInBounds_toArray, List.set_cons_zero, List.set_cons_succ]
  refine X_pure 3 rfl (by kernel_rfl) (by kernel_rfl) (by kernel_rfl) (by kernel_rfl) (fun _ _ _ h => h) rfl (by intro w; go_simp; first | done | with_reducible rfl) ?_
  try simp only [Act.put, List.setIfInBounds_toArray, List.set_cons_zero, List.set_cons_succ]
  refine X_opS 4 rfl (by kernel_rfl) (by kernel_rfl) ?_
  refine make_new rfl 44 (.tmp 6) (.tmp 6) rfl 5 is _ 1 1 Try.underlying44 his hs1 hs2 hs3 bs.length .i64 .i64 rfl rfl (by omega) (by omega) (by omega) ?_
  refine wpList_nil ?_
  refine ⟨⟨_, HV2.out⟩, ?_⟩
  try simp only [Act.put, List.setIfInBounds_toArray, List.set_cons_zero, List.set_cons_succ]
  have hzl : (zeros bs.length).length = bs.length := by simp [zeros]
  refine X_still 5 rfl (by kernel_rfl) (by kernel_rfl) (by kernel_rfl) (by kernel_rfl) rfl (str_run (.tmp 7) rfl (setc c w.drew.heap.size (0, 0)) 0 _ rfl (zeros bs.length) ⟨some ⟨w.drew.heap.size, 0, none⟩, bs.length, by rw [hzl]; rfl, by rw [hzl]; exact Nat.le_refl _, by unfold maxLen; omega, fun j u hj => ⟨w.drew.heap.size, 0, rfl, (B0.out).lt, by rw [(B0.out).col], by rw [Nat.zero_add]; exact ((B0.out).cell j).trans hj⟩⟩) ?_
  try simp only [Act.put, List.setIfInBounds_toArray, List.set_cons_zero, List.set_cons_succ]
  refine X_pure 6 rfl (by kernel_rfl) (by kernel_rfl) (by kernel_rfl) (by kernel_rfl) (fun _ _ _ h => h) rfl (by intro w; go_simp; first | done | with_reducible rfl) ?_
  try simp only [Act.put, List.setIfInBounds_toArray, List.set_cons_zero, List.set_cons_succ]
  refine X_pure 7 rfl (by kernel_rfl) (by kernel_rfl) (by kernel_rfl) (by kernel_rfl) (fun _ _ _ h => h) rfl (by intro w; go_simp; first | done | with_reducible rfl) ?_
  try simp only [Act.put, List.setIfInBounds_toArray, List.set_cons_zero, List.set_cons_succ]
  refine X_done (by kernel_rfl) ?_ _
  go_wp2_with fail
  go_ret
  refine ⟨_, rfl, ?_, _, E0.out⟩
  rw [beq_iff_eq, ByteArray.toList_eq, ByteArray.toList_eq, strOf_list, strOf_list]
end Go.Proofs.Ytfeacmlnlljnnaa

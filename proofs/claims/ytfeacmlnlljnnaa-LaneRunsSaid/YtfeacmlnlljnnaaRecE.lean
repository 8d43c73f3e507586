/- Package record: what Decode comes to. -/
import Derived.Test.YtfeacmlnlljnnaaRecD
namespace Go.Proofs.Ytfeacmlnlljnnaa
open Go Go.Proofs Go.RowKit

/-- The record, with new bytes of colour z; how many bytes it has. -/
def Decoded (c : Col) (w : World) (z : Nat × Nat) (r : Rec) (e : Ending) (w' : World) : Prop :=
  ∃ (dv : Value) (c' : Col), e = .returned (.tuple #[.agg (recCells r dv).toArray, .int .i64 ((encB r).length : Int), .bool true]) ∧ Sl c' w' z 1 dv r.dirty.length (r.dirty.map U64) ∧ Ext (Obs []) c w c' w'

set_option maxRecDepth 100000 in
set_option maxHeartbeats 4000000 in
theorem decode_in (c : Col) (w : World) (Y : Nat) (r : Rec) (hr : r.Ok) (rest : Bs) (v : Value) (hv : Rd c w Y v (encB r ++ rest)) (hl : rest.length ≤ 1000000) (z : Nat × Nat) :
    Calls Try.prog 54 #[v] w (Decoded c w z r) := by
  obtain ⟨N, hYN, hN⟩ := big_col c w (Y + z.1)
  have HN := Lib.hid hN
  have HR := Lib.hid hr
  have hlen := body_len r hr
  have hee : encB r ++ rest = be 2 (bodyB r).length ++ (bodyB r ++ rest) := by simp [encB]
  have hel : (encB r).length = 2 + (bodyB r).length := by simp [encB, be_len]
  have HEL := Lib.hid hel
  rw [hee] at hv
  obtain ⟨L, hL⟩ : ∃ L, L = (bodyB r).length := ⟨_, rfl⟩
  obtain ⟨q, cap, rfl, _⟩ := id hv
  have e0 := (Ext.refl (Big N) c w).alloc (.cells zeroRec.toArray 33) (N, 0)
  have b0 := Blk.new c w zeroRec 33 (N, 0)
  have v0 := hv.keep e0 (fun q h => by have h' : N ≤ Y := h; omega)
  generalize hq : Value.slice q _ cap = qv at v0 ⊢
  have HV0 := Lib.hid v0
  clear hv hN hr hee hel
  unfold zeroRec at e0 b0 v0 HV0
  go_enter Try.func54, Try.ntmps54
  go_upto_region 2 with (generalize (w.alloc (.cells [Value.int .i64 0, .int .i64 0, .int .i64 0, .int .i64 0, .string ⟨#[]⟩, .string ⟨#[]⟩, .string ⟨#[]⟩, .slice none 0 0].toArray 33)) = w1 at e0 b0 v0 HV0 ⊢; go_at_call 51; refine (newr_in _ w1 Y qv _ HV0.out (N + 1, 0)).mono ?_; rintro e w2 ⟨pr, c2, rfl, hR, hE, _⟩)
  have a1 : SayAt c w N Y w.heap.size pr _ c2 w2 := ⟨b0.keep hE (by simp [Obs]), hR, e0.trans hE.none⟩
  have A1 := Lib.hid a1
  have g1 := Lib.hid (num_in c2 w2 pr (N + 1, 0) Y (by simp <;> omega) _ hR 2 (by omega) (by omega) (by simp [be_len] <;> omega))
  rw [rNum_be 2 _ (by omega)] at g1
  clear e0 b0 v0 HV0 hR hE a1
  generalize hpo : w.heap.size = po at A1
  have HBL : (bodyB r ++ rest).length ≤ 10000000 := by rw [List.length_append]; omega
  go_upto_region 6 with (first
    | (go_at_call 52; refine (g1.out).mono ?_; rintro e w3 ⟨c3, rfl, hR, hE⟩; have A2 := Lib.hid ((A1.out).step hR hE); have g2 := Lib.hid (take_in c3 w3 pr (N + 1, 0) Y (by simp <;> omega) _ hR ((bodyB r).length : Int) HBL (N + 2, 0)); rw [rTake_app _ _ _ rfl] at g2; clear g1 A1 hR hE)
    | (go_at_call 67; refine (g2.out).mono ?_; rintro e w4 ⟨v4, c4, rfl, hO, hR, hE⟩; have A3 := Lib.hid ((A2.out).step hR hE); have g3 := Lib.hid (bad_in c4 w4 pr (N + 1, 0) Y _ hR); have HO := Lib.hid hO; clear g2 A2 hR hE hO)
    | (go_at_call 68; refine (g3.out).mono ?_; rintro e w5 ⟨rfl, rfl⟩; clear g3))
  have s1 := Lib.hid (say_in c4 w4 (N + 2) r HR.out v4 (HO.out).rd (N + 3, 0))
  go_upto_region 7 with (go_at_call 69; refine (s1.out).mono ?_; rintro e w6 ⟨dv, c6, rfl, hS, hE⟩; have A4 := Lib.hid (SayAt.mk ((A3.out).out.keep hE (by simp [Obs])) ((A3.out).rd.keep hE (by simp [Obs]) (fun q => by simp [Obs])) ((A3.out).ext.trans hE.none)); have HS := Lib.hid hS; obtain ⟨p', cap', rfl⟩ := hS.form; clear s1 A3 hS hE; unfold recCells)
  have e1 := (Ext.refl (Big N) c6 w6).alloc (.cells (recCells r (.slice p' r.dirty.length cap')).toArray 33) (N + 4, 0)
  have e2 := (Ext.refl (fun _ => False) c6 w6).alloc (.cells (recCells r (.slice p' r.dirty.length cap')).toArray 33) (N + 4, 0)
  have b1 := Blk.new c6 w6 (recCells r (.slice p' r.dirty.length cap')) 33 (N + 4, 0)
  have o1 := (A4.out).out.keep e2 (fun h => h)
  have d1 := (HS.out).keep e2 (fun h => h)
  have x1 := (A4.out).ext.trans e1
  have r1 := Lib.hid (right_in _ _ (N + 3) r HR.out _ d1.rs)
  unfold recCells at b1 o1 d1 x1 r1
  clear e1 e2
  generalize hc7 : setc c6 w6.heap.size (N + 4, 0) = c7 at b1 o1 d1 x1 r1
  generalize hpx : w6.heap.size = px at b1 ⊢
  generalize hw7 : w6.alloc (.cells [Value.int .i64 (r.kind : Int), .int .i64 (r.txn : Int), .int .i64 (r.page : Int), .int .i64 (r.slot : Int), .string r.before, .string r.after, .string r.image, .slice p' r.dirty.length cap'].toArray 33) = w7 at b1 o1 d1 x1 r1 ⊢
  have k0 : w7.cell? ⟨px, 0, none⟩ = some (Value.int .i64 (r.kind : Int)) := by rw [b1.cell]; rfl
  have k1 : w7.cell? ⟨px, 1, none⟩ = some (Value.int .i64 (r.txn : Int)) := by rw [b1.cell]; rfl
  have k2 : w7.cell? ⟨px, 2, none⟩ = some (Value.int .i64 (r.page : Int)) := by rw [b1.cell]; rfl
  have k3 : w7.cell? ⟨px, 3, none⟩ = some (Value.int .i64 (r.slot : Int)) := by rw [b1.cell]; rfl
  have k4 : w7.cell? ⟨px, 4, none⟩ = some (Value.string r.before) := by rw [b1.cell]; rfl
  have k5 : w7.cell? ⟨px, 5, none⟩ = some (Value.string r.after) := by rw [b1.cell]; rfl
  have k6 : w7.cell? ⟨px, 6, none⟩ = some (Value.string r.image) := by rw [b1.cell]; rfl
  have k7 : w7.cell? ⟨px, 7, none⟩ = some (Value.slice p' r.dirty.length cap') := by rw [b1.cell]; rfl
  have B1 := Lib.hid b1
  have O1 := Lib.hid o1
  have D1 := Lib.hid d1
  have X1 := Lib.hid x1
  clear b1 o1 d1 x1 hc7 hpx hw7 A4 HS HO
  go_upto_region 9 with (first
    | (go_at_call 41; refine (r1.out).mono ?_; rintro e w8 ⟨rfl, c8, hE⟩; have HE := Lib.hid hE; clear r1 hE)
    | fail)
  have b8 := (B1.out).keep HE.out (by simp [Obs])
  have o8 := (O1.out).keep HE.out (by simp [Obs])
  have d8 := (D1.out).keep HE.out (by simp [Obs])
  have x8 := (X1.out).trans (HE.out).none
  clear k0 k1 k2 k3 k4 k5 k6 k7
  have k0 : w8.cell? ⟨px, 0, none⟩ = some (Value.int .i64 (r.kind : Int)) := by rw [b8.cell]; rfl
  have k1 : w8.cell? ⟨px, 1, none⟩ = some (Value.int .i64 (r.txn : Int)) := by rw [b8.cell]; rfl
  have k2 : w8.cell? ⟨px, 2, none⟩ = some (Value.int .i64 (r.page : Int)) := by rw [b8.cell]; rfl
  have k3 : w8.cell? ⟨px, 3, none⟩ = some (Value.int .i64 (r.slot : Int)) := by rw [b8.cell]; rfl
  have k4 : w8.cell? ⟨px, 4, none⟩ = some (Value.string r.before) := by rw [b8.cell]; rfl
  have k5 : w8.cell? ⟨px, 5, none⟩ = some (Value.string r.after) := by rw [b8.cell]; rfl
  have k6 : w8.cell? ⟨px, 6, none⟩ = some (Value.string r.image) := by rw [b8.cell]; rfl
  have k7 : w8.cell? ⟨px, 7, none⟩ = some (Value.slice p' r.dirty.length cap') := by rw [b8.cell]; rfl
  have O8 := Lib.hid o8
  have D8 := Lib.hid d8
  have X8 := Lib.hid x8
  clear b8 o8 d8 x8
  have hwrap : IntKind.i64.wrap (2 + ((bodyB r).length : Int)) = (((encB r).length : Nat) : Int) := by
    rw [HEL.out, IntWalk.i64_in _ ⟨by omega, by omega⟩]; omega
  go_wp2_with (refine store_agg (o := ⟨none, .store 33 _ _, _, _, _, _⟩) rfl rfl 33 _ _ rfl po 0 rfl (recCells r (.slice p' r.dirty.length cap')) rfl (by kernel_rfl) c8 (N, 0) zeroRec (O8.out) (by simp [recCells, zeroRec]) (by simp [recCells, Value.oneCell']) ?_)
  (try simp only [Exit.inBlock, Exit.then])
  have b9 := (O8.out).row (recCells r (.slice p' r.dirty.length cap'))
  have e9 : Ext (fun y => y = (N, 0)) c8 w8 c8 (w8.setRow po (recCells r (.slice p' r.dirty.length cap')).toArray) := (Ext.refl _ c8 w8).setRow (g := po) (O8.out).col _
  have d9 := (D8.out).keep e9 (by simp)
  have x9 := (X8.out).trans (e9.one (by simp))
  refine bodyPost_ret (results_cell3 rfl rfl (loadVar_agg 33 po 0 (recCells r (.slice p' r.dirty.length cap')) _ Try.underlying33 rfl (by kernel_rfl) (by intro j u hj; exact (b9.cell (0 + j)).trans (by rw [Nat.zero_add]; exact hj)))) rfl ?_
  have hz : ∀ k, k < w.heap.size → c k ≠ (N + 3, 0) := fun k hk e => by have := HN.out k hk; rw [e] at this; exact this (by simp)
  exact ⟨_, recol c8 (N + 3, 0) z, rfl, d9.recol z, (x9.big HN.out).recol hz z⟩
end Go.Proofs.Ytfeacmlnlljnnaa

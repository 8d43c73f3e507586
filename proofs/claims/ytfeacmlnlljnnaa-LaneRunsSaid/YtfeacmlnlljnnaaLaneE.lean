/- Package lane: what Append comes to. -/
import Derived.Test.YtfeacmlnlljnnaaLaneD
namespace Go.Proofs.Ytfeacmlnlljnnaa
open Go Go.Proofs Go.RowKit

def DidA (c : Col) (w : World) (Z d l : Nat) (L : LaneM) (at_ : Nat) (k : Int) (e : Ending) (w' : World) : Prop :=
  ∃ c', e = .returned (.tuple #[.int .u64 (at_ : Int), .int .i64 k]) ∧ LaneRep c' w' Z l d L ∧ Ext (Obs [Z]) c w c' w'

def append (L : LaneM) (r : Rec) : LaneM × Nat × Int :=
  if L.b.length + (encB r).length ≤ 14336 then ({ L with b := L.b ++ encB r }, placeN L.gen L.b.length, 0) else (L, 0, 7)

set_option maxRecDepth 100000 in
set_option maxHeartbeats 4000000 in
theorem append_in (c : Col) (w : World) (d Z l Y : Nat) (L : LaneM) (r : Rec) (hr : r.Ok) (dv : Value) (hd : Dirt c w Y dv r) (hL : LaneRep c w Z l d L) :
    Calls Try.prog 14 #[.pointer (some ⟨l, 0, none⟩), .agg (recCells r dv).toArray] w (DidA c w Z d l (append L r).1 (append L r).2.1 (append L r).2.2) := by
  obtain ⟨q, dcap, rfl, _⟩ := id hd
  have nn : ∀ (Q q : Nat), ¬ Obs [] ((Q, q) : Nat × Nat) := fun Q q h => by simp [Obs] at h
  have hel : (encB r).length ≤ 1002 := by have := body_len r hr; simp only [encB, List.length_append, be_len]; omega
  have e0 := (Ext.refl (Obs []) c w).alloc (.cells (recCells r (.slice q r.dirty.length dcap)).toArray 33) (0, 1)
  have b0 := Blk.new c w (recCells r (.slice q r.dirty.length dcap)) 33 (0, 1)
  have d0 := Rs.keep hd e0 (nn Y)
  have l0 := hL.keep e0 (nn Z)
  have HR := Lib.hid hr
  clear hd hL hr
  generalize hc1 : setc c w.heap.size (0, 1) = c1 at e0 b0 d0 l0
  have S : Hid (∃ p1 w1, p1 = w.heap.size ∧ w1 = w.alloc (.cells (recCells r (.slice q r.dirty.length dcap)).toArray 33) ∧ Blk c1 w1 p1 (0, 1) (recCells r (.slice q r.dirty.length dcap)) ∧ Dirt c1 w1 Y (.slice q r.dirty.length dcap) r ∧ LaneRep c1 w1 Z l d L ∧ Ext (Obs []) c w c1 w1) := ⟨_, _, rfl, rfl, b0, d0, l0, e0⟩
  clear e0 b0 d0 l0
  obtain ⟨p1, w1, hp1, hw1, b0, d0, l0, e0⟩ := S.out
  clear S hc1
  have hri := Lib.hid (right_in c1 w1 Y r HR.out _ d0)
  have k0 : w1.cell? ⟨p1, 0, none⟩ = some (Value.int .i64 (r.kind : Int)) := (b0.cell 0).trans rfl
  have k1 : w1.cell? ⟨p1, 1, none⟩ = some (Value.int .i64 (r.txn : Int)) := (b0.cell 1).trans rfl
  have k2 : w1.cell? ⟨p1, 2, none⟩ = some (Value.int .i64 (r.page : Int)) := (b0.cell 2).trans rfl
  have k3 : w1.cell? ⟨p1, 3, none⟩ = some (Value.int .i64 (r.slot : Int)) := (b0.cell 3).trans rfl
  have k4 : w1.cell? ⟨p1, 4, none⟩ = some (Value.string r.before) := (b0.cell 4).trans rfl
  have k5 : w1.cell? ⟨p1, 5, none⟩ = some (Value.string r.after) := (b0.cell 5).trans rfl
  have k6 : w1.cell? ⟨p1, 6, none⟩ = some (Value.string r.image) := (b0.cell 6).trans rfl
  have k7 : w1.cell? ⟨p1, 7, none⟩ = some (Value.slice q r.dirty.length dcap) := (b0.cell 7).trans rfl
  have D0 := Lib.hid d0
  have L0 := Lib.hid l0
  have E0 := Lib.hid e0
  have B0 := Lib.hid b0
  clear d0 l0 e0 b0
  unfold recCells at hw1 hri ⊢
  go_enter Try.func14, Try.ntmps14
  go_upto_region 1 with fail
  rw [← hw1, ← hp1]
  clear hw1 hp1
  go_upto_region 3 with (go_at_call 41; refine (hri.out).mono ?_; rintro e w2 ⟨rfl, c2, hE⟩; have HE2 := Lib.hid hE; clear hri hE)
  have b2 := (B0.out).keep HE2.out (nn _ _)
  have L2 := Lib.hid ((L0.out).keep HE2.out (nn Z))
  have E2 := Lib.hid ((E0.out).trans HE2.out)
  have henc := Lib.hid (encode_in c2 w2 Y r HR.out _ (Rs.keep D0.out HE2.out (nn Y)) (0, 2))
  unfold recCells at henc
  clear k0 k1 k2 k3 k4 k5 k6 k7
  have k0 : w2.cell? ⟨p1, 0, none⟩ = some (Value.int .i64 (r.kind : Int)) := (b2.cell 0).trans rfl
  have k1 : w2.cell? ⟨p1, 1, none⟩ = some (Value.int .i64 (r.txn : Int)) := (b2.cell 1).trans rfl
  have k2 : w2.cell? ⟨p1, 2, none⟩ = some (Value.int .i64 (r.page : Int)) := (b2.cell 2).trans rfl
  have k3 : w2.cell? ⟨p1, 3, none⟩ = some (Value.int .i64 (r.slot : Int)) := (b2.cell 3).trans rfl
  have k4 : w2.cell? ⟨p1, 4, none⟩ = some (Value.string r.before) := (b2.cell 4).trans rfl
  have k5 : w2.cell? ⟨p1, 5, none⟩ = some (Value.string r.after) := (b2.cell 5).trans rfl
  have k6 : w2.cell? ⟨p1, 6, none⟩ = some (Value.string r.image) := (b2.cell 6).trans rfl
  have k7 : w2.cell? ⟨p1, 7, none⟩ = some (Value.slice q r.dirty.length dcap) := (b2.cell 7).trans rfl
  have hl2 := (L2.out)
  obtain ⟨N, hN⟩ : ∃ N, N = (encB r).length := ⟨_, rfl⟩
  have HN := Lib.hid hN
  go_upto_region 4 with (go_at_call 16; refine (henc.out).mono ?_; rintro e w3 ⟨fv, c3, rfl, hO, hE⟩; have HO := Lib.hid hO; have HE3 := Lib.hid hE; clear henc hE hO)
  obtain ⟨fp, fcap, rfl⟩ := (HO.out).form
  have l3 := (L2.out).keep HE3.out (nn Z)
  have hroom := Lib.hid (room_in c3 w3 Z l d L l3)
  have E3 := Lib.hid ((E2.out).trans HE3.out)
  clear hl2
  rw [← hN] at hel ⊢
  obtain ⟨bv, la⟩ := l3
  obtain ⟨bp, bcap, rfl⟩ := la.own.form
  have hplace := Lib.hid (place_in c3 w3 Z l d L ⟨_, la⟩ L.b.length la.wf.b)
  have j4 : w3.cell? ⟨l, 4, none⟩ = some (.slice bp L.b.length bcap) := (la.top.cell 4).trans rfl
  have f4 := la.top.free 4
  have hlb := la.wf.b
  have LA := Lib.hid la
  clear la k0 k1 k2 k3 k4 k5 k6 k7 hN b2
  by_cases hfit : L.b.length + N ≤ 14336
  · have e : append L r = ({ L with b := L.b ++ encB r }, placeN L.gen L.b.length, 0) := by unfold append; rw [← HN.out, if_pos hfit]
    have HE := Lib.hid e
    have hcmp : ((14336 : Int) - (L.b.length : Int) < (N : Int)) = False := by simp <;> omega
    clear e
    go_upto_region 7 with (first
      | (go_at_call 24; refine (hroom.out).mono ?_; rintro e w4 ⟨rfl, rfl⟩; clear hroom)
      | (go_at_call 42; refine (hplace.out).mono ?_; rintro e w4 ⟨rfl, rfl⟩; clear hplace))
    have hsrc : Src Try.prog w3 1 44 (.slice fp N fcap) (encB r).length ((encB r).map B) := by rw [HN.out]; exact (HO.out).rd.src
    have HSRC := Lib.hid hsrc
    clear hsrc
    go_wp2_with (refine append_bb (o := ⟨some 31, _, _, _, _, _⟩) rfl (.tmp 29) (.tmp 30) 44 rfl c3 (Z, 1) _ _ rfl (LA.out).own _ rfl (encB r) HSRC.out (by rw [← HN.out]; omega) ?_; intro v5 w5 c5 hO5 hE5; (obtain ⟨p5, cap5, rfl⟩ := hO5.form); have t5 := (LA.out).top.keep hE5.own (fun h => by simp at h); have j5 := t5.cell 4; have f5 := t5.free 4; simp at j5; have T5 := Lib.hid t5; have HO5 := Lib.hid hO5; have HE5 := Lib.hid hE5.own; clear t5 hO5 hE5)
    go_ret2
    rw [HE.out, ← List.length_append]
    have e6 : Ext (Obs [Z]) c5 w5 c5 (w5.setCell ⟨l, 4, none⟩ (.slice p5 (L.b ++ encB r).length cap5)) := (Ext.refl _ c5 w5).setCell (a := ⟨l, 4, none⟩) (by rw [(T5.out).col]; simp [Obs]) _
    refine ⟨c5, rfl, ⟨_, (T5.out).set 4 _, (HO5.out).set_col ⟨l, 4, none⟩ _ (by rw [(T5.out).col]; simp), ⟨(LA.out).wf.r, (LA.out).wf.gen, (LA.out).wf.bank, ?_, ?_⟩⟩, (((E3.out).none.trans ((HE5.out).mono (fun x e => by subst e; simp [Obs]))).trans e6)⟩
    · show (L.b ++ encB r).length ≤ 14336
      rw [List.length_append, ← HN.out]; exact hfit
    · show L.sure ≤ (L.b ++ encB r).length
      have := (LA.out).wf.sure
      rw [List.length_append]; omega
  · have e : append L r = (L, 0, 7) := by unfold append; rw [← HN.out, if_neg hfit]
    have HE := Lib.hid e
    clear e
    go_wp2_with (first
      | (go_at_call 24; refine (hroom.out).mono ?_; rintro e w4 ⟨rfl, rfl⟩; clear hroom))
    go_ret2
    rw [HE.out]
    exact ⟨c3, rfl, ⟨_, LA.out⟩, (E3.out).none⟩
end Go.Proofs.Ytfeacmlnlljnnaa

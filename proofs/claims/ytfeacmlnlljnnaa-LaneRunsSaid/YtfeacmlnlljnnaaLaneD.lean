/- Package lane: what Flush comes to. -/
import Derived.Test.YtfeacmlnlljnnaaLaneC
namespace Go.Proofs.Ytfeacmlnlljnnaa
open Go Go.Proofs Go.RowKit

def DidL (c : Col) (w : World) (X Z d l : Nat) (D : DiskM) (L : LaneM) (k : Int) (e : Ending) (w' : World) : Prop :=
  ∃ c', e = .returned (.int .i64 k) ∧ DiskRep c' w' X d D ∧ LaneRep c' w' Z l d L ∧ Ext (Obs [X, Z]) c w c' w'

theorem layN_two (D : DiskM) (r bank gen : Nat) (b : Bs) (s0 n : Nat) : (layN D r bank gen b s0 n).2 = 0 ∨ (layN D r bank gen b s0 n).2 = 10 := by
  induction n with
  | zero => left; rfl
  | succ n ih =>
    unfold layN
    split
    · exact ih
    · exact wr_two _ _ _ _
theorem lay_two (D : DiskM) (r bank gen : Nat) (b : Bs) (s0 : Nat) : (lay D r bank gen b s0).2 = 0 ∨ (lay D r bank gen b s0).2 = 10 := by
  unfold lay
  split
  · exact layN_two D r bank gen b s0 _
  · exact bar_two _ _

def flush (D : DiskM) (L : LaneM) : DiskM × LaneM × Int :=
  if L.sure = L.b.length then (D, L, 0) else
    let p := lay D L.r L.bank L.gen L.b (L.sure / 56)
    if p.2 = 0 then (p.1, { L with sure := L.b.length }, 0) else (p.1, L, p.2)

set_option maxRecDepth 100000 in
set_option maxHeartbeats 4000000 in
theorem flush_in (c : Col) (w : World) (X d Z l : Nat) (D : DiskM) (L : LaneM) (hX : 1 ≤ X) (hZ : Z ≠ X) (hD : DiskRep c w X d D) (hL : LaneRep c w Z l d L) (hr : L.r < D.n) (hsz : 514 ≤ D.size) (hw9 : (D.waits L.r).length ≤ 900000) :
    Calls Try.prog 17 #[.pointer (some ⟨l, 0, none⟩)] w (DidL c w X Z d l (flush D L).1 (flush D L).2.1 (flush D L).2.2) := by
  obtain ⟨bv, h⟩ := id hL
  obtain ⟨q, cap, rfl⟩ := h.own.form
  have k1 : w.cell? ⟨l, 1, none⟩ = some (.int .i64 (L.r : Int)) := (h.top.cell 1).trans rfl
  have k2 : w.cell? ⟨l, 2, none⟩ = some (.int .u64 (L.gen : Int)) := (h.top.cell 2).trans rfl
  have k3 : w.cell? ⟨l, 3, none⟩ = some (.int .i64 (L.bank : Int)) := (h.top.cell 3).trans rfl
  have k4 : w.cell? ⟨l, 4, none⟩ = some (.slice q L.b.length cap) := (h.top.cell 4).trans rfl
  have k5 : w.cell? ⟨l, 5, none⟩ = some (.int .i64 (L.sure : Int)) := (h.top.cell 5).trans rfl
  have H := Lib.hid h
  have HL := Lib.hid hL
  have HD := Lib.hid hD
  have hwf := h.wf
  have hsb := hwf.sure
  have hbb := hwf.b
  have nn : ∀ (Q q : Nat), ¬ Obs [] ((Q, q) : Nat × Nat) := fun Q q h => by simp [Obs] at h
  have ed : Ext (Obs []) c w c w.drew.drew := (Ext.refl (Obs []) c w).drew.drew
  have ed1 : Ext (Obs []) c w c w.drew := (Ext.refl (Obs []) c w).drew
  have hlay := Lib.hid (lay_in c w.drew.drew X d Z l Z D L L.bank L.gen (.slice q L.b.length cap) L.b L.sure hX hZ hZ (hD.keep ed (nn X)) (hL.keep ed (nn Z)) (h.own.rd.keep ed (nn Z)) hr hsz hw9 hwf.bank hwf.gen hwf.b hwf.sure)
  clear h hL hD hwf
  by_cases hs : L.sure = L.b.length
  · have e : flush D L = (D, L, 0) := by unfold flush; rw [if_pos hs]
    rw [e]
    have HS := Lib.hid hs
    have hs' : ((L.sure : Int) == (L.b.length : Int)) = true := by rw [hs]; simp
    clear hs e
    go_enter Try.func17, Try.ntmps17
    go_upto_region 1 with fail
    refine X_begin [] [] (fun _ => True) (by kernel_rfl) ?_
    refine X_pure 0 rfl (by kernel_rfl) (by kernel_rfl) (by kernel_rfl) (by kernel_rfl) (fun _ _ _ h => h) rfl (by intro w; go_simp; first | done | with_reducible rfl) ?_
    try simp only [Act.put, List.setIfInBounds_toArray, List.set_cons_zero, List.set_cons_succ]
    refine X_pure 1 rfl (by kernel_rfl) (by kernel_rfl) (by kernel_rfl) (by kernel_rfl) (fun _ _ _ h => h) rfl (by intro w; go_simp; first | done | with_reducible rfl) ?_
    try simp only [Act.put, List.setIfInBounds_toArray, List.set_cons_zero, List.set_cons_succ]
    refine X_pure 2 rfl (by kernel_rfl) (by kernel_rfl) (by kernel_rfl) (by kernel_rfl) (fun _ _ _ h => h) rfl (by intro w; go_simp; first | done | with_reducible rfl) ?_
    try simp only [Act.put, List.setIfInBounds_toArray, List.set_cons_zero, List.set_cons_succ]
    refine X_still 3 rfl (by kernel_rfl) (by kernel_rfl) (by kernel_rfl) (by kernel_rfl) rfl (by go_simp; first | done | with_reducible rfl) ?_
    try simp only [Act.put, List.setIfInBounds_toArray, List.set_cons_zero, List.set_cons_succ]
    refine X_pure 4 rfl (by kernel_rfl) (by kernel_rfl) (by kernel_rfl) (by kernel_rfl) (fun _ _ _ h => h) rfl (by intro w; go_simp; first | done | with_reducible rfl) ?_
    try simp only [Act.put, List.setIfInBounds_toArray, List.set_cons_zero, List.set_cons_succ]
    refine X_pure 5 rfl (by kernel_rfl) (by kernel_rfl) (by kernel_rfl) (by kernel_rfl) (fun _ _ _ h => h) rfl (by intro w; go_simp; first | done | with_reducible rfl) ?_
    try simp only [Act.put, List.setIfInBounds_toArray, List.set_cons_zero, List.set_cons_succ]
    refine X_pure 6 rfl (by kernel_rfl) (by kernel_rfl) (by kernel_rfl) (by kernel_rfl) (fun _ _ _ h => h) rfl (by intro w; go_simp; first | done | with_reducible rfl) ?_
    try simp only [Act.put, List.setIfInBounds_toArray, List.set_cons_zero, List.set_cons_succ]
    refine X_still 7 rfl (by kernel_rfl) (by kernel_rfl) (by kernel_rfl) (by kernel_rfl) rfl (by go_simp; first | done | with_reducible rfl) ?_
    try simp only [Act.put, List.setIfInBounds_toArray, List.set_cons_zero, List.set_cons_succ]
    refine X_pure 8 rfl (by kernel_rfl) (by kernel_rfl) (by kernel_rfl) (by kernel_rfl) (fun _ _ _ h => h) rfl (by intro w; go_simp; first | done | with_reducible rfl) ?_
    try simp only [Act.put, List.setIfInBounds_toArray, List.set_cons_zero, List.set_cons_succ]
    refine X_pure 9 rfl (by kernel_rfl) (by kernel_rfl) (by kernel_rfl) (by kernel_rfl) (fun _ _ _ h => h) rfl (by intro w; go_simp; first | done | with_reducible rfl) ?_
    try simp only [Act.put, List.setIfInBounds_toArray, List.set_cons_zero, List.set_cons_succ]
    refine X_done (by kernel_rfl) ?_ _
    go_wp2_with fail
    go_ret
    exact ⟨c, rfl, (HD.out).keep ed1 (nn X), (HL.out).keep ed1 (nn Z), ed1.none⟩
  · have e : flush D L = (if (lay D L.r L.bank L.gen L.b (L.sure / 56)).2 = 0 then ((lay D L.r L.bank L.gen L.b (L.sure / 56)).1, { L with sure := L.b.length }, 0) else ((lay D L.r L.bank L.gen L.b (L.sure / 56)).1, L, (lay D L.r L.bank L.gen L.b (L.sure / 56)).2)) := by unfold flush; rw [if_neg hs]
    have nz : ∀ q : Nat, ¬ Obs [X] ((Z, q) : Nat × Nat) := fun q h => by simp [Obs] at h; omega
    rcases lay_two D L.r L.bank L.gen L.b (L.sure / 56) with hk | hk
    · rw [hk] at hlay
      rw [if_pos hk] at e
      rw [e]
      clear hk e
      go_enter Try.func17, Try.ntmps17
      go_upto_region 1 with fail
      refine X_begin [] [] (fun _ => True) (by kernel_rfl) ?_
      refine X_pure 0 rfl (by kernel_rfl) (by kernel_rfl) (by kernel_rfl) (by kernel_rfl) (fun _ _ _ h => h) rfl (by intro w; go_simp; first | done | with_reducible rfl) ?_
      try simp only [Act.put, List.setIfInBounds_toArray, List.set_cons_zero, List.set_cons_succ]
      refine X_pure 1 rfl (by kernel_rfl) (by kernel_rfl) (by kernel_rfl) (by kernel_rfl) (fun _ _ _ h => h) rfl (by intro w; go_simp; first | done | with_reducible rfl) ?_
      try simp only [Act.put, List.setIfInBounds_toArray, List.set_cons_zero, List.set_cons_succ]
      refine X_pure 2 rfl (by kernel_rfl) (by kernel_rfl) (by kernel_rfl) (by kernel_rfl) (fun _ _ _ h => h) rfl (by intro w; go_simp; first | done | with_reducible rfl) ?_
      try simp only [Act.put, List.setIfInBounds_toArray, List.set_cons_zero, List.set_cons_succ]
      refine X_still 3 rfl (by kernel_rfl) (by kernel_rfl) (by kernel_rfl) (by kernel_rfl) rfl (by go_simp; first | done | with_reducible rfl) ?_
      try simp only [Act.put, List.setIfInBounds_toArray, List.set_cons_zero, List.set_cons_succ]
      refine X_pure 4 rfl (by kernel_rfl) (by kernel_rfl) (by kernel_rfl) (by kernel_rfl) (fun _ _ _ h => h) rfl (by intro w; go_simp; first | done | with_reducible rfl) ?_
      try simp only [Act.put, List.setIfInBounds_toArray, List.set_cons_zero, List.set_cons_succ]
      refine X_pure 5 rfl (by kernel_rfl) (by kernel_rfl) (by kernel_rfl) (by kernel_rfl) (fun _ _ _ h => h) rfl (by intro w; go_simp; first | done | with_reducible rfl) ?_
      try simp only [Act.put, List.setIfInBounds_toArray, List.set_cons_zero, List.set_cons_succ]
      refine X_pure 6 rfl (by kernel_rfl) (by kernel_rfl) (by kernel_rfl) (by kernel_rfl) (fun _ _ _ h => h) rfl (by intro w; go_simp; first | done | with_reducible rfl) ?_
      try simp only [Act.put, List.setIfInBounds_toArray, List.set_cons_zero, List.set_cons_succ]
      refine X_still 7 rfl (by kernel_rfl) (by kernel_rfl) (by kernel_rfl) (by kernel_rfl) rfl (by go_simp; first | done | with_reducible rfl) ?_
      try simp only [Act.put, List.setIfInBounds_toArray, List.set_cons_zero, List.set_cons_succ]
      refine X_pure 8 rfl (by kernel_rfl) (by kernel_rfl) (by kernel_rfl) (by kernel_rfl) (fun _ _ _ h => h) rfl (by intro w; go_simp; first | done | with_reducible rfl) ?_
      try simp only [Act.put, List.setIfInBounds_toArray, List.set_cons_zero, List.set_cons_succ]
      refine X_pure 9 rfl (by kernel_rfl) (by kernel_rfl) (by kernel_rfl) (by kernel_rfl) (fun _ _ _ h => h) rfl (by intro w; go_simp; first | done | with_reducible rfl) ?_
      try simp only [Act.put, List.setIfInBounds_toArray, List.set_cons_zero, List.set_cons_succ]
      refine X_done (by kernel_rfl) ?_ _
      go_upto_region 3 with fail
      refine X_begin [] [17] (fun _ => True) (by kernel_rfl) ?_
      refine X_pure 0 rfl (by kernel_rfl) (by kernel_rfl) (by kernel_rfl) (by kernel_rfl) (fun _ _ _ h => h) rfl (by intro w; go_simp; first | done | with_reducible rfl) ?_
      try simp only [Act.put, List.setIfInBounds_toArray, List.set_cons_zero, List.set_cons_succ]
      refine X_pure 1 rfl (by kernel_rfl) (by kernel_rfl) (by kernel_rfl) (by kernel_rfl) (fun _ _ _ h => h) rfl (by intro w; go_simp; first | done | with_reducible rfl) ?_
      try simp only [Act.put, List.setIfInBounds_toArray, List.set_cons_zero, List.set_cons_succ]
      refine X_pure 2 rfl (by kernel_rfl) (by kernel_rfl) (by kernel_rfl) (by kernel_rfl) (fun _ _ _ h => h) rfl (by intro w; go_simp; first | done | with_reducible rfl) ?_
      try simp only [Act.put, List.setIfInBounds_toArray, List.set_cons_zero, List.set_cons_succ]
      refine X_pure 3 rfl (by kernel_rfl) (by kernel_rfl) (by kernel_rfl) (by kernel_rfl) (fun _ _ _ h => h) rfl (by intro w; go_simp; first | done | with_reducible rfl) ?_
      try simp only [Act.put, List.setIfInBounds_toArray, List.set_cons_zero, List.set_cons_succ]
      refine X_still 4 rfl (by kernel_rfl) (by kernel_rfl) (by kernel_rfl) (by kernel_rfl) rfl (by go_simp; first | done | with_reducible rfl) ?_
      try simp only [Act.put, List.setIfInBounds_toArray, List.set_cons_zero, List.set_cons_succ]
      refine X_pure 5 rfl (by kernel_rfl) (by kernel_rfl) (by kernel_rfl) (by kernel_rfl) (fun _ _ _ h => h) rfl (by intro w; go_simp; first | done | with_reducible rfl) ?_
      try simp only [Act.put, List.setIfInBounds_toArray, List.set_cons_zero, List.set_cons_succ]
      refine X_pure 6 rfl (by kernel_rfl) (by kernel_rfl) (by kernel_rfl) (by kernel_rfl) (fun _ _ _ h => h) rfl (by intro w; go_simp; first | done | with_reducible rfl) ?_
      try simp only [Act.put, List.setIfInBounds_toArray, List.set_cons_zero, List.set_cons_succ]
      refine X_pure 7 rfl (by kernel_rfl) (by kernel_rfl) (by kernel_rfl) (by kernel_rfl) (fun _ _ _ h => h) rfl (by intro w; go_simp; first | done | with_reducible rfl) ?_
      try simp only [Act.put, List.setIfInBounds_toArray, List.set_cons_zero, List.set_cons_succ]
      refine X_still 8 rfl (by kernel_rfl) (by kernel_rfl) (by kernel_rfl) (by kernel_rfl) rfl (by go_simp; first | done | with_reducible rfl) ?_
      try simp only [Act.put, List.setIfInBounds_toArray, List.set_cons_zero, List.set_cons_succ]
      refine X_pure 9 rfl (by kernel_rfl) (by kernel_rfl) (by kernel_rfl) (by kernel_rfl) (fun _ _ _ h => h) rfl (by intro w; go_simp; first | done | with_reducible rfl) ?_
      try simp only [Act.put, List.setIfInBounds_toArray, List.set_cons_zero, List.set_cons_succ]
      refine X_pure 10 rfl (by kernel_rfl) (by kernel_rfl) (by kernel_rfl) (by kernel_rfl) (fun _ _ _ h => h) rfl (by intro w; go_simp; first | done | with_reducible rfl) ?_
      try simp only [Act.put, List.setIfInBounds_toArray, List.set_cons_zero, List.set_cons_succ]
      refine X_pure 11 rfl (by kernel_rfl) (by kernel_rfl) (by kernel_rfl) (by kernel_rfl) (fun _ _ _ h => h) rfl (by intro w; go_simp; first | done | with_reducible rfl) ?_
      try simp only [Act.put, List.setIfInBounds_toArray, List.set_cons_zero, List.set_cons_succ]
      refine X_still 12 rfl (by kernel_rfl) (by kernel_rfl) (by kernel_rfl) (by kernel_rfl) rfl (by go_simp; first | done | with_reducible rfl) ?_
      try simp only [Act.put, List.setIfInBounds_toArray, List.set_cons_zero, List.set_cons_succ]
      refine X_pure 13 rfl (by kernel_rfl) (by kernel_rfl) (by kernel_rfl) (by kernel_rfl) (fun _ _ _ h => h) rfl (by intro w; go_simp; first | done | with_reducible rfl) ?_
      try simp only [Act.put, List.setIfInBounds_toArray, List.set_cons_zero, List.set_cons_succ]
      refine X_pure 14 rfl (by kernel_rfl) (by kernel_rfl) (by kernel_rfl) (by kernel_rfl) (fun _ _ _ h => h) rfl (by intro w; go_simp; first | done | with_reducible rfl) ?_
      try simp only [Act.put, List.setIfInBounds_toArray, List.set_cons_zero, List.set_cons_succ]
      refine X_pure 15 rfl (by kernel_rfl) (by kernel_rfl) (by kernel_rfl) (by kernel_rfl) (fun _ _ _ h => h) rfl (by intro w; go_simp; first | done | with_reducible rfl) ?_
      try simp only [Act.put, List.setIfInBounds_toArray, List.set_cons_zero, List.set_cons_succ]
      refine X_still 16 rfl (by kernel_rfl) (by kernel_rfl) (by kernel_rfl) (by kernel_rfl) rfl (by go_simp; first | done | with_reducible rfl) ?_
      try simp only [Act.put, List.setIfInBounds_toArray, List.set_cons_zero, List.set_cons_succ]
      refine X_op 17 rfl (by kernel_rfl) (by kernel_rfl) (by kernel_rfl) ?_
      go_wp2_with (go_at_call 45; refine (hlay.out).mono ?_; rintro e w2 ⟨c2, rfl, hR, hE⟩)
      have h2 := LaneAt.mk ((H.out).top.keep (ed.none.trans hE) (nz 0)) ((H.out).own.keep (ed.none.trans hE) (nz 1)) (H.out).wf
      have j4 : w2.cell? ⟨l, 4, none⟩ = some (.slice q L.b.length cap) := (h2.top.cell 4).trans rfl
      have j5 : w2.cell? ⟨l, 5, none⟩ = some (.int .i64 (L.sure : Int)) := (h2.top.cell 5).trans rfl
      have f5 := h2.top.free 5
      have H2 := Lib.hid h2
      have HR2 := Lib.hid hR
      have HE2 := Lib.hid (ed.none.trans hE)
      clear h2 hR hE
      try simp only [Act.put, List.setIfInBounds_toArray, List.set_cons_zero, List.set_cons_succ]
      refine X_pure 18 rfl (by kernel_rfl) (by kernel_rfl) (by kernel_rfl) (by kernel_rfl) (fun _ _ _ h => h) rfl (by intro w; go_simp; first | done | with_reducible rfl) ?_
      try simp only [Act.put, List.setIfInBounds_toArray, List.set_cons_zero, List.set_cons_succ]
      refine X_done (by kernel_rfl) ?_ _
      go_wp2_with fail
      go_ret
      have e3 : Ext (Obs [Z]) c2 w2 c2 (w2.setCell ⟨l, 5, none⟩ (.int .i64 (L.b.length : Int))) := (Ext.refl _ c2 w2).setCell (a := ⟨l, 5, none⟩) (by rw [(H2.out).top.col]; simp [Obs]) _
      refine ⟨c2, rfl, (HR2.out).keep e3 (fun q h => by simp [Obs] at h; omega), ⟨_, (H2.out).top.set 5 _, (H2.out).own.set_col ⟨l, 5, none⟩ _ (by rw [(H2.out).top.col]; simp), ⟨(H2.out).wf.r, (H2.out).wf.gen, (H2.out).wf.bank, (H2.out).wf.b, Nat.le_refl _⟩⟩, ((HE2.out).obs (by simp)).trans (e3.obs (by simp))⟩
    · rw [hk] at hlay
      rw [if_neg (by rw [hk]; decide), hk] at e
      rw [e]
      have HK := Lib.hid hk
      clear hk e
      go_enter Try.func17, Try.ntmps17
      go_upto_region 1 with fail
      refine X_begin [] [] (fun _ => True) (by kernel_rfl) ?_
      refine X_pure 0 rfl (by kernel_rfl) (by kernel_rfl) (by kernel_rfl) (by kernel_rfl) (fun _ _ _ h => h) rfl (by intro w; go_simp; first | done | with_reducible rfl) ?_
      try simp only [Act.put, List.setIfInBounds_toArray, List.set_cons_zero, List.set_cons_succ]
      refine X_pure 1 rfl (by kernel_rfl) (by kernel_rfl) (by kernel_rfl) (by kernel_rfl) (fun _ _ _ h => h) rfl (by intro w; go_simp; first | done | with_reducible rfl) ?_
      try simp only [Act.put, List.setIfInBounds_toArray, List.set_cons_zero, List.set_cons_succ]
      refine X_pure 2 rfl (by kernel_rfl) (by kernel_rfl) (by kernel_rfl) (by kernel_rfl) (fun _ _ _ h => h) rfl (by intro w; go_simp; first | done | with_reducible rfl) ?_
      try simp only [Act.put, List.setIfInBounds_toArray, List.set_cons_zero, List.set_cons_succ]
      refine X_still 3 rfl (by kernel_rfl) (by kernel_rfl) (by kernel_rfl) (by kernel_rfl) rfl (by go_simp; first | done | with_reducible rfl) ?_
      try simp only [Act.put, List.setIfInBounds_toArray, List.set_cons_zero, List.set_cons_succ]
      refine X_pure 4 rfl (by kernel_rfl) (by kernel_rfl) (by kernel_rfl) (by kernel_rfl) (fun _ _ _ h => h) rfl (by intro w; go_simp; first | done | with_reducible rfl) ?_
      try simp only [Act.put, List.setIfInBounds_toArray, List.set_cons_zero, List.set_cons_succ]
      refine X_pure 5 rfl (by kernel_rfl) (by kernel_rfl) (by kernel_rfl) (by kernel_rfl) (fun _ _ _ h => h) rfl (by intro w; go_simp; first | done | with_reducible rfl) ?_
      try simp only [Act.put, List.setIfInBounds_toArray, List.set_cons_zero, List.set_cons_succ]
      refine X_pure 6 rfl (by kernel_rfl) (by kernel_rfl) (by kernel_rfl) (by kernel_rfl) (fun _ _ _ h => h) rfl (by intro w; go_simp; first | done | with_reducible rfl) ?_
      try simp only [Act.put, List.setIfInBounds_toArray, List.set_cons_zero, List.set_cons_succ]
      refine X_still 7 rfl (by kernel_rfl) (by kernel_rfl) (by kernel_rfl) (by kernel_rfl) rfl (by go_simp; first | done | with_reducible rfl) ?_
      try simp only [Act.put, List.setIfInBounds_toArray, List.set_cons_zero, List.set_cons_succ]
      refine X_pure 8 rfl (by kernel_rfl) (by kernel_rfl) (by kernel_rfl) (by kernel_rfl) (fun _ _ _ h => h) rfl (by intro w; go_simp; first | done | with_reducible rfl) ?_
      try simp only [Act.put, List.setIfInBounds_toArray, List.set_cons_zero, List.set_cons_succ]
      refine X_pure 9 rfl (by kernel_rfl) (by kernel_rfl) (by kernel_rfl) (by kernel_rfl) (fun _ _ _ h => h) rfl (by intro w; go_simp; first | done | with_reducible rfl) ?_
      try simp only [Act.put, List.setIfInBounds_toArray, List.set_cons_zero, List.set_cons_succ]
      refine X_done (by kernel_rfl) ?_ _
      go_upto_region 3 with fail
      refine X_begin [] [17] (fun _ => True) (by kernel_rfl) ?_
      refine X_pure 0 rfl (by kernel_rfl) (by kernel_rfl) (by kernel_rfl) (by kernel_rfl) (fun _ _ _ h => h) rfl (by intro w; go_simp; first | done | with_reducible rfl) ?_
      try simp only [Act.put, List.setIfInBounds_toArray, List.set_cons_zero, List.set_cons_succ]
      refine X_pure 1 rfl (by kernel_rfl) (by kernel_rfl) (by kernel_rfl) (by kernel_rfl) (fun _ _ _ h => h) rfl (by intro w; go_simp; first | done | with_reducible rfl) ?_
      try simp only [Act.put, List.setIfInBounds_toArray, List.set_cons_zero, List.set_cons_succ]
      refine X_pure 2 rfl (by kernel_rfl) (by kernel_rfl) (by kernel_rfl) (by kernel_rfl) (fun _ _ _ h => h) rfl (by intro w; go_simp; first | done | with_reducible rfl) ?_
      try simp only [Act.put, List.setIfInBounds_toArray, List.set_cons_zero, List.set_cons_succ]
      refine X_pure 3 rfl (by kernel_rfl) (by kernel_rfl) (by kernel_rfl) (by kernel_rfl) (fun _ _ _ h => h) rfl (by intro w; go_simp; first | done | with_reducible rfl) ?_
      try simp only [Act.put, List.setIfInBounds_toArray, List.set_cons_zero, List.set_cons_succ]
      refine X_still 4 rfl (by kernel_rfl) (by kernel_rfl) (by kernel_rfl) (by kernel_rfl) rfl (by go_simp; first | done | with_reducible rfl) ?_
      try simp only [Act.put, List.setIfInBounds_toArray, List.set_cons_zero, List.set_cons_succ]
      refine X_pure 5 rfl (by kernel_rfl) (by kernel_rfl) (by kernel_rfl) (by kernel_rfl) (fun _ _ _ h => h) rfl (by intro w; go_simp; first | done | with_reducible rfl) ?_
      try simp only [Act.put, List.setIfInBounds_toArray, List.set_cons_zero, List.set_cons_succ]
      refine X_pure 6 rfl (by kernel_rfl) (by kernel_rfl) (by kernel_rfl) (by kernel_rfl) (fun _ _ _ h => h) rfl (by intro w; go_simp; first | done | with_reducible rfl) ?_
      try simp only [Act.put, List.setIfInBounds_toArray, List.set_cons_zero, List.set_cons_succ]
      refine X_pure 7 rfl (by kernel_rfl) (by kernel_rfl) (by kernel_rfl) (by kernel_rfl) (fun _ _ _ h => h) rfl (by intro w; go_simp; first | done | with_reducible rfl) ?_
      try simp only [Act.put, List.setIfInBounds_toArray, List.set_cons_zero, List.set_cons_succ]
      refine X_still 8 rfl (by kernel_rfl) (by kernel_rfl) (by kernel_rfl) (by kernel_rfl) rfl (by go_simp; first | done | with_reducible rfl) ?_
      try simp only [Act.put, List.setIfInBounds_toArray, List.set_cons_zero, List.set_cons_succ]
      refine X_pure 9 rfl (by kernel_rfl) (by kernel_rfl) (by kernel_rfl) (by kernel_rfl) (fun _ _ _ h => h) rfl (by intro w; go_simp; first | done | with_reducible rfl) ?_
      try simp only [Act.put, List.setIfInBounds_toArray, List.set_cons_zero, List.set_cons_succ]
      refine X_pure 10 rfl (by kernel_rfl) (by kernel_rfl) (by kernel_rfl) (by kernel_rfl) (fun _ _ _ h => h) rfl (by intro w; go_simp; first | done | with_reducible rfl) ?_
      try simp only [Act.put, List.setIfInBounds_toArray, List.set_cons_zero, List.set_cons_succ]
      refine X_pure 11 rfl (by kernel_rfl) (by kernel_rfl) (by kernel_rfl) (by kernel_rfl) (fun _ _ _ h => h) rfl (by intro w; go_simp; first | done | with_reducible rfl) ?_
      try simp only [Act.put, List.setIfInBounds_toArray, List.set_cons_zero, List.set_cons_succ]
      refine X_still 12 rfl (by kernel_rfl) (by kernel_rfl) (by kernel_rfl) (by kernel_rfl) rfl (by go_simp; first | done | with_reducible rfl) ?_
      try simp only [Act.put, List.setIfInBounds_toArray, List.set_cons_zero, List.set_cons_succ]
      refine X_pure 13 rfl (by kernel_rfl) (by kernel_rfl) (by kernel_rfl) (by kernel_rfl) (fun _ _ _ h => h) rfl (by intro w; go_simp; first | done | with_reducible rfl) ?_
      try simp only [Act.put, List.setIfInBounds_toArray, List.set_cons_zero, List.set_cons_succ]
      refine X_pure 14 rfl (by kernel_rfl) (by kernel_rfl) (by kernel_rfl) (by kernel_rfl) (fun _ _ _ h => h) rfl (by intro w; go_simp; first | done | with_reducible rfl) ?_
      try simp only [Act.put, List.setIfInBounds_toArray, List.set_cons_zero, List.set_cons_succ]
      refine X_pure 15 rfl (by kernel_rfl) (by kernel_rfl) (by kernel_rfl) (by kernel_rfl) (fun _ _ _ h => h) rfl (by intro w; go_simp; first | done | with_reducible rfl) ?_
      try simp only [Act.put, List.setIfInBounds_toArray, List.set_cons_zero, List.set_cons_succ]
      refine X_still 16 rfl (by kernel_rfl) (by kernel_rfl) (by kernel_rfl) (by kernel_rfl) rfl (by go_simp; first | done | with_reducible rfl) ?_
      try simp only [Act.put, List.setIfInBounds_toArray, List.set_cons_zero, List.set_cons_succ]
      refine X_op 17 rfl (by kernel_rfl) (by kernel_rfl) (by kernel_rfl) ?_
      go_wp2_with (go_at_call 45; refine (hlay.out).mono ?_; rintro e w2 ⟨c2, rfl, hR, hE⟩)
      have HR2 := Lib.hid hR
      have HE2 := Lib.hid (ed.none.trans hE)
      clear hR hE
      try simp only [Act.put, List.setIfInBounds_toArray, List.set_cons_zero, List.set_cons_succ]
      refine X_pure 18 rfl (by kernel_rfl) (by kernel_rfl) (by kernel_rfl) (by kernel_rfl) (fun _ _ _ h => h) rfl (by intro w; go_simp; first | done | with_reducible rfl) ?_
      try simp only [Act.put, List.setIfInBounds_toArray, List.set_cons_zero, List.set_cons_succ]
      refine X_done (by kernel_rfl) ?_ _
      go_wp2_with fail
      go_ret
      exact ⟨c2, rfl, HR2.out, (HL.out).keep HE2.out nz, (HE2.out).obs (by simp)⟩
end Go.Proofs.Ytfeacmlnlljnnaa

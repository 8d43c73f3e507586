/- Package lane: the walk of stream. -/
import Derived.Test.YtfeacmlnlljnnaaLaneF
namespace Go.Proofs.Ytfeacmlnlljnnaa
open Go Go.Proofs Go.RowKit

set_option maxRecDepth 100000 in
set_option maxHeartbeats 4000000 in
theorem stream_in (c : Col) (w : World) (X d Z l : Nat) (D : DiskM) (L : LaneM) (hX : 1 ≤ X) (hZ : Z ≠ X) (hD : DiskRep c w X d D) (hL : LaneRep c w Z l d L) (hr : L.r < D.n) (hsz : 514 ≤ D.size) (hw9 : (D.waits L.r).length ≤ 900000) (x : Nat × Nat) :
    Calls Try.prog 53 #[.pointer (some ⟨l, 0, none⟩)] w (GotS c w x (stream (fun s => D.read L.r (2 + L.bank * 256 + s)) L.gen)) := by
  obtain ⟨N, hfn, hf⟩ := big_col c w (X + Z)
  have HF := Lib.hid hf
  have hwf : L.WF := by obtain ⟨bv, h⟩ := hL; exact h.wf
  have hbk := hwf.bank
  have hgn := hwf.gen
  have h0 : StrAt c w X d Z l N D L [] (.slice none 0 0) c w := ⟨hD, hL, Own.nil c w (N, 0), Ext.refl _ _ _⟩
  have H0 := Lib.hid h0
  have HW := Lib.hid hw9
  clear hf hD hL h0 hwf hw9
  obtain ⟨F, hF⟩ : ∃ F, F = 2 + L.bank * 256 := ⟨_, rfl⟩
  rw [← hF]
  obtain ⟨rd, hrd⟩ : ∃ rd : Nat → Bs, rd = fun s => D.read L.r (F + s) := ⟨_, rfl⟩
  rw [← hrd]
  have HF2 := Lib.hid hF
  have HRD := Lib.hid hrd
  have hF258 : F ≤ 258 := by omega
  clear hF hrd
  unfold stream
  go_enter Try.func53, Try.ntmps53
  go_wp2_with fail
  go_loopw [10, 4] (fun i v wx => ∃ n : Nat, n ≤ 256 ∧ i = .int .i64 (n : Int) ∧ (streamN rd L.gen n).2 = false ∧ Hid (∃ c', StrAt c w X d Z l N D L (streamN rd L.gen n).1 v c' wx)) (fun i _ _ => 256 - (intOf i).toNat)
  case atStart => exact ⟨0, by omega, rfl, rfl, c, H0.out⟩
  case round =>
    obtain ⟨n, hn, rfl, hst, hrel⟩ := hrel
    obtain ⟨c1, h1⟩ := hrel.out
    clear hrel
    obtain ⟨p, cap, rfl⟩ := h1.own.form
    have HST := Lib.hid hst
    by_cases hlt : n < 256
    · obtain ⟨bv, hla⟩ := h1.lane
      have k0 : wr.cell? ⟨l, 0, none⟩ = some (.pointer (some ⟨d, 0, none⟩)) := (hla.top.cell 0).trans rfl
      have k1 : wr.cell? ⟨l, 1, none⟩ = some (.int .i64 (L.r : Int)) := (hla.top.cell 1).trans rfl
      have k3 : wr.cell? ⟨l, 3, none⟩ = some (.int .i64 (L.bank : Int)) := (hla.top.cell 3).trans rfl
      have ed : Ext (Obs []) c1 wr c1 wr.drew := (Ext.refl (Obs []) c1 wr).drew
      have h1d := h1.quiet ed
      obtain ⟨T, hT⟩ : ∃ T, T = F + n := ⟨_, rfl⟩
      have hfi := first_in wr.drew L.bank hbk
      rw [← HF2.out] at hfi
      have hwrap : IntKind.i64.wrap ((F : Int) + (n : Int)) = (T : Int) := by rw [IntWalk.i64_in _ ⟨by omega, by omega⟩]; omega
      have hred := Lib.hid (read_in c1 wr.drew X d D L.r T h1d.disk hr (by omega) (by have := HW.out; omega) (0, 0))
      have hx : D.read L.r T = rd n := by rw [HRD.out, hT]
      rw [hx] at hred
      have hx64 : (rd n).length = 64 := by rw [← hx]; exact h1d.disk.wf.read _ _
      have H1 := Lib.hid h1d
      clear h1 h1d hla hT hst hx
      go_upto_region 5 with fail
      refine X_begin [] [15] (fun _ => True) (by kernel_rfl) ?_
      refine X_pure 0 rfl (by kernel_rfl) (by kernel_rfl) (by kernel_rfl) (by kernel_rfl) (fun _ _ _ h => h) rfl (by intro w; go_simp; first | done | with_reducible rfl) ?_
      try simp only [Act.put, List.setIfInBounds_toArray, List.set_cons_zero, List.set_cons_succ]
      refine X_pure 1 rfl (by kernel_rfl) (by kernel_rfl) (by kernel_rfl) (by kernel_rfl) (fun _ _ _ h => h) rfl (by intro w; go_simp; first | done | with_reducible rfl) ?_
      try simp only [Act.put, List.setIfInBounds_toArray, List.set_cons_zero, List.set_cons_succ]
      refine X_pure 2 rfl (by kernel_rfl) (by kernel_rfl) (by kernel_rfl) (by kernel_rfl) (fun _ _ _ h => h) rfl (by intro w; go_simp; first | done | with_reducible rfl) ?_
      try simp only [Act.put, List.setIfInBounds_toArray, List.set_cons_zero, List.set_cons_succ]
      refine X_still 3 rfl (by kernel_rfl) (by kernel_rfl) (by kernel_rfl) (by kernel_rfl) rfl (by go_simp; first | done | with_reducible rfl) ?_
      try simp only [Act.put, List.setIfInBounds_toArray, List.set_cons_zero, List.set_cons_succ]
      refine X_pure 4 rfl (by kernel_rfl) (by kernel_rfl) (by kernel_rfl) (by kernel_rfl) (fun _ _ _ h => h) rfl (by intro w; go_simp; first | done | with_reducible rfl) ?_
      try simp only [Act.put, List.setIfInBounds_toArray, List.set_cons_zero, List.set_cons_succ]
      refine X_pure 5 rfl (by kernel_rfl) (by kernel_rfl) (by kernel_rfl) (by kernel_rfl) (fun _ _ _ h => h) rfl (by intro w; go_simp; first | done | with_reducible rfl) ?_
      try simp only [Act.put, List.setIfInBounds_toArray, List.set_cons_zero, List.set_cons_succ]
      refine X_pure 6 rfl (by kernel_rfl) (by kernel_rfl) (by kernel_rfl) (by kernel_rfl) (fun _ _ _ h => h) rfl (by intro w; go_simp; first | done | with_reducible rfl) ?_
      try simp only [Act.put, List.setIfInBounds_toArray, List.set_cons_zero, List.set_cons_succ]
      refine X_still 7 rfl (by kernel_rfl) (by kernel_rfl) (by kernel_rfl) (by kernel_rfl) rfl (by go_simp; first | done | with_reducible rfl) ?_
      try simp only [Act.put, List.setIfInBounds_toArray, List.set_cons_zero, List.set_cons_succ]
      refine X_pure 8 rfl (by kernel_rfl) (by kernel_rfl) (by kernel_rfl) (by kernel_rfl) (fun _ _ _ h => h) rfl (by intro w; go_simp; first | done | with_reducible rfl) ?_
      try simp only [Act.put, List.setIfInBounds_toArray, List.set_cons_zero, List.set_cons_succ]
      refine X_pure 9 rfl (by kernel_rfl) (by kernel_rfl) (by kernel_rfl) (by kernel_rfl) (fun _ _ _ h => h) rfl (by intro w; go_simp; first | done | with_reducible rfl) ?_
      try simp only [Act.put, List.setIfInBounds_toArray, List.set_cons_zero, List.set_cons_succ]
      refine X_pure 10 rfl (by kernel_rfl) (by kernel_rfl) (by kernel_rfl) (by kernel_rfl) (fun _ _ _ h => h) rfl (by intro w; go_simp; first | done | with_reducible rfl) ?_
      try simp only [Act.put, List.setIfInBounds_toArray, List.set_cons_zero, List.set_cons_succ]
      refine X_still 11 rfl (by kernel_rfl) (by kernel_rfl) (by kernel_rfl) (by kernel_rfl) rfl (by go_simp; first | done | with_reducible rfl) ?_
      try simp only [Act.put, List.setIfInBounds_toArray, List.set_cons_zero, List.set_cons_succ]
      refine X_scall 12 rfl (by kernel_rfl) (by kernel_rfl) (by kernel_rfl) (by kernel_rfl) rfl _ _ (by go_simp; first | done | with_reducible rfl) (hfi) ?_
      try simp only [Act.put, List.setIfInBounds_toArray, List.set_cons_zero, List.set_cons_succ]
      refine X_pure 13 rfl (by kernel_rfl) (by kernel_rfl) (by kernel_rfl) (by kernel_rfl) (fun _ _ _ h => h) rfl (by intro w; go_simp; first | done | with_reducible rfl) ?_
      try simp only [Act.put, List.setIfInBounds_toArray, List.set_cons_zero, List.set_cons_succ]
      refine X_pure 14 rfl (by kernel_rfl) (by kernel_rfl) (by kernel_rfl) (by kernel_rfl) (fun _ _ _ h => h) rfl (by intro w; go_simp; first | done | with_reducible rfl) ?_
      try simp only [Act.put, List.setIfInBounds_toArray, List.set_cons_zero, List.set_cons_succ]
      refine X_op 15 rfl (by kernel_rfl) (by kernel_rfl) (by kernel_rfl) ?_
      go_wp2_with (go_at_call 50; refine (hred.out).mono ?_; rintro e w2 ⟨v2, c2, rfl, hO, hE⟩)
      have H2 := Lib.hid ((H1.out).quiet hE)
      have HO2 := Lib.hid hO
      clear hO hE H1
      try simp only [Act.put, List.setIfInBounds_toArray, List.set_cons_zero, List.set_cons_succ]
      refine X_pure 16 rfl (by kernel_rfl) (by kernel_rfl) (by kernel_rfl) (by kernel_rfl) (fun _ _ _ h => h) rfl (by intro w; go_simp; first | done | with_reducible rfl) ?_
      try simp only [Act.put, List.setIfInBounds_toArray, List.set_cons_zero, List.set_cons_succ]
      refine X_pure 17 rfl (by kernel_rfl) (by kernel_rfl) (by kernel_rfl) (by kernel_rfl) (fun _ _ _ h => h) rfl (by intro w; go_simp; first | done | with_reducible rfl) ?_
      try simp only [Act.put, List.setIfInBounds_toArray, List.set_cons_zero, List.set_cons_succ]
      refine X_pure 18 rfl (by kernel_rfl) (by kernel_rfl) (by kernel_rfl) (by kernel_rfl) (fun _ _ _ h => h) rfl (by intro w; go_simp; first | done | with_reducible rfl) ?_
      try simp only [Act.put, List.setIfInBounds_toArray, List.set_cons_zero, List.set_cons_succ]
      refine X_pure 19 rfl (by kernel_rfl) (by kernel_rfl) (by kernel_rfl) (by kernel_rfl) (fun _ _ _ h => h) rfl (by intro w; go_simp; first | done | with_reducible rfl) ?_
      try simp only [Act.put, List.setIfInBounds_toArray, List.set_cons_zero, List.set_cons_succ]
      refine X_pure 20 rfl (by kernel_rfl) (by kernel_rfl) (by kernel_rfl) (by kernel_rfl) (fun _ _ _ h => h) rfl (by intro w; go_simp; first | done | with_reducible rfl) ?_
      try simp only [Act.put, List.setIfInBounds_toArray, List.set_cons_zero, List.set_cons_succ]
      refine X_done (by kernel_rfl) ?_ _
      have hnew := Lib.hid (newr_in c2 w2 0 v2 _ (HO2.out).rd (N + 1, 0))
      go_upto_region 9 with (go_at_call 51; refine (hnew.out).mono ?_; rintro e w3 ⟨pr, c3, rfl, hR, hE, _⟩)
      have g1 := Lib.hid (num_in c3 w3.drew pr (N + 1, 0) 0 (by simp) _ hR 4 (by omega) (by omega) (by show (rd n).length ≤ _; omega))
      rw [(sec_nums _ hx64).1] at g1
      have h3 := (H2.out).quiet hE
      have HO3 := Lib.hid ((HO2.out).keep hE (fun h => by simp [Obs] at h))
      obtain ⟨bv3, hla⟩ := h3.lane
      have k2 : w3.cell? ⟨l, 2, none⟩ = some (.int .u64 (L.gen : Int)) := (hla.top.cell 2).trans rfl
      have H3 := Lib.hid h3
      clear h3 hla hE hR H2 HO2 hnew hred k0 k1 k3
      refine X_begin [1] [] (fun wz => wz.cell? ⟨l, 2, none⟩ = some (.int .u64 (L.gen : Int))) (by kernel_rfl) ?_
      refine X_pure 0 rfl (by kernel_rfl) (by kernel_rfl) (by kernel_rfl) (by kernel_rfl) (fun _ _ _ h => h) rfl (by intro w; go_simp; first | done | with_reducible rfl) ?_
      try simp only [Act.put, List.setIfInBounds_toArray, List.set_cons_zero, List.set_cons_succ]
      refine X_pure 2 rfl (by kernel_rfl) (by kernel_rfl) (by kernel_rfl) (by kernel_rfl) (fun _ _ _ h => h) rfl (by intro w; go_simp; first | done | with_reducible rfl) ?_
      try simp only [Act.put, List.setIfInBounds_toArray, List.set_cons_zero, List.set_cons_succ]
      refine X_pure 3 rfl (by kernel_rfl) (by kernel_rfl) (by kernel_rfl) (by kernel_rfl) (fun _ _ _ h => h) rfl (by intro w; go_simp; first | done | with_reducible rfl) ?_
      try simp only [Act.put, List.setIfInBounds_toArray, List.set_cons_zero, List.set_cons_succ]
      refine X_pure 4 rfl (by kernel_rfl) (by kernel_rfl) (by kernel_rfl) (by kernel_rfl) (fun _ _ _ h => h) rfl (by intro w; go_simp; first | done | with_reducible rfl) ?_
      try simp only [Act.put, List.setIfInBounds_toArray, List.set_cons_zero, List.set_cons_succ]
      refine X_held 5 rfl (by kernel_rfl) (by kernel_rfl) (by kernel_rfl) (by kernel_rfl) (by kernel_rfl) (fun _ _ _ h => h) (k2) rfl (by intro w hS; go_simp; first | done | with_reducible rfl) ?_
      try simp only [Act.put, List.setIfInBounds_toArray, List.set_cons_zero, List.set_cons_succ]
      refine X_opS 1 rfl (by kernel_rfl) (by kernel_rfl) ?_
      go_wp2_with (go_at_call 52; refine (g1.out).mono ?_; rintro e w4 ⟨c4, rfl, hR, hE⟩)
      have h4 := ((H3.out).quiet (Ext.refl (Obs []) c3 w3).drew).read hfn hE
      have HO4 : Hid (Own c4 w4 (0, 0) v2 (rd n)) := Lib.hid (Own.keep (show Own c3 w3.drew (0, 0) v2 (rd n) from HO3.out) hE (by simp))
      obtain ⟨bv4, hla⟩ := h4.lane
      refine ⟨(hla.top.cell 2).trans rfl, ?_⟩
      have H4 := Lib.hid h4
      have hg2 := Lib.hid (num_in c4 w4 pr (N + 1, 0) 0 (by simp) _ hR 1 (by omega) (by omega) (by show ((rd n).drop 4).length ≤ _; rw [List.length_drop]; omega))
      rw [(sec_nums _ hx64).2] at hg2
      clear h4 hla hR hE H3 HO3 g1 k2
      try simp only [Act.put, List.setIfInBounds_toArray, List.set_cons_zero, List.set_cons_succ]
      refine X_pure 6 rfl (by kernel_rfl) (by kernel_rfl) (by kernel_rfl) (by kernel_rfl) (fun _ _ _ h => h) rfl (by intro w; go_simp; first | done | with_reducible rfl) ?_
      try simp only [Act.put, List.setIfInBounds_toArray, List.set_cons_zero, List.set_cons_succ]
      refine X_done (by kernel_rfl) ?_ _
      by_cases hgen : sGen (rd n) = L.gen
      · obtain ⟨V, hV⟩ : ∃ V, V = val (((rd n).drop 4).take 1) := ⟨_, rfl⟩
        rw [← hV] at hg2
        have hV256 : V < 256 := by
          rw [hV]
          refine Nat.lt_of_lt_of_le (val_lt _) ?_
          have := Nat.pow_le_pow_right (n := 256) (by omega) (show (((rd n).drop 4).take 1).length ≤ 1 by rw [List.length_take]; omega)
          simpa using this
        obtain ⟨K, hK⟩ : ∃ K, K = sLen (rd n) := ⟨_, rfl⟩
        have hif : (if (56 : Int) < (V : Int) then (56 : Int) else (V : Int)) = (K : Int) := by rw [hK]; unfold sLen; rw [← hV]; split <;> omega
        have hK56 : K ≤ 56 := by rw [hK]; unfold sLen; omega
        obtain ⟨q2, cap2, rfl⟩ := (HO4.out).form
        obtain ⟨g, o, rfl, _, _⟩ := (HO4.out).rd.addr (by omega)
        have hcap : 64 ≤ cap2 := by
          obtain ⟨p', cap', e, h1, _⟩ := Own.rd HO4.out
          simp only [Value.slice.injEq] at e
          obtain ⟨_, _, rfl⟩ := e
          omega
        rw [hx64]
        have HKK := Lib.hid hK
        have HIF := Lib.hid hif
        clear hV hK hif
        go_upto_region 11 with (go_at_call 52; refine (hg2.out).mono ?_; rintro e w5 ⟨c5, rfl, hR, hE⟩; have H5 := Lib.hid ((H4.out).read hfn hE); have HO5 := Lib.hid (Own.keep HO4.out hE (by simp)); clear hR hE H4 HO4 hg2)
        simp only [HIF.out]
        have hrdp := ((Own.rd HO5.out).drop 8 (by omega)).take K (by rw [List.length_drop]; omega)
        have hsp : ((rd n).drop 8).take K = sPart (rd n) := by unfold sPart; rw [HKK.out]
        rw [hsp] at hrdp
        have HSRC := Lib.hid hrdp.src
        have hl1 := streamN_len rd L.gen n
        have hl2 := sPart_len (rd n)
        clear hrdp hsp
        have e1 : streamN rd L.gen (n + 1) = ((streamN rd L.gen n).1 ++ sPart (rd n), decide (K < 56)) := by rw [streamN, if_neg (by rw [HST.out]; simp), if_pos hgen, HKK.out]
        have HE1 := Lib.hid e1
        clear e1
        by_cases hk : K < 56
        · go_wp2_with (at_builtin; go_must (refine append_bb rfl (.tmp 48) (.tmp 52) 44 rfl c5 (N, 0) _ _ rfl (H5.out).own (.slice (some ⟨g, o + 8, none⟩) K (cap2 - 8)) (by go_simp <;> omega) (sPart (rd n)) HSRC.out (by omega) ?_); intro v6 w6 c6 hO hE; have H6 := Lib.hid (StrAt.mk (bs := (streamN rd L.gen n).1 ++ sPart (rd n)) ((H5.out).disk.keep hE.own (fun q h => by simp at h; omega)) ((H5.out).lane.keep hE.own (fun q h => by simp at h; omega)) hO ((H5.out).ext.trans (hE.own.one (by simp)))); clear hO hE)
          go_ret2
          have e2 := streamN_stop rd L.gen (n + 1) 256 (by omega) (by rw [HE1.out]; simpa using hk)
          rw [e2, HE1.out]
          have hz : ∀ k, k < w.heap.size → c k ≠ (N, 0) := fun k hk e => by have := HF.out k hk; rw [e] at this; exact this (by simp)
          exact ⟨_, recol c6 (N, 0) x, rfl, (H6.out).own.recol x, ((H6.out).ext.big HF.out).recol hz x⟩
        · go_wp2_with (at_builtin; go_must (refine append_bb rfl (.tmp 48) (.tmp 52) 44 rfl c5 (N, 0) _ _ rfl (H5.out).own (.slice (some ⟨g, o + 8, none⟩) K (cap2 - 8)) (by go_simp <;> omega) (sPart (rd n)) HSRC.out (by omega) ?_); intro v6 w6 c6 hO hE; have H6 := Lib.hid (StrAt.mk (bs := (streamN rd L.gen n).1 ++ sPart (rd n)) ((H5.out).disk.keep hE.own (fun q h => by simp at h; omega)) ((H5.out).lane.keep hE.own (fun q h => by simp at h; omega)) hO ((H5.out).ext.trans (hE.own.one (by simp)))); clear hO hE)
          refine ⟨⟨n + 1, hlt, rfl, ?_, c6, ?_⟩, by simp [intOf] <;> omega⟩
          · rw [HE1.out]; simpa using hk
          · rw [HE1.out]; exact H6.out
      · go_wp2_with fail
        go_ret2
        have e : streamN rd L.gen (n + 1) = ((streamN rd L.gen n).1, true) := by rw [streamN, if_neg (by rw [HST.out]; simp), if_neg hgen]
        have e2 := streamN_stop rd L.gen (n + 1) 256 (by omega) (by rw [e])
        rw [e2, e]
        have hz : ∀ k, k < w.heap.size → c k ≠ (N, 0) := fun k hk e => by have := HF.out k hk; rw [e] at this; exact this (by simp)
        exact ⟨_, recol c4 (N, 0) x, rfl, (H4.out).own.recol x, ((H4.out).ext.big HF.out).recol hz x⟩
    · obtain rfl : n = 256 := by omega
      have H1 := Lib.hid h1
      clear h1 hst
      go_wp2_with fail
      go_ret2
      have hz : ∀ k, k < w.heap.size → c k ≠ (N, 0) := fun k hk e => by have := HF.out k hk; rw [e] at this; exact this (by simp)
      exact ⟨_, recol c1 (N, 0) x, rfl, (H1.out).own.recol x, ((H1.out).ext.big HF.out).recol hz x⟩
end Go.Proofs.Ytfeacmlnlljnnaa

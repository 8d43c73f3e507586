/- Statements of layer 7: the walk of LaneRuns. -/
import Derived.Test.YtfeacmlnlljnnaaLawGb
import Derived.Test.YtfeacmlnlljnnaaLawGc
import Derived.Test.YtfeacmlnlljnnaaLawGd
import Derived.Test.YtfeacmlnlljnnaaLawGe
import Derived.Test.YtfeacmlnlljnnaaLawGf
import Derived.Deep.CutBlock
namespace Go.Proofs.Ytfeacmlnlljnnaa
open Go Go.Proofs Go.RowKit

set_option maxRecDepth 100000 in
set_option maxHeartbeats 4000000 in
theorem laneRuns_in (c : Col) (w : World) (Y : Nat) (v : Value) (ds : List Deed) (hv : Deeds c w Y v ds) : Calls Try.prog 3 #[v] w (SaysT c w) := by
  obtain ⟨N, hfn, hf⟩ := big_col c w Y
  obtain ⟨⟨p, cap, rfl, hcap, hmax, _⟩, _⟩ := id hv
  have HF := Lib.hid hf
  have HV := Lib.hid hv
  have hfit := Lib.hid (fit7_in c w)
  clear hf hv
  go_enter Try.func3, Try.ntmps3
  go_upto_region 3 with (go_at_call 9; refine (hfit.out).mono ?_; rintro e w1 ⟨rfl, c1, hE⟩; have HV1 := Lib.hid ((HV.out).keep hE (fun q h => by simp [Obs] at h)); have E1 := Lib.hid hE; clear hfit hE HV)
  have hlight := Lib.hid (light_in c1 w1 Y _ ds HV1.out)
  go_upto_if 30 with (go_at_call 10; refine (hlight.out).mono ?_; rintro e w2 ⟨bl, rfl, hb, c2, hE⟩; have HV2 := Lib.hid ((HV1.out).keep hE (fun q h => by simp [Obs] at h)); have E2 := Lib.hid ((E1.out).trans hE); have HBL := Lib.hid hb; clear hlight hE hb HV1 E1)
  cases bl with
  | false =>
    go_wp2_with fail
    go_ret
    exact ⟨rfl, c2, E2.out⟩
  | true =>
    obtain ⟨h60, hdl⟩ := (HBL.out) rfl
    have HDL := Lib.hid hdl
    clear hdl HBL
    have hnew := Lib.hid (new_in c2 w2 N 1 538 (by omega) (by omega) (by omega) (by omega))
    go_upto_region 6 with (go_at_call 11; refine (hnew.out).mono ?_; rintro e w3 ⟨c3, d, rfl, hD, hE⟩; have HD := Lib.hid hD; have E3 := Lib.hid ((E2.out).trans hE); have HV3 := Lib.hid ((HV2.out).keep hE (fun q h => by simp [Obs] at h)); clear hnew hD hE E2 HV2)
    obtain ⟨h1, h2, h3, h4⟩ := new_inv (D := DiskM.new 1 538) (r := 0) rfl rfl (by omega)
    have hln := lnew_in c3 w3 N (N + 2) d (DiskM.new 1 538) 0 (by omega) (by omega) HD.out (by show 0 < 1; omega) (by omega) (by show 514 ≤ 538; omega) (by show (0 : Nat) ≤ 800000; omega)
    have hok0 : RunOk (newD (DiskM.new 1 538) 0).1 (newL 0) [checkRec] 1 0 := ⟨h2, rfl, h3.n, h3.size, Nat.le_refl 1⟩
    obtain ⟨P1, hP1⟩ : ∃ P, P = newD (DiskM.new 1 538) 0 := ⟨_, rfl⟩
    rw [← hP1] at h1 hln hok0
    have HLN := Lib.hid hln
    have H1 := Lib.hid h1
    have HOK0 := Lib.hid hok0
    clear hln h1 h2 h3 h4 hP1 hok0
    go_upto_region 7 with (go_at_call 12; refine (HLN.out).mono ?_; intro e w4 hq; obtain ⟨c4, l, rfl, hD, hL, hE⟩ := newed_ok hq H1.out; have HD4 := Lib.hid hD; have HL4 := Lib.hid hL; have E4 := Lib.hid ((E3.out).none.trans (hE.ob (N := N) (Nat.le_refl _))); have HV4 := Lib.hid ((HV3.out).keep hE (fun q h => by simp [Obs] at h; omega)); clear hq hD hL hE HLN HD E3 HV3)
    go_upto_region 8 with fail
    have b5 := Blk.new c4 w4 (recCells checkRec (.slice none 0 0)) 33 (N + 1, 0)
    have e5 := (Ext.refl (Obs []) c4 w4).alloc (.cells (recCells checkRec (.slice none 0 0)).toArray 33) (N + 1, 0)
    have hrecs : Recs (setc c4 w4.heap.size (N + 1, 0)) (w4.alloc (.cells (recCells checkRec (.slice none 0 0)).toArray 33)) (N + 1) (.slice (some ⟨w4.heap.size, 0, none⟩) 1 1) [checkRec] :=
      ⟨[(checkRec, .slice none 0 0)], rfl, ⟨_, 1, rfl, Nat.le_refl _, by simp [maxLen], fun j u hj => ⟨w4.heap.size, 0, rfl, b5.lt, by rw [b5.col], by rw [Nat.zero_add]; exact (b5.cell j).trans (by simpa using hj)⟩⟩, fun p hp => by
        rw [List.mem_singleton] at hp; rw [hp]
        exact nilDirt _ _ _ checkRec rfl⟩
    have hrel : Rel7 c w N Y d l (.slice p ds.length cap) ds (.slice (some ⟨w4.heap.size, 0, none⟩) 1 1) 1 0 (w4.alloc (.cells (recCells checkRec (.slice none 0 0)).toArray 33)) :=
      ⟨_, N + 2, P1.1, newL 0, [checkRec], Nat.le_refl _, (HD4.out).keep e5 (fun q h => by simp [Obs] at h), (HL4.out).keep e5 (fun q h => by simp [Obs] at h), hrecs, (HV4.out).keep e5 (fun q h => by simp [Obs] at h), (E4.out).trans e5.none, HOK0.out⟩
    obtain ⟨w5, hw5⟩ : ∃ w5, w5 = w4.alloc (.cells (recCells checkRec (.slice none 0 0)).toArray 33) := ⟨_, rfl⟩
    rw [← hw5] at hrel
    have hw5' : w4.alloc (.cells #[Value.int .i64 1, .int .i64 0, .int .i64 0, .int .i64 0, .string ⟨#[]⟩, .string ⟨#[]⟩, .string ⟨#[]⟩, .slice none 0 0] 33) = w5 := hw5.symm
    rw [hw5']
    generalize w4.heap.size = p5 at hrel ⊢
    have HREL := Lib.hid hrel
    clear b5 e5 hrecs hw5 hw5' hrel HD4 HL4 E4 HV4 HOK0 H1
    go_upto_region 11 with fail
    go_loopw [4, 6, 7, 8, 9, 10, 41] (fun x all sure other down anew i wx => ∃ n l k, n ≤ ds.length ∧ i = .int .i64 ((n : Nat) : Int) ∧ x = .pointer (some ⟨l, 0, none⟩) ∧ sure = .int .i64 ((k : Nat) : Int) ∧ down = .bool false ∧ anew = .bool false ∧ Hid (Rel7 c w N Y d l (.slice p ds.length cap) ds all k n wx)) (fun _ _ _ _ _ _ i _ => ds.length - (intOf i).toNat)
    case atStart => exact ⟨0, l, 1, Nat.zero_le _, rfl, rfl, rfl, rfl, rfl, HREL.out⟩
    case round =>
      obtain ⟨n, l, k, hn, rfl, rfl, rfl, rfl, rfl, hrel⟩ := hrel
      obtain ⟨c6, Z, D, L, rs, hZ, hD, hL, hR, hDs, hE, hok⟩ := hrel.out
      clear hrel HREL
      by_cases hlt : n < ds.length
      rotate_left
      · have HE := Lib.hid hE
        clear hD hL hR hDs hE hok
        go_wp2_with fail
        go_ret
        exact ⟨rfl, c6, (HE.out).big HF.out⟩
      · obtain ⟨dd, hdd⟩ : ∃ dd, ds[n]? = some dd := ⟨_, List.getElem?_eq_getElem hlt⟩
        obtain ⟨g, o, rfl, hcells⟩ := hDs.at hdd
        have hmem := List.mem_of_getElem? hdd
        obtain ⟨hwf, hdirt⟩ := hDs.2 dd hmem
        have hdl := HDL.out dd hmem
        obtain ⟨dkind, dnum, sk, st, sp, ss, sb, sa, si, sdv, sdirty, smask⟩ := dd
        obtain ⟨q, dcap, hdv, _⟩ := id hdirt
        obtain rfl : sdv = .slice q sdirty.length dcap := hdv
        have HWF := Lib.hid hwf
        have HDT := Lib.hid hdirt
        have HDDL := Lib.hid hdl
        have HMEM := Lib.hid hmem
        have k0 := hcells 0 _ rfl
        rw [Nat.add_zero] at k0
        have k1 := hcells 1 _ rfl
        have k2 := hcells 2 _ rfl
        have k3 := hcells 3 _ rfl
        have k4 := hcells 4 _ rfl
        have k5 := hcells 5 _ rfl
        have k6 := hcells 6 _ rfl
        have k7 := hcells 7 _ rfl
        have k8 := hcells 8 _ rfl
        have k9 := hcells 9 _ rfl
        have k10 := hcells 10 _ rfl
        dsimp only at k0 k1 k2 k3 k4 k5 k6 k7 k8 k9 k10
        obtain ⟨dd, hdd2⟩ : ∃ dd : Deed, dd = ⟨dkind, dnum, sk, st, sp, ss, sb, sa, si, .slice q sdirty.length dcap, sdirty, smask⟩ := ⟨_, rfl⟩
        have HDD := Lib.hid hdd2
        have e0 := (Ext.refl (Obs []) c6 wr).alloc (.cells (deedCells dd).toArray 39) (N + 1, 7)
        have b0 := Blk.new c6 wr (deedCells dd) 39 (N + 1, 7)
        have hat : RunAt c w N Y d Z l wr.heap.size (.slice (some ⟨g, o, none⟩) ds.length cap) ds dd D L u6 rs _ _ := ⟨hD.keep e0 (fun q h => by simp [Obs] at h), hL.keep e0 (fun q h => by simp [Obs] at h), hR.keep e0 (fun q h => by simp [Obs] at h), hDs.keep e0 (fun q h => by simp [Obs] at h), b0, hE.trans e0.none⟩
        have HAT0 := Lib.hid hat
        have HOK := Lib.hid hok
        clear hcells hmem hwf hdirt hdl hdd hD hL hR hDs hE hok e0 b0 hat hdd2
        go_upto_region 13 with fail
        clear k0 k1 k2 k3 k4 k5 k6 k7 k8 k9 k10
        have hd7 : wr.alloc (.cells (deedCells dd).toArray 39) = wr.alloc (.cells #[.int .i64 dkind, .int .i64 dnum, .int .i64 sk, .int .i64 st, .int .i64 sp, .int .i64 ss, .int .u8 sb, .int .u8 sa, .int .u8 si, .slice q sdirty.length dcap, .int .u64 (smask : Int)] 39) := by rw [HDD.out]; rfl
        have hat := HAT0.out
        rw [hd7] at hat
        clear HAT0 hd7
        generalize setc c6 wr.heap.size (N + 1, 7) = c7 at hat
        generalize wr.alloc (.cells #[.int .i64 dkind, .int .i64 dnum, .int .i64 sk, .int .i64 st, .int .i64 sp, .int .i64 ss, .int .u8 sb, .int .u8 sa, .int .u8 si, .slice q sdirty.length dcap, .int .u64 (smask : Int)] 39) = w7 at hat ⊢
        generalize wr.heap.size = pk at hat ⊢
        have k0 : w7.cell? ⟨pk, 0, none⟩ = some (.int .i64 dkind) := by rw [hat.box.cell, HDD.out]; rfl
        have HAT := Lib.hid hat
        clear hat
        obtain ⟨Kd, hKd⟩ : ∃ Kd, Kd = (dkind % 5).toNat := ⟨_, rfl⟩
        have hKw : (wrap64 (dkind.tmod 5 + 5)).tmod 5 = (Kd : Int) := by
          have h1 := tm_eq dkind 5 (by omega)
          have h2 : wrap64 (dkind.tmod 5 + 5) = dkind.tmod 5 + 5 := by unfold wrap64; omega
          rw [h2, tmm dkind 5 (by omega), hKd]; omega
        have hK5 : Kd < 5 := by omega
        have HKW := Lib.hid hKw
        clear hKd hKw
        go_upto_block 2 with fail
        clear k0
        simp only [HKW.out]
        rename_i Q1 K1 a1 K2 a2
        have hn60 : n ≤ 1000 := by omega
        have hmask : dd.mask < 18446744073709551616 := by rw [HDD.out]; exact (HWF.out).mask
        have hmem : dd ∈ ds := by rw [HDD.out]; exact HMEM.out
        have hdl : dd.dirty.length ≤ 100 := by rw [HDD.out]; exact HDDL.out
        have hEQ : Exit.inBlock 1 (Exit.then K1 Q1) = Exit.then K1 (Exit.inBlock 1 (Exit.then K1 Q1)) := by funext e a w; cases e <;> rfl
        have hcases : Kd = 0 ∨ Kd = 1 ∨ Kd = 2 ∨ Kd = 3 ∨ Kd = 4 := by omega
        rcases hcases with rfl | rfl | rfl | rfl | rfl
        · refine deed0 c w N Y d l pk _ ds dd _ k n Z D L rs c7 w7 hfn hZ HAT.out HOK.out hn60 hmem hdl _ _ _ _ _ _ _ _ _ _ _ _ _ _ _ _ _ _ _ _ _ _ _ _ _ _ _ _ _ _ _ _ _ _ _ _ _ _ _ _ _ _ _ _ _ _ _ _ _ _ _ _ _ _ _ _ _ _ _ _ _ _ _ _ _ _ _ _ _ _ _ _ _ _ _ _ _ _ _ _ _ _ _ _ _ _ _ _ _ _ _ _ _ _ _ _ _ _ _ _ _ _ _ _ _ _ _ _ _ _ _ _ _ _ _ _ _ _ _ _ _ _ _ _ _ _ _ _ _ _ _ _ _ _ _ _ _ _ _ _ _ _ _ _ _ _ _ _ _ _ _ _ _ _ _ _ _ _ _ _ _ _ _ _ _ _ _ _ _ _ _ _ _ _ _ _ _ _ _ _ _ _ _ _ _ _ _ _ _ _ _ _ _ _ _ _ _ _ _ _ _ _ _ _ _ _ _ _ _ _ _ _ _ _ _ _ _ _ _ _ _ _ _ _ _ _ _ _ _ _ _ _ _ _ _ _ _ _ _ K2 _ (by intro x a t v w h; cases t <;> exact h) ?_
          intro l2 k2 dn an av2 ov2
          intros
          rename_i w8 hm
          refine a2 _ _ ?_
          rw [hEQ]
          refine after7 c w N Y d l2 pk _ ds dd av2 ov2 k2 n dn an w8 hfn hn60 hmask hm _ _ _ _ _ _ _ _ _ _ _ _ _ _ _ _ _ _ _ _ _ _ _ _ _ _ _ _ _ _ _ _ _ _ _ _ _ _ _ _ _ _ _ _ _ _ _ _ _ _ _ _ _ _ _ _ _ _ _ _ _ _ _ _ _ _ _ _ _ _ _ _ _ _ _ _ _ _ _ _ _ _ _ _ _ _ _ _ _ _ _ _ _ _ _ _ _ _ _ _ _ _ _ _ _ _ _ _ _ _ _ _ _ _ _ _ _ _ _ _ _ _ _ _ _ _ _ _ _ _ _ _ _ _ _ _ _ _ _ _ _ _ _ _ _ _ _ _ _ _ _ _ _ _ _ _ _ _ _ _ _ _ _ _ _ _ _ _ _ _ _ _ _ _ _ _ _ _ _ _ _ _ _ _ _ _ _ _ _ _ _ _ _ _ _ _ _ _ _ _ _ _ _ _ _ _ _ _ _ _ _ _ _ _ _ _ _ _ _ _ _ _ _ _ _ _ _ _ _ _ _ _ _ _ _ _ _ _ _ K1 _ (by intro x a t v w h; cases t <;> exact h) ?_
          intro l3 k3 av3
          intros
          rename_i w9 hr
          have HR := Lib.hid hr
          refine a1 _ _ ?_
          clear hr hm a1 a2
          go_wp2_with fail
          exact ⟨⟨n + 1, l3, k3, hlt, rfl, rfl, rfl, rfl, rfl, HR.out⟩, by simp [intOf] <;> omega⟩
        · refine deed1 c w N Y d l pk _ ds dd _ k n Z D L rs c7 w7 hfn hZ HAT.out HOK.out hn60 hmem hdl _ _ _ _ _ _ _ _ _ _ _ _ _ _ _ _ _ _ _ _ _ _ _ _ _ _ _ _ _ _ _ _ _ _ _ _ _ _ _ _ _ _ _ _ _ _ _ _ _ _ _ _ _ _ _ _ _ _ _ _ _ _ _ _ _ _ _ _ _ _ _ _ _ _ _ _ _ _ _ _ _ _ _ _ _ _ _ _ _ _ _ _ _ _ _ _ _ _ _ _ _ _ _ _ _ _ _ _ _ _ _ _ _ _ _ _ _ _ _ _ _ _ _ _ _ _ _ _ _ _ _ _ _ _ _ _ _ _ _ _ _ _ _ _ _ _ _ _ _ _ _ _ _ _ _ _ _ _ _ _ _ _ _ _ _ _ _ _ _ _ _ _ _ _ _ _ _ _ _ _ _ _ _ _ _ _ _ _ _ _ _ _ _ _ _ _ _ _ _ _ _ _ _ _ _ _ _ _ _ _ _ _ _ _ _ _ _ _ _ _ _ _ _ _ _ _ _ _ _ _ _ _ _ _ _ _ _ _ _ K2 _ (by intro x a t v w h; cases t <;> exact h) ?_
          intro l2 k2 dn an av2 ov2
          intros
          rename_i w8 hm
          refine a2 _ _ ?_
          rw [hEQ]
          refine after7 c w N Y d l2 pk _ ds dd av2 ov2 k2 n dn an w8 hfn hn60 hmask hm _ _ _ _ _ _ _ _ _ _ _ _ _ _ _ _ _ _ _ _ _ _ _ _ _ _ _ _ _ _ _ _ _ _ _ _ _ _ _ _ _ _ _ _ _ _ _ _ _ _ _ _ _ _ _ _ _ _ _ _ _ _ _ _ _ _ _ _ _ _ _ _ _ _ _ _ _ _ _ _ _ _ _ _ _ _ _ _ _ _ _ _ _ _ _ _ _ _ _ _ _ _ _ _ _ _ _ _ _ _ _ _ _ _ _ _ _ _ _ _ _ _ _ _ _ _ _ _ _ _ _ _ _ _ _ _ _ _ _ _ _ _ _ _ _ _ _ _ _ _ _ _ _ _ _ _ _ _ _ _ _ _ _ _ _ _ _ _ _ _ _ _ _ _ _ _ _ _ _ _ _ _ _ _ _ _ _ _ _ _ _ _ _ _ _ _ _ _ _ _ _ _ _ _ _ _ _ _ _ _ _ _ _ _ _ _ _ _ _ _ _ _ _ _ _ _ _ _ _ _ _ _ _ _ _ _ _ _ _ K1 _ (by intro x a t v w h; cases t <;> exact h) ?_
          intro l3 k3 av3
          intros
          rename_i w9 hr
          have HR := Lib.hid hr
          refine a1 _ _ ?_
          clear hr hm a1 a2
          go_wp2_with fail
          exact ⟨⟨n + 1, l3, k3, hlt, rfl, rfl, rfl, rfl, rfl, HR.out⟩, by simp [intOf] <;> omega⟩
        · refine deed2 c w N Y d l pk _ ds dd _ k n Z D L rs c7 w7 hfn hZ HAT.out HOK.out hn60 hmem hdl _ _ _ _ _ _ _ _ _ _ _ _ _ _ _ _ _ _ _ _ _ _ _ _ _ _ _ _ _ _ _ _ _ _ _ _ _ _ _ _ _ _ _ _ _ _ _ _ _ _ _ _ _ _ _ _ _ _ _ _ _ _ _ _ _ _ _ _ _ _ _ _ _ _ _ _ _ _ _ _ _ _ _ _ _ _ _ _ _ _ _ _ _ _ _ _ _ _ _ _ _ _ _ _ _ _ _ _ _ _ _ _ _ _ _ _ _ _ _ _ _ _ _ _ _ _ _ _ _ _ _ _ _ _ _ _ _ _ _ _ _ _ _ _ _ _ _ _ _ _ _ _ _ _ _ _ _ _ _ _ _ _ _ _ _ _ _ _ _ _ _ _ _ _ _ _ _ _ _ _ _ _ _ _ _ _ _ _ _ _ _ _ _ _ _ _ _ _ _ _ _ _ _ _ _ _ _ _ _ _ _ _ _ _ _ _ _ _ _ _ _ _ _ _ _ _ _ _ _ _ _ _ _ _ _ _ _ _ _ K2 _ (by intro x a t v w h; cases t <;> exact h) ?_
          intro l2 k2 dn an av2 ov2
          intros
          rename_i w8 hm
          refine a2 _ _ ?_
          rw [hEQ]
          refine after7 c w N Y d l2 pk _ ds dd av2 ov2 k2 n dn an w8 hfn hn60 hmask hm _ _ _ _ _ _ _ _ _ _ _ _ _ _ _ _ _ _ _ _ _ _ _ _ _ _ _ _ _ _ _ _ _ _ _ _ _ _ _ _ _ _ _ _ _ _ _ _ _ _ _ _ _ _ _ _ _ _ _ _ _ _ _ _ _ _ _ _ _ _ _ _ _ _ _ _ _ _ _ _ _ _ _ _ _ _ _ _ _ _ _ _ _ _ _ _ _ _ _ _ _ _ _ _ _ _ _ _ _ _ _ _ _ _ _ _ _ _ _ _ _ _ _ _ _ _ _ _ _ _ _ _ _ _ _ _ _ _ _ _ _ _ _ _ _ _ _ _ _ _ _ _ _ _ _ _ _ _ _ _ _ _ _ _ _ _ _ _ _ _ _ _ _ _ _ _ _ _ _ _ _ _ _ _ _ _ _ _ _ _ _ _ _ _ _ _ _ _ _ _ _ _ _ _ _ _ _ _ _ _ _ _ _ _ _ _ _ _ _ _ _ _ _ _ _ _ _ _ _ _ _ _ _ _ _ _ _ _ _ K1 _ (by intro x a t v w h; cases t <;> exact h) ?_
          intro l3 k3 av3
          intros
          rename_i w9 hr
          have HR := Lib.hid hr
          refine a1 _ _ ?_
          clear hr hm a1 a2
          go_wp2_with fail
          exact ⟨⟨n + 1, l3, k3, hlt, rfl, rfl, rfl, rfl, rfl, HR.out⟩, by simp [intOf] <;> omega⟩
        · refine deed3 c w N Y d l pk _ ds dd _ k n Z D L rs c7 w7 hfn hZ HAT.out HOK.out hn60 hmem hdl _ _ _ _ _ _ _ _ _ _ _ _ _ _ _ _ _ _ _ _ _ _ _ _ _ _ _ _ _ _ _ _ _ _ _ _ _ _ _ _ _ _ _ _ _ _ _ _ _ _ _ _ _ _ _ _ _ _ _ _ _ _ _ _ _ _ _ _ _ _ _ _ _ _ _ _ _ _ _ _ _ _ _ _ _ _ _ _ _ _ _ _ _ _ _ _ _ _ _ _ _ _ _ _ _ _ _ _ _ _ _ _ _ _ _ _ _ _ _ _ _ _ _ _ _ _ _ _ _ _ _ _ _ _ _ _ _ _ _ _ _ _ _ _ _ _ _ _ _ _ _ _ _ _ _ _ _ _ _ _ _ _ _ _ _ _ _ _ _ _ _ _ _ _ _ _ _ _ _ _ _ _ _ _ _ _ _ _ _ _ _ _ _ _ _ _ _ _ _ _ _ _ _ _ _ _ _ _ _ _ _ _ _ _ _ _ _ _ _ _ _ _ _ _ _ _ _ _ _ _ _ _ _ _ _ _ _ _ _ K2 _ (by intro x a t v w h; cases t <;> exact h) ?_
          intro l2 k2 dn an av2 ov2
          intros
          rename_i w8 hm
          refine a2 _ _ ?_
          rw [hEQ]
          refine after7 c w N Y d l2 pk _ ds dd av2 ov2 k2 n dn an w8 hfn hn60 hmask hm _ _ _ _ _ _ _ _ _ _ _ _ _ _ _ _ _ _ _ _ _ _ _ _ _ _ _ _ _ _ _ _ _ _ _ _ _ _ _ _ _ _ _ _ _ _ _ _ _ _ _ _ _ _ _ _ _ _ _ _ _ _ _ _ _ _ _ _ _ _ _ _ _ _ _ _ _ _ _ _ _ _ _ _ _ _ _ _ _ _ _ _ _ _ _ _ _ _ _ _ _ _ _ _ _ _ _ _ _ _ _ _ _ _ _ _ _ _ _ _ _ _ _ _ _ _ _ _ _ _ _ _ _ _ _ _ _ _ _ _ _ _ _ _ _ _ _ _ _ _ _ _ _ _ _ _ _ _ _ _ _ _ _ _ _ _ _ _ _ _ _ _ _ _ _ _ _ _ _ _ _ _ _ _ _ _ _ _ _ _ _ _ _ _ _ _ _ _ _ _ _ _ _ _ _ _ _ _ _ _ _ _ _ _ _ _ _ _ _ _ _ _ _ _ _ _ _ _ _ _ _ _ _ _ _ _ _ _ _ K1 _ (by intro x a t v w h; cases t <;> exact h) ?_
          intro l3 k3 av3
          intros
          rename_i w9 hr
          have HR := Lib.hid hr
          refine a1 _ _ ?_
          clear hr hm a1 a2
          go_wp2_with fail
          exact ⟨⟨n + 1, l3, k3, hlt, rfl, rfl, rfl, rfl, rfl, HR.out⟩, by simp [intOf] <;> omega⟩
        · refine deed4 c w N Y d l pk _ ds dd _ k n Z D L rs c7 w7 hfn hZ HAT.out HOK.out _ _ _ _ _ _ _ _ _ _ _ _ _ _ _ _ _ _ _ _ _ _ _ _ _ _ _ _ _ _ _ _ _ _ _ _ _ _ _ _ _ _ _ _ _ _ _ _ _ _ _ _ _ _ _ _ _ _ _ _ _ _ _ _ _ _ _ _ _ _ _ _ _ _ _ _ _ _ _ _ _ _ _ _ _ _ _ _ _ _ _ _ _ _ _ _ _ _ _ _ _ _ _ _ _ _ _ _ _ _ _ _ _ _ _ _ _ _ _ _ _ _ _ _ _ _ _ _ _ _ _ _ _ _ _ _ _ _ _ _ _ _ _ _ _ _ _ _ _ _ _ _ _ _ _ _ _ _ _ _ _ _ _ _ _ _ _ _ _ _ _ _ _ _ _ _ _ _ _ _ _ _ _ _ _ _ _ _ _ _ _ _ _ _ _ _ _ _ _ _ _ _ _ _ _ _ _ _ _ _ _ _ _ _ _ _ _ _ _ _ _ _ _ _ _ _ _ _ _ _ _ _ _ _ _ _ _ _ _ K2 _ (by intro x a t v w h; cases t <;> exact h) ?_
          intro l2 k2 dn an av2 ov2
          intros
          rename_i w8 hm
          refine a2 _ _ ?_
          rw [hEQ]
          refine after7 c w N Y d l2 pk _ ds dd av2 ov2 k2 n dn an w8 hfn hn60 hmask hm _ _ _ _ _ _ _ _ _ _ _ _ _ _ _ _ _ _ _ _ _ _ _ _ _ _ _ _ _ _ _ _ _ _ _ _ _ _ _ _ _ _ _ _ _ _ _ _ _ _ _ _ _ _ _ _ _ _ _ _ _ _ _ _ _ _ _ _ _ _ _ _ _ _ _ _ _ _ _ _ _ _ _ _ _ _ _ _ _ _ _ _ _ _ _ _ _ _ _ _ _ _ _ _ _ _ _ _ _ _ _ _ _ _ _ _ _ _ _ _ _ _ _ _ _ _ _ _ _ _ _ _ _ _ _ _ _ _ _ _ _ _ _ _ _ _ _ _ _ _ _ _ _ _ _ _ _ _ _ _ _ _ _ _ _ _ _ _ _ _ _ _ _ _ _ _ _ _ _ _ _ _ _ _ _ _ _ _ _ _ _ _ _ _ _ _ _ _ _ _ _ _ _ _ _ _ _ _ _ _ _ _ _ _ _ _ _ _ _ _ _ _ _ _ _ _ _ _ _ _ _ _ _ _ _ _ _ _ _ K1 _ (by intro x a t v w h; cases t <;> exact h) ?_
          intro l3 k3 av3
          intros
          rename_i w9 hr
          have HR := Lib.hid hr
          refine a1 _ _ ?_
          clear hr hm a1 a2
          go_wp2_with fail
          exact ⟨⟨n + 1, l3, k3, hlt, rfl, rfl, rfl, rfl, rfl, HR.out⟩, by simp [intOf] <;> omega⟩
end Go.Proofs.Ytfeacmlnlljnnaa

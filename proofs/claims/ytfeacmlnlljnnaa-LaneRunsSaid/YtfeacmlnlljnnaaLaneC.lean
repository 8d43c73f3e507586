/- Package lane: what lay comes to. -/
import Derived.Test.YtfeacmlnlljnnaaLaneB
namespace Go.Proofs.Ytfeacmlnlljnnaa
open Go Go.Proofs Go.RowKit

def partB (b : Bs) (s : Nat) : Bs := (b.drop (s * 56)).take 56
def secB (gen : Nat) (b : Bs) (s : Nat) : Bs := be 4 gen ++ be 1 (partB b s).length ++ [0, 0, 0] ++ partB b s
def layN (D : DiskM) (r bank gen : Nat) (b : Bs) (s0 : Nat) : Nat → DiskM × Int
  | 0 => (D, 0)
  | k + 1 => if (layN D r bank gen b s0 k).2 ≠ 0 then layN D r bank gen b s0 k else (layN D r bank gen b s0 k).1.wr r (2 + bank * 256 + (s0 + k)) (secB gen b (s0 + k))
def secs (b : Bs) : Nat := (b.length + 55) / 56
def lay (D : DiskM) (r bank gen : Nat) (b : Bs) (s0 : Nat) : DiskM × Int :=
  if (layN D r bank gen b s0 (secs b - s0)).2 ≠ 0 then layN D r bank gen b s0 (secs b - s0) else (layN D r bank gen b s0 (secs b - s0)).1.bar r

theorem layN_n (D : DiskM) (r bank gen : Nat) (b : Bs) (s0 n : Nat) : (layN D r bank gen b s0 n).1.n = D.n ∧ (layN D r bank gen b s0 n).1.size = D.size ∧ ((layN D r bank gen b s0 n).1.waits r).length ≤ (D.waits r).length + n := by
  induction n with
  | zero => exact ⟨rfl, rfl, Nat.le_refl _⟩
  | succ n ih =>
    obtain ⟨h1, h2, h3⟩ := ih
    unfold layN
    split
    · exact ⟨h1, h2, by omega⟩
    · have := wr_n (layN D r bank gen b s0 n).1 r (2 + bank * 256 + (s0 + n)) (secB gen b (s0 + n))
      have := wr_waits (layN D r bank gen b s0 n).1 r (2 + bank * 256 + (s0 + n)) (secB gen b (s0 + n))
      exact ⟨by omega, by omega, by omega⟩

theorem layN_stop (D : DiskM) (r bank gen : Nat) (b : Bs) (s0 j n : Nat) (hj : j ≤ n) (h : (layN D r bank gen b s0 j).2 ≠ 0) : layN D r bank gen b s0 n = layN D r bank gen b s0 j := by
  induction n with
  | zero => obtain rfl : j = 0 := by omega
            rfl
  | succ n ih =>
    by_cases e : j = n + 1
    · rw [e]
    · have := ih (by omega)
      rw [← this] at h
      rw [layN, if_pos h, this]

/-- On the way: the disk, the lane (its pointer to the disk, its region), the bytes. -/
structure LayAt (c : Col) (w : World) (X d Z l Y : Nat) (L : LaneM) (v : Value) (b : Bs) (E : DiskM) (c' : Col) (wx : World) : Prop where
  disk : DiskRep c' wx X d E
  lane : LaneRep c' wx Z l d L
  rd : Rd c' wx Y v b
  ext : Ext (Obs [X]) c w c' wx

theorem LayAt.quiet {c : Col} {w : World} {X d Z l Y : Nat} {L : LaneM} {v : Value} {b : Bs} {E : DiskM} {c' c2 : Col} {wx w2 : World} (h : LayAt c w X d Z l Y L v b E c' wx) (g : Ext (Obs []) c' wx c2 w2) : LayAt c w X d Z l Y L v b E c2 w2 :=
  ⟨h.disk.keep g (fun q h => by simp [Obs] at h), h.lane.keep g (fun q h => by simp [Obs] at h), h.rd.keep g (fun q h => by simp [Obs] at h), h.ext.trans g.none⟩

theorem LayAt.did {c : Col} {w : World} {X d Z l Y : Nat} {L : LaneM} {v : Value} {b : Bs} {E E2 : DiskM} {c' c2 : Col} {wx w2 : World} (h : LayAt c w X d Z l Y L v b E c' wx) (hZ : Z ≠ X) (hY : Y ≠ X) (hD : DiskRep c2 w2 X d E2) (g : Ext (Obs [X]) c' wx c2 w2) : LayAt c w X d Z l Y L v b E2 c2 w2 :=
  ⟨hD, h.lane.keep g (fun q h => by simp [Obs] at h; omega), h.rd.keep g (fun q h => by simp [Obs] at h; omega), h.ext.trans g⟩

set_option maxRecDepth 100000 in
set_option maxHeartbeats 4000000 in
theorem lay_in (c : Col) (w : World) (X d Z l Y : Nat) (D : DiskM) (L : LaneM) (bank gen : Nat) (v : Value) (b : Bs) (from_ : Nat) (hX : 1 ≤ X) (hZ : Z ≠ X) (hY : Y ≠ X)
    (hD : DiskRep c w X d D) (hL : LaneRep c w Z l d L) (hv : Rd c w Y v b) (hr : L.r < D.n) (hsz : 514 ≤ D.size) (hw9 : (D.waits L.r).length ≤ 900000) (hbk : bank ≤ 1) (hg : gen < 4294967296) (hb : b.length ≤ 14336) (hf : from_ ≤ b.length) :
    Calls Try.prog 45 #[.pointer (some ⟨l, 0, none⟩), .int .i64 (bank : Int), .int .u64 (gen : Int), v, .int .i64 (from_ : Int)] w (DidD c w X d (lay D L.r bank gen b (from_ / 56)).1 (lay D L.r bank gen b (from_ / 56)).2) := by
  obtain ⟨p, cap, rfl, hlc, _⟩ := id hv
  have h0 : LayAt c w X d Z l Y L (.slice p b.length cap) b D c w := ⟨hD, hL, hv, Ext.refl _ _ _⟩
  have H0 := Lib.hid h0
  have HR := Lib.hid hr
  have HSZ := Lib.hid hsz
  have HW := Lib.hid hw9
  clear hD hL hv h0 hr hsz hw9
  obtain ⟨s0, hs0⟩ : ∃ s0, s0 = from_ / 56 := ⟨_, rfl⟩
  rw [← hs0]
  obtain ⟨m, hm⟩ : ∃ m, m = secs b - s0 := ⟨_, rfl⟩
  have hs2 : s0 + m = secs b ∨ (m = 0 ∧ s0 = secs b) := by rw [hm]; unfold secs; omega
  have hs3 : s0 + m ≤ 256 := by unfold secs at hs2; omega
  have HS0 := Lib.hid hs0
  have HM := Lib.hid hm
  have HS2 := Lib.hid hs2
  clear hs0 hm hs2
  go_enter Try.func45, Try.ntmps45
  go_upto_region 2 with fail
  have e0 : ((from_ : Int) / 56) = (s0 : Int) := by rw [HS0.out]; omega
  rw [e0]
  clear e0
  go_loopw [11] (fun s wx => ∃ j : Nat, j ≤ m ∧ s = .int .i64 ((s0 + j : Nat) : Int) ∧ (layN D L.r bank gen b s0 j).2 = 0 ∧ Hid (∃ c', LayAt c w X d Z l Y L (.slice p b.length cap) b (layN D L.r bank gen b s0 j).1 c' wx)) (fun s _ => (s0 + m) - (intOf s).toNat)
  case atStart => exact ⟨0, Nat.zero_le _, rfl, rfl, ⟨c, H0.out⟩⟩
  case round =>
    obtain ⟨j, hj, rfl, hz, hrel⟩ := hrel
    obtain ⟨c1, h1⟩ := hrel.out
    clear hrel
    obtain ⟨n1, n2, n3⟩ := layN_n D L.r bank gen b s0 j
    have N1 := Lib.hid n1
    have N2 := Lib.hid n2
    have N3 := Lib.hid n3
    clear n1 n2 n3
    obtain ⟨S, hS⟩ : ∃ S, S = s0 + j := ⟨_, rfl⟩
    rw [← hS]
    have hS256 : S ≤ 256 := by omega
    by_cases hlt : j < m
    · have hlt2 : S * 56 < b.length := by have := HS2.out; unfold secs at this; omega
      obtain ⟨g, o, rfl, _, _⟩ := h1.rd.addr (by omega)
      have H1 := Lib.hid h1
      have HS := Lib.hid hS
      have HZ := Lib.hid hz
      have HLT := Lib.hid hlt
      clear h1 hS hz hlt hj
      go_upto_region 5 with fail
      obtain ⟨E, hE0⟩ : ∃ E, E = S * 56 + (partB b S).length := ⟨_, rfl⟩
      have hif : (if ((b.length : Nat) : Int) < ((S : Int) + 1) * 56 then ((b.length : Nat) : Int) else ((S : Int) + 1) * 56) = (E : Int) := by
        rw [hE0]; unfold partB; simp only [List.length_take, List.length_drop]; split <;> omega
      have hpl : (E : Int).toNat - S * 56 = (partB b S).length := by rw [hE0]; omega
      simp only [hif]
      rw [hpl]
      clear hif hE0
      have hpl56 : (partB b S).length ≤ 56 := by unfold partB; rw [List.length_take]; omega
      have HPL := Lib.hid hpl
      clear hpl
      obtain ⟨f, hfn, hf⟩ := fresh_col c1 wr (X + Z + Y)
      have HF := Lib.hid hf
      have hpr : Rd c1 wr Y (.slice (some ⟨g, o + S * 56, none⟩) (partB b S).length (cap - S * 56)) (partB b S) := by
        have h2 := ((H1.out).rd.drop (S * 56) (by omega)).take (partB b S).length (by unfold partB; rw [List.length_take]; omega)
        have e : (b.drop (S * 56)).take (partB b S).length = partB b S := by
          unfold partB; rw [List.length_take]; exact (List.take_eq_take_min).symm
        rw [e] at h2
        exact h2
      have HPR := Lib.hid hpr
      have g1 := Lib.hid (put_in c1 wr 0 (.slice none 0 0) [] (Rd.empty c1 wr 0 none) (by simp) 4 (by omega) gen (by omega) f)
      clear hf hpr
      go_upto_region 7 with (first
        | (go_at_call 44; refine (g1.out).mono ?_; rintro e w2 ⟨v2, c2, rfl, hO, hE⟩; have g2 := Lib.hid (put_in c2 w2 f.1 v2 _ hO.rd (by simp [be_len]) 1 (by omega) (partB b S).length (by omega) f); have HE2 := Lib.hid hE; clear g1 hO hE)
        | (go_at_call 44; refine (g2.out).mono ?_; rintro e w3 ⟨v3, c3, rfl, hO, hE⟩; have HO3 := Lib.hid hO; have HE3 := Lib.hid ((HE2.out).trans hE); have B3 := Lib.hid (Blk.newA c3 w3 #[Value.int .u8 0, Value.int .u8 0, Value.int .u8 0] 5 (0, 0)); clear g2 hO hE HE2)
        | (refine append_bb (o := ⟨some 42, _, _, _, _, _⟩) rfl (.tmp 40) (.tmp 41) 44 rfl (setc c3 w3.heap.size (0, 0)) f v3 _ rfl ((HO3.out).alloc _ _) _ rfl [0, 0, 0] (cells_src w3.heap.size 0 3 3 1 _ _ 5 Try.underlying44 rfl (by intro i v hi; rw [Nat.zero_add]; exact ((B3.out).cell i).trans hi) (by simp [B, Value.oneCell'])) (by simp [be_len]) ?_; intro v4 w4 c4 hO hE; have HO4 := Lib.hid hO; have HE4 := Lib.hid (((HE3.out).alloc _ (0, 0)).none.trans hE.own); have HPR4 := Lib.hid ((HPR.out).keep HE4.out (fun q h => by have h' : (Y, q) = f := h; rw [← h'] at hfn; simp at hfn; omega)); clear hO hE)
        | (refine append_bb (o := ⟨some 44, _, _, _, _, _⟩) rfl (.tmp 42) (.tmp 43) 44 rfl c4 f v4 _ rfl HO4.out _ rfl (partB b S) (HPR4.out).src (by simp [be_len] <;> omega) ?_; intro v5 w5 c5 hO hE; have HO5 := Lib.hid hO; have HE5 := Lib.hid ((HE4.out).trans hE.own); clear hO hE))
      have hx5 := (HE5.out).fresh HF.out
      have h5 := (H1.out).quiet hx5.drew
      have hO5 := HO5.out
      have e5 : [] ++ be 4 gen ++ be 1 (partB b S).length ++ [0, 0, 0] ++ partB b S = secB gen b S := by simp [secB]
      rw [e5] at hO5
      have hsl : (secB gen b S).length ≤ 64 := by simp only [secB, List.length_append, be_len, List.length_cons, List.length_nil]; omega
      obtain ⟨F, hF⟩ : ∃ F, F = 2 + bank * 256 := ⟨_, rfl⟩
      obtain ⟨T, hT⟩ : ∃ T, T = F + S := ⟨_, rfl⟩
      have hfi := first_in w5.drew bank hbk
      rw [← hF] at hfi
      have hwrap : IntKind.i64.wrap ((F : Int) + (S : Int)) = (T : Int) := by rw [IntWalk.i64_in _ ⟨by omega, by omega⟩]; omega
      have hw := Lib.hid (wr_in c5 w5.drew X d _ L.r T h5.disk (by rw [N1.out]; exact HR.out) (by rw [N2.out]; have := HSZ.out; omega) (by have := N3.out; have := HW.out; have := HLT.out; omega) f.1 (by omega) v5 _ (show Rd c5 w5.drew f.1 v5 _ from hO5.rd) hsl)
      have eT : T = 2 + bank * 256 + (s0 + j) := by rw [hT, hF, HS.out]
      have ES := HS.out
      have hstep : layN D L.r bank gen b s0 (j + 1) = (layN D L.r bank gen b s0 j).1.wr L.r T (secB gen b S) := by
        rw [layN, if_neg (by rw [HZ.out]; simp), eT, HS.out]
      obtain ⟨bv, hla⟩ := h5.lane
      have k0 : w5.cell? ⟨l, 0, none⟩ = some (.pointer (some ⟨d, 0, none⟩)) := (hla.top.cell 0).trans rfl
      have k1 : w5.cell? ⟨l, 1, none⟩ = some (.int .i64 (L.r : Int)) := (hla.top.cell 1).trans rfl
      have H5 := Lib.hid h5
      have HST := Lib.hid hstep
      clear hx5 h5 hO5 e5 hF hT eT ES hstep hla HPL
      refine X_begin [] [13] (fun _ => True) (by kernel_rfl) ?_
      refine X_pure 0 rfl (by kernel_rfl) (by kernel_rfl) (by kernel_rfl) (by kernel_rfl) (fun _ _ _ h => h) rfl (by intro w; go_simp; first | done | with_reducible rfl) ?_
      try simp only [Act.put, List.setIfInBounds_toArray, List.set_cons_zero, List.set_cons_succ]
      refine X_pure 1 rfl (by kernel_rfl) (by kernel_rfl) (by kernel_rfl) (by kernel_rfl) (fun _ _ _ h => h) rfl (by intro w; go_simp; first | done | with_reducible rfl) ?_
      try simp only [Act.put, List.setIfInBounds_toArray, List.set_cons_zero, List.set_cons_succ]
      refine X_pure 2 rfl (by kernel_rfl) (by kernel_rfl) (by kernel_rfl) (by kernel_rfl) (fun _ _ _ h => h) rfl (by intro w; go_simp; first | done | with_reducible rfl) ?_
      try simp only [Act.put, List.setIfInBounds_toArray, List.set_cons_zero, List.set_cons_succ]
      refine X_still 3 rfl (by kernel_rfl) (by kernel_rfl) (by kernel_rfl) (by kernel_rfl) rfl (by go_simp; first | done | with_reducible rfl) ?_
      try simp only [Act.put, List.setIfInBounds_toArray, List.set_cons_zero, List.set_cons_succ]
      refine X_pure 4 rfl (by kernel_rfl) (by kernel_rfl) (by kernel_rfl) (by kernel_rfl) (fun _ _ _ h => h) rfl (by intro w; go_simp; first | done | with_reducible rfl) ?_
      try simp only [Act.put, List.setIfInBounds_toArray, List.set_cons_zero, List.set_cons_succ]
      refine X_pure 5 rfl (by kernel_rfl) (by kernel_rfl) (by kernel_rfl) (by kernel_rfl) (fun _ _ _ h => h) rfl (by intro w; go_simp; first | done | with_reducible rfl) ?_
      try simp only [Act.put, List.setIfInBounds_toArray, List.set_cons_zero, List.set_cons_succ]
      refine X_pure 6 rfl (by kernel_rfl) (by kernel_rfl) (by kernel_rfl) (by kernel_rfl) (fun _ _ _ h => h) rfl (by intro w; go_simp; first | done | with_reducible rfl) ?_
      try simp only [Act.put, List.setIfInBounds_toArray, List.set_cons_zero, List.set_cons_succ]
      refine X_still 7 rfl (by kernel_rfl) (by kernel_rfl) (by kernel_rfl) (by kernel_rfl) rfl (by go_simp; first | done | with_reducible rfl) ?_
      try simp only [Act.put, List.setIfInBounds_toArray, List.set_cons_zero, List.set_cons_succ]
      refine X_pure 8 rfl (by kernel_rfl) (by kernel_rfl) (by kernel_rfl) (by kernel_rfl) (fun _ _ _ h => h) rfl (by intro w; go_simp; first | done | with_reducible rfl) ?_
      try simp only [Act.put, List.setIfInBounds_toArray, List.set_cons_zero, List.set_cons_succ]
      refine X_scall 9 rfl (by kernel_rfl) (by kernel_rfl) (by kernel_rfl) (by kernel_rfl) rfl _ _ (by go_simp; first | done | with_reducible rfl) (hfi) ?_
      try simp only [Act.put, List.setIfInBounds_toArray, List.set_cons_zero, List.set_cons_succ]
      refine X_pure 10 rfl (by kernel_rfl) (by kernel_rfl) (by kernel_rfl) (by kernel_rfl) (fun _ _ _ h => h) rfl (by intro w; go_simp; first | done | with_reducible rfl) ?_
      try simp only [Act.put, List.setIfInBounds_toArray, List.set_cons_zero, List.set_cons_succ]
      refine X_pure 11 rfl (by kernel_rfl) (by kernel_rfl) (by kernel_rfl) (by kernel_rfl) (fun _ _ _ h => h) rfl (by intro w; go_simp; first | done | with_reducible rfl) ?_
      try simp only [Act.put, List.setIfInBounds_toArray, List.set_cons_zero, List.set_cons_succ]
      refine X_pure 12 rfl (by kernel_rfl) (by kernel_rfl) (by kernel_rfl) (by kernel_rfl) (fun _ _ _ h => h) rfl (by intro w; go_simp; first | done | with_reducible rfl) ?_
      try simp only [Act.put, List.setIfInBounds_toArray, List.set_cons_zero, List.set_cons_succ]
      refine X_op 13 rfl (by kernel_rfl) (by kernel_rfl) (by kernel_rfl) ?_
      rcases wr_two (layN D L.r bank gen b s0 j).1 L.r T (secB gen b S) with hk | hk
      · rw [hk] at hw
        have HK := Lib.hid hk
        clear hk
        go_wp2_with (go_at_call 27; refine (hw.out).mono ?_; rintro e w6 ⟨c6, rfl, hR, hE⟩)
        have H6 := Lib.hid ((H5.out).did hZ hY hR hE)
        clear hR hE
        try simp only [Act.put, List.setIfInBounds_toArray, List.set_cons_zero, List.set_cons_succ]
        refine X_pure 14 rfl (by kernel_rfl) (by kernel_rfl) (by kernel_rfl) (by kernel_rfl) (fun _ _ _ h => h) rfl (by intro w; go_simp; first | done | with_reducible rfl) ?_
        try simp only [Act.put, List.setIfInBounds_toArray, List.set_cons_zero, List.set_cons_succ]
        refine X_done (by kernel_rfl) ?_ _
        go_wp2_with fail
        refine ⟨⟨j + 1, HLT.out, by congr 1; have := HS.out; omega, by rw [HST.out]; exact HK.out, c6, by rw [HST.out]; exact H6.out⟩, ?_⟩
        have := HS.out
        have := HLT.out
        simp [intOf] <;> omega
      · rw [hk] at hw
        have HK := Lib.hid hk
        clear hk
        go_wp2_with (go_at_call 27; refine (hw.out).mono ?_; rintro e w6 ⟨c6, rfl, hR, hE⟩)
        have H6 := Lib.hid ((H5.out).did hZ hY hR hE)
        clear hR hE
        try simp only [Act.put, List.setIfInBounds_toArray, List.set_cons_zero, List.set_cons_succ]
        refine X_pure 14 rfl (by kernel_rfl) (by kernel_rfl) (by kernel_rfl) (by kernel_rfl) (fun _ _ _ h => h) rfl (by intro w; go_simp; first | done | with_reducible rfl) ?_
        try simp only [Act.put, List.setIfInBounds_toArray, List.set_cons_zero, List.set_cons_succ]
        refine X_done (by kernel_rfl) ?_ _
        go_wp2_with fail
        go_ret
        have hst : layN D L.r bank gen b s0 m = (layN D L.r bank gen b s0 j).1.wr L.r T (secB gen b S) := by
          rw [← HST.out]
          exact layN_stop D L.r bank gen b s0 (j + 1) m HLT.out (by rw [HST.out, HK.out]; simp)
        unfold lay
        rw [← HM.out, hst, if_pos (by rw [HK.out]; simp)]
        exact ⟨c6, by rw [HK.out]; rfl, (H6.out).disk, (H6.out).ext⟩
    · have hlt2 : ¬ S * 56 < b.length := by have := HS2.out; unfold secs at this; omega
      obtain rfl : j = m := by omega
      have HS := Lib.hid hS
      obtain ⟨bv, hla⟩ := h1.lane
      have hq := Lib.hid (bar_in c1 wr.drew X d _ L.r (h1.disk.keep (Ext.refl (Obs []) c1 wr).drew (fun q h => by simp [Obs] at h)) (by rw [N1.out]; exact HR.out) (by have := N3.out; have := HW.out; omega))
      have k0 : wr.cell? ⟨l, 0, none⟩ = some (.pointer (some ⟨d, 0, none⟩)) := by rw [hla.top.cell]; rfl
      have k1 : wr.cell? ⟨l, 1, none⟩ = some (.int .i64 (L.r : Int)) := by rw [hla.top.cell]; rfl
      have H1 := Lib.hid h1
      have HZ := Lib.hid hz
      clear h1 hS hz hla
      go_upto_region 10 with fail
      refine X_begin [] [8] (fun _ => True) (by kernel_rfl) ?_
      refine X_pure 0 rfl (by kernel_rfl) (by kernel_rfl) (by kernel_rfl) (by kernel_rfl) (fun _ _ _ h => h) rfl (by intro w; go_simp; first | done | with_reducible rfl) ?_
      try simp only [Act.put, List.setIfInBounds_toArray, List.set_cons_zero, List.set_cons_succ]
      refine X_pure 1 rfl (by kernel_rfl) (by kernel_rfl) (by kernel_rfl) (by kernel_rfl) (fun _ _ _ h => h) rfl (by intro w; go_simp; first | done | with_reducible rfl) ?_
      try simp only [Act.put, List.setIfInBounds_toArray, List.set_cons_zero, List.set_cons_succ]
      refine X_pure 2 rfl (by kernel_rfl) (by kernel_rfl) (by kernel_rfl) (by kernel_rfl) (fun _ _ _ h => h) rfl (by intro w; go_simp; first | done | with_reducible rfl) ?_
      try simp only [Act.put, List.setIfInBounds_toArray, List.set_cons_zero, List.set_cons_succ]
      refine X_still 3 rfl (by kernel_rfl) (by kernel_rfl) (by kernel_rfl) (by kernel_rfl) rfl (by go_simp; first | done | with_reducible rfl) ?_
      try simp only [Act.put, List.setIfInBounds_toArray, List.set_cons_zero, List.set_cons_succ]
      refine X_pure 4 rfl (by kernel_rfl) (by kernel_rfl) (by kernel_rfl) (by kernel_rfl) (fun _ _ _ h => h) rfl (by intro w; go_simp; first | done | with_reducible rfl) ?_
      try simp only [Act.put, List.setIfInBounds_toArray, List.set_cons_zero, List.set_cons_succ]
      refine X_pure 5 rfl (by kernel_rfl) (by kernel_rfl) (by kernel_rfl) (by kernel_rfl) (fun _ _ _ h => h) rfl (by intro w; go_simp; first | done | with_reducible rfl) ?_
      try simp only [Act.put, List.setIfInBounds_toArray, List.set_cons_zero, List.set_cons_succ]
      refine X_pure 6 rfl (by kernel_rfl) (by kernel_rfl) (by kernel_rfl) (by kernel_rfl) (fun _ _ _ h => h) rfl (by intro w; go_simp; first | done | with_reducible rfl) ?_
      try simp only [Act.put, List.setIfInBounds_toArray, List.set_cons_zero, List.set_cons_succ]
      refine X_still 7 rfl (by kernel_rfl) (by kernel_rfl) (by kernel_rfl) (by kernel_rfl) rfl (by go_simp; first | done | with_reducible rfl) ?_
      try simp only [Act.put, List.setIfInBounds_toArray, List.set_cons_zero, List.set_cons_succ]
      refine X_op 8 rfl (by kernel_rfl) (by kernel_rfl) (by kernel_rfl) ?_
      go_wp2_with (go_at_call 48; refine (hq.out).mono ?_; rintro e w2 ⟨c2, rfl, hR, hE2⟩)
      try simp only [Act.put, List.setIfInBounds_toArray, List.set_cons_zero, List.set_cons_succ]
      refine X_pure 9 rfl (by kernel_rfl) (by kernel_rfl) (by kernel_rfl) (by kernel_rfl) (fun _ _ _ h => h) rfl (by intro w; go_simp; first | done | with_reducible rfl) ?_
      try simp only [Act.put, List.setIfInBounds_toArray, List.set_cons_zero, List.set_cons_succ]
      refine X_done (by kernel_rfl) ?_ _
      go_wp2_with fail
      go_ret
      unfold lay
      rw [← HM.out, if_neg (by rw [HZ.out]; simp)]
      exact ⟨c2, rfl, hR, (H1.out).ext.drew.trans hE2⟩
end Go.Proofs.Ytfeacmlnlljnnaa

/- Package lane: what Wipe comes to. -/
import Derived.Test.YtfeacmlnlljnnaaLaneA
namespace Go.Proofs.Ytfeacmlnlljnnaa
open Go Go.Proofs Go.RowKit

def DiskM.wr (D : DiskM) (r s : Nat) (b : Bs) : DiskM × Int := if D.down r then (D, 10) else (D.push r s b, 0)
def DiskM.bar (D : DiskM) (r : Nat) : DiskM × Int := if D.down r then (D, 10) else (D.keep r (fun _ => true), 0)

theorem wr_in (c : Col) (w : World) (X d : Nat) (D : DiskM) (r s : Nat) (hD : DiskRep c w X d D) (hr : r < D.n) (hs : s < D.size) (hw9 : (D.waits r).length ≤ 1000000)
    (Y : Nat) (hY : Y ≠ X) (v : Value) (bs : Bs) (hv : Rd c w Y v bs) (hb : bs.length ≤ 64) :
    Calls Try.prog 27 #[.pointer (some ⟨d, 0, none⟩), .int .i64 (r : Int), .int .i64 (s : Int), v] w (DidD c w X d (D.wr r s bs).1 (D.wr r s bs).2) := by
  unfold DiskM.wr
  by_cases h : D.down r = true
  · rw [if_pos h]
    obtain ⟨p, cap, rfl, _⟩ := hv
    exact write_down c w X d D r s hD hr hs p _ cap hb h
  · rw [if_neg h]
    exact write_ok c w X d D r s hD hr hs hw9 Y hY v bs hv hb (by simpa using h)

theorem bar_in (c : Col) (w : World) (X d : Nat) (D : DiskM) (r : Nat) (hD : DiskRep c w X d D) (hr : r < D.n) (hw9 : (D.waits r).length ≤ 1000000) :
    Calls Try.prog 48 #[.pointer (some ⟨d, 0, none⟩), .int .i64 (r : Int)] w (DidD c w X d (D.bar r).1 (D.bar r).2) := by
  unfold DiskM.bar
  by_cases h : D.down r = true
  · rw [if_pos h]; exact barrier_down c w X d D r hD hr h
  · rw [if_neg h]; exact barrier_ok c w X d D r hD hr hw9 (by simpa using h)

theorem wr_two (D : DiskM) (r s : Nat) (b : Bs) : (D.wr r s b).2 = 0 ∨ (D.wr r s b).2 = 10 := by unfold DiskM.wr; split <;> simp
theorem bar_two (D : DiskM) (r : Nat) : (D.bar r).2 = 0 ∨ (D.bar r).2 = 10 := by unfold DiskM.bar; split <;> simp
theorem wr_n (D : DiskM) (r s : Nat) (b : Bs) : (D.wr r s b).1.n = D.n ∧ (D.wr r s b).1.size = D.size := by unfold DiskM.wr; split <;> exact ⟨rfl, rfl⟩
theorem bar_n (D : DiskM) (r : Nat) : (D.bar r).1.n = D.n ∧ (D.bar r).1.size = D.size := by unfold DiskM.bar; split <;> exact ⟨rfl, rfl⟩
theorem wr_waits (D : DiskM) (r s : Nat) (b : Bs) : ((D.wr r s b).1.waits r).length ≤ (D.waits r).length + 1 := by
  unfold DiskM.wr; split
  · simp
  · simp [DiskM.push]

def wipeN (D : DiskM) (r a : Nat) : Nat → DiskM × Int
  | 0 => (D, 0)
  | n + 1 => if (wipeN D r a n).2 ≠ 0 then wipeN D r a n else if (wipeN D r a n).1.read r (a + n) = zeros 64 then wipeN D r a n else (wipeN D r a n).1.wr r (a + n) []
def wipe (D : DiskM) (r a n : Nat) : DiskM × Int := if (wipeN D r a n).2 ≠ 0 then wipeN D r a n else (wipeN D r a n).1.bar r

theorem wipeN_n (D : DiskM) (r a n : Nat) : (wipeN D r a n).1.n = D.n ∧ (wipeN D r a n).1.size = D.size ∧ ((wipeN D r a n).1.waits r).length ≤ (D.waits r).length + n := by
  induction n with
  | zero => exact ⟨rfl, rfl, Nat.le_refl _⟩
  | succ n ih =>
    obtain ⟨h1, h2, h3⟩ := ih
    unfold wipeN
    split
    · exact ⟨h1, h2, by omega⟩
    · split
      · exact ⟨h1, h2, by omega⟩
      · have := wr_n (wipeN D r a n).1 r (a + n) []
        have := wr_waits (wipeN D r a n).1 r (a + n) []
        exact ⟨by omega, by omega, by omega⟩

theorem wipeN_stop (D : DiskM) (r a j n : Nat) (hj : j ≤ n) (h : (wipeN D r a j).2 ≠ 0) : wipeN D r a n = wipeN D r a j := by
  induction n with
  | zero => obtain rfl : j = 0 := by omega
            rfl
  | succ n ih =>
    by_cases e : j = n + 1
    · rw [e]
    · have := ih (by omega)
      rw [← this] at h
      rw [wipeN, if_pos h, this]

def WipeAt (c : Col) (w : World) (X d : Nat) (D : DiskM) (r a j : Nat) (c' : Col) (wx : World) : Prop := DiskRep c' wx X d (wipeN D r a j).1 ∧ Ext (Obs [X]) c w c' wx

set_option maxRecDepth 100000 in
set_option maxHeartbeats 2000000 in
theorem wipe_in (c : Col) (w : World) (X d : Nat) (D : DiskM) (r a n : Nat) (hX : 1 ≤ X) (hD : DiskRep c w X d D) (hr : r < D.n) (ha : a + n ≤ D.size) (hw9 : (D.waits r).length ≤ 900000) :
    Calls Try.prog 46 #[.pointer (some ⟨d, 0, none⟩), .int .i64 (r : Int), .int .i64 (a : Int), .int .i64 ((a + n : Nat) : Int)] w (DidD c w X d (wipe D r a n).1 (wipe D r a n).2) := by
  have hs16 := hD.wf.s16
  have HD := Lib.hid hD
  have HR := Lib.hid hr
  clear hD hr
  obtain ⟨t, ht⟩ : ∃ t, t = a + n := ⟨_, rfl⟩
  rw [← ht]
  have HT := Lib.hid ht
  clear ht
  go_enter Try.func46, Try.ntmps46
  go_wp2_with fail
  go_loopw [9] (fun s wx => ∃ j : Nat, j ≤ n ∧ s = .int .i64 ((a + j : Nat) : Int) ∧ (wipeN D r a j).2 = 0 ∧ Hid (∃ c', WipeAt c w X d D r a j c' wx)) (fun s _ => t - (intOf s).toNat)
  case atStart => exact ⟨0, Nat.zero_le _, rfl, rfl, ⟨c, HD.out, Ext.refl _ _ _⟩⟩
  case round =>
    obtain ⟨j, hj, rfl, h0, hrel⟩ := hrel
    obtain ⟨c1, hW, hE⟩ := hrel.out
    clear hrel
    obtain ⟨n1, n2, n3⟩ := wipeN_n D r a j
    by_cases hlt : j < n
    · have hlt2 : a + j < t := by rw [HT.out]; omega
      have hred := Lib.hid (read_in c1 wr X d _ r (a + j) hW (by rw [n1]; exact HR.out) (by omega) (by omega) (0, 0))
      have hlen : ((wipeN D r a j).1.read r (a + j)).length = 64 := hW.wf.read r (a + j)
      have HW := Lib.hid hW
      have HE := Lib.hid hE
      have hN := Lib.hid h0
      clear hW hE h0
      go_upto_region 5 with (go_at_call 50; refine (hred.out).mono ?_; rintro e w2 ⟨v2, c2, rfl, hO, hE2⟩)
      have hz := Lib.hid (zero_in c2 w2 0 v2 _ hO.rd (by omega))
      have HW2 := Lib.hid ((HW.out).keep hE2 (fun q h => by simp [Obs] at h))
      have HE2 := Lib.hid ((HE.out).trans hE2.none)
      clear hO hE2 HW HE hred
      by_cases hz0 : (wipeN D r a j).1.read r (a + j) = zeros 64
      · have hstep : wipeN D r a (j + 1) = wipeN D r a j := by rw [wipeN, if_neg (by rw [hN.out]; simp), if_pos hz0]
        have HZ0 := Lib.hid hz0
        have HST := Lib.hid hstep
        clear hz0 hstep
        go_wp2_with (go_at_call 66; refine (hz.out).mono ?_; rintro e w3 ⟨b, rfl, hb, c3, hE3⟩; (obtain rfl : b = true := hb.2 (by rw [HZ0.out]; simp [zeros])); have HE3 := Lib.hid hE3; clear hb hE3)
        go_roundw
        case measure => simp [intOf] <;> omega
        case rel =>
          refine ⟨j + 1, hlt, by congr 1 <;> omega, by rw [HST.out]; exact hN.out, c3, ?_⟩
          unfold WipeAt
          rw [HST.out]
          exact ⟨(HW2.out).keep HE3.out (fun q h => by simp [Obs] at h), (HE2.out).trans (HE3.out).none⟩
      · have hstep : wipeN D r a (j + 1) = (wipeN D r a j).1.wr r (a + j) [] := by rw [wipeN, if_neg (by rw [hN.out]; simp), if_neg hz0]
        have HZ0 := Lib.hid hz0
        have HST := Lib.hid hstep
        clear hz0 hstep
        go_upto_region 6 with (go_at_call 66; refine (hz.out).mono ?_; rintro e w3 ⟨b, rfl, hb, c3, hE3⟩; (obtain rfl : b = false := by cases b with | false => rfl | true => exact absurd ((hb.1 rfl).trans (by rw [hlen])) HZ0.out); have HE3 := Lib.hid hE3; clear hb hE3)
        have hw := Lib.hid (wr_in c3 w3 X d _ r (a + j) ((HW2.out).keep HE3.out (fun q h => by simp [Obs] at h)) (by rw [n1]; exact HR.out) (by omega) (by omega) 0 (by omega) (.slice none 0 0) [] (Rd.empty c3 w3 0 none) (by simp))
        rcases wr_two (wipeN D r a j).1 r (a + j) [] with hk | hk
        · rw [hk] at hw
          have HK := Lib.hid hk
          clear hk
          go_wp2_with (go_at_call 27; refine (hw.out).mono ?_; rintro e w4 ⟨c4, rfl, hR, hE4⟩; have HR4 := Lib.hid hR; have HE4 := Lib.hid hE4; clear hR hE4)
          go_roundw
          case measure => simp [intOf] <;> omega
          case rel =>
            refine ⟨j + 1, hlt, by congr 1 <;> omega, by rw [HST.out]; exact HK.out, c4, ?_⟩
            unfold WipeAt
            rw [HST.out]
            exact ⟨HR4.out, ((HE2.out).trans (HE3.out).none).trans HE4.out⟩
        · rw [hk] at hw
          have HK := Lib.hid hk
          clear hk
          go_wp2_with (go_at_call 27; refine (hw.out).mono ?_; rintro e w4 ⟨c4, rfl, hR, hE4⟩; have HR4 := Lib.hid hR; have HE4 := Lib.hid hE4; clear hR hE4)
          go_ret
          have hst : wipeN D r a n = (wipeN D r a j).1.wr r (a + j) [] := by
            rw [← HST.out]
            exact wipeN_stop D r a (j + 1) n hlt (by rw [HST.out, HK.out]; simp)
          unfold wipe
          rw [hst, if_pos (by rw [HK.out]; simp)]
          exact ⟨c4, by rw [HK.out]; rfl, HR4.out, ((HE2.out).trans (HE3.out).none).trans HE4.out⟩
    · obtain rfl : j = n := by omega
      have hlt2 : ¬ a + j < t := by rw [HT.out]; omega
      have hb := Lib.hid (bar_in c1 wr X d _ r hW (by rw [n1]; exact HR.out) (by omega))
      have HE := Lib.hid hE
      have hN := Lib.hid h0
      clear hW hE h0
      go_wp2_with (go_at_call 48; refine (hb.out).mono ?_; rintro e w2 ⟨c2, rfl, hR, hE2⟩)
      go_ret
      unfold wipe
      rw [if_neg (by rw [hN.out]; simp)]
      exact ⟨c2, rfl, hR, (HE.out).trans hE2⟩
end Go.Proofs.Ytfeacmlnlljnnaa

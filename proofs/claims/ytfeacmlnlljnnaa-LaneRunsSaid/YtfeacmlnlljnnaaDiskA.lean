/- Package disk: what at, Down, Waits, Read come to. -/
import Derived.Test.YtfeacmlnlljnnaaRep
import Derived.Test.YtfeacmlnlljnnaaProg
namespace Go.Proofs.Ytfeacmlnlljnnaa
open Go Go.Proofs Go.RowKit

theorem mul_facts (r s n sz : Nat) (hr : r < n) (hs : s < sz) (hn : n ≤ 64) (hz : sz ≤ 65536) : r * sz ≤ 4194304 ∧ r * sz + s < n * sz ∧ n * sz ≤ 4194304 := by
  have h1 := Nat.mul_le_mul_right sz (show r + 1 ≤ n from hr)
  rw [Nat.succ_mul] at h1
  have h2 : n * sz ≤ 64 * 65536 := Nat.mul_le_mul hn hz
  omega

theorem at_in (c : Col) (w : World) (X d : Nat) (D : DiskM) (r s : Nat) (hD : DiskRep c w X d D) (hr : r < D.n) (hs : s < D.size) (i : Nat) (hi : i = r * D.size + s) :
    Calls Try.prog 56 #[.pointer (some ⟨d, 0, none⟩), .int .i64 (r : Int), .int .i64 (s : Int)] w fun e w' => e = .returned (.int .i64 (i : Int)) ∧ w = w' := by
  have HI := Lib.hid hi
  clear hi
  obtain ⟨bd, bg, wv, wr, data, h⟩ := hD
  obtain ⟨c0, _, c2, _⟩ := h.cells
  obtain ⟨m1, m2, m3⟩ := mul_facts r s D.n D.size hr hs h.wf.n64 h.wf.s16
  have hn := h.wf.n64
  have hz := h.wf.s16
  have hm0 : ((r : Int) * (D.size : Int)) = ((r * D.size : Nat) : Int) := by simp
  have HM := Lib.hid hm0
  have q0 : 0 ≤ (r : Int) * (D.size : Int) := by rw [hm0]; omega
  have q1 : (r : Int) * (D.size : Int) ≤ 4194304 := by rw [hm0]; omega
  clear hm0 m1 m2 m3 h
  go_enter Try.func56, Try.ntmps56
  go_wp2
  go_ret
  exact ⟨by rw [HI.out]; simp, rfl⟩

theorem down_in (c : Col) (w : World) (X d : Nat) (D : DiskM) (r : Nat) (hD : DiskRep c w X d D) (hr : r < D.n) :
    Calls Try.prog 58 #[.pointer (some ⟨d, 0, none⟩), .int .i64 (r : Int)] w fun e w' => e = .returned (.bool (D.down r)) ∧ w = w' := by
  have hat := at_in c w X d D r 0 hD hr hD.wf.s1 _ rfl
  obtain ⟨bd, bg, wv, wr, data, h⟩ := hD
  obtain ⟨c0, _, c2, _⟩ := h.cells
  obtain ⟨g0, g1, g2⟩ := h.reg hr
  obtain ⟨m1, m2, m3⟩ := mul_facts r 0 D.n D.size hr h.wf.s1 h.wf.n64 h.wf.s16
  have hn := h.wf.n64
  have HD := Lib.hid hat
  have e : D.down r = (D.armed r && D.left r == 0) := rfl
  have HE := Lib.hid e
  clear hat h e
  cases ha : D.armed r with
  | false =>
    rw [ha] at g1
    have HA := Lib.hid ha
    clear ha
    go_enter Try.func58, Try.ntmps58
    go_wp2_with (go_at_call 56; refine (HD.out).mono ?_; rintro e w' ⟨rfl, rfl⟩)
    go_ret
    exact ⟨by rw [HE.out, HA.out]; rfl, rfl⟩
  | true =>
    rw [ha] at g1
    have HA := Lib.hid ha
    clear ha
    go_enter Try.func58, Try.ntmps58
    go_wp2_with (go_at_call 56; refine (HD.out).mono ?_; rintro e w' ⟨rfl, rfl⟩)
    go_ret
    exact ⟨by rw [HE.out, HA.out]; rfl, rfl⟩

theorem waits_in (c : Col) (w : World) (X d : Nat) (D : DiskM) (r : Nat) (hD : DiskRep c w X d D) (hr : r < D.n) :
    Calls Try.prog 57 #[.pointer (some ⟨d, 0, none⟩), .int .i64 (r : Int)] w fun e w' => e = .returned (.int .i64 ((D.waits r).length : Int)) ∧ w = w' := by
  have hat := at_in c w X d D r 0 hD hr hD.wf.s1 _ rfl
  obtain ⟨bd, bg, wv, wr, data, h⟩ := hD
  obtain ⟨c0, _, c2, _⟩ := h.cells
  obtain ⟨g0, g1, g2⟩ := h.reg hr
  have hw := h.waits r hr
  have hn := h.wf.n64
  have HD := Lib.hid hat
  clear hat h
  obtain ⟨p, cap, hv⟩ : ∃ p cap, wv r = .slice p (D.waits r).length cap := by
    rcases hw.2 with ⟨h, hz⟩ | ⟨g, cap, cur, h, _⟩
    · exact ⟨none, 0, by rw [h, hz]⟩
    · exact ⟨_, cap, h⟩
  rw [hv] at g0
  clear hw hv
  go_enter Try.func57, Try.ntmps57
  go_wp2_with (go_at_call 56; refine (HD.out).mono ?_; rintro e w' ⟨rfl, rfl⟩)
  go_ret
  exact ⟨rfl, rfl⟩
end Go.Proofs.Ytfeacmlnlljnnaa

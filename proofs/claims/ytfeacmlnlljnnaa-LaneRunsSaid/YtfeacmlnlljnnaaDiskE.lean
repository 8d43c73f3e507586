/- Package disk: what Barrier, Arm and Crash come to. -/
import Derived.Test.YtfeacmlnlljnnaaDiskD
namespace Go.Proofs.Ytfeacmlnlljnnaa
open Go Go.Proofs Go.RowKit

/-- Nothing is answered; the disk is D; nothing beside it has changed. -/
def DoneD (c : Col) (w : World) (X d : Nat) (D : DiskM) (e : Ending) (w' : World) : Prop := ∃ c', e = .returned (.tuple #[]) ∧ DiskRep c' w' X d D ∧ Ext (Obs [X]) c w c' w'

theorem keep_all (D : DiskM) (r : Nat) : D.keep r (mbits 18446744073709551615) = D.keep r (fun _ => true) := by
  have : mbits 18446744073709551615 = fun _ => true := by
    funext k
    show Nat.testBit (2 ^ 64 - 1) (k % 64) = true
    rw [Nat.testBit_two_pow_sub_one]
    simp; omega
  rw [this]

theorem barrier_down (c : Col) (w : World) (X d : Nat) (D : DiskM) (r : Nat) (hD : DiskRep c w X d D) (hr : r < D.n) (hd : D.down r = true) :
    Calls Try.prog 48 #[.pointer (some ⟨d, 0, none⟩), .int .i64 (r : Int)] w (DidD c w X d D 10) := by
  have hat := Lib.hid (at_in c w X d D r 0 hD hr hD.wf.s1 _ rfl)
  have hdn := down_in c w X d D r hD hr
  rw [hd] at hdn
  have hdn := Lib.hid hdn
  have HD := Lib.hid hD
  clear hD hd
  go_enter Try.func48, Try.ntmps48
  go_wp2_with (first | (go_at_call 56; refine (hat.out).mono ?_; rintro e w' ⟨rfl, rfl⟩) | (go_at_call 58; refine (hdn.out).mono ?_; rintro e w' ⟨rfl, rfl⟩))
  go_ret
  exact ⟨_, rfl, HD.out, Ext.refl _ _ _⟩

theorem barrier_ok (c : Col) (w : World) (X d : Nat) (D : DiskM) (r : Nat) (hD : DiskRep c w X d D) (hr : r < D.n) (hw9 : (D.waits r).length ≤ 1000000) (hd : D.down r = false) :
    Calls Try.prog 48 #[.pointer (some ⟨d, 0, none⟩), .int .i64 (r : Int)] w (DidD c w X d (D.keep r (fun _ => true)) 0) := by
  have hat := Lib.hid (at_in c w X d D r 0 hD hr hD.wf.s1 _ rfl)
  have hdn := down_in c w X d D r hD hr
  have hk := keep_in c w X d D r 18446744073709551615 hD hr hw9 (by omega)
  rw [keep_all] at hk
  have hk := Lib.hid hk
  rw [hd] at hdn
  have hdn := Lib.hid hdn
  have HD := Lib.hid hD
  clear hD hd
  go_enter Try.func48, Try.ntmps48
  go_wp2_with (first | (go_at_call 56; refine (hat.out).mono ?_; rintro e w' ⟨rfl, rfl⟩) | (go_at_call 58; refine (hdn.out).mono ?_; rintro e w' ⟨rfl, rfl⟩) | (go_at_call 49; refine (hk.out).mono ?_; rintro e w' ⟨c', rfl, hD', hE'⟩))
  go_ret
  exact ⟨_, rfl, hD', hE'⟩

theorem arm_fin {c : Col} {w : World} {X d : Nat} {D : DiskM} {bd bg : Nat} {wv : Nat → Value} {wrt : Int} {data : List Value} {r : Nat} (hr : r < D.n) (k : Int) (hk : k ≤ 9223372036854775807)
    (hA : DiskAt c w X d D bd bg wv wrt data) (v : Int) (hv : v = max k 0) :
    DoneD c w X d (D.arm r k) (.returned (.tuple #[])) ((w.setCell ⟨bg, r * 3 + 1, none⟩ (.bool true)).setCell ⟨bg, r * 3 + 2, none⟩ (.int .i64 v)).drew := by
  subst hv
  have hG : Blk c ((w.setCell ⟨bg, r * 3 + 1, none⟩ (.bool true)).setCell ⟨bg, r * 3 + 2, none⟩ (.int .i64 (max k 0))) bg (X, 2) (rcells D.n wv (upd D.armed r true) (upd D.left r (max k 0))) := by
    have h1 := hA.regs.set (r * 3 + 1) (.bool true)
    rw [rcells_set1 _ _ _ _ _ _ hr] at h1
    have h2 := h1.set (r * 3 + 2) (.int .i64 (max k 0))
    rw [rcells_set2 _ _ _ _ _ _ hr] at h2
    exact h2
  have n0 : c bg ≠ (X, 0) := by rw [hA.regs.col]; exact colne (by omega)
  have n1 : c bg ≠ (X, 1) := by rw [hA.regs.col]; exact colne (by omega)
  have hD : DiskAt c ((w.setCell ⟨bg, r * 3 + 1, none⟩ (.bool true)).setCell ⟨bg, r * 3 + 2, none⟩ (.int .i64 (max k 0))) X d (D.arm r k) bd bg wv wrt data :=
    ⟨(hA.top.set_col _ _ n0).set_col _ _ n0, (hA.secs.set_col _ _ n1).set_col _ _ n1, hA.sectors, hG, fun y hy => ((hA.waits y hy).set_col _ _ (by rw [hA.regs.col]; exact colne (by omega))).set_col _ _ (by rw [hA.regs.col]; exact colne (by omega)), hA.wf.arm r k hk⟩
  exact ⟨c, rfl, ⟨bd, bg, wv, wrt, data, hD.drew⟩, (((Ext.refl _ _ _).setCell (by rw [hA.regs.col]; simp [Obs]) _).setCell (by rw [hA.regs.col]; simp [Obs]) _).drew⟩

set_option maxRecDepth 100000 in
set_option maxHeartbeats 1000000 in
theorem arm_in (c : Col) (w : World) (X d : Nat) (D : DiskM) (r : Nat) (k : Int) (hk : k ≤ 9223372036854775807) (hk0 : -9223372036854775808 ≤ k) (hD : DiskRep c w X d D) (hr : r < D.n) :
    Calls Try.prog 22 #[.pointer (some ⟨d, 0, none⟩), .int .i64 (r : Int), .int .i64 k] w (DoneD c w X d (D.arm r k)) := by
  have hat := Lib.hid (at_in c w X d D r 0 hD hr hD.wf.s1 _ rfl)
  obtain ⟨bd, bg, wv, wrt, data, h⟩ := hD
  obtain ⟨c0, c1, c2, c3⟩ := h.cells
  obtain ⟨g0, g1, g2⟩ := h.reg hr
  have hn := h.wf.n64
  have hf1 := h.regs.free (r * 3 + 1)
  have hf2 := h.regs.free (r * 3 + 2)
  have HH := Lib.hid h
  have HK := Lib.hid hk
  have HK0 := Lib.hid hk0
  clear h hk hk0
  go_enter Try.func22, Try.ntmps22
  go_upto_region 1 with (go_at_call 56; refine (hat.out).mono ?_; rintro e w' ⟨rfl, rfl⟩)
  refine X_begin [] [14, 17] (fun _ => True) (by kernel_rfl) ?_
  refine X_pure 0 rfl (by kernel_rfl) (by kernel_rfl) (by kernel_rfl) (by kernel_rfl) (fun _ _ _ h => h) rfl (by intro w; go_simp; first | done | with_reducible rfl) ?_
  try simp only [Act.put, List.setIfInBounds_toArray, List.set_cons_zero, List.set_cons_succ]
  refine X_pure 1 rfl (by kernel_rfl) (by kernel_rfl) (by kernel_rfl) (by kernel_rfl) (fun _ _ _ h => h) rfl (by intro w; go_simp; first | done | with_reducible rfl) ?_
  try simp only [Act.put, List.setIfInBounds_toArray, List.set_cons_zero, List.set_cons_succ]
  refine X_pure 2 rfl (by kernel_rfl) (by kernel_rfl) (by kernel_rfl) (by kernel_rfl) (fun _ _ _ h => h) rfl (by intro w; go_simp; first | done | with_reducible rfl) ?_
  try simp only [Act.put, List.setIfInBounds_toArray, List.set_cons_zero, List.set_cons_succ]
  refine X_pure 4 rfl (by kernel_rfl) (by kernel_rfl) (by kernel_rfl) (by kernel_rfl) (fun _ _ _ h => h) rfl (by intro w; go_simp; first | done | with_reducible rfl) ?_
  try simp only [Act.put, List.setIfInBounds_toArray, List.set_cons_zero, List.set_cons_succ]
  refine X_pure 5 rfl (by kernel_rfl) (by kernel_rfl) (by kernel_rfl) (by kernel_rfl) (fun _ _ _ h => h) rfl (by intro w; go_simp; first | done | with_reducible rfl) ?_
  try simp only [Act.put, List.setIfInBounds_toArray, List.set_cons_zero, List.set_cons_succ]
  refine X_pure 6 rfl (by kernel_rfl) (by kernel_rfl) (by kernel_rfl) (by kernel_rfl) (fun _ _ _ h => h) rfl (by intro w; go_simp; first | done | with_reducible rfl) ?_
  try simp only [Act.put, List.setIfInBounds_toArray, List.set_cons_zero, List.set_cons_succ]
  refine X_pure 7 rfl (by kernel_rfl) (by kernel_rfl) (by kernel_rfl) (by kernel_rfl) (fun _ _ _ h => h) rfl (by intro w; go_simp; first | done | with_reducible rfl) ?_
  try simp only [Act.put, List.setIfInBounds_toArray, List.set_cons_zero, List.set_cons_succ]
  refine X_pure 9 rfl (by kernel_rfl) (by kernel_rfl) (by kernel_rfl) (by kernel_rfl) (fun _ _ _ h => h) rfl (by intro w; go_simp; first | done | with_reducible rfl) ?_
  try simp only [Act.put, List.setIfInBounds_toArray, List.set_cons_zero, List.set_cons_succ]
  refine X_pure 10 rfl (by kernel_rfl) (by kernel_rfl) (by kernel_rfl) (by kernel_rfl) (fun _ _ _ h => h) rfl (by intro w; go_simp; first | done | with_reducible rfl) ?_
  try simp only [Act.put, List.setIfInBounds_toArray, List.set_cons_zero, List.set_cons_succ]
  refine X_pure 11 rfl (by kernel_rfl) (by kernel_rfl) (by kernel_rfl) (by kernel_rfl) (fun _ _ _ h => h) rfl (by intro w; go_simp; first | done | with_reducible rfl) ?_
  try simp only [Act.put, List.setIfInBounds_toArray, List.set_cons_zero, List.set_cons_succ]
  refine X_still 3 rfl (by kernel_rfl) (by kernel_rfl) (by kernel_rfl) (by kernel_rfl) rfl (by go_simp; first | done | with_reducible rfl) ?_
  try simp only [Act.put, List.setIfInBounds_toArray, List.set_cons_zero, List.set_cons_succ]
  refine X_still 8 rfl (by kernel_rfl) (by kernel_rfl) (by kernel_rfl) (by kernel_rfl) rfl (by go_simp; first | done | with_reducible rfl) ?_
  try simp only [Act.put, List.setIfInBounds_toArray, List.set_cons_zero, List.set_cons_succ]
  refine X_pure 12 rfl (by kernel_rfl) (by kernel_rfl) (by kernel_rfl) (by kernel_rfl) (fun _ _ _ h => h) rfl (by intro w; go_simp; first | done | with_reducible rfl) ?_
  try simp only [Act.put, List.setIfInBounds_toArray, List.set_cons_zero, List.set_cons_succ]
  refine X_pure 13 rfl (by kernel_rfl) (by kernel_rfl) (by kernel_rfl) (by kernel_rfl) (fun _ _ _ h => h) rfl (by intro w; go_simp; first | done | with_reducible rfl) ?_
  try simp only [Act.put, List.setIfInBounds_toArray, List.set_cons_zero, List.set_cons_succ]
  refine X_op 14 rfl (by kernel_rfl) (by kernel_rfl) (by kernel_rfl) ?_
  go_step
  go_step
  go_step
  refine wpList_nil ?_
  refine X_pure 15 rfl (by kernel_rfl) (by kernel_rfl) (by kernel_rfl) (by kernel_rfl) (fun _ _ _ h => h) rfl (by intro w; go_simp; first | done | with_reducible rfl) ?_
  try simp only [Act.put, List.setIfInBounds_toArray, List.set_cons_zero, List.set_cons_succ]
  refine X_pure 16 rfl (by kernel_rfl) (by kernel_rfl) (by kernel_rfl) (by kernel_rfl) (fun _ _ _ h => h) rfl (by intro w; go_simp; first | done | with_reducible rfl) ?_
  try simp only [Act.put, List.setIfInBounds_toArray, List.set_cons_zero, List.set_cons_succ]
  refine X_op 17 rfl (by kernel_rfl) (by kernel_rfl) (by kernel_rfl) ?_
  go_step
  go_step
  go_step
  refine wpList_nil ?_
  refine X_done (by kernel_rfl) ?_ _
  go_wp2_with fail
  · go_end0
    exact arm_fin hr k HK.out HH.out 0 (by omega)
  · go_end0
    exact arm_fin hr k HK.out HH.out k (by omega)

/-- A disk, the first k regions crashed. -/
def DiskM.crashed (D : DiskM) (m : Nat → Bool) (k : Nat) : DiskM :=
  { D with base := fun r s => if r < k then look (kept m 0 (D.waits r)) s (D.base r s) else D.base r s, waits := fun r => if r < k then [] else D.waits r, armed := fun r => if r < k then false else D.armed r }

theorem DiskM.crashed_zero (D : DiskM) (m : Nat → Bool) : D.crashed m 0 = D := by simp [DiskM.crashed]

theorem DiskM.crashed_succ (D : DiskM) (m : Nat → Bool) (k : Nat) : { ((D.crashed m k).keep k m) with armed := upd ((D.crashed m k).keep k m).armed k false } = D.crashed m (k + 1) := by
  simp only [DiskM.crashed, DiskM.keep, DiskM.mk.injEq, true_and, and_true]
  refine ⟨?_, ?_, ?_⟩ <;> funext r <;> rcases Nat.lt_trichotomy r k with h | h | h
  all_goals
    have e1 : (r < k + 1) = (r ≤ k) := by simp; omega
    simp only [upd, e1]
    first
      | (subst h; simp; done)
      | (have h1 : r ≠ k := by omega
         have h2 : r ≤ k := by omega
         simp [h, h1, h2]; done)
      | (have h1 : r ≠ k := by omega
         have h2 : ¬ r ≤ k := by omega
         have h3 : ¬ r < k := by omega
         simp [h1, h2, h3]; done)

theorem DiskM.crashed_wf {D : DiskM} (h : D.WF) (m : Nat → Bool) (k : Nat) : (D.crashed m k).WF := by
  refine ⟨h.n1, h.n64, h.s1, h.s16, fun q s => ?_, fun q p hp => ?_, h.left⟩
  · simp only [DiskM.crashed]
    split
    · exact look_len (fun p hp => (h.waits q p (mem_kept hp)).2) (h.base q s)
    · exact h.base q s
  · simp only [DiskM.crashed] at hp
    split at hp
    · simp at hp
    · exact h.waits q p hp

/-- What a disk's memory tells of its first n regions is all that matters. -/
theorem DiskRep.congr {c : Col} {w : World} {X d : Nat} {D D' : DiskM} (h : DiskRep c w X d D) (hn : D'.n = D.n) (hz : D'.size = D.size) (hw : D'.WF)
    (hb : ∀ r s, r < D.n → D'.base r s = D.base r s) (hq : ∀ r, r < D.n → D'.waits r = D.waits r) (ha : ∀ r, r < D.n → D'.armed r = D.armed r) (hl : ∀ r, r < D.n → D'.left r = D.left r) : DiskRep c w X d D' := by
  obtain ⟨bd, bg, wv, wr, data, h⟩ := h
  refine ⟨bd, bg, wv, wr, data, ?_, h.secs, ?_, ?_, ?_, hw⟩
  · rw [hn, hz]; exact h.top
  · refine ⟨by rw [hn, hz]; exact h.sectors.1, fun r s j hr hs hj => ?_⟩
    rw [hz] at hs ⊢; rw [hn] at hr
    rw [hb r s hr]
    exact h.sectors.2 r s j hr hs hj
  · have e : rcells D'.n wv D'.armed D'.left = rcells D.n wv D.armed D.left := by
      unfold rcells
      rw [hn]
      have : ∀ r ∈ List.range D.n, [wv r, Value.bool (D'.armed r), .int .i64 (D'.left r)] = [wv r, Value.bool (D.armed r), .int .i64 (D.left r)] := fun r hr => by
        rw [ha r (List.mem_range.1 hr), hl r (List.mem_range.1 hr)]
      rw [List.flatMap_def, List.flatMap_def, List.map_congr_left this]
    rw [e]; exact h.regs
  · intro r hr
    rw [hn] at hr
    rw [hq r hr]
    exact h.waits r hr

set_option maxRecDepth 100000 in
set_option maxHeartbeats 2000000 in
theorem crash_in (c : Col) (w : World) (X d : Nat) (D : DiskM) (m : Nat) (hm64 : m < 18446744073709551616) (hD : DiskRep c w X d D) (hw9 : ∀ r, r < D.n → (D.waits r).length ≤ 1000000) :
    Calls Try.prog 19 #[.pointer (some ⟨d, 0, none⟩), .int .u64 (m : Int)] w (DoneD c w X d (D.crash (mbits m))) := by
  have hwf := Lib.hid hD.wf
  have HM := Lib.hid hm64
  have HD := Lib.hid hD
  have HW9 := Lib.hid hw9
  have hn := hD.wf.n64
  obtain ⟨bd, bg, wv, wrt, data, h⟩ := hD
  obtain ⟨c0, c1, c2, c3⟩ := h.cells
  clear h hm64 hw9
  go_enter Try.func19, Try.ntmps19
  go_wp2
  clear c0 c1 c2 c3
  go_loopw [12] (fun k wr => ∃ n : Nat, n ≤ D.n ∧ k = .int .i64 (n : Int) ∧ Hid (∃ c1, DiskRep c1 wr X d (D.crashed (mbits m) n) ∧ Ext (Obs [X]) c w c1 wr)) (fun k _ => D.n - (intOf k).toNat)
  case atStart => exact ⟨0, Nat.zero_le _, rfl, c, by rw [DiskM.crashed_zero]; exact HD.out, Ext.refl _ _ _⟩
  case round =>
    obtain ⟨n, hn', rfl, hrel⟩ := hrel
    by_cases hlt : n < D.n
    · obtain ⟨c1, hA, hE⟩ := hrel.out
      clear hrel
      have hk := Lib.hid (keep_in c1 wr X d (D.crashed (mbits m) n) n m hA hlt (by simp only [DiskM.crashed]; split; simp; exact HW9.out n hlt) HM.out)
      have HE := Lib.hid hE
      clear hA hE
      go_upto_region 5 with (go_at_call 49; refine (hk.out).mono ?_; rintro e w' ⟨c', rfl, hD', hE'⟩)
      obtain ⟨bd', bg', wv', wrt', data', h'⟩ := hD'
      have e2 := h'.cells.2.2.1
      rw [show (((D.crashed (mbits m) n).keep n (mbits m)).n) = D.n from rfl] at e2
      obtain ⟨_, g1, _⟩ := h'.reg (show n < ((D.crashed (mbits m) n).keep n (mbits m)).n from hlt)
      have hf1 := h'.regs.free (n * 3 + 1)
      have HA := Lib.hid h'
      have HE' := Lib.hid hE'
      clear h' hE'
      go_wp2
      refine ⟨⟨n + 1, hlt, by simp, ?_⟩, by simp [intOf]; omega⟩
      have hA := HA.out
      have hG : Blk c' (w'.setCell ⟨bg', n * 3 + 1, none⟩ (.bool false)) bg' (X, 2) ((rcells D.n wv' ((D.crashed (mbits m) n).keep n (mbits m)).armed ((D.crashed (mbits m) n).keep n (mbits m)).left).set (n * 3 + 1) (.bool false)) := hA.regs.set (n * 3 + 1) (.bool false)
      rw [rcells_set1 _ _ _ _ _ _ hlt] at hG
      refine (show Hid _ from ⟨c', ⟨bd', bg', wv', wrt', data', ?_⟩, ((HE.out).trans HE'.out).setCell (by rw [hA.regs.col]; simp [Obs]) _⟩)
      rw [← DiskM.crashed_succ]
      exact ⟨hA.top.set_col _ _ (by rw [hA.regs.col]; exact colne (by omega)), hA.secs.set_col _ _ (by rw [hA.regs.col]; exact colne (by omega)), hA.sectors, hG,
        fun y hy => (hA.waits y hy).set_col _ _ (by rw [hA.regs.col]; exact colne (by omega)), by rw [DiskM.crashed_succ]; exact DiskM.crashed_wf hwf.out _ _⟩
    · obtain rfl : n = D.n := by omega
      obtain ⟨c1, hA, hE⟩ := hrel.out
      clear hrel
      have HA := Lib.hid hA
      have HE := Lib.hid hE
      clear hA hE
      go_wp2
      go_end0
      refine ⟨c1, rfl, (HA.out).congr rfl rfl ((hwf.out).crash _) ?_ ?_ ?_ ?_, HE.out⟩
      · intro r s hr
        have hr' : r < D.n := hr
        simp [DiskM.crash, DiskM.crashed, hr']
      · intro r hr
        have hr' : r < D.n := hr
        simp [DiskM.crash, DiskM.crashed, hr']
      · intro r hr
        have hr' : r < D.n := hr
        simp [DiskM.crash, DiskM.crashed, hr']
      · intro r hr
        rfl
end Go.Proofs.Ytfeacmlnlljnnaa

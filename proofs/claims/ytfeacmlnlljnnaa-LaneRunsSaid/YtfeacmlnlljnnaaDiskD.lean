/- Package disk: what keep comes to. -/
import Derived.Test.YtfeacmlnlljnnaaDiskC
import Derived.Test.YtfeacmlnlljnnaaBits
namespace Go.Proofs.Ytfeacmlnlljnnaa
open Go Go.Proofs Go.RowKit

/-- A disk, the first k of the writes of region r that wait done, as far as the mask keeps them. -/
def DiskM.part (D : DiskM) (r : Nat) (m : Nat → Bool) (k : Nat) : DiskM := { D with base := upd D.base r (fun s => look (kept m 0 ((D.waits r).take k)) s (D.base r s)) }

theorem DiskM.part_zero (D : DiskM) (r : Nat) (m : Nat → Bool) : D.part r m 0 = D := by
  have : upd D.base r (fun s => look (kept m 0 ((D.waits r).take 0)) s (D.base r s)) = D.base := by
    funext q; simp only [upd]; split
    · rename_i h; subst h; funext s; simp [kept, look]
    · rfl
  unfold DiskM.part
  rw [this]

theorem DiskM.part_wf {D : DiskM} (h : D.WF) (r : Nat) (m : Nat → Bool) (k : Nat) : (D.part r m k).WF := by
  refine ⟨h.n1, h.n64, h.s1, h.s16, fun q s => ?_, h.waits, h.left⟩
  simp only [DiskM.part, upd]
  split
  · exact look_len (fun p hp => (h.waits r p (List.mem_of_mem_take (mem_kept hp))).2) (h.base r s)
  · exact h.base q s

theorem kept_take_succ (m : Nat → Bool) (l : List (Nat × Bs)) (k : Nat) (p : Nat × Bs) (hk : l[k]? = some p) : kept m 0 (l.take (k + 1)) = kept m 0 (l.take k) ++ if m k then [p] else [] := by
  obtain ⟨hlt, he⟩ := List.getElem?_eq_some_iff.1 hk
  rw [List.take_succ_eq_append_getElem hlt, kept_append, he]
  have : (l.take k).length = k := by simp; omega
  simp only [this, Nat.zero_add, kept]

theorem DiskM.part_skip (D : DiskM) (r : Nat) (m : Nat → Bool) (k : Nat) (p : Nat × Bs) (hk : (D.waits r)[k]? = some p) (hm : m k = false) : D.part r m (k + 1) = D.part r m k := by
  simp [DiskM.part, kept_take_succ m _ k p hk, hm]

theorem DiskM.part_take (D : DiskM) (r : Nat) (m : Nat → Bool) (k : Nat) (p : Nat × Bs) (hk : (D.waits r)[k]? = some p) (hm : m k = true) (q s : Nat) :
    (D.part r m (k + 1)).base q s = if q = r ∧ s = p.1 then p.2 else (D.part r m k).base q s := by
  simp only [DiskM.part, kept_take_succ m _ k p hk, hm, if_true, upd]
  by_cases hq : q = r
  · subst hq
    simp only [if_true, look_snoc, true_and]
    by_cases hs : s = p.1
    · subst hs; simp
    · rw [if_neg (fun e => hs e.symm), if_neg hs]
  · simp [hq]

theorem DiskM.part_all (D : DiskM) (r : Nat) (m : Nat → Bool) : { (D.part r m (D.waits r).length) with waits := upd D.waits r [] } = D.keep r m := by
  simp [DiskM.part, DiskM.keep]

/-- One sector's cells laid anew. -/
theorem Sectors.set {D D' : DiskM} {data : List Value} (h : Sectors D data) (hn : D'.n = D.n) (hz : D'.size = D.size) {r s : Nat} (hr : r < D.n) (hs : s < D.size) (b : Bs) (hb : b.length = 64)
    (hbase : ∀ q t, D'.base q t = if q = r ∧ t = s then b else D.base q t) : Sectors D' (data.take ((r * D.size + s) * 64) ++ b.map B ++ data.drop ((r * D.size + s) * 64 + 64)) := by
  obtain ⟨hl, hd⟩ := h
  have hlt : (r * D.size + s) * 64 + 64 ≤ data.length := by
    rw [hl]
    have h1 := Nat.mul_le_mul_right D.size (show r + 1 ≤ D.n from hr)
    rw [Nat.succ_mul] at h1
    have := Nat.mul_le_mul_right 64 (show r * D.size + s + 1 ≤ D.n * D.size by omega)
    omega
  refine ⟨by rw [hn, hz, ← hl]; simp [hb]; omega, fun q t j hq ht hj => ?_⟩
  rw [hn] at hq
  rw [hz] at ht ⊢
  rw [hbase q t]
  have key : (q * D.size + t) * 64 + j < (r * D.size + s) * 64 ∨ (r * D.size + s) * 64 + 64 ≤ (q * D.size + t) * 64 + j ∨ (q = r ∧ t = s) := by
    rcases Nat.lt_trichotomy (q * D.size + t) (r * D.size + s) with h | h | h
    · left; have := Nat.mul_le_mul_right 64 (show q * D.size + t + 1 ≤ r * D.size + s from h); omega
    · right; right
      have hq' : q = r := by
        rcases Nat.lt_trichotomy q r with g | g | g
        · have := Nat.mul_le_mul_right D.size (show q + 1 ≤ r from g); rw [Nat.succ_mul] at this; omega
        · exact g
        · have := Nat.mul_le_mul_right D.size (show r + 1 ≤ q from g); rw [Nat.succ_mul] at this; omega
      subst hq'
      exact ⟨rfl, by omega⟩
    · right; left; have := Nat.mul_le_mul_right 64 (show r * D.size + s + 1 ≤ q * D.size + t from h); omega
  have h1 : (data.take ((r * D.size + s) * 64)).length = (r * D.size + s) * 64 := by rw [List.length_take]; omega
  have h2 : (b.map B).length = 64 := by simp [hb]
  rcases key with h | h | ⟨rfl, rfl⟩
  · rw [if_neg (by rintro ⟨rfl, rfl⟩; omega), List.append_assoc, List.getElem?_append_left (by omega), List.getElem?_take_of_lt h]
    exact hd q t j hq ht hj
  · rw [if_neg (by rintro ⟨rfl, rfl⟩; omega), List.getElem?_append_right (by rw [List.length_append]; omega), List.getElem?_drop, List.length_append, h1, h2]
    rw [show (r * D.size + s) * 64 + 64 + ((q * D.size + t) * 64 + j - ((r * D.size + s) * 64 + 64)) = (q * D.size + t) * 64 + j from by omega]
    exact hd q t j hq ht hj
  · rw [if_pos ⟨rfl, rfl⟩, List.append_assoc, List.getElem?_append_right (by omega), h1, List.getElem?_append_left (by omega), Nat.add_sub_cancel_left]
    simp [hb, hj]

theorem wait_row {c : Col} {w : World} {k : Nat × Nat} {v : Value} {l : List (Nat × Bs)} (h : Sl c w k 65 v l.length (wcells l)) (hl : ∀ p ∈ l, p.2.length = 64) {g n cap : Nat} (hv : v = .slice (some ⟨g, 0, none⟩) n cap)
    (i : Nat) (p : Nat × Bs) (hi : l[i]? = some p) : ∀ j u, (wcell p)[j]? = some u → w.cell? ⟨g, i * 65 + j, none⟩ = some u := by
  intro j u hu
  rcases h.2 with ⟨h1, _⟩ | ⟨g', cap', cur, h1, hb, _⟩
  · rw [hv] at h1; simp at h1
  · rw [hv] at h1
    simp only [Value.slice.injEq, Option.some.injEq, Addr.mk.injEq] at h1
    obtain ⟨⟨rfl, _⟩, _⟩ := h1
    have hp : p.2.length = 64 := hl p (List.mem_of_getElem? hi)
    have hj : j < 65 := by have := (List.getElem?_eq_some_iff.1 hu).1; simpa [wcell, hp] using this
    have hlen := wcells_len hl
    have hlt := (List.getElem?_eq_some_iff.1 hi).1
    have hm : i * 65 + 65 ≤ (wcells l).length := by rw [hlen]; have := Nat.mul_le_mul_right 65 (show i + 1 ≤ l.length from hlt); omega
    rw [hb.cell, List.getElem?_append_left (by omega), wcells_get hl i j p hi hj]
    exact hu

set_option maxRecDepth 100000 in
set_option maxHeartbeats 4000000 in
theorem keep_in (c : Col) (w : World) (X d : Nat) (D : DiskM) (r m : Nat) (hD : DiskRep c w X d D) (hr : r < D.n) (hw9 : (D.waits r).length ≤ 1000000) (hm64 : m < 18446744073709551616) :
    Calls Try.prog 49 #[.pointer (some ⟨d, 0, none⟩), .int .i64 (r : Int), .int .u64 (m : Int)] w fun e w' => ∃ c', e = .returned (.tuple #[]) ∧ DiskRep c' w' X d (D.keep r (mbits m)) ∧ Ext (Obs [X]) c w c' w' := by
  obtain ⟨bd, bg, wv, wrt, data, h⟩ := hD
  obtain ⟨c0, c1, c2, c3⟩ := h.cells
  obtain ⟨g0, g1, g2⟩ := h.reg hr
  have hn := h.wf.n64
  obtain ⟨p, cap, hv⟩ := (h.waits r hr).form
  rw [hv] at g0
  have HV := Lib.hid hv
  have HH := Lib.hid h
  have HM64 := Lib.hid hm64
  clear hm64 h hv g1 g2 c3
  go_enter Try.func49, Try.ntmps49
  go_wp2
  clear c0 c1 c2
  go_loopw [20] (fun k wr => ∃ n : Nat, n ≤ (D.waits r).length ∧ k = .int .i64 (n : Int) ∧ Hid (∃ c1 data1, DiskAt c1 wr X d (D.part r (mbits m) n) bd bg wv wrt data1 ∧ Ext (Obs [X]) c w c1 wr)) (fun k _ => (D.waits r).length - (intOf k).toNat)
  case atStart => exact ⟨0, Nat.zero_le _, rfl, c, data, by rw [DiskM.part_zero]; exact HH.out, Ext.refl _ _ _⟩
  case round =>
    obtain ⟨n, hn', rfl, hrel⟩ := hrel
    by_cases hlt : n < (D.waits r).length
    · obtain ⟨c1, data1, hA, hE⟩ := hrel.out
      clear hrel
      obtain ⟨q, hq⟩ : ∃ q, (D.waits r)[n]? = some q := ⟨_, List.getElem?_eq_getElem hlt⟩
      have hql : ∀ p ∈ D.waits r, p.2.length = 64 := fun p hp => (hA.wf.waits r p hp).2
      obtain ⟨g, rfl⟩ : ∃ g, p = some ⟨g, 0, none⟩ := by
        rcases (hA.waits r hr).2 with ⟨h, hz⟩ | ⟨g, cap, cur, h, _⟩
        · have hz' : (D.waits r).length = 0 := hz
          omega
        · rw [HV.out] at h; simp at h; exact ⟨g, h.1⟩
      have hrow := Lib.hid (wait_row (hA.waits r hr) hql HV.out n q hq)
      have hq2 : q.2.length = 64 := hql q (List.mem_of_getElem? hq)
      have HQ := Lib.hid hq
      have HQ2 := Lib.hid hq2
      have HA := Lib.hid hA
      have HE := Lib.hid hE
      clear hq hq2 hql hA hE
      have ha63 := and63 n (by omega)
      obtain ⟨k, hk⟩ : ∃ k, k = n % 64 := ⟨_, rfl⟩
      rw [← hk] at ha63
      have HK := Lib.hid hk
      have hk64 : k < 64 := by omega
      clear hk
      have hbt := bit_test m k HM64.out
      have hr' : r < (D.part r (mbits m) n).n := hr
      obtain ⟨N0, hN0⟩ : ∃ N0, N0 = r * D.size := ⟨_, rfl⟩
      have hmul : ((r : Int) * (D.size : Int)) = (N0 : Int) := by rw [hN0]; simp
      have hqs : q.1 < D.size := ((HH.out).wf.waits r q (List.mem_of_getElem? HQ.out)).1
      obtain ⟨m1, m2, m3⟩ := mul_facts r q.1 D.n D.size hr hqs (HH.out).wf.n64 (HH.out).wf.s16
      rw [← hN0] at m1 m2
      obtain ⟨NN, hNN⟩ : ∃ NN, NN = D.n * D.size := ⟨_, rfl⟩
      rw [← hNN] at m2 m3
      have HN0 := Lib.hid hN0
      have HNN := Lib.hid hNN
      clear hN0 hNN
      cases hb : m.testBit k with
      | true =>
        rw [hb] at hbt
        have HB := Lib.hid hb
        clear hb
        go_upto_region 5 with (first
          | (refine load_agg (o := ⟨some 24, _, _, _, _, _⟩) rfl 126 (.tmp 23) rfl g (n * 65) rfl (wcell q) _ Try.underlying126 rfl (by rw [show (wcell q).length = 65 from by simp [wcell, HQ2.out]]; kernel_rfl) hrow.out ?_)
          | (refine store_new (o := ⟨none, .store 126 _ _, _, _, _, _⟩) rfl rfl 126 (.tmp 8) (.tmp 24) rfl _ rfl rfl (wcell q).toArray rfl (by rw [show (wcell q).toArray.size = 65 from by simp [wcell, HQ2.out]]; kernel_rfl) (by rw [size_zw]; simp [wcell, HQ2.out]) (by simpa using one_wcell q) ?_))
        have hA1 := (HA.out).alloc (.cells (wcell q).toArray 126) (0, 0)
        have hE1 := Lib.hid ((HE.out).alloc (.cells (wcell q).toArray 126) (0, 0))
        have hB1 := Blk.new c1 wr (wcell q) 126 (0, 0)
        generalize (setc c1 wr.heap.size (0, 0)) = cq at hA1 hE1 hB1
        have hbx : wr.heap.size = wr.heap.size := rfl
        generalize wr.alloc (.cells (wcell q).toArray 126) = w2 at hA1 hE1 hB1 ⊢
        generalize wr.heap.size = bx at hB1 ⊢
        clear HA HE hrow hbx
        obtain ⟨e0, e1, e2, e3⟩ := hA1.cells
        rw [show (D.part r (mbits m) n).size = D.size from rfl] at e0
        have hw1 : IntKind.i64.wrap ((r : Int) * (D.size : Int)) = (N0 : Int) := by rw [hmul]; exact IntWalk.i64_in _ (by omega)
        obtain ⟨i0, hi0⟩ : ∃ i0, i0 = N0 + q.1 := ⟨_, rfl⟩
        have hw2 : IntKind.i64.wrap ((N0 : Int) + (q.1 : Int)) = (i0 : Int) := by rw [IntWalk.i64_in _ (by omega)]; omega
        have hi1 : i0 < NN := by omega
        have HI0 := Lib.hid hi0
        have HM := Lib.hid hmul
        clear hi0 hmul m1 m2
        rw [show ((D.part r (mbits m) n).n * (D.part r (mbits m) n).size) = NN from HNN.out.symm] at e1
        have x0 : w2.cell? ⟨bx, 0, none⟩ = some (.int .i64 (q.1 : Int)) := by rw [hB1.cell]; rfl
        have HA1 := Lib.hid hA1
        have HB1 := Lib.hid hB1
        clear hA1 hB1 g0
        refine wp_region_still_tail 16 (by kernel_rfl) (by kernel_rfl) ?_
        simp only [List.take_succ_cons, List.take_zero, List.drop_succ_cons, List.drop_zero]
        iterate 14 still_step
        refine still_val _ rfl (load_agg_run 124 (.tmp 44) rfl bx 1 rfl (q.2.map B) _ Try.underlying124 rfl (by rw [List.length_map, HQ2.out]; kernel_rfl) (by intro j u hj; exact ((HB1.out).drew.cell (1 + j)).trans (by rw [Nat.add_comm]; exact hj))) ?_
        still_step
        refine wpStill_nil ?_
        have hlen : (q.2.map B).length = 64 := by rw [List.length_map, HQ2.out]
        have hfit : i0 * 64 + 64 ≤ data1.length := by
          have h1 := (HA1.out).sectors.1
          have h2 : (D.part r (mbits m) n).n * (D.part r (mbits m) n).size = NN := HNN.out.symm
          rw [h2] at h1
          rw [h1]
          have := Nat.mul_le_mul_right 64 (show i0 + 1 ≤ NN from hi1)
          omega
        refine store_agg rfl rfl 124 (.tmp 46) (.tmp 45) rfl bd (i0 * 64) rfl (q.2.map B) rfl (by rw [hlen]; kernel_rfl) cq (X, 1) data1 (HA1.out).secs (by rw [hlen]; exact hfit) (one_B _) ?_
        refine wpList_nil ?_
        go_wp2_with fail
        refine ⟨⟨n + 1, hlt, by simp, ?_⟩, by simp [intOf]; omega⟩
        have hAw := HA1.out
        have hsecs := hAw.secs.row (data1.take (i0 * 64) ++ (q.2.map B ++ data1.drop (i0 * 64 + 64)))
        have hmk : mbits m n = true := by show m.testBit (n % 64) = true; rw [← HK.out]; exact HB.out
        have hi : (i0 * 64 : Nat) = (r * (D.part r (mbits m) n).size + q.1) * 64 := by rw [HI0.out, HN0.out]; rfl
        have hne0 : d ≠ bd := ne_of_col hAw.top.col hAw.secs.col (by simp)
        have hne1 : bg ≠ bd := ne_of_col hAw.regs.col hAw.secs.col (by simp)
        refine (show Hid _ from ⟨cq, _, ⟨hAw.top.row_ne _ _ hne0, hsecs, ?_, hAw.regs.row_ne _ _ hne1, fun y hy => (hAw.waits y hy).row_col _ _ (by rw [hAw.secs.col]; exact colne (by omega)), DiskM.part_wf (HH.out).wf _ _ _⟩, ?_⟩)
        · have hs := hAw.sectors.set (D' := D.part r (mbits m) (n + 1)) rfl rfl (r := r) (s := q.1) hr hqs q.2 HQ2.out (fun y z => DiskM.part_take D r (mbits m) n q HQ.out hmk y z)
          rw [← hi, List.append_assoc] at hs
          exact hs
        · exact (hE1.out).drew.setRow (by rw [hAw.secs.col]; simp [Obs]) _
      | false =>
        rw [hb] at hbt
        have HB := Lib.hid hb
        clear hb
        go_wp2_with (first
          | (refine load_agg (o := ⟨some 24, _, _, _, _, _⟩) rfl 126 (.tmp 23) rfl g (n * 65) rfl (wcell q) _ Try.underlying126 rfl (by rw [show (wcell q).length = 65 from by simp [wcell, HQ2.out]]; kernel_rfl) hrow.out ?_)
          | (refine store_new (o := ⟨none, .store 126 _ _, _, _, _, _⟩) rfl rfl 126 (.tmp 8) (.tmp 24) rfl _ rfl rfl (wcell q).toArray rfl (by rw [show (wcell q).toArray.size = 65 from by simp [wcell, HQ2.out]]; kernel_rfl) (by rw [size_zw]; simp [wcell, HQ2.out]) (by simpa using one_wcell q) ?_))
        refine ⟨⟨n + 1, hlt, by simp, ?_⟩, by simp [intOf]; omega⟩
        have hmk : mbits m n = false := by show m.testBit (n % 64) = false; rw [← HK.out]; exact HB.out
        refine (show Hid _ from ⟨_, data1, ?_, (HE.out).alloc _ (0, 0)⟩)
        rw [DiskM.part_skip D r (mbits m) n q HQ.out hmk]
        exact (HA.out).alloc _ _
    · obtain rfl : n = (D.waits r).length := by omega
      obtain ⟨c1, data1, hA, hE⟩ := hrel.out
      clear hrel
      have hf0 := hA.regs.free (r * 3)
      obtain ⟨g0, _, _⟩ := hA.reg hr
      have HA := Lib.hid hA
      have HE := Lib.hid hE
      clear hA hE
      go_wp2
      go_end0
      have hAw := HA.out
      refine ⟨c1, rfl, ⟨bd, bg, upd wv r (.slice none 0 0), wrt, data1, ?_⟩, (HE.out).setCell (by rw [hAw.regs.col]; simp [Obs]) _⟩
      rw [← DiskM.part_all]
      have hG : Blk c1 _ bg (X, 2) ((rcells D.n wv D.armed D.left).set (r * 3) (.slice none 0 0)) := hAw.regs.set (r * 3) (.slice none 0 0)
      rw [rcells_set0 _ _ _ _ _ _ hr] at hG
      refine ⟨hAw.top.set_col _ _ (by rw [hAw.regs.col]; exact colne (by omega)), hAw.secs.set_col _ _ (by rw [hAw.regs.col]; exact colne (by omega)), hAw.sectors, hG, fun y hy => ?_, ?_⟩
      · by_cases hyr : y = r
        · subst hyr
          simp only [upd_same]
          exact Sl.nil _ _ _ _
        · simp only [upd_ne _ _ _ _ hyr]
          exact (hAw.waits y hy).set_col _ _ (by rw [hAw.regs.col]; exact colne (by omega))
      · rw [DiskM.part_all]; exact (HH.out).wf.keep r _
end Go.Proofs.Ytfeacmlnlljnnaa

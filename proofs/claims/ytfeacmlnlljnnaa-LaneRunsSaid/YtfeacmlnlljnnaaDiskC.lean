/- Package disk: what Write comes to. -/
import Derived.Test.YtfeacmlnlljnnaaDiskB
import Derived.Test.YtfeacmlnlljnnaaSeq
namespace Go.Proofs.Ytfeacmlnlljnnaa
open Go Go.Proofs Go.RowKit

/-- An error number is answered; the disk is D; nothing beside it has changed. -/
def DidD (c : Col) (w : World) (X d : Nat) (D : DiskM) (k : Int) (e : Ending) (w' : World) : Prop := ∃ c', e = .returned (.int .i64 k) ∧ DiskRep c' w' X d D ∧ Ext (Obs [X]) c w c' w'

theorem write_down (c : Col) (w : World) (X d : Nat) (D : DiskM) (r s : Nat) (hD : DiskRep c w X d D) (hr : r < D.n) (hs : s < D.size) (p : Option Addr) (m cap : Nat) (hm : m ≤ 64) (hd : D.down r = true) :
    Calls Try.prog 27 #[.pointer (some ⟨d, 0, none⟩), .int .i64 (r : Int), .int .i64 (s : Int), .slice p m cap] w (DidD c w X d D 10) := by
  obtain ⟨i, hi⟩ : ∃ i, i = r * D.size + s := ⟨_, rfl⟩
  have hat := Lib.hid (at_in c w X d D r s hD hr hs i hi)
  have hdn := down_in c w X d D r hD hr
  rw [hd] at hdn
  have hdn := Lib.hid hdn
  have HD := Lib.hid hD
  clear hD hi hd
  go_enter Try.func27, Try.ntmps27
  go_wp2_with (first | (go_at_call 56; refine (hat.out).mono ?_; rintro e w' ⟨rfl, rfl⟩) | (go_at_call 58; refine (hdn.out).mono ?_; rintro e w' ⟨rfl, rfl⟩))
  go_ret
  exact ⟨_, rfl, HD.out, Ext.refl _ _ _⟩

theorem colne {X a b : Nat} (h : a ≠ b) : ((X, a) : Nat × Nat) ≠ (X, b) := by simp [h]

theorem cellsZ (s : Nat) : Try.zeroCells126.setIfInBounds 0 (Value.int IntKind.i64 (s : Int)) = (wcell (s, zeros 64)).toArray := by rfl

theorem wcell_pad (s : Nat) (bs : Bs) (hb : bs.length ≤ 64) : (wcell (s, zeros 64)).take 1 ++ bs.map B ++ (wcell (s, zeros 64)).drop (1 + bs.length) = wcell (s, pad bs) := by
  have h1 : (wcell (s, zeros 64)).take 1 = [.int .i64 (s : Int)] := rfl
  have h2 : (wcell (s, zeros 64)).drop (1 + bs.length) = (zeros (64 - bs.length)).map B := by
    rw [Nat.add_comm]
    simp only [wcell, List.drop_succ_cons, zeros, List.map_replicate, List.drop_replicate]
  rw [h1, h2]
  simp [wcell, pad]

theorem info_write : (Try.prog.info? 126).map (fun i => (i.zero, i.size, i.bytes)) = some (some (.agg Try.zeroCells126), 65, 72) := by kernel_rfl
theorem size_zw : Try.zeroCells126.size = 65 := by rfl

/-- The disk, one region's count turned. -/
def DiskM.setLeft (D : DiskM) (r : Nat) (k : Int) : DiskM := { D with left := upd D.left r k }

theorem DiskAt.left {c : Col} {w : World} {X d : Nat} {D : DiskM} {bd bg : Nat} {wv : Nat → Value} {wr : Int} {data : List Value} (h : DiskAt c w X d D bd bg wv wr data) {r : Nat} (hr : r < D.n) (k : Int) (hk : (D.setLeft r k).WF) :
    DiskAt c (w.setCell ⟨bg, r * 3 + 2, none⟩ (.int .i64 k)) X d (D.setLeft r k) bd bg wv wr data := by
  refine ⟨h.top.set_col _ _ (by rw [h.regs.col]; simp), h.secs.set_col _ _ (by rw [h.regs.col]; simp), h.sectors, ?_, fun q hq => (h.waits q hq).set_col _ _ (by rw [h.regs.col]; simp; omega), hk⟩
  have := h.regs.set (r * 3 + 2) (.int .i64 k)
  rw [rcells_set2 D.n wv D.armed D.left r k hr] at this
  exact this

theorem DiskAt.drew {c : Col} {w : World} {X d : Nat} {D : DiskM} {bd bg : Nat} {wv : Nat → Value} {wr : Int} {data : List Value} (h : DiskAt c w X d D bd bg wv wr data) : DiskAt c w.drew X d D bd bg wv wr data :=
  ⟨h.top, h.secs, h.sectors, h.regs, h.waits, h.wf⟩

theorem DiskAt.alloc {c : Col} {w : World} {X d : Nat} {D : DiskM} {bd bg : Nat} {wv : Nat → Value} {wr : Int} {data : List Value} (h : DiskAt c w X d D bd bg wv wr data) (o : Obj) (y : Nat × Nat) :
    DiskAt (setc c w.heap.size y) (w.alloc o) X d D bd bg wv wr data :=
  ⟨h.top.alloc o y, h.secs.alloc o y, h.sectors, h.regs.alloc o y, fun q hq => (h.waits q hq).alloc o y, h.wf⟩

set_option maxRecDepth 100000 in
set_option maxHeartbeats 4000000 in
theorem write_ok (c : Col) (w : World) (X d : Nat) (D : DiskM) (r s : Nat) (hD : DiskRep c w X d D) (hr : r < D.n) (hs : s < D.size) (hw9 : (D.waits r).length ≤ 1000000)
    (Y : Nat) (hY : Y ≠ X) (v : Value) (bs : Bs) (hv : Rd c w Y v bs) (hb : bs.length ≤ 64) (hd : D.down r = false) :
    Calls Try.prog 27 #[.pointer (some ⟨d, 0, none⟩), .int .i64 (r : Int), .int .i64 (s : Int), v] w (DidD c w X d (D.push r s bs) 0) := by
  obtain ⟨i, hi⟩ : ∃ i, i = r * D.size + s := ⟨_, rfl⟩
  have hat := Lib.hid (at_in c w X d D r s hD hr hs i hi)
  have hdn := down_in c w X d D r hD hr
  rw [hd] at hdn
  have hdn := Lib.hid hdn
  have hwf := Lib.hid (hD.wf.push hs hb hd)
  obtain ⟨bd, bg, wv, wr, data, h⟩ := hD
  obtain ⟨p, cap, rfl, hcap, _⟩ := id hv
  have HR := Lib.hid hv
  have HD := Lib.hid hd
  have HH := Lib.hid h
  have HL : (if D.armed r then upd D.left r (D.left r - 1) else D.left) = upd D.left r (if D.armed r then D.left r - 1 else D.left r) := by
    cases D.armed r with
    | true => rfl
    | false => funext k; simp only [upd]; split <;> simp_all
  have HL := Lib.hid HL
  obtain ⟨iu, hiu, _, hiu1, _⟩ := info_parts info_u8
  have hn := h.wf.n64
  obtain ⟨lf, hlf⟩ : ∃ lf, lf = (if D.armed r then D.left r - 1 else D.left r) := ⟨_, rfl⟩
  have hlfw : (D.setLeft r lf).WF := by
    refine ⟨h.wf.n1, h.wf.n64, h.wf.s1, h.wf.s16, h.wf.base, h.wf.waits, fun q => ?_⟩
    have := (hwf.out).left q
    simp only [DiskM.push, HL.out, ← hlf] at this
    exact this
  have HLW := Lib.hid hlfw
  have HLF := Lib.hid hlf
  have c0 := h.cells.1
  have c2 := h.cells.2.2.1
  have g1 := (h.reg hr).2.1
  have g2 := (h.reg hr).2.2
  have hfree := h.regs.free (r * 3 + 2)
  have hl9 := h.wf.left r
  clear h hv hi hd hlf hlfw
  go_enter Try.func27, Try.ntmps27
  go_upto_if 33 with (first
      | (go_at_call 56; refine (hat.out).mono ?_; rintro e w' ⟨rfl, rfl⟩)
      | (go_at_call 58; refine (hdn.out).mono ?_; rintro e w' ⟨rfl, rfl⟩))
  go_cut [] (fun wx => Hid (DiskAt c wx X d (D.setLeft r lf) bd bg wv wr data ∧ Ext (Obs [X]) c w c wx))
  case first =>
    cases ha : D.armed r with
    | true =>
      rw [ha] at g1
      have h0 : 0 ≤ D.left r - 1 := by
        have := HD.out
        simp [DiskM.down, ha] at this
        omega
      have e : lf = D.left r - 1 := by rw [HLF.out, ha]; rfl
      have HE := Lib.hid e
      clear ha e
      go_wp2_with fail
      go_meet
      have hA := (HH.out).left hr lf HLW.out
      rw [HE.out] at hA ⊢
      exact ⟨hA, (Ext.refl _ _ _).setCell (by rw [(HH.out).regs.col]; simp [Obs]) _⟩
    | false =>
      rw [ha] at g1
      have e : lf = D.left r := by rw [HLF.out, ha]; rfl
      have HE := Lib.hid e
      clear ha e
      go_wp2_with fail
      go_meet
      have e2 : D.setLeft r lf = D := by
        rw [HE.out]
        have : upd D.left r (D.left r) = D.left := by funext k; simp only [upd]; split <;> simp_all
        simp [DiskM.setLeft, this]
      rw [e2]
      exact ⟨HH.out, Ext.refl _ _ _⟩
  case rest =>
    obtain ⟨hA, hE⟩ := hcut.out
    obtain ⟨c0, c1, c2, c3⟩ := hA.cells
    have hrr : r < (D.setLeft r lf).n := hr
    obtain ⟨g0, g1, g2⟩ := hA.reg hrr
    have HA := Lib.hid hA
    have HE := Lib.hid hE
    clear hcut hA hE
    go_upto_region 9 with (first
      | (refine store_new (o := ⟨none, .store 126 _ _, _, _, _, _⟩) rfl rfl 126 (.tmp 10) (.tmp 42) rfl _ rfl rfl (wcell (s, zeros 64)).toArray (congrArg Value.agg (cellsZ s)) (by kernel_rfl) (by rw [size_zw]; simp [wcell, zeros]) (by simpa using one_wcell (s, zeros 64)) ?_))
    have hR' : Rd (setc c wc.heap.size (0, 0)) (wc.alloc (.cells (wcell (s, zeros 64)).toArray 126)) Y (.slice p bs.length cap) bs :=
      ((HR.out).keep HE.out (by simp [Obs, hY])).keep ((Ext.refl (Obs [X]) c wc).alloc _ _) (by simp [Obs, hY])
    have hS := hR'.src
    have HS := Lib.hid hS
    clear hR' hS
    go_cut [10] (fun s10 wx => ∃ g, s10 = .pointer (some ⟨g, 0, none⟩) ∧ Hid (∃ c', Blk c' wx g (0, 0) (wcell (s, pad bs)) ∧ DiskAt c' wx X d (D.setLeft r lf) bd bg wv wr data ∧ Ext (Obs [X]) c w c' wx))
    case first =>
      go_wp2_with (refine copy_newS (o := ⟨some 46, _, _, _, _, _⟩) rfl (.tmp 44) (.tmp 45) 44 44 rfl 5 iu Try.underlying44 hiu hiu1 _ 1 64 64 rfl rfl _ rfl bs.length (bs.map B) HS.out hb (by simp [wcell, zeros]; omega) ?_)
      go_meet
      refine ⟨wc.heap.size, rfl, ?_⟩
      have e : (List.take 1 (wcell (s, zeros 64)).toArray.toList ++ bs.map B ++ List.drop (1 + (bs.map B).length) (wcell (s, zeros 64)).toArray.toList).toArray = (wcell (s, pad bs)).toArray := by
        rw [← wcell_pad s bs hb]; simp
      rw [e]
      exact ⟨_, Blk.new c wc _ _ _, (HA.out).alloc _ _, (HE.out).alloc _ _⟩
    case rest =>
      obtain ⟨g, rfl, h1⟩ := hcut
      clear HS HA HE c0 c1 c2 c3 g0 g1 g2 HR
      obtain ⟨c1, hB, hA, hE⟩ := h1.out
      clear h1
      obtain ⟨d0, d1, d2, d3⟩ := hA.cells
      have hrr : r < (D.setLeft r lf).n := hr
      obtain ⟨g0, g1, g2⟩ := hA.reg hrr
      have hf0 := hA.regs.free (r * 3)
      have HW := Lib.hid (hA.waits r hr)
      have HA := Lib.hid hA
      have HE := Lib.hid hE
      have HB := Lib.hid hB
      clear hA hE hB
      go_upto_region 10 with fail
      refine X_begin [6] [7, 10] (fun w' => w'.cell? ⟨bg, r * 3, none⟩ = some (wv r)) (by kernel_rfl) ?_
      refine X_pure 0 rfl (by kernel_rfl) (by kernel_rfl) (by kernel_rfl) (by kernel_rfl) (fun _ _ _ h => h) rfl (by intro w; go_simp; first | done | with_reducible rfl) ?_
      try simp only [Act.put, List.setIfInBounds_toArray, List.set_cons_zero, List.set_cons_succ]
      refine X_pure 1 rfl (by kernel_rfl) (by kernel_rfl) (by kernel_rfl) (by kernel_rfl) (fun _ _ _ h => h) rfl (by intro w; go_simp; first | done | with_reducible rfl) ?_
      try simp only [Act.put, List.setIfInBounds_toArray, List.set_cons_zero, List.set_cons_succ]
      refine X_pure 2 rfl (by kernel_rfl) (by kernel_rfl) (by kernel_rfl) (by kernel_rfl) (fun _ _ _ h => h) rfl (by intro w; go_simp; first | done | with_reducible rfl) ?_
      try simp only [Act.put, List.setIfInBounds_toArray, List.set_cons_zero, List.set_cons_succ]
      refine X_pure 3 rfl (by kernel_rfl) (by kernel_rfl) (by kernel_rfl) (by kernel_rfl) (fun _ _ _ h => h) rfl (by intro w; go_simp; first | done | with_reducible rfl) ?_
      try simp only [Act.put, List.setIfInBounds_toArray, List.set_cons_zero, List.set_cons_succ]
      refine X_held 4 rfl (by kernel_rfl) (by kernel_rfl) (by kernel_rfl) (by kernel_rfl) (by kernel_rfl) (fun _ _ _ h => h) (g0) rfl (by intro w hS; go_simp; first | done | with_reducible rfl) ?_
      try simp only [Act.put, List.setIfInBounds_toArray, List.set_cons_zero, List.set_cons_succ]
      refine X_still 5 rfl (by kernel_rfl) (by kernel_rfl) (by kernel_rfl) (by kernel_rfl) rfl (load_agg_run 126 (.tmp 10) rfl g 0 rfl (wcell (s, pad bs)) _ Try.underlying126 rfl (by rw [show (wcell (s, pad bs)).length = 65 from by simp [wcell, pad_len bs hb]]; kernel_rfl) (by intro j u hj; rw [Nat.zero_add]; exact (HB.out).drew.cell j ▸ hj)) ?_
      try simp only [Act.put, List.setIfInBounds_toArray, List.set_cons_zero, List.set_cons_succ]
      obtain ⟨iw, hiw, hw1, hw2, hw3⟩ := info_parts info_write
      have hwl : (wcell (s, pad bs)).length = 65 := by simp [wcell, pad_len bs hb]
      refine X_opS 6 rfl (by kernel_rfl) (by kernel_rfl) ?_
      refine build_one rfl 106 (.tmp 52) rfl 126 iw _ 65 Try.underlying106 hiw hw1 hw2 size_zw (by decide) (by decide) (wcell (s, pad bs)).toArray rfl (by simpa using hwl) ?_
      refine wpList_nil ?_
      refine ⟨by rw [World.cell?_alloc_lt _ _ _ (by exact (HA.out).regs.lt)]; exact g0, ?_⟩
      try simp only [Act.put, List.setIfInBounds_toArray, List.set_cons_zero, List.set_cons_succ]
      refine X_op 7 rfl (by kernel_rfl) (by kernel_rfl) (by kernel_rfl) ?_
      have hA1 := Lib.hid (((HA.out).drew).alloc (.cells (wcell (s, pad bs)).toArray 126) (0, 0))
      have hE1 := Lib.hid ((HE.out).drew.alloc (.cells (wcell (s, pad bs)).toArray 126) (0, 0))
      have hB1 := Lib.hid (Blk.new c1 wc.drew (wcell (s, pad bs)) 126 (0, 0))
      refine append_sl rfl (.tmp 51) (.tmp 53) 106 106 rfl 126 iw _ 65 72 Try.underlying106 hiw hw1 hw2 hw3 size_zw (setc c1 wc.heap.size (0, 0)) (X, 3 + r) (wv r) (D.waits r).length (wcells (D.waits r)) rfl ((hA1.out).waits r hr)
        _ rfl 1 (wcell (s, pad bs)) (cells_src wc.heap.size 0 1 1 65 _ _ 126 Try.underlying106 (by omega) (by intro j v hj; rw [Nat.zero_add]; exact (hB1.out).cell j ▸ hj) (one_wcell _)) (by unfold maxLen; omega) (by omega) ?_
      intro v' w' c' hSl hX
      obtain ⟨p', cap', rfl⟩ := hSl.form
      refine wpList_nil ?_
      have hregs := (hA1.out).regs.keep hX (by rintro ⟨h, _⟩; simp at h; omega)
      have htop := (hA1.out).top.keep hX (by rintro ⟨h, _⟩; simp at h; omega)
      have hsecs := (hA1.out).secs.keep hX (by rintro ⟨h, _⟩; simp at h; omega)
      have k0 : w'.cell? ⟨bg, r * 3, none⟩ = some (wv r) := by rw [hregs.cell]; exact (rcells_get _ _ _ _ r 0 hrr (by omega)).trans rfl
      have k1 := hregs.free (r * 3)
      have k2 : w'.cell? ⟨d, 3, none⟩ = some (.int .i64 wr) := by rw [htop.cell]; rfl
      have k3 := htop.free 3
      have hne : bg ≠ d := ne_of_col hregs.col htop.col (by simp)
      have HG := Lib.hid hregs
      have HP := Lib.hid htop
      have HC := Lib.hid hsecs
      have HS := Lib.hid hSl
      have HX := Lib.hid hX
      clear hregs htop hsecs hSl hX g0 g1 g2 d0 d1 d2 d3 hf0 HB hB1
      try simp only [Act.put, List.setIfInBounds_toArray, List.set_cons_zero, List.set_cons_succ]
      refine X_pure 8 rfl (by kernel_rfl) (by kernel_rfl) (by kernel_rfl) (by kernel_rfl) (fun _ _ _ h => h) rfl (by intro w; go_simp; first | done | with_reducible rfl) ?_
      try simp only [Act.put, List.setIfInBounds_toArray, List.set_cons_zero, List.set_cons_succ]
      refine X_pure 9 rfl (by kernel_rfl) (by kernel_rfl) (by kernel_rfl) (by kernel_rfl) (fun _ _ _ h => h) rfl (by intro w; go_simp; first | done | with_reducible rfl) ?_
      try simp only [Act.put, List.setIfInBounds_toArray, List.set_cons_zero, List.set_cons_succ]
      refine X_op 10 rfl (by kernel_rfl) (by kernel_rfl) (by kernel_rfl) ?_
      go_step
      go_step
      go_step
      refine wpList_nil ?_
      refine X_done (by kernel_rfl) ?_ _
      go_wp2_with fail
      go_ret
      have hG := ((HG.out).set (r * 3) (.slice p' ((D.waits r).length + 1) cap')).set_col ⟨d, 3, none⟩ (.int .i64 (wrap64 (wr + 1))) (by rw [(HP.out).col]; simp)
      have hP := ((HP.out).set_col ⟨bg, r * 3, none⟩ (.slice p' ((D.waits r).length + 1) cap') (by rw [(HG.out).col]; simp)).set 3 (.int .i64 (wrap64 (wr + 1)))
      have hC := ((HC.out).set_col ⟨bg, r * 3, none⟩ (.slice p' ((D.waits r).length + 1) cap') (by rw [(HG.out).col]; simp)).set_col ⟨d, 3, none⟩ (.int .i64 (wrap64 (wr + 1))) (by rw [(HP.out).col]; simp)
      have hXE := ((hE1.out).trans ((HX.out).mono (M' := Obs [X]) (fun x ⟨e, _⟩ => by subst e; simp [Obs])))
      refine ⟨c', rfl, ⟨bd, bg, upd wv r (.slice p' ((D.waits r).length + 1) cap'), wrap64 (wr + 1), data, ?_, hC, (HA.out).sectors, ?_, ?_, hwf.out⟩, ?_⟩
      · exact hP
      · rw [rcells_set0 _ _ _ _ _ _ hrr] at hG
        have e : (D.push r s bs).left = (D.setLeft r lf).left := by
          show (if D.armed r then upd D.left r (D.left r - 1) else D.left) = upd D.left r lf
          rw [HL.out, HLF.out]
        rw [e]
        exact hG
      · intro q hq
        by_cases hqr : q = r
        · subst hqr
          have e1 : (D.push q s bs).waits q = D.waits q ++ [(s, pad bs)] := by simp [DiskM.push]
          rw [e1, wcells_snoc, List.length_append]
          simp only [upd_same]
          exact ((HS.out).set_col _ _ (by rw [(HG.out).col]; exact colne (by omega))).set_col _ _ (by rw [(HP.out).col]; exact colne (by omega))
        · have e1 : (D.push r s bs).waits q = D.waits q := by simp [DiskM.push, upd, hqr]
          rw [e1, upd_ne _ _ _ _ hqr]
          exact ((((hA1.out).waits q hq).keep HX.out (by rintro ⟨h, _⟩; simp at h; omega)).set_col _ _ (by rw [(HG.out).col]; exact colne (by omega))).set_col _ _ (by rw [(HP.out).col]; exact colne (by omega))
      · exact (hXE.setCell (by rw [(HG.out).col]; simp [Obs]) _).setCell (by rw [(HP.out).col]; simp [Obs]) _
end Go.Proofs.Ytfeacmlnlljnnaa

/- Package record: what cell and Right come to. -/
import Derived.Test.YtfeacmlnlljnnaaRecA
namespace Go.Proofs.Ytfeacmlnlljnnaa
open Go Go.Proofs Go.RowKit

theorem empty_of (s : ByteArray) (h : s.size = 0) : s = ByteArray.empty := by
  cases s with
  | mk d => have : d = #[] := by simpa [ByteArray.size] using h
            subst this; rfl

theorem cell_in (w : World) (s : ByteArray) (h : s.size = 0 ∨ s.size = 40) :
    Calls Try.prog 65 #[.string s] w fun e w' => e = .returned (.bool true) ∧ w = w' := by
  rcases h with h | h
  · obtain rfl := empty_of s h
    go_enter Try.func65, Try.ntmps65
    go_wp2
    all_goals (go_ret; exact ⟨rfl, rfl⟩)
  · have H := Lib.hid h
    have h3 : ((s.size : Int) == 40) = true := by rw [h]; rfl
    clear h
    go_enter Try.func65, Try.ntmps65
    go_wp2
    all_goals (go_ret; exact ⟨rfl, rfl⟩)

set_option maxRecDepth 100000 in
set_option maxHeartbeats 4000000 in
theorem right_in (c : Col) (w : World) (Y : Nat) (r : Rec) (hr : r.Ok) (dv : Value) (hd : Dirt c w Y dv r) :
    Calls Try.prog 41 #[.agg (recCells r dv).toArray] w fun e w' => e = .returned (.bool true) ∧ ∃ c', Ext (Obs []) c w c' w' := by
  have hb := Lib.hid hr.before
  have ha := Lib.hid hr.after
  have hk1 := hr.k1
  have hk7 := hr.k7
  have ht7 := hr.txn
  have hp7 := hr.page
  have hs7 := hr.slot
  have hi : r.image.toList = [] ∨ ((r.image.size : Int) != 256) = false := by
    rcases hr.image with h | h
    · left; rw [empty_of _ h, ByteArray.toList_empty]
    · right; rw [h]; rfl
  have hdd : ((r.dirty.length : Int) == 0) = true ∨ ((r.dirty.length : Int) == 0) = false ∧ ((r.kind : Int) == 7) = true ∧ ((r.dirty.length : Int) == 6) = true := by
    rcases hr.dirty with h | ⟨h, h'⟩
    · left; rw [h]; rfl
    · right; rw [h, h']; exact ⟨rfl, rfl, rfl⟩
  obtain ⟨q, dcap, rfl, _⟩ := id hd
  have HI := Lib.hid hi
  have HDD := Lib.hid hdd
  have e0 := (Ext.refl (Obs []) c w).alloc (.cells (recCells r (.slice q r.dirty.length dcap)).toArray 33) (0, 1)
  have b0 := Blk.new c w (recCells r (.slice q r.dirty.length dcap)) 33 (0, 1)
  have E0 := Lib.hid e0
  generalize hw0 : w.alloc (.cells (recCells r (.slice q r.dirty.length dcap)).toArray 33) = w0 at b0 E0
  have k0 : w0.cell? ⟨w.heap.size, 0, none⟩ = some (.int .i64 (r.kind : Int)) := by rw [b0.cell]; rfl
  have k1 : w0.cell? ⟨w.heap.size, 1, none⟩ = some (.int .i64 (r.txn : Int)) := by rw [b0.cell]; rfl
  have k2 : w0.cell? ⟨w.heap.size, 2, none⟩ = some (.int .i64 (r.page : Int)) := by rw [b0.cell]; rfl
  have k3 : w0.cell? ⟨w.heap.size, 3, none⟩ = some (.int .i64 (r.slot : Int)) := by rw [b0.cell]; rfl
  have k4 : w0.cell? ⟨w.heap.size, 4, none⟩ = some (.string r.before) := by rw [b0.cell]; rfl
  have k5 : w0.cell? ⟨w.heap.size, 5, none⟩ = some (.string r.after) := by rw [b0.cell]; rfl
  have k6 : w0.cell? ⟨w.heap.size, 6, none⟩ = some (.string r.image) := by rw [b0.cell]; rfl
  have k7 : w0.cell? ⟨w.heap.size, 7, none⟩ = some (.slice q r.dirty.length dcap) := by rw [b0.cell]; rfl
  unfold recCells at hw0 ⊢
  have HW0 := Lib.hid hw0
  clear hr hd hi hdd e0 b0 hw0
  go_enter Try.func41, Try.ntmps41
  go_upto_region 1 with fail
  rw [HW0.out]
  go_cut [1, 40] (fun v u wx => v = .pointer (some ⟨w.heap.size, 0, none⟩) ∧ u = .bool false ∧ wx = w0)
  case first =>
    go_wp2_with fail
    go_meet
    refine ⟨rfl, ?_, rfl⟩
    simp only [Value.bool.injEq]
    simp only [Bool.or_eq_false_iff, decide_eq_false_iff_not]
    omega
  case rest =>
    obtain ⟨rfl, rfl, rfl⟩ := hcut
    go_upto_region 3 with fail
    have hc1 := Lib.hid (cell_in wc r.before hb.out)
    have hc2 := Lib.hid (cell_in wc r.after ha.out)
    go_cut [1, 61] (fun v u wx => v = .pointer (some ⟨w.heap.size, 0, none⟩) ∧ u = .bool false ∧ wx = wc)
    case first =>
      have hi := HI.out
      go_wp2_with (first
        | (go_at_call 65; refine (hc1.out).mono ?_; rintro e w' ⟨rfl, rfl⟩; clear hc1)
        | (go_at_call 65; refine (hc2.out).mono ?_; rintro e w' ⟨rfl, rfl⟩; clear hc2))
      all_goals go_meet
      all_goals (refine ⟨rfl, ?_, rfl⟩; first | rfl | skip)
      all_goals (rcases hi with h | h <;> rw [h] <;> simp)
    case rest =>
      obtain ⟨rfl, rfl, rfl⟩ := hcut
      have hdd := HDD.out
      rcases hdd with h0 | ⟨h0, h7, h6⟩
      · go_wp2
        all_goals (go_ret; exact ⟨rfl, _, E0.out⟩)
      · go_wp2
        all_goals (go_ret; exact ⟨rfl, _, E0.out⟩)
end Go.Proofs.Ytfeacmlnlljnnaa

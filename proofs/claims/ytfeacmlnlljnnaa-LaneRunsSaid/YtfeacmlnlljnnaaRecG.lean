/- Package record: Same. -/
import Derived.Test.YtfeacmlnlljnnaaRecF
namespace Go.Proofs.Ytfeacmlnlljnnaa
open Go Go.Proofs Go.RowKit

/-- A bool that says whether p. -/
def Says (c : Col) (w : World) (p : Prop) (e : Ending) (w' : World) : Prop := ∃ b : Bool, e = .returned (.bool b) ∧ (b = true ↔ p) ∧ ∃ c' : Col, Ext (Obs []) c w c' w'

structure SameAt (c : Col) (w : World) (p1 p2 : Nat) (r1 r2 : Rec) (q1 q2 : Option Addr) (n1 n2 : Nat) (c' : Col) (w' : World) : Prop where
  b1 : Blk c' w' p1 (0, 1) (recCells r1 (.slice q1 r1.dirty.length n1))
  b2 : Blk c' w' p2 (0, 1) (recCells r2 (.slice q2 r2.dirty.length n2))
  ext : Ext (Obs []) c w c' w'

theorem str_eq' {s t : ByteArray} (h : s.toList = t.toList) : s = t := by
  rw [ByteArray.toList_eq, ByteArray.toList_eq] at h; exact str_eq h

theorem dirt_cell {c : Col} {w : World} {Y : Nat} {q : Option Addr} {n : Nat} {r : Rec} (h : Dirt c w Y (.slice q r.dirty.length n) r) {j d : Nat} (hj : r.dirty[j]? = some d) :
    ∃ g o, q = some ⟨g, o, none⟩ ∧ w.cell? ⟨g, o + j, none⟩ = some (.int .u64 (d : Int)) := by
  obtain ⟨p', cap', e, _, _, hh⟩ := h
  simp only [Value.slice.injEq] at e
  obtain ⟨rfl, _, rfl⟩ := e
  obtain ⟨g, o, e1, _, _, hu⟩ := hh j (U64 d) (by simp [hj])
  exact ⟨g, o, e1, hu⟩

set_option maxRecDepth 100000 in
set_option maxHeartbeats 4000000 in
theorem same_in (c : Col) (w : World) (Y1 Y2 : Nat) (r1 r2 : Rec) (dv1 dv2 : Value) (hd1 : Dirt c w Y1 dv1 r1) (hd2 : Dirt c w Y2 dv2 r2) (hl1 : r1.dirty.length ≤ 1000) (hl2 : r2.dirty.length ≤ 1000) :
    Calls Try.prog 55 #[.agg (recCells r1 dv1).toArray, .agg (recCells r2 dv2).toArray] w (Says c w (r1 = r2)) := by
  obtain ⟨q1, cap1, rfl, _⟩ := id hd1
  obtain ⟨q2, cap2, rfl, _⟩ := id hd2
  have e1 := (Ext.refl (Obs []) c w).alloc (.cells (recCells r1 (.slice q1 r1.dirty.length cap1)).toArray 33) (0, 1)
  have b1 := Blk.new c w (recCells r1 (.slice q1 r1.dirty.length cap1)) 33 (0, 1)
  have d1 := Rs.keep hd1 e1 (by simp [Obs])
  have d2 := Rs.keep hd2 e1 (by simp [Obs])
  have e2 := e1.alloc (.cells (recCells r2 (.slice q2 r2.dirty.length cap2)).toArray 33) (0, 1)
  have b1' := b1.alloc (.cells (recCells r2 (.slice q2 r2.dirty.length cap2)).toArray 33) (0, 1)
  have b2 := Blk.new (setc c w.heap.size (0, 1)) (w.alloc (.cells (recCells r1 (.slice q1 r1.dirty.length cap1)).toArray 33)) (recCells r2 (.slice q2 r2.dirty.length cap2)) 33 (0, 1)
  have e3 := (Ext.refl (Obs []) (setc c w.heap.size (0, 1)) (w.alloc (.cells (recCells r1 (.slice q1 r1.dirty.length cap1)).toArray 33))).alloc (.cells (recCells r2 (.slice q2 r2.dirty.length cap2)).toArray 33) (0, 1)
  have d1' := Rs.keep d1 e3 (by simp [Obs])
  have d2' := Rs.keep d2 e3 (by simp [Obs])
  simp only [World.size_alloc] at b1' b2 e2 d1' d2'
  have S : Hid (∃ c', SameAt c w w.heap.size (w.heap.size + 1) r1 r2 q1 q2 cap1 cap2 c' ((w.alloc (.cells (recCells r1 (.slice q1 r1.dirty.length cap1)).toArray 33)).alloc (.cells (recCells r2 (.slice q2 r2.dirty.length cap2)).toArray 33)) ∧ Dirt c' ((w.alloc (.cells (recCells r1 (.slice q1 r1.dirty.length cap1)).toArray 33)).alloc (.cells (recCells r2 (.slice q2 r2.dirty.length cap2)).toArray 33)) Y1 (.slice q1 r1.dirty.length cap1) r1 ∧ Dirt c' ((w.alloc (.cells (recCells r1 (.slice q1 r1.dirty.length cap1)).toArray 33)).alloc (.cells (recCells r2 (.slice q2 r2.dirty.length cap2)).toArray 33)) Y2 (.slice q2 r2.dirty.length cap2) r2) :=
    ⟨_, ⟨b1', b2, e2⟩, d1', d2'⟩
  clear e1 e2 e3 b1 b1' b2 d1 d2 d1' d2' hd1 hd2
  unfold recCells at S ⊢
  go_enter Try.func55, Try.ntmps55
  go_upto_region 1 with fail
  generalize (w.alloc (.cells [Value.int .i64 (r1.kind : Int), .int .i64 (r1.txn : Int), .int .i64 (r1.page : Int), .int .i64 (r1.slot : Int), .string r1.before, .string r1.after, .string r1.image, .slice q1 r1.dirty.length cap1].toArray 33)).alloc (.cells [Value.int .i64 (r2.kind : Int), .int .i64 (r2.txn : Int), .int .i64 (r2.page : Int), .int .i64 (r2.slot : Int), .string r2.before, .string r2.after, .string r2.image, .slice q2 r2.dirty.length cap2].toArray 33) = w2 at S ⊢
  generalize w.heap.size = p1 at S ⊢
  obtain ⟨c2, s2, d1, d2⟩ := S.out
  clear S
  have k0 : w2.cell? ⟨p1, 0, none⟩ = some (Value.int .i64 (r1.kind : Int)) := by rw [s2.b1.cell]; rfl
  have m0 : w2.cell? ⟨p1 + 1, 0, none⟩ = some (Value.int .i64 (r2.kind : Int)) := by rw [s2.b2.cell]; rfl
  have k1 : w2.cell? ⟨p1, 1, none⟩ = some (Value.int .i64 (r1.txn : Int)) := by rw [s2.b1.cell]; rfl
  have m1 : w2.cell? ⟨p1 + 1, 1, none⟩ = some (Value.int .i64 (r2.txn : Int)) := by rw [s2.b2.cell]; rfl
  have k2 : w2.cell? ⟨p1, 2, none⟩ = some (Value.int .i64 (r1.page : Int)) := by rw [s2.b1.cell]; rfl
  have m2 : w2.cell? ⟨p1 + 1, 2, none⟩ = some (Value.int .i64 (r2.page : Int)) := by rw [s2.b2.cell]; rfl
  have k3 : w2.cell? ⟨p1, 3, none⟩ = some (Value.int .i64 (r1.slot : Int)) := by rw [s2.b1.cell]; rfl
  have m3 : w2.cell? ⟨p1 + 1, 3, none⟩ = some (Value.int .i64 (r2.slot : Int)) := by rw [s2.b2.cell]; rfl
  have k4 : w2.cell? ⟨p1, 4, none⟩ = some (Value.string r1.before) := by rw [s2.b1.cell]; rfl
  have m4 : w2.cell? ⟨p1 + 1, 4, none⟩ = some (Value.string r2.before) := by rw [s2.b2.cell]; rfl
  have k5 : w2.cell? ⟨p1, 5, none⟩ = some (Value.string r1.after) := by rw [s2.b1.cell]; rfl
  have m5 : w2.cell? ⟨p1 + 1, 5, none⟩ = some (Value.string r2.after) := by rw [s2.b2.cell]; rfl
  have k6 : w2.cell? ⟨p1, 6, none⟩ = some (Value.string r1.image) := by rw [s2.b1.cell]; rfl
  have m6 : w2.cell? ⟨p1 + 1, 6, none⟩ = some (Value.string r2.image) := by rw [s2.b2.cell]; rfl
  have k7 : w2.cell? ⟨p1, 7, none⟩ = some (Value.slice q1 r1.dirty.length cap1) := by rw [s2.b1.cell]; rfl
  have m7 : w2.cell? ⟨p1 + 1, 7, none⟩ = some (Value.slice q2 r2.dirty.length cap2) := by rw [s2.b2.cell]; rfl
  generalize Value.agg #[Value.int .i64 (r1.kind : Int), .int .i64 (r1.txn : Int), .int .i64 (r1.page : Int), .int .i64 (r1.slot : Int), .string r1.before, .string r1.after, .string r1.image, .slice q1 r1.dirty.length cap1] = A1
  generalize Value.agg #[Value.int .i64 (r2.kind : Int), .int .i64 (r2.txn : Int), .int .i64 (r2.page : Int), .int .i64 (r2.slot : Int), .string r2.before, .string r2.after, .string r2.image, .slice q2 r2.dirty.length cap2] = A2
  have S := Lib.hid s2
  have D1 := Lib.hid d1
  have D2 := Lib.hid d2
  clear s2 d1 d2
  go_cut [2, 3, 61] (fun v2 v3 u wx => v2 = .pointer (some ⟨p1, 0, none⟩) ∧ v3 = .pointer (some ⟨p1 + 1, 0, none⟩) ∧ wx = w2 ∧ ∃ b, u = .bool b ∧ (b = false ↔ (r1.kind = r2.kind ∧ r1.txn = r2.txn ∧ r1.page = r2.page ∧ r1.slot = r2.slot ∧ r1.before = r2.before ∧ r1.after = r2.after ∧ r1.image = r2.image ∧ r1.dirty.length = r2.dirty.length)))
  case first =>
    go_wp2_with fail
    all_goals go_meet
    all_goals (refine ⟨rfl, rfl, rfl, _, rfl, ?_⟩)
    all_goals (refine ⟨fun hh => ?_, fun ⟨a1, a2, a3, a4, a5, a6, a7, a8⟩ => ?_⟩)
    all_goals first
      | (have hh' := hh; cases hh'; done)
      | contradiction
      | (exfalso; omega)
      | (rw [a8]; simp; done)
      | exact absurd (congrArg ByteArray.toList a5) ‹_›
      | exact absurd (congrArg ByteArray.toList a6) ‹_›
      | exact absurd (congrArg ByteArray.toList a7) ‹_›
      | (simp only [bne_eq_false_iff_eq] at hh; refine ⟨?_, ?_, ?_, ?_, str_eq' ?_, str_eq' ?_, str_eq' ?_, ?_⟩ <;> first | assumption | omega)
  case rest =>
    obtain ⟨rfl, rfl, rfl, b, rfl, hb⟩ := hcut
    have HB := Lib.hid hb
    clear hb
    cases b
    case true =>
      go_wp2_with fail
      go_ret
      refine ⟨false, rfl, ⟨fun h => (by cases h), fun e => ?_⟩, _, (S.out).ext⟩
      have := (HB.out).2 ⟨by rw [e], by rw [e], by rw [e], by rw [e], by rw [e], by rw [e], by rw [e], by rw [e]⟩
      cases this
    case false =>
      obtain ⟨h1, h2, h3, h4, h5, h6, h7, h8⟩ := (HB.out).1 rfl
      go_upto_region 4 with fail
      go_loopw [65, 5] (fun i _ wx => ∃ j : Nat, j ≤ r1.dirty.length ∧ i = .int .i64 (j : Int) ∧ Hid (∃ c', SameAt c w p1 (p1 + 1) r1 r2 q1 q2 cap1 cap2 c' wx ∧ Dirt c' wx Y1 (.slice q1 r1.dirty.length cap1) r1 ∧ Dirt c' wx Y2 (.slice q2 r2.dirty.length cap2) r2) ∧ ∀ k, k < j → r1.dirty[k]? = r2.dirty[k]?) (fun i _ _ => r1.dirty.length - (intOf i).toNat)
      case atStart => exact ⟨0, Nat.zero_le _, rfl, ⟨_, S.out, D1.out, D2.out⟩, fun k hk => by omega⟩
      case round =>
        obtain ⟨j, hj, rfl, hrel, hall⟩ := hrel
        obtain ⟨c1, s1, e1, e2⟩ := hrel.out
        clear hrel k0 k1 k2 k3 k4 k5 k6 k7 m0 m1 m2 m3 m4 m5 m6 m7
        have k7 : wr.cell? ⟨p1, 7, none⟩ = some (Value.slice q1 r1.dirty.length cap1) := by rw [s1.b1.cell]; rfl
        have m7 : wr.cell? ⟨p1 + 1, 7, none⟩ = some (Value.slice q2 r2.dirty.length cap2) := by rw [s1.b2.cell]; rfl
        have HA := Lib.hid hall
        clear hall
        by_cases hlt : j < r1.dirty.length
        · obtain ⟨x1, hx1⟩ : ∃ d, r1.dirty[j]? = some d := ⟨_, List.getElem?_eq_getElem hlt⟩
          obtain ⟨x2, hx2⟩ : ∃ d, r2.dirty[j]? = some d := ⟨_, List.getElem?_eq_getElem (by omega)⟩
          obtain ⟨g1, o1, rfl, n1⟩ := dirt_cell e1 hx1
          obtain ⟨g2, o2, rfl, n2⟩ := dirt_cell e2 hx2
          have S1 := Lib.hid s1
          have E1 := Lib.hid e1
          have E2 := Lib.hid e2
          have HX1 := Lib.hid hx1
          have HX2 := Lib.hid hx2
          clear s1 e1 e2 hx1 hx2
          go_upto_region 6 with fail
          refine X_begin [] [] (fun _ => True) (by kernel_rfl) ?_
          refine X_pure 0 rfl (by kernel_rfl) (by kernel_rfl) (by kernel_rfl) (by kernel_rfl) (fun _ _ _ h => h) rfl (by intro w; go_simp; first | done | with_reducible rfl) ?_
          try simp only [Act.put, List.setIfInBounds_toArray, List.set_cons_zero, List.set_cons_succ]
          refine X_pure 2 rfl (by kernel_rfl) (by kernel_rfl) (by kernel_rfl) (by kernel_rfl) (fun _ _ _ h => h) rfl (by intro w; go_simp; first | done | with_reducible rfl) ?_
          try simp only [Act.put, List.setIfInBounds_toArray, List.set_cons_zero, List.set_cons_succ]
          refine X_pure 5 rfl (by kernel_rfl) (by kernel_rfl) (by kernel_rfl) (by kernel_rfl) (fun _ _ _ h => h) rfl (by intro w; go_simp; first | done | with_reducible rfl) ?_
          try simp only [Act.put, List.setIfInBounds_toArray, List.set_cons_zero, List.set_cons_succ]
          refine X_pure 7 rfl (by kernel_rfl) (by kernel_rfl) (by kernel_rfl) (by kernel_rfl) (fun _ _ _ h => h) rfl (by intro w; go_simp; first | done | with_reducible rfl) ?_
          try simp only [Act.put, List.setIfInBounds_toArray, List.set_cons_zero, List.set_cons_succ]
          refine X_still 1 rfl (by kernel_rfl) (by kernel_rfl) (by kernel_rfl) (by kernel_rfl) rfl (by go_simp; first | done | with_reducible rfl) ?_
          try simp only [Act.put, List.setIfInBounds_toArray, List.set_cons_zero, List.set_cons_succ]
          refine X_pure 3 rfl (by kernel_rfl) (by kernel_rfl) (by kernel_rfl) (by kernel_rfl) (fun _ _ _ h => h) rfl (by intro w; go_simp; first | done | with_reducible rfl) ?_
          try simp only [Act.put, List.setIfInBounds_toArray, List.set_cons_zero, List.set_cons_succ]
          refine X_still 4 rfl (by kernel_rfl) (by kernel_rfl) (by kernel_rfl) (by kernel_rfl) rfl (by go_simp; first | done | with_reducible rfl) ?_
          try simp only [Act.put, List.setIfInBounds_toArray, List.set_cons_zero, List.set_cons_succ]
          refine X_still 6 rfl (by kernel_rfl) (by kernel_rfl) (by kernel_rfl) (by kernel_rfl) rfl (by go_simp; first | done | with_reducible rfl) ?_
          try simp only [Act.put, List.setIfInBounds_toArray, List.set_cons_zero, List.set_cons_succ]
          refine X_pure 8 rfl (by kernel_rfl) (by kernel_rfl) (by kernel_rfl) (by kernel_rfl) (fun _ _ _ h => h) rfl (by intro w; go_simp; first | done | with_reducible rfl) ?_
          try simp only [Act.put, List.setIfInBounds_toArray, List.set_cons_zero, List.set_cons_succ]
          refine X_still 9 rfl (by kernel_rfl) (by kernel_rfl) (by kernel_rfl) (by kernel_rfl) rfl (by go_simp; first | done | with_reducible rfl) ?_
          try simp only [Act.put, List.setIfInBounds_toArray, List.set_cons_zero, List.set_cons_succ]
          refine X_pure 10 rfl (by kernel_rfl) (by kernel_rfl) (by kernel_rfl) (by kernel_rfl) (fun _ _ _ h => h) rfl (by intro w; go_simp; first | done | with_reducible rfl) ?_
          try simp only [Act.put, List.setIfInBounds_toArray, List.set_cons_zero, List.set_cons_succ]
          refine X_done (by kernel_rfl) ?_ _
          go_wp2_with fail
          · rename_i hne
            go_ret
            refine ⟨false, rfl, ⟨fun h => (by cases h), fun e => ?_⟩, _, (S1.out).ext.drew⟩
            have h1 := HX1.out
            rw [e, HX2.out] at h1
            cases h1
            simp at hne
          · rename_i heq
            obtain rfl : x1 = x2 := by simp at heq; omega
            refine ⟨⟨j + 1, hlt, rfl, ⟨_, ⟨(S1.out).b1.drew, (S1.out).b2.drew, (S1.out).ext.drew⟩, E1.out, E2.out⟩, fun k hk => ?_⟩, by simp [intOf] <;> omega⟩
            by_cases hkj : k = j
            · rw [hkj, HX1.out, HX2.out]
            · exact HA.out k (by omega)
        · obtain rfl : j = r1.dirty.length := by omega
          have S1 := Lib.hid s1
          clear s1 e1 e2
          go_wp2_with fail
          go_ret
          refine ⟨true, rfl, ⟨fun _ => ?_, fun _ => rfl⟩, _, (S1.out).ext⟩
          have hd : r1.dirty = r2.dirty := List.ext_getElem? fun k => by
            by_cases hk : k < r1.dirty.length
            · exact HA.out k hk
            · rw [List.getElem?_eq_none (by omega), List.getElem?_eq_none (by omega)]
          cases r1; cases r2; simp_all
end Go.Proofs.Ytfeacmlnlljnnaa

/- Package record: records as data, and what Encode comes to. -/
import Derived.Test.YtfeacmlnlljnnaaPackC
namespace Go.Proofs.Ytfeacmlnlljnnaa
open Go Go.Proofs Go.RowKit

structure Rec where
  kind : Nat
  txn : Nat
  page : Nat
  slot : Nat
  before : ByteArray
  after : ByteArray
  image : ByteArray
  dirty : List Nat

/-- It may be a record. -/
structure Rec.Ok (r : Rec) : Prop where
  k1 : 1 ≤ r.kind
  k7 : r.kind ≤ 7
  txn : r.txn ≤ 255
  page : r.page ≤ 5
  slot : r.slot ≤ 4
  before : r.before.size = 0 ∨ r.before.size = 40
  after : r.after.size = 0 ∨ r.after.size = 40
  image : r.image.size = 0 ∨ r.image.size = 256
  dirty : r.dirty.length = 0 ∨ r.kind = 7 ∧ r.dirty.length = 6
  d64 : ∀ d ∈ r.dirty, d < 18446744073709551616

def U64 (d : Nat) : Value := .int .u64 (d : Int)
/-- A record's cells. -/
def recCells (r : Rec) (dv : Value) : List Value := [.int .i64 (r.kind : Int), .int .i64 (r.txn : Int), .int .i64 (r.page : Int), .int .i64 (r.slot : Int), .string r.before, .string r.after, .string r.image, dv]
def Dirt (c : Col) (w : World) (Y : Nat) (dv : Value) (r : Rec) : Prop := Rs c w Y dv r.dirty.length (r.dirty.map U64)

def bodyB (r : Rec) : Bs :=
  [UInt8.ofNat r.kind, UInt8.ofNat r.txn, UInt8.ofNat r.page, UInt8.ofNat r.slot] ++ textB r.before.data.toList ++ textB r.after.data.toList ++ (be 2 r.image.size ++ r.image.data.toList) ++ be 1 r.dirty.length ++ r.dirty.flatMap (be 8)
def encB (r : Rec) : Bs := be 2 (bodyB r).length ++ bodyB r

theorem size_eq (s : ByteArray) : s.data.toList.length = s.size := rfl

/-- On the way: v are the bytes bs so far; the record's own copy is at w's end. -/
structure EncAt (c : Col) (w : World) (f : Nat × Nat) (Y : Nat) (dv : Value) (r : Rec) (c' : Col) (bs : Bs) (v : Value) (wx : World) : Prop where
  own : Own c' wx f v bs
  box : Blk c' wx w.heap.size (0, 1) (recCells r dv)
  dirt : Dirt c' wx Y dv r
  ext : Ext (fun y => y = f) c w c' wx

theorem EncAt.step {c : Col} {w : World} {f : Nat × Nat} {Y : Nat} {dv : Value} {r : Rec} {c' : Col} {bs : Bs} {v : Value} {wx : World} (h : EncAt c w f Y dv r c' bs v wx) (hf : Y + 1 < f.1) {c2 : Col} {w2 : World} {v2 : Value} {bs2 : Bs}
    (ho : Own c2 w2 f v2 bs2) (he : Ext (fun y => y = f) c' wx c2 w2) : EncAt c w f Y dv r c2 bs2 v2 w2 :=
  ⟨ho, h.box.keep he (fun e => by have e' : ((0, 1) : Nat × Nat) = f := e; rw [← e'] at hf; simp at hf), Rs.keep h.dirt he (fun q e => by have e' : (Y, q) = f := e; rw [← e'] at hf; simp at hf; omega), h.ext.trans he⟩

theorem EncAt.keep {c : Col} {w : World} {f : Nat × Nat} {Y : Nat} {dv : Value} {r : Rec} {c' : Col} {bs : Bs} {v : Value} {wx : World} (h : EncAt c w f Y dv r c' bs v wx) (hf : Y + 1 < f.1) {c2 : Col} {w2 : World}
    (he : Ext (Obs []) c' wx c2 w2) : EncAt c w f Y dv r c2 bs v w2 :=
  h.step hf (h.own.keep he (by simp [Obs])) he.none

theorem EncAt.drew {c : Col} {w : World} {f : Nat × Nat} {Y : Nat} {dv : Value} {r : Rec} {c' : Col} {bs : Bs} {v : Value} {wx : World} (h : EncAt c w f Y dv r c' bs v wx) : EncAt c w f Y dv r c' bs v wx.drew := ⟨h.own, h.box, h.dirt, h.ext.drew⟩

theorem EncAt.cells {c : Col} {w : World} {f : Nat × Nat} {Y : Nat} {dv : Value} {r : Rec} {c' : Col} {bs : Bs} {v : Value} {wx : World} (h : EncAt c w f Y dv r c' bs v wx) :
    wx.cell? ⟨w.heap.size, 4, none⟩ = some (.string r.before) ∧ wx.cell? ⟨w.heap.size, 5, none⟩ = some (.string r.after) ∧ wx.cell? ⟨w.heap.size, 6, none⟩ = some (.string r.image) ∧ wx.cell? ⟨w.heap.size, 7, none⟩ = some dv :=
  ⟨by rw [h.box.cell]; rfl, by rw [h.box.cell]; rfl, by rw [h.box.cell]; rfl, by rw [h.box.cell]; rfl⟩

theorem B_small (n : Nat) (h : n < 256) : B (UInt8.ofNat n) = .int .u8 (n : Int) := by rw [byte_of, Nat.mod_eq_of_lt h]

theorem enc0 {c : Col} {w : World} {f : Nat × Nat} {Y : Nat} {dv : Value} {r : Rec} (hr : r.Ok) (hd : Dirt c w Y dv r) :
    ∃ c', EncAt c w f Y dv r c' [UInt8.ofNat r.kind, UInt8.ofNat r.txn, UInt8.ofNat r.page, UInt8.ofNat r.slot] (.slice (some ⟨w.heap.size + 1, 0, none⟩) 4 4)
      ((w.alloc (.cells (recCells r dv).toArray 33)).alloc (.cells #[.int .u8 (r.kind : Int), .int .u8 (r.txn : Int), .int .u8 (r.page : Int), .int .u8 (r.slot : Int)] 5)) := by
  have e0 := (Ext.refl (fun y => y = f) c w).alloc (.cells (recCells r dv).toArray 33) (0, 1)
  have b0 := Blk.new c w (recCells r dv) 33 (0, 1)
  have e1 := e0.alloc (.cells #[.int .u8 (r.kind : Int), .int .u8 (r.txn : Int), .int .u8 (r.page : Int), .int .u8 (r.slot : Int)] 5) f
  have b1 := Blk.newA (setc c w.heap.size (0, 1)) (w.alloc (.cells (recCells r dv).toArray 33)) #[.int .u8 (r.kind : Int), .int .u8 (r.txn : Int), .int .u8 (r.page : Int), .int .u8 (r.slot : Int)] 5 f
  have b0' := b0.alloc (.cells #[.int .u8 (r.kind : Int), .int .u8 (r.txn : Int), .int .u8 (r.page : Int), .int .u8 (r.slot : Int)] 5) f
  rw [World.size_alloc] at e1 b1 b0'
  have hk := hr.k7
  have ht := hr.txn
  have hp := hr.page
  have hs := hr.slot
  have hd1 := Rs.keep hd ((Ext.refl (fun _ => False) c w).alloc (.cells (recCells r dv).toArray 33) (0, 1)) (fun _ h => h)
  have hd2 := Rs.keep hd1 ((Ext.refl (fun _ => False) _ _).alloc (.cells #[.int .u8 (r.kind : Int), .int .u8 (r.txn : Int), .int .u8 (r.page : Int), .int .u8 (r.slot : Int)] 5) f) (fun _ h => h)
  rw [World.size_alloc] at hd2
  refine ⟨_, ⟨by simp, .inr ⟨w.heap.size + 1, 4, [], rfl, ?_, by simp, Nat.le_refl _, by simp [maxLen]⟩⟩, b0', hd2, e1⟩
  have e : ([UInt8.ofNat r.kind, UInt8.ofNat r.txn, UInt8.ofNat r.page, UInt8.ofNat r.slot].map B ++ []) = #[Value.int .u8 (r.kind : Int), .int .u8 (r.txn : Int), .int .u8 (r.page : Int), .int .u8 (r.slot : Int)].toList := by
    simp only [List.map_cons, List.map_nil, List.append_nil]
    rw [B_small _ (by omega), B_small _ (by omega), B_small _ (by omega), B_small _ (by omega)]
  rw [e]
  exact b1

set_option maxRecDepth 100000 in
set_option maxHeartbeats 4000000 in
theorem encode_in (c : Col) (w : World) (Y : Nat) (r : Rec) (hr : r.Ok) (dv : Value) (hd : Dirt c w Y dv r) (z : Nat × Nat) :
    Calls Try.prog 16 #[.agg (recCells r dv).toArray] w (MadeB c w z (encB r)) := by
  obtain ⟨f, hfn, hf⟩ := fresh_col c w (Y + 1)
  have HF := Lib.hid hf
  have HFN := Lib.hid hfn
  have hb := hr.before
  have ha := hr.after
  have hi := hr.image
  have hk7 := hr.k7
  have ht7 := hr.txn
  have hp7 := hr.page
  have hs7 := hr.slot
  have HR := Lib.hid hr
  obtain ⟨q, dcap, rfl, _⟩ := id hd
  have HD := Lib.hid hd
  clear hf hfn hr hd
  unfold recCells
  go_enter Try.func16, Try.ntmps16
  go_upto_region 2 with fail
  go_cut [3] (fun v wx => Hid (∃ c', EncAt c w f Y (.slice q r.dirty.length dcap) r c' ([UInt8.ofNat r.kind, UInt8.ofNat r.txn, UInt8.ofNat r.page, UInt8.ofNat r.slot] ++ textB r.before.data.toList ++ textB r.after.data.toList) v wx))
  case first =>
    obtain ⟨c1, h0⟩ := enc0 (c := c) (w := w) (f := f) (Y := Y) HR.out HD.out
    unfold recCells at h0
    generalize ((w.alloc (.cells [Value.int .i64 (r.kind : Int), .int .i64 (r.txn : Int), .int .i64 (r.page : Int), .int .i64 (r.slot : Int), .string r.before, .string r.after, .string r.image, .slice q r.dirty.length dcap].toArray 33)).alloc (.cells #[.int .u8 (r.kind : Int), .int .u8 (r.txn : Int), .int .u8 (r.page : Int), .int .u8 (r.slot : Int)] 5)) = w1 at h0 ⊢
    generalize Value.slice (some ⟨w.heap.size + 1, 0, none⟩) 4 4 = v0 at h0 ⊢
    have ht1 := Lib.hid (text_in c1 w1.drew f.1 v0 _ h0.drew.own.rd (by simp) r.before (by omega) f)
    obtain ⟨k4, k5, k6, k7⟩ := h0.cells
    have H0 := Lib.hid h0
    clear h0
    refine X_begin [3] [6] (fun wz => wz.cell? ⟨w.heap.size, 5, none⟩ = some (.string r.after)) (by kernel_rfl) ?_
    refine X_pure 0 rfl (by kernel_rfl) (by kernel_rfl) (by kernel_rfl) (by kernel_rfl) (fun _ _ _ h => h) rfl (by intro w; go_simp; first | done | with_reducible rfl) ?_
    try simp only [Act.put, List.setIfInBounds_toArray, List.set_cons_zero, List.set_cons_succ]
    refine X_pure 1 rfl (by kernel_rfl) (by kernel_rfl) (by kernel_rfl) (by kernel_rfl) (fun _ _ _ h => h) rfl (by intro w; go_simp; first | done | with_reducible rfl) ?_
    try simp only [Act.put, List.setIfInBounds_toArray, List.set_cons_zero, List.set_cons_succ]
    refine X_pure 4 rfl (by kernel_rfl) (by kernel_rfl) (by kernel_rfl) (by kernel_rfl) (fun _ _ _ h => h) rfl (by intro w; go_simp; first | done | with_reducible rfl) ?_
    try simp only [Act.put, List.setIfInBounds_toArray, List.set_cons_zero, List.set_cons_succ]
    refine X_still 2 rfl (by kernel_rfl) (by kernel_rfl) (by kernel_rfl) (by kernel_rfl) rfl (by go_simp; first | done | with_reducible rfl) ?_
    try simp only [Act.put, List.setIfInBounds_toArray, List.set_cons_zero, List.set_cons_succ]
    refine X_held 5 rfl (by kernel_rfl) (by kernel_rfl) (by kernel_rfl) (by kernel_rfl) (by kernel_rfl) (fun _ _ _ h => h) (k5) rfl (by intro w hS; go_simp; first | done | with_reducible rfl) ?_
    try simp only [Act.put, List.setIfInBounds_toArray, List.set_cons_zero, List.set_cons_succ]
    refine X_opS 3 rfl (by kernel_rfl) (by kernel_rfl) ?_
    go_wp2_with (go_at_call 43; refine (ht1.out).mono ?_; rintro e w2 ⟨v2, c2, rfl, hO, hE⟩)
    have h2 := (H0.out).drew.step HFN.out hO hE.none
    refine ⟨h2.cells.2.1, ?_⟩
    have ht2 := Lib.hid (text_in c2 w2 f.1 v2 _ h2.own.rd (by simp [textB]; have := size_eq r.before; omega) r.after (by omega) f)
    have H2 := Lib.hid h2
    clear h2 hO hE
    try simp only [Act.put, List.setIfInBounds_toArray, List.set_cons_zero, List.set_cons_succ]
    refine X_op 6 rfl (by kernel_rfl) (by kernel_rfl) (by kernel_rfl) ?_
    go_wp2_with (go_at_call 43; refine (ht2.out).mono ?_; rintro e w3 ⟨v3, c3, rfl, hO, hE⟩)
    have h3 := (H2.out).step HFN.out hO hE.none
    clear hO hE
    try simp only [Act.put, List.setIfInBounds_toArray, List.set_cons_zero, List.set_cons_succ]
    refine X_pure 7 rfl (by kernel_rfl) (by kernel_rfl) (by kernel_rfl) (by kernel_rfl) (fun _ _ _ h => h) rfl (by intro w; go_simp; first | done | with_reducible rfl) ?_
    try simp only [Act.put, List.setIfInBounds_toArray, List.set_cons_zero, List.set_cons_succ]
    refine X_done (by kernel_rfl) ?_ _
    go_wp2_with fail
    go_meet
    exact ⟨c3, h3⟩
  case rest =>
    obtain ⟨c1, h1⟩ := hcut.out
    clear hcut
    have hl1 : ([UInt8.ofNat r.kind, UInt8.ofNat r.txn, UInt8.ofNat r.page, UInt8.ofNat r.slot] ++ textB r.before.data.toList ++ textB r.after.data.toList).length ≤ 1000 := by
      have := size_eq r.before; have := size_eq r.after; simp [textB]; omega
    obtain ⟨b1, hb1⟩ : ∃ b1, b1 = [UInt8.ofNat r.kind, UInt8.ofNat r.txn, UInt8.ofNat r.page, UInt8.ofNat r.slot] ++ textB r.before.data.toList ++ textB r.after.data.toList := ⟨_, rfl⟩
    rw [← hb1] at h1 hl1
    have HB1 := Lib.hid hb1
    clear hb1
    go_upto_region 3 with fail
    go_cut [3] (fun v wx => Hid (∃ c', EncAt c w f Y (.slice q r.dirty.length dcap) r c' (b1 ++ be 2 r.image.size ++ r.image.data.toList) v wx))
    case first =>
      have ht1 := Lib.hid (put_in c1 wc.drew f.1 _ _ h1.drew.own.rd (by omega) 2 (by omega) r.image.size (by omega) f)
      obtain ⟨k4, k5, k6, k7⟩ := h1.cells
      have H0 := Lib.hid h1
      clear h1
      refine X_begin [5] [8] (fun wz => wz.cell? ⟨w.heap.size, 6, none⟩ = some (.string r.image)) (by kernel_rfl) ?_
      refine X_pure 0 rfl (by kernel_rfl) (by kernel_rfl) (by kernel_rfl) (by kernel_rfl) (fun _ _ _ h => h) rfl (by intro w; go_simp; first | done | with_reducible rfl) ?_
      try simp only [Act.put, List.setIfInBounds_toArray, List.set_cons_zero, List.set_cons_succ]
      refine X_pure 1 rfl (by kernel_rfl) (by kernel_rfl) (by kernel_rfl) (by kernel_rfl) (fun _ _ _ h => h) rfl (by intro w; go_simp; first | done | with_reducible rfl) ?_
      try simp only [Act.put, List.setIfInBounds_toArray, List.set_cons_zero, List.set_cons_succ]
      refine X_pure 6 rfl (by kernel_rfl) (by kernel_rfl) (by kernel_rfl) (by kernel_rfl) (fun _ _ _ h => h) rfl (by intro w; go_simp; first | done | with_reducible rfl) ?_
      try simp only [Act.put, List.setIfInBounds_toArray, List.set_cons_zero, List.set_cons_succ]
      refine X_still 2 rfl (by kernel_rfl) (by kernel_rfl) (by kernel_rfl) (by kernel_rfl) rfl (by go_simp; first | done | with_reducible rfl) ?_
      try simp only [Act.put, List.setIfInBounds_toArray, List.set_cons_zero, List.set_cons_succ]
      refine X_pure 3 rfl (by kernel_rfl) (by kernel_rfl) (by kernel_rfl) (by kernel_rfl) (fun _ _ _ h => h) rfl (by intro w; go_simp; first | done | with_reducible rfl) ?_
      try simp only [Act.put, List.setIfInBounds_toArray, List.set_cons_zero, List.set_cons_succ]
      refine X_pure 4 rfl (by kernel_rfl) (by kernel_rfl) (by kernel_rfl) (by kernel_rfl) (fun _ _ _ h => h) rfl (by intro w; go_simp; first | done | with_reducible rfl) ?_
      try simp only [Act.put, List.setIfInBounds_toArray, List.set_cons_zero, List.set_cons_succ]
      refine X_held 7 rfl (by kernel_rfl) (by kernel_rfl) (by kernel_rfl) (by kernel_rfl) (by kernel_rfl) (fun _ _ _ h => h) (k6) rfl (by intro w hS; go_simp; first | done | with_reducible rfl) ?_
      try simp only [Act.put, List.setIfInBounds_toArray, List.set_cons_zero, List.set_cons_succ]
      refine X_opS 5 rfl (by kernel_rfl) (by kernel_rfl) ?_
      go_wp2_with (go_at_call 44; refine (ht1.out).mono ?_; rintro e w2 ⟨v2, c2, rfl, hO, hE⟩)
      have h2 := (H0.out).drew.step HFN.out hO hE.none
      refine ⟨h2.cells.2.2.1, ?_⟩
      have H2 := Lib.hid h2
      clear h2 hO hE
      try simp only [Act.put, List.setIfInBounds_toArray, List.set_cons_zero, List.set_cons_succ]
      refine X_op 8 rfl (by kernel_rfl) (by kernel_rfl) (by kernel_rfl) ?_
      go_wp2_with (at_builtin; go_must (refine append_bb rfl (.tmp 31) (.tmp 33) 9 rfl c2 f v2 _ rfl (H2.out).own _ rfl r.image.data.toList (str_src' _ _) (by rw [List.length_append, be_len, size_eq]; omega) ?_); intro v3 w3 c3 hO hE)
      have h3 := (H2.out).step HFN.out hO hE.own
      clear hO hE
      try simp only [Act.put, List.setIfInBounds_toArray, List.set_cons_zero, List.set_cons_succ]
      refine X_pure 9 rfl (by kernel_rfl) (by kernel_rfl) (by kernel_rfl) (by kernel_rfl) (fun _ _ _ h => h) rfl (by intro w; go_simp; first | done | with_reducible rfl) ?_
      try simp only [Act.put, List.setIfInBounds_toArray, List.set_cons_zero, List.set_cons_succ]
      refine X_done (by kernel_rfl) ?_ _
      go_wp2_with fail
      go_meet
      exact ⟨c3, h3⟩
    case rest =>
      clear h1
      obtain ⟨c2, h2⟩ := hcut.out
      clear hcut
      have hl2 : (b1 ++ be 2 r.image.size ++ r.image.data.toList).length ≤ 2000 := by
        rw [List.length_append, List.length_append, be_len, size_eq]; omega
      obtain ⟨b2, hb2⟩ : ∃ b2, b2 = b1 ++ be 2 r.image.size ++ r.image.data.toList := ⟨_, rfl⟩
      rw [← hb2] at h2 hl2
      have HB2 := Lib.hid hb2
      have hdl : r.dirty.length ≤ 6 := by have := (HR.out).dirty; omega
      have ht := Lib.hid (put_in c2 wc f.1 _ _ h2.own.rd (by omega) 1 (by omega) r.dirty.length (by omega) f)
      obtain ⟨k4, k5, k6, k7⟩ := h2.cells
      have H2 := Lib.hid h2
      clear hb2 h2
      go_upto_region 5 with (go_at_call 44; refine (ht.out).mono ?_; rintro e w3 ⟨v3, c3, rfl, hO, hE⟩)
      have h3 := (H2.out).step HFN.out hO hE.none
      obtain ⟨b3, hb3⟩ : ∃ b3, b3 = b2 ++ be 1 r.dirty.length := ⟨_, rfl⟩
      rw [← hb3] at h3
      have hl3 : b3.length ≤ 2001 := by rw [hb3, List.length_append, be_len]; omega
      have HB3 := Lib.hid hb3
      clear hb3 hO hE k4 k5 k6 k7
      obtain ⟨k4, k5, k6, k7⟩ := h3.cells
      have H3 := Lib.hid h3
      clear h3
      go_wp2
      go_loopw [44, 3] (fun k v wx => ∃ j : Nat, j ≤ r.dirty.length ∧ k = .int .i64 (j : Int) ∧ Hid (∃ c', EncAt c w f Y (.slice q r.dirty.length dcap) r c' (b3 ++ (r.dirty.take j).flatMap (be 8)) v wx)) (fun k _ _ => r.dirty.length - (intOf k).toNat)
      case atStart => exact ⟨0, Nat.zero_le _, rfl, c3, by simpa using H3.out⟩
      case round =>
        obtain ⟨j, hj, rfl, hrel⟩ := hrel
        obtain ⟨c4, h4⟩ := hrel.out
        clear hrel
        have hl4 : (b3 ++ (r.dirty.take j).flatMap (be 8)).length ≤ 3000 := by
          rw [List.length_append, flatMap_len (be 8) 8 _ (fun x _ => be_len 8 x), List.length_take]; omega
        obtain ⟨b4, hb4⟩ : ∃ b4, b4 = b3 ++ (r.dirty.take j).flatMap (be 8) := ⟨_, rfl⟩
        rw [← hb4] at h4 hl4
        have HB4 := Lib.hid hb4
        clear hb4
        by_cases hlt : j < r.dirty.length
        · obtain ⟨d, hd⟩ : ∃ d, r.dirty[j]? = some d := ⟨_, List.getElem?_eq_getElem hlt⟩
          have hd64 : d < 18446744073709551616 := (HR.out).d64 d (List.mem_of_getElem? hd)
          have hcell : ∃ g o, q = some ⟨g, o, none⟩ ∧ wr.cell? ⟨g, o + j, none⟩ = some (.int .u64 (d : Int)) := by
            obtain ⟨p', cap', e, _, _, hh⟩ := h4.dirt
            simp only [Value.slice.injEq] at e
            obtain ⟨rfl, _, rfl⟩ := e
            obtain ⟨g, o, e1, _, _, hu⟩ := hh j (U64 d) (by simp [hd])
            exact ⟨g, o, e1, hu⟩
          obtain ⟨g, o, rfl, hcell⟩ := hcell
          have ht := Lib.hid (put_in c4 wr f.1 _ _ h4.own.rd (by omega) 8 (by omega) d hd64 f)
          have H4 := Lib.hid h4
          have HDD := Lib.hid hd
          clear h4 hd hd64
          go_wp2_with (go_at_call 44; refine (ht.out).mono ?_; rintro e w5 ⟨v5, c5, rfl, hO, hE⟩)
          go_roundw
          case rel =>
            refine ⟨j + 1, hlt, by simp, c5, ?_⟩
            have h5 := (H4.out).step HFN.out hO hE.none
            have e : b3 ++ (r.dirty.take (j + 1)).flatMap (be 8) = b4 ++ be 8 d := by
              rw [List.take_add_one, HDD.out, HB4.out]; simp
            rw [e]
            exact h5
          case measure => simp [intOf] <;> omega
        · obtain rfl : j = r.dirty.length := by omega
          have eb : b4 = bodyB r := by
            rw [HB4.out, List.take_length, HB3.out, HB2.out, HB1.out]
            simp [bodyB]
          have HEB := Lib.hid eb
          obtain ⟨p4, cap4, rfl⟩ := h4.own.form
          have ht := Lib.hid (put_in c4 wr 0 (.slice none 0 0) [] (Rd.empty c4 wr 0 none) (by simp) 2 (by omega) b4.length (by omega) f)
          have H4 := Lib.hid h4
          clear h4 eb

          go_wp2_with (first
            | (go_at_call 44; refine (ht.out).mono ?_; rintro e w5 ⟨v5, c5, rfl, hO, hE⟩; have h5 := (H4.out).keep HFN.out hE; have HO := Lib.hid hO; have HE := Lib.hid hE; have H5 := Lib.hid h5; clear hO hE h5)
            | (at_builtin; go_must (refine append_bb rfl (.tmp 55) (.tmp 56) 44 rfl c5 f v5 _ rfl HO.out _ rfl b4 (H5.out).own.rd.src (by rw [List.length_append, be_len]; simp; omega) ?_); intro v7 w7 c7 hO7 hE7))
          go_ret
          refine ⟨v7, recol c7 f z, rfl, ?_, (((H4.out).ext.trans (HE.out).none).trans hE7.own).fresh HF.out |>.recol HF.out z⟩
          have e : encB r = [] ++ be 2 b4.length ++ b4 := by rw [HEB.out]; simp [encB]
          rw [e]
          exact hO7.recol z
end Go.Proofs.Ytfeacmlnlljnnaa

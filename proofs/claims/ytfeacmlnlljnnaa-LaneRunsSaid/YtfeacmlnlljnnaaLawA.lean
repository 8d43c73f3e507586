/- Statements' helpers of layer 6: a seed's record. -/
import Derived.Test.YtfeacmlnlljnnaaLaneJ
namespace Go.Proofs.Ytfeacmlnlljnnaa
open Go Go.Proofs Go.RowKit

/-- A string of n bytes is answered. -/
def GotStr (c : Col) (w : World) (p : ByteArray → Prop) (e : Ending) (w' : World) : Prop := ∃ (s : ByteArray) (c' : Col), e = .returned (.string s) ∧ p s ∧ Ext (Obs []) c w c' w'

theorem made_bytes (n : Nat) : (madeCells (Value.int IntKind.u8 0).cells (n * 1)).toList = (zeros n).map B := by
  rw [Nat.mul_one]
  have := madeCells_rep (.int .u8 0) 1 n (by omega)
  simp only [List.replicate_one] at this
  refine this.trans ?_
  simp [zeros, B]

/-- A whole block of bytes, as a slice that is read. -/
theorem Blk.rd {c : Col} {w : World} {b : Nat} {x : Nat × Nat} {bs : Bs} (h : Blk c w b x (bs.map B)) (n : Nat) (hn : bs.length = n) (hm : n ≤ 1000000) : Rd c w x.1 (.slice (some ⟨b, 0, none⟩) n n) bs := by
  subst hn
  exact ⟨some ⟨b, 0, none⟩, bs.length, rfl, Nat.le_refl _, by unfold maxLen; omega, fun j u hj => ⟨b, 0, rfl, h.lt, by rw [h.col], by rw [Nat.zero_add]; exact (h.cell j).trans hj⟩⟩

theorem B_of (n : Int) (h0 : 0 ≤ n) (h : n < 256) : Value.int .u8 n = B (UInt8.ofNat n.toNat) := by
  have e : B (UInt8.ofNat n.toNat) = .int .u8 ((n.toNat % 256 : Nat) : Int) := byte_of _
  rw [e]; congr 1; omega

set_option maxRecDepth 100000 in
set_option maxHeartbeats 1000000 in
theorem cell6_in (c : Col) (w : World) (n : Int) (h0 : 0 ≤ n) (h : n < 256) :
    Calls Try.prog 40 #[.int .u8 n] w (GotStr c w (fun s => s.size = 0 ∨ s.size = 40)) := by
  obtain ⟨is, his, hs1, hs2, hs3⟩ := info_parts info_u8
  obtain ⟨N, hfn, hf⟩ := big_col c w 0
  have HF := Lib.hid hf
  clear hf
  go_enter Try.func40, Try.ntmps40
  by_cases hn : n = 0
  · subst hn
    go_wp2_with fail
    go_ret
    exact ⟨_, c, rfl, .inl rfl, Ext.refl _ _ _⟩
  · go_upto_region 4 with (refine make_new (o := ⟨some 6, _, _, _, _, _⟩) rfl 44 (.const (.int .i64 40)) (.const (.int .i64 40)) rfl 5 is _ 1 1 Try.underlying44 his hs1 hs2 hs3 40 .i64 .i64 rfl rfl (by omega) (by omega) (by omega) ?_)
    have b0 := Blk.newA c w (madeCells (Value.int IntKind.u8 0).cells (40 * 1)) 5 (N, 0)
    rw [made_bytes 40] at b0
    have e0 := (Ext.refl (Big N) c w).alloc (.cells (madeCells (Value.int IntKind.u8 0).cells (40 * 1)) 5) (N, 0)
    generalize setc c w.heap.size (N, 0) = c1 at b0 e0
    generalize hw1 : w.alloc (.cells (madeCells (Value.int IntKind.u8 0).cells (40 * 1)) 5) = w1 at b0 e0
    simp only [Value.cells] at hw1
    rw [hw1]
    generalize hp : w.heap.size = p at b0 ⊢
    clear hw1
    have k0 := b0.cell 0
    have k7 := b0.cell 7
    have f0 := b0.free 0
    have f7 := b0.free 7
    have g0 : ((zeros 40).map B)[0]? = some (B 0) := rfl
    have g7 : ((zeros 40).map B)[7]? = some (B 0) := rfl
    rw [g0] at k0
    rw [g7] at k7
    have B0 := Lib.hid b0
    have E0 := Lib.hid e0
    clear b0 e0 g0 g7
    go_upto_region 5 with fail
    have b2 := ((B0.out).set 0 (.int .u8 1)).set 7 (.int .u8 n)
    have hcol := (B0.out).col
    have e2 := ((E0.out).setCell (a := ⟨p, 0, none⟩) (by rw [hcol]; simp [Big]) (.int .u8 1)).setCell (a := ⟨p, 7, none⟩) (by rw [hcol]; simp [Big]) (.int .u8 n)
    have hb : ((List.map B (zeros 40)).set 0 (Value.int IntKind.u8 1)).set 7 (Value.int IntKind.u8 n) = (((zeros 40).set 0 1).set 7 (UInt8.ofNat n.toNat)).map B := by
      rw [List.map_set, List.map_set, ← B_of n h0 h]; rfl
    rw [hb] at b2
    have hrd := b2.rd 40 (by simp [zeros]) (by omega)
    have HRD := Lib.hid hrd
    have E2 := Lib.hid (e2.big HF.out)
    clear b2 hb e2 hrd hcol B0 E0 k0 k7 f0 f7
    go_wp2_with (refine str_of (o := ⟨some 13, _, _, _, _, _⟩) rfl (.tmp 12) rfl c1 N _ rfl _ HRD.out ?_; intro st hst; have HST := Lib.hid hst; clear hst)
    go_ret
    exact ⟨st, c1, rfl, .inr (by rw [← size_eq, HST.out]; simp [zeros]), E2.out⟩

/-- A seed's cells. -/
def seedCells (k t p s b a i : Int) (dv : Value) : List Value := [.int .i64 k, .int .i64 t, .int .i64 p, .int .i64 s, .int .u8 b, .int .u8 a, .int .u8 i, dv]

structure SeedAt (c : Col) (w : World) (N Y p1 p2 : Nat) (sc : List Value) (dv : Value) (ds : List Nat) (c' : Col) (wx : World) : Prop where
  b1 : Blk c' wx p1 (N, 0) sc
  b2 : Blk c' wx p2 (N, 1) zeroRec
  dirt : Rs c' wx Y dv ds.length (ds.map U64)
  ext : Ext (Big N) c w c' wx

theorem SeedAt.quiet {c : Col} {w : World} {N Y p1 p2 : Nat} {sc : List Value} {dv : Value} {ds : List Nat} {c' c2 : Col} {wx w2 : World} (h : SeedAt c w N Y p1 p2 sc dv ds c' wx) (g : Ext (Obs []) c' wx c2 w2) : SeedAt c w N Y p1 p2 sc dv ds c2 w2 :=
  ⟨h.b1.keep g (fun h => by simp [Obs] at h), h.b2.keep g (fun h => by simp [Obs] at h), h.dirt.keep g (fun q h => by simp [Obs] at h), h.ext.trans g.none⟩
theorem SeedAt.one {c : Col} {w : World} {N Y p1 p2 : Nat} {sc : List Value} {dv : Value} {ds : List Nat} {c' c2 : Col} {wx w2 : World} {m : Nat} (h : SeedAt c w N Y p1 p2 sc dv ds c' wx) (hY : Y < N) (hm : 2 ≤ m) (g : Ext (fun y => y = (N, m)) c' wx c2 w2) : SeedAt c w N Y p1 p2 sc dv ds c2 w2 :=
  ⟨h.b1.keep g (fun h => by simp at h; omega), h.b2.keep g (fun h => by simp at h; omega), h.dirt.keep g (fun q h => by simp at h; omega), h.ext.trans (g.one (by simp))⟩

/-- The numbers of a seed's block that its record's are made of. -/
def SeedS (p1 : Nat) (k t p s b a : Int) (w' : World) : Prop := w'.cell? ⟨p1, 0, none⟩ = some (.int .i64 k) ∧ w'.cell? ⟨p1, 1, none⟩ = some (.int .i64 t) ∧ w'.cell? ⟨p1, 2, none⟩ = some (.int .i64 p) ∧ w'.cell? ⟨p1, 3, none⟩ = some (.int .i64 s) ∧ w'.cell? ⟨p1, 4, none⟩ = some (.int .u8 b) ∧ w'.cell? ⟨p1, 5, none⟩ = some (.int .u8 a)
theorem SeedAt.s {c : Col} {w : World} {N Y p1 p2 : Nat} {k t p s b a i : Int} {dv dv' : Value} {ds : List Nat} {c' : Col} {wx : World} (h : SeedAt c w N Y p1 p2 [.int .i64 k, .int .i64 t, .int .i64 p, .int .i64 s, .int .u8 b, .int .u8 a, .int .u8 i, dv'] dv ds c' wx) : SeedS p1 k t p s b a wx :=
  ⟨(h.b1.cell 0).trans rfl, (h.b1.cell 1).trans rfl, (h.b1.cell 2).trans rfl, (h.b1.cell 3).trans rfl, (h.b1.cell 4).trans rfl, (h.b1.cell 5).trans rfl⟩

theorem and255 (t : Int) : Go.bits BinOp.and IntKind.i64 t 255 = t % 256 := by
  have e : IntKind.i64.bits = 64 := rfl
  have h2 : ((t % 18446744073709551616).toNat &&& 255) = (t % 18446744073709551616).toNat % 256 := Nat.and_two_pow_sub_one_eq_mod _ 8
  have h4 : IntKind.i64.wrap (((t % 18446744073709551616).toNat % 256 : Nat) : Int) = (((t % 18446744073709551616).toNat % 256 : Nat) : Int) := IntWalk.i64_in _ (by omega)
  simp [Go.bits, e]
  rw [h2, h4]
  omega

theorem tm_eq (x m : Int) (h1 : 0 < m) : 0 ≤ x.tmod m + m ∧ x.tmod m + m < 2 * m ∧ (x.tmod m + m) % m = x % m := by
  have h2 := Int.emod_nonneg x (show m ≠ 0 by omega)
  have h3 := Int.emod_lt_of_pos x h1
  rw [Int.tmod_eq_emod]
  split
  · refine ⟨by omega, by omega, ?_⟩
    show (x % m - (0 : Int) + m) % m = x % m
    rw [Int.sub_zero, Int.add_emod_right, Int.emod_emod_of_dvd _ (Int.dvd_refl m)]
  · have e : ((m.natAbs : Nat) : Int) = m := by omega
    rw [e, show x % m - m + m = x % m from by omega]
    exact ⟨h2, by omega, Int.emod_emod_of_dvd _ (Int.dvd_refl m)⟩
theorem tm (x m : Int) (h1 : 0 < m) (h2 : m < 1000) : IntKind.i64.wrap (x.tmod m + m) = x.tmod m + m := by
  have := tm_eq x m h1
  exact IntWalk.i64_in _ ⟨by omega, by omega⟩
theorem tmm (x m : Int) (h1 : 0 < m) : (x.tmod m + m).tmod m = x % m := by
  have h := tm_eq x m h1
  rw [Int.tmod_eq_emod_of_nonneg h.1]
  exact h.2.2

/-- The first cells of a slice that is read. -/
theorem Rs.first {P : Program} {c : Col} {w : World} {X : Nat} {v : Value} {n : Nat} {xs : List Value} (h : Rs c w X v n xs) (m : Nat) (hm : m ≤ xs.length) : (Builtin.firstCells 1 m v).run P w = .ok (xs.take m).toArray w := by
  obtain ⟨p, cap, rfl, h1, h2, h⟩ := h
  cases p with
  | none =>
    have : xs = [] := by
      cases xs with
      | nil => rfl
      | cons x l => obtain ⟨g, o, e, _⟩ := h 0 x (by simp); cases e
    subst this
    simp [run_firstCells_none]
  | some a =>
    refine run_firstCells_some w 1 m a n cap _ (by rw [List.length_take]; omega) (fun j v hv => ?_)
    rw [List.getElem?_take] at hv
    split at hv
    · obtain ⟨g, o, e, _, _, hu⟩ := h j v hv
      obtain rfl : a = _ := Option.some.inj e
      rw [addr_add]; exact hu
    · cases hv

/-- The record's own block, its strings, its list. -/
def recBox (Kn Tn Pn Sn : Nat) (s1 s2 s3 : ByteArray) (dv : Value) : List Value := [.int .i64 (Kn : Int), .int .i64 (Tn : Int), .int .i64 (Pn : Int), .int .i64 (Sn : Int), .string s1, .string s2, .string s3, dv]

/-- The record's own block, whole. -/
def RecCut (c : Col) (w : World) (N Y p1 p2 p3 : Nat) (sc : List Value) (av : Value) (ds : List Nat) (Kn Tn Pn Sn : Nat) (s1 s2 s3 : ByteArray) (dv : Value) (rd : List Nat) (wx : World) : Prop :=
  ((rd.length = 0 ∨ Kn = 7 ∧ rd.length = 6) ∧ ∀ d ∈ rd, d < 18446744073709551616) ∧
    ∃ c', SeedAt c w N Y p1 p2 sc av ds c' wx ∧ Blk c' wx p3 (N, 2) (recBox Kn Tn Pn Sn s1 s2 s3 dv) ∧ Sl c' wx (N, 5) 1 dv rd.length (rd.map U64)

/-- A record that may be, of this kind. -/
def MadeR (c : Col) (w : World) (Y : Nat) (k : Nat) (e : Ending) (w' : World) : Prop :=
  ∃ (r : Rec) (dv : Value) (c' : Col), e = .returned (.agg (recCells r dv).toArray) ∧ r.Ok ∧ r.kind = k ∧ Dirt c' w' Y dv r ∧ Ext (Obs []) c w c' w'

set_option maxRecDepth 100000 in
set_option maxHeartbeats 4000000 in
theorem seed_in (c : Col) (w : World) (Y Z : Nat) (k t p s b a i : Int) (dv : Value) (ds : List Nat) (hk : -9223372036854775808 ≤ k ∧ k ≤ 9223372036854775807) (ht : -9223372036854775808 ≤ t ∧ t ≤ 9223372036854775807)
    (hp : -9223372036854775808 ≤ p ∧ p ≤ 9223372036854775807) (hs : -9223372036854775808 ≤ s ∧ s ≤ 9223372036854775807) (hb : 0 ≤ b ∧ b < 256) (ha : 0 ≤ a ∧ a < 256) (hi : 0 ≤ i ∧ i < 256)
    (hd : Rs c w Y dv ds.length (ds.map U64)) (hd64 : ∀ d ∈ ds, d < 18446744073709551616) (hdl : ds.length ≤ 1000) :
    Calls Try.prog 13 #[.agg (seedCells k t p s b a i dv).toArray] w (MadeR c w Z ((k % 7).toNat + 1)) := by
  obtain ⟨N, hfn, hf⟩ := big_col c w (Y + Z)
  have HF := Lib.hid hf
  obtain ⟨q, dcap, rfl, hdc, _⟩ := id hd
  have e0 := (Ext.refl (Big N) c w).alloc (.cells (seedCells k t p s b a i (.slice q ds.length dcap)).toArray 36) (N, 0)
  have b0 := Blk.new c w (seedCells k t p s b a i (.slice q ds.length dcap)) 36 (N, 0)
  have d0 := hd.keep e0 (fun q h => by have h' : N ≤ Y := h; omega)
  have HD := Lib.hid hd
  clear hf hd
  unfold seedCells at e0 b0 d0 ⊢
  go_enter Try.func13, Try.ntmps13
  go_upto_region 1 with fail
  have e1 := e0.alloc (.cells zeroRec.toArray 33) (N, 1)
  have e1' := (Ext.refl (Obs []) (setc c w.heap.size (N, 0)) (w.alloc (.cells #[.int .i64 k, .int .i64 t, .int .i64 p, .int .i64 s, .int .u8 b, .int .u8 a, .int .u8 i, .slice q ds.length dcap] 36))).alloc (.cells zeroRec.toArray 33) (N, 1)
  have b1 := b0.alloc (.cells zeroRec.toArray 33) (N, 1)
  have b2 := Blk.new (setc c w.heap.size (N, 0)) (w.alloc (.cells #[.int .i64 k, .int .i64 t, .int .i64 p, .int .i64 s, .int .u8 b, .int .u8 a, .int .u8 i, .slice q ds.length dcap] 36)) zeroRec 33 (N, 1)
  have d1 := d0.keep e1' (fun q h => by simp [Obs] at h)
  simp only [World.size_alloc] at e1 b1 b2 d1
  have S : Hid (∃ c', SeedAt c w N Y w.heap.size (w.heap.size + 1) [.int .i64 k, .int .i64 t, .int .i64 p, .int .i64 s, .int .u8 b, .int .u8 a, .int .u8 i, .slice q ds.length dcap] (.slice q ds.length dcap) ds c' ((w.alloc (.cells #[.int .i64 k, .int .i64 t, .int .i64 p, .int .i64 s, .int .u8 b, .int .u8 a, .int .u8 i, .slice q ds.length dcap] 36)).alloc (.cells zeroRec.toArray 33))) := ⟨_, b1, b2, d1, e1⟩
  clear e0 e1 e1' b0 b1 b2 d0 d1
  unfold zeroRec at S
  generalize ((w.alloc (.cells #[.int .i64 k, .int .i64 t, .int .i64 p, .int .i64 s, .int .u8 b, .int .u8 a, .int .u8 i, .slice q ds.length dcap] 36)).alloc (.cells [Value.int .i64 0, .int .i64 0, .int .i64 0, .int .i64 0, .string ⟨#[]⟩, .string ⟨#[]⟩, .string ⟨#[]⟩, .slice none 0 0].toArray 33)) = w1 at S ⊢
  generalize w.heap.size = p1 at S ⊢
  obtain ⟨p2, hp2⟩ : ∃ p2, p2 = p1 + 1 := ⟨_, rfl⟩
  rw [← hp2] at S ⊢
  clear hp2
  generalize Value.agg #[.int .i64 k, .int .i64 t, .int .i64 p, .int .i64 s, .int .u8 b, .int .u8 a, .int .u8 i, .slice q ds.length dcap] = A0
  obtain ⟨c1, h1⟩ := S.out
  have h1d : SeedAt c w N Y p1 p2 [.int .i64 k, .int .i64 t, .int .i64 p, .int .i64 s, .int .u8 b, .int .u8 a, .int .u8 i, .slice q ds.length dcap] (.slice q ds.length dcap) ds c1 w1.drew := ⟨h1.b1, h1.b2, h1.dirt.keep (Ext.refl (Obs []) c1 w1).drew (fun q h => by simp [Obs] at h), h1.ext.drew⟩
  clear S h1
  have H1 := Lib.hid h1d
  have hS := h1d.s
  have hd1 := h1d.dirt
  clear h1d
  obtain ⟨Kn, hKn⟩ : ∃ Kn, Kn = (k % 7).toNat + 1 := ⟨_, rfl⟩
  obtain ⟨Tn, hTn⟩ : ∃ Tn, Tn = (t % 256).toNat := ⟨_, rfl⟩
  obtain ⟨Pn, hPn⟩ : ∃ Pn, Pn = (p % 6).toNat := ⟨_, rfl⟩
  obtain ⟨Sn, hSn⟩ : ∃ Sn, Sn = (s % 5).toNat := ⟨_, rfl⟩
  have hKw : IntKind.i64.wrap ((IntKind.i64.wrap (k.tmod 7 + 7)).tmod 7 + 1) = (Kn : Int) := by
    rw [tm k 7 (by omega) (by omega), tmm k 7 (by omega), IntWalk.i64_in _ ⟨by omega, by omega⟩, hKn]; omega
  have hTw : Go.bits BinOp.and IntKind.i64 t 255 = (Tn : Int) := by rw [and255, hTn]; omega
  have hPw : (IntKind.i64.wrap (p.tmod 6 + 6)).tmod 6 = (Pn : Int) := by rw [tm p 6 (by omega) (by omega), tmm p 6 (by omega), hPn]; omega
  have hSw : (IntKind.i64.wrap (s.tmod 5 + 5)).tmod 5 = (Sn : Int) := by rw [tm s 5 (by omega) (by omega), tmm s 5 (by omega), hSn]; omega
  have HKN := Lib.hid hKn
  have HNS := Lib.hid (show 1 ≤ Kn ∧ Kn ≤ 7 ∧ Tn ≤ 255 ∧ Pn ≤ 5 ∧ Sn ≤ 4 from ⟨by omega, by omega, by omega, by omega, by omega⟩)
  have HW := Lib.hid (And.intro hKw (And.intro hTw (And.intro hPw hSw)))
  rw [← hKn]
  clear hKn hTn hPn hSn hKw hTw hPw hSw hd1
  go_cut [3] (fun s3 wx => ∃ p3 s1 s2, s3 = .pointer (some ⟨p3, 0, none⟩) ∧ Hid ((s1.size = 0 ∨ s1.size = 40) ∧ (s2.size = 0 ∨ s2.size = 40)) ∧ Hid (∃ c', SeedAt c w N Y p1 p2 [.int .i64 k, .int .i64 t, .int .i64 p, .int .i64 s, .int .u8 b, .int .u8 a, .int .u8 i, .slice q ds.length dcap] (.slice q ds.length dcap) ds c' wx ∧ Blk c' wx p3 (N, 2) [.int .i64 (Kn : Int), .int .i64 (Tn : Int), .int .i64 (Pn : Int), .int .i64 (Sn : Int), .string s1, .string s2, .string ⟨#[]⟩, .slice none 0 0]))
  case first =>
    refine X_begin [21, 24, 26] [27] (SeedS p1 k t p s b a) (by kernel_rfl) ?_
    generalize w1.drew = wd at H1 hS ⊢
    refine X_pure 0 rfl (by kernel_rfl) (by kernel_rfl) (by kernel_rfl) (by kernel_rfl) (fun _ _ _ h => h) rfl (by intro w; go_simp; first | done | with_reducible rfl) ?_
    try simp only [Act.put, List.setIfInBounds_toArray, List.set_cons_zero, List.set_cons_succ]
    refine X_pure 6 rfl (by kernel_rfl) (by kernel_rfl) (by kernel_rfl) (by kernel_rfl) (fun _ _ _ h => h) rfl (by intro w; go_simp; first | done | with_reducible rfl) ?_
    try simp only [Act.put, List.setIfInBounds_toArray, List.set_cons_zero, List.set_cons_succ]
    refine X_pure 9 rfl (by kernel_rfl) (by kernel_rfl) (by kernel_rfl) (by kernel_rfl) (fun _ _ _ h => h) rfl (by intro w; go_simp; first | done | with_reducible rfl) ?_
    try simp only [Act.put, List.setIfInBounds_toArray, List.set_cons_zero, List.set_cons_succ]
    refine X_pure 14 rfl (by kernel_rfl) (by kernel_rfl) (by kernel_rfl) (by kernel_rfl) (fun _ _ _ h => h) rfl (by intro w; go_simp; first | done | with_reducible rfl) ?_
    try simp only [Act.put, List.setIfInBounds_toArray, List.set_cons_zero, List.set_cons_succ]
    refine X_pure 19 rfl (by kernel_rfl) (by kernel_rfl) (by kernel_rfl) (by kernel_rfl) (fun _ _ _ h => h) rfl (by intro w; go_simp; first | done | with_reducible rfl) ?_
    try simp only [Act.put, List.setIfInBounds_toArray, List.set_cons_zero, List.set_cons_succ]
    refine X_pure 22 rfl (by kernel_rfl) (by kernel_rfl) (by kernel_rfl) (by kernel_rfl) (fun _ _ _ h => h) rfl (by intro w; go_simp; first | done | with_reducible rfl) ?_
    try simp only [Act.put, List.setIfInBounds_toArray, List.set_cons_zero, List.set_cons_succ]
    refine X_held 1 rfl (by kernel_rfl) (by kernel_rfl) (by kernel_rfl) (by kernel_rfl) (by kernel_rfl) (fun _ _ _ h => h) (hS) rfl (by rintro w ⟨hS0,hS1,hS2,hS3,hS4,hS5⟩; go_simp; first | done | with_reducible rfl) ?_
    try simp only [Act.put, List.setIfInBounds_toArray, List.set_cons_zero, List.set_cons_succ]
    refine X_pure 2 rfl (by kernel_rfl) (by kernel_rfl) (by kernel_rfl) (by kernel_rfl) (fun _ _ _ h => h) rfl (by intro w; go_simp; first | done | with_reducible rfl) ?_
    try simp only [Act.put, List.setIfInBounds_toArray, List.set_cons_zero, List.set_cons_succ]
    refine X_pure 3 rfl (by kernel_rfl) (by kernel_rfl) (by kernel_rfl) (by kernel_rfl) (fun _ _ _ h => h) rfl (by intro w; go_simp; first | done | with_reducible rfl) ?_
    try simp only [Act.put, List.setIfInBounds_toArray, List.set_cons_zero, List.set_cons_succ]
    refine X_pure 4 rfl (by kernel_rfl) (by kernel_rfl) (by kernel_rfl) (by kernel_rfl) (fun _ _ _ h => h) rfl (by intro w; go_simp; first | done | with_reducible rfl) ?_
    try simp only [Act.put, List.setIfInBounds_toArray, List.set_cons_zero, List.set_cons_succ]
    refine X_pure 5 rfl (by kernel_rfl) (by kernel_rfl) (by kernel_rfl) (by kernel_rfl) (fun _ _ _ h => h) rfl (by intro w; go_simp; first | done | with_reducible rfl) ?_
    try simp only [Act.put, List.setIfInBounds_toArray, List.set_cons_zero, List.set_cons_succ]
    refine X_held 7 rfl (by kernel_rfl) (by kernel_rfl) (by kernel_rfl) (by kernel_rfl) (by kernel_rfl) (fun _ _ _ h => h) (hS) rfl (by rintro w ⟨hS0,hS1,hS2,hS3,hS4,hS5⟩; go_simp; first | done | with_reducible rfl) ?_
    try simp only [Act.put, List.setIfInBounds_toArray, List.set_cons_zero, List.set_cons_succ]
    refine X_pure 8 rfl (by kernel_rfl) (by kernel_rfl) (by kernel_rfl) (by kernel_rfl) (fun _ _ _ h => h) rfl (by intro w; go_simp; first | done | with_reducible rfl) ?_
    try simp only [Act.put, List.setIfInBounds_toArray, List.set_cons_zero, List.set_cons_succ]
    refine X_held 10 rfl (by kernel_rfl) (by kernel_rfl) (by kernel_rfl) (by kernel_rfl) (by kernel_rfl) (fun _ _ _ h => h) (hS) rfl (by rintro w ⟨hS0,hS1,hS2,hS3,hS4,hS5⟩; go_simp; first | done | with_reducible rfl) ?_
    try simp only [Act.put, List.setIfInBounds_toArray, List.set_cons_zero, List.set_cons_succ]
    refine X_pure 11 rfl (by kernel_rfl) (by kernel_rfl) (by kernel_rfl) (by kernel_rfl) (fun _ _ _ h => h) rfl (by intro w; go_simp; first | done | with_reducible rfl) ?_
    try simp only [Act.put, List.setIfInBounds_toArray, List.set_cons_zero, List.set_cons_succ]
    refine X_pure 12 rfl (by kernel_rfl) (by kernel_rfl) (by kernel_rfl) (by kernel_rfl) (fun _ _ _ h => h) rfl (by intro w; go_simp; first | done | with_reducible rfl) ?_
    try simp only [Act.put, List.setIfInBounds_toArray, List.set_cons_zero, List.set_cons_succ]
    refine X_pure 13 rfl (by kernel_rfl) (by kernel_rfl) (by kernel_rfl) (by kernel_rfl) (fun _ _ _ h => h) rfl (by intro w; go_simp; first | done | with_reducible rfl) ?_
    try simp only [Act.put, List.setIfInBounds_toArray, List.set_cons_zero, List.set_cons_succ]
    refine X_held 15 rfl (by kernel_rfl) (by kernel_rfl) (by kernel_rfl) (by kernel_rfl) (by kernel_rfl) (fun _ _ _ h => h) (hS) rfl (by rintro w ⟨hS0,hS1,hS2,hS3,hS4,hS5⟩; go_simp; first | done | with_reducible rfl) ?_
    try simp only [Act.put, List.setIfInBounds_toArray, List.set_cons_zero, List.set_cons_succ]
    refine X_pure 16 rfl (by kernel_rfl) (by kernel_rfl) (by kernel_rfl) (by kernel_rfl) (fun _ _ _ h => h) rfl (by intro w; go_simp; first | done | with_reducible rfl) ?_
    try simp only [Act.put, List.setIfInBounds_toArray, List.set_cons_zero, List.set_cons_succ]
    refine X_pure 17 rfl (by kernel_rfl) (by kernel_rfl) (by kernel_rfl) (by kernel_rfl) (fun _ _ _ h => h) rfl (by intro w; go_simp; first | done | with_reducible rfl) ?_
    try simp only [Act.put, List.setIfInBounds_toArray, List.set_cons_zero, List.set_cons_succ]
    refine X_pure 18 rfl (by kernel_rfl) (by kernel_rfl) (by kernel_rfl) (by kernel_rfl) (fun _ _ _ h => h) rfl (by intro w; go_simp; first | done | with_reducible rfl) ?_
    try simp only [Act.put, List.setIfInBounds_toArray, List.set_cons_zero, List.set_cons_succ]
    refine X_held 20 rfl (by kernel_rfl) (by kernel_rfl) (by kernel_rfl) (by kernel_rfl) (by kernel_rfl) (fun _ _ _ h => h) (hS) rfl (by rintro w ⟨hS0,hS1,hS2,hS3,hS4,hS5⟩; go_simp; first | done | with_reducible rfl) ?_
    try simp only [Act.put, List.setIfInBounds_toArray, List.set_cons_zero, List.set_cons_succ]
    refine X_held 23 rfl (by kernel_rfl) (by kernel_rfl) (by kernel_rfl) (by kernel_rfl) (by kernel_rfl) (fun _ _ _ h => h) (hS) rfl (by rintro w ⟨hS0,hS1,hS2,hS3,hS4,hS5⟩; go_simp; first | done | with_reducible rfl) ?_
    try simp only [Act.put, List.setIfInBounds_toArray, List.set_cons_zero, List.set_cons_succ]
    simp only [(HW.out).1, (HW.out).2.1, (HW.out).2.2.1, (HW.out).2.2.2]
    refine X_opS2 21 26 rfl rfl (by kernel_rfl) (by kernel_rfl) (by kernel_rfl) ?_ ?_
    · skip
      have hc1 := Lib.hid (cell6_in c1 wd b hb.1 hb.2)
      go_wp2_with (go_at_call 40; refine (hc1.out).mono ?_; rintro e w2 ⟨s1, c2, rfl, hs1, hE⟩; have H2 := Lib.hid ((H1.out).quiet hE); clear hE)
      refine ⟨(H2.out).s, ?_⟩
      try simp only [Act.put, List.setIfInBounds_toArray, List.set_cons_zero, List.set_cons_succ]
      refine X_opS2 24 26 rfl rfl (by kernel_rfl) (by kernel_rfl) (by kernel_rfl) ?_ ?_
      · skip
        have hc2 := Lib.hid (cell6_in c2 w2 a ha.1 ha.2)
        go_wp2_with (go_at_call 40; refine (hc2.out).mono ?_; rintro e w3 ⟨s2, c3, rfl, hs2, hE⟩; have H3 := Lib.hid ((H2.out).quiet hE); clear hE)
        refine ⟨(H3.out).s, ?_⟩
        try simp only [Act.put, List.setIfInBounds_toArray, List.set_cons_zero, List.set_cons_succ]
        refine X_pure 25 rfl (by kernel_rfl) (by kernel_rfl) (by kernel_rfl) (by kernel_rfl) (fun _ _ _ h => h) rfl (by intro w; go_simp; first | done | with_reducible rfl) ?_
        try simp only [Act.put, List.setIfInBounds_toArray, List.set_cons_zero, List.set_cons_succ]
        refine X_opS 26 rfl (by kernel_rfl) (by kernel_rfl) ?_
        go_step
        go_step
        go_step
        refine wpList_nil ?_
        have H4' := (H3.out).quiet ((Ext.refl (Obs []) c3 w3).alloc (.cells zeroRec.toArray 33) (N, 2))
        have b3 := Blk.new c3 w3 zeroRec 33 (N, 2)
        unfold zeroRec at H4' b3
        generalize setc c3 w3.heap.size (N, 2) = c4 at H4' b3
        generalize hw0 : w3.alloc (.cells _ 33) = w4 at H4' b3 ⊢
        generalize w3.heap.size = p3 at b3 ⊢
        refine ⟨H4'.s, ?_⟩
        have H4 := Lib.hid H4'
        have B0 := Lib.hid b3
        clear H4' b3 hw0
        try simp only [Act.put, List.setIfInBounds_toArray, List.set_cons_zero, List.set_cons_succ]
        refine X_op 27 rfl (by kernel_rfl) (by kernel_rfl) (by kernel_rfl) ?_
        refine store_agg (o := ⟨none, .store 33 _ _, _, _, _, _⟩) rfl rfl 33 (.tmp 3) (.tmp 30) rfl p3 0 rfl [.int .i64 (Kn : Int), .int .i64 (Tn : Int), .int .i64 (Pn : Int), .int .i64 (Sn : Int), .string s1, .string s2, .string ⟨#[]⟩, .slice none 0 0] rfl (by kernel_rfl) c4 (N, 2) _ (B0.out) (Nat.le_refl _) (by simp [Value.oneCell']) ?_
        refine wpList_nil ?_
        refine X_done (by kernel_rfl) ?_ _
        go_wp2_with fail
        go_meet
        exact ⟨p3, s1, s2, rfl, ⟨hs1, hs2⟩, c4, (H4.out).one (by omega) (Nat.le_refl 2) ((Ext.refl _ c4 w4).setRow (g := p3) (by rw [(B0.out).col]) _), (B0.out).row _⟩
      · skip
        go_step
        go_step
        go_step
        refine wpList_nil ?_
        have H3' := (H2.out).quiet ((Ext.refl (Obs []) c2 w2).alloc (.cells zeroRec.toArray 33) (N, 2))
        have b3 := Blk.new c2 w2 zeroRec 33 (N, 2)
        unfold zeroRec at H3' b3
        generalize setc c2 w2.heap.size (N, 2) = c3 at H3' b3
        generalize hw0 : w2.alloc (.cells _ 33) = w3 at H3' b3 ⊢
        generalize w2.heap.size = p3 at b3 ⊢
        refine ⟨H3'.s, ?_⟩
        have H3 := Lib.hid H3'
        have B0 := Lib.hid b3
        clear H3' b3 hw0
        try simp only [Act.put, List.setIfInBounds_toArray, List.set_cons_zero, List.set_cons_succ]
        refine X_opS 24 rfl (by kernel_rfl) (by kernel_rfl) ?_
        have hc2 := Lib.hid (cell6_in c3 w3 a ha.1 ha.2)
        go_wp2_with (go_at_call 40; refine (hc2.out).mono ?_; rintro e w4 ⟨s2, c4, rfl, hs2, hE⟩; have H4 := Lib.hid ((H3.out).quiet hE); have B1 := Lib.hid ((B0.out).keep hE (fun h => by simp [Obs] at h)); clear hE)
        refine ⟨(H4.out).s, ?_⟩
        try simp only [Act.put, List.setIfInBounds_toArray, List.set_cons_zero, List.set_cons_succ]
        refine X_pure 25 rfl (by kernel_rfl) (by kernel_rfl) (by kernel_rfl) (by kernel_rfl) (fun _ _ _ h => h) rfl (by intro w; go_simp; first | done | with_reducible rfl) ?_
        try simp only [Act.put, List.setIfInBounds_toArray, List.set_cons_zero, List.set_cons_succ]
        refine X_op 27 rfl (by kernel_rfl) (by kernel_rfl) (by kernel_rfl) ?_
        refine store_agg (o := ⟨none, .store 33 _ _, _, _, _, _⟩) rfl rfl 33 (.tmp 3) (.tmp 30) rfl p3 0 rfl [.int .i64 (Kn : Int), .int .i64 (Tn : Int), .int .i64 (Pn : Int), .int .i64 (Sn : Int), .string s1, .string s2, .string ⟨#[]⟩, .slice none 0 0] rfl (by kernel_rfl) c4 (N, 2) _ (B1.out) (Nat.le_refl _) (by simp [Value.oneCell']) ?_
        refine wpList_nil ?_
        refine X_done (by kernel_rfl) ?_ _
        go_wp2_with fail
        go_meet
        exact ⟨p3, s1, s2, rfl, ⟨hs1, hs2⟩, c4, (H4.out).one (by omega) (Nat.le_refl 2) ((Ext.refl _ c4 w4).setRow (g := p3) (by rw [(B1.out).col]) _), (B1.out).row _⟩
    · skip
      go_step
      go_step
      go_step
      refine wpList_nil ?_
      have H2' := (H1.out).quiet ((Ext.refl (Obs []) c1 wd).alloc (.cells zeroRec.toArray 33) (N, 2))
      have b3 := Blk.new c1 wd zeroRec 33 (N, 2)
      unfold zeroRec at H2' b3
      generalize setc c1 wd.heap.size (N, 2) = c2 at H2' b3
      generalize hw0 : wd.alloc (.cells _ 33) = w2 at H2' b3 ⊢
      generalize wd.heap.size = p3 at b3 ⊢
      refine ⟨H2'.s, ?_⟩
      have H2 := Lib.hid H2'
      have B0 := Lib.hid b3
      clear H2' b3 hw0
      try simp only [Act.put, List.setIfInBounds_toArray, List.set_cons_zero, List.set_cons_succ]
      refine X_opS 21 rfl (by kernel_rfl) (by kernel_rfl) ?_
      have hc1 := Lib.hid (cell6_in c2 w2 b hb.1 hb.2)
      go_wp2_with (go_at_call 40; refine (hc1.out).mono ?_; rintro e w3 ⟨s1, c3, rfl, hs1, hE⟩; have H3 := Lib.hid ((H2.out).quiet hE); have B1 := Lib.hid ((B0.out).keep hE (fun h => by simp [Obs] at h)); clear hE)
      refine ⟨(H3.out).s, ?_⟩
      try simp only [Act.put, List.setIfInBounds_toArray, List.set_cons_zero, List.set_cons_succ]
      refine X_opS 24 rfl (by kernel_rfl) (by kernel_rfl) ?_
      have hc2 := Lib.hid (cell6_in c3 w3 a ha.1 ha.2)
      go_wp2_with (go_at_call 40; refine (hc2.out).mono ?_; rintro e w4 ⟨s2, c4, rfl, hs2, hE⟩; have H4 := Lib.hid ((H3.out).quiet hE); have B2 := Lib.hid ((B1.out).keep hE (fun h => by simp [Obs] at h)); clear hE)
      refine ⟨(H4.out).s, ?_⟩
      try simp only [Act.put, List.setIfInBounds_toArray, List.set_cons_zero, List.set_cons_succ]
      refine X_pure 25 rfl (by kernel_rfl) (by kernel_rfl) (by kernel_rfl) (by kernel_rfl) (fun _ _ _ h => h) rfl (by intro w; go_simp; first | done | with_reducible rfl) ?_
      try simp only [Act.put, List.setIfInBounds_toArray, List.set_cons_zero, List.set_cons_succ]
      refine X_op 27 rfl (by kernel_rfl) (by kernel_rfl) (by kernel_rfl) ?_
      refine store_agg (o := ⟨none, .store 33 _ _, _, _, _, _⟩) rfl rfl 33 (.tmp 3) (.tmp 30) rfl p3 0 rfl [.int .i64 (Kn : Int), .int .i64 (Tn : Int), .int .i64 (Pn : Int), .int .i64 (Sn : Int), .string s1, .string s2, .string ⟨#[]⟩, .slice none 0 0] rfl (by kernel_rfl) c4 (N, 2) _ (B2.out) (Nat.le_refl _) (by simp [Value.oneCell']) ?_
      refine wpList_nil ?_
      refine X_done (by kernel_rfl) ?_ _
      go_wp2_with fail
      go_meet
      exact ⟨p3, s1, s2, rfl, ⟨hs1, hs2⟩, c4, (H4.out).one (by omega) (Nat.le_refl 2) ((Ext.refl _ c4 w4).setRow (g := p3) (by rw [(B2.out).col]) _), (B2.out).row _⟩
  case rest =>
    obtain ⟨p3, s1, s2, rfl, hs12, hrel⟩ := hcut
    obtain ⟨c2, h2, b3⟩ := hrel.out
    clear hrel H1 hS HW
    have k6 : wc.cell? ⟨p1, 6, none⟩ = some (.int .u8 i) := (h2.b1.cell 6).trans rfl
    have H2 := Lib.hid h2
    have B3 := Lib.hid b3
    clear h2 b3
    go_upto_if 33 with fail
    go_cut [4] (fun s4 wx => ∃ s3 : ByteArray, Hid (s3.size = 0 ∨ s3.size = 256) ∧ Hid (∃ c', SeedAt c w N Y p1 p2 [.int .i64 k, .int .i64 t, .int .i64 p, .int .i64 s, .int .u8 b, .int .u8 a, .int .u8 i, .slice q ds.length dcap] (.slice q ds.length dcap) ds c' wx ∧ Blk c' wx p3 (N, 2) (recBox Kn Tn Pn Sn s1 s2 s3 (.slice none 0 0))))
    case first =>
      by_cases hi0 : i = 0
      · subst hi0
        go_wp2_with fail
        go_meet
        exact ⟨⟨#[]⟩, .inl rfl, c2, H2.out, B3.out⟩
      · have hi1 : (0 : Int) < i := by omega
        obtain ⟨is, his, hs1, hs2, hs3⟩ := info_parts info_u8
        go_upto_region 4 with (refine make_new (o := ⟨some 34, _, _, _, _, _⟩) rfl 44 (.const (.int .i64 256)) (.const (.int .i64 256)) rfl 5 is _ 1 1 Try.underlying44 his hs1 hs2 hs3 256 .i64 .i64 rfl rfl (by omega) (by omega) (by omega) ?_)
        have b0 := Blk.newA c2 wc (madeCells (Value.int IntKind.u8 0).cells (256 * 1)) 5 (N, 3)
        rw [made_bytes 256] at b0
        have e0 := (Ext.refl (Obs []) c2 wc).alloc (.cells (madeCells (Value.int IntKind.u8 0).cells (256 * 1)) 5) (N, 3)
        generalize setc c2 wc.heap.size (N, 3) = c3 at b0 e0
        generalize hw1 : wc.alloc (.cells (madeCells (Value.int IntKind.u8 0).cells (256 * 1)) 5) = w3 at b0 e0
        simp only [Value.cells] at hw1
        rw [hw1]
        generalize hp : wc.heap.size = p4 at b0 ⊢
        clear hw1
        have h3 := (H2.out).quiet e0
        have b3 := (B3.out).keep e0 (fun h => by simp [Obs] at h)
        have H3 := Lib.hid h3
        have B4 := Lib.hid b3
        have B0 := Lib.hid b0
        clear h3 b3 b0 e0 H2 B3 k6
        have h3d := (H3.out).quiet (Ext.refl (Obs []) c3 w3).drew
        have b4d := (B4.out).drew
        have b0d := (B0.out).drew
        clear H3 B4 B0
        refine X_begin [7] [9] (fun w' : World => w'.cell? ⟨p1, 6, none⟩ = some (.int .u8 i)) (by kernel_rfl) ?_
        generalize w3.drew = wd at h3d b4d b0d ⊢
        have k6 : wd.cell? ⟨p1, 6, none⟩ = some (.int .u8 i) := (h3d.b1.cell 6).trans rfl
        have m3 : wd.cell? ⟨p4, 3, none⟩ = some (B 0) := (b0d.cell 3).trans rfl
        have f3 := b0d.free 3
        have H3 := Lib.hid h3d
        have B4 := Lib.hid b4d
        have B0 := Lib.hid b0d
        clear h3d b4d b0d
        refine X_pure 0 rfl (by kernel_rfl) (by kernel_rfl) (by kernel_rfl) (by kernel_rfl) (fun _ _ _ h => h) rfl (by intro w; go_simp; first | done | with_reducible rfl) ?_
        try simp only [Act.put, List.setIfInBounds_toArray, List.set_cons_zero, List.set_cons_succ]
        refine X_pure 1 rfl (by kernel_rfl) (by kernel_rfl) (by kernel_rfl) (by kernel_rfl) (fun _ _ _ h => h) rfl (by intro w; go_simp; first | done | with_reducible rfl) ?_
        try simp only [Act.put, List.setIfInBounds_toArray, List.set_cons_zero, List.set_cons_succ]
        refine X_pure 2 rfl (by kernel_rfl) (by kernel_rfl) (by kernel_rfl) (by kernel_rfl) (fun _ _ _ h => h) rfl (by intro w; go_simp; first | done | with_reducible rfl) ?_
        try simp only [Act.put, List.setIfInBounds_toArray, List.set_cons_zero, List.set_cons_succ]
        refine X_pure 4 rfl (by kernel_rfl) (by kernel_rfl) (by kernel_rfl) (by kernel_rfl) (fun _ _ _ h => h) rfl (by intro w; go_simp; first | done | with_reducible rfl) ?_
        try simp only [Act.put, List.setIfInBounds_toArray, List.set_cons_zero, List.set_cons_succ]
        refine X_still 3 rfl (by kernel_rfl) (by kernel_rfl) (by kernel_rfl) (by kernel_rfl) rfl (by go_simp; first | done | with_reducible rfl) ?_
        try simp only [Act.put, List.setIfInBounds_toArray, List.set_cons_zero, List.set_cons_succ]
        refine X_pure 6 rfl (by kernel_rfl) (by kernel_rfl) (by kernel_rfl) (by kernel_rfl) (fun _ _ _ h => h) rfl (by intro w; go_simp; first | done | with_reducible rfl) ?_
        try simp only [Act.put, List.setIfInBounds_toArray, List.set_cons_zero, List.set_cons_succ]
        refine X_held 5 rfl (by kernel_rfl) (by kernel_rfl) (by kernel_rfl) (by kernel_rfl) (by kernel_rfl) (fun _ _ _ h => h) (k6) rfl (by intro w hS; go_simp; first | done | with_reducible rfl) ?_
        try simp only [Act.put, List.setIfInBounds_toArray, List.set_cons_zero, List.set_cons_succ]
        refine X_opS 7 rfl (by kernel_rfl) (by kernel_rfl) ?_
        go_step
        go_step
        go_step
        refine wpList_nil ?_
        have b5 := (B0.out).set 3 (.int .u8 i)
        have e5 : Ext (fun y => y = (N, 3)) c3 wd c3 (wd.setCell ⟨p4, 3, none⟩ (.int .u8 i)) := (Ext.refl _ c3 wd).setCell (a := ⟨p4, 3, none⟩) (B0.out).col _
        have h5 := (H3.out).one (by omega) (by omega) e5
        have b6 := (B4.out).keep e5 (by simp)
        generalize wd.setCell ⟨p4, 3, none⟩ (.int .u8 i) = w5 at b5 h5 b6 ⊢
        refine ⟨(h5.b1.cell 6).trans rfl, ?_⟩
        have m200 : w5.cell? ⟨p4, 200, none⟩ = some (B 0) := (b5.cell 200).trans rfl
        have f200 := b5.free 200
        have H5 := Lib.hid h5
        have B6 := Lib.hid b6
        have B5 := Lib.hid b5
        clear b5 e5 h5 b6 k6 m3 f3
        try simp only [Act.put, List.setIfInBounds_toArray, List.set_cons_zero, List.set_cons_succ]
        refine X_pure 8 rfl (by kernel_rfl) (by kernel_rfl) (by kernel_rfl) (by kernel_rfl) (fun _ _ _ h => h) rfl (by intro w; go_simp; first | done | with_reducible rfl) ?_
        try simp only [Act.put, List.setIfInBounds_toArray, List.set_cons_zero, List.set_cons_succ]
        refine X_op 9 rfl (by kernel_rfl) (by kernel_rfl) (by kernel_rfl) ?_
        go_step
        go_step
        go_step
        refine wpList_nil ?_
        have b7 := (B5.out).set 200 (.int .u8 i)
        have e7 : Ext (fun y => y = (N, 3)) c3 w5 c3 (w5.setCell ⟨p4, 200, none⟩ (.int .u8 i)) := (Ext.refl _ c3 w5).setCell (a := ⟨p4, 200, none⟩) (B5.out).col _
        have h7 := (H5.out).one (by omega) (by omega) e7
        have b8 := (B6.out).keep e7 (by simp)
        generalize w5.setCell ⟨p4, 200, none⟩ (.int .u8 i) = w7 at b7 h7 b8 ⊢
        have hbb : (((zeros 256).map B).set 3 (Value.int IntKind.u8 i)).set 200 (Value.int IntKind.u8 i) = (((zeros 256).set 3 (UInt8.ofNat i.toNat)).set 200 (UInt8.ofNat i.toNat)).map B := by
          rw [List.map_set, List.map_set, ← B_of i hi.1 hi.2]
        rw [hbb] at b7
        have hrd := b7.rd 256 (by simp [zeros]) (by omega)
        have HRD := Lib.hid hrd
        have H7 := Lib.hid h7
        have m6 : w7.cell? ⟨p3, 6, none⟩ = some (.string ⟨#[]⟩) := (b8.cell 6).trans rfl
        have f6 := b8.free 6
        have B8 := Lib.hid b8
        clear b7 e7 h7 b8 hbb hrd m200 f200
        refine X_done (by kernel_rfl) ?_ _
        go_wp2_with (refine str_of (o := ⟨some 44, _, _, _, _, _⟩) rfl (.tmp 43) rfl c3 N _ rfl _ HRD.out ?_; intro st hst; have HST := Lib.hid hst; clear hst)
        go_meet
        have e9 : Ext (fun y => y = (N, 2)) c3 w7 c3 (w7.setCell ⟨p3, 6, none⟩ (.string st)) := (Ext.refl _ c3 w7).setCell (a := ⟨p3, 6, none⟩) (B8.out).col _
        exact ⟨st, .inr (by rw [← size_eq, HST.out]; simp [zeros]), c3, (H7.out).one (by omega) (by omega) e9, (B8.out).set 6 _⟩
    case rest =>
      obtain ⟨s3, hs3, hrel⟩ := hcut
      obtain ⟨c3, h3, b3⟩ := hrel.out
      clear hrel H2 B3 k6
      unfold recBox at b3
      have k0 : wc.cell? ⟨p3, 0, none⟩ = some (.int .i64 (Kn : Int)) := (b3.cell 0).trans rfl
      have j7 : wc.cell? ⟨p1, 7, none⟩ = some (.slice q ds.length dcap) := (h3.b1.cell 7).trans rfl
      have H3 := Lib.hid h3
      have B3 := Lib.hid b3
      clear h3 b3
      obtain ⟨dl, hdl'⟩ : ∃ dl, dl = ds.length := ⟨_, rfl⟩
      rw [← hdl'] at j7
      have hdl2 : dl ≤ 1000 := by omega
      have HDL := Lib.hid hdl'
      clear hdl'
      obtain ⟨w6, hw6⟩ : ∃ w6, w6 = wc := ⟨_, rfl⟩
      go_upto_region 6 with fail
      go_cut [54] (fun u wx => wx = w6 ∧ ∃ b, u = .bool b ∧ (b = true ↔ Kn = 7 ∧ 0 < dl))
      case first =>
        go_wp2_with fail
        all_goals go_meet
        all_goals (refine ⟨hw6.symm, _, rfl, ?_⟩)
        all_goals (simp <;> omega)
      obtain ⟨rfl, bb, rfl, hbb⟩ := hcut
      subst hw6
      go_upto_if 54 with fail
      go_cut [] (fun wx => ∃ (dv : Value) (rd : List Nat), RecCut c w N Y p1 p2 p3 [.int .i64 k, .int .i64 t, .int .i64 p, .int .i64 s, .int .u8 b, .int .u8 a, .int .u8 i, .slice q ds.length dcap] (.slice q ds.length dcap) ds Kn Tn Pn Sn s1 s2 s3 dv rd wx)
      case first =>
        have HBB := Lib.hid hbb
        clear hbb
        cases bb
        case true =>
          obtain ⟨h7, h0⟩ := (HBB.out).1 rfl
          have HK7 := Lib.hid h7
          obtain ⟨iu, hiu, hu1, hu2, hu3⟩ := info_parts info_u64
          go_upto_region 8 with (refine make_new (o := ⟨some 55, _, _, _, _, _⟩) rfl 31 (.const (.int .i64 6)) (.const (.int .i64 6)) rfl 37 iu _ 1 8 Try.underlying31 hiu hu1 hu2 hu3 6 .i64 .i64 rfl rfl (by omega) (by omega) (by omega) ?_; have b5 := Blk.newA c3 wc (madeCells (Value.int IntKind.u64 0).cells (6 * 1)) 37 (N, 5); have e5 := (Ext.refl (Obs []) c3 wc).alloc (.cells (madeCells (Value.int IntKind.u64 0).cells (6 * 1)) 37) (N, 5); have h5 := (H3.out).quiet e5; have b6 := (B3.out).keep e5 (fun h => by simp [Obs] at h); generalize setc c3 wc.heap.size (N, 5) = c5 at b5 h5 b6; generalize wc.alloc (.cells (madeCells (Value.int IntKind.u64 0).cells (6 * 1)) 37) = w5 at b5 h5 b6 ⊢; generalize wc.heap.size = p5 at b5 ⊢; have k7 : w5.cell? ⟨p3, 7, none⟩ = some (.slice none 0 0) := (b6.cell 7).trans rfl; have f7 := b6.free 7; have H5 := Lib.hid h5; have B5 := Lib.hid b5; have B6 := Lib.hid b6; clear b5 e5 h5 b6 j7 k0)
          have e6 : Ext (fun y => y = (N, 2)) c5 w5 c5 (w5.setCell ⟨p3, 7, none⟩ (.slice (some ⟨p5, 0, none⟩) 6 6)) := (Ext.refl _ c5 w5).setCell (a := ⟨p3, 7, none⟩) (B6.out).col _
          have h7a := (H5.out).one (by omega) (by omega) e6
          have b7 := (B6.out).set 7 (.slice (some ⟨p5, 0, none⟩) 6 6)
          have b8 := (B5.out).keep e6 (by simp)
          generalize w5.setCell ⟨p3, 7, none⟩ (.slice (some ⟨p5, 0, none⟩) 6 6) = w7 at h7a b7 b8 ⊢
          clear k7 f7 e6 H5 B5 B6
          have hz : (madeCells (Value.int IntKind.u64 0).cells (6 * 1)).toList = List.replicate 6 (U64 0) := by have := madeCells_rep (.int .u64 0) 1 6 (by omega); simp only [List.replicate_one] at this; exact this
          rw [hz] at b8
          obtain ⟨cur, hcur⟩ : ∃ cur, cur = List.replicate 6 (U64 0) := ⟨_, rfl⟩
          rw [← hcur] at b8
          have HCUR := Lib.hid hcur
          obtain ⟨nw, hnw⟩ : ∃ nw, nw = (ds.map U64).take (Nat.min dl 6) := ⟨_, rfl⟩
          have HNW := Lib.hid hnw
          have k7 : w7.cell? ⟨p3, 7, none⟩ = some (.slice (some ⟨p5, 0, none⟩) 6 6) := (b7.cell 7).trans rfl
          have j7 : w7.cell? ⟨p1, 7, none⟩ = some (.slice q dl dcap) := by rw [HDL.out]; exact (h7a.b1.cell 7).trans rfl
          have hfirst := Rs.first (P := Try.prog) h7a.dirt (Nat.min dl 6) (by rw [List.length_map, ← HDL.out]; exact Nat.min_le_left _ _)
          rw [← HDL.out, ← hnw] at hfirst
          have hl6 : nw.length = Nat.min dl 6 := by rw [hnw, List.length_take, List.length_map, ← HDL.out]; exact Nat.min_eq_left (Nat.min_le_left _ _)
          have HFI := Lib.hid hfirst
          have H7 := Lib.hid h7a
          have B7 := Lib.hid b7
          have B8 := Lib.hid b8
          have HL6 := Lib.hid hl6
          clear h7a b7 b8 hz hfirst hl6 hcur hnw
          have hcl : cur.length = 6 := by rw [HCUR.out]; rfl
          have hnl : nw.length ≤ 6 := by rw [HL6.out]; exact Nat.min_le_right _ _
          have hone : ∀ u ∈ nw, u.oneCell' = true := by
            intro u hu
            rw [HNW.out] at hu
            obtain ⟨d, _, rfl⟩ := List.mem_map.1 (List.mem_of_mem_take hu)
            rfl
          have HH := Lib.hid (And.intro hcl (And.intro hnl hone))
          clear hcl hnl hone
          go_wp2_with (refine copy_blk (o := ⟨some 61, _, _, _, _, _⟩) rfl (.tmp 58) (.tmp 60) 31 31 rfl 37 iu Try.underlying31 hiu hu2 c5 (N, 5) p5 0 6 6 cur rfl (B8.out) (.slice q dl dcap) rfl dl nw (fun w' => by rfl) HFI.out HL6.out (HH.out).2.2 (by rw [Nat.zero_add, (HH.out).1]; exact (HH.out).2.1) ?_)
          go_meet
          have e9 : ∀ cs : Array Value, Ext (fun y => y = (N, 5)) c5 w7 c5 (w7.setRow p5 cs) := fun cs => (Ext.refl _ c5 w7).setRow (g := p5) (B8.out).col _
          obtain ⟨M, hM⟩ : ∃ M, M = Nat.min dl 6 := ⟨_, rfl⟩
          have hm : M ≤ 6 := by rw [hM]; exact Nat.min_le_right _ _
          have hm' : M ≤ dl := by rw [hM]; exact Nat.min_le_left _ _
          have hlist : nw ++ List.drop nw.length cur = (ds.take M ++ List.replicate (6 - M) 0).map U64 := by
            rw [HL6.out, HNW.out, HCUR.out, ← hM, List.map_append, List.map_take, List.map_replicate, List.drop_replicate]
          have hrl : (ds.take M ++ List.replicate (6 - M) 0).length = 6 := by rw [List.length_append, List.length_take, List.length_replicate]; have := HDL.out; omega
          rw [hlist]
          refine ⟨.slice (some ⟨p5, 0, none⟩) 6 6, ds.take M ++ List.replicate (6 - M) 0, ⟨.inr ⟨HK7.out, hrl⟩, fun d hd => ?_⟩, c5, (H7.out).one (by omega) (by omega) (e9 _), (B7.out).keep (e9 _) (by simp), ⟨by simp, .inr ⟨p5, 6, [], by rw [hrl], ?_, ?_, by rw [hrl]; exact Nat.le_refl _, by simp [maxLen]⟩⟩⟩
          · rcases List.mem_append.1 hd with hd | hd
            · exact hd64 d (List.mem_of_mem_take hd)
            · rw [(List.mem_replicate.1 hd).2]; decide
          · rw [List.append_nil]
            exact (B8.out).row _
          · rw [List.append_nil, List.length_map, hrl]; decide
        case false =>
          go_wp2_with fail
          go_meet
          exact ⟨.slice none 0 0, [], ⟨.inl rfl, fun d h => by simp at h⟩, c3, H3.out, B3.out, Sl.nil _ _ _ _⟩
      case rest =>
        obtain ⟨dv, rd, hrd, c4, h4, b4, s4⟩ := hcut
        have HRD := Lib.hid hrd
        clear hrd H3 B3 k0 j7
        have k0 : wc.cell? ⟨p3, 0, none⟩ = some (.int .i64 (Kn : Int)) := (b4.cell 0).trans rfl
        have k1 : wc.cell? ⟨p3, 1, none⟩ = some (.int .i64 (Tn : Int)) := (b4.cell 1).trans rfl
        have k2 : wc.cell? ⟨p3, 2, none⟩ = some (.int .i64 (Pn : Int)) := (b4.cell 2).trans rfl
        have k3 : wc.cell? ⟨p3, 3, none⟩ = some (.int .i64 (Sn : Int)) := (b4.cell 3).trans rfl
        have k4 : wc.cell? ⟨p3, 4, none⟩ = some (.string s1) := (b4.cell 4).trans rfl
        have k5 : wc.cell? ⟨p3, 5, none⟩ = some (.string s2) := (b4.cell 5).trans rfl
        have k6 : wc.cell? ⟨p3, 6, none⟩ = some (.string s3) := (b4.cell 6).trans rfl
        have k7 : wc.cell? ⟨p3, 7, none⟩ = some dv := (b4.cell 7).trans rfl
        have H4 := Lib.hid h4
        have B4 := Lib.hid b4
        have S4 := Lib.hid s4
        clear h4 b4 s4
        obtain ⟨dp, dcap', rfl⟩ := (S4.out).form
        go_wp2_with (refine store_agg (o := ⟨none, .store 33 _ _, _, _, _, _⟩) rfl rfl 33 (.tmp 2) (.tmp 62) rfl p2 0 rfl (recBox Kn Tn Pn Sn s1 s2 s3 (.slice dp rd.length dcap')) rfl (by kernel_rfl) c4 (N, 1) zeroRec (H4.out).b2 (by simp [recBox, zeroRec]) (by simp [recBox, Value.oneCell']) ?_)
        (try simp only [Exit.inBlock, Exit.then])
        have b5 := (H4.out).b2.row (recBox Kn Tn Pn Sn s1 s2 s3 (.slice dp rd.length dcap'))
        have e5 : Ext (fun y => y = (N, 1)) c4 wc c4 (wc.setRow p2 (recBox Kn Tn Pn Sn s1 s2 s3 (.slice dp rd.length dcap')).toArray) := (Ext.refl _ c4 wc).setRow (g := p2) (H4.out).b2.col _
        have s5 := (S4.out).keep e5 (by simp)
        have x5 := (H4.out).ext.trans (e5.one (N := N) (by simp))
        refine bodyPost_ret (results_cell rfl rfl (loadVar_agg 33 p2 0 (recBox Kn Tn Pn Sn s1 s2 s3 (.slice dp rd.length dcap')) _ Try.underlying33 rfl (by kernel_rfl) (by intro j u hj; exact (b5.cell (0 + j)).trans (by rw [Nat.zero_add]; exact hj)))) rfl ?_
        have hz : ∀ k, k < w.heap.size → c k ≠ (N, 5) := fun k hk e => by have := HF.out k hk; rw [e] at this; exact this (by simp)
        obtain ⟨n1, n2, n3, n4, n5⟩ := HNS.out
        obtain ⟨⟨g1, g2⟩, g3⟩ := And.intro hs12.out hs3.out
        obtain ⟨g4, g5⟩ := HRD.out
        exact ⟨⟨Kn, Tn, Pn, Sn, s1, s2, s3, rd⟩, _, recol c4 (N, 5) (Z, 0), rfl, ⟨n1, n2, n3, n4, n5, g1, g2, g3, g4, g5⟩, HKN.out, (s5.recol (Z, 0)).rs, (x5.big HF.out).recol hz _⟩
end Go.Proofs.Ytfeacmlnlljnnaa
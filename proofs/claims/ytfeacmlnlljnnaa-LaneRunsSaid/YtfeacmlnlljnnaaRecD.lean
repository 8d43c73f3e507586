/- Package record: what say comes to. -/
import Derived.Test.YtfeacmlnlljnnaaRecC
namespace Go.Proofs.Ytfeacmlnlljnnaa
open Go Go.Proofs Go.RowKit

def zeroRec : List Value := [.int .i64 0, .int .i64 0, .int .i64 0, .int .i64 0, .string ⟨#[]⟩, .string ⟨#[]⟩, .string ⟨#[]⟩, .slice none 0 0]

structure SayAt (c : Col) (w : World) (N Y po pr : Nat) (s : Bs) (c' : Col) (wx : World) : Prop where
  out : Blk c' wx po (N, 0) zeroRec
  rd : ReaderAt c' wx pr (N + 1, 0) Y (s, false)
  ext : Ext (Big N) c w c' wx

theorem SayAt.step {c : Col} {w : World} {N Y po pr : Nat} {s s2 : Bs} {c1 c2 : Col} {w1 w2 : World} (h : SayAt c w N Y po pr s c1 w1)
    (hR : ReaderAt c2 w2 pr (N + 1, 0) Y (s2, false)) (hE : Ext (fun y => y = (N + 1, 0)) c1 w1 c2 w2) : SayAt c w N Y po pr s2 c2 w2 :=
  ⟨h.out.keep hE (by simp), hR, h.ext.trans (hE.one (by simp))⟩

structure SayX (c : Col) (w : World) (N Y po pr px : Nat) (cs : List Value) (dv : Value) (ds : List Nat) (s : Bs) (c' : Col) (wx : World) : Prop where
  at_ : SayAt c w N Y po pr s c' wx
  box : Blk c' wx px (N + 2, 0) cs
  dirt : Sl c' wx (N + 3, 0) 1 dv ds.length (ds.map U64)

theorem SayX.step {c : Col} {w : World} {N Y po pr px : Nat} {cs : List Value} {dv : Value} {ds : List Nat} {s s2 : Bs} {c1 c2 : Col} {w1 w2 : World} (h : SayX c w N Y po pr px cs dv ds s c1 w1)
    (hR : ReaderAt c2 w2 pr (N + 1, 0) Y (s2, false)) (hE : Ext (fun y => y = (N + 1, 0)) c1 w1 c2 w2) : SayX c w N Y po pr px cs dv ds s2 c2 w2 :=
  ⟨h.at_.step hR hE, h.box.keep hE (by simp), h.dirt.keep hE (by simp)⟩

theorem SayX.set {c : Col} {w : World} {N Y po pr px : Nat} {cs : List Value} {dv : Value} {ds : List Nat} {s : Bs} {c1 : Col} {w1 : World} (h : SayX c w N Y po pr px cs dv ds s c1 w1) (hY : Y < N) (i : Nat) (v : Value) :
    SayX c w N Y po pr px (cs.set i v) dv ds s c1 (w1.setCell ⟨px, i, none⟩ v) := by
  have e : Ext (fun y => y = (N + 2, 0)) c1 w1 c1 (w1.setCell ⟨px, i, none⟩ v) := (Ext.refl _ c1 w1).setCell (a := ⟨px, i, none⟩) h.box.col v
  exact ⟨⟨h.at_.out.keep e (by simp), h.at_.rd.keep e (by simp) (fun q h => by simp at h; omega), h.at_.ext.trans (e.one (by simp))⟩, h.box.set i v, h.dirt.keep e (by simp)⟩

theorem SayX.one {c : Col} {w : World} {N Y po pr px : Nat} {cs : List Value} {dv : Value} {ds : List Nat} {s : Bs} {c1 c2 : Col} {w1 w2 : World} (h : SayX c w N Y po pr px cs dv ds s c1 w1) (hY : Y < N)
    {f : Nat × Nat} (hE : Ext (fun y => y = f) c1 w1 c2 w2) (hf : N + 3 < f.1) : SayX c w N Y po pr px cs dv ds s c2 w2 := by
  have hh : ∀ k q, k < N + 4 → ¬ ((k, q) : Nat × Nat) = f := fun k q hk e => by rw [← e] at hf; simp at hf; omega
  exact ⟨⟨h.at_.out.keep hE (hh _ _ (by omega)), h.at_.rd.keep hE (hh _ _ (by omega)) (fun q => hh _ _ (by omega)), h.at_.ext.trans (hE.one (by omega))⟩, h.box.keep hE (hh _ _ (by omega)), h.dirt.keep hE (hh _ _ (by omega))⟩

theorem SayX.drew {c : Col} {w : World} {N Y po pr px : Nat} {cs : List Value} {dv : Value} {ds : List Nat} {s : Bs} {c1 : Col} {w1 : World} (h : SayX c w N Y po pr px cs dv ds s c1 w1) : SayX c w N Y po pr px cs dv ds s c1 w1.drew :=
  ⟨⟨h.at_.out.drew, h.at_.rd, h.at_.ext.drew⟩, h.box.drew, h.dirt.drew⟩

theorem SayX.push {c : Col} {w : World} {N Y po pr px : Nat} {cs : List Value} {dv dv2 : Value} {ds ds2 : List Nat} {s : Bs} {c1 c2 : Col} {w1 w2 : World} (h : SayX c w N Y po pr px cs dv ds s c1 w1) (hY : Y < N)
    (hS : Sl c2 w2 (N + 3, 0) 1 dv2 ds2.length (ds2.map U64)) (hE : Ext (own dv (N + 3, 0)) c1 w1 c2 w2) : SayX c w N Y po pr px cs dv2 ds2 s c2 w2 := by
  have hh : ∀ k q, k < N + 3 → ¬ own dv (N + 3, 0) ((k, q) : Nat × Nat) := fun k q hk ⟨e, _⟩ => by simp at e; omega
  exact ⟨⟨h.at_.out.keep hE (hh _ _ (by omega)), h.at_.rd.keep hE (hh _ _ (by omega)) (fun q => hh _ _ (by omega)), h.at_.ext.trans (hE.mono fun x ⟨e, _⟩ => by subst e; simp [Big])⟩, h.box.keep hE (hh _ _ (by omega)), hS⟩

theorem info_u64 : (Try.prog.info? 37).map (fun i => (i.zero, i.size, i.bytes)) = some (some (.int .u64 0), 1, 8) := by kernel_rfl

/-- The record, with new bytes of colour z. -/
def Said (c : Col) (w : World) (z : Nat × Nat) (r : Rec) (e : Ending) (w' : World) : Prop :=
  ∃ (dv : Value) (c' : Col), e = .returned (.tuple #[.agg (recCells r dv).toArray, .bool true]) ∧ Sl c' w' z 1 dv r.dirty.length (r.dirty.map U64) ∧ Ext (Obs []) c w c' w'

theorem body_eq (r : Rec) : bodyB r = UInt8.ofNat r.kind :: UInt8.ofNat r.txn :: UInt8.ofNat r.page :: UInt8.ofNat r.slot :: (textB r.before.data.toList ++ (textB r.after.data.toList ++ (be 2 r.image.size ++ (r.image.data.toList ++ (be 1 r.dirty.length ++ r.dirty.flatMap (be 8)))))) := by
  simp [bodyB]

theorem body_len (r : Rec) (hr : r.Ok) : (bodyB r).length ≤ 1000 := by
  have hb := hr.before
  have ha := hr.after
  have hi := hr.image
  have hd := hr.dirty
  rw [body_eq]
  simp only [List.length_cons, List.length_append, textB, be_len, size_eq]
  rw [flatMap_len (be 8) 8 _ (fun x _ => be_len 8 x)]
  omega

theorem str_eq {s t : ByteArray} (h : s.data.toList = t.data.toList) : s = t := by
  cases s; cases t; simp at h; simp [h]

set_option maxRecDepth 100000 in
set_option maxHeartbeats 4000000 in
theorem say_in (c : Col) (w : World) (Y : Nat) (r : Rec) (hr : r.Ok) (v : Value) (hv : Rd c w Y v (bodyB r)) (z : Nat × Nat) :
    Calls Try.prog 69 #[v] w (Said c w z r) := by
  obtain ⟨N, hYN, hN⟩ := big_col c w (Y + z.1)
  have HN := Lib.hid hN
  have HR := Lib.hid hr
  have HL := Lib.hid (body_len r hr)
  rw [body_eq] at hv
  have hlen := (HL.out)
  rw [body_eq] at hlen
  obtain ⟨t4, h4⟩ : ∃ t4, t4 = be 1 r.dirty.length ++ r.dirty.flatMap (be 8) := ⟨_, rfl⟩
  rw [← h4] at hv hlen
  obtain ⟨t3, h3⟩ : ∃ t3, t3 = be 2 r.image.size ++ (r.image.data.toList ++ t4) := ⟨_, rfl⟩
  rw [← h3] at hv hlen
  obtain ⟨t2, h2⟩ : ∃ t2, t2 = textB r.before.data.toList ++ (textB r.after.data.toList ++ t3) := ⟨_, rfl⟩
  rw [← h2] at hv hlen
  have H4 := Lib.hid h4
  have H3 := Lib.hid h3
  have H2 := Lib.hid h2
  simp only [List.length_cons] at hlen
  obtain ⟨q, cap, rfl, _⟩ := id hv
  have e0 := (Ext.refl (Big N) c w).alloc (.cells zeroRec.toArray 33) (N, 0)
  have b0 := Blk.new c w zeroRec 33 (N, 0)
  have v0 := hv.keep e0 (fun q h => by have h' : N ≤ Y := h; omega)
  generalize hq : Value.slice q _ cap = qv at v0 ⊢
  have HV0 := Lib.hid v0
  clear h2 h3 h4 hv hN hr
  unfold zeroRec at e0 b0 v0 HV0
  have hk7 := (HR.out).k7
  have ht7 := (HR.out).txn
  have hp7 := (HR.out).page
  have hs7 := (HR.out).slot
  go_enter Try.func69, Try.ntmps69
  go_upto_region 2 with (generalize (w.alloc (.cells [Value.int .i64 0, .int .i64 0, .int .i64 0, .int .i64 0, .string ⟨#[]⟩, .string ⟨#[]⟩, .string ⟨#[]⟩, .slice none 0 0].toArray 33)) = w1 at e0 b0 v0 HV0 ⊢; go_at_call 51; refine (newr_in _ w1 Y qv _ HV0.out (N + 1, 0)).mono ?_; rintro e w2 ⟨pr, c2, rfl, hR, hE, _⟩)
  have a1 : SayAt c w N Y w.heap.size pr _ c2 w2 := ⟨b0.keep hE (by simp [Obs]), hR, e0.trans hE.none⟩
  have A1 := Lib.hid a1
  have g1 := Lib.hid (num_in c2 w2 pr (N + 1, 0) Y (by simp <;> omega) _ hR 1 (by omega) (by omega) (by simp <;> omega))
  rw [rNum_byte _ (by omega)] at g1
  clear e0 b0 v0 HV0 hR hE a1
  generalize hpo : w.heap.size = po at A1
  go_upto_region 3 with (first
    | (go_at_call 52; refine (g1.out).mono ?_; rintro e w3 ⟨c3, rfl, hR, hE⟩; have A2 := Lib.hid ((A1.out).step hR hE); have g2 := Lib.hid (num_in c3 w3 pr (N + 1, 0) Y (by simp <;> omega) _ hR 1 (by omega) (by omega) (by simp <;> omega)); rw [rNum_byte _ (by omega)] at g2; clear g1 A1 hR hE)
    | (go_at_call 52; refine (g2.out).mono ?_; rintro e w4 ⟨c4, rfl, hR, hE⟩; have A3 := Lib.hid ((A2.out).step hR hE); have g3 := Lib.hid (num_in c4 w4 pr (N + 1, 0) Y (by simp <;> omega) _ hR 1 (by omega) (by omega) (by simp <;> omega)); rw [rNum_byte _ (by omega)] at g3; clear g2 A2 hR hE)
    | (go_at_call 52; refine (g3.out).mono ?_; rintro e w5 ⟨c5, rfl, hR, hE⟩; have A4 := Lib.hid ((A3.out).step hR hE); have g4 := Lib.hid (num_in c5 w5 pr (N + 1, 0) Y (by simp <;> omega) _ hR 1 (by omega) (by omega) (by simp <;> omega)); rw [rNum_byte _ (by omega)] at g4; clear g3 A3 hR hE)
    | (go_at_call 52; refine (g4.out).mono ?_; rintro e w6 ⟨c6, rfl, hR, hE⟩; have A5 := Lib.hid ((A4.out).step hR hE); clear g4 A4 hR hE))
  have e1 := (Ext.refl (Big N) c6 w6).alloc (.cells #[Value.int .i64 (r.kind : Int), .int .i64 (r.txn : Int), .int .i64 (r.page : Int), .int .i64 (r.slot : Int), .string ⟨#[]⟩, .string ⟨#[]⟩, .string ⟨#[]⟩, .slice none 0 0] 33) (N + 2, 0)
  have e2 := (Ext.refl (fun _ => False) c6 w6).alloc (.cells #[Value.int .i64 (r.kind : Int), .int .i64 (r.txn : Int), .int .i64 (r.page : Int), .int .i64 (r.slot : Int), .string ⟨#[]⟩, .string ⟨#[]⟩, .string ⟨#[]⟩, .slice none 0 0] 33) (N + 2, 0)
  have b1 := Blk.newA c6 w6 #[Value.int .i64 (r.kind : Int), .int .i64 (r.txn : Int), .int .i64 (r.page : Int), .int .i64 (r.slot : Int), .string ⟨#[]⟩, .string ⟨#[]⟩, .string ⟨#[]⟩, .slice none 0 0] 33 (N + 2, 0)
  have a5 := A5.out
  have x1 : SayX c w N Y po pr w6.heap.size _ (.slice none 0 0) [] _ _ _ := ⟨⟨a5.out.keep e2 (fun h => h), a5.rd.keep e2 (fun h => h) (fun _ h => h), a5.ext.trans e1⟩, b1, Sl.nil _ _ _ _⟩
  generalize hpx : w6.heap.size = px at x1 ⊢
  clear e1 e2 b1 a5 A5
  generalize hc7 : setc c6 px (N + 2, 0) = c7 at x1
  generalize hw7 : w6.alloc (.cells #[Value.int .i64 (r.kind : Int), .int .i64 (r.txn : Int), .int .i64 (r.page : Int), .int .i64 (r.slot : Int), .string ⟨#[]⟩, .string ⟨#[]⟩, .string ⟨#[]⟩, .slice none 0 0] 33) = w7 at x1 ⊢
  have X1 := Lib.hid x1
  have hs1 : r.before.size < 256 := by have := (HR.out).before; omega
  have hs2 : r.after.size < 256 := by have := (HR.out).after; omega
  have hs3 : r.image.size ≤ 256 := by have := (HR.out).image; omega
  have ht2l : t2.length ≤ 1000 := by omega
  have ht3l : t3.length ≤ 1000 := by rw [H2.out] at ht2l; simp only [List.length_append] at ht2l; omega
  have g1 := Lib.hid (rtext_in c7 w7 pr (N + 1, 0) Y (by simp <;> omega) _ x1.at_.rd (by simp <;> omega))
  rw [H2.out, rText_app _ _ (by rw [size_eq]; exact hs1)] at g1
  clear x1 hc7 hw7 hpx
  go_upto_region 4 with (first
    | (go_at_call 71; refine (g1.out).mono ?_; rintro e w8 ⟨s1, c8, hs, rfl, hR, hE⟩; obtain rfl := str_eq hs; have X2 := Lib.hid ((X1.out).step hR hE); have g2 := Lib.hid (rtext_in c8 w8 pr (N + 1, 0) Y (by simp <;> omega) _ hR (by simp [textB, size_eq] <;> omega)); rw [rText_app _ _ (by rw [size_eq]; exact hs2)] at g2; clear g1 X1 hR hE hs)
    | (go_at_call 71; refine (g2.out).mono ?_; rintro e w9 ⟨s2, c9, hs, rfl, hR, hE⟩; obtain rfl := str_eq hs; have x3 := (X2.out).step hR hE; have X3 := Lib.hid x3; have k4 := x3.box.cell 4; have k5 := x3.box.cell 5; have f4 := x3.box.free 4; have f5 := x3.box.free 5; simp at k4 k5; clear x3 g2 X2 hR hE hs))
  have x4 := ((X3.out).set (by omega) 4 (.string r.before)).set (by omega) 5 (.string r.after)
  simp only [List.set_cons_zero, List.set_cons_succ] at x4
  generalize hw10 : (w9.setCell ⟨px, 4, none⟩ (.string r.before)).setCell ⟨px, 5, none⟩ (.string r.after) = w10 at x4 ⊢
  have X4 := Lib.hid x4
  have g1 := Lib.hid (num_in c9 w10 pr (N + 1, 0) Y (by simp <;> omega) _ x4.at_.rd 2 (by omega) (by omega) (by simp <;> omega))
  rw [H3.out, rNum_be 2 _ (by omega)] at g1
  have him : r.image.data.toList.length = r.image.size := size_eq _
  have hil : (r.image.data.toList ++ t4).length ≤ 1000 := by rw [H3.out] at ht3l; simp only [List.length_append] at ht3l ⊢; omega
  clear x4 X3 hw10 k4 k5 f4 f5
  go_upto_region 5 with (first
    | (go_at_call 52; refine (g1.out).mono ?_; rintro e w11 ⟨c11, rfl, hR, hE⟩; have X5 := Lib.hid ((X4.out).step hR hE); have g2 := Lib.hid (take_in c11 w11 pr (N + 1, 0) Y (by simp <;> omega) _ hR (r.image.size : Int) (by simp only [] <;> omega) (N + 4, 0)); rw [rTake_app _ _ _ him] at g2; clear g1 X4 hR hE)
    | (go_at_call 67; refine (g2.out).mono ?_; rintro e w12 ⟨v12, c12, rfl, hO, hR, hE⟩; have x6 := (X5.out).step hR hE; have X6 := Lib.hid x6; have k6 := x6.box.cell 6; have f6 := x6.box.free 6; simp at k6; have HO := Lib.hid hO; clear x6 g2 X5 hR hE hO)
    | (refine str_of (o := ⟨some 32, _, _, _, _, _⟩) rfl (.tmp 31) rfl c12 (N + 4) v12 rfl _ (HO.out).rd ?_; intro st hst; obtain rfl := str_eq hst; clear hst))
  have x7 := (X6.out).set (by omega) 6 (.string r.image)
  simp only [List.set_cons_zero, List.set_cons_succ] at x7
  generalize hw13 : w12.setCell ⟨px, 6, none⟩ (.string r.image) = w13 at x7 ⊢
  have X7 := Lib.hid x7
  have hdl : r.dirty.length ≤ 6 := by have := (HR.out).dirty; omega
  have g1 := Lib.hid (num_in c12 w13 pr (N + 1, 0) Y (by simp <;> omega) _ x7.at_.rd 1 (by omega) (by omega) (by simp only [List.length_append] at hil ⊢; omega))
  rw [H4.out, rNum_be 1 _ (by omega)] at g1
  clear x7 X6 hw13 k6 f6
  go_wp2_with (go_at_call 52; refine (g1.out).mono ?_; rintro e w14 ⟨c14, rfl, hR, hE⟩; have X8 := Lib.hid ((X7.out).step hR hE); clear g1 X7 hR hE)
  go_loopw [36] (fun k wx => ∃ j : Nat, j ≤ r.dirty.length ∧ k = .int .u64 (j : Int) ∧ Hid (∃ cj dv, SayX c w N Y po pr px (recCells r dv) dv (r.dirty.take j) ((r.dirty.drop j).flatMap (be 8)) cj wx)) (fun k _ => r.dirty.length - (intOf k).toNat)
  case atStart => exact ⟨0, Nat.zero_le _, rfl, c14, .slice none 0 0, by simpa [recCells] using X8.out⟩
  case round =>
    obtain ⟨j, hj, rfl, hrel⟩ := hrel
    obtain ⟨cj, dv, hx⟩ := hrel.out
    clear hrel X8
    by_cases hlt : j < r.dirty.length
    · obtain ⟨d, hd⟩ : ∃ d, r.dirty[j]? = some d := ⟨_, List.getElem?_eq_getElem hlt⟩
      have hd64 : d < 18446744073709551616 := (HR.out).d64 d (List.mem_of_getElem? hd)
      have hdrop : r.dirty.drop j = d :: r.dirty.drop (j + 1) := by
        have := List.getElem?_eq_some_iff.1 hd
        rw [← this.2]; exact List.drop_eq_getElem_cons hlt
      rw [hdrop, List.flatMap_cons] at hx
      have hrl : ((r.dirty.drop (j + 1)).flatMap (be 8)).length ≤ 1000 := by
        rw [flatMap_len (be 8) 8 _ (fun x _ => be_len 8 x), List.length_drop]; omega
      have k7 : wr.cell? ⟨px, 7, none⟩ = some dv := by rw [hx.box.cell]; rfl
      have g1 := Lib.hid (num_in cj wr.drew pr (N + 1, 0) Y (by simp <;> omega) _ hx.at_.rd 8 (by omega) (by omega) (by simp only [List.length_append, be_len] at hrl ⊢; omega))
      rw [rNum_be 8 _ (by simpa using hd64)] at g1
      have HX := Lib.hid hx.drew
      have HD := Lib.hid hd
      clear hx hd hdrop
      obtain ⟨iw, hiw, hw1, hw2, hw3⟩ := info_parts info_u64
      go_upto_region 7 with fail
      refine X_begin [3, 4] [5, 7] (fun w' => w'.cell? ⟨px, 7, none⟩ = some dv) (by kernel_rfl) ?_
      refine X_pure 0 rfl (by kernel_rfl) (by kernel_rfl) (by kernel_rfl) (by kernel_rfl) (fun _ _ _ h => h) rfl (by intro w; go_simp; first | done | with_reducible rfl) ?_
      try simp only [Act.put, List.setIfInBounds_toArray, List.set_cons_zero, List.set_cons_succ]
      refine X_pure 2 rfl (by kernel_rfl) (by kernel_rfl) (by kernel_rfl) (by kernel_rfl) (fun _ _ _ h => h) rfl (by intro w; go_simp; first | done | with_reducible rfl) ?_
      try simp only [Act.put, List.setIfInBounds_toArray, List.set_cons_zero, List.set_cons_succ]
      refine X_held 1 rfl (by kernel_rfl) (by kernel_rfl) (by kernel_rfl) (by kernel_rfl) (by kernel_rfl) (fun _ _ _ h => h) (k7) rfl (by intro w hS; go_simp; first | done | with_reducible rfl) ?_
      try simp only [Act.put, List.setIfInBounds_toArray, List.set_cons_zero, List.set_cons_succ]
      refine X_opS 3 rfl (by kernel_rfl) (by kernel_rfl) ?_
      go_wp2_with (go_at_call 52; refine (g1.out).mono ?_; rintro e w2 ⟨c2, rfl, hR, hE⟩)
      have x2 := (HX.out).step hR hE
      clear HX hR hE g1
      refine ⟨by rw [x2.box.cell]; rfl, ?_⟩
      try simp only [Act.put, List.setIfInBounds_toArray, List.set_cons_zero, List.set_cons_succ]
      refine X_opS 4 rfl (by kernel_rfl) (by kernel_rfl) ?_
      go_wp2_with fail
      have k7b : w2.cell? ⟨px, 7, none⟩ = some dv := by rw [x2.box.cell]; rfl
      refine ⟨by rw [World.cell?_alloc_lt _ _ _ (by exact x2.box.lt)]; exact k7b, ?_⟩
      try simp only [Act.put, List.setIfInBounds_toArray, List.set_cons_zero, List.set_cons_succ]
      have x3 := x2.one (by omega) ((Ext.refl (fun y => y = (N + 4, 0)) c2 w2).alloc (.cells #[Value.int .u64 (d : Int)] 37) (0, 0)) (by simp)
      have b3 := Blk.newA c2 w2 #[Value.int .u64 (d : Int)] 37 (0, 0)
      clear x2
      generalize hc3 : setc c2 w2.heap.size (0, 0) = c3 at x3 b3
      generalize hg3 : w2.heap.size = g3 at b3 ⊢
      generalize hw3' : w2.alloc (.cells #[Value.int .u64 (d : Int)] 37) = w3 at x3 b3 ⊢
      refine X_op 5 rfl (by kernel_rfl) (by kernel_rfl) (by kernel_rfl) ?_
      refine append_sl rfl (.tmp 39) (.tmp 42) 31 31 rfl 37 iw _ 1 8 Try.underlying31 hiw hw1 hw2 hw3 (by rfl) c3 (N + 3, 0) dv (r.dirty.take j).length ((r.dirty.take j).map U64) rfl x3.dirt
        _ rfl 1 [U64 d] (cells_src g3 0 1 1 1 _ _ 37 Try.underlying31 rfl (by intro i v hi; rw [Nat.zero_add]; exact (b3.cell i).trans hi) (by simp [U64, Value.oneCell'])) (by rw [List.length_take]; unfold maxLen; omega) (by rw [List.length_take]; omega) ?_
      intro v' w' c' hSl hE
      obtain ⟨p', cap', rfl⟩ := hSl.form
      have hl : (r.dirty.take (j + 1)) = r.dirty.take j ++ [d] := by rw [List.take_add_one, HD.out]; rfl
      have x4 := x3.push (ds2 := r.dirty.take (j + 1)) (by omega) (by rw [hl]; simpa using hSl) hE
      have k7c : w'.cell? ⟨px, 7, none⟩ = some dv := by rw [x4.box.cell]; rfl
      have f7 := x4.box.free 7
      refine wpList_nil ?_
      have X4 := Lib.hid (x4.set (by omega) 7 (.slice p' ((r.dirty.take j).length + 1) cap'))
      clear x3 x4 b3 hSl hE
      try simp only [Act.put, List.setIfInBounds_toArray, List.set_cons_zero, List.set_cons_succ]
      refine X_pure 6 rfl (by kernel_rfl) (by kernel_rfl) (by kernel_rfl) (by kernel_rfl) (fun _ _ _ h => h) rfl (by intro w; go_simp; first | done | with_reducible rfl) ?_
      try simp only [Act.put, List.setIfInBounds_toArray, List.set_cons_zero, List.set_cons_succ]
      refine X_op 7 rfl (by kernel_rfl) (by kernel_rfl) (by kernel_rfl) ?_
      go_wp2_with fail
      refine X_done (by kernel_rfl) ?_ _
      go_wp2_with fail
      have ht : (r.dirty.take j).length = j := by rw [List.length_take]; omega
      have X5 : Hid (SayX c w N Y po pr px (recCells r (.slice p' (j + 1) cap')) (.slice p' (j + 1) cap') (r.dirty.take (j + 1)) ((r.dirty.drop (j + 1)).flatMap (be 8)) c' (w'.setCell ⟨px, 7, none⟩ (.slice p' (j + 1) cap'))) := by
        have h := X4.out
        simp only [List.length_take, Nat.min_eq_left hj] at h
        exact Lib.hid h
      exact ⟨⟨j + 1, hlt, rfl, c', _, X5.out⟩, by simp [intOf] <;> omega⟩
    · obtain rfl : j = r.dirty.length := by omega
      rw [List.take_length, List.drop_length, List.flatMap_nil] at hx
      obtain ⟨p', cap', rfl⟩ := hx.dirt.form
      have hx := hx.drew
      have HX := Lib.hid hx
      clear hx
      go_upto_region 9 with fail
      refine X_begin [] [9] (fun _ => True) (by kernel_rfl) ?_
      refine X_still 0 rfl (by kernel_rfl) (by kernel_rfl) (by kernel_rfl) (by kernel_rfl) rfl (load_agg_run 33 (.tmp 5) rfl px 0 rfl (recCells r (.slice p' r.dirty.length cap')) _ Try.underlying33 rfl (by kernel_rfl) (by intro j u hj; rw [Nat.zero_add]; exact (HX.out).box.cell j ▸ hj)) ?_
      try simp only [Act.put, List.setIfInBounds_toArray, List.set_cons_zero, List.set_cons_succ]
      refine X_pure 1 rfl (by kernel_rfl) (by kernel_rfl) (by kernel_rfl) (by kernel_rfl) (fun _ _ _ h => h) rfl (by intro w; go_simp; first | done | with_reducible rfl) ?_
      try simp only [Act.put, List.setIfInBounds_toArray, List.set_cons_zero, List.set_cons_succ]
      refine X_scall 2 rfl (by kernel_rfl) (by kernel_rfl) (by kernel_rfl) (by kernel_rfl) rfl _ _ (by go_simp; first | done | with_reducible rfl) (bad_in cj wr.drew pr (N + 1, 0) Y _ (HX.out).at_.rd) ?_
      try simp only [Act.put, List.setIfInBounds_toArray, List.set_cons_zero, List.set_cons_succ]
      refine X_pure 3 rfl (by kernel_rfl) (by kernel_rfl) (by kernel_rfl) (by kernel_rfl) (fun _ _ _ h => h) rfl (by intro w; go_simp; first | done | with_reducible rfl) ?_
      try simp only [Act.put, List.setIfInBounds_toArray, List.set_cons_zero, List.set_cons_succ]
      refine X_pure 4 rfl (by kernel_rfl) (by kernel_rfl) (by kernel_rfl) (by kernel_rfl) (fun _ _ _ h => h) rfl (by intro w; go_simp; first | done | with_reducible rfl) ?_
      try simp only [Act.put, List.setIfInBounds_toArray, List.set_cons_zero, List.set_cons_succ]
      refine X_pureG 5 rfl (by kernel_rfl) (by kernel_rfl) (by kernel_rfl) (by kernel_rfl) (fun _ _ _ h => h) rfl (by intro w; go_simp; first | done | with_reducible rfl) ?_
      try simp only [Act.put, List.setIfInBounds_toArray, List.set_cons_zero, List.set_cons_succ]
      refine X_scall 6 rfl (by kernel_rfl) (by kernel_rfl) (by kernel_rfl) (by kernel_rfl) rfl _ _ (by go_simp; first | done | with_reducible rfl) (rest_in cj wr.drew pr (N + 1, 0) Y _ (HX.out).at_.rd) ?_
      try simp only [Act.put, List.setIfInBounds_toArray, List.set_cons_zero, List.set_cons_succ]
      refine X_pureG 7 rfl (by kernel_rfl) (by kernel_rfl) (by kernel_rfl) (by kernel_rfl) (fun _ _ _ h => h) rfl (by intro w; go_simp; first | done | with_reducible rfl) ?_
      try simp only [Act.put, List.setIfInBounds_toArray, List.set_cons_zero, List.set_cons_succ]
      refine X_pure 8 rfl (by kernel_rfl) (by kernel_rfl) (by kernel_rfl) (by kernel_rfl) (fun _ _ _ h => h) rfl (by intro w; go_simp; first | done | with_reducible rfl) ?_
      try simp only [Act.put, List.setIfInBounds_toArray, List.set_cons_zero, List.set_cons_succ]
      refine X_op 9 rfl (by kernel_rfl) (by kernel_rfl) (by kernel_rfl) ?_
      refine store_agg rfl rfl 33 (.tmp 2) (.tmp 46) rfl po 0 rfl (recCells r (.slice p' r.dirty.length cap')) rfl (by kernel_rfl) cj (N, 0) zeroRec (HX.out).at_.out (by simp [recCells, zeroRec]) (by simp [recCells, Value.oneCell']) ?_
      refine wpList_nil ?_
      try simp only [Act.put, List.setIfInBounds_toArray, List.set_cons_zero, List.set_cons_succ]
      refine X_pure 10 rfl (by kernel_rfl) (by kernel_rfl) (by kernel_rfl) (by kernel_rfl) (fun _ _ _ h => h) rfl (by intro w; go_simp; first | done | with_reducible rfl) ?_
      try simp only [Act.put, List.setIfInBounds_toArray, List.set_cons_zero, List.set_cons_succ]
      refine X_done (by kernel_rfl) ?_ _
      have b1 := (HX.out).at_.out.row (recCells r (.slice p' r.dirty.length cap'))
      have e1 : Ext (fun y => y = (N, 0)) cj wr.drew cj (wr.drew.setRow po (recCells r (.slice p' r.dirty.length cap')).toArray) := (Ext.refl _ cj wr.drew).setRow (g := po) (HX.out).at_.out.col _
      have d1 := (HX.out).dirt.keep e1 (by simp)
      have x1 := (HX.out).at_.ext.trans (e1.one (by simp))
      go_wp2_with fail
      (try simp only [Exit.inBlock, Exit.then])
      refine bodyPost_ret (results_cell2 rfl rfl (loadVar_agg 33 po 0 (recCells r (.slice p' r.dirty.length cap')) _ Try.underlying33 rfl (by kernel_rfl) (by intro j u hj; exact (b1.cell (0 + j)).trans (by rw [Nat.zero_add]; exact hj)))) rfl ?_
      have hz : ∀ k, k < w.heap.size → c k ≠ (N + 3, 0) := fun k hk e => by have := HN.out k hk; rw [e] at this; exact this (by simp)
      exact ⟨_, recol cj (N + 3, 0) z, rfl, d1.recol z, (x1.big HN.out).recol hz z⟩
end Go.Proofs.Ytfeacmlnlljnnaa

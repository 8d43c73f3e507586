/- Package record: Decode of what is no whole frame; Same. -/
import Derived.Test.YtfeacmlnlljnnaaRecE
namespace Go.Proofs.Ytfeacmlnlljnnaa
open Go Go.Proofs Go.RowKit

/-- Bytes that end ahead of their frame's end. -/
def Short (bs : Bs) : Prop := (rTake ((rNum 2 (bs, false)).1 : Int) (rNum 2 (bs, false)).2).2.2 = true

theorem short_of (r : Rec) (hr : r.Ok) (m : Nat) (hm : m < (encB r).length) : Short ((encB r).take m) := by
  have hl := body_len r hr
  have hel : (encB r).length = 2 + (bodyB r).length := by simp [encB, be_len]
  unfold Short
  by_cases h2 : m < 2
  · have e : rNum 2 ((encB r).take m, false) = (0, (encB r).take m, true) := by
      unfold rNum rTake
      rw [if_pos (by right; right; rw [List.length_take]; simp; omega)]
      rfl
    rw [e]
    unfold rTake
    rw [if_pos (by left; rfl)]
  · have e : (encB r).take m = be 2 (bodyB r).length ++ (bodyB r).take (m - 2) := by
      unfold encB
      rw [List.take_append, be_len, List.take_of_length_le (by rw [be_len]; omega)]
    rw [e, rNum_be 2 _ (by omega)]
    unfold rTake
    rw [if_pos (by right; right; simp; omega)]

def NoRec (c : Col) (w : World) (e : Ending) (w' : World) : Prop :=
  e = .returned (.tuple #[.agg zeroRec.toArray, .int .i64 0, .bool false]) ∧ ∃ c' : Col, Ext (Obs []) c w c' w'

set_option maxRecDepth 100000 in
set_option maxHeartbeats 4000000 in
theorem decode_no (c : Col) (w : World) (Y : Nat) (bs : Bs) (v : Value) (hv : Rd c w Y v bs) (hs : Short bs) (hl : bs.length ≤ 1000000) :
    Calls Try.prog 54 #[v] w (NoRec c w) := by
  obtain ⟨N, hYN, hN⟩ := big_col c w Y
  have HN := Lib.hid hN
  obtain ⟨n, hn⟩ : ∃ n, n = (rNum 2 (bs, false)).1 := ⟨_, rfl⟩
  have hn2 : n < 65536 := by
    rw [hn]
    have h1 := val_lt (rTake ((2 : Nat) : Int) (bs, false)).1
    have h2 := rTake_len ((2 : Nat) : Int) (bs, false)
    refine Nat.lt_of_lt_of_le h1 ?_
    have := Nat.pow_le_pow_right (n := 256) (by omega) h2
    simpa using this
  have hrl : (rNum 2 (bs, false)).2.1.length ≤ 10000000 := Nat.le_trans (rTake_rest _ _) (by show bs.length ≤ 10000000; omega)
  unfold Short at hs
  rw [← hn] at hs
  have HS := Lib.hid hs
  have HRL := Lib.hid hrl
  have Hn := Lib.hid hn
  obtain ⟨q, cap, rfl, _⟩ := id hv
  have e0 := (Ext.refl (Big N) c w).alloc (.cells zeroRec.toArray 33) (N, 0)
  have b0 := Blk.new c w zeroRec 33 (N, 0)
  have v0 := hv.keep e0 (fun q h => by have h' : N ≤ Y := h; omega)
  generalize hq : Value.slice q _ cap = qv at v0 ⊢
  have HV0 := Lib.hid v0
  clear hv hN hs hrl hn
  unfold zeroRec at e0 b0 v0 HV0
  go_enter Try.func54, Try.ntmps54
  go_upto_region 2 with (generalize (w.alloc (.cells [Value.int .i64 0, .int .i64 0, .int .i64 0, .int .i64 0, .string ⟨#[]⟩, .string ⟨#[]⟩, .string ⟨#[]⟩, .slice none 0 0].toArray 33)) = w1 at e0 b0 v0 HV0 ⊢; go_at_call 51; refine (newr_in _ w1 Y qv _ HV0.out (N + 1, 0)).mono ?_; rintro e w2 ⟨pr, c2, rfl, hR, hE, _⟩)
  have o1 := b0.keep hE (by simp [Obs])
  have x1 := e0.trans hE.none
  have O1 := Lib.hid o1
  have X1 := Lib.hid x1
  have g1 := Lib.hid (num_in c2 w2 pr (N + 1, 0) Y (by simp <;> omega) _ hR 2 (by omega) (by omega) (by simp <;> omega))
  clear e0 b0 v0 HV0 hR hE o1 x1
  generalize hpo : w.heap.size = po at O1
  go_wp2_with (first
    | (go_at_call 52; refine (g1.out).mono ?_; rintro e w3 ⟨c3, rfl, hR, hE⟩; rw [← Hn.out]; have O2 := Lib.hid ((O1.out).keep hE (by simp)); have X2 := Lib.hid ((X1.out).trans (hE.one (by simp))); have g2 := Lib.hid (take_in c3 w3 pr (N + 1, 0) Y (by simp <;> omega) _ hR (n : Int) HRL.out (N + 2, 0)); clear g1 O1 X1 hR hE)
    | (go_at_call 67; refine (g2.out).mono ?_; rintro e w4 ⟨v4, c4, rfl, hO, hR, hE⟩; have O3 := Lib.hid ((O2.out).keep hE (by simp)); have X3 := Lib.hid ((X2.out).trans (hE.one (by simp))); have g3 := Lib.hid (bad_in c4 w4 pr (N + 1, 0) Y _ hR); clear g2 O2 X2 hR hE hO)
    | (go_at_call 68; refine (g3.out).mono ?_; rintro e w5 ⟨rfl, rfl⟩; rw [HS.out]; clear g3)
    | (refine store_agg (o := ⟨none, .store 33 _ _, _, _, _, _⟩) rfl rfl 33 _ _ rfl po 0 rfl zeroRec rfl (by kernel_rfl) c4 (N, 0) zeroRec (O3.out) (by simp [zeroRec]) (by simp [zeroRec, Value.oneCell']) ?_))
  (try simp only [Exit.inBlock, Exit.then])
  have b9 := (O3.out).row zeroRec
  have e9 : Ext (fun y => y = (N, 0)) c4 w4 c4 (w4.setRow po zeroRec.toArray) := (Ext.refl _ c4 w4).setRow (g := po) (O3.out).col _
  have x9 := (X3.out).trans (e9.one (by simp))
  refine bodyPost_ret (results_cell3 rfl rfl (loadVar_agg 33 po 0 zeroRec _ Try.underlying33 rfl (by kernel_rfl) (by intro j u hj; exact (b9.cell (0 + j)).trans (by rw [Nat.zero_add]; exact hj)))) rfl ?_
  exact ⟨rfl, _, x9.big HN.out⟩
end Go.Proofs.Ytfeacmlnlljnnaa

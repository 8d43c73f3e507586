/- Statements of layer 7: fit. -/
import Derived.Test.YtfeacmlnlljnnaaLawD
namespace Go.Proofs.Ytfeacmlnlljnnaa
open Go Go.Proofs Go.RowKit

def endRec : Rec := ⟨6, 0, 0, 0, ⟨#[]⟩, ⟨#[]⟩, ⟨#[]⟩, []⟩
theorem end_ok : endRec.Ok := ⟨by decide, by decide, by decide, by decide, by decide, .inl rfl, .inl rfl, .inl rfl, .inl rfl, fun d h => by simp [endRec] at h⟩

/-- true is answered; nothing that was there has changed. -/
def SaysT (c : Col) (w : World) (e : Ending) (w' : World) : Prop := e = .returned (.bool true) ∧ ∃ c' : Col, Ext (Obs []) c w c' w'

theorem opened_ok {c : Col} {w : World} {X Z Y d : Nat} {P : DiskM × Int} {L : LaneM} {es : List (Nat × Rec)} {e : Ending} {w' : World} (h : Opened c w X Z Y d P L es e w') (h0 : P.2 = 0) : OpenedOk c w X Z Y d P.1 L es e w' := by
  rcases h with h | h
  · exact h.2
  · rw [h0] at h; cases h.1
theorem newed_ok {c : Col} {w : World} {X Z d : Nat} {P : DiskM × Int} {L : LaneM} {e : Ending} {w' : World} (h : Newed c w X Z d P L e w') (h0 : P.2 = 0) : NewedOk c w X Z d P.1 L e w' := by
  rcases h with h | h
  · exact h.2
  · rw [h0] at h; cases h.1

theorem nilDirt (c : Col) (w : World) (Y : Nat) (r : Rec) (h : r.dirty = []) : Dirt c w Y (.slice none 0 0) r := by
  unfold Dirt
  rw [h]
  exact ⟨none, 0, rfl, Nat.le_refl _, by simp [maxLen], fun j u hj => by simp at hj⟩

theorem Ext.ob {c c' : Col} {w w' : World} {X N : Nat} (h : Ext (Obs [X]) c w c' w') (hX : N ≤ X) : Ext (Big N) c w c' w' := h.mono (fun x e => by simp [Obs] at e; rw [← e] at hX; exact hX)

set_option maxRecDepth 100000 in
set_option maxHeartbeats 2000000 in
theorem fit7_in (c : Col) (w : World) : Calls Try.prog 9 #[] w (SaysT c w) := by
  obtain ⟨N, hfn, hf⟩ := big_col c w 0
  have HF := Lib.hid hf
  clear hf
  -- the disk, the lane, behind each step
  obtain ⟨h1, h2, h3, h4⟩ := new_inv (D := DiskM.new 1 538) (r := 0) rfl rfl (by omega)
  obtain ⟨P1, hP1⟩ : ∃ P, P = newD (DiskM.new 1 538) 0 := ⟨_, rfl⟩
  rw [← hP1] at h1 h2 h3 h4
  obtain ⟨g1, g2⟩ := h2.app endRec end_ok (by decide)
  obtain ⟨L2, hL2⟩ : ∃ L, L = (append (newL 0) endRec).1 := ⟨_, rfl⟩
  have hlaid := g2.crash (mbits 0)
  have hr2 : (append (newL 0) endRec).1.r = 0 := by rw [g1]; rfl
  have hgen : (append (newL 0) endRec).1.gen = 1 := by rw [g1]; rfl
  have hbank : (append (newL 0) endRec).1.bank = 0 := by rw [g1]; rfl
  have hbl : (append (newL 0) endRec).1.b.length = 22 := by rw [g1]; decide
  rw [hr2, hgen, hbank] at hlaid
  have htk : ([checkRec] ++ [endRec]).take 1 = [checkRec] := rfl
  rw [htk] at hlaid
  obtain ⟨D2, hD2⟩ : ∃ D, D = P1.1.crash (mbits 0) := ⟨_, rfl⟩
  rw [← hD2] at hlaid
  have hw2 : D2.waits 0 = [] := by rw [hD2]; rfl
  have ha2 : D2.armed 0 = false := by rw [hD2]; rfl
  have hn2 : D2.n = 1 ∧ D2.size = 538 := by rw [hD2]; exact ⟨h3.n, h3.size⟩
  obtain ⟨rest, pre, o1, o2, o3, o4⟩ := laid_pre hw2 ha2 (rs := [checkRec]) (fun x hx => by rw [List.mem_singleton] at hx; rw [hx]; exact check_ok) (by decide) (Nat.le_refl 1) (by omega) (Nat.zero_le 1) (by omega) hlaid
  obtain ⟨P3, hP3⟩ : ∃ P, P = opn D2 0 1 0 (encs [checkRec]) rest := ⟨_, rfl⟩
  rw [← hP3] at o1 o2 o3
  have hw1 : P1.1.waits 0 = [] := h2.waits
  have hnew := Lib.hid (new_in c w N 1 538 (by omega) (by omega) (by omega) (by omega))
  have HP1 := Lib.hid hP1
  have HD2 := Lib.hid hD2
  have HP3 := Lib.hid hP3
  have HA := Lib.hid (And.intro h1 (And.intro h3.n (And.intro h3.size hw1)))
  have HB := Lib.hid (And.intro g1 hbl)
  have HC := Lib.hid (And.intro hn2 (And.intro hw2 pre))
  have HO := Lib.hid o1
  clear h1 h2 h3 h4 hP1 g1 g2 hL2 hlaid hr2 hgen hbank hbl htk hD2 hw2 ha2 hn2 pre o1 o2 o3 o4 hP3 hw1
  go_enter Try.func9, Try.ntmps9
  go_upto_region 2 with (go_at_call 11; refine (hnew.out).mono ?_; rintro e w1 ⟨c1, d, rfl, hD, hE⟩; have HD := Lib.hid hD; have HE := Lib.hid hE; clear hnew hD hE)
  have hln := lnew_in c1 w1 N (N + 1) d (DiskM.new 1 538) 0 hfn (by omega) HD.out (by show 0 < 1; omega) (by omega) (by show 514 ≤ 538; omega) (by show (0 : Nat) ≤ 800000; omega)
  rw [← HP1.out] at hln
  have HLN := Lib.hid hln
  clear hln
  go_upto_region 3 with (go_at_call 12; refine (HLN.out).mono ?_; intro e w2 hq; obtain ⟨c2, l, rfl, hD, hL, hE⟩ := newed_ok hq (HA.out).1; have HD2' := Lib.hid hD; have HL2 := Lib.hid hL; have HE2 := Lib.hid ((HE.out).none.trans (hE.ob (N := N) (Nat.le_refl _))); clear hq hD hL hE HLN HD HE)
  have happ := append_in c2 w2 d (N + 1) l 0 (newL 0) endRec end_ok (.slice none 0 0) (nilDirt c2 w2 0 endRec rfl) HL2.out
  have HAP := Lib.hid happ
  clear happ
  go_upto_region 6 with (go_at_call 14; refine (HAP.out).mono ?_; rintro e w3 ⟨c3, rfl, hL, hE⟩; rw [(HB.out).1] at hL ⊢; have HD3 := Lib.hid ((HD2'.out).keep hE (fun q h => by simp [Obs] at h)); have HL3 := Lib.hid hL; have HE3 := Lib.hid ((HE2.out).trans (hE.ob (N := N) (by omega))); clear hL hE HAP HD2' HL2 HE2)
  have hcr := crash_in c3 w3 N d P1.1 0 (by omega) HD3.out (fun r hr => by have h1 := (HA.out).2.1; have h2 : (DiskM.new 1 538).n = 1 := rfl; rw [h1, h2] at hr; have hr0 : r = 0 := (by omega); rw [hr0, (HA.out).2.2.2]; exact Nat.zero_le _)
  rw [← HD2.out] at hcr
  have HCR := Lib.hid hcr
  clear hcr
  go_upto_region 7 with (go_at_call 19; refine (HCR.out).mono ?_; rintro e w4 ⟨c4, rfl, hD, hE⟩; have HD4 := Lib.hid hD; have HL4 := Lib.hid ((HL3.out).keep hE (fun q h => by simp [Obs] at h)); have HE4 := Lib.hid ((HE3.out).trans (hE.ob (N := N) (Nat.le_refl _))); clear hD hE HCR HD3 HL3 HE3)
  obtain ⟨⟨n1, n2⟩, n3, pre⟩ := HC.out
  have hop := open_in c4 w4 N (N + 2) (N + 3) d D2 0 1 0 [checkRec] rest hfn (by omega) (by omega) HD4.out (by omega) (by omega) (by omega) (by rw [n3]; exact Nat.zero_le _) (Nat.le_refl 1) (by omega) (Nat.zero_le 1) pre.n4 pre.n1 pre.st pre.ok pre.short pre.len pre.rl
  rw [← HP3.out] at hop
  have HOP := Lib.hid hop
  clear hop n1 n2 n3 pre
  go_upto_region 8 with (go_at_call 20; refine (HOP.out).mono ?_; intro e w5 hq; obtain ⟨c5, l5, v5, rfl, hD, hL, hN, hE⟩ := opened_ok hq HO.out; have HN5 := Lib.hid hN; have HL5 := Lib.hid ((HL4.out).keep hE (fun q h => by simp [Obs] at h)); have HE5 := Lib.hid ((HE4.out).trans (hE.ob (N := N) (Nat.le_refl _))); clear hq hD hL hN hE HOP HD4 HL4 HE4)
  obtain ⟨p5, cap5, rfl, _⟩ := (HN5.out).form
  have hpl : (places 1 0 [checkRec]).length = 1 := rfl
  obtain ⟨g, o, dv, hp5, _, hcl⟩ := (HN5.out).at (k := 0) (r := (placeN 1 0, checkRec)) rfl
  subst hp5
  have m1 : w5.cell? ⟨g, o + 1, none⟩ = some (.int .i64 1) := hcl 1 _ rfl
  have hlen := len_in c5 w5 (N + 1) l d _ HL5.out
  have hb22 := (HB.out).2
  rw [(HB.out).1] at hb22
  rw [show (LaneM.b ⟨(newL 0).r, (newL 0).gen, (newL 0).bank, (newL 0).b ++ encB endRec, (newL 0).sure⟩).length = 22 from hb22] at hlen
  have HLEN := Lib.hid hlen
  rw [hpl]
  clear hpl hcl hlen hb22
  go_wp2_with (go_at_call 23; refine (HLEN.out).mono ?_; rintro e w6 ⟨rfl, rfl⟩)
  go_ret
  exact ⟨rfl, c5, (HE5.out).big HF.out⟩
end Go.Proofs.Ytfeacmlnlljnnaa

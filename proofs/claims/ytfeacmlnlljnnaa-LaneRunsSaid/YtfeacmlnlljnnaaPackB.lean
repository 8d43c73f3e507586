/- Package pack: what Text, and the Reader, come to. -/
import Derived.Test.YtfeacmlnlljnnaaPackA
namespace Go.Proofs.Ytfeacmlnlljnnaa
open Go Go.Proofs Go.RowKit

def textB (s : Bs) : Bs := UInt8.ofNat s.length :: s

set_option maxRecDepth 100000 in
set_option maxHeartbeats 1000000 in
theorem text_in (c : Col) (w : World) (Y : Nat) (v : Value) (bs : Bs) (hv : Rd c w Y v bs) (hb : bs.length ≤ 10000000) (s : ByteArray) (hs : s.size ≤ 10000000) (z : Nat × Nat) :
    Calls Try.prog 43 #[v, .string s] w (MadeB c w z (bs ++ textB s.data.toList)) := by
  obtain ⟨f, _, hf⟩ := fresh_col c w 0
  have HF := Lib.hid hf
  have hp := Lib.hid (put_in c w Y v bs hv (by omega) 1 (by omega) s.size (by omega) f)
  obtain ⟨p, cap, rfl, _⟩ := hv
  clear hf
  go_enter Try.func43, Try.ntmps43
  go_wp2_with (first
    | (go_at_call 44; refine (hp.out).mono ?_; rintro e w' ⟨v', c', rfl, hO, hE⟩)
    | (at_builtin; refine append_bb rfl (.tmp 9) (.tmp 10) 9 rfl c' f v' (bs ++ be 1 s.size) rfl hO _ rfl s.data.toList (str_src' _ s) (by have : s.data.toList.length = s.size := rfl; rw [List.length_append, be_len, this]; omega) ?_; intro v2 w2 c2 hO2 hE2))
  go_ret
  refine ⟨v2, recol c2 f z, rfl, ?_, ((hE.none.trans hE2.own).fresh HF.out).recol HF.out z⟩
  have e : bs ++ textB s.data.toList = bs ++ be 1 s.size ++ s.data.toList := by
    have h1 : be 1 s.size = [UInt8.ofNat s.data.toList.length] := by simp [be] <;> rfl
    rw [h1]; simp [textB]
  rw [e]
  exact hO2.recol z

/-- A reader at block p, of colour z: what is left of its bytes (of object Y), whether it has failed. -/
def ReaderAt (c : Col) (w : World) (p : Nat) (z : Nat × Nat) (Y : Nat) (s : Bs × Bool) : Prop := ∃ v, Blk c w p z [v, .bool s.2] ∧ Rd c w Y v s.1

theorem ReaderAt.keep {M : Nat × Nat → Prop} {c c' : Col} {w w' : World} {p : Nat} {z : Nat × Nat} {Y : Nat} {s : Bs × Bool} (h : ReaderAt c w p z Y s) (g : Ext M c w c' w') (h1 : ¬ M z) (h2 : ∀ q, ¬ M (Y, q)) : ReaderAt c' w' p z Y s := by
  obtain ⟨v, hb, hr⟩ := h
  exact ⟨v, hb.keep g h1, hr.keep g h2⟩

def rTake (n : Int) (s : Bs × Bool) : Bs × Bs × Bool := if s.2 = true ∨ n < 0 ∨ (s.1.length : Int) < n then ([], s.1, true) else (s.1.take n.toNat, s.1.drop n.toNat, false)

def NewR (c : Col) (w : World) (z : Nat × Nat) (Y : Nat) (bs : Bs) (e : Ending) (w' : World) : Prop := ∃ p c', e = .returned (.pointer (some ⟨p, 0, none⟩)) ∧ ReaderAt c' w' p z Y (bs, false) ∧ Ext (Obs []) c w c' w' ∧ w.heap.size ≤ p

theorem newr_in (c : Col) (w : World) (Y : Nat) (v : Value) (bs : Bs) (hv : Rd c w Y v bs) (z : Nat × Nat) :
    Calls Try.prog 51 #[v] w (NewR c w z Y bs) := by
  obtain ⟨p, cap, rfl, _⟩ := id hv
  have HV := Lib.hid hv
  clear hv
  go_enter Try.func51, Try.ntmps51
  go_wp2
  go_ret
  have e := (Ext.refl (Obs []) c w).alloc (.cells [Value.slice p bs.length cap, .bool false].toArray 140) z
  exact ⟨w.heap.size, _, rfl, ⟨_, Blk.new c w _ _ z, (HV.out).keep e (fun q => by simp [Obs])⟩, e, Nat.le_refl _⟩

theorem bad_in (c : Col) (w : World) (p : Nat) (z : Nat × Nat) (Y : Nat) (s : Bs × Bool) (h : ReaderAt c w p z Y s) :
    Calls Try.prog 68 #[.pointer (some ⟨p, 0, none⟩)] w fun e w' => e = .returned (.bool s.2) ∧ w = w' := by
  obtain ⟨v, hb, hr⟩ := h
  have k1 : w.cell? ⟨p, 1, none⟩ = some (.bool s.2) := by rw [hb.cell]; rfl
  clear hb hr
  go_enter Try.func68, Try.ntmps68
  go_wp2
  go_ret
  exact ⟨rfl, rfl⟩

theorem rest_in (c : Col) (w : World) (p : Nat) (z : Nat × Nat) (Y : Nat) (s : Bs × Bool) (h : ReaderAt c w p z Y s) :
    Calls Try.prog 72 #[.pointer (some ⟨p, 0, none⟩)] w fun e w' => e = .returned (.int .i64 (s.1.length : Int)) ∧ w = w' := by
  obtain ⟨v, hb, hr⟩ := h
  obtain ⟨q, cap, rfl, _⟩ := hr
  have k1 : w.cell? ⟨p, 0, none⟩ = some (.slice q s.1.length cap) := by rw [hb.cell]; rfl
  clear hb
  go_enter Try.func72, Try.ntmps72
  go_wp2
  go_ret
  exact ⟨rfl, rfl⟩

/-- Bytes were taken. -/
def TookR (c : Col) (w : World) (p : Nat) (z : Nat × Nat) (Y : Nat) (x : Nat × Nat) (r : Bs × Bs × Bool) (e : Ending) (w' : World) : Prop :=
  ∃ v c', e = .returned v ∧ Own c' w' x v r.1 ∧ ReaderAt c' w' p z Y r.2 ∧ Ext (fun y => y = z) c w c' w'

theorem take_fin {c : Col} {w : World} {p : Nat} {z : Nat × Nat} {Y : Nat} {s : Bs × Bool} (hzY : z.1 ≠ Y) (h : ReaderAt c w p z Y s) (x : Nat × Nat) :
    TookR c w p z Y x ([], s.1, true) (.returned (.slice none 0 0)) (w.setCell ⟨p, 1, none⟩ (.bool true)) := by
  obtain ⟨v, hb, hr⟩ := h
  have e : Ext (fun y => y = z) c w c (w.setCell ⟨p, 1, none⟩ (.bool true)) := (Ext.refl _ _ _).setCell hb.col _
  exact ⟨_, c, rfl, Own.nil _ _ _, ⟨v, hb.set 1 _, hr.keep e (fun q e => hzY (by rw [← e]))⟩, e⟩

theorem take_done {c : Col} {w : World} {p : Nat} {z : Nat × Nat} {Y : Nat} (hzY : z.1 ≠ Y) {f : Nat × Nat} (hfn : Y + z.1 < f.1) (hf : ∀ k, k < w.heap.size → c k ≠ f) {x : Nat × Nat} {ov nv : Value} {b : Bool} {bs rest : Bs} {v' : Value} {w' : World} {c' : Col}
    (hB : Blk c w p z [ov, .bool b]) (hown : Own c' w' f v' bs) (hext : Ext (own (.slice none 0 0) f) c w c' w') (hR : Rd c w Y nv rest) :
    TookR c w p z Y x (bs, rest, b) (.returned v') (w'.setCell ⟨p, 0, none⟩ nv) := by
  have hext := hext.own
  have hB' := hB.keep hext (fun e => by have e' : z = f := e; rw [← e'] at hfn; omega)
  have hR' := Rd.keep hR hext (fun q e => by have e' : (Y, q) = f := e; rw [← e'] at hfn; simp at hfn; omega)
  have hzf : z ≠ f := by intro e; rw [e] at hfn; omega
  have e1 : Ext (fun y => y = f ∨ y = z) c w c' (w'.setCell ⟨p, 0, none⟩ nv) := (hext.mono (fun x h => .inl h)).setCell (by rw [hB'.col]; exact .inr rfl) _
  have e2 : Ext (fun y => y = z) c w c' (w'.setCell ⟨p, 0, none⟩ nv) :=
    ⟨e1.os, e1.tape, e1.output, e1.size, e1.col, fun k hk hn => e1.block k hk (by rintro (h | h); exact hf k hk h; exact hn h)⟩
  have hst : Ext (fun y => y = z) c' w' c' (w'.setCell ⟨p, 0, none⟩ nv) := (Ext.refl _ _ _).setCell hB'.col _
  refine ⟨v', recol c' f x, rfl, ?_, ⟨nv, ?_, ?_⟩, e2.recol hf x⟩
  · exact (hown.keep hst (fun e => hzf e.symm)).recol x
  · exact (hB'.set 0 nv).recol_ne hzf x
  · exact Rs.recol (hR'.keep hst (fun q e => by have e' : (Y, q) = z := e; exact hzY (by rw [← e']))) f x (by omega)

set_option maxRecDepth 100000 in
set_option maxHeartbeats 1000000 in
theorem take_in (c : Col) (w : World) (p : Nat) (z : Nat × Nat) (Y : Nat) (hzY : z.1 ≠ Y) (s : Bs × Bool) (h : ReaderAt c w p z Y s) (n : Int) (hl : s.1.length ≤ 10000000) (x : Nat × Nat) :
    Calls Try.prog 67 #[.pointer (some ⟨p, 0, none⟩), .int .i64 n] w (TookR c w p z Y x (rTake n s)) := by
  have hb := Lib.hid (bad_in c w p z Y s h)
  have H := Lib.hid h
  obtain ⟨v, hB, hR⟩ := h
  have k0 : w.cell? ⟨p, 0, none⟩ = some v := by rw [hB.cell]; rfl
  have k1 : w.cell? ⟨p, 1, none⟩ = some (.bool s.2) := by rw [hB.cell]; rfl
  have f0 := hB.free 0
  have f1 := hB.free 1
  obtain ⟨q, cap, rfl, hcap, hcm, hcells⟩ := id hR
  have HB := Lib.hid hB
  have HR := Lib.hid hR
  have HC := Lib.hid hcells
  obtain ⟨rem, bad⟩ := s
  simp only at *
  clear hB hR hcells
  unfold maxLen at hcm
  cases bad with
  | true =>
    have e : rTake n (rem, true) = ([], rem, true) := by simp [rTake]
    have HE := Lib.hid e
    clear e
    go_enter Try.func67, Try.ntmps67
    go_wp2_with (go_at_call 68; refine (hb.out).mono ?_; rintro e w' ⟨rfl, rfl⟩)
    go_ret
    rw [HE.out]
    exact take_fin hzY H.out x
  | false =>
    by_cases hn0 : n < 0
    · have e : rTake n (rem, false) = ([], rem, true) := by simp [rTake, hn0]
      have HE := Lib.hid e
      clear e
      go_enter Try.func67, Try.ntmps67
      go_wp2_with (go_at_call 68; refine (hb.out).mono ?_; rintro e w' ⟨rfl, rfl⟩)
      go_ret
      rw [HE.out]
      exact take_fin hzY H.out x
    · by_cases hnl : (rem.length : Int) < n
      · have e : rTake n (rem, false) = ([], rem, true) := by simp [rTake, hnl]
        have HE := Lib.hid e
        clear e
        go_enter Try.func67, Try.ntmps67
        go_wp2_with (go_at_call 68; refine (hb.out).mono ?_; rintro e w' ⟨rfl, rfl⟩)
        go_ret
        rw [HE.out]
        exact take_fin hzY H.out x
      · obtain ⟨m, rfl⟩ := Int.eq_ofNat_of_zero_le (show 0 ≤ n by omega)
        have hml : m ≤ rem.length := by omega
        have e : rTake (m : Int) (rem, false) = (rem.take m, rem.drop m, false) := by
          simp only [rTake]
          rw [if_neg (by simp; omega), Int.toNat_natCast]
        have HE := Lib.hid e
        clear e hn0 hnl
        have hRt := Lib.hid ((HR.out).take m hml)
        have HS := Lib.hid ((HR.out).take m hml).src
        obtain ⟨f, hfn, hf⟩ := fresh_col c w (Y + z.1)
        have HFN := Lib.hid hfn
        clear hfn
        have HZ := Lib.hid hf
        have HL := Lib.hid (HB.out).lt
        clear hf
        rcases Nat.eq_zero_or_pos m with hm0 | hm0
        · subst hm0
          go_enter Try.func67, Try.ntmps67
          go_wp2_with (first
            | (go_at_call 68; refine (hb.out).mono ?_; rintro e w' ⟨rfl, rfl⟩)
            | (at_builtin; go_must (refine append_bb rfl _ (.tmp 31) 44 rfl c f (.slice none 0 0) [] rfl (Own.nil _ _ _) _ rfl (rem.take 0) HS.out (by simp <;> omega) ?_); intro v' w' c' hown hext; have hB' := (HB.out).keep hext (by rintro ⟨e, _⟩; exact (HZ.out p HL.out) (by rw [← e]; exact (HB.out).col)); have j0 : w'.cell? ⟨p, 0, none⟩ = some (.slice q rem.length cap) := by rw [hB'.cell]; rfl
               have j1 := hB'.free 0; have hB' := Lib.hid hB'))
          go_ret
          rw [HE.out]
          exact take_done hzY HFN.out HZ.out HB.out hown hext (by rw [List.drop_zero]; exact HR.out)
        · obtain ⟨g, o, rfl, _, _⟩ := (HR.out).addr (by omega)
          by_cases hmc : cap = m
          · have hrl : rem.length = m := by omega
            have HRL := Lib.hid hrl
            have hdr : Rd c w Y (.slice (some ⟨g, o, none⟩) 0 0) (rem.drop m) := by rw [List.drop_eq_nil_of_le (by omega)]; exact Rd.empty _ _ _ _
            have HDR := Lib.hid hdr
            clear hdr
            subst hmc
            rw [HRL.out] at k0
            clear hrl
            go_enter Try.func67, Try.ntmps67
            go_wp2_with (first
              | (go_at_call 68; refine (hb.out).mono ?_; rintro e w' ⟨rfl, rfl⟩)
              | (at_builtin; go_must (refine append_bb rfl _ (.tmp 31) 44 rfl c f (.slice none 0 0) [] rfl (Own.nil _ _ _) _ rfl (rem.take cap) HS.out (by simp <;> omega) ?_); intro v' w' c' hown hext; have hB' := (HB.out).keep hext (by rintro ⟨e, _⟩; exact (HZ.out p HL.out) (by rw [← e]; exact (HB.out).col)); have j0 : w'.cell? ⟨p, 0, none⟩ = some (.slice (some ⟨g, o, none⟩) rem.length cap) := by rw [hB'.cell]; rfl
                 have j1 := hB'.free 0; have hB' := Lib.hid hB'))
            go_ret
            rw [HE.out]
            exact take_done hzY HFN.out HZ.out HB.out hown hext HDR.out
          · have hdr := (HR.out).drop m hml
            have HDR := Lib.hid hdr
            have hmc' : m < cap := by omega
            have hmc2 : ¬ cap = m := hmc
            clear hdr hmc
            go_enter Try.func67, Try.ntmps67
            go_wp2_with (first
              | (go_at_call 68; refine (hb.out).mono ?_; rintro e w' ⟨rfl, rfl⟩)
              | (at_builtin; go_must (refine append_bb rfl _ (.tmp 31) 44 rfl c f (.slice none 0 0) [] rfl (Own.nil _ _ _) _ rfl (rem.take m) HS.out (by simp <;> omega) ?_); intro v' w' c' hown hext; have hB' := (HB.out).keep hext (by rintro ⟨e, _⟩; exact (HZ.out p HL.out) (by rw [← e]; exact (HB.out).col)); have j0 : w'.cell? ⟨p, 0, none⟩ = some (.slice (some ⟨g, o, none⟩) rem.length cap) := by rw [hB'.cell]; rfl
                 have j1 := hB'.free 0; have hB' := Lib.hid hB'))
            go_ret
            rw [HE.out]
            exact take_done hzY HFN.out HZ.out HB.out hown hext HDR.out
end Go.Proofs.Ytfeacmlnlljnnaa

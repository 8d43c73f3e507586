/- Package lane: what New comes to. -/
import Derived.Test.YtfeacmlnlljnnaaLaneI
namespace Go.Proofs.Ytfeacmlnlljnnaa
open Go Go.Proofs Go.RowKit

def checkRec : Rec := ⟨1, 0, 0, 0, ⟨#[]⟩, ⟨#[]⟩, ⟨#[]⟩, []⟩
theorem check_ok : checkRec.Ok := ⟨by decide, by decide, by decide, by decide, by decide, .inl rfl, .inl rfl, .inl rfl, .inl rfl, fun d h => by simp [checkRec] at h⟩
theorem check_len : (encB checkRec).length = 11 := by decide

/-- The lane that New lays. -/
def newL (r : Nat) : LaneM := anewL ⟨r, 0, 1, [], 0⟩ (encs [checkRec])
def newD (D : DiskM) (r : Nat) : DiskM × Int := anewD D r 1 0 (encs [checkRec])

def NewedOk (c : Col) (w : World) (X Z d : Nat) (D : DiskM) (L : LaneM) (e : Ending) (w' : World) : Prop :=
  ∃ c' l, e = .returned (.tuple #[.pointer (some ⟨l, 0, none⟩), .int .i64 0]) ∧ DiskRep c' w' X d D ∧ LaneRep c' w' Z l d L ∧ Ext (Obs [X]) c w c' w'
def NewedNo (c : Col) (w : World) (X d : Nat) (D : DiskM) (e : Ending) (w' : World) : Prop :=
  ∃ c', e = .returned (.tuple #[.pointer none, .int .i64 10]) ∧ DiskRep c' w' X d D ∧ Ext (Obs [X]) c w c' w'
def Newed (c : Col) (w : World) (X Z d : Nat) (P : DiskM × Int) (L : LaneM) (e : Ending) (w' : World) : Prop :=
  (P.2 = 0 ∧ NewedOk c w X Z d P.1 L e w') ∨ (P.2 = 10 ∧ NewedNo c w X d P.1 e w')

theorem Ext.two {c c' : Col} {w w' : World} {X N : Nat} (h : Ext (Obs [X, N]) c w c' w') : Ext (BigX X N) c w c' w' := h.mono (fun x e => by simp [Obs] at e; rcases e with e | e; exact .inl e; exact .inr (by omega))

set_option maxRecDepth 100000 in
set_option maxHeartbeats 2000000 in
theorem lnew_in (c : Col) (w : World) (X Z d : Nat) (D : DiskM) (r : Nat) (hX : 1 ≤ X) (hZ : Z ≠ X) (hD : DiskRep c w X d D) (hr : r < D.n) (hr64 : r < 64) (hsz : 514 ≤ D.size) (hw9 : (D.waits r).length ≤ 800000) :
    Calls Try.prog 12 #[.pointer (some ⟨d, 0, none⟩), .int .i64 (r : Int)] w (Newed c w X Z d (newD D r) (newL r)) := by
  obtain ⟨N, hfn, hf⟩ := big_col c w (X + Z)
  have HF := Lib.hid hf
  have HD := Lib.hid hD
  obtain ⟨P, hP⟩ : ∃ P, P = newD D r := ⟨_, rfl⟩
  rw [← hP]
  have HP := Lib.hid hP
  clear hf hD hP
  go_enter Try.func12, Try.ntmps12
  go_upto_region 2 with fail
  have b0 := Blk.newA c w #[.pointer (some ⟨d, 0, none⟩), .int .i64 (r : Int), .int .u64 0, .int .i64 1, .slice none 0 0, .int .i64 0] 97 (N, 0)
  have e0 := (Ext.refl (Obs []) c w).alloc (.cells #[.pointer (some ⟨d, 0, none⟩), .int .i64 (r : Int), .int .u64 0, .int .i64 1, .slice none 0 0, .int .i64 0] 97) (N, 0)
  have d0 := (HD.out).keep e0 (fun q h => by simp [Obs] at h)
  generalize setc c w.heap.size (N, 0) = c1 at b0 e0 d0
  generalize w.alloc (.cells #[.pointer (some ⟨d, 0, none⟩), .int .i64 (r : Int), .int .u64 0, .int .i64 1, .slice none 0 0, .int .i64 0] 97) = w1 at b0 e0 d0 ⊢
  generalize w.heap.size = l at b0 ⊢
  have l0 : LaneRep c1 w1 N l d ⟨r, 0, 1, [], 0⟩ := ⟨.slice none 0 0, b0, Own.nil _ _ _, ⟨hr64, by show (0 : Nat) < 4294967296; omega, Nat.le_refl _, Nat.zero_le _, Nat.le_refl _⟩⟩
  have b1 := Blk.new c1 w1 (recCells checkRec (.slice none 0 0)) 33 (0, 2)
  have e1 := (Ext.refl (Obs []) c1 w1).alloc (.cells (recCells checkRec (.slice none 0 0)).toArray 33) (0, 2)
  have hrecs : Recs (setc c1 w1.heap.size (0, 2)) (w1.alloc (.cells (recCells checkRec (.slice none 0 0)).toArray 33)) 0 (.slice (some ⟨w1.heap.size, 0, none⟩) 1 1) [checkRec] :=
    ⟨[(checkRec, .slice none 0 0)], rfl, ⟨_, 1, rfl, Nat.le_refl _, by simp [maxLen], fun j u hj => ⟨w1.heap.size, 0, rfl, b1.lt, by rw [b1.col], by rw [Nat.zero_add]; exact (b1.cell j).trans (by simpa using hj)⟩⟩, fun p hp => by
      rw [List.mem_singleton] at hp; rw [hp]
      exact ⟨none, 0, rfl, Nat.le_refl _, by simp [maxLen], fun j u hj => by simp [checkRec] at hj⟩⟩
  have h9 := anew_in _ _ X d N l 0 D _ _ _ hX (by omega) (by omega) (by omega) (d0.keep e1 (fun q h => by simp [Obs] at h)) (l0.keep e1 (fun q h => by simp [Obs] at h)) hrecs (fun x hx => by rw [List.mem_singleton] at hx; rw [hx]; exact check_ok) (by decide) hr hsz hw9 (by show (0 : Nat) + 1 < 4294967296; omega)
  have hq : anewD D (LaneM.r ⟨r, 0, 1, [], 0⟩) (LaneM.gen ⟨r, 0, 1, [], 0⟩ + 1) (1 - LaneM.bank ⟨r, 0, 1, [], 0⟩) (encs [checkRec]) = P := HP.out.symm
  have hx := e0.trans e1
  rw [hq] at h9
  generalize setc c1 w1.heap.size (0, 2) = c2 at h9 hx
  have h2 : P.2 = 0 ∨ P.2 = 10 := by rw [HP.out]; exact anewD_two _ _ _ _ _
  have H9 := Lib.hid h9
  have HX := Lib.hid hx
  clear b0 e0 d0 l0 b1 e1 hrecs h9 hx hq
  rcases h2 with hk | hk
  · rw [hk] at H9
    have HK := Lib.hid hk
    clear hk
    go_wp2_with (go_at_call 18; refine (H9.out).mono ?_; rintro e w2 ⟨c3, rfl, hR, hL, hE⟩; have HR := Lib.hid hR; have HL := Lib.hid hL; have HE := Lib.hid hE; clear hR hL hE)
    go_ret2
    refine .inl ⟨HK.out, reob c3 N Z, l, rfl, (HR.out).reob (by omega) Z, ?_, ?_⟩
    · have := (HL.out).reob Z
      exact this
    · exact Ext.reob (((HX.out).none.trans (HE.out).two).bigX HF.out) (fun k hk e => HF.out k hk (by omega)) Z
  · rw [hk] at H9
    have HK := Lib.hid hk
    clear hk
    go_wp2_with (go_at_call 18; refine (H9.out).mono ?_; rintro e w2 ⟨c3, rfl, hR, hL, hE⟩; have HR := Lib.hid hR; have HL := Lib.hid hL; have HE := Lib.hid hE; clear hR hL hE)
    go_ret2
    exact .inr ⟨HK.out, c3, rfl, HR.out, (((HX.out).none.trans (HE.out).two).bigX HF.out)⟩
end Go.Proofs.Ytfeacmlnlljnnaa

/- Package lane: what stream comes to. -/
import Derived.Test.YtfeacmlnlljnnaaLaneE
namespace Go.Proofs.Ytfeacmlnlljnnaa
open Go Go.Proofs Go.RowKit

/-- Of a sector: its generation; how many bytes it says it has; these. -/
def sGen (x : Bs) : Nat := val (x.take 4)
def sLen (x : Bs) : Nat := min (val ((x.drop 4).take 1)) 56
def sPart (x : Bs) : Bs := (x.drop 8).take (sLen x)
/-- The bytes of the first n sectors; whether it stopped. -/
def streamN (rd : Nat → Bs) (gen : Nat) : Nat → Bs × Bool
  | 0 => ([], false)
  | n + 1 => if (streamN rd gen n).2 = true then streamN rd gen n
    else if sGen (rd n) = gen then ((streamN rd gen n).1 ++ sPart (rd n), decide (sLen (rd n) < 56)) else ((streamN rd gen n).1, true)
def stream (rd : Nat → Bs) (gen : Nat) : Bs := (streamN rd gen 256).1

theorem streamN_stop (rd : Nat → Bs) (gen j n : Nat) (hj : j ≤ n) (h : (streamN rd gen j).2 = true) : streamN rd gen n = streamN rd gen j := by
  induction n with
  | zero => obtain rfl : j = 0 := by omega
            rfl
  | succ n ih =>
    by_cases e : j = n + 1
    · rw [e]
    · have := ih (by omega)
      rw [← this] at h
      rw [streamN, if_pos h, this]

theorem sPart_len (x : Bs) : (sPart x).length ≤ 56 := by
  unfold sPart sLen; rw [List.length_take]; omega
theorem streamN_len (rd : Nat → Bs) (gen n : Nat) : (streamN rd gen n).1.length ≤ n * 56 := by
  induction n with
  | zero => simp [streamN]
  | succ n ih =>
    unfold streamN
    split
    · omega
    · split
      · have := sPart_len (rd n)
        rw [List.length_append]; omega
      · show (streamN rd gen n).1.length ≤ _
        omega

theorem sec_nums (x : Bs) (h : x.length = 64) : rNum 4 (x, false) = (sGen x, x.drop 4, false) ∧ rNum 1 (x.drop 4, false) = (val ((x.drop 4).take 1), x.drop 5, false) := by
  constructor
  · have := rNum_app (x.take 4) (x.drop 4) 4 (by rw [List.length_take]; omega)
    rw [List.take_append_drop] at this
    exact this
  · have := rNum_app ((x.drop 4).take 1) ((x.drop 4).drop 1) 1 (by rw [List.length_take, List.length_drop]; omega)
    rw [List.take_append_drop, List.drop_drop] at this
    exact this

/-- New bytes, and OK. -/
def GotS (c : Col) (w : World) (x : Nat × Nat) (bs : Bs) (e : Ending) (w' : World) : Prop := ∃ v c', e = .returned (.tuple #[v, .int .i64 0]) ∧ Own c' w' x v bs ∧ Ext (Obs []) c w c' w'

structure StrAt (c : Col) (w : World) (X d Z l : Nat) (N : Nat) (D : DiskM) (L : LaneM) (bs : Bs) (v : Value) (c' : Col) (wx : World) : Prop where
  disk : DiskRep c' wx X d D
  lane : LaneRep c' wx Z l d L
  own : Own c' wx (N, 0) v bs
  ext : Ext (Big N) c w c' wx

theorem StrAt.quiet {c : Col} {w : World} {X d Z l : Nat} {N : Nat} {D : DiskM} {L : LaneM} {bs : Bs} {v : Value} {c' c2 : Col} {wx w2 : World} (h : StrAt c w X d Z l N D L bs v c' wx) (g : Ext (Obs []) c' wx c2 w2) : StrAt c w X d Z l N D L bs v c2 w2 :=
  ⟨h.disk.keep g (fun q h => by simp [Obs] at h), h.lane.keep g (fun q h => by simp [Obs] at h), h.own.keep g (fun h => by simp [Obs] at h), h.ext.trans g.none⟩
theorem StrAt.read {c : Col} {w : World} {X d Z l : Nat} {N : Nat} {D : DiskM} {L : LaneM} {bs : Bs} {v : Value} {c' c2 : Col} {wx w2 : World} (h : StrAt c w X d Z l N D L bs v c' wx) (hN : X + Z < N) (g : Ext (fun y => y = (N + 1, 0)) c' wx c2 w2) : StrAt c w X d Z l N D L bs v c2 w2 :=
  ⟨h.disk.keep g (fun q h => by simp at h; omega), h.lane.keep g (fun q h => by simp at h; omega), h.own.keep g (by simp), h.ext.trans (g.one (by simp))⟩
end Go.Proofs.Ytfeacmlnlljnnaa

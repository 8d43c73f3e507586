/- Package record: what the Reader reads of what Put and Text wrote. -/
import Derived.Test.YtfeacmlnlljnnaaRecB
import Derived.Test.YtfeacmlnlljnnaaRes
namespace Go.Proofs.Ytfeacmlnlljnnaa
open Go Go.Proofs Go.RowKit

theorem val_foldl (bs : Bs) : ∀ x : Nat, bs.foldl (fun x b => x * 256 + b.toNat) x = x * 256 ^ bs.length + val bs := by
  induction bs with
  | nil => intro x; simp [val]
  | cons b bs ih =>
    intro x
    have e1 : val (b :: bs) = b.toNat * 256 ^ bs.length + val bs := by
      unfold val
      rw [List.foldl_cons, ih]
      simp [val]
    rw [List.foldl_cons, ih, e1, List.length_cons, Nat.pow_succ, Nat.add_mul, Nat.mul_assoc, Nat.mul_comm 256, Nat.add_assoc]
theorem val_cons (b : UInt8) (bs : Bs) : val (b :: bs) = b.toNat * 256 ^ bs.length + val bs := by
  show List.foldl (fun x b => x * 256 + b.toNat) 0 (b :: bs) = _
  rw [List.foldl_cons, val_foldl]; simp
theorem val_be (n : Nat) : ∀ x : Nat, val (be n x) = x % 256 ^ n := by
  induction n with
  | zero => intro x; simp [be, val, Nat.mod_one]
  | succ n ih =>
    intro x
    rw [be, val_cons, ih, be_len]
    have h : (UInt8.ofNat (x / 256 ^ n)).toNat = x / 256 ^ n % 256 := by simp
    rw [h, Nat.pow_succ, Nat.mod_mul, Nat.mul_comm, Nat.add_comm]
theorem rTake_app (a rest : Bs) (n : Nat) (h : a.length = n) : rTake (n : Int) (a ++ rest, false) = (a, rest, false) := by
  subst h
  unfold rTake
  rw [if_neg (by simp <;> omega)]
  simp
theorem rNum_app (a rest : Bs) (n : Nat) (h : a.length = n) : rNum n (a ++ rest, false) = (val a, rest, false) := by
  unfold rNum; rw [rTake_app a rest n h]
theorem rNum_be (n x : Nat) (h : x < 256 ^ n) (rest : Bs) : rNum n (be n x ++ rest, false) = (x, rest, false) := by
  rw [rNum_app _ _ n (be_len n x), val_be, Nat.mod_eq_of_lt h]
theorem rNum_byte (x : Nat) (h : x < 256) (rest : Bs) : rNum 1 (UInt8.ofNat x :: rest, false) = (x, rest, false) := by
  have := rNum_be 1 x (by simpa using h) rest
  simpa [be] using this
theorem rText_app (s rest : Bs) (h : s.length < 256) : rText (textB s ++ rest, false) = (s, rest, false) := by
  unfold rText
  have e : rNum 1 (textB s ++ rest, false) = (s.length, s ++ rest, false) := by
    have := rNum_byte s.length h (s ++ rest)
    simpa [textB] using this
  rw [e]
  exact rTake_app s rest _ rfl

theorem big_col (c : Col) (w : World) (N0 : Nat) : ∃ N : Nat, N0 < N ∧ ∀ k, k < w.heap.size → ¬ N ≤ (c k).1 := by
  have : ∀ n : Nat, ∃ m : Nat, ∀ k, k < n → (c k).1 < m := by
    intro n
    induction n with
    | zero => exact ⟨0, fun k hk => by omega⟩
    | succ n ih =>
      obtain ⟨m, hm⟩ := ih
      refine ⟨m + (c n).1 + 1, fun k hk => ?_⟩
      by_cases h : k = n
      · subst h; omega
      · have := hm k (by omega); omega
  obtain ⟨m, hm⟩ := this w.heap.size
  exact ⟨m + N0 + 1, by omega, fun k hk => by have := hm k hk; omega⟩

def Big (N : Nat) (y : Nat × Nat) : Prop := N ≤ y.1
theorem Ext.big {c c' : Col} {w w' : World} {N : Nat} (h : Ext (Big N) c w c' w') (hf : ∀ k, k < w.heap.size → ¬ N ≤ (c k).1) : Ext (Obs []) c w c' w' :=
  ⟨h.os, h.tape, h.output, h.size, h.col, fun k hk _ => h.block k hk (hf k hk)⟩
theorem Ext.one {c c' : Col} {w w' : World} {N : Nat} {f : Nat × Nat} (h : Ext (fun y => y = f) c w c' w') (hf : N ≤ f.1) : Ext (Big N) c w c' w' := h.mono (fun x e => by subst e; exact hf)
end Go.Proofs.Ytfeacmlnlljnnaa

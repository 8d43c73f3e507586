/- Package pack: what Put and Text come to. -/
import Derived.Test.YtfeacmlnlljnnaaBytes
import Derived.Test.YtfeacmlnlljnnaaSeq
import Derived.Test.YtfeacmlnlljnnaaBits
namespace Go.Proofs.Ytfeacmlnlljnnaa
open Go Go.Proofs Go.RowKit

/-- A number in n bytes, the highest first. -/
def be : Nat → Nat → Bs
  | 0, _ => []
  | n + 1, x => UInt8.ofNat (x / 256 ^ n) :: be n x
theorem be_len (n x : Nat) : (be n x).length = n := by induction n with | zero => rfl | succ n ih => simp [be, ih]
theorem be_get (n x j : Nat) (h : j < n) : (be n x)[j]? = some (UInt8.ofNat (x / 256 ^ (n - 1 - j))) := by
  induction n generalizing j with
  | zero => omega
  | succ n ih =>
    cases j with
    | zero => simp [be]
    | succ j =>
      simp only [be, List.getElem?_cons_succ]
      rw [ih j (by omega)]
      congr 4
      omega
theorem be_take_succ (n x j : Nat) (h : j < n) : (be n x).take (j + 1) = (be n x).take j ++ [UInt8.ofNat (x / 256 ^ (n - 1 - j))] := by
  rw [List.take_add_one, be_get n x j h]; rfl

/-- New bytes; nothing else has changed. -/
def MadeB (c : Col) (w : World) (x : Nat × Nat) (bs : Bs) (e : Ending) (w' : World) : Prop := ∃ v c', e = .returned v ∧ Own c' w' x v bs ∧ Ext (Obs []) c w c' w'

theorem byte_of (x : Nat) : B (UInt8.ofNat x) = .int .u8 ((x % 256 : Nat) : Int) := by simp [B]

theorem byte_shift (x k : Nat) : Value.int IntKind.u8 ((x : Int) / 2 ^ (8 * k) % 256) = B (UInt8.ofNat (x / 256 ^ k)) := by
  rw [byte_of, show (256 : Nat) ^ k = 2 ^ (8 * k) from by rw [Nat.pow_mul]]
  simp

set_option maxRecDepth 100000 in
set_option maxHeartbeats 1000000 in
theorem put_in (c : Col) (w : World) (Y : Nat) (v : Value) (bs : Bs) (hv : Rd c w Y v bs) (hb : bs.length ≤ 100000000) (n : Nat) (hn : n ≤ 8) (x : Nat) (hx : x < 18446744073709551616) (z : Nat × Nat) :
    Calls Try.prog 44 #[v, .int .i64 (n : Int), .int .u64 (x : Int)] w (MadeB c w z (bs ++ be n x)) := by
  obtain ⟨f, _, hf⟩ := fresh_col c w 0
  have HX := Lib.hid hx
  have HF := Lib.hid hf
  have hS := Lib.hid hv.src
  obtain ⟨p, cap, rfl, _⟩ := hv
  clear hx hf
  go_enter Try.func44, Try.ntmps44
  go_wp2_with (at_builtin; refine append_bb rfl _ _ 44 rfl c f (.slice none 0 0) [] rfl (Own.nil _ _ _) _ rfl bs hS.out (by simp; omega) ?_; intro v' w' c' hown hext)
  go_loopw [7, 8] (fun out k wr => ∃ j : Nat, j ≤ n ∧ k = .int .i64 ((n : Int) - 1 - j) ∧ Hid (∃ c1, Own c1 wr f out (bs ++ (be n x).take j) ∧ Ext (fun y => y = f) c w c1 wr)) (fun _ k _ => (intOf k + 1).toNat)
  case atStart => exact ⟨0, Nat.zero_le _, by simp, c', by simpa using hown, hext.own⟩
  case round =>
    obtain ⟨j, hj, rfl, hrel⟩ := hrel
    obtain ⟨c1, hO, hE⟩ := hrel.out
    clear hrel hown hext
    obtain ⟨cur, hcur⟩ : ∃ cur, cur = bs ++ (be n x).take j := ⟨_, rfl⟩
    rw [← hcur] at hO
    have hcl : cur.length ≤ 100000008 := by rw [hcur, List.length_append, List.length_take]; omega
    have HC := Lib.hid hcur
    obtain ⟨p1, cap1, rfl⟩ := hO.form
    have HO := Lib.hid hO
    have HE := Lib.hid hE
    clear hO hE hcur
    by_cases hlt : j < n
    · obtain ⟨k, hk⟩ : ∃ k : Nat, k = n - 1 - j := ⟨_, rfl⟩
      have hk1 : ((n : Int) - 1 - j) = (k : Int) := by omega
      rw [hk1]
      have HK := Lib.hid hk
      have hk7 : k ≤ 7 := by omega
      clear hk hk1
      go_wp2_with (at_builtin; (refine append_byte rfl (.tmp 17) (.tmp 23) rfl (setc c1 wr.heap.size (0, 0)) f _ cur rfl (HO.out.alloc _ _) (UInt8.ofNat (x / 256 ^ k)) _ rfl (by rw [World.cell?_alloc_new]; exact congrArg some (byte_shift x k)) (by omega) ?_); intro v' w' c' hown hext)
      refine ⟨⟨j + 1, hlt, by congr 1; have := HK.out; omega, c', ?_, ((HE.out).alloc _ (0, 0)).trans hext.own⟩, by simp [intOf] <;> omega⟩
      rw [be_take_succ n x j hlt, ← HK.out, ← List.append_assoc, ← HC.out]
      exact hown
    · obtain rfl : j = n := by omega
      have hk1 : ((j : Int) - 1 - j) = -1 := by omega
      rw [hk1]
      go_wp2_with fail
      go_ret
      refine ⟨_, recol c1 f z, rfl, ?_, ((HE.out).fresh HF.out).recol HF.out z⟩
      have h := HO.out
      rw [HC.out, List.take_of_length_le (by rw [be_len]; exact Nat.le_refl _)] at h
      have e : cur = bs ++ be j x := by rw [HC.out, List.take_of_length_le (by rw [be_len]; exact Nat.le_refl _)]
      rw [e]
      exact h.recol z
end Go.Proofs.Ytfeacmlnlljnnaa

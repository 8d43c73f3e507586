/- Package pack: what the Reader's Num and Text come to. -/
import Derived.Test.YtfeacmlnlljnnaaPackB
namespace Go.Proofs.Ytfeacmlnlljnnaa
open Go Go.Proofs Go.RowKit

def val (bs : Bs) : Nat := bs.foldl (fun x b => x * 256 + b.toNat) 0
theorem val_snoc (bs : Bs) (b : UInt8) : val (bs ++ [b]) = val bs * 256 + b.toNat := by simp [val]
theorem val_aux (bs : Bs) : ∀ x : Nat, bs.foldl (fun x b => x * 256 + b.toNat) x < (x + 1) * 256 ^ bs.length := by
  induction bs with
  | nil => intro x; simp
  | cons b bs ih =>
    intro x
    simp only [List.foldl_cons, List.length_cons]
    refine Nat.lt_of_lt_of_le (ih _) ?_
    have := b.toNat_lt
    rw [Nat.pow_succ, Nat.mul_comm (256 ^ bs.length) 256, ← Nat.mul_assoc]
    exact Nat.mul_le_mul_right _ (by omega)
theorem val_lt (bs : Bs) : val bs < 256 ^ bs.length := by
  have := val_aux bs 0
  simpa [val] using this

def rNum (n : Nat) (s : Bs × Bool) : Nat × Bs × Bool := (val (rTake n s).1, (rTake n s).2)
theorem rTake_len (n : Int) (s : Bs × Bool) : (rTake n s).1.length ≤ n.toNat := by
  unfold rTake; split <;> simp <;> omega

def NumR (c : Col) (w : World) (p : Nat) (z : Nat × Nat) (Y : Nat) (r : Nat × Bs × Bool) (e : Ending) (w' : World) : Prop :=
  ∃ c', e = .returned (.int .u64 (r.1 : Int)) ∧ ReaderAt c' w' p z Y r.2 ∧ Ext (fun y => y = z) c w c' w'

set_option maxRecDepth 100000 in
set_option maxHeartbeats 1000000 in
theorem num_in (c : Col) (w : World) (p : Nat) (z : Nat × Nat) (Y : Nat) (hzY : z.1 ≠ Y) (s : Bs × Bool) (h : ReaderAt c w p z Y s) (n : Nat) (h1 : 1 ≤ n) (h8 : n ≤ 8) (hl : s.1.length ≤ 10000000) :
    Calls Try.prog 52 #[.pointer (some ⟨p, 0, none⟩), .int .i64 (n : Int)] w (NumR c w p z Y (rNum n s)) := by
  have ht := Lib.hid (take_in c w p z Y hzY s h (n : Int) hl (0, 0))
  obtain ⟨tk, htk⟩ : ∃ tk, tk = (rTake n s).1 := ⟨_, rfl⟩
  have htl : tk.length ≤ n := by rw [htk]; simpa using rTake_len n s
  have HT := Lib.hid htk
  clear h htk
  go_enter Try.func52, Try.ntmps52
  go_wp2_with (go_at_call 67; refine (ht.out).mono ?_; rintro e w' ⟨v', c', rfl, hO, hR, hE⟩; rw [← HT.out] at hO; obtain ⟨q, cap, rfl⟩ := hO.form; have HR := Lib.hid hR; have HE := Lib.hid hE; have HO := Lib.hid hO; clear hR hE hO)
  go_loop [18, 5] (fun i x => ∃ j : Nat, j ≤ tk.length ∧ i = .int .i64 (j : Int) ∧ x = .int .u64 (val (tk.take j) : Int)) (fun i _ => tk.length - (intOf i).toNat)
  case atStart => exact ⟨0, Nat.zero_le _, rfl, rfl⟩
  case round =>
    obtain ⟨j, hj, rfl, rfl⟩ := hrel
    by_cases hlt : j < tk.length
    · obtain ⟨b, hb⟩ : ∃ b, tk[j]? = some b := ⟨_, List.getElem?_eq_getElem hlt⟩
      obtain ⟨g, o, rfl, _, _⟩ := (HO.out).rd.addr (by omega)
      have k0 : w'.cell? ⟨g, o + j, none⟩ = some (.int .u8 (b.toNat : Int)) := (HO.out).rd.cell j b hb
      obtain ⟨V, hV⟩ : ∃ V, V = val (tk.take j) := ⟨_, rfl⟩
      rw [← hV]
      have hVl : V < 72057594037927936 := by
        rw [hV]
        refine Nat.lt_of_lt_of_le (val_lt _) ?_
        exact Nat.pow_le_pow_right (by omega) (show (tk.take j).length ≤ 7 by rw [List.length_take]; omega)
      have hbl := b.toNat_lt
      obtain ⟨M, hM⟩ : ∃ M, M = V * 256 := ⟨_, rfl⟩
      obtain ⟨R, hR⟩ : ∃ R, R = M + b.toNat := ⟨_, rfl⟩
      have hw : IntKind.u64.wrap ((V : Int) * 256) = (M : Int) := by
        rw [IntWalk.u64_in _ (by omega)]; omega
      have ho : Go.bits BinOp.or IntKind.u64 (M : Int) (b.toNat : Int) = (R : Int) := by
        rw [u64_or_nat M b.toNat (by omega) (by omega), nat_join 8 M b.toNat (by omega) hbl, hR]
      have HV := Lib.hid hV
      have HM := Lib.hid hM
      have HRR := Lib.hid hR
      have hB := Lib.hid hb
      clear hV hM hR hb
      go_wp2_with fail
      go_round
      case rel =>
        refine ⟨j + 1, hlt, by simp, ?_⟩
        have e : tk.take (j + 1) = tk.take j ++ [b] := by rw [List.take_add_one, hB.out]; rfl
        rw [e, val_snoc, ← HV.out, ← HM.out, ← HRR.out]
      case measure => simp [intOf] <;> omega
    · obtain rfl : j = tk.length := by omega
      go_wp2_with fail
      go_ret
      refine ⟨c', ?_, HR.out, HE.out⟩
      show Ending.returned (.int .u64 (val tk : Int)) = Ending.returned (.int .u64 ((val (rTake n s).1 : Nat) : Int))
      rw [HT.out]

theorem foldl_push (l : Bs) (s : ByteArray) : ((l.map fun b => (b.toNat : Int)).foldl (fun r n => r.push (UInt8.ofNat n.toNat)) s).data.toList = s.data.toList ++ l := by
  induction l generalizing s with
  | nil => simp
  | cons b l ih => simp only [List.map_cons, List.foldl_cons, ih]; simp [ByteArray.push]

/-- string(b): the string of a slice's bytes. -/
theorem str_of {ops : Array Oper} {rest : List Oper} {o : Oper} {a : Act} {w : World} {Q : Exit → Act → World → Prop} (hgd : o.guard = none) (x : Operand) (ho : o.op = .convert 44 9 x)
    (c : Col) (Y : Nat) (v : Value) (hx : a.eval x = v) (bs : Bs) (hv : Rd c w Y v bs)
    (h : ∀ s : ByteArray, s.data.toList = bs → wpList Try.prog ops Q rest (a.put o.dst (.string s)) w) : wpList Try.prog ops Q (o :: rest) a w := by
  refine wpList_plain hgd fun K hK => ?_
  obtain ⟨q, cap, rfl, hc⟩ := hv.cells
  have hr : ∃ s : ByteArray, s.data.toList = bs ∧ (convert 44 9 (.slice q bs.length cap)).run Try.prog w = .ok (.string s) w := by
    cases q with
    | none =>
      have : bs = [] := by
        cases bs with
        | nil => rfl
        | cons b l => obtain ⟨a', h, _⟩ := hc 0 (B b) (by simp); cases h
      subst this
      refine ⟨ByteArray.empty, rfl, ?_⟩
      rw [run_convert_bytes_string w 44 9 5 none _ _ Try.underlying44 Try.underlying5 Try.underlying9]
      simp [Conv.bytesToString]
    | some ad =>
      have e : (bs.map B) = (bs.map fun b => (b.toNat : Int)).map (Value.int .u8) := by rw [List.map_map]; rfl
      have hl : (loadCells ad bs.length).run Try.prog w = .ok ((bs.map fun b => (b.toNat : Int)).map (Value.int .u8)).toArray w := by
        have := run_loadCells_list (P := Try.prog) w ad (bs.map B) (fun j v hj => by
          obtain ⟨a', h, hv⟩ := hc j v hj
          obtain rfl : ad = a' := Option.some.inj h
          exact hv)
        rw [List.length_map, e] at this
        exact this
      refine ⟨_, ?_, (run_convert_bytes_string w 44 9 5 (some ad) _ _ Try.underlying44 Try.underlying5 Try.underlying9).trans (run_bytesToString w ad bs.length cap _ hl)⟩
      rw [foldl_push]; simp
  obtain ⟨s, hs, hr⟩ := hr
  unfold Oper.wp execOp
  simp only [ho, hx, Sem.run_bind, Sem.run_pure, Result.andThen_ok, hr]
  exact hK _ _ (h s hs)

def rText (s : Bs × Bool) : Bs × Bs × Bool := rTake ((rNum 1 s).1 : Int) (rNum 1 s).2

def TextR (c : Col) (w : World) (p : Nat) (z : Nat × Nat) (Y : Nat) (r : Bs × Bs × Bool) (e : Ending) (w' : World) : Prop :=
  ∃ (s : ByteArray) (c' : Col), s.data.toList = r.1 ∧ e = .returned (.string s) ∧ ReaderAt c' w' p z Y r.2 ∧ Ext (fun y => y = z) c w c' w'

theorem rTake_rest (n : Int) (s : Bs × Bool) : (rTake n s).2.1.length ≤ s.1.length := by
  unfold rTake; split <;> simp

set_option maxRecDepth 100000 in
set_option maxHeartbeats 1000000 in
theorem rtext_in (c : Col) (w : World) (p : Nat) (z : Nat × Nat) (Y : Nat) (hzY : z.1 ≠ Y) (s : Bs × Bool) (h : ReaderAt c w p z Y s) (hl : s.1.length ≤ 10000000) :
    Calls Try.prog 71 #[.pointer (some ⟨p, 0, none⟩)] w (TextR c w p z Y (rText s)) := by
  have hn := Lib.hid (num_in c w p z Y hzY s h 1 (by omega) (by omega) hl)
  have hv : (rNum 1 s).1 < 256 := by
    have h1 := val_lt (rTake ((1 : Nat) : Int) s).1
    have h2 := rTake_len ((1 : Nat) : Int) s
    refine Nat.lt_of_lt_of_le h1 ?_
    have := Nat.pow_le_pow_right (n := 256) (by omega) h2
    simpa using this
  obtain ⟨L, hL⟩ : ∃ L, L = (rNum 1 s).1 := ⟨_, rfl⟩
  have hrest : (rNum 1 s).2.1.length ≤ 10000000 := Nat.le_trans (rTake_rest _ _) hl
  have HRest := Lib.hid hrest
  rw [← hL] at hv
  have HL := Lib.hid hL
  clear h hL hrest
  go_enter Try.func71, Try.ntmps71
  go_wp2_with (first
    | (go_at_call 52; refine (hn.out).mono ?_; rintro e w' ⟨c', rfl, hR, hE⟩; rw [← HL.out]; have ht := Lib.hid (take_in c' w' p z Y hzY _ hR (L : Int) HRest.out (0, 0)); have HE := Lib.hid hE; clear hR hE)
    | (go_at_call 67; refine (ht.out).mono ?_; rintro e w2 ⟨v2, c2, rfl, hO2, hR2, hE2⟩; have HO2 := Lib.hid hO2; have HR2 := Lib.hid hR2; have HE2 := Lib.hid hE2; clear hO2 hR2 hE2)
    | (refine str_of (o := ⟨some 8, _, _, _, _, _⟩) rfl (.tmp 7) rfl c2 0 v2 rfl _ (HO2.out).rd ?_; intro st hst; have HST := Lib.hid hst; clear hst))
  go_ret
  refine ⟨st, c2, ?_, rfl, ?_, (HE.out).trans HE2.out⟩
  · have := HST.out
    rw [HL.out] at this
    exact this
  · have := HR2.out
    rw [HL.out] at this
    exact this
end Go.Proofs.Ytfeacmlnlljnnaa

/- A lane through crashes, as plain data: what comes behind New, a crash, Arm. No walk in it. -/
import Derived.Test.YtfeacmlnlljnnaaLaneJ
namespace Go.Proofs.Ytfeacmlnlljnnaa

theorem read_base {D : DiskM} {r : Nat} (h : D.waits r = []) (s : Nat) : D.read r s = D.base r s := by simp [DiskM.read, h, look]

theorem crash_base {D : DiskM} {r : Nat} (h : D.waits r = []) (m : Nat → Bool) : (D.crash m).base r = D.base r := by
  funext s
  simp [DiskM.crash, h, kept, look]
theorem crash_waits (D : DiskM) (m : Nat → Bool) (r : Nat) : (D.crash m).waits r = [] := rfl
theorem crash_armed (D : DiskM) (m : Nat → Bool) (r : Nat) : (D.crash m).armed r = false := rfl

theorem new_inv {D : DiskM} {r : Nat} (hw : D.waits r = []) (ha : D.armed r = false) (hr : r < 64) :
    (newD D r).2 = 0 ∧ LaneInv (newD D r).1 (newL r) [checkRec] 1 ∧ Frame r D (newD D r).1 ∧ ∀ s, (s = 0 ∨ 514 ≤ s) → (newD D r).1.base r s = D.base r s := by
  have hl : (encs [checkRec]).length ≤ 14336 := by decide
  have hran := anew_ran (D := D) (r := r) 1 0 (encs [checkRec]) hw hl
  unfold newD
  generalize anewD D r 1 0 (encs [checkRec]) = p at hran ⊢
  rcases hran with ⟨h0, h1, h2, h3, h4⟩ | ⟨_, h1, _⟩
  · refine ⟨h0, LaneInv.mk h2 (fun x hx => by rw [List.mem_singleton] at hx; rw [hx]; exact check_ok) rfl (Nat.le_refl _) rfl h3 (Nat.le_refl _) ?_, h1, fun s hs => h4 s (by omega) (by omega)⟩
    refine anewL_wf (L := ⟨r, 0, 1, [], 0⟩) ⟨hr, ?_, Nat.le_refl _, Nat.zero_le _, Nat.le_refl _⟩ _ hl ?_
    · show (0 : Nat) < 4294967296; omega
    · show (0 : Nat) + 1 < 4294967296; omega
  · rw [ha] at h1; cases h1

/-- Where nothing waits a crash leaves the sure records. -/
theorem LaneInv.crash {D : DiskM} {L : LaneM} {all : List Rec} {k : Nat} (h : LaneInv D L all k) (m : Nat → Bool) : Laid ((D.crash m).base L.r) L.gen L.bank (encs (all.take k)) := by
  rw [crash_base h.waits]; exact h.laid

theorem LaneInv.arm {D : DiskM} {L : LaneM} {all : List Rec} {k : Nat} (h : LaneInv D L all k) (r : Nat) (n : Int) : LaneInv (D.arm r n) L all k := ⟨h.waits, h.ok, h.b, h.le, h.sure, h.laid, h.gen, h.wf⟩

/-- What Open asks of a disk. -/
structure OpenPre (D : DiskM) (r gen bank : Nat) (rs : List Rec) (rest : Bs) : Prop where
  n4 : rNum 4 (D.read r 1, false) = (gen, (D.read r 1).drop 4, false)
  n1 : rNum 1 ((D.read r 1).drop 4, false) = (bank, (D.read r 1).drop 5, false)
  st : stream (fun s => D.read r (2 + bank * 256 + s)) gen = encs rs ++ rest
  ok : ∀ x ∈ rs, x.Ok
  short : Short rest
  len : (encs rs).length ≤ 14336
  rl : rest.length ≤ 14336

theorem torn_pre {D : DiskM} {r gen bank : Nat} {all : List Rec} {k : Nat} (hw : D.waits r = []) (ha : D.armed r = false) (ho : ∀ x ∈ all, x.Ok) (hl : (encs all).length ≤ 14336) (hk : k ≤ all.length) (hg1 : 1 ≤ gen) (hg : gen < 4294967296)
    (hbk : bank ≤ 1) (hr : r < 64) (h : Torn (D.base r) gen bank (encs all) (encs (all.take k)).length) :
    ∃ j rest, k ≤ j ∧ j ≤ all.length ∧ OpenPre D r gen bank (all.take j) rest ∧
      (opn D r gen bank (encs (all.take j)) rest).2 = 0 ∧ LaneInv (opn D r gen bank (encs (all.take j)) rest).1 ⟨r, gen, bank, encs (all.take j), (encs (all.take j)).length⟩ (all.take j) j ∧ Frame r D (opn D r gen bank (encs (all.take j)) rest).1 ∧
        ∀ s, ¬ (2 + bank * 256 ≤ s ∧ s < 2 + bank * 256 + 256) → (opn D r gen bank (encs (all.take j)) rest).1.base r s = D.base r s := by
  obtain ⟨j, rest, h1, h2, h3, h4, h5, h6⟩ := torn_open hw ho hl hk hg1 hg hbk hr h
  have hh := head_nums (D.base r) gen bank hg hbk h.head
  refine ⟨j, rest, h1, h2, ⟨?_, ?_, ?_, fun x hx => ho x (List.mem_of_mem_take hx), h4, Nat.le_trans (encs_take_le all j) hl, h5⟩, ?_⟩
  · rw [read_base hw]; exact hh.1
  · rw [read_base hw]; exact hh.2
  · have e : (fun s => D.read r (2 + bank * 256 + s)) = fun s => D.base r (2 + bank * 256 + s) := funext fun s => read_base hw _
    rw [e]; exact h3
  · rcases h6 with h6 | ⟨_, h6⟩
    · exact h6
    · rw [ha] at h6; cases h6

/-- A bank that wasn't torn: just its records. -/
theorem laid_pre {D : DiskM} {r gen bank : Nat} {rs : List Rec} (hw : D.waits r = []) (ha : D.armed r = false) (ho : ∀ x ∈ rs, x.Ok) (hl : (encs rs).length ≤ 14336) (hg1 : 1 ≤ gen) (hg : gen < 4294967296)
    (hbk : bank ≤ 1) (hr : r < 64) (h : Laid (D.base r) gen bank (encs rs)) :
    ∃ rest, OpenPre D r gen bank rs rest ∧
      (opn D r gen bank (encs rs) rest).2 = 0 ∧ LaneInv (opn D r gen bank (encs rs) rest).1 ⟨r, gen, bank, encs rs, (encs rs).length⟩ rs rs.length ∧ Frame r D (opn D r gen bank (encs rs) rest).1 ∧
        ∀ s, ¬ (2 + bank * 256 ≤ s ∧ s < 2 + bank * 256 + 256) → (opn D r gen bank (encs rs) rest).1.base r s = D.base r s := by
  have ht : Torn (D.base r) gen bank (encs rs) (encs (rs.take rs.length)).length := by
    rw [List.take_of_length_le (Nat.le_refl _)]
    refine Laid.torn ?_ (Nat.le_refl _)
    rw [List.take_of_length_le (Nat.le_refl _)]
    exact h
  obtain ⟨j, rest, h1, h2, h3⟩ := torn_pre hw ha ho hl (Nat.le_refl _) hg1 hg hbk hr ht
  obtain rfl : j = rs.length := by omega
  rw [List.take_of_length_le (Nat.le_refl _)] at h3
  exact ⟨rest, h3⟩

theorem down_crash {D : DiskM} (m : Nat → Bool) (r : Nat) (k : Int) : (D.arm r k).crash m = ({ D with left := upd D.left r (max k 0) } : DiskM).crash m := rfl
theorem down_crash_base (D : DiskM) (m : Nat → Bool) (r : Nat) (k : Int) (q : Nat) : ((D.arm r k).crash m).base q = (D.crash m).base q := rfl
end Go.Proofs.Ytfeacmlnlljnnaa

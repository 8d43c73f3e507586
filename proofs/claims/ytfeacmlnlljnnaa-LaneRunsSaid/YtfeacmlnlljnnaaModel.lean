/- The disk as plain data: regions of sectors, writes that wait, and what a crash keeps. No Go in it. -/
namespace Go.Proofs.Ytfeacmlnlljnnaa

abbrev Bs := List UInt8
def zeros (n : Nat) : Bs := List.replicate n 0
def pad (b : Bs) : Bs := b ++ zeros (64 - b.length)
theorem pad_len (b : Bs) (h : b.length ≤ 64) : (pad b).length = 64 := by simp [pad, zeros]; omega

def upd {α : Type} (f : Nat → α) (r : Nat) (x : α) : Nat → α := fun k => if k = r then x else f k
@[simp] theorem upd_same {α : Type} (f : Nat → α) (r : Nat) (x : α) : upd f r x r = x := by simp [upd]
theorem upd_ne {α : Type} (f : Nat → α) (r k : Nat) (x : α) (h : k ≠ r) : upd f r x k = f k := by simp [upd, h]

/-- What sector s is, if these writes came in this order, and it was x ahead of them. -/
def look : List (Nat × Bs) → Nat → Bs → Bs
  | [], _, x => x
  | p :: l, s, x => look l s (if p.1 = s then p.2 else x)

theorem look_append (l k : List (Nat × Bs)) (s : Nat) (x : Bs) : look (l ++ k) s x = look k s (look l s x) := by
  induction l generalizing x with
  | nil => rfl
  | cons p l ih => simp [look, ih]

theorem look_snoc (l : List (Nat × Bs)) (p : Nat × Bs) (s : Nat) (x : Bs) : look (l ++ [p]) s x = if p.1 = s then p.2 else look l s x := by
  rw [look_append]; rfl

/-- Of the writes those whose number (from k on) the mask keeps. -/
def kept (m : Nat → Bool) : Nat → List (Nat × Bs) → List (Nat × Bs)
  | _, [] => []
  | k, p :: l => if m k then p :: kept m (k + 1) l else kept m (k + 1) l

theorem kept_append (m : Nat → Bool) (k : Nat) (l r : List (Nat × Bs)) : kept m k (l ++ r) = kept m k l ++ kept m (k + l.length) r := by
  induction l generalizing k with
  | nil => simp [kept]
  | cons p l ih =>
    have e : k + 1 + l.length = k + (l.length + 1) := by omega
    simp only [List.cons_append, kept, ih, List.length_cons, e]
    split <;> simp

theorem kept_all (k : Nat) (l : List (Nat × Bs)) : kept (fun _ => true) k l = l := by
  induction l generalizing k with
  | nil => rfl
  | cons p l ih => simp [kept, ih]

theorem mem_kept {m : Nat → Bool} {k : Nat} {l : List (Nat × Bs)} {p : Nat × Bs} (h : p ∈ kept m k l) : p ∈ l := by
  induction l generalizing k with
  | nil => simp [kept] at h
  | cons q l ih =>
    simp only [kept] at h
    split at h
    · rcases List.mem_cons.1 h with h | h
      · simp [h]
      · exact List.mem_cons_of_mem _ (ih h)
    · exact List.mem_cons_of_mem _ (ih h)

theorem look_len {l : List (Nat × Bs)} {s n : Nat} {x : Bs} (hl : ∀ p ∈ l, p.2.length = n) (hx : x.length = n) : (look l s x).length = n := by
  induction l generalizing x with
  | nil => exact hx
  | cons p l ih =>
    simp only [look]
    refine ih (fun q hq => hl q (List.mem_cons_of_mem _ hq)) ?_
    split
    · exact hl p List.mem_cons_self
    · exact hx

theorem look_none {l : List (Nat × Bs)} {s : Nat} {x : Bs} (h : ∀ p ∈ l, p.1 ≠ s) : look l s x = x := by
  induction l generalizing x with
  | nil => rfl
  | cons p l ih =>
    simp only [look]
    rw [if_neg (h p List.mem_cons_self)]
    exact ih fun q hq => h q (List.mem_cons_of_mem _ hq)

theorem look_take (l : List (Nat × Bs)) (s k : Nat) (x : Bs) (h : ∀ j p, k ≤ j → l[j]? = some p → p.1 ≠ s) : look l s x = look (l.take k) s x := by
  conv => lhs; rw [← List.take_append_drop k l]
  rw [look_append]
  refine look_none (fun p hp => ?_)
  obtain ⟨j, hj, rfl⟩ := List.getElem_of_mem hp
  rw [List.getElem_drop]
  exact h (k + j) _ (by omega) (List.getElem?_eq_getElem _)

theorem look_hit (l : List (Nat × Bs)) (s k : Nat) (x : Bs) (p : Nat × Bs) (hk : l[k]? = some p) (hp : p.1 = s) (h : ∀ j p, k + 1 ≤ j → l[j]? = some p → p.1 ≠ s) : look l s x = p.2 := by
  obtain ⟨hlt, he⟩ := List.getElem?_eq_some_iff.1 hk
  rw [look_take l s (k + 1) x h, List.take_succ_eq_append_getElem hlt, look_snoc, he, if_pos hp]

structure DiskM where
  n : Nat
  size : Nat
  base : Nat → Nat → Bs
  waits : Nat → List (Nat × Bs)
  armed : Nat → Bool
  left : Nat → Int

structure DiskM.WF (D : DiskM) : Prop where
  n1 : 1 ≤ D.n
  n64 : D.n ≤ 64
  s1 : 1 ≤ D.size
  s16 : D.size ≤ 65536
  base : ∀ r s, (D.base r s).length = 64
  waits : ∀ r, ∀ p ∈ D.waits r, p.1 < D.size ∧ p.2.length = 64
  left : ∀ r, 0 ≤ D.left r ∧ D.left r ≤ 9223372036854775807

def DiskM.new (n size : Nat) : DiskM := ⟨n, size, fun _ _ => zeros 64, fun _ => [], fun _ => false, fun _ => 0⟩
def DiskM.down (D : DiskM) (r : Nat) : Bool := D.armed r && D.left r == 0
def DiskM.read (D : DiskM) (r s : Nat) : Bs := look (D.waits r) s (D.base r s)
def DiskM.push (D : DiskM) (r s : Nat) (b : Bs) : DiskM :=
  { D with waits := upd D.waits r (D.waits r ++ [(s, pad b)]), left := if D.armed r then upd D.left r (D.left r - 1) else D.left }
def DiskM.keep (D : DiskM) (r : Nat) (m : Nat → Bool) : DiskM :=
  { D with base := upd D.base r (fun s => look (kept m 0 (D.waits r)) s (D.base r s)), waits := upd D.waits r [] }
def DiskM.arm (D : DiskM) (r : Nat) (k : Int) : DiskM := { D with armed := upd D.armed r true, left := upd D.left r (max k 0) }
def DiskM.crash (D : DiskM) (m : Nat → Bool) : DiskM :=
  { D with base := fun r s => look (kept m 0 (D.waits r)) s (D.base r s), waits := fun _ => [], armed := fun _ => false }
/-- The bits of a mask, by 64. -/
def mbits (mask : Nat) : Nat → Bool := fun k => mask.testBit (k % 64)

theorem DiskM.WF.read {D : DiskM} (h : D.WF) (r s : Nat) : (D.read r s).length = 64 := look_len (fun p hp => (h.waits r p hp).2) (h.base r s)

theorem DiskM.WF.push {D : DiskM} (h : D.WF) {r s : Nat} {b : Bs} (hs : s < D.size) (hb : b.length ≤ 64) (hd : D.down r = false) : (D.push r s b).WF := by
  refine ⟨h.n1, h.n64, h.s1, h.s16, h.base, fun q p hp => ?_, fun q => ?_⟩
  · simp only [DiskM.push, upd] at hp
    split at hp
    · rcases List.mem_append.1 hp with hp | hp
      · exact h.waits _ p hp
      · simp at hp; subst hp; exact ⟨hs, pad_len b hb⟩
    · exact h.waits _ p hp
  · have h1 := h.left r
    have h2 := h.left q
    simp only [DiskM.push]
    split
    · rename_i ha
      simp only [upd]
      split
      · simp [DiskM.down, ha] at hd; omega
      · exact h2
    · exact h2

theorem DiskM.WF.keep {D : DiskM} (h : D.WF) (r : Nat) (m : Nat → Bool) : (D.keep r m).WF := by
  refine ⟨h.n1, h.n64, h.s1, h.s16, fun q s => ?_, fun q p hp => ?_, h.left⟩
  · simp only [DiskM.keep, upd]
    split
    · exact look_len (fun p hp => (h.waits r p (mem_kept hp)).2) (h.base r s)
    · exact h.base q s
  · simp only [DiskM.keep, upd] at hp
    split at hp
    · simp at hp
    · exact h.waits q p hp

theorem DiskM.WF.arm {D : DiskM} (h : D.WF) (r : Nat) (k : Int) (hk : k ≤ 9223372036854775807) : (D.arm r k).WF := by
  refine ⟨h.n1, h.n64, h.s1, h.s16, h.base, h.waits, fun q => ?_⟩
  have h2 := h.left q
  simp only [DiskM.arm, upd]
  split <;> omega

theorem DiskM.WF.crash {D : DiskM} (h : D.WF) (m : Nat → Bool) : (D.crash m).WF :=
  ⟨h.n1, h.n64, h.s1, h.s16, fun q s => look_len (fun p hp => (h.waits q p (mem_kept hp)).2) (h.base q s), fun q p hp => by simp [DiskM.crash] at hp, h.left⟩

theorem DiskM.WF.new (n size : Nat) (h1 : 1 ≤ n) (h2 : n ≤ 64) (h3 : 1 ≤ size) (h4 : size ≤ 65536) : (DiskM.new n size).WF :=
  ⟨h1, h2, h3, h4, fun _ _ => by simp [DiskM.new, zeros], fun _ _ h => by simp [DiskM.new] at h, fun _ => by simp [DiskM.new]⟩
end Go.Proofs.Ytfeacmlnlljnnaa

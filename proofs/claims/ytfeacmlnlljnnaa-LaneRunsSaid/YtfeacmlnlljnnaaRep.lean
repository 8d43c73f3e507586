/- How a disk lies in memory. -/
import Derived.Test.YtfeacmlnlljnnaaOps
import Derived.Test.YtfeacmlnlljnnaaModel
namespace Go.Proofs.Ytfeacmlnlljnnaa
open Go Go.RowKit

def B (b : UInt8) : Value := .int .u8 (b.toNat : Int)
theorem one_B (l : Bs) : ∀ u ∈ l.map B, u.oneCell' = true := by
  intro u hu
  simp only [List.mem_map] at hu
  obtain ⟨b, _, rfl⟩ := hu
  rfl
/-- The cells of a write that waits. -/
def wcell (p : Nat × Bs) : List Value := .int .i64 (p.1 : Int) :: p.2.map B
def wcells (l : List (Nat × Bs)) : List Value := l.flatMap wcell
theorem wcells_snoc (l : List (Nat × Bs)) (p : Nat × Bs) : wcells (l ++ [p]) = wcells l ++ wcell p := by simp [wcells]
theorem one_wcell (p : Nat × Bs) : ∀ u ∈ wcell p, u.oneCell' = true := by
  intro u hu
  simp only [wcell, List.mem_cons] at hu
  rcases hu with rfl | hu
  · rfl
  · exact one_B _ u hu

theorem flatMap_get {α β : Type} (f : α → List β) (m : Nat) (l : List α) (hm : ∀ x ∈ l, (f x).length = m) (k j : Nat) (x : α) (hk : l[k]? = some x) (hj : j < m) :
    (l.flatMap f)[k * m + j]? = (f x)[j]? := by
  induction l generalizing k with
  | nil => simp at hk
  | cons y l ih =>
    have hy := hm y List.mem_cons_self
    simp only [List.flatMap_cons]
    cases k with
    | zero =>
      simp at hk; subst hk
      rw [List.getElem?_append_left (by omega)]
      simp
    | succ k =>
      simp at hk
      have e : (k + 1) * m = k * m + m := Nat.succ_mul k m
      rw [List.getElem?_append_right (by omega), hy, show (k + 1) * m + j - m = k * m + j from by omega]
      exact ih (fun x hx => hm x (List.mem_cons_of_mem _ hx)) k hk

theorem flatMap_len {α β : Type} (f : α → List β) (m : Nat) (l : List α) (hm : ∀ x ∈ l, (f x).length = m) : (l.flatMap f).length = l.length * m := by
  induction l with
  | nil => simp
  | cons y l ih =>
    simp only [List.flatMap_cons, List.length_append, List.length_cons, hm y List.mem_cons_self, ih (fun x hx => hm x (List.mem_cons_of_mem _ hx)), Nat.succ_mul]
    omega

/-- A write's cells, one by one. -/
theorem wcells_get {l : List (Nat × Bs)} (hl : ∀ p ∈ l, p.2.length = 64) (k j : Nat) (p : Nat × Bs) (hk : l[k]? = some p) (hj : j < 65) : (wcells l)[k * 65 + j]? = (wcell p)[j]? :=
  flatMap_get wcell 65 l (fun x hx => by simp [wcell, hl x hx]) k j p hk hj
theorem wcells_len {l : List (Nat × Bs)} (hl : ∀ p ∈ l, p.2.length = 64) : (wcells l).length = l.length * 65 := flatMap_len wcell 65 l (fun x hx => by simp [wcell, hl x hx])

/-- The cells of the regions: of each its waits, armed, left. -/
def rcells (n : Nat) (wv : Nat → Value) (ar : Nat → Bool) (lf : Nat → Int) : List Value := (List.range n).flatMap fun r => [wv r, .bool (ar r), .int .i64 (lf r)]
theorem rcells_get (n : Nat) (wv : Nat → Value) (ar : Nat → Bool) (lf : Nat → Int) (r j : Nat) (hr : r < n) (hj : j < 3) : (rcells n wv ar lf)[r * 3 + j]? = [wv r, .bool (ar r), .int .i64 (lf r)][j]? :=
  flatMap_get (fun r => [wv r, .bool (ar r), .int .i64 (lf r)]) 3 (List.range n) (by simp) r j r (by simp [hr]) hj
theorem rcells_len (n : Nat) (wv : Nat → Value) (ar : Nat → Bool) (lf : Nat → Int) : (rcells n wv ar lf).length = n * 3 := by
  rw [rcells, flatMap_len _ 3 _ (by simp), List.length_range]

theorem set_flat {α : Type} (n : Nat) (f g : Nat → List α) (m r j : Nat) (v : α) (hr : r < n) (hm : ∀ k, (f k).length = m) (hj : j < m) (hg : g r = (f r).set j v) (hne : ∀ k, k ≠ r → g k = f k) :
    ((List.range n).flatMap f).set (r * m + j) v = (List.range n).flatMap g := by
  have hgm : ∀ k, (g k).length = m := fun k => by
    by_cases h : k = r
    · subst h; rw [hg]; simp [hm]
    · rw [hne k h]; exact hm k
  apply List.ext_getElem?
  intro i
  by_cases hi : i < n * m
  · have hmp : 0 < m := by omega
    have hq : i / m < n := (Nat.div_lt_iff_lt_mul hmp).2 hi
    have hi' : i = i / m * m + i % m := by rw [Nat.mul_comm]; exact (Nat.div_add_mod i m).symm
    have hmod := Nat.mod_lt i hmp
    generalize i / m = q at *
    generalize i % m = t at *
    subst hi'
    rw [flatMap_get g m _ (fun x _ => hgm x) q t q (by simp [hq]) hmod]
    rw [List.getElem?_set]
    by_cases hqr : q = r
    · subst hqr
      rw [hg, List.getElem?_set]
      by_cases hjt : j = t
      · subst hjt
        rw [if_pos rfl, if_pos rfl]
        rw [if_pos (by rw [flatMap_len _ m _ (fun x _ => hm x), List.length_range]; exact hi), if_pos (by rw [hm]; exact hj)]
      · rw [if_neg (by omega), if_neg hjt]
        exact flatMap_get f m _ (fun x _ => hm x) q t q (by simp [hq]) hmod
    · rw [hne q hqr, if_neg (fun e => ?_)]
      · exact flatMap_get f m _ (fun x _ => hm x) q t q (by simp [hq]) hmod
      · rcases Nat.lt_or_gt_of_ne hqr with h | h
        · have := Nat.mul_le_mul_right m (show q + 1 ≤ r from h); rw [Nat.succ_mul] at this; omega
        · have := Nat.mul_le_mul_right m (show r + 1 ≤ q from h); rw [Nat.succ_mul] at this; omega
  · have h1 : ((List.range n).flatMap f).length = n * m := by rw [flatMap_len _ m _ (fun x _ => hm x), List.length_range]
    have h2 : ((List.range n).flatMap g).length = n * m := by rw [flatMap_len _ m _ (fun x _ => hgm x), List.length_range]
    rw [List.getElem?_eq_none (by simp [h1]; omega), List.getElem?_eq_none (by omega)]

theorem rcells_set0 (n : Nat) (wv : Nat → Value) (ar : Nat → Bool) (lf : Nat → Int) (r : Nat) (v : Value) (hr : r < n) : (rcells n wv ar lf).set (r * 3) v = rcells n (upd wv r v) ar lf :=
  set_flat n _ _ 3 r 0 v hr (by simp) (by omega) (by simp) (fun k hk => by simp [upd, hk])
theorem rcells_set1 (n : Nat) (wv : Nat → Value) (ar : Nat → Bool) (lf : Nat → Int) (r : Nat) (v : Bool) (hr : r < n) : (rcells n wv ar lf).set (r * 3 + 1) (.bool v) = rcells n wv (upd ar r v) lf :=
  set_flat n _ _ 3 r 1 _ hr (by simp) (by omega) (by simp) (fun k hk => by simp [upd, hk])
theorem rcells_set2 (n : Nat) (wv : Nat → Value) (ar : Nat → Bool) (lf : Nat → Int) (r : Nat) (v : Int) (hr : r < n) : (rcells n wv ar lf).set (r * 3 + 2) (.int .i64 v) = rcells n wv ar (upd lf r v) :=
  set_flat n _ _ 3 r 2 _ hr (by simp) (by omega) (by simp) (fun k hk => by simp [upd, hk])

/-- The sectors' cells. -/
def Sectors (D : DiskM) (data : List Value) : Prop :=
  data.length = D.n * D.size * 64 ∧ ∀ r s j, r < D.n → s < D.size → j < 64 → data[(r * D.size + s) * 64 + j]? = some (B ((D.base r s).getD j 0))

/-- A disk at block d, of object X: blocks of colours (X, 0): itself, (X, 1): its sectors, (X, 2): its regions, (X, 3 + r): region r's writes that wait. -/
structure DiskAt (c : Col) (w : World) (X : Nat) (d : Nat) (D : DiskM) (bd bg : Nat) (wv : Nat → Value) (wr : Int) (data : List Value) : Prop where
  top : Blk c w d (X, 0) [.int .i64 (D.size : Int), .slice (some ⟨bd, 0, none⟩) (D.n * D.size) (D.n * D.size), .slice (some ⟨bg, 0, none⟩) D.n D.n, .int .i64 wr]
  secs : Blk c w bd (X, 1) data
  sectors : Sectors D data
  regs : Blk c w bg (X, 2) (rcells D.n wv D.armed D.left)
  waits : ∀ r, r < D.n → Sl c w (X, 3 + r) 65 (wv r) (D.waits r).length (wcells (D.waits r))
  wf : D.WF

def DiskRep (c : Col) (w : World) (X : Nat) (d : Nat) (D : DiskM) : Prop := ∃ bd bg wv wr data, DiskAt c w X d D bd bg wv wr data

theorem DiskAt.keep {M : Nat × Nat → Prop} {c c' : Col} {w w' : World} {X d : Nat} {D : DiskM} {bd bg : Nat} {wv : Nat → Value} {wr : Int} {data : List Value} (h : DiskAt c w X d D bd bg wv wr data) (g : Ext M c w c' w') (hx : ∀ p, ¬ M (X, p)) :
    DiskAt c' w' X d D bd bg wv wr data :=
  ⟨h.top.keep g (hx _), h.secs.keep g (hx _), h.sectors, h.regs.keep g (hx _), fun r hr => (h.waits r hr).keep g (hx _), h.wf⟩

theorem DiskRep.keep {M : Nat × Nat → Prop} {c c' : Col} {w w' : World} {X d : Nat} {D : DiskM} (h : DiskRep c w X d D) (g : Ext M c w c' w') (hx : ∀ p, ¬ M (X, p)) : DiskRep c' w' X d D := by
  obtain ⟨bd, bg, wv, wr, data, h⟩ := h
  exact ⟨bd, bg, wv, wr, data, h.keep g hx⟩

theorem DiskRep.wf {c : Col} {w : World} {X d : Nat} {D : DiskM} (h : DiskRep c w X d D) : D.WF := by
  obtain ⟨bd, bg, wv, wr, data, h⟩ := h
  exact h.wf

/-- What the walk wants of a disk's own block. -/
theorem DiskAt.cells {c : Col} {w : World} {X d : Nat} {D : DiskM} {bd bg : Nat} {wv : Nat → Value} {wr : Int} {data : List Value} (h : DiskAt c w X d D bd bg wv wr data) :
    w.cell? ⟨d, 0, none⟩ = some (.int .i64 (D.size : Int)) ∧ w.cell? ⟨d, 1, none⟩ = some (.slice (some ⟨bd, 0, none⟩) (D.n * D.size) (D.n * D.size)) ∧
    w.cell? ⟨d, 2, none⟩ = some (.slice (some ⟨bg, 0, none⟩) D.n D.n) ∧ w.cell? ⟨d, 3, none⟩ = some (.int .i64 wr) :=
  ⟨by rw [h.top.cell]; rfl, by rw [h.top.cell]; rfl, by rw [h.top.cell]; rfl, by rw [h.top.cell]; rfl⟩

theorem DiskAt.reg {c : Col} {w : World} {X d : Nat} {D : DiskM} {bd bg : Nat} {wv : Nat → Value} {wr : Int} {data : List Value} (h : DiskAt c w X d D bd bg wv wr data) {r : Nat} (hr : r < D.n) :
    w.cell? ⟨bg, r * 3, none⟩ = some (wv r) ∧ w.cell? ⟨bg, r * 3 + 1, none⟩ = some (.bool (D.armed r)) ∧ w.cell? ⟨bg, r * 3 + 2, none⟩ = some (.int .i64 (D.left r)) := by
  refine ⟨?_, ?_, ?_⟩ <;> rw [h.regs.cell]
  · exact (rcells_get D.n wv D.armed D.left r 0 hr (by omega)).trans rfl
  · exact (rcells_get D.n wv D.armed D.left r 1 hr (by omega)).trans rfl
  · exact (rcells_get D.n wv D.armed D.left r 2 hr (by omega)).trans rfl

end Go.Proofs.Ytfeacmlnlljnnaa

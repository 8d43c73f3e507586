/- Worlds, blocks, colours: what changes and what stays. Plain laws over the model's memory; no program in sight. -/
import Derived.WalkKit
import Derived.Handy
import Derived.Lib.Hide
import Derived.WalkSpells
import Derived.WalkLawsBesides
import Derived.WalkSmall
import Derived.Deep.QuietTactic
import Derived.BigQuiet
import Derived.StillTailTactics
import Derived.Deep.RegionHeld3
import Derived.Deep.RegionLaw
import Derived.Deep.DeepFit
import Derived.Deep.DeepCutAuto
namespace Go.Proofs.Ytfeacmlnlljnnaa
open Go Go.RowKit

/-- A block's colour: the object it belongs to, and its part. -/
abbrev Col := Nat → Nat × Nat

def setc (c : Col) (k : Nat) (x : Nat × Nat) : Col := fun j => if j = k then x else c j
theorem setc_same (c : Col) (k : Nat) (x : Nat × Nat) : setc c k x k = x := by simp [setc]
theorem setc_ne (c : Col) (k j : Nat) (x : Nat × Nat) (h : j ≠ k) : setc c k x j = c j := by simp [setc, h]

/-- From w to w' only blocks of the objects in M have changed; new blocks may have come. -/
structure Ext (M : Nat × Nat → Prop) (c : Col) (w : World) (c' : Col) (w' : World) : Prop where
  os : w'.os = w.os
  tape : w'.tape = w.tape
  output : w'.output = w.output
  size : w.heap.size ≤ w'.heap.size
  col : ∀ k, k < w.heap.size → c' k = c k
  block : ∀ k, k < w.heap.size → ¬ M (c k) → w'.heap[k]? = w.heap[k]?

theorem Ext.refl (M : Nat × Nat → Prop) (c : Col) (w : World) : Ext M c w c w := ⟨rfl, rfl, rfl, Nat.le_refl _, fun _ _ => rfl, fun _ _ _ => rfl⟩

theorem Ext.trans {M : Nat × Nat → Prop} {c1 c2 c3 : Col} {w1 w2 w3 : World} (h : Ext M c1 w1 c2 w2) (g : Ext M c2 w2 c3 w3) : Ext M c1 w1 c3 w3 :=
  ⟨g.os.trans h.os, g.tape.trans h.tape, g.output.trans h.output, Nat.le_trans h.size g.size,
   fun k hk => (g.col k (Nat.lt_of_lt_of_le hk h.size)).trans (h.col k hk),
   fun k hk hm => (g.block k (Nat.lt_of_lt_of_le hk h.size) (by rw [h.col k hk]; exact hm)).trans (h.block k hk hm)⟩

theorem Ext.mono {M M' : Nat × Nat → Prop} {c1 c2 : Col} {w1 w2 : World} (h : Ext M c1 w1 c2 w2) (hm : ∀ x, M x → M' x) : Ext M' c1 w1 c2 w2 :=
  ⟨h.os, h.tape, h.output, h.size, h.col, fun k hk hn => h.block k hk (fun e => hn (hm _ e))⟩

theorem Ext.of_below {M : Nat × Nat → Prop} {c : Col} {w w' : World} (h : Below w.heap.size w w') : Ext M c w c w' :=
  ⟨h.os, h.tape, h.output, h.size, fun _ _ => rfl, fun k hk _ => h.block k hk⟩

theorem Ext.drew {M : Nat × Nat → Prop} {c1 c2 : Col} {w1 w2 : World} (h : Ext M c1 w1 c2 w2) : Ext M c1 w1 c2 w2.drew := ⟨h.os, h.tape, h.output, h.size, h.col, h.block⟩

theorem Ext.alloc {M : Nat × Nat → Prop} {c1 c2 : Col} {w1 w2 : World} (h : Ext M c1 w1 c2 w2) (o : Obj) (x : Nat × Nat) : Ext M c1 w1 (setc c2 w2.heap.size x) (w2.alloc o) :=
  h.trans ⟨rfl, rfl, rfl, by simp, fun k hk => setc_ne _ _ _ _ (by omega), fun k hk _ => Below.heap_alloc w2 o k hk⟩

theorem Ext.setCell {M : Nat × Nat → Prop} {c1 c2 : Col} {w1 w2 : World} (h : Ext M c1 w1 c2 w2) {a : Addr} (ha : M (c2 a.block)) (v : Value) : Ext M c1 w1 c2 (w2.setCell a v) :=
  h.trans ⟨rfl, rfl, rfl, by simp, fun _ _ => rfl, fun k hk hm => heap_setCell_other w2 a k v (fun e => hm (e ▸ ha))⟩

theorem Ext.setRow {M : Nat × Nat → Prop} {c1 c2 : Col} {w1 w2 : World} (h : Ext M c1 w1 c2 w2) {g : Nat} (ha : M (c2 g)) (cs : Array Value) : Ext M c1 w1 c2 (w2.setRow g cs) :=
  h.trans ⟨rfl, rfl, rfl, by simp, fun _ _ => rfl, fun k hk hm => setRow_other w2 g k cs (fun e => hm (e ▸ ha))⟩

/-- What changes only new blocks. -/
theorem Ext.below {M : Nat × Nat → Prop} {c c' : Col} {w w' : World} (h : Ext M c w c' w') (hn : ∀ k, k < w.heap.size → ¬ M (c k)) : Below w.heap.size w w' :=
  ⟨h.os, h.tape, h.output, h.size, fun k hk => h.block k hk (hn k hk)⟩

/-- The blocks of these objects. -/
def Obs (l : List Nat) : Nat × Nat → Prop := fun x => x.1 ∈ l
theorem Obs.in1 {X p : Nat} {l : List Nat} (h : X ∈ l) : Obs l (X, p) := h
theorem Obs.no {X p : Nat} {l : List Nat} (h : X ∉ l) : ¬ Obs l (X, p) := h
theorem Ext.obs {l l' : List Nat} {c1 c2 : Col} {w1 w2 : World} (h : Ext (Obs l) c1 w1 c2 w2) (hm : ∀ x ∈ l, x ∈ l') : Ext (Obs l') c1 w1 c2 w2 := h.mono (fun x hx => hm _ hx)
theorem Ext.none {M : Nat × Nat → Prop} {c1 c2 : Col} {w1 w2 : World} (h : Ext (Obs []) c1 w1 c2 w2) : Ext M c1 w1 c2 w2 := h.mono (fun x hx => by simp [Obs] at hx)

/-- Block b has colour x and holds just these cells; it may be written. -/
def Blk (c : Col) (w : World) (b : Nat) (x : Nat × Nat) (cs : List Value) : Prop := c b = x ∧ ∃ T, w.heap[b]? = some (.cells cs.toArray T (0, 0))

theorem Blk.lt {c : Col} {w : World} {b : Nat} {x : Nat × Nat} {cs : List Value} (h : Blk c w b x cs) : b < w.heap.size := by
  obtain ⟨_, T, h⟩ := h
  exact (Array.getElem?_eq_some_iff.1 h).1

theorem Blk.keep {M : Nat × Nat → Prop} {c c' : Col} {w w' : World} {b : Nat} {x : Nat × Nat} {cs : List Value} (h : Blk c w b x cs) (g : Ext M c w c' w') (hx : ¬ M x) : Blk c' w' b x cs := by
  have hl := h.lt
  obtain ⟨h1, T, h2⟩ := h
  exact ⟨(g.col b hl).trans h1, T, (g.block b hl (by rw [h1]; exact hx)).trans h2⟩

theorem Blk.col {c : Col} {w : World} {b : Nat} {x : Nat × Nat} {cs : List Value} (h : Blk c w b x cs) : c b = x := h.1

theorem Blk.cell {c : Col} {w : World} {b : Nat} {x : Nat × Nat} {cs : List Value} (h : Blk c w b x cs) (i : Nat) : w.cell? ⟨b, i, none⟩ = cs[i]? := by
  obtain ⟨_, T, h⟩ := h
  rw [cell_of_row w b i _ T (0, 0) h]; simp

theorem Blk.free {c : Col} {w : World} {b : Nat} {x : Nat × Nat} {cs : List Value} (h : Blk c w b x cs) (i : Nat) : w.frozen? ⟨b, i, none⟩ = false := by
  obtain ⟨_, T, h⟩ := h
  exact frozen_of_row w b i _ T h

theorem Blk.set {c : Col} {w : World} {b : Nat} {x : Nat × Nat} {cs : List Value} (h : Blk c w b x cs) (i : Nat) (v : Value) : Blk c (w.setCell ⟨b, i, none⟩ v) b x (cs.set i v) := by
  obtain ⟨h1, T, h⟩ := h
  refine ⟨h1, T, ?_⟩
  rw [heap_setCell_same w b i _ T v h]; simp

theorem Blk.set_ne {c : Col} {w : World} {b : Nat} {x : Nat × Nat} {cs : List Value} (h : Blk c w b x cs) (a : Addr) (v : Value) (hn : b ≠ a.block) : Blk c (w.setCell a v) b x cs := by
  obtain ⟨h1, T, h⟩ := h
  exact ⟨h1, T, by rw [heap_setCell_other w a b v hn]; exact h⟩

theorem Blk.set_col {c : Col} {w : World} {b : Nat} {x : Nat × Nat} {cs : List Value} (h : Blk c w b x cs) (a : Addr) (v : Value) (hn : c a.block ≠ x) : Blk c (w.setCell a v) b x cs :=
  h.set_ne a v (fun e => hn (by rw [← e]; exact h.1))

theorem Blk.drew {c : Col} {w : World} {b : Nat} {x : Nat × Nat} {cs : List Value} (h : Blk c w b x cs) : Blk c w.drew b x cs := h

theorem Blk.alloc {c : Col} {w : World} {b : Nat} {x : Nat × Nat} {cs : List Value} (h : Blk c w b x cs) (o : Obj) (y : Nat × Nat) : Blk (setc c w.heap.size y) (w.alloc o) b x cs := by
  have hl := h.lt
  obtain ⟨h1, T, h⟩ := h
  exact ⟨(setc_ne _ _ _ _ (by omega)).trans h1, T, by rw [Below.heap_alloc w o b hl]; exact h⟩

theorem Blk.new (c : Col) (w : World) (cs : List Value) (T : TypeId) (x : Nat × Nat) : Blk (setc c w.heap.size x) (w.alloc (.cells cs.toArray T)) w.heap.size x cs :=
  ⟨setc_same _ _ _, T, heap_alloc_new w _⟩

theorem Blk.newA (c : Col) (w : World) (cs : Array Value) (T : TypeId) (x : Nat × Nat) : Blk (setc c w.heap.size x) (w.alloc (.cells cs T)) w.heap.size x cs.toList :=
  ⟨setc_same _ _ _, T, by rw [heap_alloc_new w _]⟩

theorem Blk.row {c : Col} {w : World} {b : Nat} {x : Nat × Nat} {cs : List Value} (h : Blk c w b x cs) (ds : List Value) : Blk c (w.setRow b ds.toArray) b x ds := by
  obtain ⟨h1, T, h⟩ := h
  exact ⟨h1, T, setRow_heap w b _ _ T _ h⟩

theorem Blk.row_ne {c : Col} {w : World} {b : Nat} {x : Nat × Nat} {cs : List Value} (h : Blk c w b x cs) (g : Nat) (ds : Array Value) (hn : b ≠ g) : Blk c (w.setRow g ds) b x cs := by
  obtain ⟨h1, T, h⟩ := h
  exact ⟨h1, T, by rw [setRow_other w g b ds hn]; exact h⟩

/-- Distinct colours, distinct blocks. -/
theorem ne_of_col {c : Col} {a b : Nat} {x y : Nat × Nat} (ha : c a = x) (hb : c b = y) (h : x ≠ y) : a ≠ b := fun e => h (by rw [← ha, ← hb, e])

/-- A slice of an object's own: nil, or at the head of a block of colour x whose first cells are xs. -/
def Sl (c : Col) (w : World) (x : Nat × Nat) (sz : Nat) (v : Value) (n : Nat) (xs : List Value) : Prop :=
  xs.length = n * sz ∧ ((v = .slice none 0 0 ∧ n = 0) ∨
    ∃ g cap cur, v = .slice (some ⟨g, 0, none⟩) n cap ∧ Blk c w g x (xs ++ cur) ∧ cap * sz ≤ (xs ++ cur).length ∧ n ≤ cap ∧ cap ≤ maxLen)

theorem Sl.keep {M : Nat × Nat → Prop} {c c' : Col} {w w' : World} {x : Nat × Nat} {sz : Nat} {v : Value} {n : Nat} {xs : List Value} (h : Sl c w x sz v n xs) (g : Ext M c w c' w') (hx : ¬ M x) : Sl c' w' x sz v n xs := by
  refine ⟨h.1, ?_⟩
  rcases h.2 with h | ⟨b, cap, cur, rfl, hb, r⟩
  · exact .inl h
  · exact .inr ⟨b, cap, cur, rfl, hb.keep g hx, r⟩

theorem Sl.form {c : Col} {w : World} {x : Nat × Nat} {sz : Nat} {v : Value} {n : Nat} {xs : List Value} (h : Sl c w x sz v n xs) : ∃ p cap, v = .slice p n cap := by
  rcases h.2 with ⟨h, hn⟩ | ⟨g, cap, cur, h, _⟩
  · exact ⟨none, 0, by rw [h, hn]⟩
  · exact ⟨_, cap, h⟩

theorem Sl.nil (c : Col) (w : World) (x : Nat × Nat) (sz : Nat) : Sl c w x sz (.slice none 0 0) 0 [] := ⟨by simp, .inl ⟨rfl, rfl⟩⟩

theorem Sl.set_col {c : Col} {w : World} {x : Nat × Nat} {sz : Nat} {v : Value} {n : Nat} {xs : List Value} (h : Sl c w x sz v n xs) (a : Addr) (u : Value) (hn : c a.block ≠ x) : Sl c (w.setCell a u) x sz v n xs := by
  refine ⟨h.1, ?_⟩
  rcases h.2 with h | ⟨b, cap, cur, rfl, hb, r⟩
  · exact .inl h
  · exact .inr ⟨b, cap, cur, rfl, hb.set_col a u hn, r⟩

theorem Sl.row_col {c : Col} {w : World} {x : Nat × Nat} {sz : Nat} {v : Value} {n : Nat} {xs : List Value} (h : Sl c w x sz v n xs) (g : Nat) (ds : Array Value) (hn : c g ≠ x) : Sl c (w.setRow g ds) x sz v n xs := by
  refine ⟨h.1, ?_⟩
  rcases h.2 with h | ⟨b, cap, cur, rfl, hb, r⟩
  · exact .inl h
  · exact .inr ⟨b, cap, cur, rfl, hb.row_ne g ds (fun e => hn (by rw [← e]; exact hb.1)), r⟩

theorem Sl.alloc {c : Col} {w : World} {x : Nat × Nat} {sz : Nat} {v : Value} {n : Nat} {xs : List Value} (h : Sl c w x sz v n xs) (o : Obj) (y : Nat × Nat) : Sl (setc c w.heap.size y) (w.alloc o) x sz v n xs := by
  refine ⟨h.1, ?_⟩
  rcases h.2 with h | ⟨b, cap, cur, rfl, hb, r⟩
  · exact .inl h
  · exact .inr ⟨b, cap, cur, rfl, hb.alloc o y, r⟩

theorem Sl.drew {c : Col} {w : World} {x : Nat × Nat} {sz : Nat} {v : Value} {n : Nat} {xs : List Value} (h : Sl c w x sz v n xs) : Sl c w.drew x sz v n xs := h

/-- A slice that is read: n elements, whose cells are xs, in a block of object X. -/
def Rs (c : Col) (w : World) (X : Nat) (v : Value) (n : Nat) (xs : List Value) : Prop :=
  ∃ p cap, v = .slice p n cap ∧ n ≤ cap ∧ cap ≤ maxLen ∧ ∀ j u, xs[j]? = some u → ∃ g o, p = some ⟨g, o, none⟩ ∧ g < w.heap.size ∧ (c g).1 = X ∧ w.cell? ⟨g, o + j, none⟩ = some u

theorem Rs.keep {M : Nat × Nat → Prop} {c c' : Col} {w w' : World} {X : Nat} {v : Value} {n : Nat} {xs : List Value} (h : Rs c w X v n xs) (g : Ext M c w c' w') (hx : ∀ p, ¬ M (X, p)) : Rs c' w' X v n xs := by
  obtain ⟨p, cap, rfl, h1, h2, h⟩ := h
  refine ⟨p, cap, rfl, h1, h2, fun j u hj => ?_⟩
  obtain ⟨b, o, rfl, hl, hc, hu⟩ := h j u hj
  refine ⟨b, o, rfl, Nat.lt_of_lt_of_le hl g.size, by rw [g.col b hl]; exact hc, ?_⟩
  rw [World.cell?_of_block (w := w) (g.block b hl (fun hm => hx (c b).2 (by rw [← hc]; exact hm)))]
  exact hu

theorem Sl.rs {c : Col} {w : World} {x : Nat × Nat} {sz : Nat} {v : Value} {n : Nat} {xs : List Value} (h : Sl c w x sz v n xs) : Rs c w x.1 v n xs := by
  obtain ⟨hl, h⟩ := h
  rcases h with ⟨rfl, rfl⟩ | ⟨b, cap, cur, rfl, hb, h1, h2, h3⟩
  · refine ⟨none, 0, rfl, Nat.le_refl _, by simp [maxLen], fun j u hj => ?_⟩
    have : xs = [] := List.eq_nil_of_length_eq_zero (by simpa using hl)
    subst this
    simp at hj
  · refine ⟨_, cap, rfl, h2, h3, fun j u hj => ⟨b, 0, rfl, hb.lt, by rw [hb.1], ?_⟩⟩
    rw [Nat.zero_add, hb.cell j, List.getElem?_append_left (List.getElem?_eq_some_iff.1 hj).1]
    exact hj

/-- The cells as the append and copy laws want them. -/
theorem Rs.cells {c : Col} {w : World} {X : Nat} {v : Value} {n : Nat} {xs : List Value} (h : Rs c w X v n xs) :
    ∃ p cap, v = .slice p n cap ∧ ∀ j u, xs[j]? = some u → ∃ a : Addr, p = some a ∧ w.cell? (a.add j) = some u := by
  obtain ⟨p, cap, rfl, h1, h2, h⟩ := h
  refine ⟨p, cap, rfl, fun j u hj => ?_⟩
  obtain ⟨g, o, rfl, _, _, hu⟩ := h j u hj
  refine ⟨⟨g, o, none⟩, rfl, ?_⟩
  rw [show (⟨g, o, none⟩ : Addr).add j = ⟨g, o + j, none⟩ from by unfold Addr.add; split <;> simp_all]
  exact hu

theorem addr_add (g o j : Nat) : (⟨g, o, none⟩ : Addr).add j = ⟨g, o + j, none⟩ := by unfold Addr.add; split <;> simp_all

end Go.Proofs.Ytfeacmlnlljnnaa

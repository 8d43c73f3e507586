/- Slices of bytes: what append does to them. -/
import Derived.Test.YtfeacmlnlljnnaaRep
import Derived.Test.YtfeacmlnlljnnaaProg
namespace Go.Proofs.Ytfeacmlnlljnnaa
open Go Go.Proofs Go.RowKit

theorem info_u8 : (Try.prog.info? 5).map (fun i => (i.zero, i.size, i.bytes)) = some (some (.int .u8 0), 1, 1) := by kernel_rfl

/-- A slice of bytes of an object's own; one that is read. -/
def Own (c : Col) (w : World) (k : Nat × Nat) (v : Value) (bs : Bs) : Prop := Sl c w k 1 v bs.length (bs.map B)
def Rd (c : Col) (w : World) (X : Nat) (v : Value) (bs : Bs) : Prop := Rs c w X v bs.length (bs.map B)
theorem Own.rd {c : Col} {w : World} {k : Nat × Nat} {v : Value} {bs : Bs} (h : Own c w k v bs) : Rd c w k.1 v bs := Sl.rs h
theorem Own.keep {M : Nat × Nat → Prop} {c c' : Col} {w w' : World} {k : Nat × Nat} {v : Value} {bs : Bs} (h : Own c w k v bs) (g : Ext M c w c' w') (hx : ¬ M k) : Own c' w' k v bs := Sl.keep h g hx
theorem Rd.keep {M : Nat × Nat → Prop} {c c' : Col} {w w' : World} {X : Nat} {v : Value} {bs : Bs} (h : Rd c w X v bs) (g : Ext M c w c' w') (hx : ∀ p, ¬ M (X, p)) : Rd c' w' X v bs := Rs.keep h g hx
theorem Own.alloc {c : Col} {w : World} {k : Nat × Nat} {v : Value} {bs : Bs} (h : Own c w k v bs) (o : Obj) (y : Nat × Nat) : Own (setc c w.heap.size y) (w.alloc o) k v bs := Sl.alloc h o y
theorem Own.form {c : Col} {w : World} {k : Nat × Nat} {v : Value} {bs : Bs} (h : Own c w k v bs) : ∃ p cap, v = .slice p bs.length cap := Sl.form h
theorem Own.nil (c : Col) (w : World) (k : Nat × Nat) : Own c w k (.slice none 0 0) [] := Sl.nil c w k 1

theorem Rd.src {c : Col} {w : World} {X : Nat} {v : Value} {bs : Bs} (h : Rd c w X v bs) : Src Try.prog w 1 44 v bs.length (bs.map B) :=
  Rs.src h 1 44 5 Try.underlying44 (by simp) (one_B bs)

theorem str_src' (w : World) (s : ByteArray) : Src Try.prog w 1 9 (.string s) s.data.toList.length (s.data.toList.map B) := by
  have h := str_src (P := Try.prog) w s 9 Try.underlying9
  exact h

theorem append_bb {ops : Array Oper} {rest : List Oper} {o : Oper} {a : Act} {w : World} {Q : Exit → Act → World → Prop} (hgd : o.guard = none) (s x : Operand) (u : TypeId)
    (ho : o.op = .call { callee := .builtin .append, args := #[s, x], argTypes := #[44, u] })
    (c : Col) (k : Nat × Nat) (v : Value) (bs : Bs) (hs : a.eval s = v) (hv : Own c w k v bs)
    (xv : Value) (hxv : a.eval x = xv) (ys : Bs) (hx : Src Try.prog w 1 u xv ys.length (ys.map B)) (h63 : bs.length + ys.length ≤ 1000000000)
    (h : ∀ v' w' c', Own c' w' k v' (bs ++ ys) → Ext (own v k) c w c' w' → wpList Try.prog ops Q rest (a.put o.dst v') w') : wpList Try.prog ops Q (o :: rest) a w := by
  obtain ⟨i, hi, h1, h2, h3⟩ := info_parts info_u8
  refine append_sl hgd s x 44 u ho 5 i (.int .u8 0) 1 1 Try.underlying44 hi h1 h2 h3 rfl c k v bs.length (bs.map B) hs hv xv hxv ys.length (ys.map B) hx (by unfold maxLen; omega) (by omega) ?_
  intro v' w' c' g1 g2
  refine h v' w' c' ?_ g2
  unfold Own
  rw [List.map_append, List.length_append]
  exact g1

/-- append([]byte(nil), cells...): a new slice of these bytes. -/
theorem append_new {ops : Array Oper} {rest : List Oper} {o : Oper} {a : Act} {w : World} {Q : Exit → Act → World → Prop} (hgd : o.guard = none) (x : Operand)
    (ho : o.op = .call { callee := .builtin .append, args := #[.const (.slice none 0 0), x], argTypes := #[44, 44] })
    (c : Col) (k : Nat × Nat) (ys : Bs) (g off m cap : Nat) (hx : a.eval x = .slice (some ⟨g, off, none⟩) m cap) (hm : ys.length = m)
    (hc : ∀ j u, (ys.map B)[j]? = some u → w.cell? ⟨g, off + j, none⟩ = some u) (h63 : ys.length ≤ 1000000000)
    (h : ∀ v' w' c', Own c' w' k v' ys → Ext (Obs []) c w c' w' → wpList Try.prog ops Q rest (a.put o.dst v') w') : wpList Try.prog ops Q (o :: rest) a w := by
  subst hm
  exact append_bb hgd _ x 44 ho c k (.slice none 0 0) [] rfl (Own.nil _ _ _) _ hx ys (cells_src g off _ _ 1 _ _ 5 Try.underlying44 (by simp) hc (one_B _)) (by simpa using h63) (fun v' w' c' h1 h2 => h v' w' c' h1 (own_nil _ h2))

/-- A colour that no block has yet, of an object with a number greater than N. -/
theorem fresh_col (c : Col) (w : World) (N : Nat) : ∃ f : Nat × Nat, N < f.1 ∧ ∀ k, k < w.heap.size → c k ≠ f := by
  have : ∀ n : Nat, ∃ m : Nat, ∀ k, k < n → (c k).1 < m := by
    intro n
    induction n with
    | zero => exact ⟨0, fun k hk => by omega⟩
    | succ n ih =>
      obtain ⟨m, hm⟩ := ih
      refine ⟨m + (c n).1 + 1, fun k hk => ?_⟩
      by_cases h : k = n
      · subst h; omega
      · have := hm k (by omega); omega
  obtain ⟨m, hm⟩ := this w.heap.size
  exact ⟨(m + N + 1, 0), by simp <;> omega, fun k hk e => by have := hm k hk; rw [e] at this; simp at this; omega⟩

theorem Ext.fresh {c c' : Col} {w w' : World} {f : Nat × Nat} (h : Ext (fun y => y = f) c w c' w') (hf : ∀ k, k < w.heap.size → c k ≠ f) : Ext (Obs []) c w c' w' :=
  ⟨h.os, h.tape, h.output, h.size, h.col, fun k hk _ => h.block k hk (hf k hk)⟩

/-- All of colour f is of colour z now. -/
def recol (c : Col) (f z : Nat × Nat) : Col := fun k => if c k = f then z else c k

theorem Blk.recol {c : Col} {w : World} {b : Nat} {f : Nat × Nat} {cs : List Value} (h : Blk c w b f cs) (z : Nat × Nat) : Blk (recol c f z) w b z cs :=
  ⟨by show (if c b = f then z else c b) = z; rw [if_pos h.1], h.2⟩
theorem Blk.recol_ne {c : Col} {w : World} {b : Nat} {x f : Nat × Nat} {cs : List Value} (h : Blk c w b x cs) (hx : x ≠ f) (z : Nat × Nat) : Blk (Go.Proofs.Ytfeacmlnlljnnaa.recol c f z) w b x cs :=
  ⟨by show (if c b = f then z else c b) = x; rw [if_neg (by rw [h.1]; exact hx)]; exact h.1, h.2⟩
theorem Sl.recol {c : Col} {w : World} {f : Nat × Nat} {sz : Nat} {v : Value} {n : Nat} {xs : List Value} (h : Sl c w f sz v n xs) (z : Nat × Nat) : Sl (Go.Proofs.Ytfeacmlnlljnnaa.recol c f z) w z sz v n xs := by
  refine ⟨h.1, ?_⟩
  rcases h.2 with h | ⟨b, cap, cur, rfl, hb, r⟩
  · exact .inl h
  · exact .inr ⟨b, cap, cur, rfl, hb.recol z, r⟩
theorem Own.recol {c : Col} {w : World} {f : Nat × Nat} {v : Value} {bs : Bs} (h : Own c w f v bs) (z : Nat × Nat) : Own (Go.Proofs.Ytfeacmlnlljnnaa.recol c f z) w z v bs := Sl.recol h z
theorem Ext.recol {M : Nat × Nat → Prop} {c c' : Col} {w w' : World} (h : Ext M c w c' w') {f : Nat × Nat} (hf : ∀ k, k < w.heap.size → c k ≠ f) (z : Nat × Nat) : Ext M c w (Go.Proofs.Ytfeacmlnlljnnaa.recol c' f z) w' :=
  ⟨h.os, h.tape, h.output, h.size, fun k hk => by
    show (if c' k = f then z else c' k) = c k
    rw [h.col k hk, if_neg (hf k hk)], h.block⟩
/-- A slice that is read lies in an object that is not recoloured. -/
theorem Rs.recol {c : Col} {w : World} {X : Nat} {v : Value} {n : Nat} {xs : List Value} (h : Rs c w X v n xs) (f z : Nat × Nat) (hf : f.1 ≠ X) : Rs (Go.Proofs.Ytfeacmlnlljnnaa.recol c f z) w X v n xs := by
  obtain ⟨p, cap, rfl, h1, h2, h⟩ := h
  refine ⟨p, cap, rfl, h1, h2, fun j u hj => ?_⟩
  obtain ⟨g, o, rfl, hl, hc, hu⟩ := h j u hj
  refine ⟨g, o, rfl, hl, ?_, hu⟩
  show (if c g = f then z else c g).1 = X
  rw [if_neg (fun e => hf (by rw [← e]; exact hc))]
  exact hc

theorem Ext.own {v : Value} {k : Nat × Nat} {c c' : Col} {w w' : World} (h : Ext (own v k) c w c' w') : Ext (fun y => y = k) c w c' w' := h.mono (fun x h => h.1)

/-- append of one byte that stands in a new block. -/
theorem append_byte {ops : Array Oper} {rest : List Oper} {o : Oper} {a : Act} {w : World} {Q : Exit → Act → World → Prop} (hgd : o.guard = none) (s x : Operand)
    (ho : o.op = .call { callee := .builtin .append, args := #[s, x], argTypes := #[44, 44] })
    (c : Col) (k : Nat × Nat) (v : Value) (bs : Bs) (hs : a.eval s = v) (hv : Own c w k v bs) (y : UInt8) (g : Nat) (hx : a.eval x = .slice (some ⟨g, 0, none⟩) 1 1) (hc : w.cell? ⟨g, 0, none⟩ = some (B y)) (h63 : bs.length ≤ 1000000000 - 1)
    (h : ∀ v' w' c', Own c' w' k v' (bs ++ [y]) → Ext (own v k) c w c' w' → wpList Try.prog ops Q rest (a.put o.dst v') w') : wpList Try.prog ops Q (o :: rest) a w :=
  append_bb hgd s x 44 ho c k v bs hs hv _ hx [y] (cells_src g 0 1 1 1 _ _ 5 Try.underlying44 (by simp) (by
    intro j u hj
    cases j with
    | zero => simp at hj; subst hj; exact hc
    | succ j => simp at hj) (one_B _)) (by simp; omega) h


theorem Rd.take {c : Col} {w : World} {Y : Nat} {q : Option Addr} {n cap : Nat} {bs : Bs} (h : Rd c w Y (.slice q n cap) bs) (m : Nat) (hm : m ≤ bs.length) : Rd c w Y (.slice q m cap) (bs.take m) := by
  obtain ⟨p, cap', e, h1, h2, h3⟩ := h
  simp only [Value.slice.injEq] at e
  obtain ⟨rfl, _, rfl⟩ := e
  refine ⟨q, cap, by rw [List.length_take, Nat.min_eq_left hm], by rw [List.length_take]; omega, h2, fun j u hj => h3 j u ?_⟩
  rw [List.map_take, List.getElem?_take] at hj
  split at hj
  · exact hj
  · cases hj

theorem Rd.drop {c : Col} {w : World} {Y : Nat} {g o n cap : Nat} {bs : Bs} (h : Rd c w Y (.slice (some ⟨g, o, none⟩) n cap) bs) (m : Nat) (hm : m ≤ bs.length) : Rd c w Y (.slice (some ⟨g, o + m, none⟩) (bs.length - m) (cap - m)) (bs.drop m) := by
  obtain ⟨p, cap', e, h1, h2, h3⟩ := h
  simp only [Value.slice.injEq] at e
  obtain ⟨rfl, _, rfl⟩ := e
  refine ⟨_, cap - m, by rw [List.length_drop], by rw [List.length_drop]; omega, by omega, fun j u hj => ?_⟩
  rw [List.map_drop, List.getElem?_drop] at hj
  obtain ⟨g', o', e, hl, hc, hu⟩ := h3 (m + j) u hj
  simp only [Option.some.injEq, Addr.mk.injEq, and_true] at e
  obtain ⟨rfl, rfl⟩ := e
  exact ⟨g, o + m, rfl, hl, hc, by rw [Nat.add_assoc]; exact hu⟩

theorem Rd.empty (c : Col) (w : World) (Y : Nat) (q : Option Addr) : Rd c w Y (.slice q 0 0) [] := ⟨q, 0, rfl, Nat.le_refl _, by simp [maxLen], fun j u hj => by simp at hj⟩

theorem Rd.addr {c : Col} {w : World} {Y : Nat} {q : Option Addr} {n cap : Nat} {bs : Bs} (h : Rd c w Y (.slice q n cap) bs) (h0 : 0 < bs.length) : ∃ g o, q = some ⟨g, o, none⟩ ∧ g < w.heap.size ∧ (c g).1 = Y := by
  obtain ⟨p, cap', e, h1, h2, h3⟩ := h
  simp only [Value.slice.injEq] at e
  obtain ⟨rfl, _, rfl⟩ := e
  obtain ⟨g, o, rfl, hl, hc, _⟩ := h3 0 (B bs[0]) (by simp [h0])
  exact ⟨g, o, rfl, hl, hc⟩

theorem Rd.cell {c : Col} {w : World} {Y : Nat} {g o n cap : Nat} {bs : Bs} (h : Rd c w Y (.slice (some ⟨g, o, none⟩) n cap) bs) (j : Nat) (b : UInt8) (hj : bs[j]? = some b) : w.cell? ⟨g, o + j, none⟩ = some (B b) := by
  obtain ⟨p, cap', e, h1, h2, h3⟩ := h
  simp only [Value.slice.injEq] at e
  obtain ⟨rfl, _, rfl⟩ := e
  obtain ⟨g', o', e, _, _, hu⟩ := h3 j (B b) (by simp [hj])
  simp only [Option.some.injEq, Addr.mk.injEq, and_true] at e
  obtain ⟨rfl, rfl⟩ := e
  exact hu
end Go.Proofs.Ytfeacmlnlljnnaa

/- Slices that are full, cut, copied: what the statements do with lists of records. -/
import Derived.Test.YtfeacmlnlljnnaaLawA
import Derived.Test.YtfeacmlnlljnnaaLaneR
namespace Go.Proofs.Ytfeacmlnlljnnaa
open Go Go.Proofs Go.RowKit

section
variable {P : Program}

theorem run_append_full (w : World) (c : Col) (t u ty e : TypeId) (i : TypeInfo) (z : Value) (sz bytes : Nat) (ht : P.underlying t = some (.slice e)) (hi : P.info? e = some i) (hz : i.zero = some z)
    (hsize : i.size = sz) (hby : i.bytes = bytes) (hzs : z.cells.size = sz) (h0 : 0 < sz)
    (X : Nat) (p : Option Addr) (n : Nat) (xs : List Value) (hv : Rs c w X (.slice p n n) n xs) (hxl : xs.length = n * sz) (k : Nat × Nat)
    (x : Value) (m : Nat) (news : List Value) (hx : Src P w sz u x m news) (hm : 0 < m) (h63 : n + m ≤ maxLen) (hbytes : (n + m) * bytes ≤ 140737488355328) :
    ∃ v' w' c', (Builtin.append_ #[t, u] ty #[.slice p n n, x]).run P w = .ok v' w' ∧ Sl c' w' k sz v' (n + m) (xs ++ news) ∧ Ext (Obs []) c w c' w' := by
  subst hsize
  subst hby
  obtain ⟨hu, hlen, hcells, hl, h1⟩ := hx
  have hl' : (xs ++ news).length = (n + m) * i.size := by rw [List.length_append, hxl, hl, Nat.add_mul]
  have hsmall : n + m ≤ 9223372036854775807 := by simp only [maxLen] at h63; omega
  have grow : ∀ (old : Nat), old < n + m → ∀ w' : World, w' = w.drew.alloc (.cells (xs.toArray ++ news.toArray ++ Builtin.zeroCells z.cells (grownCap w (n + m) old e - (n + m))) e) →
      Sl (setc c w.heap.size k) w' k i.size (.slice (some ⟨w.heap.size, 0, none⟩) (n + m) (grownCap w (n + m) old e)) (n + m) (xs ++ news) ∧ ∀ M, Ext M c w (setc c w.heap.size k) w' := by
    intro old ho w' hw'
    subst hw'
    have hge := grownCap_ge w (n + m) old e
    have hcm : grownCap w (n + m) old e ≤ maxLen := grownCap_le_maxLen w (n + m) old e h63
    refine ⟨⟨hl', .inr ⟨w.heap.size, _, (Builtin.zeroCells z.cells (grownCap w (n + m) old e - (n + m))).toList, rfl, ?_, ?_, hge, hcm⟩⟩, fun M => (Ext.refl M _ _).drew.alloc _ _⟩
    · have h := Blk.newA c w.drew (xs.toArray ++ news.toArray ++ Builtin.zeroCells z.cells (grownCap w (n + m) old e - (n + m))) e k
      simpa using h
    · rw [List.length_append, hl', zeroCells_len _ _ _ hzs, ← Nat.add_mul]
      refine Nat.le_of_eq ?_
      congr 1
      omega
  cases p with
  | none =>
    have hxs : xs = [] := by
      cases xs with
      | nil => rfl
      | cons a l => obtain ⟨_, _, e, _, _, hh⟩ := hv; obtain ⟨g, o, e2, _⟩ := hh 0 a (by simp); simp only [Value.slice.injEq] at e; rw [← e.1] at e2; cases e2
    subst hxs
    have hn : n = 0 := by
      simp only [List.length_nil] at hxl
      rcases Nat.mul_eq_zero.1 hxl.symm with h | h
      · exact h
      · omega
    subst hn
    have hm' : ¬ m = 0 := by omega
    have hc1 := hcells w.drew rfl
    have hl0 := hlen w
    have hm0 : ¬ m ≤ 0 := by omega
    have h63' : ¬ (9223372036854775807 < (m : Int)) := by omega
    have h48' : ¬ (281474976710656 < Builtin.nextslicecap m 0 * i.bytes) := by
      rw [nextslicecap_zero (by omega)]; have hb := hbytes; simp only [Nat.zero_add] at hb; omega
    obtain ⟨h2, h3⟩ := grow 0 (by omega) _ rfl
    simp only [Nat.zero_add, List.nil_append] at h2 h3 ⊢
    refine ⟨_, _, _, ?_, h2, h3 _⟩
    rcases hu with ⟨e', hu⟩ | hu <;> simp [Builtin.append_, run_underlying ht, run_underlying hu, sizeOf, typeInfo, zeroValue, hi, hz, hl0, hm', h63', h48', Question.forced, run_firstCells_none, hc1, newRow, grownCap]
  | some a =>
    have hl0 := hlen w
    have hn : ¬ (n + m ≤ n) := by omega
    have hm' : ¬ m = 0 := by omega
    have h63' : ¬ (9223372036854775807 < ((n : Int) + (m : Int))) := by omega
    have h48 := growslice_fits (old := n) (need := n + m) (by omega) hbytes
    have h48' : ¬ (281474976710656 < Builtin.nextslicecap (n + m) n * i.bytes) := by omega
    have hc1 := hcells w.drew rfl
    have hfo := run_firstCells_some (P := P) w.drew i.size n a n n xs hxl (fun j v hj => by
      obtain ⟨_, _, e, _, _, hh⟩ := hv
      obtain ⟨g, o, e2, _, _, hu⟩ := hh j v hj
      simp only [Value.slice.injEq] at e
      rw [← e.1] at e2
      obtain rfl : a = _ := Option.some.inj e2
      rw [addr_add]
      exact hu)
    obtain ⟨h2, h3⟩ := grow n (by omega) _ rfl
    refine ⟨_, _, _, ?_, h2, h3 _⟩
    rcases hu with ⟨e', hu⟩ | hu <;> simp [Builtin.append_, run_underlying ht, run_underlying hu, sizeOf, typeInfo, zeroValue, hi, hz, hl0, hn, hm', h63', h48', Question.forced, hc1, hfo, newRow, grownCap] <;> (try rw [← List.append_toArray, Array.append_assoc])

/-- append at an operation to a slice that has no room: all is new. -/
theorem append_full {ops : Array Oper} {rest : List Oper} {o : Oper} {a : Act} {w : World} {Q : Exit → Act → World → Prop} (hgd : o.guard = none) (s x : Operand) (t u : TypeId)
    (ho : o.op = .call { callee := .builtin .append, args := #[s, x], argTypes := #[t, u] })
    (e : TypeId) (i : TypeInfo) (z : Value) (sz bytes : Nat) (ht : P.underlying t = some (.slice e)) (hi : P.info? e = some i) (hz : i.zero = some z) (hsize : i.size = sz) (hby : i.bytes = bytes) (hzs : z.cells.size = sz) (h0 : 0 < sz)
    (c : Col) (X : Nat) (p : Option Addr) (n : Nat) (xs : List Value) (hs : a.eval s = .slice p n n) (hv : Rs c w X (.slice p n n) n xs) (hxl : xs.length = n * sz) (k : Nat × Nat)
    (xv : Value) (hxv : a.eval x = xv) (m : Nat) (news : List Value) (hx : Src P w sz u xv m news) (hm : 0 < m) (h63 : n + m ≤ maxLen) (hbytes : (n + m) * bytes ≤ 140737488355328)
    (h : ∀ v' w' c', Sl c' w' k sz v' (n + m) (xs ++ news) → Ext (Obs []) c w c' w' → wpList P ops Q rest (a.put o.dst v') w') : wpList P ops Q (o :: rest) a w := by
  refine wpList_plain hgd fun K hK => ?_
  obtain ⟨v', w', c', hr, h1, h2⟩ := run_append_full (P := P) w c t u o.type e i z sz bytes ht hi hz hsize hby hzs h0 X p n xs hv hxl k xv m news hx hm h63 hbytes
  unfold Oper.wp execOp
  simp only [ho, resolve, invoke, builtin, Sem.run_bind, Sem.run_pure, Result.andThen_ok, List.map_toArray, List.map_cons, List.map_nil, hs, hxv, hr]
  exact hK _ _ (h v' w' c' h1 h2)
end

theorem info_rec : (Try.prog.info? 33).map (fun i => (i.zero, i.size, i.bytes)) = some (some (.agg zeroRec.toArray), 8, 104) := by kernel_rfl

theorem recs_len (ps : List (Rec × Value)) : (ps.flatMap fun p => recCells p.1 p.2).length = ps.length * 8 := flatMap_len _ 8 ps (fun x _ => rfl)
theorem recs_one (ps : List (Rec × Value)) (h : ∀ p ∈ ps, p.2.oneCell' = true) : ∀ u ∈ ps.flatMap fun p => recCells p.1 p.2, u.oneCell' = true := by
  intro u hu
  obtain ⟨p, hp, hu⟩ := List.mem_flatMap.1 hu
  exact one_recCells p.1 p.2 (h p hp) u hu
theorem Dirt.one {c : Col} {w : World} {Y : Nat} {dv : Value} {r : Rec} (h : Dirt c w Y dv r) : dv.oneCell' = true := by
  obtain ⟨p, cap, rfl, _⟩ := h; rfl

/-- The first ones of records; from m on. -/
theorem Recs.take {c : Col} {w : World} {Y : Nat} {p : Option Addr} {n cap : Nat} {rs : List Rec} (h : Recs c w Y (.slice p n cap) rs) (m : Nat) (hm : m ≤ rs.length) : Recs c w Y (.slice p m m) (rs.take m) := by
  obtain ⟨ps, h1, ⟨p', cap', e, h2, h3, h4⟩, h5⟩ := h
  simp only [Value.slice.injEq] at e
  obtain ⟨rfl, rfl, rfl⟩ := e
  have hpl : ps.length = rs.length := by rw [← h1, List.length_map]
  have hl : (rs.take m).length = m := by rw [List.length_take]; omega
  refine ⟨ps.take m, by rw [List.map_take, h1], ⟨p, m, by rw [hl], by omega, by omega, fun j u hj => ?_⟩, fun q hq => h5 q (List.mem_of_mem_take hq)⟩
  refine h4 j u ?_
  have hlt := (List.getElem?_eq_some_iff.1 hj).1
  have : (ps.flatMap fun p => recCells p.1 p.2) = ((ps.take m).flatMap fun p => recCells p.1 p.2) ++ ((ps.drop m).flatMap fun p => recCells p.1 p.2) := by
    rw [← List.flatMap_append, List.take_append_drop]
  rw [this, List.getElem?_append_left hlt]
  exact hj

theorem Recs.from {c : Col} {w : World} {Y : Nat} {p : Option Addr} {n cap : Nat} {rs : List Rec} (h : Recs c w Y (.slice p n cap) rs) (m : Nat) (hm : m ≤ rs.length) :
    (cap = m → Recs c w Y (.slice p (n - m) 0) (rs.drop m)) ∧ (cap ≠ m → Recs c w Y (.slice (p.map fun x => x.add (m * 8)) (n - m) (cap - m)) (rs.drop m)) := by
  obtain ⟨ps, h1, ⟨p', cap', e, h2, h3, h4⟩, h5⟩ := h
  simp only [Value.slice.injEq] at e
  obtain ⟨rfl, rfl, rfl⟩ := e
  have hpl : ps.length = rs.length := by rw [← h1, List.length_map]
  have hl : (rs.drop m).length = rs.length - m := List.length_drop
  refine ⟨fun e => ?_, fun e => ⟨ps.drop m, by rw [List.map_drop, h1], ⟨_, cap - m, by rw [hl], by omega, by omega, fun j u hj => ?_⟩, fun q hq => h5 q (List.mem_of_mem_drop hq)⟩⟩
  · have hd : rs.drop m = [] := List.drop_eq_nil_of_le (by omega)
    have h0 : rs.length - m = 0 := by omega
    rw [hd, h0]
    exact ⟨[], rfl, ⟨p, 0, rfl, Nat.le_refl _, by simp [maxLen], fun j u hj => by simp at hj⟩, fun q hq => by simp at hq⟩
  · have hx : (ps.flatMap fun p => recCells p.1 p.2)[m * 8 + j]? = some u := by
      have : (ps.flatMap fun p => recCells p.1 p.2) = ((ps.take m).flatMap fun p => recCells p.1 p.2) ++ ((ps.drop m).flatMap fun p => recCells p.1 p.2) := by
        rw [← List.flatMap_append, List.take_append_drop]
      rw [this, List.getElem?_append_right (by rw [recs_len, List.length_take]; omega), recs_len, List.length_take]
      rw [Nat.min_eq_left (by omega), Nat.add_sub_cancel_left]
      exact hj
    obtain ⟨g, o, rfl, hlt, hc, hu⟩ := h4 (m * 8 + j) u hx
    refine ⟨g, o + m * 8, by rw [Option.map_some, addr_add], hlt, hc, ?_⟩
    rw [Nat.add_assoc]; exact hu

/-- Records behind an append. -/
theorem Recs.mk' {c : Col} {w : World} {Y q : Nat} {v : Value} {n : Nat} {rs : List Rec} {ps : List (Rec × Value)} (h1 : ps.map Prod.fst = rs) (hS : Sl c w (Y, q) 8 v n (ps.flatMap fun p => recCells p.1 p.2)) (h3 : ∀ p ∈ ps, Dirt c w Y p.2 p.1) : Recs c w Y v rs := by
  have hn : n = rs.length := by
    have := hS.1
    rw [recs_len] at this
    rw [← h1, List.length_map]; omega
  refine ⟨ps, h1, ?_, h3⟩
  rw [← hn]
  exact hS.rs

theorem Recs.src {c : Col} {w : World} {Y : Nat} {v : Value} {rs : List Rec} (h : Recs c w Y v rs) : ∃ ps : List (Rec × Value), ps.map Prod.fst = rs ∧ Src Try.prog w 8 34 v rs.length (ps.flatMap fun p => recCells p.1 p.2) ∧ ∀ p ∈ ps, Dirt c w Y p.2 p.1 := by
  obtain ⟨ps, h1, h2, h3⟩ := h
  exact ⟨ps, h1, Rs.src h2 8 34 33 Try.underlying34 (by rw [recs_len, ← h1, List.length_map]) (recs_one ps fun p hp => Dirt.one (h3 p hp)), h3⟩
end Go.Proofs.Ytfeacmlnlljnnaa

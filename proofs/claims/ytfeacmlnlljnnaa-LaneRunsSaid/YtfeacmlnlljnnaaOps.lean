/- Laws on single operations (loads and stores of many cells, append, copy) in terms of coloured blocks. Any program. -/
import Derived.Test.YtfeacmlnlljnnaaBase
import Derived.Great.FillDense
namespace Go.Proofs.Ytfeacmlnlljnnaa
open Go Go.RowKit

section
variable {P : Program}

theorem load_agg_run {o : Oper} {a : Act} {w : World} (ty : TypeId) (x : Operand) (ho : o.op = .load ty x)
    (g off : Nat) (hx : a.eval x = .pointer (some ⟨g, off, none⟩)) (cs : List Value) (d : TypeDesc)
    (hu : P.underlying ty = some d) (hd : (match d with | .struct _ | .array _ _ => true | _ => false) = true) (hi : (P.info? ty).map (·.size) = some cs.length)
    (hc : ∀ j u, cs[j]? = some u → w.cell? ⟨g, off + j, none⟩ = some u) : (execOp a.eval o).run P w = .ok (.value (.agg cs.toArray)) w := by
  have hl : (loadCells ⟨g, off, none⟩ cs.length).run P w = .ok cs.toArray w := run_loadCells_list w _ cs (fun j v hv => by rw [addr_add]; exact hc j v hv)
  cases hq : P.info? ty with
  | none => simp [hq] at hi
  | some i =>
    have hs : i.size = cs.length := by simpa [hq] using hi
    have hagg : (isAgg ty).run P w = .ok true w := by
      unfold isAgg
      rw [Sem.run_bind, run_underlying hu w]
      cases d <;> simp_all
    have hr : (loadVar ty ⟨g, off, none⟩).run P w = .ok (.agg cs.toArray) w := by
      simp [loadVar, Sem.run_bind, hagg, sizeOf, typeInfo, hq, hs, hl]
    unfold execOp
    simp only [ho, hx, Instr.loadAt, Instr.sureAddr, Sem.run_bind, Sem.run_pure, Result.andThen_ok, hr]

/-- In a region whose operations only read: a value, by its run. -/
theorem still_val {ops : Array Oper} {rest : List Oper} {o : Oper} {a : Act} {w : World} {K : Act → Prop} (v : Value) (hg : o.guard = none) (hr : (execOp a.eval o).run P w = .ok (.value v) w) (h : wpStill P ops w K rest (a.put o.dst v)) : wpStill P ops w K (o :: rest) a := by
  refine wpStill_step (fun Z hZ => ?_)
  rw [if_pos (by simp [Region.wanted, hg])]
  unfold Oper.still
  rw [hr]
  exact ⟨rfl, hZ _ h⟩

theorem load_agg {ops : Array Oper} {rest : List Oper} {o : Oper} {a : Act} {w : World} {Q : Exit → Act → World → Prop} (hgd : o.guard = none) (ty : TypeId) (x : Operand) (ho : o.op = .load ty x)
    (g off : Nat) (hx : a.eval x = .pointer (some ⟨g, off, none⟩)) (cs : List Value) (d : TypeDesc)
    (hu : P.underlying ty = some d) (hd : (match d with | .struct _ | .array _ _ => true | _ => false) = true) (hi : (P.info? ty).map (·.size) = some cs.length)
    (hc : ∀ j u, cs[j]? = some u → w.cell? ⟨g, off + j, none⟩ = some u)
    (h : wpList P ops Q rest (a.put o.dst (.agg cs.toArray)) w) : wpList P ops Q (o :: rest) a w := by
  refine wpList_plain hgd fun K hK => ?_
  unfold Oper.wp
  rw [load_agg_run ty x ho g off hx cs d hu hd hi hc]
  exact hK _ _ h

theorem store_agg {ops : Array Oper} {rest : List Oper} {o : Oper} {a : Act} {w : World} {Q : Exit → Act → World → Prop} (hgd : o.guard = none) (hds : o.dst = none) (ty : TypeId) (x y : Operand) (ho : o.op = .store ty x y)
    (g off : Nat) (hx : a.eval x = .pointer (some ⟨g, off, none⟩)) (cs : List Value) (hy : a.eval y = .agg cs.toArray) (hi : (P.info? ty).map (·.size) = some cs.length)
    (c : Col) (z : Nat × Nat) (cur : List Value) (hb : Blk c w g z cur) (hfit : off + cs.length ≤ cur.length) (h1 : ∀ u ∈ cs, u.oneCell' = true)
    (h : wpList P ops Q rest a (w.setRow g (cur.take off ++ cs ++ cur.drop (off + cs.length)).toArray)) : wpList P ops Q (o :: rest) a w := by
  refine wpList_plain hgd fun K hK => ?_
  obtain ⟨_, T, hg⟩ := hb
  have hst := run_storeCells_at P g off T cs 0 cur.toArray w hg (by simpa using hfit) h1
  cases hq : P.info? ty with
  | none => simp [hq] at hi
  | some i =>
    have hs : i.size = cs.length := by simpa [hq] using hi
    simp only [Nat.add_zero] at hst
    have hr : (storeVar ty ⟨g, off, none⟩ (.agg cs.toArray)).run P w = .ok () (w.setRow g (cur.take off ++ cs ++ cur.drop (off + cs.length)).toArray) := by
      simp [storeVar, Sem.run_bind, Value.cells, sizeOf, typeInfo, hq, hs, hst]
    unfold Oper.wp execOp
    simp only [ho, hx, hy, Instr.storeAt, Instr.sureAddr, Sem.run_bind, Sem.run_pure, Result.andThen_ok, hr]
    rw [show Oper.upon P o a K Q = fun r => Oper.upon P o a K Q r from rfl]
    simp only [Oper.upon, hds]
    exact hK _ _ h

/-- A store of a whole value into the block that was just made. -/
theorem store_new {ops : Array Oper} {rest : List Oper} {o : Oper} {a : Act} {w1 : World} {Z : Array Value} {T : TypeId} {Q : Exit → Act → World → Prop} (hgd : o.guard = none) (hds : o.dst = none) (ty : TypeId) (x y : Operand) (ho : o.op = .store ty x y)
    (g : Nat) (hx : a.eval x = .pointer (some ⟨g, 0, none⟩)) (hg : g = w1.heap.size) (cs : Array Value) (hy : a.eval y = .agg cs) (hi : (P.info? ty).map (·.size) = some cs.size) (hz : Z.size = cs.size) (h1 : ∀ u ∈ cs.toList, u.oneCell' = true)
    (h : wpList P ops Q rest a (w1.alloc (.cells cs T))) : wpList P ops Q (o :: rest) a (w1.alloc (.cells Z T)) := by
  subst hg
  have hb : Blk (setc (fun _ => (0, 0)) w1.heap.size (0, 0)) (w1.alloc (.cells Z T)) w1.heap.size (0, 0) Z.toList := Blk.newA _ w1 Z T (0, 0)
  refine store_agg (cs := cs.toList) hgd hds ty x y ho w1.heap.size 0 hx (by simpa using hy) (by simpa using hi) _ _ _ hb (by simp [hz]) h1 ?_
  have e : (w1.alloc (.cells Z T)).setRow w1.heap.size (List.take 0 Z.toList ++ cs.toList ++ List.drop (0 + cs.toList.length) Z.toList).toArray = w1.alloc (.cells cs T) := by
    have e1 : (List.take 0 Z.toList ++ cs.toList ++ List.drop (0 + cs.toList.length) Z.toList).toArray = cs := by
      rw [List.drop_eq_nil_of_le (by simp [hz])]; simp
    rw [e1]
    have h2 := hb.2
    simp only [World.setRow, World.alloc]
    congr 1
    apply Array.ext_getElem?
    intro k
    simp only [Array.getElem?_modify, Array.getElem?_push]
    by_cases hk : k = w1.heap.size
    · subst hk; simp
    · simp [hk]; intro e; exact absurd e.symm hk
  rw [e]
  exact h

/-- What is appended: a slice's first cells, or a string's bytes. -/
structure Src (P : Program) (w : World) (size : Nat) (u : TypeId) (x : Value) (m : Nat) (news : List Value) : Prop where
  ty : (∃ e, P.underlying u = some (.slice e)) ∨ P.underlying u = some .string
  len : ∀ w', (Builtin.lenOf x).run P w' = .ok m w'
  cells : ∀ w', w'.heap = w.heap → (Builtin.firstCells size m x).run P w' = .ok news.toArray w'
  size : news.length = m * size
  one : ∀ v ∈ news, v.oneCell' = true

theorem Rs.src {c : Col} {w : World} {X : Nat} {v : Value} {m : Nat} {news : List Value} (h : Rs c w X v m news) (size : Nat) (u e : TypeId) (hu : P.underlying u = some (.slice e)) (hl : news.length = m * size)
    (h1 : ∀ u ∈ news, u.oneCell' = true) : Src P w size u v m news := by
  obtain ⟨p, cap, rfl, hc⟩ := h.cells
  refine ⟨.inl ⟨_, hu⟩, fun w' => by simp [Builtin.lenOf], fun w' hw => ?_, hl, h1⟩
  cases p with
  | none =>
    have : news = [] := by
      cases news with
      | nil => rfl
      | cons a l => obtain ⟨a', h, _⟩ := hc 0 a (by simp); cases h
    subst this
    simp [Builtin.firstCells]
  | some a =>
    refine run_firstCells_some w' size m a m cap news hl (fun j v hv => ?_)
    obtain ⟨a', h, hv⟩ := hc j v hv
    obtain rfl : a = a' := Option.some.inj h
    rw [World.cell?_of_block (w := w) (by rw [hw])]
    exact hv

theorem str_src (w : World) (s : ByteArray) (u : TypeId) (hu : P.underlying u = some .string) : Src P w 1 u (.string s) s.size (s.data.toList.map fun b => Value.int .u8 (b.toNat : Int)) := by
  refine ⟨.inr hu, fun w' => by simp [Builtin.lenOf], fun w' hw => ?_, by rw [List.length_map, Nat.mul_one]; rfl, ?_⟩
  · have hx : (s.data.map fun b : UInt8 => Value.int .u8 (b.toNat : Int)) = (s.data.toList.map fun b => Value.int .u8 (b.toNat : Int)).toArray := by
      rw [← List.map_toArray]
    have hs : (s.extract 0 s.size).data = s.data := by
      have : s.extract 0 s.size = s := by simp
      rw [this]
    simp only [Builtin.firstCells, hs, hx]
    rfl
  · intro v hv
    simp only [List.mem_map] at hv
    obtain ⟨b, _, rfl⟩ := hv
    rfl

theorem cells_src {w : World} (g o : Nat) (m cap size : Nat) (news : List Value) (u e : TypeId) (hu : P.underlying u = some (.slice e)) (hl : news.length = m * size)
    (hc : ∀ j v, news[j]? = some v → w.cell? ⟨g, o + j, none⟩ = some v) (h1 : ∀ u ∈ news, u.oneCell' = true) : Src P w size u (.slice (some ⟨g, o, none⟩) m cap) m news :=
  ⟨.inl ⟨_, hu⟩, fun w' => by simp [Builtin.lenOf], fun w' hw => run_firstCells_some w' size m ⟨g, o, none⟩ m cap news hl (fun j v hv => by
    rw [addr_add, World.cell?_of_block (w := w) (by rw [hw])]; exact hc j v hv), hl, h1⟩

/-- What an append to v may change of old memory. -/
def own (v : Value) (k : Nat × Nat) : Nat × Nat → Prop := fun x => x = k ∧ ∃ a n c, v = .slice (some a) n c
theorem own_nil (k : Nat × Nat) {c c' : Col} {w w' : World} (h : Ext (own (.slice none 0 0) k) c w c' w') : Ext (Obs []) c w c' w' := h.mono (fun x ⟨_, a, n, c, e⟩ => by cases e)
theorem own_obs {v : Value} {k : Nat × Nat} {c c' : Col} {w w' : World} (h : Ext (own v k) c w c' w') : Ext (Obs [k.1]) c w c' w' := h.mono (fun x ⟨e, _⟩ => by subst e; simp [Obs])

theorem zeroCells_len (z : Array Value) (n sz : Nat) (h : z.size = sz) : (Builtin.zeroCells z n).toList.length = n * sz := by simp [size_zeroCells, h]

theorem run_append_sl (w : World) (c : Col) (t u ty e : TypeId) (i : TypeInfo) (z : Value) (sz bytes : Nat) (ht : P.underlying t = some (.slice e)) (hi : P.info? e = some i) (hz : i.zero = some z)
    (hsize : i.size = sz) (hby : i.bytes = bytes) (hzs : z.cells.size = sz)
    (v : Value) (k : Nat × Nat) (n : Nat) (xs : List Value) (hv : Sl c w k sz v n xs)
    (x : Value) (m : Nat) (news : List Value) (hx : Src P w sz u x m news) (h63 : n + m ≤ maxLen) (hbytes : (n + m) * bytes ≤ 140737488355328) :
    ∃ v' w' c', (Builtin.append_ #[t, u] ty #[v, x]).run P w = .ok v' w' ∧ Sl c' w' k sz v' (n + m) (xs ++ news) ∧ Ext (own v k) c w c' w' := by
  subst hsize
  subst hby
  obtain ⟨hu, hlen, hcells, hl, h1⟩ := hx
  have hl' : (xs ++ news).length = (n + m) * i.size := by rw [List.length_append, hv.1, hl, Nat.add_mul]
  have hsmall : n + m ≤ 9223372036854775807 := by simp only [maxLen] at h63; omega
  have grow : ∀ (old : Nat), old < n + m → ∀ w' : World, w' = w.drew.alloc (.cells (xs.toArray ++ news.toArray ++ Builtin.zeroCells z.cells (grownCap w (n + m) old e - (n + m))) e) →
      Sl (setc c w.heap.size k) w' k i.size (.slice (some ⟨w.heap.size, 0, none⟩) (n + m) (grownCap w (n + m) old e)) (n + m) (xs ++ news) ∧ ∀ M, Ext M c w (setc c w.heap.size k) w' := by
    intro old ho w' hw'
    subst hw'
    have hge := grownCap_ge w (n + m) old e
    have hcm : grownCap w (n + m) old e ≤ maxLen := grownCap_le_maxLen w (n + m) old e h63
    refine ⟨⟨hl', .inr ⟨w.heap.size, _, (Builtin.zeroCells z.cells (grownCap w (n + m) old e - (n + m))).toList, rfl, ?_, ?_, hge, hcm⟩⟩, fun M => (Ext.refl M _ _).drew.alloc _ _⟩
    · have h := Blk.newA c w.drew (xs.toArray ++ news.toArray ++ Builtin.zeroCells z.cells (grownCap w (n + m) old e - (n + m))) e k
      simpa using h
    · rw [List.length_append, hl', zeroCells_len _ _ _ hzs, ← Nat.add_mul]
      refine Nat.le_of_eq ?_
      congr 1
      omega
  rcases hv.2 with ⟨rfl, rfl⟩ | ⟨g, cap, cur, rfl, hb, hcl, hnc, hcm⟩
  · have hxs : xs = [] := List.eq_nil_of_length_eq_zero (by simpa using hv.1)
    subst hxs
    by_cases hm : m = 0
    · subst hm
      have hn : news = [] := List.eq_nil_of_length_eq_zero (by simpa using hl)
      subst hn
      refine ⟨.slice none 0 0, w, c, ?_, Sl.nil c w k i.size, Ext.refl _ _ _⟩
      have hc0 := hcells w rfl
      have hl0 := hlen w
      rcases hu with ⟨e', hu⟩ | hu <;> simp [Builtin.append_, run_underlying ht, run_underlying hu, sizeOf, typeInfo, hi, hl0, hc0]
    · have hc1 := hcells w.drew rfl
      have hl0 := hlen w
      have hm0 : ¬ m ≤ 0 := by omega
      have h63' : ¬ (9223372036854775807 < (m : Int)) := by omega
      have h48' : ¬ (281474976710656 < Builtin.nextslicecap m 0 * i.bytes) := by
        rw [nextslicecap_zero (by omega)]; have hb := hbytes; simp only [Nat.zero_add] at hb; omega
      obtain ⟨h2, h3⟩ := grow 0 (by omega) _ rfl
      simp only [Nat.zero_add, List.nil_append] at h2 h3 ⊢
      refine ⟨_, _, _, ?_, h2, h3 _⟩
      rcases hu with ⟨e', hu⟩ | hu <;> simp [Builtin.append_, run_underlying ht, run_underlying hu, sizeOf, typeInfo, zeroValue, hi, hz, hl0, hm, h63', h48', Question.forced, run_firstCells_none, hc1, newRow, grownCap]
  · have hlo : xs.length = n * i.size := hv.1
    have hl0 := hlen w
    by_cases hroom : n + m ≤ cap
    · have hfit : n * i.size + news.length ≤ (xs ++ cur).length := by rw [hl, ← Nat.add_mul]; exact Nat.le_trans (Nat.mul_le_mul_right _ hroom) hcl
      have hc1 := hcells w rfl
      obtain ⟨hcol, T, hg⟩ := id hb
      have hst := run_storeCells_at P g (n * i.size) T news 0 (xs ++ cur).toArray w hg (by simpa using hfit) h1
      simp only [Nat.add_zero] at hst
      have htk : (xs ++ cur).take (n * i.size) = xs := by rw [← hlo]; exact List.take_left
      rw [htk] at hst
      refine ⟨.slice (some ⟨g, 0, none⟩) (n + m) cap, w.setRow g (xs ++ news ++ (xs ++ cur).drop (n * i.size + news.length)).toArray, c, ?_,
        ⟨hl', .inr ⟨g, cap, (xs ++ cur).drop (n * i.size + news.length), rfl, hb.row _, ?_, hroom, hcm⟩⟩, (Ext.refl _ _ _).setRow (g := g) (by rw [hcol]; exact ⟨rfl, _, _, _, rfl⟩) _⟩
      · rcases hu with ⟨e', hu⟩ | hu <;> simp [Builtin.append_, run_underlying ht, run_underlying hu, sizeOf, typeInfo, hi, hl0, hroom, hc1, Addr.add_lit, hst]
      · have hfit' := hfit
        rw [List.length_append] at hcl hfit' ⊢
        rw [List.length_append, List.length_drop, List.length_append]
        omega
    · have hn : ¬ (n + m ≤ cap) := hroom
      have h63' : ¬ (9223372036854775807 < ((n : Int) + (m : Int))) := by omega
      have h48 := growslice_fits (old := cap) (need := n + m) (by omega) hbytes
      have h48' : ¬ (281474976710656 < Builtin.nextslicecap (n + m) cap * i.bytes) := by omega
      have hc1 := hcells w.drew rfl
      have hfo := run_firstCells_some (P := P) w.drew i.size n ⟨g, 0, none⟩ n cap xs hlo (fun j v hj => by
        rw [addr_add, Nat.zero_add]
        show w.cell? _ = _
        rw [hb.cell j, List.getElem?_append_left (List.getElem?_eq_some_iff.1 hj).1]
        exact hj)
      obtain ⟨h2, h3⟩ := grow cap (by omega) _ rfl
      refine ⟨_, _, _, ?_, h2, h3 _⟩
      rcases hu with ⟨e', hu⟩ | hu <;> simp [Builtin.append_, run_underlying ht, run_underlying hu, sizeOf, typeInfo, zeroValue, hi, hz, hl0, hn, h63', h48', Question.forced, hc1, hfo, newRow, grownCap] <;> (rw [← List.append_toArray, Array.append_assoc])

/-- append at an operation: the slice is an object's own (colour k). -/
theorem append_sl {ops : Array Oper} {rest : List Oper} {o : Oper} {a : Act} {w : World} {Q : Exit → Act → World → Prop} (hgd : o.guard = none) (s x : Operand) (t u : TypeId)
    (ho : o.op = .call { callee := .builtin .append, args := #[s, x], argTypes := #[t, u] })
    (e : TypeId) (i : TypeInfo) (z : Value) (sz bytes : Nat) (ht : P.underlying t = some (.slice e)) (hi : P.info? e = some i) (hz : i.zero = some z) (hsize : i.size = sz) (hby : i.bytes = bytes) (hzs : z.cells.size = sz)
    (c : Col) (k : Nat × Nat) (v : Value) (n : Nat) (xs : List Value) (hs : a.eval s = v) (hv : Sl c w k sz v n xs)
    (xv : Value) (hxv : a.eval x = xv) (m : Nat) (news : List Value) (hx : Src P w sz u xv m news) (h63 : n + m ≤ maxLen) (hbytes : (n + m) * bytes ≤ 140737488355328)
    (h : ∀ v' w' c', Sl c' w' k sz v' (n + m) (xs ++ news) → Ext (own v k) c w c' w' → wpList P ops Q rest (a.put o.dst v') w') : wpList P ops Q (o :: rest) a w := by
  refine wpList_plain hgd fun K hK => ?_
  obtain ⟨v', w', c', hr, h1, h2⟩ := run_append_sl (P := P) w c t u o.type e i z sz bytes ht hi hz hsize hby hzs v k n xs hv xv m news hx h63 hbytes
  unfold Oper.wp execOp
  simp only [ho, resolve, invoke, builtin, Sem.run_bind, Sem.run_pure, Result.andThen_ok, List.map_toArray, List.map_cons, List.map_nil, hs, hxv, hr]
  exact hK _ _ (h v' w' c' h1 h2)

/-- copy into a block of colour k, from off on. -/
theorem copy_blk {ops : Array Oper} {rest : List Oper} {o : Oper} {a : Act} {w : World} {Q : Exit → Act → World → Prop} (hgd : o.guard = none) (d s : Operand) (t u : TypeId)
    (ho : o.op = .call { callee := .builtin .copy, args := #[d, s], argTypes := #[t, u] })
    (e : TypeId) (i : TypeInfo) (ht : P.underlying t = some (.slice e)) (hi : P.info? e = some i) (hsize : i.size = 1)
    (c : Col) (k : Nat × Nat) (g off dn dc : Nat) (cur : List Value) (hd : a.eval d = .slice (some ⟨g, off, none⟩) dn dc) (hb : Blk c w g k cur)
    (xv : Value) (hxv : a.eval s = xv) (m : Nat) (news : List Value) (hx : ∀ w', (Builtin.lenOf xv).run P w' = .ok m w') (hc : (Builtin.firstCells 1 (Nat.min m dn) xv).run P w = .ok news.toArray w) (hl : news.length = Nat.min m dn)
    (h1 : ∀ u ∈ news, u.oneCell' = true) (hfit : off + news.length ≤ cur.length)
    (h : wpList P ops Q rest (a.put o.dst (goInt news.length)) (w.setRow g (cur.take off ++ news ++ cur.drop (off + news.length)).toArray)) : wpList P ops Q (o :: rest) a w := by
  refine wpList_plain hgd fun K hK => ?_
  obtain ⟨_, T, hg⟩ := hb
  have hst := run_storeCells_at P g off T news 0 cur.toArray w hg (by simpa using hfit) h1
  simp only [Nat.add_zero] at hst
  have hr : (Builtin.copy_ #[t, u] o.type #[.slice (some ⟨g, off, none⟩) dn dc, xv]).run P w = .ok (goInt news.length) (w.setRow g (cur.take off ++ news ++ cur.drop (off + news.length)).toArray) := by
    have hx0 := hx w
    rw [hl] at hst
    simp only [Builtin.copy_]
    simp [run_underlying ht, sizeOf, typeInfo, hi, hsize, hx0, hc, hl]
    simp at hst
    simp [hst]
  unfold Oper.wp execOp
  simp only [ho, resolve, invoke, builtin, Sem.run_bind, Sem.run_pure, Result.andThen_ok, List.map_toArray, List.map_cons, List.map_nil, hd, hxv, hr]
  exact hK _ _ h

theorem setRow_alloc (w1 : World) (Z cs : Array Value) (T : TypeId) : (w1.alloc (.cells Z T)).setRow w1.heap.size cs = w1.alloc (.cells cs T) := by
  simp only [World.setRow, World.alloc]
  congr 1
  apply Array.ext_getElem?
  intro k
  simp only [Array.getElem?_modify, Array.getElem?_push]
  by_cases hk : k = w1.heap.size
  · subst hk; simp
  · simp [hk]; intro e; exact absurd e.symm hk

/-- copy into the block that was just made. -/
theorem copy_new {ops : Array Oper} {rest : List Oper} {o : Oper} {a : Act} {w1 : World} {Z : Array Value} {T : TypeId} {Q : Exit → Act → World → Prop} (hgd : o.guard = none) (d s : Operand) (t u : TypeId)
    (ho : o.op = .call { callee := .builtin .copy, args := #[d, s], argTypes := #[t, u] })
    (e : TypeId) (i : TypeInfo) (ht : P.underlying t = some (.slice e)) (hi : P.info? e = some i) (hsize : i.size = 1)
    (g off dn dc : Nat) (hd : a.eval d = .slice (some ⟨g, off, none⟩) dn dc) (hg : g = w1.heap.size)
    (xv : Value) (hxv : a.eval s = xv) (m : Nat) (news : List Value) (hx : ∀ w', (Builtin.lenOf xv).run P w' = .ok m w') (hc : (Builtin.firstCells 1 (Nat.min m dn) xv).run P (w1.alloc (.cells Z T)) = .ok news.toArray (w1.alloc (.cells Z T))) (hl : news.length = Nat.min m dn)
    (h1 : ∀ u ∈ news, u.oneCell' = true) (hfit : off + news.length ≤ Z.size)
    (h : wpList P ops Q rest (a.put o.dst (goInt news.length)) (w1.alloc (.cells (Z.toList.take off ++ news ++ Z.toList.drop (off + news.length)).toArray T))) : wpList P ops Q (o :: rest) a (w1.alloc (.cells Z T)) := by
  subst hg
  have hb : Blk (setc (fun _ => (0, 0)) w1.heap.size (0, 0)) (w1.alloc (.cells Z T)) w1.heap.size (0, 0) Z.toList := Blk.newA _ w1 Z T (0, 0)
  refine copy_blk hgd d s t u ho e i ht hi hsize _ _ w1.heap.size off dn dc Z.toList hd hb xv hxv m news hx hc hl h1 (by simpa using hfit) ?_
  rw [setRow_alloc]
  exact h

/-- copy of a slice or a string that fits into the block that was just made. -/
theorem copy_newS {ops : Array Oper} {rest : List Oper} {o : Oper} {a : Act} {w1 : World} {Z : Array Value} {T : TypeId} {Q : Exit → Act → World → Prop} (hgd : o.guard = none) (d s : Operand) (t u : TypeId)
    (ho : o.op = .call { callee := .builtin .copy, args := #[d, s], argTypes := #[t, u] })
    (e : TypeId) (i : TypeInfo) (ht : P.underlying t = some (.slice e)) (hi : P.info? e = some i) (hsize : i.size = 1)
    (g off dn dc : Nat) (hd : a.eval d = .slice (some ⟨g, off, none⟩) dn dc) (hg : g = w1.heap.size)
    (xv : Value) (hxv : a.eval s = xv) (m : Nat) (news : List Value) (hx : Src P (w1.alloc (.cells Z T)) 1 u xv m news) (hm : m ≤ dn) (hfit : off + news.length ≤ Z.size)
    (h : wpList P ops Q rest (a.put o.dst (goInt news.length)) (w1.alloc (.cells (Z.toList.take off ++ news ++ Z.toList.drop (off + news.length)).toArray T))) : wpList P ops Q (o :: rest) a (w1.alloc (.cells Z T)) := by
  have e1 : Nat.min m dn = m := Nat.min_eq_left hm
  exact copy_new hgd d s t u ho e i ht hi hsize g off dn dc hd hg xv hxv m news hx.len (by rw [e1]; exact hx.cells _ rfl) (by rw [e1, hx.size, Nat.mul_one]) hx.one hfit h

/-- []T{v}, v of many cells: a new block with them. -/
theorem build_one {ops : Array Oper} {rest : List Oper} {o : Oper} {a : Act} {w : World} {Q : Exit → Act → World → Prop} (hgd : o.guard = none) (t : TypeId) (x : Operand) (ho : o.op = .buildSlice t 1 #[(0, x)])
    (e : TypeId) (i : TypeInfo) (z : Value) (sz : Nat) (ht : P.underlying t = some (.slice e)) (hi : P.info? e = some i) (hz : i.zero = some z) (hsize : i.size = sz) (hzs : z.cells.size = sz) (h0 : 0 < sz) (hs : sz ≤ 16777216)
    (cs : Array Value) (hx : (a.eval x).cells = cs) (hcs : cs.size = sz)
    (h : wpList P ops Q rest (a.put o.dst (.slice (some ⟨w.heap.size, 0, none⟩) 1 1)) (w.alloc (.cells cs e))) : wpList P ops Q (o :: rest) a w := by
  refine wpList_plain hgd fun K hK => ?_
  have hfill := Great.fill_whole h0 [a.eval x] (Array.map (fun x => z.cells[x % z.cells.size]!) (Array.range sz)) (by simp [hx, hcs]) (by simp)
  have e0 : ((List.zipIdx [a.eval x] 0).map fun x => (x.2, x.1)) = [(0, a.eval x)] := rfl
  rw [e0] at hfill
  have e2 : (List.flatMap (fun v => v.cells.toList) [a.eval x]).toArray = cs := by simp [hx]
  rw [e2] at hfill
  have hr : (Instr.buildSlice t 1 #[(0, a.eval x)]).run P w = .ok (.slice (some ⟨w.heap.size, 0, none⟩) 1 1) (w.alloc (.cells cs e)) := by
    have hsz : ¬ sz = 0 := by omega
    have hs' : ¬ 16777216 < sz := by omega
    simp [Instr.buildSlice, run_underlying ht, sizeOf, zeroValue, typeInfo, hi, hz, hsize, hsz, hs', hfill, newRow]
  unfold Oper.wp execOp
  simp only [ho, Sem.run_bind, Sem.run_pure, Result.andThen_ok, List.map_toArray, List.map_cons, List.map_nil, hr]
  exact hK _ _ h

/-- make([]T, n): a new block of zeros. -/
theorem make_new {ops : Array Oper} {rest : List Oper} {o : Oper} {a : Act} {w : World} {Q : Exit → Act → World → Prop} (hgd : o.guard = none) (t : TypeId) (x y : Operand) (ho : o.op = .makeSlice t x y)
    (e : TypeId) (i : TypeInfo) (z : Value) (sz bytes : Nat) (ht : P.underlying t = some (.slice e)) (hi : P.info? e = some i) (hz : i.zero = some z) (hsize : i.size = sz) (hby : i.bytes = bytes)
    (n : Nat) (kl kc : IntKind) (hx : a.eval x = .int kl (n : Int)) (hy : a.eval y = .int kc (n : Int)) (hb : bytes * n ≤ 281474976710656) (h63 : n ≤ 9223372036854775807)
    (hroom : n * bytes ≤ 140737488355328)
    (h : wpList P ops Q rest (a.put o.dst (.slice (some ⟨w.heap.size, 0, none⟩) n n)) (w.alloc (.cells (madeCells z.cells (n * sz)) e))) : wpList P ops Q (o :: rest) a w := by
  subst hsize
  subst hby
  refine wpList_plain hgd fun K hK => ?_
  have hr := run_make (P := P) w t e i z ht hi hz kl kc (n : Int) (n : Int) (by omega) (Int.le_refl _) (by
    have : ((i.bytes * n : Nat) : Int) ≤ 281474976710656 := by omega
    simpa using this) (by omega)
  rw [Int.toNat_natCast] at hr
  unfold Oper.wp execOp
  simp only [ho, hx, hy, Sem.run_bind, Sem.run_pure, Result.andThen_ok, hr]
  exact hK _ _ h

theorem madeCells_rep (v : Value) (k n : Nat) (hk : 0 < k) : (madeCells (List.replicate k v).toArray n).toList = List.replicate n v := by
  apply List.ext_getElem?
  intro j
  simp only [madeCells, Array.toList_map, Array.toList_range, List.getElem?_map, List.getElem?_range, List.size_toArray, List.length_replicate, List.getElem?_replicate]
  by_cases hj : j < n
  · have := Nat.mod_lt j hk
    simp [hj, this]
  · simp [hj]
end
end Go.Proofs.Ytfeacmlnlljnnaa

/- Statements of layer 7: deeds among the arguments, opened. -/
import Derived.Test.YtfeacmlnlljnnaaLawC
import Derived.ProofKit
import Derived.OpenShut
import Derived.Deep.Slices
import Derived.Lib.AtoiErrMem
namespace Go.Proofs.Ytfeacmlnlljnnaa
open Go Go.Proofs Go.RowKit Go.ChangeShapes Go.WideShapes Go.ChangeAt

theorem addr_none {a : Addr} {w : World} {v : Value} (h : w.cell? (a.add 0) = some v) : ∃ g o, a = ⟨g, o, none⟩ := by
  obtain ⟨g, o, sp⟩ := a
  have hs : sp = none := by simpa [Addr.add] using World.cell?_spot h
  exact ⟨g, o, by rw [hs]⟩

/-- A slice of uint64 that is read. -/
theorem u64_open {H : Type} {enc : TypeId × Value → H} {W : World} {n : Nat} {v : Value} {x : DataW H × List MemPlace} (h : DataW.trod enc Try.prog W 0 (fun _ => true) true n 31 [v] = some x) :
    ∃ ds : List Nat, Rs (fun _ => (0, 0)) W 0 v ds.length (ds.map U64) ∧ ∀ d ∈ ds, d < 18446744073709551616 := by
  rcases open_ints Try.underlying31 Try.underlying37 (by kernel_rfl) h with ⟨hcs, _⟩ | ⟨a, l, c, zs, hcs, _, hl, hm, hz, _, hcell, hwz⟩
  · simp only [List.cons.injEq, and_true] at hcs
    subst hcs
    exact ⟨[], ⟨none, 0, rfl, Nat.le_refl _, by simp [maxLen], fun j u hj => by simp at hj⟩, fun d hd => by simp at hd⟩
  · simp only [List.cons.injEq, and_true] at hcs
    subst hcs
    have hz' : zs.length = c := by simpa using hz
    have hb : ∀ z ∈ zs, 0 ≤ z ∧ z ≤ 18446744073709551615 := fun z hz => bounds_u64 (hwz z hz)
    have hlen : ((zs.take l).map Int.toNat).length = l := by rw [List.length_map, List.length_take]; omega
    refine ⟨(zs.take l).map Int.toNat, ⟨some a, c, by rw [hlen], by rw [hlen]; exact hl, hm, fun j u hj => ?_⟩, fun d hd => ?_⟩
    · rw [List.map_map, List.getElem?_map, List.getElem?_take] at hj
      split at hj
      · rename_i hjl
        obtain ⟨z, hz1, rfl⟩ := Option.map_eq_some_iff.1 hj
        have hjz : j < zs.length := (List.getElem?_eq_some_iff.1 hz1).1
        have hc := hcell j hjz
        have hzb := hb z (List.mem_of_getElem? hz1)
        rw [List.getD_eq_getElem?_getD, hz1] at hc
        obtain ⟨g, o, rfl⟩ := addr_none (hcell 0 (by omega))
        rw [addr_add] at hc
        refine ⟨g, o, rfl, Go.Lib.lt_of_cell hc, rfl, ?_⟩
        rw [hc]
        show some (Value.int .u64 z) = some (U64 z.toNat)
        unfold U64
        congr 2
        omega
      · cases hj
    · obtain ⟨z, hz1, rfl⟩ := List.mem_map.1 hd
      have := hb z (List.mem_of_mem_take hz1)
      omega

theorem fld {H : Type} {enc : TypeId × Value → H} {W : World} {m t : Nat} {cs : List Value} {k : Nat} {xs : List (DataW H × List MemPlace)} {i : Nat} (hk : Try.prog.cellsOf t = k) (h : DataW.trod enc Try.prog W 0 (fun _ => true) true m t (cs.take (Try.prog.cellsOf t)) = xs[i]?) (hi : i < xs.length) :
    ∃ y, DataW.trod enc Try.prog W 0 (fun _ => true) true m t (cs.take k) = some y := by
  rw [hk] at h
  exact ⟨xs[i], by rw [h]; exact List.getElem?_eq_getElem hi⟩

theorem int_open {H : Type} {enc : TypeId × Value → H} {W : World} {m t : Nat} {k : IntKind} {v : Value} (ht : Try.prog.underlying t = some (.int k)) (h : ∃ y, DataW.trod enc Try.prog W 0 (fun _ => true) true m t [v] = some y) : ∃ n, v = .int k n ∧ (Lit.int k n).wf = true := by
  obtain ⟨y, hy⟩ := h
  obtain ⟨n, hn, _, hw⟩ := DataW.trod_int ht hy
  simp only [List.cons.injEq, and_true] at hn
  exact ⟨n, hn, hw⟩

set_option maxRecDepth 100000 in
theorem deed_open {H : Type} {enc : TypeId × Value → H} {W : World} {n : Nat} {cs : List Value} {x : DataW H × List MemPlace} (h : DataW.trod enc Try.prog W 0 (fun _ => true) true n 39 cs = some x) :
    ∃ d : Deed, cs = deedCells d ∧ d.WF ∧ Rs (fun _ => (0, 0)) W 0 d.dv d.dirty.length (d.dirty.map U64) := by
  have c3 : Try.prog.cellsOf 3 = 1 := by kernel_rfl
  have c5 : Try.prog.cellsOf 5 = 1 := by kernel_rfl
  have c37 : Try.prog.cellsOf 37 = 1 := by kernel_rfl
  have c31 : Try.prog.cellsOf 31 = 1 := by kernel_rfl
  have c36 : Try.prog.cellsOf 36 = 8 := by kernel_rfl
  have c39 : Try.prog.cellsOf 39 = 11 := by kernel_rfl
  obtain ⟨xs, m, rfl, _, hl, hxl, hf⟩ := DataW.trod_struct Try.underlying39 h
  rw [c39] at hl
  have hxl : xs.length = 4 := hxl
  match cs, hl with
  | [v0, v1, v2, v3, v4, v5, v6, v7, v8, v9, v10], _ =>
    obtain ⟨a0, rfl, w0⟩ := int_open Try.underlying3 (fld c3 (hf 0 _ rfl) (by omega))
    obtain ⟨a1, rfl, w1⟩ := int_open Try.underlying3 (fld c3 (hf 1 _ rfl) (by omega))
    obtain ⟨y2, h2⟩ := fld c36 (hf 2 _ rfl) (by omega)
    obtain ⟨a10, rfl, w10⟩ := int_open Try.underlying37 (fld c37 (hf 3 _ rfl) (by omega))
    have h2' : DataW.trod enc Try.prog W 0 (fun _ => true) true m 36 [v2, v3, v4, v5, v6, v7, v8, v9] = some y2 := h2
    obtain ⟨ys, m', rfl, _, _, hyl, hg⟩ := DataW.trod_struct Try.underlying36 h2'
    have hyl : ys.length = 8 := hyl
    obtain ⟨a2, rfl, w2⟩ := int_open Try.underlying3 (fld c3 (hg 0 _ rfl) (by omega))
    obtain ⟨a3, rfl, w3⟩ := int_open Try.underlying3 (fld c3 (hg 1 _ rfl) (by omega))
    obtain ⟨a4, rfl, w4⟩ := int_open Try.underlying3 (fld c3 (hg 2 _ rfl) (by omega))
    obtain ⟨a5, rfl, w5⟩ := int_open Try.underlying3 (fld c3 (hg 3 _ rfl) (by omega))
    obtain ⟨a6, rfl, w6⟩ := int_open Try.underlying5 (fld c5 (hg 4 _ rfl) (by omega))
    obtain ⟨a7, rfl, w7⟩ := int_open Try.underlying5 (fld c5 (hg 5 _ rfl) (by omega))
    obtain ⟨a8, rfl, w8⟩ := int_open Try.underlying5 (fld c5 (hg 6 _ rfl) (by omega))
    obtain ⟨y9, h9⟩ := fld c31 (hg 7 _ rfl) (by omega)
    obtain ⟨ds, hds, hd64⟩ := u64_open (v := v9) h9
    have b10 := bounds_u64 w10
    have b6 := bounds_u8 w6
    have b7 := bounds_u8 w7
    have b8 := bounds_u8 w8
    refine ⟨⟨a0, a1, a2, a3, a4, a5, a6, a7, a8, v9, ds, a10.toNat⟩, ?_, ⟨bounds_i64 w0, bounds_i64 w1, bounds_i64 w2, bounds_i64 w3, bounds_i64 w4, bounds_i64 w5, ⟨b6.1, by show a6 < 256; omega⟩, ⟨b7.1, by show a7 < 256; omega⟩, ⟨b8.1, by show a8 < 256; omega⟩, by show a10.toNat < _; omega, hd64⟩, hds⟩
    have e : ((a10.toNat : Nat) : Int) = a10 := by omega
    unfold deedCells
    rw [e]

/-- A slice of deeds among the arguments. -/
theorem deeds_open {H : Type} {enc : TypeId × Value → H} {W : World} {n : Nat} {v : Value} {x : DataW H × List MemPlace} (h : DataW.trod enc Try.prog W 0 (fun _ => true) true n 22 [v] = some x) : ∃ ds, Deeds (fun _ => (0, 0)) W 0 v ds := by
  have c39 : Try.prog.cellsOf 39 = 11 := by kernel_rfl
  rcases Go.Deep.open_slice Try.underlying22 h with ⟨hcs, _⟩ | ⟨a, len, cap, m, k, D, Pl, hcs, hxeq, hl, hm, hmm, hxq, hel⟩
  · simp only [List.cons.injEq, and_true] at hcs
    subst hcs
    exact ⟨[], ⟨none, 0, rfl, Nat.le_refl _, by simp [maxLen], fun j u hj => by simp at hj⟩, fun d hd => by simp at hd⟩
  · clear hxeq hxq
    simp only [List.cons.injEq, and_true] at hcs
    subst hcs
    rw [c39] at hel
    have hm' : m = cap := by simpa using hmm
    have hex : ∀ i, i < len → ∃ d : Deed, (d.WF ∧ Rs (fun _ => (0, 0)) W 0 d.dv d.dirty.length (d.dirty.map U64)) ∧ ∀ j u, (deedCells d)[j]? = some u → W.cell? ((a.add (i * 11)).add j) = some u := fun i hi => by
      obtain ⟨cs', hc, ht⟩ := hel i (by omega)
      obtain ⟨d, rfl, hwf, hrs⟩ := deed_open ht
      refine ⟨d, ⟨hwf, hrs⟩, fun j u hj => ?_⟩
      unfold World.cells? at hc
      split at hc
      · have := mapM_some_get hc j j (by
          have : j < 11 := by have := (List.getElem?_eq_some_iff.1 hj).1; simpa [deedCells] using this
          rw [List.getElem?_range this])
        rw [this]; exact hj
      · cases hc
    have : ∃ ds : List Deed, ds.length = len ∧ ∀ i d, ds[i]? = some d → (d.WF ∧ Rs (fun _ => (0, 0)) W 0 d.dv d.dirty.length (d.dirty.map U64)) ∧ ∀ j u, (deedCells d)[j]? = some u → W.cell? ((a.add (i * 11)).add j) = some u := by
      clear h hel hl hm hmm hm'
      induction len with
      | zero => exact ⟨[], rfl, fun i d hd => by simp at hd⟩
      | succ len ih =>
        obtain ⟨ds, h1, h2⟩ := ih (fun i hi => hex i (by omega))
        obtain ⟨d, hd⟩ := hex len (by omega)
        refine ⟨ds ++ [d], by simp [h1], fun i e he => ?_⟩
        by_cases hi : i < ds.length
        · rw [List.getElem?_append_left hi] at he
          exact h2 i e he
        · rw [List.getElem?_append_right (by omega)] at he
          have hi' : i - ds.length = 0 := by
            have := (List.getElem?_eq_some_iff.1 he).1
            simp at this; omega
          rw [hi'] at he
          simp at he
          subst he
          obtain rfl : i = len := by omega
          exact hd
    obtain ⟨ds, h1, h2⟩ := this
    subst h1
    refine ⟨ds, ⟨some a, cap, rfl, hl, hm, fun j u hj => ?_⟩, fun d hd => ?_⟩
    · have hjl := (List.getElem?_eq_some_iff.1 hj).1
      rw [flatMap_len deedCells 11 ds (fun _ _ => rfl)] at hjl
      have e : j = j / 11 * 11 + j % 11 := by omega
      have hq : j / 11 < ds.length := by omega
      have hmod : j % 11 < 11 := by omega
      obtain ⟨d, hd⟩ : ∃ d, ds[j / 11]? = some d := ⟨_, List.getElem?_eq_getElem hq⟩
      have hget := flatMap_get deedCells 11 ds (fun _ _ => rfl) (j / 11) (j % 11) d hd hmod
      rw [← e, hj] at hget
      have hc := (h2 _ d hd).2 (j % 11) u hget.symm
      obtain ⟨d0, hd0⟩ : ∃ d, ds[0]? = some d := ⟨_, List.getElem?_eq_getElem (by omega)⟩
      obtain ⟨g, o, rfl⟩ := addr_none (show W.cell? (a.add 0) = some (.int .i64 d0.kind) from by
        have := (h2 0 d0 hd0).2 0 _ rfl
        simpa [Addr.add] using this)
      rw [addr_add, addr_add] at hc
      refine ⟨g, o, rfl, Go.Lib.lt_of_cell hc, rfl, ?_⟩
      rw [show o + j = o + j / 11 * 11 + j % 11 from by omega]
      exact hc
    · obtain ⟨i, hi, rfl⟩ := List.getElem_of_mem hd
      exact (h2 i _ (List.getElem?_eq_getElem hi)).1
end Go.Proofs.Ytfeacmlnlljnnaa

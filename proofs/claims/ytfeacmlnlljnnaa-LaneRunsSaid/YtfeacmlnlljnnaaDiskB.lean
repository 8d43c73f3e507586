/- Package disk: what Read comes to. -/
import Derived.Test.YtfeacmlnlljnnaaDiskA
import Derived.Test.YtfeacmlnlljnnaaBytes
namespace Go.Proofs.Ytfeacmlnlljnnaa
open Go Go.Proofs Go.RowKit

theorem sec_list (D : DiskM) (hw : D.WF) (r s : Nat) : (List.range 64).map (fun j => B ((D.base r s).getD j 0)) = (D.base r s).map B := by
  apply List.ext_getElem?
  intro j
  by_cases hj : j < 64
  · have := hw.base r s
    simp [hj, this]
  · have := hw.base r s
    simp [hj, this]

/-- The cells of a sector, as append wants them. -/
theorem DiskAt.sector {c : Col} {w : World} {X d : Nat} {D : DiskM} {bd bg : Nat} {wv : Nat → Value} {wr : Int} {data : List Value} (h : DiskAt c w X d D bd bg wv wr data) {r s : Nat} (hr : r < D.n) (hs : s < D.size) :
    ∀ j u, ((D.base r s).map B)[j]? = some u → w.cell? ⟨bd, (r * D.size + s) * 64 + j, none⟩ = some u := by
  intro j u hu
  have hl := h.wf.base r s
  have hj : j < 64 := by have := (List.getElem?_eq_some_iff.1 hu).1; simpa [hl] using this
  rw [h.secs.cell, h.sectors.2 r s j hr hs hj, ← hu]
  simp [hl, hj]

/-- The cells of a write that waits. -/
theorem wait_cells {c : Col} {w : World} {k : Nat × Nat} {v : Value} {l : List (Nat × Bs)} (h : Sl c w k 65 v l.length (wcells l)) (hl : ∀ p ∈ l, p.2.length = 64) {g n cap : Nat} (hv : v = .slice (some ⟨g, 0, none⟩) n cap)
    (i : Nat) (p : Nat × Bs) (hi : l[i]? = some p) : w.cell? ⟨g, i * 65, none⟩ = some (.int .i64 (p.1 : Int)) ∧ ∀ j u, (p.2.map B)[j]? = some u → w.cell? ⟨g, i * 65 + 1 + j, none⟩ = some u := by
  rcases h.2 with ⟨h1, _⟩ | ⟨g', cap', cur, h1, hb, _⟩
  · rw [hv] at h1; simp at h1
  · rw [hv] at h1
    simp only [Value.slice.injEq, Option.some.injEq, Addr.mk.injEq] at h1
    obtain ⟨⟨rfl, _⟩, _⟩ := h1
    have hp : p.2.length = 64 := hl p (List.mem_of_getElem? hi)
    have hlen := wcells_len hl
    have hlt := (List.getElem?_eq_some_iff.1 hi).1
    have hm : i * 65 + 65 ≤ (wcells l).length := by rw [hlen]; have := Nat.mul_le_mul_right 65 (show i + 1 ≤ l.length from hlt); omega
    refine ⟨?_, fun j u hu => ?_⟩
    · rw [hb.cell, List.getElem?_append_left (by omega)]
      exact (wcells_get hl i 0 p hi (by omega)).trans rfl
    · have hj : j < 64 := by have := (List.getElem?_eq_some_iff.1 hu).1; simpa [hp] using this
      rw [hb.cell, List.getElem?_append_left (by omega), show i * 65 + 1 + j = i * 65 + (1 + j) from by omega, wcells_get hl i (1 + j) p hi (by omega)]
      simpa [wcell, Nat.add_comm 1 j] using hu

/-- New bytes and OK; nothing else has changed. -/
def GotB (c : Col) (w : World) (x : Nat × Nat) (bs : Bs) (e : Ending) (w' : World) : Prop := ∃ v c', e = .returned (.tuple #[v, .int .i64 0]) ∧ Own c' w' x v bs ∧ Ext (Obs []) c w c' w'

set_option maxHeartbeats 1000000 in
theorem read_in (c : Col) (w : World) (X d : Nat) (D : DiskM) (r s : Nat) (hD : DiskRep c w X d D) (hr : r < D.n) (hs : s < D.size) (hw9 : (D.waits r).length ≤ 1000000) (x : Nat × Nat) :
    Calls Try.prog 50 #[.pointer (some ⟨d, 0, none⟩), .int .i64 (r : Int), .int .i64 (s : Int)] w (GotB c w x (D.read r s)) := by
  obtain ⟨i, hi⟩ : ∃ i, i = r * D.size + s := ⟨_, rfl⟩
  have hat := Lib.hid (at_in c w X d D r s hD hr hs i hi)
  obtain ⟨bd, bg, wv, wr, data, h⟩ := hD
  obtain ⟨c0, c1, c2, _⟩ := h.cells
  obtain ⟨g0, g1, g2⟩ := h.reg hr
  obtain ⟨m1, m2, m3⟩ := mul_facts r s D.n D.size hr hs h.wf.n64 h.wf.s16
  have hn := h.wf.n64
  have hsec := h.sector hr hs
  rw [← hi] at hsec m2
  have hsec := Lib.hid hsec
  have hwl := Lib.hid (fun p hp => (h.wf.waits r p hp).2)
  have hbl := Lib.hid (h.wf.base r s)
  have HW := Lib.hid (h.waits r hr)
  obtain ⟨N, hN⟩ : ∃ N, N = D.n * D.size := ⟨_, rfl⟩
  rw [← hN] at c1 m2 m3
  have HR := Lib.hid (show D.read r s = look (D.waits r) s (D.base r s) from rfl)
  clear h hN hi m1
  obtain ⟨p, cap, hv⟩ : ∃ p cap, wv r = .slice p (D.waits r).length cap := by
    rcases (HW.out).2 with ⟨h, hz⟩ | ⟨g, cap, cur, h, _⟩
    · exact ⟨none, 0, by rw [h, hz]⟩
    · exact ⟨_, cap, h⟩
  rw [hv] at g0
  have HV := Lib.hid hv
  clear hv g1 g2 
  go_enter Try.func50, Try.ntmps50
  go_wp2_with (go_at_call 56; refine (hat.out).mono ?_; rintro e w' ⟨rfl, rfl⟩)
  go_loop [10] (fun k => ∃ m : Nat, m ≤ (D.waits r).length ∧ k = .int .i64 ((m : Int) - 1) ∧ ∀ j p, m ≤ j → (D.waits r)[j]? = some p → p.1 ≠ s) (fun k => (intOf k + 1).toNat)
  case atStart => exact ⟨(D.waits r).length, Nat.le_refl _, by simp, fun j p h1 h2 => by have := (List.getElem?_eq_some_iff.1 h2).1; omega⟩
  case round =>
    obtain ⟨m, hm, rfl, hno⟩ := hrel
    have hno := Lib.hid hno
    by_cases hm0 : m = 0
    · subst hm0
      go_wp2_with (at_builtin; refine append_new rfl _ rfl c x (D.base r s) _ _ _ _ rfl (hbl.out) (by exact hsec.out) (by rw [hbl.out]; decide) ?_; intro v' w' c' hown hext)
      go_ret2
      refine ⟨_, _, rfl, ?_, hext⟩
      rw [HR.out, look_take _ _ 0 _ (hno.out)]
      exact hown
    · obtain ⟨k, rfl⟩ : ∃ k, m = k + 1 := ⟨m - 1, by omega⟩
      obtain ⟨q, hq⟩ : ∃ q, (D.waits r)[k]? = some q := ⟨_, List.getElem?_eq_getElem (by omega)⟩
      obtain ⟨g, rfl⟩ : ∃ g, p = some ⟨g, 0, none⟩ := by
        rcases (HW.out).2 with ⟨h, hz⟩ | ⟨g, cap, cur, h, _⟩
        · omega
        · rw [HV.out] at h; simp at h; exact ⟨g, h.1⟩
      obtain ⟨k0, k1⟩ := wait_cells (HW.out) (hwl.out) (HV.out) k q hq
      have hql : q.2.length = 64 := hwl.out q (List.mem_of_getElem? hq)
      have HQ := Lib.hid hq
      have HQL := Lib.hid hql
      have k1 := Lib.hid k1
      clear hq hql hm0
      by_cases he : q.1 = s
      · have hb : ((q.1 : Int) == (s : Int)) = true := by simp [he]
        have HEQ := Lib.hid he
        clear he
        go_wp2_with (at_builtin; refine append_new rfl _ rfl c x q.2 _ _ _ _ rfl (HQL.out) (by exact k1.out) (by rw [HQL.out]; decide) ?_; intro v' w' c' hown hext)
        go_ret2
        refine ⟨_, _, rfl, ?_, hext⟩
        rw [HR.out, look_hit _ _ k _ q HQ.out HEQ.out (hno.out)]
        exact hown
      · have hb : ((q.1 : Int) == (s : Int)) = false := by simp; omega
        have hno' : ∀ j p, k ≤ j → (D.waits r)[j]? = some p → p.1 ≠ s := fun j p h1 h2 => by
          by_cases hj : j = k
          · subst hj; rw [HQ.out] at h2; obtain rfl := Option.some.inj h2; exact he
          · exact hno.out j p (by omega) h2
        have hno' := Lib.hid hno'
        go_wp2_with fail
        go_round
        case rel => exact ⟨k, by omega, by simp, hno'.out⟩
        case measure => simp [intOf]
end Go.Proofs.Ytfeacmlnlljnnaa

/- Statements' helpers of layer 7: starts, fit. -/
import Derived.Test.YtfeacmlnlljnnaaLawC
namespace Go.Proofs.Ytfeacmlnlljnnaa
open Go Go.Proofs Go.RowKit

/-- These entries are the first ones of those records. -/
def Starts (es : List (Nat × Rec)) (rs : List Rec) : Prop := es.length ≤ rs.length ∧ es.map Prod.snd = rs.take es.length

theorem Ents.form {c : Col} {w : World} {Y : Nat} {v : Value} {es : List (Nat × Rec)} (h : Ents c w Y v es) : ∃ p cap, v = .slice p es.length cap ∧ es.length ≤ cap ∧ cap ≤ maxLen := by
  obtain ⟨ps, _, ⟨p, cap, e, h1, h2, _⟩, _⟩ := h
  exact ⟨p, cap, e, h1, h2⟩
theorem Ents.keep {M : Nat × Nat → Prop} {c c' : Col} {w w' : World} {Y : Nat} {v : Value} {es : List (Nat × Rec)} (h : Ents c w Y v es) (g : Ext M c w c' w') (hx : ∀ q, ¬ M (Y, q)) : Ents c' w' Y v es := by
  obtain ⟨ps, h1, h2, h3⟩ := h
  exact ⟨ps, h1, h2.keep g hx, fun p hp => Rs.keep (h3 p hp) g hx⟩
theorem Ents.at {c : Col} {w : World} {Y : Nat} {p : Option Addr} {n cap : Nat} {es : List (Nat × Rec)} (h : Ents c w Y (.slice p n cap) es) {k : Nat} {r : Nat × Rec} (hk : es[k]? = some r) :
    ∃ g o dv, p = some ⟨g, o, none⟩ ∧ Dirt c w Y dv r.2 ∧ ∀ j u, (entCells r dv)[j]? = some u → w.cell? ⟨g, o + k * 9 + j, none⟩ = some u := by
  obtain ⟨ps, h1, ⟨p', cap', e, _, _, h2⟩, h3⟩ := h
  simp only [Value.slice.injEq] at e
  obtain ⟨rfl, _, rfl⟩ := e
  rw [← h1, List.getElem?_map] at hk
  obtain ⟨x, hx, rfl⟩ := Option.map_eq_some_iff.1 hk
  have hget : ∀ j, j < 9 → (ps.flatMap fun p => entCells p.1 p.2)[k * 9 + j]? = (entCells x.1 x.2)[j]? := fun j hj => flatMap_get _ 9 ps (fun y _ => rfl) k j x hx hj
  obtain ⟨g, o, hp, _, _, _⟩ := h2 (k * 9 + 0) (.int .u64 (x.1.1 : Int)) (by rw [hget 0 (by omega)]; rfl)
  refine ⟨g, o, x.2, hp, h3 x (List.mem_of_getElem? hx), fun j u hj => ?_⟩
  have hlt : j < 9 := by
    have := (List.getElem?_eq_some_iff.1 hj).1
    simpa [entCells, recCells] using this
  obtain ⟨g', o', hp', _, _, hu⟩ := h2 (k * 9 + j) u (by rw [hget j hlt]; exact hj)
  rw [hp] at hp'
  simp only [Option.some.injEq, Addr.mk.injEq, and_true] at hp'
  obtain ⟨rfl, rfl⟩ := hp'
  rw [Nat.add_assoc]
  exact hu

set_option maxRecDepth 100000 in
set_option maxHeartbeats 2000000 in
theorem starts_in (c : Col) (w : World) (Y1 Y2 : Nat) (gv av : Value) (es : List (Nat × Rec)) (rs : List Rec) (hg : Ents c w Y1 gv es) (ha : Recs c w Y2 av rs) (hd1 : ∀ e ∈ es, e.2.dirty.length ≤ 1000) (hd2 : ∀ r ∈ rs, r.dirty.length ≤ 1000) (hle : es.length ≤ 100000) :
    Calls Try.prog 21 #[gv, av] w (Says c w (Starts es rs)) := by
  obtain ⟨p1, cap1, rfl, hc1, hm1⟩ := hg.form
  obtain ⟨p2, cap2, rfl, hc2, hm2⟩ := ha.form
  have HG := Lib.hid hg
  have HA := Lib.hid ha
  have HD1 := Lib.hid hd1
  have HD2 := Lib.hid hd2
  clear hg ha hd1 hd2
  by_cases hlen : es.length ≤ rs.length
  · have hx0 : ¬ rs.length < es.length := by omega
    have HLEN := Lib.hid hlen
    clear hlen
    go_enter Try.func21, Try.ntmps21
    go_upto_region 4 with fail
    go_loopw [13] (fun i wx => ∃ n : Nat, n ≤ es.length ∧ i = .int .i64 (n : Int) ∧ Hid ((∀ k, k < n → (es[k]?).map Prod.snd = rs[k]?) ∧ ∃ c', Ents c' wx Y1 (.slice p1 es.length cap1) es ∧ Recs c' wx Y2 (.slice p2 rs.length cap2) rs ∧ Ext (Obs []) c w c' wx)) (fun i _ => es.length - (intOf i).toNat)
    case atStart => exact ⟨0, Nat.zero_le _, rfl, fun k hk => by omega, c, HG.out, HA.out, Ext.refl _ _ _⟩
    case round =>
      obtain ⟨n, hn, rfl, hrel⟩ := hrel
      obtain ⟨hall, c1, hG, hA, hE⟩ := hrel.out
      clear hrel HG HA
      by_cases hlt : n < es.length
      · obtain ⟨e1, he1⟩ : ∃ e, es[n]? = some e := ⟨_, List.getElem?_eq_getElem hlt⟩
        obtain ⟨r2, hr2⟩ : ∃ r, rs[n]? = some r := ⟨_, List.getElem?_eq_getElem (by have := HLEN.out; omega)⟩
        have ed := (Ext.refl (Obs []) c1 wr).drew
        obtain ⟨g1, o1, dv1, rfl, hdt1, hcl1⟩ := (hG.keep ed (by simp [Obs])).at he1
        obtain ⟨g2, o2, dv2, rfl, hdt2, hcl2⟩ := (hA.keep ed (by simp [Obs])).at hr2
        have hsame := Lib.hid (same_in c1 wr.drew Y1 Y2 e1.2 r2 dv1 dv2 hdt1 hdt2 (HD1.out e1 (List.mem_of_getElem? he1)) (HD2.out r2 (List.mem_of_getElem? hr2)))
        have HC1 : Hid (∀ j u, (recCells e1.2 dv1)[j]? = some u → wr.drew.cell? ⟨g1, o1 + n * 9 + 1 + j, none⟩ = some u) := Lib.hid (fun j u hj => by
          have := hcl1 (j + 1) u hj
          rw [show o1 + n * 9 + 1 + j = o1 + n * 9 + (j + 1) from by omega]; exact this)
        have HC2 := Lib.hid hcl2
        have HALL := Lib.hid hall
        have HG := Lib.hid hG
        have HA := Lib.hid hA
        have HE := Lib.hid hE
        have HE1 := Lib.hid he1
        have HR2 := Lib.hid hr2
        have hlt2 : n < rs.length := by have := HLEN.out; omega
        clear hall hG hA hE he1 hr2 hdt1 hdt2 hcl1 hcl2 ed
        go_upto_region 6 with fail
        refine X_begin [] [9] (fun _ => True) (by kernel_rfl) ?_
        refine X_pure 0 rfl (by kernel_rfl) (by kernel_rfl) (by kernel_rfl) (by kernel_rfl) (fun _ _ _ h => h) rfl (by intro w; go_simp; first | done | with_reducible rfl) ?_
        try simp only [Act.put, List.setIfInBounds_toArray, List.set_cons_zero, List.set_cons_succ]
        refine X_pure 1 rfl (by kernel_rfl) (by kernel_rfl) (by kernel_rfl) (by kernel_rfl) (fun _ _ _ h => h) rfl (by intro w; go_simp; first | done | with_reducible rfl) ?_
        try simp only [Act.put, List.setIfInBounds_toArray, List.set_cons_zero, List.set_cons_succ]
        refine X_pure 2 rfl (by kernel_rfl) (by kernel_rfl) (by kernel_rfl) (by kernel_rfl) (fun _ _ _ h => h) rfl (by intro w; go_simp; first | done | with_reducible rfl) ?_
        try simp only [Act.put, List.setIfInBounds_toArray, List.set_cons_zero, List.set_cons_succ]
        refine X_pure 3 rfl (by kernel_rfl) (by kernel_rfl) (by kernel_rfl) (by kernel_rfl) (fun _ _ _ h => h) rfl (by intro w; go_simp; first | done | with_reducible rfl) ?_
        try simp only [Act.put, List.setIfInBounds_toArray, List.set_cons_zero, List.set_cons_succ]
        refine X_pure 5 rfl (by kernel_rfl) (by kernel_rfl) (by kernel_rfl) (by kernel_rfl) (fun _ _ _ h => h) rfl (by intro w; go_simp; first | done | with_reducible rfl) ?_
        try simp only [Act.put, List.setIfInBounds_toArray, List.set_cons_zero, List.set_cons_succ]
        refine X_pure 6 rfl (by kernel_rfl) (by kernel_rfl) (by kernel_rfl) (by kernel_rfl) (fun _ _ _ h => h) rfl (by intro w; go_simp; first | done | with_reducible rfl) ?_
        try simp only [Act.put, List.setIfInBounds_toArray, List.set_cons_zero, List.set_cons_succ]
        refine X_pure 7 rfl (by kernel_rfl) (by kernel_rfl) (by kernel_rfl) (by kernel_rfl) (fun _ _ _ h => h) rfl (by intro w; go_simp; first | done | with_reducible rfl) ?_
        try simp only [Act.put, List.setIfInBounds_toArray, List.set_cons_zero, List.set_cons_succ]
        refine X_still 4 rfl (by kernel_rfl) (by kernel_rfl) (by kernel_rfl) (by kernel_rfl) rfl (load_agg_run 33 (.tmp 19) rfl g1 (o1 + n * 9 + 1) rfl (recCells e1.2 dv1) _ Try.underlying33 rfl (by kernel_rfl) (fun j u hj => HC1.out j u hj)) ?_
        try simp only [Act.put, List.setIfInBounds_toArray, List.set_cons_zero, List.set_cons_succ]
        refine X_still 8 rfl (by kernel_rfl) (by kernel_rfl) (by kernel_rfl) (by kernel_rfl) rfl (load_agg_run 33 (.tmp 23) rfl g2 (o2 + n * 8) rfl (recCells r2 dv2) _ Try.underlying33 rfl (by kernel_rfl) (fun j u hj => HC2.out j u hj)) ?_
        try simp only [Act.put, List.setIfInBounds_toArray, List.set_cons_zero, List.set_cons_succ]
        refine X_op 9 rfl (by kernel_rfl) (by kernel_rfl) (by kernel_rfl) ?_
        by_cases hq : e1.2 = r2
        · have HQ := Lib.hid hq
          clear hq
          go_wp2_with (go_at_call 55; refine (hsame.out).mono ?_; rintro e w2 ⟨b, rfl, hb, c2, hE⟩; (obtain rfl : b = true := hb.2 HQ.out); have E2 := Lib.hid hE; clear hb hE hsame)
          try simp only [Act.put, List.setIfInBounds_toArray, List.set_cons_zero, List.set_cons_succ]
          refine X_pure 10 rfl (by kernel_rfl) (by kernel_rfl) (by kernel_rfl) (by kernel_rfl) (fun _ _ _ h => h) rfl (by intro w; go_simp; first | done | with_reducible rfl) ?_
          try simp only [Act.put, List.setIfInBounds_toArray, List.set_cons_zero, List.set_cons_succ]
          refine X_done (by kernel_rfl) ?_ _
          go_wp2_with fail
          go_roundw
          case measure => simp [intOf] <;> omega
          case rel =>
            refine ⟨n + 1, hlt, rfl, fun k hk => ?_, c2, (HG.out).keep (((Ext.refl (Obs []) c1 wr).drew).trans E2.out) (by simp [Obs]), (HA.out).keep (((Ext.refl (Obs []) c1 wr).drew).trans E2.out) (by simp [Obs]), (HE.out).drew.trans E2.out⟩
            by_cases e : k = n
            · rw [e, HE1.out, HR2.out, Option.map_some, HQ.out]
            · exact HALL.out k (by omega)
        · have HQ := Lib.hid hq
          clear hq
          go_wp2_with (go_at_call 55; refine (hsame.out).mono ?_; rintro e w2 ⟨b, rfl, hb, c2, hE⟩; (obtain rfl : b = false := by cases b with | false => rfl | true => exact absurd (hb.1 rfl) HQ.out); have E2 := Lib.hid hE; clear hb hE hsame)
          try simp only [Act.put, List.setIfInBounds_toArray, List.set_cons_zero, List.set_cons_succ]
          refine X_pure 10 rfl (by kernel_rfl) (by kernel_rfl) (by kernel_rfl) (by kernel_rfl) (fun _ _ _ h => h) rfl (by intro w; go_simp; first | done | with_reducible rfl) ?_
          try simp only [Act.put, List.setIfInBounds_toArray, List.set_cons_zero, List.set_cons_succ]
          refine X_done (by kernel_rfl) ?_ _
          go_wp2_with fail
          go_ret
          refine ⟨false, rfl, ⟨fun h => (by cases h), fun ⟨h1, h2⟩ => ?_⟩, c2, (HE.out).drew.trans E2.out⟩
          exfalso
          have h3 := congrArg (fun l => l[n]?) h2
          simp only [List.getElem?_map, HE1.out, Option.map_some] at h3
          rw [List.getElem?_take_of_lt hlt, HR2.out] at h3
          exact HQ.out (Option.some.inj h3)
      · obtain rfl : n = es.length := by omega
        have HALL := Lib.hid hall
        have HE := Lib.hid hE
        clear hall hG hA hE
        go_wp2_with fail
        go_ret
        refine ⟨true, rfl, ⟨fun _ => ⟨HLEN.out, List.ext_getElem? fun k => ?_⟩, fun _ => rfl⟩, c1, HE.out⟩
        rw [List.getElem?_map]
        by_cases hk : k < es.length
        · rw [HALL.out k hk, List.getElem?_take_of_lt hk]
        · rw [List.getElem?_eq_none (by omega), List.getElem?_eq_none (by rw [List.length_take]; omega)]; rfl
  · skip
    go_enter Try.func21, Try.ntmps21
    go_wp2_with fail
    go_ret
    exact ⟨false, rfl, ⟨fun h => (by cases h), fun h => absurd h.1 hlen⟩, c, Ext.refl _ _ _⟩
end Go.Proofs.Ytfeacmlnlljnnaa

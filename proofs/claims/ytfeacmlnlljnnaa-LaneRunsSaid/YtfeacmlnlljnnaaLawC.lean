/- Statements' helpers of layer 7: light, size, starts. -/
import Derived.Test.YtfeacmlnlljnnaaLawB
namespace Go.Proofs.Ytfeacmlnlljnnaa
open Go Go.Proofs Go.RowKit

structure Deed where
  kind : Int
  n : Int
  k : Int
  t : Int
  p : Int
  s : Int
  b : Int
  a : Int
  i : Int
  dv : Value
  dirty : List Nat
  mask : Nat

def in64 (x : Int) : Prop := -9223372036854775808 ≤ x ∧ x ≤ 9223372036854775807
structure Deed.WF (d : Deed) : Prop where
  kind : in64 d.kind
  n : in64 d.n
  k : in64 d.k
  t : in64 d.t
  p : in64 d.p
  s : in64 d.s
  b : 0 ≤ d.b ∧ d.b < 256
  a : 0 ≤ d.a ∧ d.a < 256
  i : 0 ≤ d.i ∧ d.i < 256
  mask : d.mask < 18446744073709551616
  d64 : ∀ x ∈ d.dirty, x < 18446744073709551616

def deedCells (d : Deed) : List Value := [.int .i64 d.kind, .int .i64 d.n, .int .i64 d.k, .int .i64 d.t, .int .i64 d.p, .int .i64 d.s, .int .u8 d.b, .int .u8 d.a, .int .u8 d.i, d.dv, .int .u64 (d.mask : Int)]
/-- A slice of deeds that is read; all of it of object Y. -/
def Deeds (c : Col) (w : World) (Y : Nat) (v : Value) (ds : List Deed) : Prop :=
  Rs c w Y v ds.length (ds.flatMap deedCells) ∧ ∀ d ∈ ds, d.WF ∧ Rs c w Y d.dv d.dirty.length (d.dirty.map U64)

theorem Deeds.keep {M : Nat × Nat → Prop} {c c' : Col} {w w' : World} {Y : Nat} {v : Value} {ds : List Deed} (h : Deeds c w Y v ds) (g : Ext M c w c' w') (hx : ∀ q, ¬ M (Y, q)) : Deeds c' w' Y v ds :=
  ⟨h.1.keep g hx, fun d hd => ⟨(h.2 d hd).1, (h.2 d hd).2.keep g hx⟩⟩

theorem Deeds.at {c : Col} {w : World} {Y : Nat} {p : Option Addr} {n cap : Nat} {ds : List Deed} (h : Deeds c w Y (.slice p n cap) ds) {k : Nat} {d : Deed} (hk : ds[k]? = some d) :
    ∃ g o, p = some ⟨g, o, none⟩ ∧ ∀ j u, (deedCells d)[j]? = some u → w.cell? ⟨g, o + k * 11 + j, none⟩ = some u := by
  obtain ⟨⟨p', cap', e, _, _, h2⟩, h3⟩ := h
  simp only [Value.slice.injEq] at e
  obtain ⟨rfl, _, rfl⟩ := e
  have hget : ∀ j, j < 11 → (ds.flatMap deedCells)[k * 11 + j]? = (deedCells d)[j]? := fun j hj => flatMap_get _ 11 ds (fun y _ => rfl) k j d hk hj
  obtain ⟨g, o, hp, _, _, _⟩ := h2 (k * 11 + 0) (.int .i64 d.kind) (by rw [hget 0 (by omega)]; rfl)
  refine ⟨g, o, hp, fun j u hj => ?_⟩
  have hlt : j < 11 := by
    have := (List.getElem?_eq_some_iff.1 hj).1
    simpa [deedCells] using this
  obtain ⟨g', o', hp', _, _, hu⟩ := h2 (k * 11 + j) u (by rw [hget j hlt]; exact hj)
  rw [hp] at hp'
  simp only [Option.some.injEq, Addr.mk.injEq, and_true] at hp'
  obtain ⟨rfl, rfl⟩ := hp'
  rw [Nat.add_assoc]
  exact hu

/-- A bool; where it's true, p. -/
def SaysIf (c : Col) (w : World) (p : Prop) (e : Ending) (w' : World) : Prop := ∃ b : Bool, e = .returned (.bool b) ∧ (b = true → p) ∧ ∃ c' : Col, Ext (Obs []) c w c' w'

set_option maxRecDepth 100000 in
set_option maxHeartbeats 2000000 in
theorem light_in (c : Col) (w : World) (Y : Nat) (v : Value) (ds : List Deed) (hv : Deeds c w Y v ds) :
    Calls Try.prog 10 #[v] w (SaysIf c w (ds.length ≤ 60 ∧ ∀ d ∈ ds, d.dirty.length ≤ 100)) := by
  obtain ⟨⟨p, cap, rfl, hcap, hmax, _⟩, _⟩ := id hv
  have HV := Lib.hid hv
  clear hv
  by_cases h60 : ds.length ≤ 60
  · skip
    go_enter Try.func10, Try.ntmps10
    go_upto_region 4 with fail
    go_loopw [10] (fun i wx => ∃ n : Nat, n ≤ ds.length ∧ i = .int .i64 (n : Int) ∧ Hid ((∀ k d, k < n → ds[k]? = some d → d.dirty.length ≤ 100) ∧ ∃ c', Deeds c' wx Y (.slice p ds.length cap) ds ∧ Ext (Obs []) c w c' wx)) (fun i _ => ds.length - (intOf i).toNat)
    case atStart => exact ⟨0, Nat.zero_le _, rfl, fun k d hk => by omega, c, HV.out, Ext.refl _ _ _⟩
    case round =>
      obtain ⟨n, hn, rfl, hrel⟩ := hrel
      obtain ⟨hall, c1, hD, hE⟩ := hrel.out
      clear hrel
      by_cases hlt : n < ds.length
      · obtain ⟨d, hd⟩ : ∃ d, ds[n]? = some d := ⟨_, List.getElem?_eq_getElem hlt⟩
        obtain ⟨g, o, rfl, hcells⟩ := hD.at hd
        obtain ⟨q, dcap, hdv, _⟩ := (hD.2 d (List.mem_of_getElem? hd)).2
        obtain ⟨dl, hdl⟩ : ∃ dl, dl = d.dirty.length := ⟨_, rfl⟩
        rw [← hdl] at hdv
        have k0 := hcells 0 _ rfl
        rw [Nat.add_zero] at k0
        have k1 := hcells 1 _ rfl
        have k2 := hcells 2 _ rfl
        have k3 := hcells 3 _ rfl
        have k4 := hcells 4 _ rfl
        have k5 := hcells 5 _ rfl
        have k6 := hcells 6 _ rfl
        have k7 := hcells 7 _ rfl
        have k8 := hcells 8 _ rfl
        have k9 := hcells 9 _ rfl
        have k10 := hcells 10 _ rfl
        rw [hdv] at k9
        have HA := Lib.hid hall
        have HD := Lib.hid hD
        have HE := Lib.hid hE
        have HDN := Lib.hid hd
        have HDL := Lib.hid hdl
        clear hall hD hE hd hcells hdv hdl
        by_cases h100 : dl ≤ 100
        · go_wp2_with fail
          refine ⟨⟨n + 1, hlt, rfl, fun k x hk hx => ?_, _, (HD.out).keep ((Ext.refl (Obs []) c1 wr).alloc _ (0, 0)) (fun q h => by simp [Obs] at h), (HE.out).alloc _ _⟩, by simp [intOf] <;> omega⟩
          by_cases e : k = n
          · rw [e, HDN.out] at hx; rw [← Option.some.inj hx, ← HDL.out]; exact h100
          · exact HA.out k x (by omega) hx
        · go_wp2_with fail
          go_ret
          exact ⟨false, rfl, fun h => (by cases h), _, (HE.out).alloc _ (0, 0)⟩
      · obtain rfl : n = ds.length := by omega
        have HA := Lib.hid hall
        have HE := Lib.hid hE
        clear hall hD hE
        go_wp2_with fail
        go_ret
        refine ⟨true, rfl, fun _ => ⟨h60, fun d hd => ?_⟩, c1, HE.out⟩
        obtain ⟨k, hk, rfl⟩ := List.getElem_of_mem hd
        exact HA.out k _ hk (List.getElem?_eq_getElem hk)
  · skip
    go_enter Try.func10, Try.ntmps10
    go_wp2_with fail
    go_ret
    exact ⟨false, rfl, fun h => (by cases h), c, Ext.refl _ _ _⟩

def GotI (c : Col) (w : World) (n : Nat) (e : Ending) (w' : World) : Prop := e = .returned (.int .i64 (n : Int)) ∧ ∃ c' : Col, Ext (Obs []) c w c' w'

set_option maxRecDepth 100000 in
set_option maxHeartbeats 2000000 in
theorem size_in (c : Col) (w : World) (Y : Nat) (v : Value) (rs : List Rec) (hv : Recs c w Y v rs) (hok : ∀ x ∈ rs, x.Ok) (hlen : (encs rs).length ≤ 1000000) :
    Calls Try.prog 15 #[v] w (GotI c w (encs rs).length) := by
  obtain ⟨p, cap, rfl, hcap, hmax⟩ := hv.form
  have HV := Lib.hid hv
  have HOK := Lib.hid hok
  have HLEN := Lib.hid hlen
  have hcnt : rs.length ≤ 1000000 := Nat.le_trans (encs_count rs) hlen
  clear hv hok hlen
  go_enter Try.func15, Try.ntmps15
  go_upto_region 3 with fail
  go_loopw [3, 8] (fun x i wx => ∃ n : Nat, n ≤ rs.length ∧ i = .int .i64 (n : Int) ∧ x = .int .i64 ((encs (rs.take n)).length : Int) ∧ Hid (∃ c', Recs c' wx Y (.slice p rs.length cap) rs ∧ Ext (Obs []) c w c' wx)) (fun _ i _ => rs.length - (intOf i).toNat)
  case atStart => exact ⟨0, Nat.zero_le _, rfl, rfl, c, HV.out, Ext.refl _ _ _⟩
  case round =>
    obtain ⟨n, hn, rfl, rfl, hrel⟩ := hrel
    obtain ⟨c1, hR, hE⟩ := hrel.out
    clear hrel
    by_cases hlt : n < rs.length
    · obtain ⟨r, hrn⟩ : ∃ r, rs[n]? = some r := ⟨_, List.getElem?_eq_getElem hlt⟩
      obtain ⟨g, o, dv, rfl, hdirt, hcells⟩ := hR.at hrn
      have hrok := Lib.hid (HOK.out r (List.mem_of_getElem? hrn))
      obtain ⟨q, dcap, rfl, _⟩ := id hdirt
      have k0 := hcells 0 _ rfl
      rw [Nat.add_zero] at k0
      have k1 := hcells 1 _ rfl
      have k2 := hcells 2 _ rfl
      have k3 := hcells 3 _ rfl
      have k4 := hcells 4 _ rfl
      have k5 := hcells 5 _ rfl
      have k6 := hcells 6 _ rfl
      have k7 := hcells 7 _ rfl
      have HRN := Lib.hid hrn
      have e0 := (Ext.refl (Obs []) c1 wr).alloc (.cells (recCells r (.slice q r.dirty.length dcap)).toArray 33) (0, 1)
      have b0 := Blk.new c1 wr (recCells r (.slice q r.dirty.length dcap)) 33 (0, 1)
      have d0 := Rs.keep hdirt e0 (by simp [Obs])
      have r0 := hR.keep e0 (by simp [Obs])
      have x0 := hE.trans e0
      clear hcells hdirt hrn e0 hR hE
      go_upto_region 5 with fail
      clear k0 k1 k2 k3 k4 k5 k6 k7
      generalize hc2 : setc c1 wr.heap.size (0, 1) = c2 at b0 d0 r0 x0
      generalize hp1 : wr.heap.size = p1 at b0 ⊢
      obtain ⟨w1, hw1'⟩ : ∃ w1, w1 = wr.alloc (.cells (recCells r (.slice q r.dirty.length dcap)).toArray 33) := ⟨_, rfl⟩
      rw [← hw1'] at b0 d0 r0 x0
      have henc := Lib.hid (encode_in c2 w1 Y r hrok.out _ d0 (0, 2))
      unfold recCells at hw1' henc
      rw [← hw1']
      clear hw1' hp1 hc2
      have k0 : w1.cell? ⟨p1, 0, none⟩ = some (Value.int .i64 (r.kind : Int)) := (b0.cell 0).trans rfl
      have k1 : w1.cell? ⟨p1, 1, none⟩ = some (Value.int .i64 (r.txn : Int)) := (b0.cell 1).trans rfl
      have k2 : w1.cell? ⟨p1, 2, none⟩ = some (Value.int .i64 (r.page : Int)) := (b0.cell 2).trans rfl
      have k3 : w1.cell? ⟨p1, 3, none⟩ = some (Value.int .i64 (r.slot : Int)) := (b0.cell 3).trans rfl
      have k4 : w1.cell? ⟨p1, 4, none⟩ = some (Value.string r.before) := (b0.cell 4).trans rfl
      have k5 : w1.cell? ⟨p1, 5, none⟩ = some (Value.string r.after) := (b0.cell 5).trans rfl
      have k6 : w1.cell? ⟨p1, 6, none⟩ = some (Value.string r.image) := (b0.cell 6).trans rfl
      have k7 : w1.cell? ⟨p1, 7, none⟩ = some (Value.slice q r.dirty.length dcap) := (b0.cell 7).trans rfl
      have R0 := Lib.hid r0
      have X0 := Lib.hid x0
      clear b0 d0 r0 x0
      have hst : encs (rs.take (n + 1)) = encs (rs.take n) ++ encB r := by
        rw [List.take_succ_eq_append_getElem hlt, encs_app, encs_one]
        have e : rs[n] = r := by have := HRN.out; rw [List.getElem?_eq_getElem hlt] at this; exact Option.some.inj this
        rw [e]
      obtain ⟨A, hA⟩ : ∃ A, A = (encs (rs.take n)).length := ⟨_, rfl⟩
      obtain ⟨B2, hB⟩ : ∃ B2, B2 = (encB r).length := ⟨_, rfl⟩
      have hle : A + B2 ≤ 1000000 := by
        have h1 := encs_take_le rs (n + 1)
        have h2 := HLEN.out
        rw [hst, List.length_append] at h1
        omega
      rw [← hA]
      have HST := Lib.hid hst
      have HAA := Lib.hid hA
      have HBB := Lib.hid hB
      clear hst hA hB
      go_wp2_with (go_at_call 16; refine (henc.out).mono ?_; rintro e w3 ⟨fv, c4, rfl, hO, hE⟩; obtain ⟨fp, fcap, rfl⟩ := hO.form; rw [← HBB.out]; have R4 := Lib.hid ((R0.out).keep hE (by simp [Obs])); have X4 := Lib.hid ((X0.out).trans hE); clear henc hE hO R0 X0)
      refine ⟨⟨n + 1, hlt, rfl, ?_, c4, R4.out, X4.out⟩, by simp [intOf] <;> omega⟩
      rw [HST.out, List.length_append, ← HAA.out, ← HBB.out]; rfl
    · obtain rfl : n = rs.length := by omega
      rw [List.take_of_length_le (Nat.le_refl _)]
      have X1 := Lib.hid hE
      clear hR hE
      go_wp2_with fail
      go_ret
      exact ⟨rfl, c1, X1.out⟩
end Go.Proofs.Ytfeacmlnlljnnaa

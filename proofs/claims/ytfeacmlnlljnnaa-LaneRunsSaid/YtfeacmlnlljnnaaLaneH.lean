/- Package lane: slices of records; what Anew comes to. -/
import Derived.Test.YtfeacmlnlljnnaaLaneG
import Derived.Test.YtfeacmlnlljnnaaLaneQ
namespace Go.Proofs.Ytfeacmlnlljnnaa
open Go Go.Proofs Go.RowKit

/-- A slice of records that is read; all of it of object Y. -/
def Recs (c : Col) (w : World) (Y : Nat) (v : Value) (rs : List Rec) : Prop :=
  ∃ ps : List (Rec × Value), ps.map Prod.fst = rs ∧ Rs c w Y v rs.length (ps.flatMap fun p => recCells p.1 p.2) ∧ ∀ p ∈ ps, Dirt c w Y p.2 p.1

theorem Recs.keep {M : Nat × Nat → Prop} {c c' : Col} {w w' : World} {Y : Nat} {v : Value} {rs : List Rec} (h : Recs c w Y v rs) (g : Ext M c w c' w') (hx : ∀ q, ¬ M (Y, q)) : Recs c' w' Y v rs := by
  obtain ⟨ps, h1, h2, h3⟩ := h
  exact ⟨ps, h1, h2.keep g hx, fun p hp => Rs.keep (h3 p hp) g hx⟩

theorem Recs.form {c : Col} {w : World} {Y : Nat} {v : Value} {rs : List Rec} (h : Recs c w Y v rs) : ∃ p cap, v = .slice p rs.length cap ∧ rs.length ≤ cap ∧ cap ≤ maxLen := by
  obtain ⟨ps, _, ⟨p, cap, e, h1, h2, _⟩, _⟩ := h
  exact ⟨p, cap, e, h1, h2⟩

theorem Recs.at {c : Col} {w : World} {Y : Nat} {p : Option Addr} {n cap : Nat} {rs : List Rec} (h : Recs c w Y (.slice p n cap) rs) {k : Nat} {r : Rec} (hk : rs[k]? = some r) :
    ∃ g o dv, p = some ⟨g, o, none⟩ ∧ Dirt c w Y dv r ∧ ∀ j u, (recCells r dv)[j]? = some u → w.cell? ⟨g, o + k * 8 + j, none⟩ = some u := by
  obtain ⟨ps, h1, ⟨p', cap', e, _, _, h2⟩, h3⟩ := h
  simp only [Value.slice.injEq] at e
  obtain ⟨rfl, _, rfl⟩ := e
  rw [← h1, List.getElem?_map] at hk
  obtain ⟨x, hx, rfl⟩ := Option.map_eq_some_iff.1 hk
  have hget : ∀ j, j < 8 → (ps.flatMap fun p => recCells p.1 p.2)[k * 8 + j]? = (recCells x.1 x.2)[j]? := fun j hj => flatMap_get _ 8 ps (fun y _ => rfl) k j x hx hj
  obtain ⟨g, o, hp, _, _, _⟩ := h2 (k * 8 + 0) (.int .i64 (x.1.kind : Int)) (by rw [hget 0 (by omega)]; rfl)
  refine ⟨g, o, x.2, hp, h3 x (List.mem_of_getElem? hx), fun j u hj => ?_⟩
  have hlt : j < 8 := by
    have := (List.getElem?_eq_some_iff.1 hj).1
    simpa [recCells] using this
  obtain ⟨g', o', hp', _, _, hu⟩ := h2 (k * 8 + j) u (by rw [hget j hlt]; exact hj)
  rw [hp] at hp'
  simp only [Option.some.injEq, Addr.mk.injEq, and_true] at hp'
  obtain ⟨rfl, rfl⟩ := hp'
  rw [Nat.add_assoc]
  exact hu

theorem encs_count (rs : List Rec) : rs.length ≤ (encs rs).length := by
  induction rs with
  | nil => simp
  | cons r l ih => rw [encs_cons, List.length_append, List.length_cons]; have : 2 ≤ (encB r).length := by simp [encB, be_len]
                   omega

theorem Sl.recol_ne {c : Col} {w : World} {x f : Nat × Nat} {sz : Nat} {v : Value} {n : Nat} {xs : List Value} (h : Sl c w x sz v n xs) (hx : x ≠ f) (z : Nat × Nat) : Sl (Go.Proofs.Ytfeacmlnlljnnaa.recol c f z) w x sz v n xs := by
  refine ⟨h.1, ?_⟩
  rcases h.2 with h | ⟨b, cap, cur, rfl, hb, r⟩
  · exact .inl h
  · exact .inr ⟨b, cap, cur, rfl, hb.recol_ne hx z, r⟩
theorem DiskRep.recol {c : Col} {w : World} {X d : Nat} {D : DiskM} (h : DiskRep c w X d D) {f : Nat × Nat} (hf : f.1 ≠ X) (z : Nat × Nat) : DiskRep (Go.Proofs.Ytfeacmlnlljnnaa.recol c f z) w X d D := by
  obtain ⟨bd, bg, wv, wr, data, h⟩ := h
  have hn : ∀ k, ((X, k) : Nat × Nat) ≠ f := fun k e => hf (by rw [← e])
  exact ⟨bd, bg, wv, wr, data, h.top.recol_ne (hn _) z, h.secs.recol_ne (hn _) z, h.sectors, h.regs.recol_ne (hn _) z, fun r hr => (h.waits r hr).recol_ne (hn _) z, h.wf⟩

/-- The blocks of object X, and of those from N on. -/
def BigX (X N : Nat) (y : Nat × Nat) : Prop := y.1 = X ∨ N ≤ y.1
theorem Ext.bigX {c c' : Col} {w w' : World} {X N : Nat} (h : Ext (BigX X N) c w c' w') (hf : ∀ k, k < w.heap.size → ¬ N ≤ (c k).1) : Ext (Obs [X]) c w c' w' :=
  ⟨h.os, h.tape, h.output, h.size, h.col, fun k hk hm => h.block k hk (fun e => e.elim (fun e => hm (by simp [Obs, e])) (hf k hk))⟩
theorem Ext.ofBig {c c' : Col} {w w' : World} {X N : Nat} (h : Ext (Big N) c w c' w') : Ext (BigX X N) c w c' w' := h.mono (fun _ e => .inr e)
theorem Ext.ofObs {c c' : Col} {w w' : World} {X N : Nat} (h : Ext (Obs [X]) c w c' w') : Ext (BigX X N) c w c' w' := h.mono (fun _ e => .inl (by simpa [Obs] using e))

structure AnewAt (c : Col) (w : World) (X d Z l Y : Nat) (N : Nat) (D : DiskM) (L : LaneM) (rv : Value) (rs : List Rec) (bs : Bs) (v : Value) (c' : Col) (wx : World) : Prop where
  disk : DiskRep c' wx X d D
  lane : LaneRep c' wx Z l d L
  recs : Recs c' wx Y rv rs
  own : Own c' wx (N, 0) v bs
  ext : Ext (BigX X N) c w c' wx

theorem AnewAt.quiet {c : Col} {w : World} {X d Z l Y : Nat} {N : Nat} {D : DiskM} {L : LaneM} {rv : Value} {rs : List Rec} {bs : Bs} {v : Value} {c' c2 : Col} {wx w2 : World} (h : AnewAt c w X d Z l Y N D L rv rs bs v c' wx) (g : Ext (Obs []) c' wx c2 w2) :
    AnewAt c w X d Z l Y N D L rv rs bs v c2 w2 :=
  ⟨h.disk.keep g (fun q h => by simp [Obs] at h), h.lane.keep g (fun q h => by simp [Obs] at h), h.recs.keep g (fun q h => by simp [Obs] at h), h.own.keep g (fun h => by simp [Obs] at h), h.ext.trans g.none⟩

theorem AnewAt.more {c : Col} {w : World} {X d Z l Y : Nat} {N : Nat} {D : DiskM} {L : LaneM} {rv : Value} {rs : List Rec} {bs bs2 : Bs} {v v2 : Value} {c' c2 : Col} {wx w2 : World} (h : AnewAt c w X d Z l Y N D L rv rs bs v c' wx) (hN : X + Z + Y < N) (ho : Own c2 w2 (N, 0) v2 bs2) (g : Ext (fun y => y = (N, 0)) c' wx c2 w2) :
    AnewAt c w X d Z l Y N D L rv rs bs2 v2 c2 w2 :=
  ⟨h.disk.keep g (fun q h => by simp at h; omega), h.lane.keep g (fun q h => by simp at h; omega), h.recs.keep g (fun q h => by simp at h; omega), ho, h.ext.trans (g.one (by simp)).ofBig⟩

theorem AnewAt.did {c : Col} {w : World} {X d Z l Y : Nat} {N : Nat} {D E : DiskM} {L : LaneM} {rv : Value} {rs : List Rec} {bs : Bs} {v : Value} {c' c2 : Col} {wx w2 : World} (h : AnewAt c w X d Z l Y N D L rv rs bs v c' wx) (hZ : Z ≠ X) (hY : Y ≠ X) (hN : X + Z + Y < N)
    (hD : DiskRep c2 w2 X d E) (g : Ext (Obs [X]) c' wx c2 w2) : AnewAt c w X d Z l Y N E L rv rs bs v c2 w2 :=
  ⟨hD, h.lane.keep g (fun q h => by simp [Obs] at h; omega), h.recs.keep g (fun q h => by simp [Obs] at h; omega), h.own.keep g (fun h => by simp [Obs] at h; omega), h.ext.trans g.ofObs⟩

theorem wipe_two (D : DiskM) (r a n : Nat) : (wipe D r a n).2 = 0 ∨ (wipe D r a n).2 = 10 := by
  have hw : ∀ n, (wipeN D r a n).2 = 0 ∨ (wipeN D r a n).2 = 10 := fun n => by
    induction n with
    | zero => left; rfl
    | succ n ih =>
      unfold wipeN; split
      · exact ih
      · split
        · exact ih
        · exact wr_two _ _ _ _
  unfold wipe; split
  · exact hw _
  · exact bar_two _ _

theorem wipe_n (D : DiskM) (r a n : Nat) : (wipe D r a n).1.n = D.n ∧ (wipe D r a n).1.size = D.size ∧ ((wipe D r a n).1.waits r).length ≤ (D.waits r).length + n := by
  have h3 := wipeN_n D r a n
  have h4 := bar_n (wipeN D r a n).1 r
  unfold wipe
  split
  · exact h3
  · refine ⟨by omega, by omega, ?_⟩
    unfold DiskM.bar; split
    · exact h3.2.2
    · simp [DiskM.keep]
theorem lay_n (D : DiskM) (r bank gen : Nat) (b : Bs) (s0 : Nat) : (lay D r bank gen b s0).1.n = D.n ∧ (lay D r bank gen b s0).1.size = D.size ∧ ((lay D r bank gen b s0).1.waits r).length ≤ (D.waits r).length + secs b := by
  have h3 := layN_n D r bank gen b s0 (secs b - s0)
  have h4 := bar_n (layN D r bank gen b s0 (secs b - s0)).1 r
  unfold lay
  split
  · exact ⟨h3.1, h3.2.1, by omega⟩
  · refine ⟨by omega, by omega, ?_⟩
    unfold DiskM.bar; split
    · have := h3.2.2
      show (DiskM.waits (layN D r bank gen b s0 (secs b - s0)).1 r).length ≤ _
      omega
    · simp [DiskM.keep]

theorem anewD_eq {D : DiskM} {r gen bank : Nat} {b : Bs} {W P Q : DiskM × Int} (hW : W = wipe D r (2 + bank * 256) 256) (hP : P = lay W.1 r bank gen b 0) (hQ : Q = P.1.wr r 1 (be 4 gen ++ be 1 bank)) :
    anewD D r gen bank b = if W.2 ≠ 0 then W else if P.2 ≠ 0 then P else if Q.2 ≠ 0 then Q else Q.1.bar r := by
  rw [hW] at hP
  rw [hP] at hQ
  rw [hQ, hP, hW]
  unfold anewD thenD
  rfl

theorem anewD_two (D : DiskM) (r gen bank : Nat) (b : Bs) : (anewD D r gen bank b).2 = 0 ∨ (anewD D r gen bank b).2 = 10 := by
  have t : ∀ (p : DiskM × Int) (f : DiskM → DiskM × Int), (p.2 = 0 ∨ p.2 = 10) → (∀ E, (f E).2 = 0 ∨ (f E).2 = 10) → (thenD p f).2 = 0 ∨ (thenD p f).2 = 10 := fun p f h1 h2 => by
    unfold thenD; split
    · exact h1
    · exact h2 _
  exact t _ _ (wipe_two _ _ _ _) (fun E => t _ _ (lay_two _ _ _ _ _ _) (fun G => t _ _ (wr_two _ _ _ _) (fun H => bar_two _ _)))

/-- Anew's lane, by the error. -/
def anewM (L : LaneM) (b : Bs) (e : Int) : LaneM := if e = 0 then anewL L b else L

theorem anew_fin {c : Col} {w : World} {X d Z l Y N : Nat} {D : DiskM} {L : LaneM} {rv : Value} {rs : List Rec} {bs : Bs} {v bv : Value} {c7 : Col} {w7 : World} {G K : Nat} (h : AnewAt c w X d Z l Y N D L rv rs bs v c7 w7) (hla : LaneAt c7 w7 Z l d L bv)
    (hf : ∀ k, k < w.heap.size → ¬ N ≤ (c k).1) (hN : X + Z + Y < N) (hX : 1 ≤ X) (hZ : Z ≠ X) (hG : G = L.gen + 1) (hK : K = 1 - L.bank) (hwf : L.WF) (hGl : G < 4294967296) (hbl : bs.length ≤ 14336) (hGe : ((G : Nat) : Int) = (L.gen : Int) + 1) :
    DidL c w X Z d l D (anewM L bs 0) 0 (.returned (.int .i64 0)) ((((w7.setCell ⟨l, 2, none⟩ (.int .u64 ((L.gen : Int) + 1))).setCell ⟨l, 3, none⟩ (.int .i64 (K : Int))).setCell ⟨l, 4, none⟩ v).setCell ⟨l, 5, none⟩ (.int .i64 (bs.length : Int))) := by
  have hcol : c7 l = (Z, 0) := hla.top.col
  have e : Ext (Obs [Z]) c7 w7 c7 ((((w7.setCell ⟨l, 2, none⟩ (.int .u64 ((L.gen : Int) + 1))).setCell ⟨l, 3, none⟩ (.int .i64 (K : Int))).setCell ⟨l, 4, none⟩ v).setCell ⟨l, 5, none⟩ (.int .i64 (bs.length : Int))) :=
    ((((Ext.refl (Obs [Z]) c7 w7).setCell (a := ⟨l, 2, none⟩) (by rw [hcol]; simp [Obs]) _).setCell (a := ⟨l, 3, none⟩) (by rw [hcol]; simp [Obs]) _).setCell (a := ⟨l, 4, none⟩) (by rw [hcol]; simp [Obs]) _).setCell (a := ⟨l, 5, none⟩) (by rw [hcol]; simp [Obs]) _
  have ho := h.own.keep e (fun q => by simp [Obs] at q; omega)
  have ht := (((hla.top.set 2 (.int .u64 ((L.gen : Int) + 1))).set 3 (.int .i64 (K : Int))).set 4 v).set 5 (.int .i64 (bs.length : Int))
  have hm : anewM L bs 0 = anewL L bs := if_pos rfl
  rw [hm]
  have hne : ((Z, 0) : Nat × Nat) ≠ (N, 0) := fun q => by simp at q; omega
  have hz : ∀ k, k < w.heap.size → c k ≠ (N, 0) := fun k hk e => by have := hf k hk; rw [e] at this; exact this (by simp)
  have hd : DiskRep c7 ((((w7.setCell ⟨l, 2, none⟩ (.int .u64 ((L.gen : Int) + 1))).setCell ⟨l, 3, none⟩ (.int .i64 (K : Int))).setCell ⟨l, 4, none⟩ v).setCell ⟨l, 5, none⟩ (.int .i64 (bs.length : Int))) X d D := h.disk.keep e (fun q h => by simp [Obs] at h; omega)
  refine ⟨recol c7 (N, 0) (Z, 1), rfl, hd.recol (by show N ≠ X; omega) _, ⟨v, ?_, ho.recol _, anewL_wf hwf bs hbl (by omega)⟩, ?_⟩
  · have ht2 := ht.recol_ne hne (Z, 1)
    have e2 : (anewL L bs).gen = G := hG.symm
    have e3 : (anewL L bs).bank = K := hK.symm
    rw [e2, e3, hGe]
    exact ht2
  · refine Ext.recol (Ext.trans ((h.ext.bigX hf).obs (by simp)) (e.obs (by simp))) hz _

set_option maxRecDepth 100000 in
set_option maxHeartbeats 4000000 in
theorem anew_in (c : Col) (w : World) (X d Z l Y : Nat) (D : DiskM) (L : LaneM) (rv : Value) (rs : List Rec) (hX : 1 ≤ X) (hZ : Z ≠ X) (hY : Y ≠ X) (hYZ : Y ≠ Z) (hD : DiskRep c w X d D) (hL : LaneRep c w Z l d L) (hv : Recs c w Y rv rs)
    (hok : ∀ x ∈ rs, x.Ok) (hlen : (encs rs).length ≤ 14336) (hr : L.r < D.n) (hsz : 514 ≤ D.size) (hw9 : (D.waits L.r).length ≤ 800000) (hg : L.gen + 1 < 4294967296) :
    Calls Try.prog 18 #[.pointer (some ⟨l, 0, none⟩), rv] w
      (DidL c w X Z d l (anewD D L.r (L.gen + 1) (1 - L.bank) (encs rs)).1 (anewM L (encs rs) (anewD D L.r (L.gen + 1) (1 - L.bank) (encs rs)).2) (anewD D L.r (L.gen + 1) (1 - L.bank) (encs rs)).2) := by
  obtain ⟨N, hfn, hf⟩ := big_col c w (X + Z + Y)
  have HF := Lib.hid hf
  have hwf : L.WF := by obtain ⟨bv, h⟩ := hL; exact h.wf
  have hbk := hwf.bank
  obtain ⟨p, cap, rfl, hcap, _⟩ := hv.form
  have h0 : AnewAt c w X d Z l Y N D L (.slice p rs.length cap) rs [] (.slice none 0 0) c w := ⟨hD, hL, hv, Own.nil c w (N, 0), Ext.refl _ _ _⟩
  obtain ⟨bv, hla⟩ := hL
  have k3 : w.cell? ⟨l, 3, none⟩ = some (.int .i64 (L.bank : Int)) := (hla.top.cell 3).trans rfl
  have H0 := Lib.hid h0
  have HOK := Lib.hid hok
  have HLEN := Lib.hid hlen
  have HW := Lib.hid hw9
  have HWF := Lib.hid hwf
  obtain ⟨K, hK⟩ : ∃ K, K = 1 - L.bank := ⟨_, rfl⟩
  have hw1 : IntKind.i64.wrap (1 - (L.bank : Int)) = (K : Int) := by rw [IntWalk.i64_in _ ⟨by omega, by omega⟩]; omega
  rw [← hK]
  have HK := Lib.hid hK
  have hK1 : K ≤ 1 := by omega
  have hcnt : rs.length ≤ 14336 := Nat.le_trans (encs_count rs) hlen
  obtain ⟨W, hW⟩ : ∃ W, W = wipe D L.r (2 + K * 256) 256 := ⟨_, rfl⟩
  obtain ⟨G, hG⟩ : ∃ G, G = L.gen + 1 := ⟨_, rfl⟩
  obtain ⟨P, hP⟩ : ∃ P, P = lay W.1 L.r K G (encs rs) 0 := ⟨_, rfl⟩
  obtain ⟨Q, hQ⟩ : ∃ Q, Q = P.1.wr L.r 1 (be 4 G ++ be 1 K) := ⟨_, rfl⟩
  have hA := anewD_eq hW hP hQ
  have hWn := wipe_n D L.r (2 + K * 256) 256
  rw [← hW] at hWn
  have hPn := lay_n W.1 L.r K G (encs rs) 0
  rw [← hP] at hPn
  have hQn := wr_n P.1 L.r 1 (be 4 G ++ be 1 K)
  have hQw := wr_waits P.1 L.r 1 (be 4 G ++ be 1 K)
  rw [← hQ] at hQn hQw
  have hsb : secs (encs rs) ≤ 256 := by unfold secs; omega
  have hGe : ((G : Nat) : Int) = (L.gen : Int) + 1 := by rw [hG]; rfl
  have hGl : G < 4294967296 := by omega
  rw [← hG]
  obtain ⟨E, hE⟩ : ∃ E, E = anewD D L.r G K (encs rs) := ⟨_, rfl⟩
  rw [← hE]
  rw [← hE] at hA
  have HA := Lib.hid hA
  have HWD := Lib.hid hW
  have HP := Lib.hid hP
  have HQ := Lib.hid hQ
  have HGE := Lib.hid hGe
  have HGG := Lib.hid hG
  have hM : anewM L (encs rs) 10 = L := if_neg (by decide)
  have HM := Lib.hid hM
  have HWN := Lib.hid hWn
  have HPN := Lib.hid hPn
  have HQN := Lib.hid (And.intro hQn hQw)
  clear hf hD hla hv h0 hok hlen hw9 hwf hK hA hW hP hQ hGe hG hE hM hWn hPn hQn hQw
  go_enter Try.func18, Try.ntmps18
  go_upto_region 4 with fail
  clear k3
  go_loopw [21, 6] (fun i v wx => ∃ n : Nat, n ≤ rs.length ∧ i = .int .i64 (n : Int) ∧ Hid (∃ c', AnewAt c w X d Z l Y N D L (.slice p rs.length cap) rs (encs (rs.take n)) v c' wx)) (fun i _ _ => rs.length - (intOf i).toNat)
  case atStart => exact ⟨0, Nat.zero_le _, rfl, c, H0.out⟩
  case round =>
    obtain ⟨n, hn, rfl, hrel⟩ := hrel
    obtain ⟨c1, h1⟩ := hrel.out
    clear hrel
    obtain ⟨bp, bcap, rfl⟩ := h1.own.form
    by_cases hlt : n < rs.length
    · obtain ⟨r, hrn⟩ : ∃ r, rs[n]? = some r := ⟨_, List.getElem?_eq_getElem hlt⟩
      obtain ⟨g, o, dv, rfl, hdirt, hcells⟩ := h1.recs.at hrn
      have hrok := Lib.hid (HOK.out r (List.mem_of_getElem? hrn))
      obtain ⟨q, dcap, rfl, _⟩ := id hdirt
      have k0 := hcells 0 _ rfl
      rw [Nat.add_zero] at k0
      have k1 := hcells 1 _ rfl
      have k2 := hcells 2 _ rfl
      have k3 := hcells 3 _ rfl
      have k4 := hcells 4 _ rfl
      have k5 := hcells 5 _ rfl
      have k6 := hcells 6 _ rfl
      have k7 := hcells 7 _ rfl
      have H1 := Lib.hid h1
      have HD := Lib.hid hdirt
      have HRN := Lib.hid hrn
      have e0 := (Ext.refl (Obs []) c1 wr).alloc (.cells (recCells r (.slice q r.dirty.length dcap)).toArray 33) (N + 1, 0)
      have b0 := Blk.new c1 wr (recCells r (.slice q r.dirty.length dcap)) 33 (N + 1, 0)
      have d0 := Rs.keep hdirt e0 (by simp [Obs])
      have h2 := h1.quiet e0
      clear h1 hcells hdirt hrn H1 HD e0
      go_upto_region 6 with fail
      clear k0 k1 k2 k3 k4 k5 k6 k7
      generalize hc2 : setc c1 wr.heap.size (N + 1, 0) = c2 at b0 d0 h2
      generalize hp1 : wr.heap.size = p1 at b0 ⊢
      obtain ⟨w1, hw1'⟩ : ∃ w1, w1 = wr.alloc (.cells (recCells r (.slice q r.dirty.length dcap)).toArray 33) := ⟨_, rfl⟩
      rw [← hw1'] at b0 d0 h2
      have hri := Lib.hid (right_in c2 w1 Y r hrok.out _ d0)
      unfold recCells at hw1' hri
      rw [← hw1']
      clear hw1' hp1 hc2
      have k0 : w1.cell? ⟨p1, 0, none⟩ = some (Value.int .i64 (r.kind : Int)) := (b0.cell 0).trans rfl
      have k1 : w1.cell? ⟨p1, 1, none⟩ = some (Value.int .i64 (r.txn : Int)) := (b0.cell 1).trans rfl
      have k2 : w1.cell? ⟨p1, 2, none⟩ = some (Value.int .i64 (r.page : Int)) := (b0.cell 2).trans rfl
      have k3 : w1.cell? ⟨p1, 3, none⟩ = some (Value.int .i64 (r.slot : Int)) := (b0.cell 3).trans rfl
      have k4 : w1.cell? ⟨p1, 4, none⟩ = some (Value.string r.before) := (b0.cell 4).trans rfl
      have k5 : w1.cell? ⟨p1, 5, none⟩ = some (Value.string r.after) := (b0.cell 5).trans rfl
      have k6 : w1.cell? ⟨p1, 6, none⟩ = some (Value.string r.image) := (b0.cell 6).trans rfl
      have k7 : w1.cell? ⟨p1, 7, none⟩ = some (Value.slice q r.dirty.length dcap) := (b0.cell 7).trans rfl
      have B0 := Lib.hid b0
      have D0 := Lib.hid d0
      have H2 := Lib.hid h2
      clear b0 d0 h2
      go_upto_region 8 with (go_at_call 41; refine (hri.out).mono ?_; rintro e w2 ⟨rfl, c3, hE⟩; have B1 := Lib.hid ((B0.out).keep hE (by simp [Obs])); have D1 := Lib.hid (Rs.keep D0.out hE (by simp [Obs])); have H3 := Lib.hid ((H2.out).quiet hE); clear hri hE B0 D0 H2 k0 k1 k2 k3 k4 k5 k6 k7)
      have henc := Lib.hid (encode_in c3 w2 Y r hrok.out _ D1.out (N + 2, 0))
      unfold recCells at henc
      have k0 : w2.cell? ⟨p1, 0, none⟩ = some (Value.int .i64 (r.kind : Int)) := ((B1.out).cell 0).trans rfl
      have k1 : w2.cell? ⟨p1, 1, none⟩ = some (Value.int .i64 (r.txn : Int)) := ((B1.out).cell 1).trans rfl
      have k2 : w2.cell? ⟨p1, 2, none⟩ = some (Value.int .i64 (r.page : Int)) := ((B1.out).cell 2).trans rfl
      have k3 : w2.cell? ⟨p1, 3, none⟩ = some (Value.int .i64 (r.slot : Int)) := ((B1.out).cell 3).trans rfl
      have k4 : w2.cell? ⟨p1, 4, none⟩ = some (Value.string r.before) := ((B1.out).cell 4).trans rfl
      have k5 : w2.cell? ⟨p1, 5, none⟩ = some (Value.string r.after) := ((B1.out).cell 5).trans rfl
      have k6 : w2.cell? ⟨p1, 6, none⟩ = some (Value.string r.image) := ((B1.out).cell 6).trans rfl
      have k7 : w2.cell? ⟨p1, 7, none⟩ = some (Value.slice q r.dirty.length dcap) := ((B1.out).cell 7).trans rfl
      have hl1 : (encs (rs.take n)).length ≤ 14336 := Nat.le_trans (encs_take_le rs n) HLEN.out
      have hl2 : (encB r).length ≤ 14336 := by
        have h1 := encs_take_le rs (n + 1)
        have h2 := HLEN.out
        rw [List.take_succ_eq_append_getElem hlt, encs_app, encs_one, List.length_append] at h1
        have e : rs[n] = r := by have := HRN.out; rw [List.getElem?_eq_getElem hlt] at this; exact Option.some.inj this
        rw [e] at h1
        omega
      go_wp2_with (first
        | (go_at_call 16; refine (henc.out).mono ?_; rintro e w3 ⟨fv, c4, rfl, hO, hE⟩; have HO := Lib.hid hO; have H4 := Lib.hid ((H3.out).quiet hE); clear henc hE hO H3)
        | (refine append_bb (o := ⟨some 31, _, _, _, _, _⟩) rfl (.tmp 28) (.tmp 30) 44 rfl c4 (N, 0) _ _ rfl (H4.out).own _ rfl (encB r) (HO.out).rd.src (by omega) ?_; intro v5 w5 c5 hO5 hE5; have H5 := Lib.hid ((H4.out).more hfn hO5 hE5.own); clear hO5 hE5 H4))
      refine ⟨⟨n + 1, hlt, rfl, c5, ?_⟩, by simp [intOf] <;> omega⟩
      rw [List.take_succ_eq_append_getElem hlt, encs_app, encs_one]
      have e : rs[n] = r := by have := HRN.out; rw [List.getElem?_eq_getElem hlt] at this; exact Option.some.inj this
      rw [e]
      exact H5.out
    · obtain rfl : n = rs.length := by omega
      rw [List.take_of_length_le (Nat.le_refl _)] at h1 ⊢
      obtain ⟨bv, hla⟩ := h1.lane
      have k0 : wr.cell? ⟨l, 0, none⟩ = some (.pointer (some ⟨d, 0, none⟩)) := (hla.top.cell 0).trans rfl
      have k1 : wr.cell? ⟨l, 1, none⟩ = some (.int .i64 (L.r : Int)) := (hla.top.cell 1).trans rfl
      have hbl := HLEN.out
      obtain ⟨F, hF⟩ : ∃ F, F = 2 + K * 256 := ⟨_, rfl⟩
      obtain ⟨T, hT⟩ : ∃ T, T = F + 256 := ⟨_, rfl⟩
      have hfi := first_in wr.drew K hK1
      rw [← hF] at hfi
      have hwrap : IntKind.i64.wrap ((F : Int) + 256) = (T : Int) := by rw [IntWalk.i64_in _ ⟨by omega, by omega⟩]; omega
      have ed : Ext (Obs []) c1 wr c1 wr.drew := (Ext.refl (Obs []) c1 wr).drew
      have h1d := h1.quiet ed
      have hwipe := wipe_in c1 wr.drew X d D L.r F 256 hX h1d.disk hr (by omega) (by have := HW.out; omega)
      rw [← hT, hF] at hwipe
      rw [← HWD.out, ← hF] at hwipe
      have HWP := Lib.hid hwipe
      have H1 := Lib.hid h1d
      have hF258 : F ≤ 258 := by omega
      have HFF := Lib.hid hF
      clear h1 hla hwipe h1d hF hT
      go_upto_region 12 with fail
      refine X_begin [] [13] (fun _ => True) (by kernel_rfl) ?_
      refine X_pure 0 rfl (by kernel_rfl) (by kernel_rfl) (by kernel_rfl) (by kernel_rfl) (fun _ _ _ h => h) rfl (by intro w; go_simp; first | done | with_reducible rfl) ?_
      try simp only [Act.put, List.setIfInBounds_toArray, List.set_cons_zero, List.set_cons_succ]
      refine X_pure 1 rfl (by kernel_rfl) (by kernel_rfl) (by kernel_rfl) (by kernel_rfl) (fun _ _ _ h => h) rfl (by intro w; go_simp; first | done | with_reducible rfl) ?_
      try simp only [Act.put, List.setIfInBounds_toArray, List.set_cons_zero, List.set_cons_succ]
      refine X_pure 2 rfl (by kernel_rfl) (by kernel_rfl) (by kernel_rfl) (by kernel_rfl) (fun _ _ _ h => h) rfl (by intro w; go_simp; first | done | with_reducible rfl) ?_
      try simp only [Act.put, List.setIfInBounds_toArray, List.set_cons_zero, List.set_cons_succ]
      refine X_pure 4 rfl (by kernel_rfl) (by kernel_rfl) (by kernel_rfl) (by kernel_rfl) (fun _ _ _ h => h) rfl (by intro w; go_simp; first | done | with_reducible rfl) ?_
      try simp only [Act.put, List.setIfInBounds_toArray, List.set_cons_zero, List.set_cons_succ]
      refine X_pure 5 rfl (by kernel_rfl) (by kernel_rfl) (by kernel_rfl) (by kernel_rfl) (fun _ _ _ h => h) rfl (by intro w; go_simp; first | done | with_reducible rfl) ?_
      try simp only [Act.put, List.setIfInBounds_toArray, List.set_cons_zero, List.set_cons_succ]
      refine X_pure 6 rfl (by kernel_rfl) (by kernel_rfl) (by kernel_rfl) (by kernel_rfl) (fun _ _ _ h => h) rfl (by intro w; go_simp; first | done | with_reducible rfl) ?_
      try simp only [Act.put, List.setIfInBounds_toArray, List.set_cons_zero, List.set_cons_succ]
      refine X_pure 8 rfl (by kernel_rfl) (by kernel_rfl) (by kernel_rfl) (by kernel_rfl) (fun _ _ _ h => h) rfl (by intro w; go_simp; first | done | with_reducible rfl) ?_
      try simp only [Act.put, List.setIfInBounds_toArray, List.set_cons_zero, List.set_cons_succ]
      refine X_pure 10 rfl (by kernel_rfl) (by kernel_rfl) (by kernel_rfl) (by kernel_rfl) (fun _ _ _ h => h) rfl (by intro w; go_simp; first | done | with_reducible rfl) ?_
      try simp only [Act.put, List.setIfInBounds_toArray, List.set_cons_zero, List.set_cons_succ]
      refine X_still 3 rfl (by kernel_rfl) (by kernel_rfl) (by kernel_rfl) (by kernel_rfl) rfl (by go_simp; first | done | with_reducible rfl) ?_
      try simp only [Act.put, List.setIfInBounds_toArray, List.set_cons_zero, List.set_cons_succ]
      refine X_still 7 rfl (by kernel_rfl) (by kernel_rfl) (by kernel_rfl) (by kernel_rfl) rfl (by go_simp; first | done | with_reducible rfl) ?_
      try simp only [Act.put, List.setIfInBounds_toArray, List.set_cons_zero, List.set_cons_succ]
      refine X_scall 9 rfl (by kernel_rfl) (by kernel_rfl) (by kernel_rfl) (by kernel_rfl) rfl _ _ (by go_simp; first | done | with_reducible rfl) (hfi) ?_
      try simp only [Act.put, List.setIfInBounds_toArray, List.set_cons_zero, List.set_cons_succ]
      refine X_scall 11 rfl (by kernel_rfl) (by kernel_rfl) (by kernel_rfl) (by kernel_rfl) rfl _ _ (by go_simp; first | done | with_reducible rfl) (hfi) ?_
      try simp only [Act.put, List.setIfInBounds_toArray, List.set_cons_zero, List.set_cons_succ]
      refine X_pure 12 rfl (by kernel_rfl) (by kernel_rfl) (by kernel_rfl) (by kernel_rfl) (fun _ _ _ h => h) rfl (by intro w; go_simp; first | done | with_reducible rfl) ?_
      try simp only [Act.put, List.setIfInBounds_toArray, List.set_cons_zero, List.set_cons_succ]
      refine X_op 13 rfl (by kernel_rfl) (by kernel_rfl) (by kernel_rfl) ?_
      have h2W : W.2 = 0 ∨ W.2 = 10 := by rw [HWD.out]; exact wipe_two _ _ _ _
      clear ed hfi hwrap
      rcases h2W with hk | hk
      rotate_left
      · rw [hk] at HWP
        have HE : Hid (E = W) := Lib.hid (by rw [HA.out, if_pos (by rw [hk]; decide)])
        have HKK := Lib.hid hk
        clear hk
        go_wp2_with (go_at_call 46; refine (HWP.out).mono ?_; rintro e w2 ⟨c2, rfl, hR, hE⟩; have H2 := Lib.hid ((H1.out).did hZ hY hfn hR hE); clear hR hE HWP H1)
        try simp only [Act.put, List.setIfInBounds_toArray, List.set_cons_zero, List.set_cons_succ]
        refine X_pure 14 rfl (by kernel_rfl) (by kernel_rfl) (by kernel_rfl) (by kernel_rfl) (fun _ _ _ h => h) rfl (by intro w; go_simp; first | done | with_reducible rfl) ?_
        try simp only [Act.put, List.setIfInBounds_toArray, List.set_cons_zero, List.set_cons_succ]
        refine X_done (by kernel_rfl) ?_ _
        go_wp2_with fail
        go_ret
        rw [HE.out, HKK.out, HM.out]
        exact ⟨c2, rfl, (H2.out).disk, (H2.out).lane, ((H2.out).ext.bigX HF.out).obs (by simp)⟩
      · rw [hk] at HWP
        have HE : Hid (E = if P.2 ≠ 0 then P else if Q.2 ≠ 0 then Q else Q.1.bar L.r) := Lib.hid (by rw [HA.out, if_neg (by rw [hk]; decide)])
        clear hk
        go_wp2_with (go_at_call 46; refine (HWP.out).mono ?_; rintro e w2 ⟨c2, rfl, hR, hE⟩; have H2 := Lib.hid ((H1.out).did hZ hY hfn hR hE); clear hR hE HWP H1)
        try simp only [Act.put, List.setIfInBounds_toArray, List.set_cons_zero, List.set_cons_succ]
        refine X_pure 14 rfl (by kernel_rfl) (by kernel_rfl) (by kernel_rfl) (by kernel_rfl) (fun _ _ _ h => h) rfl (by intro w; go_simp; first | done | with_reducible rfl) ?_
        try simp only [Act.put, List.setIfInBounds_toArray, List.set_cons_zero, List.set_cons_succ]
        refine X_done (by kernel_rfl) ?_ _
        obtain ⟨hw1, hw2, hw3⟩ := HWN.out
        obtain ⟨hp1, hp2, hp3⟩ := HPN.out
        have hlay := lay_in c2 w2 X d Z l N W.1 L K G (.slice bp (encs rs).length bcap) (encs rs) 0 hX hZ (by omega) (H2.out).disk (H2.out).lane (H2.out).own.rd (by rw [hw1]; exact hr) (by rw [hw2]; exact hsz) (by have := HW.out; omega) hK1 (by omega) hbl (Nat.zero_le _)
        rw [Nat.zero_div, ← HP.out, HGE.out] at hlay
        obtain ⟨bv, hla⟩ := (H2.out).lane
        have k2 : w2.cell? ⟨l, 2, none⟩ = some (.int .u64 (L.gen : Int)) := (hla.top.cell 2).trans rfl
        have HLY := Lib.hid hlay
        clear hla hlay
        have h2P : P.2 = 0 ∨ P.2 = 10 := by rw [HP.out]; exact lay_two _ _ _ _ _ _
        rcases h2P with hk | hk
        rotate_left
        · rw [hk] at HLY
          have HE2 : Hid (E = P) := Lib.hid (by rw [HE.out, if_pos (by rw [hk]; decide)])
          have HKK := Lib.hid hk
          clear hk
          go_wp2_with (go_at_call 45; refine (HLY.out).mono ?_; rintro e w3 ⟨c3, rfl, hR, hE⟩; have H3 := Lib.hid ((H2.out).did hZ hY hfn hR hE); clear hR hE HLY H2)
          go_ret
          rw [HE2.out, HKK.out, HM.out]
          exact ⟨c3, rfl, (H3.out).disk, (H3.out).lane, ((H3.out).ext.bigX HF.out).obs (by simp)⟩
        · rw [hk] at HLY
          have HE2 : Hid (E = if Q.2 ≠ 0 then Q else Q.1.bar L.r) := Lib.hid (by rw [HE.out, if_neg (by rw [hk]; decide)])
          clear hk
          go_upto_region 18 with (go_at_call 45; refine (HLY.out).mono ?_; rintro e w3 ⟨c3, rfl, hR, hE⟩; have H3 := Lib.hid ((H2.out).did hZ hY hfn hR hE); clear hR hE HLY H2 k2)
          obtain ⟨bv, hla⟩ := (H3.out).lane
          have k2 : w3.cell? ⟨l, 2, none⟩ = some (.int .u64 (L.gen : Int)) := (hla.top.cell 2).trans rfl
          have g1 := put_in c3 w3 0 (.slice none 0 0) [] (Rd.empty c3 w3 0 none) (by simp) 4 (by omega) G (by omega) (N + 1, 0)
          rw [HGE.out] at g1
          have G1 := Lib.hid g1
          clear hla g1
          go_upto_region 19 with (first
            | (go_at_call 44; refine (G1.out).mono ?_; rintro e w4 ⟨v4, c4, rfl, hO, hE⟩; have G2 := Lib.hid (put_in c4 w4 (N + 1) v4 _ hO.rd (by simp [be_len]) 1 (by omega) K (by omega) (N + 2, 0)); have H4 := Lib.hid ((H3.out).quiet hE); clear G1 hO hE H3 k2)
            | (go_at_call 44; refine (G2.out).mono ?_; rintro e w5 ⟨v5, c5, rfl, hO, hE⟩; have HO := Lib.hid hO; have H5 := Lib.hid ((H4.out).quiet hE); clear G2 hO hE H4))
          obtain ⟨bv, hla⟩ := (H5.out).lane
          clear k0 k1
          have k0 : w5.cell? ⟨l, 0, none⟩ = some (.pointer (some ⟨d, 0, none⟩)) := (hla.top.cell 0).trans rfl
          have k1 : w5.cell? ⟨l, 1, none⟩ = some (.int .i64 (L.r : Int)) := (hla.top.cell 1).trans rfl
          have h5d := (H5.out).quiet (Ext.refl (Obs []) c5 w5).drew
          have hwr := wr_in c5 w5.drew X d P.1 L.r 1 h5d.disk (by rw [hp1, hw1]; exact hr) (by rw [hp2, hw2]; omega) (by have := HW.out; omega) (N + 2) (by omega) v5 _ (show Rd c5 w5.drew (N + 2) v5 _ from (HO.out).rd) (by simp [be_len])
          have e5 : [] ++ be 4 G ++ be 1 K = be 4 G ++ be 1 K := by simp
          rw [e5, ← HQ.out] at hwr
          have HWR := Lib.hid hwr
          have H5D := Lib.hid h5d
          clear hla hwr h5d e5 H5
          refine X_begin [] [9] (fun _ => True) (by kernel_rfl) ?_
          refine X_pure 0 rfl (by kernel_rfl) (by kernel_rfl) (by kernel_rfl) (by kernel_rfl) (fun _ _ _ h => h) rfl (by intro w; go_simp; first | done | with_reducible rfl) ?_
          try simp only [Act.put, List.setIfInBounds_toArray, List.set_cons_zero, List.set_cons_succ]
          refine X_pure 1 rfl (by kernel_rfl) (by kernel_rfl) (by kernel_rfl) (by kernel_rfl) (fun _ _ _ h => h) rfl (by intro w; go_simp; first | done | with_reducible rfl) ?_
          try simp only [Act.put, List.setIfInBounds_toArray, List.set_cons_zero, List.set_cons_succ]
          refine X_pure 2 rfl (by kernel_rfl) (by kernel_rfl) (by kernel_rfl) (by kernel_rfl) (fun _ _ _ h => h) rfl (by intro w; go_simp; first | done | with_reducible rfl) ?_
          try simp only [Act.put, List.setIfInBounds_toArray, List.set_cons_zero, List.set_cons_succ]
          refine X_pure 4 rfl (by kernel_rfl) (by kernel_rfl) (by kernel_rfl) (by kernel_rfl) (fun _ _ _ h => h) rfl (by intro w; go_simp; first | done | with_reducible rfl) ?_
          try simp only [Act.put, List.setIfInBounds_toArray, List.set_cons_zero, List.set_cons_succ]
          refine X_pure 5 rfl (by kernel_rfl) (by kernel_rfl) (by kernel_rfl) (by kernel_rfl) (fun _ _ _ h => h) rfl (by intro w; go_simp; first | done | with_reducible rfl) ?_
          try simp only [Act.put, List.setIfInBounds_toArray, List.set_cons_zero, List.set_cons_succ]
          refine X_pure 6 rfl (by kernel_rfl) (by kernel_rfl) (by kernel_rfl) (by kernel_rfl) (fun _ _ _ h => h) rfl (by intro w; go_simp; first | done | with_reducible rfl) ?_
          try simp only [Act.put, List.setIfInBounds_toArray, List.set_cons_zero, List.set_cons_succ]
          refine X_pure 8 rfl (by kernel_rfl) (by kernel_rfl) (by kernel_rfl) (by kernel_rfl) (fun _ _ _ h => h) rfl (by intro w; go_simp; first | done | with_reducible rfl) ?_
          try simp only [Act.put, List.setIfInBounds_toArray, List.set_cons_zero, List.set_cons_succ]
          refine X_still 3 rfl (by kernel_rfl) (by kernel_rfl) (by kernel_rfl) (by kernel_rfl) rfl (by go_simp; first | done | with_reducible rfl) ?_
          try simp only [Act.put, List.setIfInBounds_toArray, List.set_cons_zero, List.set_cons_succ]
          refine X_still 7 rfl (by kernel_rfl) (by kernel_rfl) (by kernel_rfl) (by kernel_rfl) rfl (by go_simp; first | done | with_reducible rfl) ?_
          try simp only [Act.put, List.setIfInBounds_toArray, List.set_cons_zero, List.set_cons_succ]
          refine X_op 9 rfl (by kernel_rfl) (by kernel_rfl) (by kernel_rfl) ?_
          have h2Q : Q.2 = 0 ∨ Q.2 = 10 := by rw [HQ.out]; exact wr_two _ _ _ _
          rcases h2Q with hk | hk
          rotate_left
          · rw [hk] at HWR
            have HE3 : Hid (E = Q) := Lib.hid (by rw [HE2.out, if_pos (by rw [hk]; decide)])
            have HKK := Lib.hid hk
            clear hk
            go_wp2_with (go_at_call 27; refine (HWR.out).mono ?_; rintro e w6 ⟨c6, rfl, hR, hE⟩; have H6 := Lib.hid ((H5D.out).did hZ hY hfn hR hE); clear hR hE HWR H5D)
            try simp only [Act.put, List.setIfInBounds_toArray, List.set_cons_zero, List.set_cons_succ]
            refine X_pure 10 rfl (by kernel_rfl) (by kernel_rfl) (by kernel_rfl) (by kernel_rfl) (fun _ _ _ h => h) rfl (by intro w; go_simp; first | done | with_reducible rfl) ?_
            try simp only [Act.put, List.setIfInBounds_toArray, List.set_cons_zero, List.set_cons_succ]
            refine X_done (by kernel_rfl) ?_ _
            go_wp2_with fail
            go_ret
            rw [HE3.out, HKK.out, HM.out]
            exact ⟨c6, rfl, (H6.out).disk, (H6.out).lane, ((H6.out).ext.bigX HF.out).obs (by simp)⟩
          · rw [hk] at HWR
            have HE3 : Hid (E = Q.1.bar L.r) := Lib.hid (by rw [HE2.out, if_neg (by rw [hk]; decide)])
            clear hk
            go_wp2_with (go_at_call 27; refine (HWR.out).mono ?_; rintro e w6 ⟨c6, rfl, hR, hE⟩; have H6 := Lib.hid ((H5D.out).did hZ hY hfn hR hE); clear hR hE HWR H5D)
            try simp only [Act.put, List.setIfInBounds_toArray, List.set_cons_zero, List.set_cons_succ]
            refine X_pure 10 rfl (by kernel_rfl) (by kernel_rfl) (by kernel_rfl) (by kernel_rfl) (fun _ _ _ h => h) rfl (by intro w; go_simp; first | done | with_reducible rfl) ?_
            try simp only [Act.put, List.setIfInBounds_toArray, List.set_cons_zero, List.set_cons_succ]
            refine X_done (by kernel_rfl) ?_ _
            clear k0 k1
            obtain ⟨bv6, hla⟩ := (H6.out).lane
            have k0 : w6.cell? ⟨l, 0, none⟩ = some (.pointer (some ⟨d, 0, none⟩)) := (hla.top.cell 0).trans rfl
            have k1 : w6.cell? ⟨l, 1, none⟩ = some (.int .i64 (L.r : Int)) := (hla.top.cell 1).trans rfl
            have h6d := (H6.out).quiet (Ext.refl (Obs []) c6 w6).drew
            obtain ⟨⟨hq1, hq2⟩, hq3⟩ := HQN.out
            have hbr := bar_in c6 w6.drew X d Q.1 L.r h6d.disk (by rw [hq1, hp1, hw1]; exact hr) (by have := HW.out; omega)
            rw [← HE3.out] at hbr
            have HBR := Lib.hid hbr
            have H6D := Lib.hid h6d
            clear hla hbr h6d H6
            go_upto_region 22 with fail
            refine X_begin [] [8] (fun _ => True) (by kernel_rfl) ?_
            refine X_pure 0 rfl (by kernel_rfl) (by kernel_rfl) (by kernel_rfl) (by kernel_rfl) (fun _ _ _ h => h) rfl (by intro w; go_simp; first | done | with_reducible rfl) ?_
            try simp only [Act.put, List.setIfInBounds_toArray, List.set_cons_zero, List.set_cons_succ]
            refine X_pure 1 rfl (by kernel_rfl) (by kernel_rfl) (by kernel_rfl) (by kernel_rfl) (fun _ _ _ h => h) rfl (by intro w; go_simp; first | done | with_reducible rfl) ?_
            try simp only [Act.put, List.setIfInBounds_toArray, List.set_cons_zero, List.set_cons_succ]
            refine X_pure 2 rfl (by kernel_rfl) (by kernel_rfl) (by kernel_rfl) (by kernel_rfl) (fun _ _ _ h => h) rfl (by intro w; go_simp; first | done | with_reducible rfl) ?_
            try simp only [Act.put, List.setIfInBounds_toArray, List.set_cons_zero, List.set_cons_succ]
            refine X_pure 4 rfl (by kernel_rfl) (by kernel_rfl) (by kernel_rfl) (by kernel_rfl) (fun _ _ _ h => h) rfl (by intro w; go_simp; first | done | with_reducible rfl) ?_
            try simp only [Act.put, List.setIfInBounds_toArray, List.set_cons_zero, List.set_cons_succ]
            refine X_pure 5 rfl (by kernel_rfl) (by kernel_rfl) (by kernel_rfl) (by kernel_rfl) (fun _ _ _ h => h) rfl (by intro w; go_simp; first | done | with_reducible rfl) ?_
            try simp only [Act.put, List.setIfInBounds_toArray, List.set_cons_zero, List.set_cons_succ]
            refine X_pure 6 rfl (by kernel_rfl) (by kernel_rfl) (by kernel_rfl) (by kernel_rfl) (fun _ _ _ h => h) rfl (by intro w; go_simp; first | done | with_reducible rfl) ?_
            try simp only [Act.put, List.setIfInBounds_toArray, List.set_cons_zero, List.set_cons_succ]
            refine X_still 3 rfl (by kernel_rfl) (by kernel_rfl) (by kernel_rfl) (by kernel_rfl) rfl (by go_simp; first | done | with_reducible rfl) ?_
            try simp only [Act.put, List.setIfInBounds_toArray, List.set_cons_zero, List.set_cons_succ]
            refine X_still 7 rfl (by kernel_rfl) (by kernel_rfl) (by kernel_rfl) (by kernel_rfl) rfl (by go_simp; first | done | with_reducible rfl) ?_
            try simp only [Act.put, List.setIfInBounds_toArray, List.set_cons_zero, List.set_cons_succ]
            refine X_op 8 rfl (by kernel_rfl) (by kernel_rfl) (by kernel_rfl) ?_
            have h2E : E.2 = 0 ∨ E.2 = 10 := by rw [HE3.out]; exact bar_two _ _
            rcases h2E with hk | hk
            rotate_left
            · rw [hk] at HBR
              have HKK := Lib.hid hk
              clear hk
              go_wp2_with (go_at_call 48; refine (HBR.out).mono ?_; rintro e w7 ⟨c7, rfl, hR, hE⟩; have H7 := Lib.hid ((H6D.out).did hZ hY hfn hR hE); clear hR hE HBR H6D)
              try simp only [Act.put, List.setIfInBounds_toArray, List.set_cons_zero, List.set_cons_succ]
              refine X_pure 9 rfl (by kernel_rfl) (by kernel_rfl) (by kernel_rfl) (by kernel_rfl) (fun _ _ _ h => h) rfl (by intro w; go_simp; first | done | with_reducible rfl) ?_
              try simp only [Act.put, List.setIfInBounds_toArray, List.set_cons_zero, List.set_cons_succ]
              refine X_done (by kernel_rfl) ?_ _
              go_wp2_with fail
              go_ret
              rw [HKK.out, HM.out]
              exact ⟨c7, rfl, (H7.out).disk, (H7.out).lane, ((H7.out).ext.bigX HF.out).obs (by simp)⟩
            · rw [hk] at HBR
              have HKK := Lib.hid hk
              clear hk
              go_wp2_with (go_at_call 48; refine (HBR.out).mono ?_; rintro e w7 ⟨c7, rfl, hR, hE⟩; have H7 := Lib.hid ((H6D.out).did hZ hY hfn hR hE); clear hR hE HBR H6D)
              try simp only [Act.put, List.setIfInBounds_toArray, List.set_cons_zero, List.set_cons_succ]
              refine X_pure 9 rfl (by kernel_rfl) (by kernel_rfl) (by kernel_rfl) (by kernel_rfl) (fun _ _ _ h => h) rfl (by intro w; go_simp; first | done | with_reducible rfl) ?_
              try simp only [Act.put, List.setIfInBounds_toArray, List.set_cons_zero, List.set_cons_succ]
              refine X_done (by kernel_rfl) ?_ _
              clear k0 k1
              obtain ⟨bv7, hla⟩ := (H7.out).lane
              have k2 : w7.cell? ⟨l, 2, none⟩ = some (.int .u64 (L.gen : Int)) := (hla.top.cell 2).trans rfl
              have k3 : w7.cell? ⟨l, 3, none⟩ = some (.int .i64 (L.bank : Int)) := (hla.top.cell 3).trans rfl
              have k4 : w7.cell? ⟨l, 4, none⟩ = some bv7 := (hla.top.cell 4).trans rfl
              have k5 : w7.cell? ⟨l, 5, none⟩ = some (.int .i64 (L.sure : Int)) := (hla.top.cell 5).trans rfl
              have f2 := hla.top.free 2
              have f3 := hla.top.free 3
              have f4 := hla.top.free 4
              have f5 := hla.top.free 5
              have HLA := Lib.hid hla
              clear hla
              go_wp2_with fail
              go_ret
              rw [HKK.out]
              exact anew_fin (H7.out) HLA.out HF.out hfn hX hZ HGG.out HK.out HWF.out hGl hbl HGE.out
end Go.Proofs.Ytfeacmlnlljnnaa

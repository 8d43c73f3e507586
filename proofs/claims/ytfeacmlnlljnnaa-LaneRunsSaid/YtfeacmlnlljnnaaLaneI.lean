/- Package lane: what Open comes to. -/
import Derived.Test.YtfeacmlnlljnnaaLaneH
namespace Go.Proofs.Ytfeacmlnlljnnaa
open Go Go.Proofs Go.RowKit

/-- All blocks of object N are object Z's now. -/
def reob (c : Col) (N Z : Nat) : Col := fun k => if (c k).1 = N then (Z, (c k).2) else c k
theorem Blk.reob {c : Col} {w : World} {b N q : Nat} {cs : List Value} (h : Blk c w b (N, q) cs) (Z : Nat) : Blk (reob c N Z) w b (Z, q) cs :=
  ⟨by show (if (c b).1 = N then (Z, (c b).2) else c b) = (Z, q); rw [h.1]; simp, h.2⟩
theorem Blk.reob_ne {c : Col} {w : World} {b N : Nat} {x : Nat × Nat} {cs : List Value} (h : Blk c w b x cs) (hx : x.1 ≠ N) (Z : Nat) : Blk (Go.Proofs.Ytfeacmlnlljnnaa.reob c N Z) w b x cs :=
  ⟨by show (if (c b).1 = N then (Z, (c b).2) else c b) = x; rw [h.1, if_neg hx], h.2⟩
theorem Sl.reob {c : Col} {w : World} {N q sz : Nat} {v : Value} {n : Nat} {xs : List Value} (h : Sl c w (N, q) sz v n xs) (Z : Nat) : Sl (Go.Proofs.Ytfeacmlnlljnnaa.reob c N Z) w (Z, q) sz v n xs := by
  refine ⟨h.1, ?_⟩
  rcases h.2 with h | ⟨b, cap, cur, rfl, hb, r⟩
  · exact .inl h
  · exact .inr ⟨b, cap, cur, rfl, hb.reob Z, r⟩
theorem Sl.reob_ne {c : Col} {w : World} {N sz : Nat} {x : Nat × Nat} {v : Value} {n : Nat} {xs : List Value} (h : Sl c w x sz v n xs) (hx : x.1 ≠ N) (Z : Nat) : Sl (Go.Proofs.Ytfeacmlnlljnnaa.reob c N Z) w x sz v n xs := by
  refine ⟨h.1, ?_⟩
  rcases h.2 with h | ⟨b, cap, cur, rfl, hb, r⟩
  · exact .inl h
  · exact .inr ⟨b, cap, cur, rfl, hb.reob_ne hx Z, r⟩
theorem Rs.reob_ne {c : Col} {w : World} {Y N : Nat} {v : Value} {n : Nat} {xs : List Value} (h : Rs c w Y v n xs) (hx : Y ≠ N) (Z : Nat) : Rs (Go.Proofs.Ytfeacmlnlljnnaa.reob c N Z) w Y v n xs := by
  obtain ⟨p, cap, rfl, h1, h2, h⟩ := h
  refine ⟨p, cap, rfl, h1, h2, fun j u hj => ?_⟩
  obtain ⟨g, o, rfl, hl, hc, hu⟩ := h j u hj
  refine ⟨g, o, rfl, hl, ?_, hu⟩
  show (if (c g).1 = N then (Z, (c g).2) else c g).1 = Y
  rw [hc, if_neg hx]
  exact hc
theorem DiskRep.reob {c : Col} {w : World} {X d N : Nat} {D : DiskM} (h : DiskRep c w X d D) (hx : X ≠ N) (Z : Nat) : DiskRep (Go.Proofs.Ytfeacmlnlljnnaa.reob c N Z) w X d D := by
  obtain ⟨bd, bg, wv, wr, data, h⟩ := h
  exact ⟨bd, bg, wv, wr, data, h.top.reob_ne hx Z, h.secs.reob_ne hx Z, h.sectors, h.regs.reob_ne hx Z, fun r hr => (h.waits r hr).reob_ne hx Z, h.wf⟩
theorem LaneRep.reob {c : Col} {w : World} {N l d : Nat} {L : LaneM} (h : LaneRep c w N l d L) (Z : Nat) : LaneRep (Go.Proofs.Ytfeacmlnlljnnaa.reob c N Z) w Z l d L := by
  obtain ⟨bv, h⟩ := h
  exact ⟨bv, h.top.reob Z, Sl.reob h.own Z, h.wf⟩
theorem Ext.reob {M : Nat × Nat → Prop} {c c' : Col} {w w' : World} (h : Ext M c w c' w') {N : Nat} (hf : ∀ k, k < w.heap.size → (c k).1 ≠ N) (Z : Nat) : Ext M c w (Go.Proofs.Ytfeacmlnlljnnaa.reob c' N Z) w' :=
  ⟨h.os, h.tape, h.output, h.size, fun k hk => by
    show (if (c' k).1 = N then (Z, (c' k).2) else c' k) = c k
    rw [h.col k hk, if_neg (hf k hk)], h.block⟩

/-- An entry's cells; a slice of entries that is read, all of it of object Y. -/
def entCells (e : Nat × Rec) (dv : Value) : List Value := .int .u64 (e.1 : Int) :: recCells e.2 dv
def Ents (c : Col) (w : World) (Y : Nat) (v : Value) (es : List (Nat × Rec)) : Prop :=
  ∃ ps : List ((Nat × Rec) × Value), ps.map Prod.fst = es ∧ Rs c w Y v es.length (ps.flatMap fun p => entCells p.1 p.2) ∧ ∀ p ∈ ps, Dirt c w Y p.2 p.1.2

/-- Records with their places. -/
def places (gen : Nat) : Nat → List Rec → List (Nat × Rec)
  | _, [] => []
  | n, r :: l => (placeN gen n, r) :: places gen (n + (encB r).length) l
theorem places_len (gen : Nat) (l : List Rec) : ∀ n, (places gen n l).length = l.length := by
  induction l with
  | nil => intro n; rfl
  | cons r l ih => intro n; simp [places, ih]
theorem places_snd (gen : Nat) (l : List Rec) : ∀ n, (places gen n l).map Prod.snd = l := by
  induction l with
  | nil => intro n; rfl
  | cons r l ih => intro n; simp [places, ih]
theorem places_snoc (gen : Nat) (l : List Rec) (r : Rec) : ∀ n, places gen n (l ++ [r]) = places gen n l ++ [(placeN gen (n + (encs l).length), r)] := by
  induction l with
  | nil => intro n; simp [places, encs]
  | cons x l ih => intro n; simp only [List.cons_append, places, ih, encs_cons, List.length_append, Nat.add_assoc]

theorem Own.cut {c : Col} {w : World} {k : Nat × Nat} {q : Option Addr} {n cap : Nat} {bs : Bs} (h : Own c w k (.slice q n cap) bs) (m : Nat) (hm : m ≤ bs.length) : Own c w k (.slice q m m) (bs.take m) := by
  obtain ⟨h1, h2⟩ := h
  have hl : (bs.take m).length = m := by rw [List.length_take]; omega
  refine ⟨by simp, ?_⟩
  rcases h2 with ⟨e, hn⟩ | ⟨b, cap', cur, e, hb, h3, h4, h5⟩
  · simp only [Value.slice.injEq] at e
    obtain ⟨rfl, _, _⟩ := e
    obtain rfl : m = 0 := by omega
    exact .inl ⟨rfl, by simp⟩
  · simp only [Value.slice.injEq] at e
    obtain ⟨rfl, _, rfl⟩ := e
    refine .inr ⟨b, m, (bs.drop m).map B ++ cur, by rw [hl], ?_, by simp; omega, by omega, by omega⟩
    rw [← List.append_assoc, ← List.map_append, List.take_append_drop]
    exact hb

theorem Own.from {c : Col} {w : World} {k : Nat × Nat} {q : Option Addr} {n cap : Nat} {bs : Bs} (h : Own c w k (.slice q n cap) bs) (m : Nat) (hm : m ≤ bs.length) :
    (cap = m → Rd c w k.1 (.slice q (bs.length - m) 0) (bs.drop m)) ∧ (cap ≠ m → Rd c w k.1 (.slice (q.map fun x => x.add m) (bs.length - m) (cap - m)) (bs.drop m)) := by
  have hl : (bs.drop m).length = bs.length - m := List.length_drop
  have hrd := Own.rd h
  rcases h.2 with ⟨e, hn⟩ | ⟨b, cap', cur, e, hb, h3, h4, h5⟩
  · simp only [Value.slice.injEq] at e
    obtain ⟨rfl, _, rfl⟩ := e
    have hb : bs = [] := List.eq_nil_of_length_eq_zero (by omega)
    subst hb
    obtain rfl : m = 0 := by simpa using hm
    exact ⟨fun _ => Rd.empty _ _ _ _, fun _ => Rd.empty _ _ _ _⟩
  · simp only [Value.slice.injEq] at e
    obtain ⟨rfl, _, rfl⟩ := e
    refine ⟨fun e => ?_, fun e => ?_⟩
    · have hd : bs.drop m = [] := List.drop_eq_nil_of_le (by omega)
      have h0 : bs.length - m = 0 := by omega
      rw [hd, h0]
      exact Rd.empty _ _ _ _
    · have := hrd.drop m hm
      rw [Option.map_some, addr_add]
      exact this

structure OpenAt (c : Col) (w : World) (X d N Y l : Nat) (D : DiskM) (L : LaneM) (A : Bs) (av ov : Value) (ps : List ((Nat × Rec) × Value)) (c' : Col) (wx : World) : Prop where
  disk : DiskRep c' wx X d D
  lane : LaneRep c' wx N l d L
  all : Own c' wx (N, 1) av A
  out : Sl c' wx (N + 1, 0) 9 ov ps.length (ps.flatMap fun p => entCells p.1 p.2)
  dirt : ∀ p ∈ ps, Dirt c' wx Y p.2 p.1.2
  ext : Ext (BigX X N) c w c' wx

theorem OpenAt.quiet {c : Col} {w : World} {X d N Y l : Nat} {D : DiskM} {L : LaneM} {A : Bs} {av ov : Value} {ps : List ((Nat × Rec) × Value)} {c' c2 : Col} {wx w2 : World} (h : OpenAt c w X d N Y l D L A av ov ps c' wx) (g : Ext (Obs []) c' wx c2 w2) :
    OpenAt c w X d N Y l D L A av ov ps c2 w2 :=
  ⟨h.disk.keep g (fun q h => by simp [Obs] at h), h.lane.keep g (fun q h => by simp [Obs] at h), h.all.keep g (fun h => by simp [Obs] at h), h.out.keep g (fun h => by simp [Obs] at h), fun p hp => Rs.keep (h.dirt p hp) g (fun q h => by simp [Obs] at h), h.ext.trans g.none⟩

theorem OpenAt.push {c : Col} {w : World} {X d N Y l : Nat} {D : DiskM} {L : LaneM} {A : Bs} {av ov ov2 : Value} {ps : List ((Nat × Rec) × Value)} {c' c2 : Col} {wx w2 : World} (h : OpenAt c w X d N Y l D L A av ov ps c' wx) (hN : X + Y < N) (e : Nat × Rec) (dv : Value)
    (hS : Sl c2 w2 (N + 1, 0) 9 ov2 (ps.length + 1) ((ps.flatMap fun p => entCells p.1 p.2) ++ entCells e dv)) (hE : Ext (own ov (N + 1, 0)) c' wx c2 w2) (hd : Dirt c2 w2 Y dv e.2) : OpenAt c w X d N Y l D L A av ov2 (ps ++ [(e, dv)]) c2 w2 := by
  have g := hE.own
  refine ⟨h.disk.keep g (fun q h => by simp at h; omega), h.lane.keep g (fun q h => by simp at h), h.all.keep g (fun h => by simp at h), ?_, fun p hp => ?_, h.ext.trans (g.one (by simp)).ofBig⟩
  · rw [List.flatMap_append, List.length_append]
    simpa using hS
  · rcases List.mem_append.1 hp with hp | hp
    · exact Rs.keep (h.dirt p hp) g (fun q h => by simp at h; omega)
    · rw [List.mem_singleton] at hp; rw [hp]; exact hd

theorem OpenAt.setb {c : Col} {w : World} {X d N Y l : Nat} {D : DiskM} {L : LaneM} {A : Bs} {ap : Option Addr} {al acap : Nat} {ov : Value} {ps : List ((Nat × Rec) × Value)} {c' : Col} {wx : World} (h : OpenAt c w X d N Y l D L A (.slice ap al acap) ov ps c' wx) (hN : X + Y < N) (S : Nat) (hS : S ≤ A.length) (hS2 : S ≤ 14336) (h0 : L.sure = 0) :
    OpenAt c w X d N Y l D { L with b := A.take S } A (.slice ap al acap) ov ps c' (wx.setCell ⟨l, 4, none⟩ (.slice ap S S)) := by
  obtain ⟨bv, hla⟩ := h.lane
  have hcol := hla.top.col
  have g : Ext (fun y => y = (N, 0)) c' wx c' (wx.setCell ⟨l, 4, none⟩ (.slice ap S S)) := (Ext.refl _ _ _).setCell (a := ⟨l, 4, none⟩) (by rw [hcol]) _
  refine ⟨h.disk.keep g (fun q h => by simp at h; omega), ⟨.slice ap S S, hla.top.set 4 _, (h.all.cut S hS).keep g (fun h => by simp at h), ⟨hla.wf.r, hla.wf.gen, hla.wf.bank, ?_, ?_⟩⟩, h.all.keep g (fun h => by simp at h), h.out.keep g (fun h => by simp at h), fun p hp => Rs.keep (h.dirt p hp) g (fun q h => by simp at h; omega), h.ext.trans (g.one (by simp)).ofBig⟩
  · show (A.take S).length ≤ 14336
    rw [List.length_take]; omega
  · show L.sure ≤ _
    rw [h0]; exact Nat.zero_le _

theorem OpenAt.sets {c : Col} {w : World} {X d N Y l : Nat} {D : DiskM} {L : LaneM} {A : Bs} {av : Value} {ov : Value} {ps : List ((Nat × Rec) × Value)} {c' : Col} {wx : World} (h : OpenAt c w X d N Y l D L A av ov ps c' wx) (hN : X + Y < N) (S : Nat) (hS : S ≤ L.b.length) :
    OpenAt c w X d N Y l D { L with sure := S } A av ov ps c' (wx.setCell ⟨l, 5, none⟩ (.int .i64 (S : Int))) := by
  obtain ⟨bv, hla⟩ := h.lane
  have hcol := hla.top.col
  have g : Ext (fun y => y = (N, 0)) c' wx c' (wx.setCell ⟨l, 5, none⟩ (.int .i64 (S : Int))) := (Ext.refl _ _ _).setCell (a := ⟨l, 5, none⟩) (by rw [hcol]) _
  exact ⟨h.disk.keep g (fun q h => by simp at h; omega), ⟨bv, hla.top.set 5 _, hla.own.keep g (fun h => by simp at h), ⟨hla.wf.r, hla.wf.gen, hla.wf.bank, hla.wf.b, hS⟩⟩, h.all.keep g (fun h => by simp at h), h.out.keep g (fun h => by simp at h), fun p hp => Rs.keep (h.dirt p hp) g (fun q h => by simp at h; omega), h.ext.trans (g.one (by simp)).ofBig⟩

theorem OpenAt.did {c : Col} {w : World} {X d N Y l : Nat} {D E : DiskM} {L : LaneM} {A : Bs} {av : Value} {ov : Value} {ps : List ((Nat × Rec) × Value)} {c' c2 : Col} {wx w2 : World} (h : OpenAt c w X d N Y l D L A av ov ps c' wx) (hY : Y ≠ X) (hN : X + Y < N)
    (hD : DiskRep c2 w2 X d E) (g : Ext (Obs [X]) c' wx c2 w2) : OpenAt c w X d N Y l E L A av ov ps c2 w2 :=
  ⟨hD, h.lane.keep g (fun q h => by simp [Obs] at h; omega), h.all.keep g (fun h => by simp [Obs] at h; omega), h.out.keep g (fun h => by simp [Obs] at h; omega), fun p hp => Rs.keep (h.dirt p hp) g (fun q h => by simp [Obs] at h; omega), h.ext.trans g.ofObs⟩

def OpenedOk (c : Col) (w : World) (X Z Y d : Nat) (D : DiskM) (L : LaneM) (es : List (Nat × Rec)) (e : Ending) (w' : World) : Prop :=
  ∃ c' l v, e = .returned (.tuple #[.pointer (some ⟨l, 0, none⟩), v, .int .i64 0]) ∧ DiskRep c' w' X d D ∧ LaneRep c' w' Z l d L ∧ Ents c' w' Y v es ∧ Ext (Obs [X]) c w c' w'

theorem opn_eq {D : DiskM} {r gen bank : Nat} {b rest : Bs} {W P : DiskM × Int} (hW : W = wipe D r (2 + bank * 256 + secs b) (256 - secs b)) (hP : P = lay W.1 r bank gen b (b.length / 56)) :
    opn D r gen bank b rest = if W.2 ≠ 0 then W else if rest ≠ [] ∧ b.length % 56 ≠ 0 then P else (W.1, 0) := by
  rw [hW] at hP
  rw [hP, hW]
  unfold opn thenD
  rfl

theorem LaneRep.recol_ne {c : Col} {w : World} {Z l d : Nat} {L : LaneM} (h : LaneRep c w Z l d L) {f : Nat × Nat} (hf : f.1 ≠ Z) (z : Nat × Nat) : LaneRep (recol c f z) w Z l d L := by
  obtain ⟨bv, h⟩ := h
  have hn : ∀ k, ((Z, k) : Nat × Nat) ≠ f := fun k e => hf (by rw [← e])
  exact ⟨bv, h.top.recol_ne (hn _) z, Sl.recol_ne h.own (hn _) z, h.wf⟩

theorem open_fin {c : Col} {w : World} {X Z d N Y l : Nat} {D : DiskM} {L : LaneM} {A : Bs} {av : Value} {ov : Value} {ps : List ((Nat × Rec) × Value)} {c' : Col} {wx : World} {es : List (Nat × Rec)} (h : OpenAt c w X d N Y l D L A av ov ps c' wx) (hN : X + Z + Y < N)
    (hf : ∀ k, k < w.heap.size → ¬ N ≤ (c k).1) (hps : ps.map Prod.fst = es) : OpenedOk c w X Z Y d D L es (.returned (.tuple #[.pointer (some ⟨l, 0, none⟩), ov, .int .i64 0])) wx := by
  have hf1 : ∀ k, k < w.heap.size → (c k).1 ≠ N := fun k hk e => hf k hk (by omega)
  have hf2 : ∀ k, k < w.heap.size → c k ≠ (N + 1, 0) := fun k hk e => hf k hk (by rw [e]; simp)
  refine ⟨recol (reob c' N Z) (N + 1, 0) (Y, 0), l, ov, rfl, (h.disk.reob (by omega) Z).recol (by show N + 1 ≠ X; omega) _, (h.lane.reob Z).recol_ne (by show N + 1 ≠ Z; omega) _, ⟨ps, hps, ?_, fun p hp => ?_⟩, ?_⟩
  · have h1 := ((h.out.reob_ne (by show N + 1 ≠ N; omega) Z).recol (Y, 0)).rs
    rw [← hps, List.length_map]
    exact h1
  · exact Rs.recol (Rs.reob_ne (h.dirt p hp) (by omega) Z) (N + 1, 0) (Y, 0) (by show N + 1 ≠ Y; omega)
  · exact Ext.recol (Ext.reob (h.ext.bigX hf) hf1 Z) hf2 _

theorem info_ent : (Try.prog.info? 91).map (fun i => (i.zero, i.size, i.bytes)) = some (some (.agg (entCells (0, ⟨0, 0, 0, 0, ⟨#[]⟩, ⟨#[]⟩, ⟨#[]⟩, []⟩) (.slice none 0 0)).toArray), 9, 112) := by kernel_rfl
theorem one_recCells (r : Rec) (dv : Value) (h : dv.oneCell' = true) : ∀ u ∈ recCells r dv, u.oneCell' = true := by
  intro u hu
  simp only [recCells, List.mem_cons, List.not_mem_nil, or_false] at hu
  rcases hu with rfl | rfl | rfl | rfl | rfl | rfl | rfl | rfl <;> first | rfl | exact h

def lenOf : Value → Nat
  | .slice _ n _ => n
  | _ => 0

def OpenedNo (c : Col) (w : World) (X d : Nat) (D : DiskM) (k : Int) (e : Ending) (w' : World) : Prop :=
  ∃ c', e = .returned (.tuple #[.pointer none, .slice none 0 0, .int .i64 k]) ∧ DiskRep c' w' X d D ∧ Ext (Obs [X]) c w c' w'
def Opened (c : Col) (w : World) (X Z Y d : Nat) (P : DiskM × Int) (L : LaneM) (es : List (Nat × Rec)) (e : Ending) (w' : World) : Prop :=
  (P.2 = 0 ∧ OpenedOk c w X Z Y d P.1 L es e w') ∨ (P.2 = 10 ∧ OpenedNo c w X d P.1 10 e w')

set_option maxRecDepth 100000 in
set_option maxHeartbeats 1000000 in
theorem open_in (c : Col) (w : World) (X Z Y d : Nat) (D : DiskM) (r gen bank : Nat) (rs : List Rec) (rest : Bs) (hX : 1 ≤ X) (hZ : Z ≠ X) (hY : Y ≠ X) (hD : DiskRep c w X d D)
    (hr : r < D.n) (hr64 : r < 64) (hsz : 514 ≤ D.size) (hw9 : (D.waits r).length ≤ 800000) (hg1 : 1 ≤ gen) (hg : gen < 4294967296) (hbk : bank ≤ 1)
    (hn4 : rNum 4 (D.read r 1, false) = (gen, (D.read r 1).drop 4, false)) (hn1 : rNum 1 ((D.read r 1).drop 4, false) = (bank, (D.read r 1).drop 5, false))
    (hst : stream (fun s => D.read r (2 + bank * 256 + s)) gen = encs rs ++ rest) (hok : ∀ x ∈ rs, x.Ok) (hshort : Short rest) (hlen : (encs rs).length ≤ 14336) (hrl : rest.length ≤ 14336) :
    Calls Try.prog 20 #[.pointer (some ⟨d, 0, none⟩), .int .i64 (r : Int)] w (Opened c w X Z Y d (opn D r gen bank (encs rs) rest) ⟨r, gen, bank, encs rs, (encs rs).length⟩ (places gen 0 rs)) := by
  obtain ⟨N, hfn, hf⟩ := big_col c w (X + Z + Y)
  have HF := Lib.hid hf
  have HW := Lib.hid hw9
  have hred := Lib.hid (read_in c w X d D r 1 hD hr (by omega) (by omega) (0, 0))
  have hx64 : (D.read r 1).length = 64 := hD.wf.read _ _
  have HD := Lib.hid hD
  have HN4 := Lib.hid hn4
  have HN1 := Lib.hid hn1
  have HST := Lib.hid hst
  have HOK := Lib.hid hok
  have HSH := Lib.hid hshort
  have hand : Go.bits BinOp.and IntKind.u64 (bank : Int) 1 = (bank : Int) := by rw [and1 bank (by omega), Nat.mod_eq_of_lt (by omega)]
  have hcnt : rs.length ≤ 14336 := Nat.le_trans (encs_count rs) hlen
  clear hf hw9 hD hn4 hn1 hst hok hshort
  obtain ⟨W, hWd⟩ : ∃ W, W = wipe D r (2 + bank * 256 + secs (encs rs)) (256 - secs (encs rs)) := ⟨_, rfl⟩
  obtain ⟨P, hPd⟩ : ∃ P, P = lay W.1 r bank gen (encs rs) ((encs rs).length / 56) := ⟨_, rfl⟩
  obtain ⟨E, hEd⟩ : ∃ E, E = opn D r gen bank (encs rs) rest := ⟨_, rfl⟩
  have hEE := opn_eq (rest := rest) hWd hPd
  rw [← hEd] at hEE ⊢
  have HWD := Lib.hid hWd
  have HPD := Lib.hid hPd
  have HED := Lib.hid hEE
  clear hWd hPd hEd hEE
  go_enter Try.func20, Try.ntmps20
  go_upto_region 4 with (go_at_call 50; refine (hred.out).mono ?_; rintro e w2 ⟨v2, c2, rfl, hO, hE⟩)
  have hnew := Lib.hid (newr_in c2 w2 0 v2 _ hO.rd (N + 2, 0))
  have HD2 := Lib.hid ((HD.out).keep hE (fun q h => by simp [Obs] at h))
  have E2 := Lib.hid hE
  have HO := Lib.hid hO
  clear hred HD hO hE
  go_upto_region 5 with (go_at_call 51; refine (hnew.out).mono ?_; rintro e w3 ⟨pr, c3, rfl, hR, hE, _⟩)
  have g1 := num_in c3 w3 pr (N + 2, 0) 0 (by simp) _ hR 4 (by omega) (by omega) (by show (D.read r 1).length ≤ _; omega)
  rw [HN4.out] at g1
  have G1 := Lib.hid g1
  have HD3 := Lib.hid ((HD2.out).keep hE (fun q h => by simp [Obs] at h))
  have E3 := Lib.hid ((E2.out).trans hE)
  clear g1 hR hE hnew HD2 E2 HO
  go_upto_region 6 with (first
    | (go_at_call 52; refine (G1.out).mono ?_; rintro e w4 ⟨c4, rfl, hR, hE⟩; have g2 := num_in c4 w4 pr (N + 2, 0) 0 (by simp) _ hR 1 (by omega) (by omega) (by show ((D.read r 1).drop 4).length ≤ _; rw [List.length_drop]; omega); rw [HN1.out] at g2; have G2 := Lib.hid g2; have HD4 := Lib.hid ((HD3.out).keep hE (fun q h => by simp at h; omega)); have E4 := Lib.hid ((E3.out).none.trans (hE.one (N := N) (by simp))); clear g2 hR hE G1 HD3 E3)
    | (go_at_call 52; refine (G2.out).mono ?_; rintro e w5 ⟨c5, rfl, hR, hE⟩; have HD5 := Lib.hid ((HD4.out).keep hE (fun q h => by simp at h; omega)); have E5 := Lib.hid ((E4.out).trans (hE.one (N := N) (by simp))); clear hR hE G2 HD4 E4))
  have b0 := Blk.newA c5 w5 #[.pointer (some ⟨d, 0, none⟩), .int .i64 (r : Int), .int .u64 (gen : Int), .int .i64 (bank : Int), .slice none 0 0, .int .i64 0] 97 (N, 0)
  have e6 := (E5.out).trans ((Ext.refl (Big N) c5 w5).alloc (.cells #[.pointer (some ⟨d, 0, none⟩), .int .i64 (r : Int), .int .u64 (gen : Int), .int .i64 (bank : Int), .slice none 0 0, .int .i64 0] 97) (N, 0))
  have d6 := (HD5.out).keep ((Ext.refl (Obs []) c5 w5).alloc (.cells #[.pointer (some ⟨d, 0, none⟩), .int .i64 (r : Int), .int .u64 (gen : Int), .int .i64 (bank : Int), .slice none 0 0, .int .i64 0] 97) (N, 0)) (fun q h => by simp [Obs] at h)
  generalize setc c5 w5.heap.size (N, 0) = c6 at b0 e6 d6
  generalize w5.alloc (.cells #[.pointer (some ⟨d, 0, none⟩), .int .i64 (r : Int), .int .u64 (gen : Int), .int .i64 (bank : Int), .slice none 0 0, .int .i64 0] 97) = w6 at b0 e6 d6 ⊢
  generalize w5.heap.size = l at b0 ⊢
  clear HD5 E5
  have l6 : LaneRep c6 w6 N l d ⟨r, gen, bank, [], 0⟩ := ⟨.slice none 0 0, b0, Own.nil _ _ _, ⟨hr64, hg, hbk, Nat.zero_le _, Nat.le_refl _⟩⟩
  have k2 : w6.cell? ⟨l, 2, none⟩ = some (.int .u64 (gen : Int)) := (b0.cell 2).trans rfl
  have hstr : Calls Try.prog 53 #[.pointer (some ⟨l, 0, none⟩)] w6 (GotS c6 w6 (N, 1) (encs rs ++ rest)) := by
    rw [← HST.out]
    exact stream_in c6 w6 X d N l D ⟨r, gen, bank, [], 0⟩ hX (by omega) d6 l6 hr hsz (by have := HW.out; show (D.waits r).length ≤ _; omega) (N, 1)
  have HSTR := Lib.hid hstr
  have D6 := Lib.hid d6
  have L6 := Lib.hid l6
  have E6 := Lib.hid e6
  clear b0 hstr d6 l6 e6
  go_upto_region 12 with (go_at_call 53; refine (HSTR.out).mono ?_; rintro e w7 ⟨av, c7, rfl, hO, hE⟩)
  clear k2
  obtain ⟨ap, acap, rfl⟩ := hO.form
  obtain ⟨al, hal⟩ : ∃ al, al = (encs rs ++ rest).length := ⟨_, rfl⟩
  rw [← hal] at hO ⊢
  have h7 : OpenAt c w X d N Y l D ⟨r, gen, bank, encs (rs.take 0), 0⟩ (encs rs ++ rest) (.slice ap al acap) (.slice none 0 0) [] c7 w7 :=
    ⟨(D6.out).keep hE (fun q h => by simp [Obs] at h), (L6.out).keep hE (fun q h => by simp [Obs] at h), hO, Sl.nil _ _ _ _, fun p hp => by simp at hp, ((E6.out).trans hE.none).ofBig⟩
  have hal2 : al ≤ 28672 := by rw [hal, List.length_append]; omega
  have hacap : al ≤ acap ∧ acap ≤ maxLen := by
    obtain ⟨p', cap', e, g1, g2, _⟩ := Own.rd hO
    simp only [Value.slice.injEq] at e
    obtain ⟨_, _, rfl⟩ := e
    exact ⟨by omega, g2⟩
  have H7 := Lib.hid h7
  have HAL := Lib.hid hal
  clear h7 hal hO hE HSTR D6 L6 E6
  go_loopw [12] (fun ov wx => ∃ (j : Nat) (ps : List ((Nat × Rec) × Value)), j ≤ rs.length ∧ ps.map Prod.fst = places gen 0 (rs.take j) ∧ (∃ p cap, ov = .slice p j cap) ∧ Hid (∃ c', OpenAt c w X d N Y l D ⟨r, gen, bank, encs (rs.take j), 0⟩ (encs rs ++ rest) (.slice ap al acap) ov ps c' wx)) (fun ov _ => rs.length - lenOf ov)
  case atStart => exact ⟨0, [], Nat.zero_le _, by simp [places], ⟨none, 0, rfl⟩, c7, H7.out⟩
  case round =>
    obtain ⟨j, ps, hj, hps, ⟨op, ocap, rfl⟩, hrel⟩ := hrel
    obtain ⟨c1, h1⟩ := hrel.out
    clear hrel H7
    have hpl : ps.length = j := by
      have := congrArg List.length hps
      rw [List.length_map, places_len, List.length_take] at this
      omega
    obtain ⟨bv, hla⟩ := h1.lane
    obtain ⟨bp, bcap, rfl⟩ := hla.own.form
    obtain ⟨tl, htl⟩ : ∃ tl, tl = (encs (rs.take j)).length := ⟨_, rfl⟩
    have k4 : wr.cell? ⟨l, 4, none⟩ = some (.slice bp tl bcap) := by rw [htl]; exact (hla.top.cell 4).trans rfl
    have htl2 : tl ≤ 14336 := by rw [htl]; exact Nat.le_trans (encs_take_le rs j) hlen
    by_cases hlt : j < rs.length
    · obtain ⟨r0, hr0⟩ : ∃ r0, rs[j]? = some r0 := ⟨_, List.getElem?_eq_getElem hlt⟩
      have hrok := Lib.hid (HOK.out r0 (List.mem_of_getElem? hr0))
      have hsplit : encs rs ++ rest = encs (rs.take j) ++ (encB r0 ++ (encs (rs.drop (j + 1)) ++ rest)) := by
        have e : rs = rs.take j ++ r0 :: rs.drop (j + 1) := by
          rw [List.getElem?_eq_getElem hlt] at hr0
          rw [← Option.some.inj hr0, ← List.drop_eq_getElem_cons hlt, List.take_append_drop]
        conv => lhs; rw [e]
        rw [encs_app, encs_cons]; simp only [List.append_assoc]
      obtain ⟨R, hR⟩ : ∃ R, R = encs (rs.drop (j + 1)) ++ rest := ⟨_, rfl⟩
      rw [← hR] at hsplit
      have hbody := body_len r0 hrok.out
      have hel : (encB r0).length = 2 + (bodyB r0).length := by simp [encB, be_len]
      have halt : al = tl + ((encB r0).length + R.length) := by rw [HAL.out, hsplit, htl]; simp only [List.length_append]
      obtain ⟨g, o, rfl, _, _⟩ := (Own.rd h1.all).addr (by rw [← HAL.out]; omega)
      have ho : o = 0 := by
        rcases h1.all.2 with ⟨e, _⟩ | ⟨b, cap', cur, e, _⟩
        · cases e
        · simp only [Value.slice.injEq, Option.some.injEq, Addr.mk.injEq] at e; exact e.1.2.1
      subst ho
      have hrd := (Own.rd h1.all).drop tl (by rw [← HAL.out]; omega)
      rw [← HAL.out, Nat.zero_add] at hrd
      have hdr : (encs rs ++ rest).drop tl = encB r0 ++ R := by rw [hsplit, htl]; exact List.drop_left
      rw [hdr] at hrd
      have hdec := Lib.hid (decode_in c1 wr N r0 hrok.out R _ hrd (by omega) (Y, 1))
      have hne : ¬ acap = tl := by omega
      obtain ⟨nl, hnl⟩ : ∃ nl, nl = (encB r0).length := ⟨_, rfl⟩
      rw [← hnl] at halt
      have hle2 : tl + nl ≤ al := by omega
      have hnl1 : nl ≤ 1002 := by omega
      have HALT := Lib.hid halt
      have H1 := Lib.hid h1
      have HLA := Lib.hid hla
      have HR0 := Lib.hid hr0
      have HTL := Lib.hid htl
      have HNL := Lib.hid hnl
      have HPS := Lib.hid hps
      clear h1 hla hr0 htl hnl hsplit hR hrd hdr hps hel hbody halt
      go_upto_region 14 with (go_at_call 54; refine (hdec.out).mono ?_; rintro e w2 ⟨dv, c2, rfl, hS, hE⟩; have HS := Lib.hid hS; have H2 := Lib.hid ((H1.out).quiet hE); obtain ⟨dp, dcap, rfl⟩ := hS.form; clear hdec hS hE H1 HLA k4; unfold recCells)
      rw [← HNL.out]
      have b3 := Blk.new c2 w2 (recCells r0 (.slice dp r0.dirty.length dcap)) 33 (N + 3, 0)
      have e3 := (Ext.refl (Obs []) c2 w2).alloc (.cells (recCells r0 (.slice dp r0.dirty.length dcap)).toArray 33) (N + 3, 0)
      have h3 := (H2.out).quiet e3
      have s3 := (HS.out).keep e3 (fun h => by simp [Obs] at h)
      generalize hc3 : setc c2 w2.heap.size (N + 3, 0) = c3 at b3 e3 h3 s3
      generalize hp13 : w2.heap.size = p13 at b3 ⊢
      obtain ⟨w3, hw3⟩ : ∃ w3, w3 = w2.alloc (.cells (recCells r0 (.slice dp r0.dirty.length dcap)).toArray 33) := ⟨_, rfl⟩
      rw [← hw3] at b3 e3 h3 s3
      unfold recCells at hw3
      rw [← hw3]
      clear hw3 hp13 hc3 H2 HS e3
      obtain ⟨bv3, hla⟩ := h3.lane
      obtain ⟨bp3, bcap3, rfl⟩ := hla.own.form
      have k4 : w3.cell? ⟨l, 4, none⟩ = some (.slice bp3 tl bcap3) := by rw [HTL.out]; exact (hla.top.cell 4).trans rfl
      have h3d := h3.quiet (Ext.refl (Obs []) c3 w3).drew
      have hplace := place_in c3 w3.drew N l d _ h3d.lane tl htl2
      have H3 := Lib.hid h3d
      have B3 := Lib.hid b3
      have S3 := Lib.hid s3
      clear h3 h3d b3 s3 hla
      refine X_begin [] [10, 11] (fun _ => True) (by kernel_rfl) ?_
      refine X_pure 0 rfl (by kernel_rfl) (by kernel_rfl) (by kernel_rfl) (by kernel_rfl) (fun _ _ _ h => h) rfl (by intro w; go_simp; first | done | with_reducible rfl) ?_
      try simp only [Act.put, List.setIfInBounds_toArray, List.set_cons_zero, List.set_cons_succ]
      refine X_pure 1 rfl (by kernel_rfl) (by kernel_rfl) (by kernel_rfl) (by kernel_rfl) (fun _ _ _ h => h) rfl (by intro w; go_simp; first | done | with_reducible rfl) ?_
      try simp only [Act.put, List.setIfInBounds_toArray, List.set_cons_zero, List.set_cons_succ]
      refine X_pure 2 rfl (by kernel_rfl) (by kernel_rfl) (by kernel_rfl) (by kernel_rfl) (fun _ _ _ h => h) rfl (by intro w; go_simp; first | done | with_reducible rfl) ?_
      try simp only [Act.put, List.setIfInBounds_toArray, List.set_cons_zero, List.set_cons_succ]
      refine X_pure 3 rfl (by kernel_rfl) (by kernel_rfl) (by kernel_rfl) (by kernel_rfl) (fun _ _ _ h => h) rfl (by intro w; go_simp; first | done | with_reducible rfl) ?_
      try simp only [Act.put, List.setIfInBounds_toArray, List.set_cons_zero, List.set_cons_succ]
      refine X_pure 4 rfl (by kernel_rfl) (by kernel_rfl) (by kernel_rfl) (by kernel_rfl) (fun _ _ _ h => h) rfl (by intro w; go_simp; first | done | with_reducible rfl) ?_
      try simp only [Act.put, List.setIfInBounds_toArray, List.set_cons_zero, List.set_cons_succ]
      refine X_still 5 rfl (by kernel_rfl) (by kernel_rfl) (by kernel_rfl) (by kernel_rfl) rfl (by go_simp; first | done | with_reducible rfl) ?_
      try simp only [Act.put, List.setIfInBounds_toArray, List.set_cons_zero, List.set_cons_succ]
      refine X_pure 6 rfl (by kernel_rfl) (by kernel_rfl) (by kernel_rfl) (by kernel_rfl) (fun _ _ _ h => h) rfl (by intro w; go_simp; first | done | with_reducible rfl) ?_
      try simp only [Act.put, List.setIfInBounds_toArray, List.set_cons_zero, List.set_cons_succ]
      refine X_scall 7 rfl (by kernel_rfl) (by kernel_rfl) (by kernel_rfl) (by kernel_rfl) rfl _ _ (by go_simp; first | done | with_reducible rfl) (hplace) ?_
      try simp only [Act.put, List.setIfInBounds_toArray, List.set_cons_zero, List.set_cons_succ]
      refine X_still 8 rfl (by kernel_rfl) (by kernel_rfl) (by kernel_rfl) (by kernel_rfl) rfl (load_agg_run 33 (.tmp 13) rfl p13 0 rfl (recCells r0 (.slice dp r0.dirty.length dcap)) _ Try.underlying33 rfl (by kernel_rfl) (by intro j u hj; rw [Nat.zero_add]; exact (B3.out).drew.cell j ▸ hj)) ?_
      try simp only [Act.put, List.setIfInBounds_toArray, List.set_cons_zero, List.set_cons_succ]
      refine X_pure 9 rfl (by kernel_rfl) (by kernel_rfl) (by kernel_rfl) (by kernel_rfl) (fun _ _ _ h => h) rfl (by intro w; unfold recCells; go_simp; first | done | with_reducible rfl) ?_
      try simp only [Act.put, List.setIfInBounds_toArray, List.set_cons_zero, List.set_cons_succ]
      refine X_op 10 rfl (by kernel_rfl) (by kernel_rfl) (by kernel_rfl) ?_
      obtain ⟨ie, hie, he1, he2, he3⟩ := info_parts info_ent
      obtain ⟨pl, hpl0⟩ : ∃ pl, pl = placeN gen tl := ⟨_, rfl⟩
      refine build_one rfl 49 (.tmp 76) rfl 91 ie _ 9 Try.underlying49 hie he1 he2 (by rfl) (by decide) (by decide) (entCells (placeN gen tl, r0) (.slice dp r0.dirty.length dcap)).toArray rfl (by rfl) ?_
      refine wpList_nil ?_
      have e4 := (Ext.refl (Obs []) c3 w3.drew).alloc (.cells (entCells (placeN gen tl, r0) (.slice dp r0.dirty.length dcap)).toArray 91) (N + 3, 0)
      have b4 := Blk.new c3 w3.drew (entCells (placeN gen tl, r0) (.slice dp r0.dirty.length dcap)) 91 (N + 3, 0)
      have h4 := (H3.out).quiet e4
      have s4 := Sl.keep (show Sl c3 w3.drew (Y, 1) 1 _ _ _ from S3.out) e4 (fun h => by simp [Obs] at h)
      generalize setc c3 w3.drew.heap.size (N + 3, 0) = c4 at b4 h4 s4
      generalize w3.drew.alloc (.cells (entCells (placeN gen tl, r0) (.slice dp r0.dirty.length dcap)).toArray 91) = w4 at b4 h4 s4 ⊢
      generalize w3.drew.heap.size = p4 at b4 ⊢
      have H4 := Lib.hid h4
      have B4 := Lib.hid b4
      have S4 := Lib.hid s4
      clear e4 b4 h4 s4 H3 S3
      try simp only [Act.put, List.setIfInBounds_toArray, List.set_cons_zero, List.set_cons_succ]
      refine X_op 11 rfl (by kernel_rfl) (by kernel_rfl) (by kernel_rfl) ?_
      refine append_sl rfl (.tmp 67) (.tmp 77) 49 49 rfl 91 ie _ 9 112 Try.underlying49 hie he1 he2 he3 (by rfl) c4 (N + 1, 0) (.slice op j ocap) ps.length (ps.flatMap fun p => entCells p.1 p.2) rfl (H4.out).out
        _ rfl 1 (entCells (placeN gen tl, r0) (.slice dp r0.dirty.length dcap)) (cells_src p4 0 1 1 9 _ _ 91 Try.underlying49 (by rfl) (by intro j v hj; rw [Nat.zero_add]; exact (B4.out).cell j ▸ hj) ?_) (by rw [hpl]; unfold maxLen; omega) (by rw [hpl]; omega) ?_
      · intro u hu
        rcases List.mem_cons.1 hu with rfl | hu
        · rfl
        · exact one_recCells r0 _ rfl u hu
      intro ov5 w5 c5 hSl hX5
      obtain ⟨op5, ocap5, rfl⟩ := hSl.form
      refine wpList_nil ?_
      have h5 := (H4.out).push (by omega) (placeN gen tl, r0) _ hSl hX5 (Rs.keep (S4.out).rs hX5.own (fun q h => by simp at h; omega))
      obtain ⟨bv5, hla⟩ := h5.lane
      obtain ⟨bp5, bcap5, rfl⟩ := hla.own.form
      clear k4
      have k4 : w5.cell? ⟨l, 4, none⟩ = some (.slice bp5 tl bcap5) := by rw [HTL.out]; exact (hla.top.cell 4).trans rfl
      have f4 := hla.top.free 4
      have H5 := Lib.hid h5
      clear h5 hla hSl hX5 H4 B4 S4 B3 hplace
      try simp only [Act.put, List.setIfInBounds_toArray, List.set_cons_zero, List.set_cons_succ]
      refine X_pure 12 rfl (by kernel_rfl) (by kernel_rfl) (by kernel_rfl) (by kernel_rfl) (fun _ _ _ h => h) rfl (by intro w; go_simp; first | done | with_reducible rfl) ?_
      try simp only [Act.put, List.setIfInBounds_toArray, List.set_cons_zero, List.set_cons_succ]
      refine X_done (by kernel_rfl) ?_ _
      obtain ⟨S, hS⟩ : ∃ S, S = tl + nl := ⟨_, rfl⟩
      have hwS : IntKind.i64.wrap ((tl : Int) + (nl : Int)) = (S : Int) := by rw [IntWalk.i64_in _ ⟨by omega, by omega⟩]; omega
      have hS0 : S ≤ al := by omega
      have hS14 : S ≤ 14336 := by
        have h1 := encs_take_le rs (j + 1)
        rw [List.take_succ_eq_append_getElem hlt, encs_app, encs_one, List.length_append] at h1
        have e : rs[j] = r0 := by have := HR0.out; rw [List.getElem?_eq_getElem hlt] at this; exact Option.some.inj this
        rw [e, ← HTL.out, ← HNL.out] at h1
        omega
      have hSc : S ≤ acap := by omega
      have HS := Lib.hid hS
      have h5d := Lib.hid ((H5.out).quiet (Ext.refl (Obs []) c5 w5).drew)
      clear hS H5
      go_upto_region 15 with fail
      refine X_begin [] [19] (fun _ => True) (by kernel_rfl) ?_
      refine X_pure 0 rfl (by kernel_rfl) (by kernel_rfl) (by kernel_rfl) (by kernel_rfl) (fun _ _ _ h => h) rfl (by intro w; go_simp; first | done | with_reducible rfl) ?_
      try simp only [Act.put, List.setIfInBounds_toArray, List.set_cons_zero, List.set_cons_succ]
      refine X_pure 1 rfl (by kernel_rfl) (by kernel_rfl) (by kernel_rfl) (by kernel_rfl) (fun _ _ _ h => h) rfl (by intro w; go_simp; first | done | with_reducible rfl) ?_
      try simp only [Act.put, List.setIfInBounds_toArray, List.set_cons_zero, List.set_cons_succ]
      refine X_pure 2 rfl (by kernel_rfl) (by kernel_rfl) (by kernel_rfl) (by kernel_rfl) (fun _ _ _ h => h) rfl (by intro w; go_simp; first | done | with_reducible rfl) ?_
      try simp only [Act.put, List.setIfInBounds_toArray, List.set_cons_zero, List.set_cons_succ]
      refine X_pure 3 rfl (by kernel_rfl) (by kernel_rfl) (by kernel_rfl) (by kernel_rfl) (fun _ _ _ h => h) rfl (by intro w; go_simp; first | done | with_reducible rfl) ?_
      try simp only [Act.put, List.setIfInBounds_toArray, List.set_cons_zero, List.set_cons_succ]
      refine X_pure 4 rfl (by kernel_rfl) (by kernel_rfl) (by kernel_rfl) (by kernel_rfl) (fun _ _ _ h => h) rfl (by intro w; go_simp; first | done | with_reducible rfl) ?_
      try simp only [Act.put, List.setIfInBounds_toArray, List.set_cons_zero, List.set_cons_succ]
      refine X_pure 7 rfl (by kernel_rfl) (by kernel_rfl) (by kernel_rfl) (by kernel_rfl) (fun _ _ _ h => h) rfl (by intro w; go_simp; first | done | with_reducible rfl) ?_
      try simp only [Act.put, List.setIfInBounds_toArray, List.set_cons_zero, List.set_cons_succ]
      refine X_pure 9 rfl (by kernel_rfl) (by kernel_rfl) (by kernel_rfl) (by kernel_rfl) (fun _ _ _ h => h) rfl (by intro w; go_simp; first | done | with_reducible rfl) ?_
      try simp only [Act.put, List.setIfInBounds_toArray, List.set_cons_zero, List.set_cons_succ]
      refine X_pure 10 rfl (by kernel_rfl) (by kernel_rfl) (by kernel_rfl) (by kernel_rfl) (fun _ _ _ h => h) rfl (by intro w; go_simp; first | done | with_reducible rfl) ?_
      try simp only [Act.put, List.setIfInBounds_toArray, List.set_cons_zero, List.set_cons_succ]
      refine X_pure 11 rfl (by kernel_rfl) (by kernel_rfl) (by kernel_rfl) (by kernel_rfl) (fun _ _ _ h => h) rfl (by intro w; go_simp; first | done | with_reducible rfl) ?_
      try simp only [Act.put, List.setIfInBounds_toArray, List.set_cons_zero, List.set_cons_succ]
      refine X_pure 14 rfl (by kernel_rfl) (by kernel_rfl) (by kernel_rfl) (by kernel_rfl) (fun _ _ _ h => h) rfl (by intro w; go_simp; first | done | with_reducible rfl) ?_
      try simp only [Act.put, List.setIfInBounds_toArray, List.set_cons_zero, List.set_cons_succ]
      refine X_still 5 rfl (by kernel_rfl) (by kernel_rfl) (by kernel_rfl) (by kernel_rfl) rfl (by go_simp; first | done | with_reducible rfl) ?_
      try simp only [Act.put, List.setIfInBounds_toArray, List.set_cons_zero, List.set_cons_succ]
      refine X_pure 6 rfl (by kernel_rfl) (by kernel_rfl) (by kernel_rfl) (by kernel_rfl) (fun _ _ _ h => h) rfl (by intro w; go_simp; first | done | with_reducible rfl) ?_
      try simp only [Act.put, List.setIfInBounds_toArray, List.set_cons_zero, List.set_cons_succ]
      refine X_pure 8 rfl (by kernel_rfl) (by kernel_rfl) (by kernel_rfl) (by kernel_rfl) (fun _ _ _ h => h) rfl (by intro w; go_simp; first | done | with_reducible rfl) ?_
      try simp only [Act.put, List.setIfInBounds_toArray, List.set_cons_zero, List.set_cons_succ]
      refine X_still 12 rfl (by kernel_rfl) (by kernel_rfl) (by kernel_rfl) (by kernel_rfl) rfl (by go_simp; first | done | with_reducible rfl) ?_
      try simp only [Act.put, List.setIfInBounds_toArray, List.set_cons_zero, List.set_cons_succ]
      refine X_pure 13 rfl (by kernel_rfl) (by kernel_rfl) (by kernel_rfl) (by kernel_rfl) (fun _ _ _ h => h) rfl (by intro w; go_simp; first | done | with_reducible rfl) ?_
      try simp only [Act.put, List.setIfInBounds_toArray, List.set_cons_zero, List.set_cons_succ]
      refine X_pure 15 rfl (by kernel_rfl) (by kernel_rfl) (by kernel_rfl) (by kernel_rfl) (fun _ _ _ h => h) rfl (by intro w; go_simp; first | done | with_reducible rfl) ?_
      try simp only [Act.put, List.setIfInBounds_toArray, List.set_cons_zero, List.set_cons_succ]
      refine X_pure 16 rfl (by kernel_rfl) (by kernel_rfl) (by kernel_rfl) (by kernel_rfl) (fun _ _ _ h => h) rfl (by intro w; go_simp; first | done | with_reducible rfl) ?_
      try simp only [Act.put, List.setIfInBounds_toArray, List.set_cons_zero, List.set_cons_succ]
      refine X_pure 17 rfl (by kernel_rfl) (by kernel_rfl) (by kernel_rfl) (by kernel_rfl) (fun _ _ _ h => h) rfl (by intro w; go_simp; first | done | with_reducible rfl) ?_
      try simp only [Act.put, List.setIfInBounds_toArray, List.set_cons_zero, List.set_cons_succ]
      refine X_pure 18 rfl (by kernel_rfl) (by kernel_rfl) (by kernel_rfl) (by kernel_rfl) (fun _ _ _ h => h) rfl (by intro w; go_simp; first | done | with_reducible rfl) ?_
      try simp only [Act.put, List.setIfInBounds_toArray, List.set_cons_zero, List.set_cons_succ]
      refine X_op 19 rfl (by kernel_rfl) (by kernel_rfl) (by kernel_rfl) ?_
      go_step
      go_step
      go_step
      refine wpList_nil ?_
      refine X_done (by kernel_rfl) ?_ _
      go_wp2_with fail
      have hA : (encs rs ++ rest).take S = encs (rs.take (j + 1)) := by
        have e : rs[j] = r0 := by have := HR0.out; rw [List.getElem?_eq_getElem hlt] at this; exact Option.some.inj this
        have e2 : S = (encs (rs.take (j + 1))).length := by rw [HS.out, HTL.out, HNL.out, List.take_succ_eq_append_getElem hlt, encs_app, encs_one, List.length_append, e]
        rw [e2, List.take_append_of_le_length (encs_take_le rs _), encs_take]
      have h6 := (h5d.out).setb (by omega) S (by rw [← HAL.out]; exact hS0) hS14 rfl
      rw [hpl] at h6
      refine ⟨⟨j + 1, ps ++ [((placeN gen tl, r0), .slice dp r0.dirty.length dcap)], hlt, ?_, ⟨_, _, rfl⟩, c5, ?_⟩, by simp [lenOf] <;> omega⟩
      · have e : rs[j] = r0 := by have := HR0.out; rw [List.getElem?_eq_getElem hlt] at this; exact Option.some.inj this
        rw [List.map_append, HPS.out, List.take_succ_eq_append_getElem hlt, places_snoc, Nat.zero_add, ← HTL.out, e]
        rfl
      · rw [← hA]
        exact h6
    · obtain rfl : j = rs.length := by omega
      rw [List.take_of_length_le (Nat.le_refl _)] at h1 htl hps
      have hal3 : al = tl + rest.length := by rw [HAL.out, htl, List.length_append]
      have hle : tl ≤ al := by omega
      have HAL3 := Lib.hid hal3
      clear hal3
      have H1 := Lib.hid h1
      have HTL := Lib.hid htl
      have HPS := Lib.hid hps
      clear h1 htl hps hla
      go_upto_region 12 with fail
      go_cut [13, 14, 15] from 53 to 97 (fun s13 s14 s15 wx => s14 = .int .i64 0 ∧ s15 = .bool false ∧ (∃ p, s13 = .pointer p) ∧ Hid (∃ c', OpenAt c w X d N Y l D ⟨r, gen, bank, encs rs, 0⟩ (encs rs ++ rest) (.slice ap al acap) (.slice op rs.length ocap) ps c' wx))
      case first =>
        have hfrom := (H1.out).all.from tl (by rw [← HAL.out]; exact hle)
        rw [← HAL.out] at hfrom
        have hdrop : (encs rs ++ rest).drop tl = rest := by rw [HTL.out]; exact List.drop_left
        rw [hdrop] at hfrom
        have HFR := Lib.hid hfrom
        clear hfrom hdrop
        by_cases hcap : acap = tl
        · have hdec := Lib.hid (decode_no c1 wr N rest _ ((HFR.out).1 hcap) HSH.out (by omega))
          subst hcap
          rw [show al - acap = 0 from by omega] at hdec
          go_wp2_with (go_at_call 54; refine (hdec.out).mono ?_; rintro e w2 ⟨rfl, c2, hE⟩; unfold zeroRec; have H2 := Lib.hid ((H1.out).quiet hE); clear hE hdec H1)
          go_meet
          exact ⟨rfl, rfl, ⟨_, rfl⟩, _, (H2.out).quiet ((Ext.refl (Obs []) c2 w2).alloc _ (0, 1))⟩
        · have hdec := Lib.hid (decode_no c1 wr N rest _ ((HFR.out).2 hcap) HSH.out (by omega))
          go_wp2_with (go_at_call 54; refine (hdec.out).mono ?_; rintro e w2 ⟨rfl, c2, hE⟩; unfold zeroRec; have H2 := Lib.hid ((H1.out).quiet hE); clear hE hdec H1)
          go_meet
          exact ⟨rfl, rfl, ⟨_, rfl⟩, _, (H2.out).quiet ((Ext.refl (Obs []) c2 w2).alloc _ (0, 1))⟩
      case rest =>
        obtain ⟨rfl, rfl, ⟨p13, rfl⟩, hrel⟩ := hcut
        obtain ⟨c2, h2⟩ := hrel.out
        clear hrel k4 H1
        obtain ⟨bv2, hla⟩ := h2.lane
        obtain ⟨bp2, bcap2, rfl⟩ := hla.own.form
        have k4 : wc.cell? ⟨l, 4, none⟩ = some (.slice bp2 tl bcap2) := by rw [HTL.out]; exact (hla.top.cell 4).trans rfl
        have k5 : wc.cell? ⟨l, 5, none⟩ = some (.int .i64 0) := (hla.top.cell 5).trans rfl
        have f5 := hla.top.free 5
        have H2 := Lib.hid h2
        clear h2 hla
        go_upto_region 17 with fail
        have h3 := (H2.out).sets (by omega) tl (Nat.le_of_eq HTL.out)
        generalize wc.setCell ⟨l, 5, none⟩ (.int .i64 (tl : Int)) = w3 at h3 ⊢
        clear H2 k4 k5 f5
        have h3d := h3.quiet (Ext.refl (Obs []) c2 w3).drew
        obtain ⟨bv3, hla⟩ := h3.lane
        obtain ⟨bp3, bcap3, rfl⟩ := hla.own.form
        have k3 : w3.cell? ⟨l, 3, none⟩ = some (.int .i64 (bank : Int)) := (hla.top.cell 3).trans rfl
        have k4 : w3.cell? ⟨l, 4, none⟩ = some (.slice bp3 tl bcap3) := by rw [HTL.out]; exact (hla.top.cell 4).trans rfl
        obtain ⟨F, hF⟩ : ∃ F, F = 2 + bank * 256 := ⟨_, rfl⟩
        have hF258 : F ≤ 258 := by omega
        have hfi := first_in w3.drew bank hbk
        rw [← hF] at hfi
        obtain ⟨U, hU⟩ : ∃ U, U = tl + 56 := ⟨_, rfl⟩
        obtain ⟨V, hV⟩ : ∃ V, V = tl + 55 := ⟨_, rfl⟩
        obtain ⟨Q, hQ⟩ : ∃ Q, Q = secs (encs rs) := ⟨_, rfl⟩
        have hQV : Q = V / 56 := by rw [hQ, hV, HTL.out]; rfl
        have hw10 : IntKind.i64.wrap ((tl : Int) + 56) = (U : Int) := by rw [IntWalk.i64_in _ ⟨by omega, by omega⟩]; omega
        have hw11 : IntKind.i64.wrap ((U : Int) - 1) = (V : Int) := by rw [IntWalk.i64_in _ ⟨by omega, by omega⟩]; omega
        have hq : ((V : Int) / 56) = (Q : Int) := by omega
        have hQ256 : Q ≤ 256 := by omega
        obtain ⟨T, hT⟩ : ∃ T, T = F + Q := ⟨_, rfl⟩
        have hw13 : IntKind.i64.wrap ((F : Int) + (Q : Int)) = (T : Int) := by rw [IntWalk.i64_in _ ⟨by omega, by omega⟩]; omega
        have hT514 : T ≤ 514 := by omega
        have H3 := Lib.hid h3d
        have HQ := Lib.hid hQ
        have HFF := Lib.hid hF
        have HT := Lib.hid hT
        clear h3 h3d hla hU hV hQ hQV hT hF
        refine X_begin [] [] (fun _ => True) (by kernel_rfl) ?_
        refine X_pure 0 rfl (by kernel_rfl) (by kernel_rfl) (by kernel_rfl) (by kernel_rfl) (fun _ _ _ h => h) rfl (by intro w; go_simp; first | done | with_reducible rfl) ?_
        try simp only [Act.put, List.setIfInBounds_toArray, List.set_cons_zero, List.set_cons_succ]
        refine X_pure 1 rfl (by kernel_rfl) (by kernel_rfl) (by kernel_rfl) (by kernel_rfl) (fun _ _ _ h => h) rfl (by intro w; go_simp; first | done | with_reducible rfl) ?_
        try simp only [Act.put, List.setIfInBounds_toArray, List.set_cons_zero, List.set_cons_succ]
        refine X_pure 2 rfl (by kernel_rfl) (by kernel_rfl) (by kernel_rfl) (by kernel_rfl) (fun _ _ _ h => h) rfl (by intro w; go_simp; first | done | with_reducible rfl) ?_
        try simp only [Act.put, List.setIfInBounds_toArray, List.set_cons_zero, List.set_cons_succ]
        refine X_pure 5 rfl (by kernel_rfl) (by kernel_rfl) (by kernel_rfl) (by kernel_rfl) (fun _ _ _ h => h) rfl (by intro w; go_simp; first | done | with_reducible rfl) ?_
        try simp only [Act.put, List.setIfInBounds_toArray, List.set_cons_zero, List.set_cons_succ]
        refine X_pure 6 rfl (by kernel_rfl) (by kernel_rfl) (by kernel_rfl) (by kernel_rfl) (fun _ _ _ h => h) rfl (by intro w; go_simp; first | done | with_reducible rfl) ?_
        try simp only [Act.put, List.setIfInBounds_toArray, List.set_cons_zero, List.set_cons_succ]
        refine X_pure 7 rfl (by kernel_rfl) (by kernel_rfl) (by kernel_rfl) (by kernel_rfl) (fun _ _ _ h => h) rfl (by intro w; go_simp; first | done | with_reducible rfl) ?_
        try simp only [Act.put, List.setIfInBounds_toArray, List.set_cons_zero, List.set_cons_succ]
        refine X_still 3 rfl (by kernel_rfl) (by kernel_rfl) (by kernel_rfl) (by kernel_rfl) rfl (by go_simp; first | done | with_reducible rfl) ?_
        try simp only [Act.put, List.setIfInBounds_toArray, List.set_cons_zero, List.set_cons_succ]
        refine X_scall 4 rfl (by kernel_rfl) (by kernel_rfl) (by kernel_rfl) (by kernel_rfl) rfl _ _ (by go_simp; first | done | with_reducible rfl) (hfi) ?_
        try simp only [Act.put, List.setIfInBounds_toArray, List.set_cons_zero, List.set_cons_succ]
        refine X_still 8 rfl (by kernel_rfl) (by kernel_rfl) (by kernel_rfl) (by kernel_rfl) rfl (by go_simp; first | done | with_reducible rfl) ?_
        try simp only [Act.put, List.setIfInBounds_toArray, List.set_cons_zero, List.set_cons_succ]
        refine X_pure 9 rfl (by kernel_rfl) (by kernel_rfl) (by kernel_rfl) (by kernel_rfl) (fun _ _ _ h => h) rfl (by intro w; go_simp; first | done | with_reducible rfl) ?_
        try simp only [Act.put, List.setIfInBounds_toArray, List.set_cons_zero, List.set_cons_succ]
        refine X_pure 10 rfl (by kernel_rfl) (by kernel_rfl) (by kernel_rfl) (by kernel_rfl) (fun _ _ _ h => h) rfl (by intro w; go_simp; first | done | with_reducible rfl) ?_
        try simp only [Act.put, List.setIfInBounds_toArray, List.set_cons_zero, List.set_cons_succ]
        refine X_pure 11 rfl (by kernel_rfl) (by kernel_rfl) (by kernel_rfl) (by kernel_rfl) (fun _ _ _ h => h) rfl (by intro w; go_simp; first | done | with_reducible rfl) ?_
        try simp only [Act.put, List.setIfInBounds_toArray, List.set_cons_zero, List.set_cons_succ]
        refine X_pure 12 rfl (by kernel_rfl) (by kernel_rfl) (by kernel_rfl) (by kernel_rfl) (fun _ _ _ h => h) rfl (by intro w; go_simp; first | done | with_reducible rfl) ?_
        try simp only [Act.put, List.setIfInBounds_toArray, List.set_cons_zero, List.set_cons_succ]
        refine X_pure 13 rfl (by kernel_rfl) (by kernel_rfl) (by kernel_rfl) (by kernel_rfl) (fun _ _ _ h => h) rfl (by intro w; go_simp; first | done | with_reducible rfl) ?_
        try simp only [Act.put, List.setIfInBounds_toArray, List.set_cons_zero, List.set_cons_succ]
        refine X_pure 14 rfl (by kernel_rfl) (by kernel_rfl) (by kernel_rfl) (by kernel_rfl) (fun _ _ _ h => h) rfl (by intro w; go_simp; first | done | with_reducible rfl) ?_
        try simp only [Act.put, List.setIfInBounds_toArray, List.set_cons_zero, List.set_cons_succ]
        refine X_done (by kernel_rfl) ?_ _
        clear hw10 hw11 hq hw13 hfi
        clear k3 k4
        obtain ⟨bv4, hla⟩ := (H3.out).lane
        have k3 : w3.cell? ⟨l, 3, none⟩ = some (.int .i64 (bank : Int)) := (hla.top.cell 3).trans rfl
        clear hla
        have hfi := first_in w3.drew bank hbk
        rw [← HFF.out] at hfi
        have hwipe := wipe_in c2 w3.drew X d D r T (256 - Q) hX (H3.out).disk hr (by have := HT.out; omega) (by have := HW.out; omega)
        have e1 : T = 2 + bank * 256 + secs (encs rs) := by rw [HT.out, HFF.out, HQ.out]
        have e2 : wipe D r T (256 - Q) = W := by rw [HWD.out, e1, HQ.out]
        have e3 : ((T + (256 - Q) : Nat) : Int) = (F : Int) + 256 := by have := HT.out; omega
        have e4 : ((T : Nat) : Int) = (F : Int) + (Q : Int) := by have := HT.out; omega
        rw [e2, e3, e4] at hwipe
        have HWP := Lib.hid hwipe
        have h2W : W.2 = 0 ∨ W.2 = 10 := by rw [HWD.out]; exact wipe_two _ _ _ _
        clear hwipe e1 e2 e3 e4
        rcases h2W with hk | hk
        rotate_left
        · rw [hk] at HWP
          have HE : Hid (E = W) := Lib.hid (by rw [HED.out, if_pos (by rw [hk]; decide)])
          have HKK := Lib.hid hk
          clear hk
          go_wp2_with (first
            | (go_at_call 47; refine (hfi).mono ?_; rintro e w4 ⟨rfl, rfl⟩; clear hfi)
            | (go_at_call 46; refine (HWP.out).mono ?_; rintro e w4 ⟨c4, rfl, hR, hE⟩; have H4 := Lib.hid ((H3.out).did hY (by omega) hR hE); clear hR hE HWP H3))
          go_ret3
          refine .inr ⟨by rw [HE.out]; exact HKK.out, ?_⟩
          rw [HE.out]
          exact ⟨c4, rfl, (H4.out).disk, (H4.out).ext.bigX HF.out⟩
        · rw [hk] at HWP
          have HE : Hid (E = if rest ≠ [] ∧ (encs rs).length % 56 ≠ 0 then P else (W.1, 0)) := Lib.hid (by rw [HED.out, if_neg (by rw [hk]; decide)])
          clear hk
          go_upto_region 21 with (first
            | (go_at_call 47; refine (hfi).mono ?_; rintro e w4 ⟨rfl, rfl⟩; clear hfi)
            | (go_at_call 46; refine (HWP.out).mono ?_; rintro e w4 ⟨c4, rfl, hR, hE⟩; have H4 := Lib.hid ((H3.out).did hY (by omega) hR hE); clear hR hE HWP H3))
          obtain ⟨bv5, hla⟩ := (H4.out).lane
          obtain ⟨bp5, bcap5, rfl⟩ := hla.own.form
          clear k3
          have k2 : w4.cell? ⟨l, 2, none⟩ = some (.int .u64 (gen : Int)) := (hla.top.cell 2).trans rfl
          have k3 : w4.cell? ⟨l, 3, none⟩ = some (.int .i64 (bank : Int)) := (hla.top.cell 3).trans rfl
          have k4 : w4.cell? ⟨l, 4, none⟩ = some (.slice bp5 tl bcap5) := by rw [HTL.out]; exact (hla.top.cell 4).trans rfl
          have hown : Rd c4 w4.drew N (.slice bp5 tl bcap5) (encs rs) := by rw [HTL.out]; exact (Own.rd hla.own).keep (Ext.refl (Obs []) c4 w4).drew (fun q h => by simp [Obs] at h)
          clear hla
          have hlt2 : (tl < al) ↔ rest ≠ [] := by
            rw [HAL3.out]
            constructor
            · intro h e; rw [e] at h; simp at h
            · intro h; have := List.length_pos_iff.2 h; omega
          by_cases hc : rest ≠ [] ∧ (encs rs).length % 56 ≠ 0
          · have HE2 : Hid (E = P) := Lib.hid (by rw [HE.out, if_pos hc])
            obtain ⟨hw1, hw2, hw3⟩ := wipe_n D r (2 + bank * 256 + secs (encs rs)) (256 - secs (encs rs))
            rw [← HWD.out] at hw1 hw2 hw3
            have h4d := (H4.out).quiet (Ext.refl (Obs []) c4 w4).drew
            have hlay := lay_in c4 w4.drew X d N l N W.1 ⟨r, gen, bank, encs rs, tl⟩ bank gen (.slice bp5 tl bcap5) (encs rs) tl hX (by omega) (by omega) h4d.disk h4d.lane hown (by rw [hw1]; exact hr) (by rw [hw2]; exact hsz) (by have := HW.out; show (W.1.waits r).length ≤ _; omega) hbk hg hlen (Nat.le_of_eq HTL.out)
            have h2P : P.2 = 0 ∨ P.2 = 10 := by rw [HPD.out]; exact lay_two _ _ _ _ _ _
            have hP2 : P = lay W.1 r bank gen (encs rs) (tl / 56) := by rw [HPD.out, HTL.out]
            have hlay2 : Calls Try.prog 45 #[.pointer (some ⟨l, 0, none⟩), .int .i64 (bank : Int), .int .u64 (gen : Int), .slice bp5 tl bcap5, .int .i64 (tl : Int)] w4.drew (DidD c4 w4.drew X d P.1 P.2) := by rw [hP2]; exact hlay
            have HLY := Lib.hid hlay2
            have h1 : tl < al := hlt2.2 hc.1
            have h2 : ¬ ((tl : Int) % 56 ≤ 0) := by have := hc.2; rw [← HTL.out] at this; omega
            have h3 : (tl : Int) % 56 > 0 := by omega
            have H5 := Lib.hid h4d
            clear hlay hlay2 hP2 hc hlt2 hw1 hw2 hw3 H4 h4d
            go_upto_region 22 with fail
            refine X_begin [] [18] (fun _ => True) (by kernel_rfl) ?_
            refine X_pure 0 rfl (by kernel_rfl) (by kernel_rfl) (by kernel_rfl) (by kernel_rfl) (fun _ _ _ h => h) rfl (by intro w; go_simp; first | done | with_reducible rfl) ?_
            try simp only [Act.put, List.setIfInBounds_toArray, List.set_cons_zero, List.set_cons_succ]
            refine X_pure 1 rfl (by kernel_rfl) (by kernel_rfl) (by kernel_rfl) (by kernel_rfl) (fun _ _ _ h => h) rfl (by intro w; go_simp; first | done | with_reducible rfl) ?_
            try simp only [Act.put, List.setIfInBounds_toArray, List.set_cons_zero, List.set_cons_succ]
            refine X_pure 2 rfl (by kernel_rfl) (by kernel_rfl) (by kernel_rfl) (by kernel_rfl) (fun _ _ _ h => h) rfl (by intro w; go_simp; first | done | with_reducible rfl) ?_
            try simp only [Act.put, List.setIfInBounds_toArray, List.set_cons_zero, List.set_cons_succ]
            refine X_pure 3 rfl (by kernel_rfl) (by kernel_rfl) (by kernel_rfl) (by kernel_rfl) (fun _ _ _ h => h) rfl (by intro w; go_simp; first | done | with_reducible rfl) ?_
            try simp only [Act.put, List.setIfInBounds_toArray, List.set_cons_zero, List.set_cons_succ]
            refine X_pure 5 rfl (by kernel_rfl) (by kernel_rfl) (by kernel_rfl) (by kernel_rfl) (fun _ _ _ h => h) rfl (by intro w; go_simp; first | done | with_reducible rfl) ?_
            try simp only [Act.put, List.setIfInBounds_toArray, List.set_cons_zero, List.set_cons_succ]
            refine X_pure 6 rfl (by kernel_rfl) (by kernel_rfl) (by kernel_rfl) (by kernel_rfl) (fun _ _ _ h => h) rfl (by intro w; go_simp; first | done | with_reducible rfl) ?_
            try simp only [Act.put, List.setIfInBounds_toArray, List.set_cons_zero, List.set_cons_succ]
            refine X_pure 7 rfl (by kernel_rfl) (by kernel_rfl) (by kernel_rfl) (by kernel_rfl) (fun _ _ _ h => h) rfl (by intro w; go_simp; first | done | with_reducible rfl) ?_
            try simp only [Act.put, List.setIfInBounds_toArray, List.set_cons_zero, List.set_cons_succ]
            refine X_pure 9 rfl (by kernel_rfl) (by kernel_rfl) (by kernel_rfl) (by kernel_rfl) (fun _ _ _ h => h) rfl (by intro w; go_simp; first | done | with_reducible rfl) ?_
            try simp only [Act.put, List.setIfInBounds_toArray, List.set_cons_zero, List.set_cons_succ]
            refine X_pure 10 rfl (by kernel_rfl) (by kernel_rfl) (by kernel_rfl) (by kernel_rfl) (fun _ _ _ h => h) rfl (by intro w; go_simp; first | done | with_reducible rfl) ?_
            try simp only [Act.put, List.setIfInBounds_toArray, List.set_cons_zero, List.set_cons_succ]
            refine X_pure 11 rfl (by kernel_rfl) (by kernel_rfl) (by kernel_rfl) (by kernel_rfl) (fun _ _ _ h => h) rfl (by intro w; go_simp; first | done | with_reducible rfl) ?_
            try simp only [Act.put, List.setIfInBounds_toArray, List.set_cons_zero, List.set_cons_succ]
            refine X_pure 13 rfl (by kernel_rfl) (by kernel_rfl) (by kernel_rfl) (by kernel_rfl) (fun _ _ _ h => h) rfl (by intro w; go_simp; first | done | with_reducible rfl) ?_
            try simp only [Act.put, List.setIfInBounds_toArray, List.set_cons_zero, List.set_cons_succ]
            refine X_pure 14 rfl (by kernel_rfl) (by kernel_rfl) (by kernel_rfl) (by kernel_rfl) (fun _ _ _ h => h) rfl (by intro w; go_simp; first | done | with_reducible rfl) ?_
            try simp only [Act.put, List.setIfInBounds_toArray, List.set_cons_zero, List.set_cons_succ]
            refine X_pure 15 rfl (by kernel_rfl) (by kernel_rfl) (by kernel_rfl) (by kernel_rfl) (fun _ _ _ h => h) rfl (by intro w; go_simp; first | done | with_reducible rfl) ?_
            try simp only [Act.put, List.setIfInBounds_toArray, List.set_cons_zero, List.set_cons_succ]
            refine X_still 4 rfl (by kernel_rfl) (by kernel_rfl) (by kernel_rfl) (by kernel_rfl) rfl (by go_simp; first | done | with_reducible rfl) ?_
            try simp only [Act.put, List.setIfInBounds_toArray, List.set_cons_zero, List.set_cons_succ]
            refine X_still 8 rfl (by kernel_rfl) (by kernel_rfl) (by kernel_rfl) (by kernel_rfl) rfl (by go_simp; first | done | with_reducible rfl) ?_
            try simp only [Act.put, List.setIfInBounds_toArray, List.set_cons_zero, List.set_cons_succ]
            refine X_still 12 rfl (by kernel_rfl) (by kernel_rfl) (by kernel_rfl) (by kernel_rfl) rfl (by go_simp; first | done | with_reducible rfl) ?_
            try simp only [Act.put, List.setIfInBounds_toArray, List.set_cons_zero, List.set_cons_succ]
            refine X_still 16 rfl (by kernel_rfl) (by kernel_rfl) (by kernel_rfl) (by kernel_rfl) rfl (by go_simp; first | done | with_reducible rfl) ?_
            try simp only [Act.put, List.setIfInBounds_toArray, List.set_cons_zero, List.set_cons_succ]
            refine X_pure 17 rfl (by kernel_rfl) (by kernel_rfl) (by kernel_rfl) (by kernel_rfl) (fun _ _ _ h => h) rfl (by intro w; go_simp; first | done | with_reducible rfl) ?_
            try simp only [Act.put, List.setIfInBounds_toArray, List.set_cons_zero, List.set_cons_succ]
            refine X_op 18 rfl (by kernel_rfl) (by kernel_rfl) (by kernel_rfl) ?_
            rcases h2P with hk | hk
            · rw [hk] at HLY
              have HKK := Lib.hid hk
              clear hk
              go_wp2_with (go_at_call 45; refine (HLY.out).mono ?_; rintro e w5 ⟨c5, rfl, hR, hE⟩; have H6 := Lib.hid ((H5.out).did hY (by omega) hR hE); clear hR hE HLY H5)
              try simp only [Act.put, List.setIfInBounds_toArray, List.set_cons_zero, List.set_cons_succ]
              refine X_pure 19 rfl (by kernel_rfl) (by kernel_rfl) (by kernel_rfl) (by kernel_rfl) (fun _ _ _ h => h) rfl (by intro w; go_simp; first | done | with_reducible rfl) ?_
              try simp only [Act.put, List.setIfInBounds_toArray, List.set_cons_zero, List.set_cons_succ]
              refine X_done (by kernel_rfl) ?_ _
              go_wp2_with fail
              go_ret3
              refine .inl ⟨by rw [HE2.out]; exact HKK.out, ?_⟩
              rw [HE2.out, ← HTL.out]
              exact open_fin (H6.out) hfn HF.out HPS.out
            · rw [hk] at HLY
              have HKK := Lib.hid hk
              clear hk
              go_wp2_with (go_at_call 45; refine (HLY.out).mono ?_; rintro e w5 ⟨c5, rfl, hR, hE⟩; have H6 := Lib.hid ((H5.out).did hY (by omega) hR hE); clear hR hE HLY H5)
              try simp only [Act.put, List.setIfInBounds_toArray, List.set_cons_zero, List.set_cons_succ]
              refine X_pure 19 rfl (by kernel_rfl) (by kernel_rfl) (by kernel_rfl) (by kernel_rfl) (fun _ _ _ h => h) rfl (by intro w; go_simp; first | done | with_reducible rfl) ?_
              try simp only [Act.put, List.setIfInBounds_toArray, List.set_cons_zero, List.set_cons_succ]
              refine X_done (by kernel_rfl) ?_ _
              go_wp2_with fail
              go_ret3
              refine .inr ⟨by rw [HE2.out]; exact HKK.out, ?_⟩
              rw [HE2.out]
              exact ⟨c5, rfl, (H6.out).disk, (H6.out).ext.bigX HF.out⟩
          · have HE2 : Hid (E = (W.1, 0)) := Lib.hid (by rw [HE.out, if_neg hc])
            by_cases h1 : tl < al
            · have h2 : (tl : Int) % 56 = 0 := by
                have : (encs rs).length % 56 = 0 := by
                  by_cases h : (encs rs).length % 56 = 0
                  · exact h
                  · exact absurd ⟨hlt2.1 h1, h⟩ hc
                rw [← HTL.out] at this; omega
              clear hlt2 hc hown
              go_wp2_with fail
              go_ret3
              refine .inl ⟨by rw [HE2.out], ?_⟩
              rw [HE2.out, ← HTL.out]
              exact open_fin (H4.out) hfn HF.out HPS.out
            · clear hlt2 hc hown
              go_wp2_with fail
              go_ret3
              refine .inl ⟨by rw [HE2.out], ?_⟩
              rw [HE2.out, ← HTL.out]
              exact open_fin (H4.out) hfn HF.out HPS.out
end Go.Proofs.Ytfeacmlnlljnnaa

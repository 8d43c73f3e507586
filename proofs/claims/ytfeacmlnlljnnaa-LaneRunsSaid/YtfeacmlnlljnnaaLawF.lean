/- Statements of layer 7: what LaneRuns holds on its way. -/
import Derived.Test.YtfeacmlnlljnnaaLawE
namespace Go.Proofs.Ytfeacmlnlljnnaa
open Go Go.Proofs Go.RowKit

/-- LaneRuns on its way, in memory: N the disk's object, N + 1 that of all records; deed's copy at block pk. -/
structure RunAt (c : Col) (w : World) (N Y d Z l pk : Nat) (dsv : Value) (ds : List Deed) (dd : Deed) (D : DiskM) (L : LaneM) (av : Value) (rs : List Rec) (c' : Col) (wx : World) : Prop where
  disk : DiskRep c' wx N d D
  lane : LaneRep c' wx Z l d L
  recs : Recs c' wx (N + 1) av rs
  deeds : Deeds c' wx Y dsv ds
  box : Blk c' wx pk (N + 1, 7) (deedCells dd)
  ext : Ext (Big N) c w c' wx

theorem RunAt.quiet {c : Col} {w : World} {N Y d Z l pk : Nat} {dsv : Value} {ds : List Deed} {dd : Deed} {D : DiskM} {L : LaneM} {av : Value} {rs : List Rec} {c' c2 : Col} {wx w2 : World} (h : RunAt c w N Y d Z l pk dsv ds dd D L av rs c' wx) (g : Ext (Obs []) c' wx c2 w2) :
    RunAt c w N Y d Z l pk dsv ds dd D L av rs c2 w2 :=
  ⟨h.disk.keep g (fun q h => by simp [Obs] at h), h.lane.keep g (fun q h => by simp [Obs] at h), h.recs.keep g (fun q h => by simp [Obs] at h), h.deeds.keep g (fun q h => by simp [Obs] at h), h.box.keep g (fun h => by simp [Obs] at h), h.ext.trans g.none⟩
/-- The disk is another one. -/
theorem RunAt.did {c : Col} {w : World} {N Y d Z l pk : Nat} {dsv : Value} {ds : List Deed} {dd : Deed} {D E : DiskM} {L : LaneM} {av : Value} {rs : List Rec} {c' c2 : Col} {wx w2 : World} (h : RunAt c w N Y d Z l pk dsv ds dd D L av rs c' wx) (hZ : N + 2 ≤ Z) (hY : Y < N)
    (hD : DiskRep c2 w2 N d E) (g : Ext (Obs [N]) c' wx c2 w2) : RunAt c w N Y d Z l pk dsv ds dd E L av rs c2 w2 :=
  ⟨hD, h.lane.keep g (fun q h => by simp [Obs] at h; omega), h.recs.keep g (fun q h => by simp [Obs] at h), h.deeds.keep g (fun q h => by simp [Obs] at h; omega), h.box.keep g (fun h => by simp [Obs] at h), h.ext.trans (g.ob (Nat.le_refl _))⟩
/-- The lane is another one. -/
theorem RunAt.lay {c : Col} {w : World} {N Y d Z l pk : Nat} {dsv : Value} {ds : List Deed} {dd : Deed} {D E : DiskM} {L M : LaneM} {av : Value} {rs : List Rec} {c' c2 : Col} {wx w2 : World} (h : RunAt c w N Y d Z l pk dsv ds dd D L av rs c' wx) (hZ : N + 2 ≤ Z) (hY : Y < N)
    (hD : DiskRep c2 w2 N d E) (hL : LaneRep c2 w2 Z l d M) (g : Ext (Obs [N, Z]) c' wx c2 w2) : RunAt c w N Y d Z l pk dsv ds dd E M av rs c2 w2 :=
  ⟨hD, hL, h.recs.keep g (fun q h => by simp [Obs] at h; omega), h.deeds.keep g (fun q h => by simp [Obs] at h; omega), h.box.keep g (fun h => by simp [Obs] at h; omega), h.ext.trans (g.mono (fun x e => by simp [Obs] at e; rcases e with e | e <;> (show N ≤ x.1; omega)))⟩
/-- Other records. -/
theorem RunAt.all {c : Col} {w : World} {N Y d Z l pk : Nat} {dsv : Value} {ds : List Deed} {dd : Deed} {D : DiskM} {L : LaneM} {av av2 : Value} {rs rs2 : List Rec} {c' : Col} {wx : World} (h : RunAt c w N Y d Z l pk dsv ds dd D L av rs c' wx) (hr : Recs c' wx (N + 1) av2 rs2) :
    RunAt c w N Y d Z l pk dsv ds dd D L av2 rs2 c' wx := ⟨h.disk, h.lane, hr, h.deeds, h.box, h.ext⟩
/-- Another lane, at another block. -/
theorem RunAt.lane2 {c : Col} {w : World} {N Y d Z l Z2 l2 pk : Nat} {dsv : Value} {ds : List Deed} {dd : Deed} {D : DiskM} {L L2 : LaneM} {av : Value} {rs : List Rec} {c' : Col} {wx : World} (h : RunAt c w N Y d Z l pk dsv ds dd D L av rs c' wx) (hr : LaneRep c' wx Z2 l2 d L2) :
    RunAt c w N Y d Z2 l2 pk dsv ds dd D L2 av rs c' wx := ⟨h.disk, hr, h.recs, h.deeds, h.box, h.ext⟩

structure RunOk (D : DiskM) (L : LaneM) (rs : List Rec) (k n : Nat) : Prop where
  inv : LaneInv D L rs k
  r : L.r = 0
  dn : D.n = 1
  size : D.size = 538
  gen : L.gen ≤ n + 1

/-- Behind a failure: what a crash may leave. -/
structure DownOk (D : DiskM) (L : LaneM) (rs : List Rec) (k n : Nat) (an : Bool) (os : List Rec) : Prop where
  b : L.b = encs rs
  ok : ∀ x ∈ rs, x.Ok
  wf : L.WF
  r : L.r = 0
  le : k ≤ rs.length
  gen1 : 1 ≤ L.gen
  gen : L.gen ≤ n + 1
  dn : D.n = 1
  size : D.size = 538
  waits : (D.waits 0).length ≤ 1000000
  ook : ∀ x ∈ os, x.Ok
  olen : (encs os).length ≤ 14336
  crash : ∀ m : Nat → Bool, Torn ((D.crash m).base 0) L.gen L.bank (encs rs) (encs (rs.take k)).length ∨ (an = true ∧ Torn ((D.crash m).base 0) (L.gen + 1) (1 - L.bank) (encs os) (encs os).length)

theorem and63i (t : Int) : Go.bits BinOp.and IntKind.i64 t 63 = t % 64 := by
  have e : IntKind.i64.bits = 64 := rfl
  have h2 : ((t % 18446744073709551616).toNat &&& 63) = (t % 18446744073709551616).toNat % 64 := Nat.and_two_pow_sub_one_eq_mod _ 6
  have h4 : IntKind.i64.wrap (((t % 18446744073709551616).toNat % 64 : Nat) : Int) = (((t % 18446744073709551616).toNat % 64 : Nat) : Int) := IntWalk.i64_in _ (by omega)
  simp [Go.bits, e]
  rw [h2, h4]
  omega

theorem and7i (t : Int) : Go.bits BinOp.and IntKind.i64 t 7 = t % 8 := by
  have e : IntKind.i64.bits = 64 := rfl
  have h2 : ((t % 18446744073709551616).toNat &&& 7) = (t % 18446744073709551616).toNat % 8 := Nat.and_two_pow_sub_one_eq_mod _ 3
  have h4 : IntKind.i64.wrap (((t % 18446744073709551616).toNat % 8 : Nat) : Int) = (((t % 18446744073709551616).toNat % 8 : Nat) : Int) := IntWalk.i64_in _ (by omega)
  simp [Go.bits, e]
  rw [h2, h4]
  omega

theorem RunOk.arm {D : DiskM} {L : LaneM} {rs : List Rec} {k n : Nat} (h : RunOk D L rs k n) (r : Nat) (x : Int) : RunOk (D.arm r x) L rs k n := ⟨h.inv.arm r x, h.r, h.dn, h.size, h.gen⟩

theorem dirt_ok {rs : List Rec} (h : ∀ x ∈ rs, x.Ok) : ∀ x ∈ rs, x.dirty.length ≤ 1000 := fun x hx => by
  rcases (h x hx).dirty with e | ⟨_, e⟩ <;> omega

theorem flush_waits {D : DiskM} {L : LaneM} (hb : L.b.length ≤ 14336) : ((flush D L).1.waits L.r).length ≤ (D.waits L.r).length + 256 := by
  have h := lay_n D L.r L.bank L.gen L.b (L.sure / 56)
  have hs : secs L.b ≤ 256 := by unfold secs; omega
  unfold flush
  split
  · show (D.waits L.r).length ≤ _
    omega
  · dsimp only
    split
    · have := h.2.2
      show (DiskM.waits (lay D L.r L.bank L.gen L.b (L.sure / 56)).1 L.r).length ≤ _
      omega
    · have := h.2.2
      show (DiskM.waits (lay D L.r L.bank L.gen L.b (L.sure / 56)).1 L.r).length ≤ _
      omega

theorem anewD_waits (D : DiskM) (r gen bank : Nat) (b : Bs) (hb : b.length ≤ 14336) : ((anewD D r gen bank b).1.waits r).length ≤ (D.waits r).length + 600 := by
  have hs : secs b ≤ 256 := by unfold secs; omega
  have h1 := (wipe_n D r (2 + bank * 256) 256).2.2
  have h2 := (lay_n (wipe D r (2 + bank * 256) 256).1 r bank gen b 0).2.2
  have h3 := wr_waits (lay (wipe D r (2 + bank * 256) 256).1 r bank gen b 0).1 r 1 (be 4 gen ++ be 1 bank)
  rw [anewD_eq rfl rfl rfl]
  split
  · omega
  · split
    · omega
    · split
      · omega
      · unfold DiskM.bar
        split
        · show (DiskM.waits (((lay (wipe D r (2 + bank * 256) 256).1 r bank gen b 0).1.wr r 1 (be 4 gen ++ be 1 bank)).1) r).length ≤ _
          omega
        · simp [DiskM.keep]

/-- A flush, as the statement sees it. -/
theorem RunOk.flushed {D : DiskM} {L : LaneM} {rs : List Rec} {k n : Nat} (h : RunOk D L rs k n) :
    ((flush D L).2.2 = 0 ∧ RunOk (flush D L).1 (flush D L).2.1 rs rs.length n) ∨
    ((flush D L).2.2 = 10 ∧ (flush D L).2.1 = L ∧ DownOk (flush D L).1 L rs k n false []) := by
  have hb := h.inv.wf.b
  have hw := flush_waits (D := D) hb
  have hr := h.r
  rcases h.inv.flushed with ⟨h0, h1, h2, h3, h4⟩ | ⟨h0, h1, h2, h3, h4⟩
  · left
    refine ⟨h0, h2, ?_, h3.n.trans h.dn, h3.size.trans h.size, ?_⟩
    · rw [h1]; exact hr
    · rw [h1]; exact h.gen
  · right
    refine ⟨h0, h1, h.inv.b, h.inv.ok, h.inv.wf, hr, h.inv.le, h.inv.gen, h.gen, h3.n.trans h.dn, h3.size.trans h.size, ?_, fun x hx => by simp at hx, by decide, fun m => ?_⟩
    · rw [h.inv.waits, hr] at hw
      simp only [List.length_nil] at hw
      omega
    · have := (h4 m).1
      rw [hr] at this
      exact .inl this

/-- A laying anew, as the statement sees it. -/
theorem RunOk.anewed {D : DiskM} {L : LaneM} {rs : List Rec} {k n : Nat} (h : RunOk D L rs k n) (hn : n ≤ 1000) (os : List Rec) (ho : ∀ x ∈ os, x.Ok) (hl : (encs os).length ≤ 14336) :
    ((anewD D L.r (L.gen + 1) (1 - L.bank) (encs os)).2 = 0 ∧ RunOk (anewD D L.r (L.gen + 1) (1 - L.bank) (encs os)).1 (anewL L (encs os)) os os.length (n + 1)) ∨
    ((anewD D L.r (L.gen + 1) (1 - L.bank) (encs os)).2 = 10 ∧ DownOk (anewD D L.r (L.gen + 1) (1 - L.bank) (encs os)).1 L rs k n true os) := by
  have hw := anewD_waits D L.r (L.gen + 1) (1 - L.bank) (encs os) hl
  have hr := h.r
  have hg := h.gen
  have ha := h.inv.anewed os ho hl (by omega)
  generalize anewD D L.r (L.gen + 1) (1 - L.bank) (encs os) = p at hw ha ⊢
  rcases ha with ⟨h0, h1, h2, h3⟩ | ⟨h0, h1, h2, h3⟩
  · refine .inl ⟨h0, h1, hr, h2.n.trans h.dn, h2.size.trans h.size, ?_⟩
    show L.gen + 1 ≤ n + 1 + 1
    omega
  · refine .inr ⟨h0, h.inv.b, h.inv.ok, h.inv.wf, hr, h.inv.le, h.inv.gen, hg, h2.n.trans h.dn, h2.size.trans h.size, ?_, ho, hl, fun m => ?_⟩
    · rw [h.inv.waits, hr] at hw
      simp only [List.length_nil] at hw
      omega
    · have := (h3 m).1
      rw [hr] at this
      rcases this with g | g
      · exact .inl g
      · exact .inr ⟨rfl, g⟩

theorem starts_take (gen n : Nat) (rs : List Rec) (j : Nat) (hj : j ≤ rs.length) : Starts (places gen n (rs.take j)) rs ∧ (places gen n (rs.take j)).length = j := by
  have hl : (places gen n (rs.take j)).length = j := by rw [places_len, List.length_take]; omega
  refine ⟨⟨by omega, ?_⟩, hl⟩
  rw [hl, places_snd]

theorem starts_eq {gen n : Nat} {got rs : List Rec} (h : Starts (places gen n got) rs) : got = rs.take got.length := by
  have := h.2
  rw [places_snd, places_len] at this
  exact this

theorem take_self (rs : List Rec) : rs.take rs.length = rs := List.take_of_length_le (Nat.le_refl _)

/-- Open behind a crash of a run that goes well. -/
theorem RunOk.open_ {D : DiskM} {L : LaneM} {rs : List Rec} {k n : Nat} (h : RunOk D L rs k n) (hn : n ≤ 1000) (m : Nat → Bool) :
    ∃ rest, OpenPre (D.crash m) 0 L.gen L.bank (rs.take k) rest ∧ (opn (D.crash m) 0 L.gen L.bank (encs (rs.take k)) rest).2 = 0 ∧
      RunOk (opn (D.crash m) 0 L.gen L.bank (encs (rs.take k)) rest).1 ⟨0, L.gen, L.bank, encs (rs.take k), (encs (rs.take k)).length⟩ (rs.take k) (rs.take k).length n := by
  have hl := h.inv.crash m
  rw [h.r] at hl
  have hlen : (encs (rs.take k)).length ≤ 14336 := by
    have h1 := encs_take_le rs k
    have h2 := h.inv.wf.b
    rw [h.inv.b] at h2
    omega
  obtain ⟨rest, h1, h2, h3, h4, h5⟩ := laid_pre (D := D.crash m) (r := 0) rfl rfl (fun x hx => h.inv.ok x (List.mem_of_mem_take hx)) hlen h.inv.gen h.inv.wf.gen h.inv.wf.bank (by omega) hl
  exact ⟨rest, h1, h2, h3, rfl, h4.n.trans h.dn, h4.size.trans h.size, h.gen⟩

/-- Open behind a crash behind a failure: the first ones of all, all that were sure among them; or wholly the others. -/
theorem DownOk.open_ {D : DiskM} {L : LaneM} {rs : List Rec} {k n : Nat} {an : Bool} {os : List Rec} (h : DownOk D L rs k n an os) (hn : n ≤ 1000) (m : Nat → Bool) :
    ∃ gen bank got rest, 1 ≤ gen ∧ gen < 4294967296 ∧ bank ≤ 1 ∧ OpenPre (D.crash m) 0 gen bank got rest ∧ (opn (D.crash m) 0 gen bank (encs got) rest).2 = 0 ∧
      RunOk (opn (D.crash m) 0 gen bank (encs got) rest).1 ⟨0, gen, bank, encs got, (encs got).length⟩ got got.length (n + 1) ∧
      ((∃ j, k ≤ j ∧ j ≤ rs.length ∧ got = rs.take j) ∨ (an = true ∧ got = os)) := by
  have hg := h.gen
  have hg1 := h.gen1
  have hbl := h.wf.b
  rw [h.b] at hbl
  rcases h.crash m with g | ⟨hx, g⟩
  · obtain ⟨j, rest, h1, h2, h3, h4, h5, h6, h7⟩ := torn_pre (D := D.crash m) (r := 0) rfl rfl h.ok hbl h.le h.gen1 h.wf.gen h.wf.bank (by omega) g
    have hlt : (rs.take j).length = j := by rw [List.length_take]; omega
    refine ⟨L.gen, L.bank, rs.take j, rest, hg1, h.wf.gen, h.wf.bank, h3, h4, ⟨by rw [hlt]; exact h5, rfl, h6.n.trans h.dn, h6.size.trans h.size, by show L.gen ≤ n + 1 + 1; omega⟩, .inl ⟨j, h1, h2, rfl⟩⟩
  · have g' : Torn ((D.crash m).base 0) (L.gen + 1) (1 - L.bank) (encs os) (encs (os.take os.length)).length := by rw [take_self]; exact g
    obtain ⟨j, rest, h1, h2, h3, h4, h5, h6, h7⟩ := torn_pre (D := D.crash m) (r := 0) rfl rfl h.ook h.olen (Nat.le_refl _) (by omega) (by omega) (by omega) (by omega) g'
    obtain rfl : j = os.length := by omega
    rw [take_self] at h3 h4 h5 h6 h7
    exact ⟨L.gen + 1, 1 - L.bank, os, rest, by omega, by omega, by omega, h3, h4, ⟨h5, rfl, h6.n.trans h.dn, h6.size.trans h.size, by show L.gen + 1 ≤ n + 1 + 1; omega⟩, .inr ⟨hx, rfl⟩⟩
theorem DownOk.arm {D : DiskM} {L : LaneM} {rs : List Rec} {k n : Nat} {an : Bool} {os : List Rec} (h : DownOk D L rs k n an os) (r : Nat) (x : Int) : DownOk (D.arm r x) L rs k n an os :=
  ⟨h.b, h.ok, h.wf, h.r, h.le, h.gen1, h.gen, h.dn, h.size, h.waits, h.ook, h.olen, h.crash⟩
end Go.Proofs.Ytfeacmlnlljnnaa
/- A lane through crashes, as plain data: Flush, Anew, Open. No walk in it. -/
import Derived.Test.YtfeacmlnlljnnaaLaneP
namespace Go.Proofs.Ytfeacmlnlljnnaa

theorem flush_ran {D : DiskM} {r gen bank : Nat} {b : Bs} {k : Nat} (hw : D.waits r = []) (hk : k ≤ b.length) (hb : b.length ≤ 14336) (h : Laid (D.base r) gen bank (b.take k)) :
    ((lay D r bank gen b (k / 56)).2 = 0 ∧ Frame r D (lay D r bank gen b (k / 56)).1 ∧ (lay D r bank gen b (k / 56)).1.waits r = [] ∧ Laid ((lay D r bank gen b (k / 56)).1.base r) gen bank b ∧ ∀ s, ¬ (2 + bank * 256 ≤ s ∧ s < 2 + bank * 256 + 256) → (lay D r bank gen b (k / 56)).1.base r s = D.base r s) ∨
    ((lay D r bank gen b (k / 56)).2 = 10 ∧ D.armed r = true ∧ Frame r D (lay D r bank gen b (k / 56)).1 ∧ ∀ m, Torn (((lay D r bank gen b (k / 56)).1.crash m).base r) gen bank b k ∧
      ∀ s, ¬ (2 + bank * 256 ≤ s ∧ s < 2 + bank * 256 + 256) → ((lay D r bank gen b (k / 56)).1.crash m).base r s = D.base r s) := by
  have hs : secs b ≤ 256 := by unfold secs; omega
  rcases lay_ran hw bank gen b (k / 56) with ⟨h0, g⟩ | ⟨h0, ha, g⟩
  · refine .inl ⟨h0, g.frame, g.waits, ⟨?_, fun s hs => ?_⟩, fun s hs => g.off s (by omega)⟩
    · rw [g.off 1 (by omega)]; exact h.head
    · have hz := h.secs s hs
      rw [List.length_take, Nat.min_eq_left hk] at hz
      by_cases hr : 2 + bank * 256 + k / 56 ≤ 2 + bank * 256 + s ∧ 2 + bank * 256 + s < 2 + bank * 256 + k / 56 + (secs b - k / 56)
      · rw [g.on _ hr]
        unfold newSec
        have hlt : s * 56 < b.length := by unfold secs at hr; omega
        rw [if_pos hlt, show 2 + bank * 256 + s - (2 + bank * 256) = s from by omega]
      · rw [g.off _ hr, hz]
        by_cases hlt : s < k / 56
        · rw [if_pos (by omega), if_pos (by omega), secB_full gen b k s (by omega)]
        · have : ¬ s * 56 < b.length := by unfold secs at hr; omega
          rw [if_neg this, if_neg (by omega)]
  · refine .inr ⟨h0, ha, g.frame, fun m => ⟨⟨?_, fun s hs => ?_⟩, fun s hs => ?_⟩⟩
    · rcases g.crash m 1 with e | ⟨e, _⟩
      · rw [e]; exact h.head
      · omega
    · have hz := h.secs s hs
      rw [List.length_take, Nat.min_eq_left hk] at hz
      rcases g.crash m (2 + bank * 256 + s) with e | ⟨e1, e2⟩
      · exact .inl (by rw [e, hz])
      · refine .inr ⟨by omega, by unfold secs at e1; omega, ?_⟩
        rw [e2]
        unfold newSec
        rw [show 2 + bank * 256 + s - (2 + bank * 256) = s from by omega]
    · rcases g.crash m s with e | ⟨e, _⟩
      · exact e
      · omega

def anewD (D : DiskM) (r gen bank : Nat) (b : Bs) : DiskM × Int :=
  thenD (wipe D r (2 + bank * 256) 256) fun E => thenD (lay E r bank gen b 0) fun G => thenD (G.wr r 1 (be 4 gen ++ be 1 bank)) fun H => H.bar r

theorem thenD_ok {p : DiskM × Int} (f : DiskM → DiskM × Int) (h : p.2 = 0) : thenD p f = f p.1 := by unfold thenD; rw [if_neg (by rw [h]; simp)]
theorem thenD_no {p : DiskM × Int} (f : DiskM → DiskM × Int) (h : p.2 = 10) : thenD p f = p := by unfold thenD; rw [if_pos (by rw [h]; simp)]

theorem anew_ran {D : DiskM} {r : Nat} (gen bank : Nat) (b : Bs) (hw : D.waits r = []) (hb : b.length ≤ 14336) :
    ((anewD D r gen bank b).2 = 0 ∧ Frame r D (anewD D r gen bank b).1 ∧ (anewD D r gen bank b).1.waits r = [] ∧ Laid ((anewD D r gen bank b).1.base r) gen bank b ∧
      ∀ s, s ≠ 1 → ¬ (2 + bank * 256 ≤ s ∧ s < 2 + bank * 256 + 256) → (anewD D r gen bank b).1.base r s = D.base r s) ∨
    ((anewD D r gen bank b).2 = 10 ∧ D.armed r = true ∧ Frame r D (anewD D r gen bank b).1 ∧ ∀ m,
      (∀ s, ¬ (2 + bank * 256 ≤ s ∧ s < 2 + bank * 256 + 256) → ((anewD D r gen bank b).1.crash m).base r s = D.base r s) ∨
      (Laid (((anewD D r gen bank b).1.crash m).base r) gen bank b ∧ ∀ s, s ≠ 1 → ¬ (2 + bank * 256 ≤ s ∧ s < 2 + bank * 256 + 256) → ((anewD D r gen bank b).1.crash m).base r s = D.base r s)) := by
  have hs : secs b ≤ 256 := by unfold secs; omega
  unfold anewD
  rcases wipe_ran hw (2 + bank * 256) 256 with ⟨h0, g⟩ | ⟨h0, ha, g⟩
  · rw [thenD_ok _ h0]
    generalize wipe D r (2 + bank * 256) 256 = p1 at h0 g ⊢
    rcases lay_ran g.waits bank gen b 0 with ⟨i0, k⟩ | ⟨i0, ia, k⟩
    · rw [thenD_ok _ i0]
      generalize lay p1.1 r bank gen b 0 = p2 at i0 k ⊢
      have hsec : ∀ s, s < 256 → p2.1.base r (2 + bank * 256 + s) = if s * 56 < b.length then pad (secB gen b s) else zeros 64 := fun s hs => by
        by_cases hr : 2 + bank * 256 + 0 ≤ 2 + bank * 256 + s ∧ 2 + bank * 256 + s < 2 + bank * 256 + 0 + (secs b - 0)
        · rw [k.on _ hr]
          have hlt : s * 56 < b.length := by unfold secs at hr; omega
          unfold newSec
          rw [if_pos hlt, show 2 + bank * 256 + s - (2 + bank * 256) = s from by omega]
        · have hlt : ¬ s * 56 < b.length := by unfold secs at hr; omega
          rw [k.off _ hr, if_neg hlt]
          exact g.on _ (by omega)
      have hoff : ∀ s, ¬ (2 + bank * 256 ≤ s ∧ s < 2 + bank * 256 + 256) → p2.1.base r s = D.base r s := fun s hs => by
        rw [k.off s (by omega), g.off s (by omega)]
      rcases one_ran k.waits 1 (be 4 gen ++ be 1 bank) with ⟨j0, l⟩ | ⟨j0, ja, l⟩
      · refine .inl ⟨j0, (g.frame.trans k.frame).trans l.frame, l.waits, ⟨l.on 1 rfl, fun s hs => ?_⟩, fun s h1 h2 => ?_⟩
        · rw [l.off _ (by omega)]; exact hsec s hs
        · rw [l.off _ h1]; exact hoff s h2
      · refine .inr ⟨j0, ?_, (g.frame.trans k.frame).trans l.frame, fun m => ?_⟩
        · rw [← g.frame.armed, ← k.frame.armed]; exact ja
        · have hne : ∀ s, s ≠ 1 → ((thenD (p2.1.wr r 1 (be 4 gen ++ be 1 bank)) fun H => H.bar r).1.crash m).base r s = p2.1.base r s := fun s h1 => by
            rcases l.crash m s with e | ⟨e, _⟩
            · exact e
            · exact absurd e h1
          rcases l.crash m 1 with e | ⟨_, e⟩
          · refine .inl (fun s h2 => ?_)
            by_cases h1 : s = 1
            · rw [h1, e]; exact hoff 1 (by omega)
            · rw [hne s h1]; exact hoff s h2
          · refine .inr ⟨⟨e, fun s hs => ?_⟩, fun s h1 h2 => ?_⟩
            · rw [hne _ (by omega)]; exact hsec s hs
            · rw [hne s h1]; exact hoff s h2
    · rw [thenD_no _ i0]
      refine .inr ⟨i0, by rw [← g.frame.armed]; exact ia, g.frame.trans k.frame, fun m => .inl (fun s hs => ?_)⟩
      rcases k.crash m s with e | ⟨e, _⟩
      · rw [e]; exact g.off s (by omega)
      · omega
  · rw [thenD_no _ h0]
    refine .inr ⟨h0, ha, g.frame, fun m => .inl (fun s hs => ?_)⟩
    rcases g.crash m s with e | ⟨e, _⟩
    · exact e
    · omega

/-- Open's own writes: b are its records' bytes, rest what stands behind them. -/
def opn (D : DiskM) (r gen bank : Nat) (b rest : Bs) : DiskM × Int :=
  thenD (wipe D r (2 + bank * 256 + secs b) (256 - secs b)) fun E => if rest ≠ [] ∧ b.length % 56 ≠ 0 then lay E r bank gen b (b.length / 56) else (E, 0)

theorem opn_ran {D : DiskM} {r gen bank : Nat} {b rest : Bs} (hw : D.waits r = []) (hb : b.length ≤ 14336) (hhead : D.base r 1 = pad (be 4 gen ++ be 1 bank))
    (hsec : ∀ s, s * 56 < (b ++ rest).length → D.base r (2 + bank * 256 + s) = pad (secB gen (b ++ rest) s)) :
    ((opn D r gen bank b rest).2 = 0 ∧ Frame r D (opn D r gen bank b rest).1 ∧ (opn D r gen bank b rest).1.waits r = [] ∧ Laid ((opn D r gen bank b rest).1.base r) gen bank b ∧
      ∀ s, ¬ (2 + bank * 256 ≤ s ∧ s < 2 + bank * 256 + 256) → (opn D r gen bank b rest).1.base r s = D.base r s) ∨
    ((opn D r gen bank b rest).2 = 10 ∧ D.armed r = true ∧ Frame r D (opn D r gen bank b rest).1 ∧ ∀ m s,
      ((opn D r gen bank b rest).1.crash m).base r s = D.base r s ∨ (2 + bank * 256 + secs b ≤ s ∧ s < 2 + bank * 256 + 256 ∧ ((opn D r gen bank b rest).1.crash m).base r s = zeros 64) ∨
      (s = 2 + bank * 256 + b.length / 56 ∧ b.length % 56 ≠ 0 ∧ ((opn D r gen bank b rest).1.crash m).base r s = pad (secB gen b (b.length / 56)))) := by
  have hs : secs b ≤ 256 := by unfold secs; omega
  have hfull : ∀ s, (s + 1) * 56 ≤ b.length → pad (secB gen (b ++ rest) s) = pad (secB gen b s) := fun s h => by
    have := secB_full gen (b ++ rest) b.length s h
    rw [List.take_left] at this
    rw [this]
  unfold opn
  rcases wipe_ran hw (2 + bank * 256 + secs b) (256 - secs b) with ⟨h0, g⟩ | ⟨h0, ha, g⟩
  · rw [thenD_ok _ h0]
    generalize wipe D r (2 + bank * 256 + secs b) (256 - secs b) = p1 at h0 g ⊢
    by_cases hc : rest ≠ [] ∧ b.length % 56 ≠ 0
    · rw [if_pos hc]
      have hsb : secs b - b.length / 56 = 1 := by unfold secs; omega
      rcases lay_ran g.waits bank gen b (b.length / 56) with ⟨i0, k⟩ | ⟨i0, ia, k⟩
      · rw [hsb] at k
        refine .inl ⟨i0, g.frame.trans k.frame, k.waits, ⟨?_, fun s hs => ?_⟩, fun s hs => ?_⟩
        · rw [k.off 1 (by omega), g.off 1 (by omega)]; exact hhead
        · by_cases e : s = b.length / 56
          · rw [k.on _ (by omega)]
            unfold newSec
            rw [if_pos (by omega), show 2 + bank * 256 + s - (2 + bank * 256) = s from by omega]
          · rw [k.off _ (by omega)]
            by_cases hlt : s < b.length / 56
            · rw [g.off _ (by unfold secs; omega), if_pos (by omega), hsec s (by rw [List.length_append]; omega), hfull s (by omega)]
            · rw [g.on _ (by unfold secs; omega), if_neg (by omega)]
        · rw [k.off s (by unfold secs at hsb; omega), g.off s (by omega)]
      · rw [hsb] at k
        refine .inr ⟨i0, by rw [← g.frame.armed]; exact ia, g.frame.trans k.frame, fun m s => ?_⟩
        rcases k.crash m s with e | ⟨e1, e2⟩
        · by_cases hr : 2 + bank * 256 + secs b ≤ s ∧ s < 2 + bank * 256 + secs b + (256 - secs b)
          · exact .inr (.inl ⟨hr.1, by omega, by rw [e]; exact g.on s hr⟩)
          · exact .inl (by rw [e]; exact g.off s hr)
        · have es : s = 2 + bank * 256 + b.length / 56 := by omega
          refine .inr (.inr ⟨es, hc.2, ?_⟩)
          rw [e2, es]
          unfold newSec
          rw [show 2 + bank * 256 + b.length / 56 - (2 + bank * 256) = b.length / 56 from by omega]
    · rw [if_neg hc]
      refine .inl ⟨rfl, g.frame, g.waits, ⟨?_, fun s hs => ?_⟩, fun s hs => g.off s (by omega)⟩
      · show p1.1.base r 1 = _
        rw [g.off 1 (by omega)]; exact hhead
      · show p1.1.base r (2 + bank * 256 + s) = _
        by_cases hlt : s * 56 < b.length
        · rw [g.off _ (by unfold secs; omega), if_pos hlt, hsec s (by rw [List.length_append]; omega)]
          by_cases hf : (s + 1) * 56 ≤ b.length
          · exact hfull s hf
          · have : rest = [] := by
              by_cases hr : rest = []
              · exact hr
              · exact absurd ⟨hr, by omega⟩ hc
            rw [this, List.append_nil]
        · rw [g.on _ (by unfold secs; omega), if_neg hlt]
  · rw [thenD_no _ h0]
    refine .inr ⟨h0, ha, g.frame, fun m s => ?_⟩
    rcases g.crash m s with e | ⟨e1, e2⟩
    · exact .inl e
    · exact .inr (.inl ⟨e1.1, by omega, e2⟩)

/-- A disk and a lane on it: nothing waits; of the records all the first k are sure. -/
structure LaneInv (D : DiskM) (L : LaneM) (all : List Rec) (k : Nat) : Prop where
  waits : D.waits L.r = []
  ok : ∀ x ∈ all, x.Ok
  b : L.b = encs all
  le : k ≤ all.length
  sure : L.sure = (encs (all.take k)).length
  laid : Laid (D.base L.r) L.gen L.bank (encs (all.take k))
  gen : 1 ≤ L.gen
  wf : L.WF

theorem encs_take (all : List Rec) (k : Nat) : (encs all).take (encs (all.take k)).length = encs (all.take k) := by
  conv => lhs; rw [← List.take_append_drop k all]
  rw [encs_app]
  simp

theorem encs_take_le (all : List Rec) (k : Nat) : (encs (all.take k)).length ≤ (encs all).length := by
  have := congrArg List.length (encs_take all k)
  rw [List.length_take] at this
  omega

theorem LaneInv.app {D : DiskM} {L : LaneM} {all : List Rec} {k : Nat} (h : LaneInv D L all k) (r : Rec) (hr : r.Ok) (hf : L.b.length + (encB r).length ≤ 14336) :
    append L r = ({ L with b := L.b ++ encB r }, placeN L.gen L.b.length, 0) ∧ LaneInv D (append L r).1 (all ++ [r]) k := by
  have e : append L r = ({ L with b := L.b ++ encB r }, placeN L.gen L.b.length, 0) := by unfold append; rw [if_pos hf]
  have hk := h.le
  have et : (all ++ [r]).take k = all.take k := List.take_append_of_le_length hk
  refine ⟨e, ?_⟩
  rw [e]
  refine ⟨h.waits, fun x hx => ?_, ?_, by simp; omega, by rw [et]; exact h.sure, by rw [et]; exact h.laid, h.gen, ⟨h.wf.r, h.wf.gen, h.wf.bank, ?_, ?_⟩⟩
  · rcases List.mem_append.1 hx with hx | hx
    · exact h.ok x hx
    · rw [List.mem_singleton] at hx; rw [hx]; exact hr
  · show L.b ++ encB r = _
    rw [encs_app, encs_one, h.b]
  · show (L.b ++ encB r).length ≤ 14336
    rw [List.length_append]; exact hf
  · show L.sure ≤ (L.b ++ encB r).length
    have := h.wf.sure
    rw [List.length_append]; omega

/-- What Flush does; and what a crash behind one that failed leaves. -/
theorem LaneInv.flushed {D : DiskM} {L : LaneM} {all : List Rec} {k : Nat} (h : LaneInv D L all k) :
    ((flush D L).2.2 = 0 ∧ (flush D L).2.1 = { L with sure := L.b.length } ∧ LaneInv (flush D L).1 (flush D L).2.1 all all.length ∧ Frame L.r D (flush D L).1 ∧
      ∀ s, ¬ (2 + L.bank * 256 ≤ s ∧ s < 2 + L.bank * 256 + 256) → (flush D L).1.base L.r s = D.base L.r s) ∨
    ((flush D L).2.2 = 10 ∧ (flush D L).2.1 = L ∧ D.armed L.r = true ∧ Frame L.r D (flush D L).1 ∧ ∀ m, Torn (((flush D L).1.crash m).base L.r) L.gen L.bank (encs all) (encs (all.take k)).length ∧
      ∀ s, ¬ (2 + L.bank * 256 ≤ s ∧ s < 2 + L.bank * 256 + 256) → ((flush D L).1.crash m).base L.r s = D.base L.r s) := by
  have hb := h.wf.b
  rw [h.b] at hb
  by_cases hs : L.sure = L.b.length
  · have e : flush D L = (D, L, 0) := by unfold flush; rw [if_pos hs]
    have e2 : { L with sure := L.b.length } = L := by rw [← hs]
    have ek : encs (all.take k) = encs all := by
      rw [← encs_take all k, ← h.sure, hs, h.b, List.take_of_length_le (Nat.le_refl _)]
    rw [e]
    refine .inl ⟨rfl, e2.symm, ⟨h.waits, h.ok, h.b, Nat.le_refl _, ?_, ?_, h.gen, h.wf⟩, Frame.refl _ _, fun _ _ => rfl⟩
    · rw [List.take_of_length_le (Nat.le_refl _), ← ek]; exact h.sure
    · rw [List.take_of_length_le (Nat.le_refl _), ← ek]; exact h.laid
  · have hl := h.laid
    rw [← encs_take all k] at hl
    have e : flush D L = (if (lay D L.r L.bank L.gen L.b (L.sure / 56)).2 = 0 then ((lay D L.r L.bank L.gen L.b (L.sure / 56)).1, { L with sure := L.b.length }, 0) else ((lay D L.r L.bank L.gen L.b (L.sure / 56)).1, L, (lay D L.r L.bank L.gen L.b (L.sure / 56)).2)) := by unfold flush; rw [if_neg hs]
    have hr := flush_ran h.waits (encs_take_le all k) hb hl
    rw [← h.sure, ← h.b] at hr
    rcases hr with ⟨h0, h1, h2, h3, h4⟩ | ⟨h0, h1, h2, h3⟩
    · rw [if_pos h0] at e
      rw [e]
      refine .inl ⟨rfl, rfl, ⟨h2, h.ok, h.b, Nat.le_refl _, ?_, ?_, h.gen, ⟨h.wf.r, h.wf.gen, h.wf.bank, h.wf.b, Nat.le_refl _⟩⟩, h1, h4⟩
      · show L.b.length = _
        rw [List.take_of_length_le (Nat.le_refl _), h.b]
      · rw [List.take_of_length_le (Nat.le_refl _), ← h.b]; exact h3
    · rw [if_neg (by rw [h0]; simp)] at e
      rw [e]
      refine .inr ⟨h0, rfl, h1, h2, fun m => ?_⟩
      rw [← h.b, ← h.sure]
      exact h3 m

/-- The lane that Anew makes. -/
def anewL (L : LaneM) (b : Bs) : LaneM := { L with gen := L.gen + 1, bank := 1 - L.bank, b := b, sure := b.length }
theorem anewL_wf {L : LaneM} (h : L.WF) (b : Bs) (hb : b.length ≤ 14336) (hg : L.gen + 1 < 4294967296) : (anewL L b).WF := by
  constructor
  · exact h.r
  · exact hg
  · exact Nat.sub_le _ _
  · exact hb
  · exact Nat.le_refl _

theorem LaneInv.anewed {D : DiskM} {L : LaneM} {all : List Rec} {k : Nat} (h : LaneInv D L all k) (some : List Rec) (ho : ∀ x ∈ some, x.Ok) (hl : (encs some).length ≤ 14336) (hg : L.gen + 1 < 4294967296) :
    ((anewD D L.r (L.gen + 1) (1 - L.bank) (encs some)).2 = 0 ∧ LaneInv (anewD D L.r (L.gen + 1) (1 - L.bank) (encs some)).1 (anewL L (encs some)) some some.length ∧ Frame L.r D (anewD D L.r (L.gen + 1) (1 - L.bank) (encs some)).1 ∧
      ∀ s, (s = 0 ∨ 514 ≤ s) → (anewD D L.r (L.gen + 1) (1 - L.bank) (encs some)).1.base L.r s = D.base L.r s) ∨
    ((anewD D L.r (L.gen + 1) (1 - L.bank) (encs some)).2 = 10 ∧ D.armed L.r = true ∧ Frame L.r D (anewD D L.r (L.gen + 1) (1 - L.bank) (encs some)).1 ∧ ∀ m,
      (Torn (((anewD D L.r (L.gen + 1) (1 - L.bank) (encs some)).1.crash m).base L.r) L.gen L.bank (encs all) (encs (all.take k)).length ∨
        Torn (((anewD D L.r (L.gen + 1) (1 - L.bank) (encs some)).1.crash m).base L.r) (L.gen + 1) (1 - L.bank) (encs some) (encs some).length) ∧
      ∀ s, (s = 0 ∨ 514 ≤ s) → ((anewD D L.r (L.gen + 1) (1 - L.bank) (encs some)).1.crash m).base L.r s = D.base L.r s) := by
  have hbk := h.wf.bank
  have hran := anew_ran (L.gen + 1) (1 - L.bank) (encs some) h.waits hl
  generalize anewD D L.r (L.gen + 1) (1 - L.bank) (encs some) = p at hran ⊢
  rcases hran with ⟨h0, h1, h2, h3, h4⟩ | ⟨h0, h1, h2, h3⟩
  · refine .inl ⟨h0, LaneInv.mk h2 ho rfl (Nat.le_refl _) ?_ ?_ ?_ (anewL_wf h.wf _ hl hg), h1, fun s hs => h4 s (by omega) (by omega)⟩
    · rw [List.take_of_length_le (Nat.le_refl _)]; rfl
    · rw [List.take_of_length_le (Nat.le_refl _)]; exact h3
    · show 1 ≤ L.gen + 1
      omega
  · refine .inr ⟨h0, h1, h2, fun m => ?_⟩
    rcases h3 m with g | ⟨g1, g2⟩
    · refine ⟨.inl (Laid.torn ?_ (encs_take_le all k)), fun s hs => g s (by omega)⟩
      rw [encs_take]
      refine ⟨?_, fun s hs => ?_⟩
      · rw [g 1 (by omega)]; exact h.laid.head
      · rw [g _ (by omega)]; exact h.laid.secs s hs
    · refine ⟨.inr (Laid.torn ?_ (Nat.le_refl _)), fun s hs => g2 s (by omega) (by omega)⟩
      rw [List.take_of_length_le (Nat.le_refl _)]
      exact g1

/-- What Open makes of a torn bank, where nothing waits. -/
theorem torn_open {D : DiskM} {r gen bank : Nat} {all : List Rec} {k : Nat} (hw : D.waits r = []) (ho : ∀ x ∈ all, x.Ok) (hl : (encs all).length ≤ 14336) (hk : k ≤ all.length) (hg1 : 1 ≤ gen) (hg : gen < 4294967296)
    (hbk : bank ≤ 1) (hr : r < 64) (h : Torn (D.base r) gen bank (encs all) (encs (all.take k)).length) :
    ∃ j rest, k ≤ j ∧ j ≤ all.length ∧ stream (fun s => D.base r (2 + bank * 256 + s)) gen = encs (all.take j) ++ rest ∧ Short rest ∧ rest.length ≤ 14336 ∧
      (((opn D r gen bank (encs (all.take j)) rest).2 = 0 ∧ LaneInv (opn D r gen bank (encs (all.take j)) rest).1 ⟨r, gen, bank, encs (all.take j), (encs (all.take j)).length⟩ (all.take j) j ∧ Frame r D (opn D r gen bank (encs (all.take j)) rest).1 ∧
        ∀ s, ¬ (2 + bank * 256 ≤ s ∧ s < 2 + bank * 256 + 256) → (opn D r gen bank (encs (all.take j)) rest).1.base r s = D.base r s) ∨
      ((opn D r gen bank (encs (all.take j)) rest).2 = 10 ∧ D.armed r = true)) := by
  obtain ⟨m, h1, h2, h3, h4⟩ := torn_stream h (encs_take_le all k) hl hg1 hg
  obtain ⟨j, rest, g1, g2, g3, g4⟩ := take_encs all ho m
  have hj := g4 k hk h2
  have hlen : (encs (all.take j)).length + rest.length = m := by
    have := congrArg List.length g2
    rw [List.length_append, List.length_take] at this
    omega
  refine ⟨j, rest, hj, g1, by rw [h1, g2], g3, by omega, ?_⟩
  rw [g2] at h4
  rcases opn_ran (b := encs (all.take j)) (rest := rest) hw (by omega) h.head (fun s hs => h4 s (by rw [List.length_append] at hs; omega)) with ⟨i0, i1, i2, i3, i4⟩ | ⟨i0, i1, _⟩
  · refine .inl ⟨i0, ⟨i2, fun x hx => ho x (List.mem_of_mem_take hx), rfl, by simp; omega, ?_, ?_, hg1, ⟨hr, hg, hbk, ?_, Nat.le_refl _⟩⟩, i1, i4⟩
    · show (encs (all.take j)).length = _
      rw [List.take_take, Nat.min_self]
    · rw [List.take_take, Nat.min_self]; exact i3
    · show (encs (all.take j)).length ≤ 14336
      omega
  · exact .inr ⟨i0, i1⟩

theorem head_nums (base : Nat → Bs) (gen bank : Nat) (hg : gen < 4294967296) (hb : bank ≤ 1) (h : base 1 = pad (be 4 gen ++ be 1 bank)) :
    rNum 4 (base 1, false) = (gen, (base 1).drop 4, false) ∧ rNum 1 ((base 1).drop 4, false) = (bank, (base 1).drop 5, false) := by
  have h4 : (be 4 gen).length = 4 := be_len _ _
  have h1 : (be 1 bank).length = 1 := be_len _ _
  have hlen : (base 1).length = 64 := by rw [h]; exact pad_len _ (by rw [List.length_append]; omega)
  have e : base 1 = be 4 gen ++ (be 1 bank ++ zeros (64 - (be 4 gen ++ be 1 bank).length)) := by rw [h]; unfold pad; simp only [List.append_assoc]
  have e4 : (base 1).drop 4 = be 1 bank ++ zeros (64 - (be 4 gen ++ be 1 bank).length) := by rw [e]; exact List.drop_left' h4
  constructor
  · rw [e4]
    conv => lhs; rw [e]
    exact rNum_be 4 gen (by simpa using hg) _
  · have e5 : (base 1).drop 5 = zeros (64 - (be 4 gen ++ be 1 bank).length) := by
      rw [show (5 : Nat) = 4 + 1 from rfl, ← List.drop_drop, e4]; exact List.drop_left' h1
    rw [e4, e5]
    exact rNum_be 1 bank (by simp; omega) _

end Go.Proofs.Ytfeacmlnlljnnaa

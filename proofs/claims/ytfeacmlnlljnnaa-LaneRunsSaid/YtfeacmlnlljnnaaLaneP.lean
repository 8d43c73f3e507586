/- A lane through crashes, as plain data: what waits, what a crash leaves, what is read again. No walk in it. -/
import Derived.Test.YtfeacmlnlljnnaaLaneF
namespace Go.Proofs.Ytfeacmlnlljnnaa

def encs (rs : List Rec) : Bs := rs.flatMap encB
theorem encs_app (a b : List Rec) : encs (a ++ b) = encs a ++ encs b := by simp [encs]
theorem encs_one (r : Rec) : encs [r] = encB r := by simp [encs]
theorem encs_nil : encs [] = [] := rfl
theorem encs_cons (r : Rec) (l : List Rec) : encs (r :: l) = encB r ++ encs l := by simp [encs]

def thenD (p : DiskM × Int) (f : DiskM → DiskM × Int) : DiskM × Int := if p.2 ≠ 0 then p else f p.1

/-- All but region r is the same. -/
structure Frame (r : Nat) (D E : DiskM) : Prop where
  n : E.n = D.n
  size : E.size = D.size
  armed : E.armed = D.armed
  base : ∀ q, q ≠ r → E.base q = D.base q
  waits : ∀ q, q ≠ r → E.waits q = D.waits q
  left : ∀ q, q ≠ r → E.left q = D.left q

theorem Frame.refl (r : Nat) (D : DiskM) : Frame r D D := ⟨rfl, rfl, rfl, fun _ _ => rfl, fun _ _ => rfl, fun _ _ => rfl⟩
theorem Frame.trans {r : Nat} {D E G : DiskM} (h : Frame r D E) (g : Frame r E G) : Frame r D G :=
  ⟨g.n.trans h.n, g.size.trans h.size, g.armed.trans h.armed, fun q hq => (g.base q hq).trans (h.base q hq), fun q hq => (g.waits q hq).trans (h.waits q hq), fun q hq => (g.left q hq).trans (h.left q hq)⟩

theorem frame_push (D : DiskM) (r s : Nat) (b : Bs) : Frame r D (D.push r s b) := by
  refine ⟨rfl, rfl, rfl, fun _ _ => rfl, fun q hq => ?_, fun q hq => ?_⟩
  · simp [DiskM.push, upd, hq]
  · simp only [DiskM.push]; split
    · simp [upd, hq]
    · rfl
theorem frame_wr (D : DiskM) (r s : Nat) (b : Bs) : Frame r D (D.wr r s b).1 := by
  unfold DiskM.wr; split
  · exact Frame.refl _ _
  · exact frame_push _ _ _ _
theorem frame_keep (D : DiskM) (r : Nat) (m : Nat → Bool) : Frame r D (D.keep r m) := by
  refine ⟨rfl, rfl, rfl, fun q hq => ?_, fun q hq => ?_, fun _ _ => rfl⟩ <;> simp [DiskM.keep, upd, hq]
theorem frame_bar (D : DiskM) (r : Nat) : Frame r D (D.bar r).1 := by
  unfold DiskM.bar; split
  · exact Frame.refl _ _
  · exact frame_keep _ _ _

theorem read_push (D : DiskM) (r s t : Nat) (b : Bs) : (D.push r s b).read r t = if s = t then pad b else D.read r t := by
  simp [DiskM.read, DiskM.push, look_snoc]

/-- From D on so far writes in r wait, all of them to sectors P, each as `new` says. -/
structure Pend (r : Nat) (P : Nat → Prop) (new : Nat → Bs) (D E : DiskM) : Prop where
  frame : Frame r D E
  base : E.base r = D.base r
  w : ∀ p ∈ E.waits r, P p.1 ∧ p.2 = new p.1

theorem Pend.refl {r : Nat} {P : Nat → Prop} {new : Nat → Bs} {D : DiskM} (h : D.waits r = []) : Pend r P new D D := ⟨Frame.refl _ _, rfl, by rw [h]; simp⟩
theorem Pend.mono {r : Nat} {P Q : Nat → Prop} {new : Nat → Bs} {D E : DiskM} (h : Pend r P new D E) (g : ∀ s, P s → Q s) : Pend r Q new D E := ⟨h.frame, h.base, fun p hp => ⟨g _ (h.w p hp).1, (h.w p hp).2⟩⟩
theorem Pend.wr {r : Nat} {P : Nat → Prop} {new : Nat → Bs} {D E : DiskM} (h : Pend r P new D E) {s : Nat} {b : Bs} (hs : P s) (hb : pad b = new s) : Pend r P new D (E.wr r s b).1 := by
  refine ⟨h.frame.trans (frame_wr _ _ _ _), ?_, ?_⟩
  · unfold DiskM.wr; split
    · exact h.base
    · exact h.base
  · unfold DiskM.wr; split
    · exact h.w
    · intro p hp
      simp only [DiskM.push, upd_same, List.mem_append, List.mem_singleton] at hp
      rcases hp with hp | rfl
      · exact h.w p hp
      · exact ⟨hs, hb⟩

theorem look_mix (new : Nat → Bs) (P : Nat → Prop) : ∀ (l : List (Nat × Bs)) (s : Nat) (x : Bs), (∀ p ∈ l, P p.1 ∧ p.2 = new p.1) → look l s x = x ∨ (P s ∧ look l s x = new s)
  | [], _, _, _ => .inl rfl
  | p :: l, s, x, h => by
    have ih := look_mix new P l s (if p.1 = s then p.2 else x) (fun q hq => h q (List.mem_cons_of_mem _ hq))
    simp only [look]
    by_cases e : p.1 = s
    · obtain ⟨h1, h2⟩ := h p List.mem_cons_self
      rw [if_pos e] at ih ⊢
      rw [e] at h1 h2
      rcases ih with ih | ih
      · exact .inr ⟨h1, by rw [ih, h2]⟩
      · exact .inr ih
    · rw [if_neg e] at ih ⊢
      exact ih

theorem Pend.crash {r : Nat} {P : Nat → Prop} {new : Nat → Bs} {D E : DiskM} (h : Pend r P new D E) (m : Nat → Bool) (s : Nat) : (E.crash m).base r s = D.base r s ∨ (P s ∧ (E.crash m).base r s = new s) := by
  have := look_mix new P (kept m 0 (E.waits r)) s (E.base r s) (fun p hp => h.w p (mem_kept hp))
  rw [← h.base]
  exact this
theorem Pend.read {r : Nat} {P : Nat → Prop} {new : Nat → Bs} {D E : DiskM} (h : Pend r P new D E) (s : Nat) : E.read r s = D.base r s ∨ (P s ∧ E.read r s = new s) := by
  have := look_mix new P (E.waits r) s (E.base r s) h.w
  rw [← h.base]
  exact this

/-- What a run of writes and a barrier behind them come to. -/
structure RanOk (r : Nat) (P : Nat → Prop) (new : Nat → Bs) (D E : DiskM) : Prop where
  frame : Frame r D E
  waits : E.waits r = []
  on : ∀ s, P s → E.base r s = new s
  off : ∀ s, ¬ P s → E.base r s = D.base r s
def Ran (r : Nat) (P : Nat → Prop) (new : Nat → Bs) (D : DiskM) (p : DiskM × Int) : Prop :=
  (p.2 = 0 ∧ RanOk r P new D p.1) ∨ (p.2 = 10 ∧ D.armed r = true ∧ Pend r P new D p.1)

theorem down_armed {D : DiskM} {r : Nat} (h : D.down r = true) : D.armed r = true := by
  simp [DiskM.down] at h; exact h.1

theorem Ran.bar {r : Nat} {P : Nat → Prop} {new : Nat → Bs} {D E : DiskM} (h : Pend r P new D E) (hd : ∀ s, P s → E.read r s = new s) : Ran r P new D (E.bar r) := by
  unfold DiskM.bar
  split
  · rename_i hdn
    exact .inr ⟨rfl, by rw [← h.frame.armed]; exact down_armed hdn, h⟩
  · refine .inl ⟨rfl, h.frame.trans (frame_keep _ _ _), by simp [DiskM.keep], fun s hs => ?_, fun s hs => ?_⟩
    · simp only [DiskM.keep, upd_same, kept_all]
      exact hd s hs
    · simp only [DiskM.keep, upd_same, kept_all]
      rcases h.read s with g | g
      · exact g
      · exact absurd g.1 hs

theorem wr_cases (D : DiskM) (r s : Nat) (b : Bs) : D.wr r s b = (D.push r s b, 0) ∨ (D.wr r s b = (D, 10) ∧ D.armed r = true) := by
  unfold DiskM.wr; split
  · rename_i h; exact .inr ⟨rfl, down_armed h⟩
  · exact .inl rfl

theorem wipeN_pend {D : DiskM} {r : Nat} (h : D.waits r = []) (a : Nat) : ∀ k, Pend r (fun s => a ≤ s ∧ s < a + k) (fun _ => zeros 64) D (wipeN D r a k).1 ∧
    (((wipeN D r a k).2 = 0 ∧ ∀ s, a ≤ s ∧ s < a + k → (wipeN D r a k).1.read r s = zeros 64) ∨ ((wipeN D r a k).2 = 10 ∧ D.armed r = true))
  | 0 => ⟨Pend.refl h, .inl ⟨rfl, fun s hs => by omega⟩⟩
  | k + 1 => by
    obtain ⟨h1, h2⟩ := wipeN_pend h a k
    have hm := h1.mono (Q := fun s => a ≤ s ∧ s < a + (k + 1)) (fun s hs => by omega)
    unfold wipeN
    rcases h2 with ⟨h2, h3⟩ | ⟨h2, h3⟩
    · rw [if_neg (by rw [h2]; simp)]
      by_cases hz : (wipeN D r a k).1.read r (a + k) = zeros 64
      · rw [if_pos hz]
        refine ⟨hm, .inl ⟨h2, fun s hs => ?_⟩⟩
        by_cases e : s = a + k
        · rw [e]; exact hz
        · exact h3 s (by omega)
      · rw [if_neg hz]
        refine ⟨hm.wr (by omega) (by simp [pad, zeros]), ?_⟩
        rcases wr_cases (wipeN D r a k).1 r (a + k) [] with g | ⟨g, g2⟩
        · rw [g]
          refine .inl ⟨rfl, fun s hs => ?_⟩
          show ((wipeN D r a k).1.push r (a + k) []).read r s = zeros 64
          rw [read_push]
          by_cases e : a + k = s
          · rw [if_pos e]; simp [pad, zeros]
          · rw [if_neg e]; exact h3 s (by omega)
        · rw [g]
          exact .inr ⟨rfl, by rw [← h1.frame.armed]; exact g2⟩
    · rw [if_pos (by rw [h2]; simp)]
      exact ⟨hm, .inr ⟨h2, h3⟩⟩

theorem wipe_ran {D : DiskM} {r : Nat} (h : D.waits r = []) (a n : Nat) : Ran r (fun s => a ≤ s ∧ s < a + n) (fun _ => zeros 64) D (wipe D r a n) := by
  obtain ⟨h1, h2⟩ := wipeN_pend h a n
  unfold wipe
  rcases h2 with ⟨h2, h3⟩ | ⟨h2, h3⟩
  · rw [if_neg (by rw [h2]; simp)]
    exact Ran.bar h1 h3
  · rw [if_pos (by rw [h2]; simp)]
    exact .inr ⟨h2, h3, h1⟩

/-- The sectors of a bank that lay lays. -/
def newSec (bank gen : Nat) (b : Bs) (s : Nat) : Bs := pad (secB gen b (s - (2 + bank * 256)))

theorem layN_pend {D : DiskM} {r : Nat} (h : D.waits r = []) (bank gen : Nat) (b : Bs) (s0 : Nat) : ∀ k, Pend r (fun s => 2 + bank * 256 + s0 ≤ s ∧ s < 2 + bank * 256 + s0 + k) (newSec bank gen b) D (layN D r bank gen b s0 k).1 ∧
    (((layN D r bank gen b s0 k).2 = 0 ∧ ∀ s, 2 + bank * 256 + s0 ≤ s ∧ s < 2 + bank * 256 + s0 + k → (layN D r bank gen b s0 k).1.read r s = newSec bank gen b s) ∨ ((layN D r bank gen b s0 k).2 = 10 ∧ D.armed r = true))
  | 0 => ⟨Pend.refl h, .inl ⟨rfl, fun s hs => by omega⟩⟩
  | k + 1 => by
    obtain ⟨h1, h2⟩ := layN_pend h bank gen b s0 k
    have hm := h1.mono (Q := fun s => 2 + bank * 256 + s0 ≤ s ∧ s < 2 + bank * 256 + s0 + (k + 1)) (fun s hs => by omega)
    have hn : pad (secB gen b (s0 + k)) = newSec bank gen b (2 + bank * 256 + (s0 + k)) := by
      unfold newSec; rw [show 2 + bank * 256 + (s0 + k) - (2 + bank * 256) = s0 + k from by omega]
    unfold layN
    rcases h2 with ⟨h2, h3⟩ | ⟨h2, h3⟩
    · rw [if_neg (by rw [h2]; simp)]
      refine ⟨hm.wr (by omega) hn, ?_⟩
      rcases wr_cases (layN D r bank gen b s0 k).1 r (2 + bank * 256 + (s0 + k)) (secB gen b (s0 + k)) with g | ⟨g, g2⟩
      · rw [g]
        refine .inl ⟨rfl, fun s hs => ?_⟩
        show ((layN D r bank gen b s0 k).1.push r (2 + bank * 256 + (s0 + k)) (secB gen b (s0 + k))).read r s = newSec bank gen b s
        rw [read_push]
        by_cases e : 2 + bank * 256 + (s0 + k) = s
        · rw [if_pos e, hn, e]
        · rw [if_neg e]; exact h3 s (by omega)
      · rw [g]
        exact .inr ⟨rfl, by rw [← h1.frame.armed]; exact g2⟩
    · rw [if_pos (by rw [h2]; simp)]
      exact ⟨hm, .inr ⟨h2, h3⟩⟩

theorem lay_ran {D : DiskM} {r : Nat} (h : D.waits r = []) (bank gen : Nat) (b : Bs) (s0 : Nat) :
    Ran r (fun s => 2 + bank * 256 + s0 ≤ s ∧ s < 2 + bank * 256 + s0 + (secs b - s0)) (newSec bank gen b) D (lay D r bank gen b s0) := by
  obtain ⟨h1, h2⟩ := layN_pend h bank gen b s0 (secs b - s0)
  unfold lay
  rcases h2 with ⟨h2, h3⟩ | ⟨h2, h3⟩
  · rw [if_neg (by rw [h2]; simp)]
    exact Ran.bar h1 h3
  · rw [if_pos (by rw [h2]; simp)]
    exact .inr ⟨h2, h3, h1⟩

theorem one_ran {D : DiskM} {r : Nat} (h : D.waits r = []) (s : Nat) (b : Bs) : Ran r (fun t => t = s) (fun _ => pad b) D (thenD (D.wr r s b) (fun E => E.bar r)) := by
  have h1 := (Pend.refl (P := fun t => t = s) (new := fun _ => pad b) h).wr (s := s) (b := b) rfl rfl
  unfold thenD
  rcases wr_cases D r s b with g | ⟨g, g2⟩
  · rw [g] at h1 ⊢
    rw [if_neg (by simp)]
    refine Ran.bar h1 (fun t ht => ?_)
    show (D.push r s b).read r t = _
    rw [read_push, if_pos ht.symm]
  · rw [g] at h1 ⊢
    rw [if_pos (by simp)]
    exact .inr ⟨rfl, g2, h1⟩

/- ---- what a bank's sectors say ---- -/
theorem partB_len (b : Bs) (s : Nat) : (partB b s).length = min 56 (b.length - s * 56) := by unfold partB; rw [List.length_take, List.length_drop]
theorem secB_facts (gen : Nat) (hg : gen < 4294967296) (b : Bs) (s : Nat) : (pad (secB gen b s)).length = 64 ∧ sGen (pad (secB gen b s)) = gen ∧ sLen (pad (secB gen b s)) = (partB b s).length ∧ sPart (pad (secB gen b s)) = partB b s := by
  have hp := partB_len b s
  have h4 : (be 4 gen).length = 4 := be_len _ _
  have h1 : (be 1 (partB b s).length).length = 1 := be_len _ _
  obtain ⟨T, hT⟩ : ∃ T, T = partB b s ++ zeros (64 - (secB gen b s).length) := ⟨_, rfl⟩
  have e : pad (secB gen b s) = be 4 gen ++ (be 1 (partB b s).length ++ ([0, 0, 0] ++ T)) := by
    rw [hT]; unfold pad secB; simp only [List.append_assoc]
  have hl : (secB gen b s).length = 8 + (partB b s).length := by simp only [secB, List.length_append, h4, h1, List.length_cons, List.length_nil]
  have hlen : sLen (pad (secB gen b s)) = (partB b s).length := by
    unfold sLen
    rw [e, List.drop_append, h4, Nat.sub_self, List.drop_eq_nil_of_le (by omega), List.drop_zero, List.nil_append, List.take_append, h1, Nat.sub_self, List.take_zero, List.append_nil, List.take_of_length_le (by omega), val_be]
    have : (partB b s).length % 256 ^ 1 = (partB b s).length := Nat.mod_eq_of_lt (by omega)
    omega
  refine ⟨pad_len _ (by omega), ?_, hlen, ?_⟩
  · unfold sGen
    rw [e, List.take_append, h4, Nat.sub_self, List.take_zero, List.append_nil, List.take_of_length_le (by omega), val_be]
    exact Nat.mod_eq_of_lt (by simpa using hg)
  · unfold sPart
    rw [hlen, e]
    have : (be 4 gen ++ (be 1 (partB b s).length ++ ([0, 0, 0] ++ T))).drop 8 = T := by
      rw [← List.append_assoc, ← List.append_assoc]
      exact List.drop_left' (by simp [h4, h1])
    rw [this, hT]
    exact List.take_left

theorem zero_gen : sGen (zeros 64) = 0 := by decide

/-- A bank as a crash may leave it: of the bytes b the first k were sure. -/
structure Torn (base : Nat → Bs) (gen bank : Nat) (b : Bs) (k : Nat) : Prop where
  head : base 1 = pad (be 4 gen ++ be 1 bank)
  secs : ∀ s, s < 256 → (base (2 + bank * 256 + s) = if s * 56 < k then pad (secB gen (b.take k) s) else zeros 64) ∨ (k / 56 ≤ s ∧ s * 56 < b.length ∧ base (2 + bank * 256 + s) = pad (secB gen b s))
/-- A bank that has just these bytes. -/
structure Laid (base : Nat → Bs) (gen bank : Nat) (b : Bs) : Prop where
  head : base 1 = pad (be 4 gen ++ be 1 bank)
  secs : ∀ s, s < 256 → base (2 + bank * 256 + s) = if s * 56 < b.length then pad (secB gen b s) else zeros 64

theorem Laid.torn {base : Nat → Bs} {gen bank : Nat} {b : Bs} {k : Nat} (h : Laid base gen bank (b.take k)) (hk : k ≤ b.length) : Torn base gen bank b k := by
  refine ⟨h.head, fun s hs => .inl ?_⟩
  rw [h.secs s hs, List.length_take, Nat.min_eq_left hk]

theorem partB_full (b : Bs) (k s : Nat) (h : (s + 1) * 56 ≤ k) : partB (b.take k) s = partB b s := by
  unfold partB
  rw [List.drop_take, List.take_take, Nat.min_eq_left (by omega)]
theorem partB_end (b : Bs) (s : Nat) (h : b.length ≤ (s + 1) * 56) : partB b s = b.drop (s * 56) := by
  unfold partB
  exact List.take_of_length_le (by rw [List.length_drop]; omega)
theorem secB_full (gen : Nat) (b : Bs) (k s : Nat) (h : (s + 1) * 56 ≤ k) : secB gen (b.take k) s = secB gen b s := by
  unfold secB; rw [partB_full b k s h]
theorem take_part (b : Bs) (s : Nat) : b.take (s * 56) ++ partB b s = b.take ((s + 1) * 56) := by
  unfold partB
  rw [show (s + 1) * 56 = s * 56 + 56 from by omega, List.take_add]

theorem torn_streamN {base : Nat → Bs} {gen bank : Nat} {b : Bs} {k : Nat} (h : Torn base gen bank b k) (hk : k ≤ b.length) (hb : b.length ≤ 14336) (hg1 : 1 ≤ gen) (hg : gen < 4294967296) :
    ∀ n, n ≤ 256 → (streamN (fun s => base (2 + bank * 256 + s)) gen n = (b.take (n * 56), false) ∧ n * 56 ≤ b.length ∧ ∀ s, s < n → base (2 + bank * 256 + s) = pad (secB gen b s)) ∨
      ((streamN (fun s => base (2 + bank * 256 + s)) gen n).2 = true ∧ ∃ m, (streamN (fun s => base (2 + bank * 256 + s)) gen n).1 = b.take m ∧ k ≤ m ∧ m ≤ b.length ∧ ∀ s, s * 56 < m → base (2 + bank * 256 + s) = pad (secB gen (b.take m) s))
  | 0, _ => .inl ⟨rfl, by omega, fun s hs => by omega⟩
  | n + 1, hn => by
    rcases torn_streamN h hk hb hg1 hg n (by omega) with ⟨h1, h2, h3⟩ | ⟨h1, m, h2, h3, h4, h5⟩
    · have hstep : streamN (fun s => base (2 + bank * 256 + s)) gen (n + 1) = if sGen (base (2 + bank * 256 + n)) = gen then (b.take (n * 56) ++ sPart (base (2 + bank * 256 + n)), decide (sLen (base (2 + bank * 256 + n)) < 56)) else (b.take (n * 56), true) := by
        rw [streamN, h1]; simp
      have full : ∀ s, (s + 1) * 56 ≤ n * 56 → s < n := fun s hs => by omega
      rcases h.secs n (by omega) with g | ⟨g1, g2, g3⟩
      · by_cases hlt : n * 56 < k
        · rw [if_pos hlt] at g
          obtain ⟨f1, f2, f3, f4⟩ := secB_facts gen hg (b.take k) n
          have hpl := partB_len (b.take k) n
          rw [List.length_take, Nat.min_eq_left hk] at hpl
          rw [hstep, g, f2, if_pos rfl, f3, f4]
          by_cases hf : (n + 1) * 56 ≤ k
          · left
            refine ⟨?_, by omega, fun s hs => ?_⟩
            · rw [partB_full b k n hf, take_part]
              have e : (partB b n).length = 56 := by rw [partB_len]; omega
              rw [e]; simp
            · by_cases e : s = n
              · rw [e, g, secB_full gen b k n hf]
              · exact h3 s (by omega)
          · right
            refine ⟨by simp; omega, k, ?_, Nat.le_refl _, hk, fun s hs => ?_⟩
            · show b.take (n * 56) ++ partB (b.take k) n = b.take k
              have e1 : b.take (n * 56) = (b.take k).take (n * 56) := by rw [List.take_take, Nat.min_eq_left (by omega)]
              rw [e1, take_part]
              exact List.take_of_length_le (by rw [List.length_take]; omega)
            · by_cases e : s = n
              · rw [e]; exact g
              · rw [secB_full gen b k s (by omega)]; exact h3 s (by omega)
        · rw [if_neg hlt] at g
          right
          rw [hstep, g, zero_gen, if_neg (by omega)]
          refine ⟨rfl, n * 56, rfl, by omega, h2, fun s hs => ?_⟩
          rw [secB_full gen b (n * 56) s (by omega)]
          exact h3 s (by omega)
      · obtain ⟨f1, f2, f3, f4⟩ := secB_facts gen hg b n
        have hpl := partB_len b n
        rw [hstep, g3, f2, if_pos rfl, f3, f4]
        by_cases hf : (n + 1) * 56 ≤ b.length
        · left
          refine ⟨?_, hf, fun s hs => ?_⟩
          · rw [take_part]
            have e : (partB b n).length = 56 := by omega
            rw [e]; simp
          · by_cases e : s = n
            · rw [e, g3]
            · exact h3 s (by omega)
        · right
          refine ⟨by simp; omega, b.length, ?_, hk, Nat.le_refl _, fun s hs => ?_⟩
          · show b.take (n * 56) ++ partB b n = b.take b.length
            rw [take_part, List.take_of_length_le (by omega), List.take_of_length_le (Nat.le_refl _)]
          · rw [List.take_of_length_le (Nat.le_refl _)]
            by_cases e : s = n
            · rw [e, g3]
            · exact h3 s (by omega)
    · right
      have e : streamN (fun s => base (2 + bank * 256 + s)) gen (n + 1) = streamN (fun s => base (2 + bank * 256 + s)) gen n := streamN_stop _ _ n (n + 1) (by omega) h1
      rw [e]
      exact ⟨h1, m, h2, h3, h4, h5⟩

/-- What is read of a torn bank: the first m bytes, all that were sure among them; and its sectors have just these up to there. -/
theorem torn_stream {base : Nat → Bs} {gen bank : Nat} {b : Bs} {k : Nat} (h : Torn base gen bank b k) (hk : k ≤ b.length) (hb : b.length ≤ 14336) (hg1 : 1 ≤ gen) (hg : gen < 4294967296) :
    ∃ m, stream (fun s => base (2 + bank * 256 + s)) gen = b.take m ∧ k ≤ m ∧ m ≤ b.length ∧ ∀ s, s * 56 < m → base (2 + bank * 256 + s) = pad (secB gen (b.take m) s) := by
  unfold stream
  rcases torn_streamN h hk hb hg1 hg 256 (Nat.le_refl _) with ⟨h1, h2, h3⟩ | ⟨h1, m, h2, h3, h4, h5⟩
  · refine ⟨256 * 56, by rw [h1], by omega, h2, fun s hs => ?_⟩
    rw [secB_full gen b _ s (by omega)]
    exact h3 s (by omega)
  · exact ⟨m, h2, h3, h4, h5⟩

theorem short_nil : Short [] := by unfold Short rNum rTake; simp

/-- The first bytes of records: the first records, and what is no whole one. -/
theorem take_encs : ∀ (all : List Rec), (∀ x ∈ all, x.Ok) → ∀ m, ∃ j rest, j ≤ all.length ∧ (encs all).take m = encs (all.take j) ++ rest ∧ Short rest ∧ ∀ i, i ≤ all.length → (encs (all.take i)).length ≤ m → i ≤ j
  | [], _, m => ⟨0, [], Nat.le_refl _, by simp [encs], short_nil, fun i hi _ => by simpa using hi⟩
  | r :: l, ho, m => by
    by_cases hm : m < (encB r).length
    · refine ⟨0, (encB r).take m, by omega, ?_, short_of r (ho r List.mem_cons_self) m hm, fun i hi hl => ?_⟩
      · rw [encs_cons, List.take_append_of_le_length (by omega)]; simp [encs]
      · cases i with
        | zero => omega
        | succ i => rw [List.take_succ_cons, encs_cons, List.length_append] at hl; omega
    · obtain ⟨j, rest, h1, h2, h3, h4⟩ := take_encs l (fun x hx => ho x (List.mem_cons_of_mem _ hx)) (m - (encB r).length)
      refine ⟨j + 1, rest, by simp; omega, ?_, h3, fun i hi hl => ?_⟩
      · rw [encs_cons, List.take_append, List.take_of_length_le (by omega), h2, List.take_succ_cons, encs_cons, List.append_assoc]
      · cases i with
        | zero => omega
        | succ i =>
          rw [List.take_succ_cons, encs_cons, List.length_append] at hl
          have := h4 i (by simpa using hi) (by omega)
          omega

end Go.Proofs.Ytfeacmlnlljnnaa

/- A region that draws its order, taken in one order: operations that only read, or compute, are taken first; those that write come up one at a time. Any program. -/
import Derived.Test.YtfeacmlnlljnnaaBase
namespace Go.Proofs.Ytfeacmlnlljnnaa
open Go Go.RowKit

section
variable {P : Program} {ops : Array Oper} {Q : Exit → Act → World → Prop} {md : Region.Mode}

/-- Whatever order is picked from here on: an operation that is neither among e1 nor among e2 leaves the world as it is; behind one of e1 S holds. -/
def wpX (P : Program) (md : Region.Mode) (ops : Array Oper) (Q : Exit → Act → World → Prop) (e1 e2 : List Nat) (S : World → Prop) : Nat → Array Bool → Act → World → Prop
  | 0, L, a, w => Region.ready md ops L = [] ∧ Q .normal a w
  | f + 1, L, a, w => (Region.ready md ops L = [] → Q .normal a w) ∧ ∀ i ∈ Region.ready md ops L,
      (i ∈ e1 → wpOp P ops Q i (fun a' w' => S w' ∧ wpX P md ops Q e1 e2 S f (L.setIfInBounds i true) a' w') a w) ∧
      (i ∉ e1 → i ∈ e2 → wpOp P ops Q i (wpX P md ops Q e1 e2 S f (L.setIfInBounds i true)) a w) ∧
      (i ∉ e1 → i ∉ e2 → stOp P ops w i (fun a' => wpX P md ops Q e1 e2 S f (L.setIfInBounds i true) a' w) a)

theorem wpAny_of_X {e1 e2 : List Nat} {S : World → Prop} : ∀ (f : Nat) (L : Array Bool) (a : Act) (w : World), wpX P md ops Q e1 e2 S f L a w → wpAny P md ops Q f L a w
  | 0, _, _, _, h => h
  | f + 1, L, a, w, h => ⟨h.1, fun i hi => by
      obtain ⟨h1, h2, h3⟩ := h.2 i hi
      by_cases g1 : i ∈ e1
      · exact wpOp_mono (fun a' w' h' => wpAny_of_X f _ a' w' h'.2) (h1 g1)
      · by_cases g2 : i ∈ e2
        · exact wpOp_mono (fun a' w' h' => wpAny_of_X f _ a' w' h') (h2 g1 g2)
        · exact wpOp_of_stOp (fun a' h' => wpAny_of_X f _ a' w h') (h3 g1 g2)⟩

theorem X_begin {id : Nat} {a : Act} {w : World} (e1 e2 : List Nat) (S : World → Prop) (hm : P.follows .mixedOrders = true)
    (h : wpX P .any ops Q e1 e2 S ops.size (Array.replicate ops.size false) a w.drew) : (Code.region id ops true).wp P Q a w := by
  refine wp_region_any hm ?_
  exact wpAny_of_X _ _ _ _ h

theorem X_done {e1 e2 : List Nat} {S : World → Prop} {L : Array Bool} {a : Act} {w : World} (hr : Region.ready md ops L = []) (h : Q .normal a w) : ∀ f, wpX P md ops Q e1 e2 S f L a w
  | 0 => ⟨hr, h⟩
  | _ + 1 => ⟨fun _ => h, by rw [hr]; simp⟩

/-- Which operations may come up ahead of i. -/
def ahead (md : Region.Mode) (ops : Array Oper) (eff : List Nat) (i : Nat) : Nat → Array Bool → Array Bool
  | 0, C => C
  | n + 1, C => ahead md ops eff i n (((Region.ready md ops C).filter fun j => j != i && !eff.contains j).foldl (fun C j => C.setIfInBounds j true) C)

/-- All that may come up ahead of i are in C, and none of them is among eff. -/
def aheadOk (md : Region.Mode) (ops : Array Oper) (eff : List Nat) (i : Nat) (L C : Array Bool) : Bool :=
  L.size == ops.size && C.size == ops.size && !eff.contains i && ((List.range ops.size).all fun j => (!L.getD j false || C.getD j false) && (!(C.getD j false) || L.getD j false || !eff.contains j)) &&
  !C.getD i true && (Region.ready md ops C).all (· == i)

structure Ahead (md : Region.Mode) (ops : Array Oper) (eff : List Nat) (i : Nat) (L C : Array Bool) : Prop where
  ls : L.size = ops.size
  cs : C.size = ops.size
  ne : i ∉ eff
  up : ∀ j, L.getD j false = true → C.getD j false = true
  quiet : ∀ j, C.getD j false = true → L.getD j false = true ∨ j ∉ eff
  out : C.getD i false = false
  last : ∀ j ∈ Region.ready md ops C, j = i

theorem lt_of_getD {L : Array Bool} {j : Nat} (h : L.getD j false = true) : j < L.size := by
  rcases Nat.lt_or_ge j L.size with h' | h'
  · exact h'
  · simp [Array.getElem?_eq_none h'] at h

theorem Ahead.of {eff : List Nat} {i : Nat} {L C : Array Bool} (h : aheadOk md ops eff i L C = true) : Ahead md ops eff i L C := by
  simp only [aheadOk, Bool.and_eq_true, List.all_eq_true, List.mem_range, Bool.or_eq_true, Bool.not_eq_true', beq_iff_eq, List.contains_eq_mem, decide_eq_false_iff_not] at h
  obtain ⟨⟨⟨⟨⟨h1, h2⟩, h3⟩, h4⟩, h5⟩, h6⟩ := h
  refine ⟨h1, h2, h3, fun j hl => ?_, fun j hc => ?_, getD_both h5, h6⟩
  · rcases (h4 j (by have := lt_of_getD hl; omega)).1 with h | h
    · rw [hl] at h; cases h
    · exact h
  · rcases (h4 j (by have := lt_of_getD hc; omega)).2 with (h | h) | h
    · rw [hc] at h; cases h
    · exact .inl h
    · exact .inr h

/-- What comes up ahead of i lies in C, and doesn't write. -/
theorem Ahead.ready {eff : List Nat} {i j : Nat} {L C : Array Bool} (h : Ahead md ops eff i L C) (hj : j ∈ Region.ready md ops L) (hji : j ≠ i) : C.getD j false = true ∧ j ∉ eff := by
  obtain ⟨hun, o, ho, hall⟩ := mem_ready.1 hj
  have hlt : j < ops.size := (Array.getElem?_eq_some_iff.1 ho).1
  have hc : C.getD j false = true := by
    cases hc : C.getD j false with
    | true => rfl
    | false => exact absurd (h.last j (mem_ready.2 ⟨getD_in (by rw [h.cs]; exact hlt) hc, o, ho, fun e he hb => h.up _ (hall e he hb)⟩)) hji
  refine ⟨hc, ?_⟩
  rcases h.quiet j hc with h | h
  · rw [getD_both hun] at h; cases h
  · exact h

theorem Ahead.set {eff : List Nat} {i j : Nat} {L C : Array Bool} (h : Ahead md ops eff i L C) (hj : C.getD j false = true) : Ahead md ops eff i (L.setIfInBounds j true) C := by
  refine ⟨by simp [h.ls], h.cs, h.ne, fun k hk => ?_, fun k hk => ?_, h.out, h.last⟩
  · by_cases e : j = k
    · subst e; exact hj
    · rw [getD_set_ne false e] at hk; exact h.up k hk
  · rcases h.quiet k hk with h | h
    · exact .inl (getD_set_true h)
    · exact .inr h

/-- A step that only reads, taken first: nothing that writes may come up ahead of it. -/
theorem X_still_first {e1 e2 : List Nat} {S : World → Prop} {i : Nat} {oi : Oper} {v : Value} {w : World} {C : Array Bool} (hi : ops[i]? = some oi)
    (hsel : ∀ (j : Nat) (o : Oper) cs b, ops[j]? = some o → o.op ≠ .select cs b) :
    ∀ (f : Nat) (L : Array Bool) (a : Act), Ahead md ops (e1 ++ e2) i L C →
      (∀ j oj, ops[j]? = some oj → j ≠ i → L.getD j true = false → (∀ e ∈ oj.after, Region.binds md e = true → e.on ≠ i) → oi.apart ops oj = true) →
      i ∈ Region.ready md ops L → YieldsAt P ops w oi v a →
      wpX P md ops Q e1 e2 S f (L.setIfInBounds i true) (a.put oi.dst v) w → wpX P md ops Q e1 e2 S (f + 1) L a w := by
  intro f
  induction f with
  | zero =>
    intro L a hA _ hr hy H
    refine ⟨fun h => (by rw [h] at hr; cases hr), fun j hj => ?_⟩
    by_cases hji : j = i
    · subst hji; exact ⟨fun h => absurd (List.mem_append_left _ h) hA.ne, fun _ h => absurd (List.mem_append_right _ h) hA.ne, fun _ _ => hy.stOp hi H⟩
    · have := ready_mono hj hji
      rw [H.1] at this
      cases this
  | succ f ih =>
    intro L a hA hfree hr hy H
    refine ⟨fun h => (by rw [h] at hr; cases hr), fun j hj => ?_⟩
    by_cases hji : j = i
    · subst hji; exact ⟨fun h => absurd (List.mem_append_left _ h) hA.ne, fun _ h => absurd (List.mem_append_right _ h) hA.ne, fun _ _ => hy.stOp hi H⟩
    · obtain ⟨hcj, hje⟩ := hA.ready hj hji
      have hj1 : j ∉ e1 := fun h => hje (List.mem_append_left _ h)
      have hj2 : j ∉ e2 := fun h => hje (List.mem_append_right _ h)
      refine ⟨fun h => absurd h hj1, fun _ h => absurd h hj2, fun _ _ => ?_⟩
      have h1 := (H.2 j (ready_mono hj hji)).2.2 hj1 hj2
      obtain ⟨hjun, oj, hoj, hall⟩ := mem_ready.1 hj
      have hnot : ∀ e ∈ oj.after, Region.binds md e = true → e.on ≠ i := fun e he hb heq => by
        have h2 := hA.up _ (hall e he hb)
        rw [heq, hA.out] at h2
        cases h2
      have h2 := stOp_put hoj (hfree j oj hoj hji hjun hnot) (fun cs b => hsel i oi cs b hi) (fun cs b => hsel j oj cs b hoj) hy h1
      have hfree' : ∀ k ok, ops[k]? = some ok → k ≠ i → (L.setIfInBounds j true).getD k true = false →
          (∀ e ∈ ok.after, Region.binds md e = true → e.on ≠ i) → oi.apart ops ok = true := fun k ok hk hki hun hno => by
        refine hfree k ok hk hki ?_ hno
        by_cases hjk : j = k
        · subst hjk; exact hjun
        · rw [getD_set_ne true hjk] at hun; exact hun
      refine stOp_mono (fun a' h3 => ih (L.setIfInBounds j true) a' (hA.set hcj) hfree' (ready_mono hr (Ne.symm hji)) h3.1 ?_) h2
      rw [Array.setIfInBounds_comm _ _ hji]
      exact h3.2

/-- One operation, while another's value lies ready that is the same in every world. -/
theorem wpOp_putY {j : Nat} {oi oj : Oper} {v : Value} (hj : ops[j]? = some oj) (hap : oi.apart ops oj = true)
    (hsj : ∀ cs b, oj.op ≠ .select cs b) (hQ : ∀ c a w, Q (.panic c) (a.put oi.dst v) w → Q (.panic c) a w) (Y : Act → Prop) (hY : ∀ a u, Y a → Y (a.put oj.dst u)) (hYd : ∀ a d, Y a → Y { a with defers := d :: a.defers })
    {K : Act → World → Prop} {a : Act} {w : World} (hy : Y a) (h : wpOp P ops Q j K (a.put oi.dst v) w) :
    wpOp P ops Q j (fun a' w' => Y a' ∧ K (a'.put oi.dst v) w') a w := by
  obtain ⟨h1, h2, _⟩ := Oper.apart_spec hap
  unfold wpOp at *
  simp only [hj] at *
  rw [wanted_put oj a oi.dst v h1] at h
  by_cases hw : Region.wanted oj (yielded ops a.tmps) = true
  · rw [if_pos hw] at h ⊢
    rcases h with h | ⟨h, g⟩
    · refine .inl ?_
      unfold Oper.wp at *
      rw [execOp_put oj hsj a oi.dst v h1] at h
      generalize (execOp a.eval oj).run P w = r at *
      cases r with
      | ok n w' =>
        cases n <;> simp only [Oper.upon] at h ⊢
        case value u => exact ⟨hY _ _ hy, by rw [← Act.put_comm a v u h2]; exact h⟩
        case skip => exact ⟨hY _ _ hy, by rw [← Act.put_comm a v undef h2]; exact h⟩
        case defer d => exact ⟨hY _ _ (hYd _ _ hy), by rw [← Act.put_comm _ v undef h2, ← Act.put_defers]; exact h⟩
        case enter g args =>
          refine Calls.mono h fun e w'' he => ?_
          cases e with
          | returned u => exact ⟨hY _ _ hy, by rw [← Act.put_comm a v u h2]; exact he⟩
          | panicked c => exact hQ _ _ _ he
          | outgrown => exact he
        case row row args => exact Rows.mono h fun u w'' he => ⟨hY _ _ hy, by rw [← Act.put_comm a v u h2]; exact he⟩
      | halt x w' =>
        cases x <;> simp only [Oper.upon] at h ⊢
        case panic u => exact hQ _ _ _ h
    · refine .inr ⟨?_, g⟩
      unfold Oper.asks at *
      rw [execOp_put oj hsj a oi.dst v h1] at h
      exact h
  · rw [if_neg hw] at h ⊢
    exact ⟨hY _ _ hy, by rw [← Act.put_comm a v undef h2]; exact h⟩

/-- A step whose value is the same in every world that meets S, taken first: nothing of e2 may come up ahead of it. -/
theorem X_held_first {e1 e2 : List Nat} {S : World → Prop} {i : Nat} {oi : Oper} {v : Value} {C : Array Bool} (hi : ops[i]? = some oi) (he : i ∉ e1)
    (hsel : ∀ (j : Nat) (o : Oper) cs b, ops[j]? = some o → o.op ≠ .select cs b) (hQ : ∀ c a w, Q (.panic c) (a.put oi.dst v) w → Q (.panic c) a w) :
    ∀ (f : Nat) (L : Array Bool) (a : Act) (w : World), Ahead md ops e2 i L C → S w →
      (∀ j oj, ops[j]? = some oj → j ≠ i → L.getD j true = false → (∀ e ∈ oj.after, Region.binds md e = true → e.on ≠ i) → oi.apart ops oj = true) →
      i ∈ Region.ready md ops L → (∀ w, S w → YieldsAt P ops w oi v a) →
      wpX P md ops Q e1 e2 S f (L.setIfInBounds i true) (a.put oi.dst v) w → wpX P md ops Q e1 e2 S (f + 1) L a w := by
  intro f
  induction f with
  | zero =>
    intro L a w hA hS _ hr hy H
    refine ⟨fun h => (by rw [h] at hr; cases hr), fun j hj => ?_⟩
    by_cases hji : j = i
    · subst hji; exact ⟨fun h => absurd h he, fun _ h => absurd h hA.ne, fun _ _ => (hy w hS).stOp hi H⟩
    · have := ready_mono hj hji
      rw [H.1] at this
      cases this
  | succ f ih =>
    intro L a w hA hS hfree hr hy H
    refine ⟨fun h => (by rw [h] at hr; cases hr), fun j hj => ?_⟩
    by_cases hji : j = i
    · subst hji; exact ⟨fun h => absurd h he, fun _ h => absurd h hA.ne, fun _ _ => (hy w hS).stOp hi H⟩
    · obtain ⟨hcj, hje⟩ := hA.ready hj hji
      obtain ⟨hjun, oj, hoj, hall⟩ := mem_ready.1 hj
      have hnot : ∀ e ∈ oj.after, Region.binds md e = true → e.on ≠ i := fun e he' hb heq => by
        have h2 := hall e he' hb
        rw [heq, getD_both (mem_ready.1 hr).1] at h2
        cases h2
      have hap := hfree j oj hoj hji hjun hnot
      obtain ⟨h1, h2', h3⟩ := Oper.apart_spec hap
      have hsi := fun cs b => hsel i oi cs b hi
      have keep : ∀ (a : Act) u, (∀ w, S w → YieldsAt P ops w oi v a) → ∀ w, S w → YieldsAt P ops w oi v (a.put oj.dst u) := fun a u hy w hS =>
        (hy w hS).of_same (execOp_put oi hsi a oj.dst u h3) (wanted_put oi a oj.dst u h3)
      have keepD : ∀ (a : Act) d, (∀ w, S w → YieldsAt P ops w oi v a) → ∀ w, S w → YieldsAt P ops w oi v { a with defers := d :: a.defers } := fun a d hy w hS => (hy w hS).of_same rfl rfl
      have hfree' : ∀ k ok, ops[k]? = some ok → k ≠ i → (L.setIfInBounds j true).getD k true = false →
          (∀ e ∈ ok.after, Region.binds md e = true → e.on ≠ i) → oi.apart ops ok = true := fun k ok hk hki hun hno => by
        refine hfree k ok hk hki ?_ hno
        by_cases hjk : j = k
        · subst hjk; exact hjun
        · rw [getD_set_ne true hjk] at hun; exact hun
      have fin : ∀ a' w', S w' → (∀ w, S w → YieldsAt P ops w oi v a') → wpX P md ops Q e1 e2 S f ((L.setIfInBounds i true).setIfInBounds j true) (a'.put oi.dst v) w' → wpX P md ops Q e1 e2 S (f + 1) (L.setIfInBounds j true) a' w' := fun a' w' g0 g1 g2 => by
        refine ih (L.setIfInBounds j true) a' w' (hA.set hcj) g0 hfree' (ready_mono hr (Ne.symm hji)) g1 ?_
        rw [Array.setIfInBounds_comm _ _ hji]
        exact g2
      have hH := H.2 j (ready_mono hj hji)
      refine ⟨fun hj1 => ?_, fun _ h => absurd h hje, fun hj1 hj2 => ?_⟩
      · exact wpOp_mono (fun a' w' h => ⟨h.2.1, fin a' w' h.2.1 h.1 h.2.2⟩) (wpOp_putY hoj hap (fun cs b => hsel j oj cs b hoj) hQ _ keep keepD hy (hH.1 hj1))
      · obtain ⟨u, hyu, hK⟩ := yieldsAt_of_stOp hoj (hH.2.2 hj1 hj2)
        have hyu' : YieldsAt P ops w oj u a := hyu.of_same (execOp_put oj (fun cs b => hsel j oj cs b hoj) a oi.dst v h1).symm (wanted_put oj a oi.dst v h1).symm
        refine hyu'.stOp hoj (fin _ _ hS (keep a u hy) ?_)
        rw [← Act.put_comm a v u h2']
        exact hK

/-- A step whose value is the same in every world, taken first. -/
theorem X_pure_first {e1 e2 : List Nat} {S : World → Prop} {i : Nat} {oi : Oper} {v : Value} (hi : ops[i]? = some oi) (he : i ∉ e1) (he2 : i ∉ e2)
    (hsel : ∀ (j : Nat) (o : Oper) cs b, ops[j]? = some o → o.op ≠ .select cs b) (hQ : ∀ c a w, Q (.panic c) (a.put oi.dst v) w → Q (.panic c) a w) :
    ∀ (f : Nat) (L : Array Bool) (a : Act) (w : World),
      (∀ j oj, ops[j]? = some oj → j ≠ i → L.getD j true = false → (∀ e ∈ oj.after, Region.binds md e = true → e.on ≠ i) → oi.apart ops oj = true) →
      i ∈ Region.ready md ops L → (∀ w, YieldsAt P ops w oi v a) →
      wpX P md ops Q e1 e2 S f (L.setIfInBounds i true) (a.put oi.dst v) w → wpX P md ops Q e1 e2 S (f + 1) L a w := by
  intro f
  induction f with
  | zero =>
    intro L a w _ hr hy H
    refine ⟨fun h => (by rw [h] at hr; cases hr), fun j hj => ?_⟩
    by_cases hji : j = i
    · subst hji; exact ⟨fun h => absurd h he, fun _ h => absurd h he2, fun _ _ => (hy w).stOp hi H⟩
    · have := ready_mono hj hji
      rw [H.1] at this
      cases this
  | succ f ih =>
    intro L a w hfree hr hy H
    refine ⟨fun h => (by rw [h] at hr; cases hr), fun j hj => ?_⟩
    by_cases hji : j = i
    · subst hji; exact ⟨fun h => absurd h he, fun _ h => absurd h he2, fun _ _ => (hy w).stOp hi H⟩
    · obtain ⟨hjun, oj, hoj, hall⟩ := mem_ready.1 hj
      have hnot : ∀ e ∈ oj.after, Region.binds md e = true → e.on ≠ i := fun e he' hb heq => by
        have h2 := hall e he' hb
        rw [heq, getD_both (mem_ready.1 hr).1] at h2
        cases h2
      have hap := hfree j oj hoj hji hjun hnot
      obtain ⟨h1, h2', h3⟩ := Oper.apart_spec hap
      have hsi := fun cs b => hsel i oi cs b hi
      have keep : ∀ (a : Act) u, (∀ w, YieldsAt P ops w oi v a) → ∀ w, YieldsAt P ops w oi v (a.put oj.dst u) := fun a u hy w =>
        (hy w).of_same (execOp_put oi hsi a oj.dst u h3) (wanted_put oi a oj.dst u h3)
      have keepD : ∀ (a : Act) d, (∀ w, YieldsAt P ops w oi v a) → ∀ w, YieldsAt P ops w oi v { a with defers := d :: a.defers } := fun a d hy w => (hy w).of_same rfl rfl
      have hfree' : ∀ k ok, ops[k]? = some ok → k ≠ i → (L.setIfInBounds j true).getD k true = false →
          (∀ e ∈ ok.after, Region.binds md e = true → e.on ≠ i) → oi.apart ops ok = true := fun k ok hk hki hun hno => by
        refine hfree k ok hk hki ?_ hno
        by_cases hjk : j = k
        · subst hjk; exact hjun
        · rw [getD_set_ne true hjk] at hun; exact hun
      have fin : ∀ a' w', (∀ w, YieldsAt P ops w oi v a') → wpX P md ops Q e1 e2 S f ((L.setIfInBounds i true).setIfInBounds j true) (a'.put oi.dst v) w' → wpX P md ops Q e1 e2 S (f + 1) (L.setIfInBounds j true) a' w' := fun a' w' g1 g2 => by
        refine ih (L.setIfInBounds j true) a' w' hfree' (ready_mono hr (Ne.symm hji)) g1 ?_
        rw [Array.setIfInBounds_comm _ _ hji]
        exact g2
      have hH := H.2 j (ready_mono hj hji)
      refine ⟨fun hj1 => ?_, fun hj1 hj2 => ?_, fun hj1 hj2 => ?_⟩
      · exact wpOp_mono (fun a' w' h => ⟨h.2.1, fin a' w' h.1 h.2.2⟩) (wpOp_putY hoj hap (fun cs b => hsel j oj cs b hoj) hQ _ keep keepD hy (hH.1 hj1))
      · exact wpOp_mono (fun a' w' h => fin a' w' h.1 h.2) (wpOp_putY hoj hap (fun cs b => hsel j oj cs b hoj) hQ _ keep keepD hy (hH.2.1 hj1 hj2))
      · obtain ⟨u, hyu, hK⟩ := yieldsAt_of_stOp hoj (hH.2.2 hj1 hj2)
        have hyu' : YieldsAt P ops w oj u a := hyu.of_same (execOp_put oj (fun cs b => hsel j oj cs b hoj) a oi.dst v h1).symm (wanted_put oj a oi.dst v h1).symm
        refine hyu'.stOp hoj (fin _ _ (keep a u hy) ?_)
        rw [← Act.put_comm a v u h2']
        exact hK

/-- Take number i first: it only reads, and nothing that writes may come up ahead of it. -/
theorem X_still {e1 e2 : List Nat} {S : World → Prop} {l : List Oper} {oi : Oper} {v : Value} {f : Nat} {L : Array Bool} {a : Act} {w : World} (i : Nat) (hi : l[i]? = some oi)
    (hs : Region.noSelect l.toArray = true) (hf : Region.free md l.toArray L i = true) (hr : (Region.ready md l.toArray L).contains i = true) (hA : aheadOk md l.toArray (e1 ++ e2) i L (ahead md l.toArray (e1 ++ e2) i l.toArray.size L) = true)
    (hg : oi.guard = none) (hy : (execOp a.eval oi).run P w = .ok (.value v) w) (h : wpX P md l.toArray Q e1 e2 S f (L.setIfInBounds i true) (a.put oi.dst v) w) : wpX P md l.toArray Q e1 e2 S (f + 1) L a w :=
  X_still_first (ops := l.toArray) (by simpa using hi) (Region.noSelect_spec hs) f L a (Ahead.of hA) (Region.free_spec (ops := l.toArray) (by simpa using hi) hf) (by simpa using hr) (.inl ⟨by simp [Region.wanted, hg], .inl hy⟩) h

/-- Take number i first: it yields the same in every world that meets S, and nothing of e2 may come up ahead of it. -/
theorem X_held {e1 e2 : List Nat} {S : World → Prop} {l : List Oper} {oi : Oper} {v : Value} {f : Nat} {L : Array Bool} {a : Act} {w : World} (i : Nat) (hi : l[i]? = some oi)
    (hs : Region.noSelect l.toArray = true) (hf : Region.free md l.toArray L i = true) (hr : (Region.ready md l.toArray L).contains i = true) (hA : aheadOk md l.toArray e2 i L (ahead md l.toArray e2 i l.toArray.size L) = true) (he : e1.contains i = false)
    (hQ : ∀ c a w, Q (.panic c) (a.put oi.dst v) w → Q (.panic c) a w) (hS : S w)
    (hg : oi.guard = none) (hy : ∀ w, S w → (execOp a.eval oi).run P w = .ok (.value v) w) (h : wpX P md l.toArray Q e1 e2 S f (L.setIfInBounds i true) (a.put oi.dst v) w) : wpX P md l.toArray Q e1 e2 S (f + 1) L a w :=
  X_held_first (ops := l.toArray) (by simpa using hi) (by simpa using he) (Region.noSelect_spec hs) hQ f L a w (Ahead.of hA) hS (Region.free_spec (ops := l.toArray) (by simpa using hi) hf) (by simpa using hr) (fun w hS => .inl ⟨by simp [Region.wanted, hg], .inl (hy w hS)⟩) h

/-- Take number i first: its value is the same in every world. -/
theorem X_pure {e1 e2 : List Nat} {S : World → Prop} {l : List Oper} {oi : Oper} {v : Value} {f : Nat} {L : Array Bool} {a : Act} {w : World} (i : Nat) (hi : l[i]? = some oi)
    (hs : Region.noSelect l.toArray = true) (hf : Region.free md l.toArray L i = true) (hr : (Region.ready md l.toArray L).contains i = true) (he : (e1 ++ e2).contains i = false) (hQ : ∀ c a w, Q (.panic c) (a.put oi.dst v) w → Q (.panic c) a w)
    (hg : oi.guard = none) (hy : ∀ w, (execOp a.eval oi).run P w = .ok (.value v) w) (h : wpX P md l.toArray Q e1 e2 S f (L.setIfInBounds i true) (a.put oi.dst v) w) : wpX P md l.toArray Q e1 e2 S (f + 1) L a w := by
  have he' : i ∉ e1 ++ e2 := by simpa using he
  exact X_pure_first (ops := l.toArray) (by simpa using hi) (fun h => he' (List.mem_append_left _ h)) (fun h => he' (List.mem_append_right _ h)) (Region.noSelect_spec hs) hQ f L a w (Region.free_spec (ops := l.toArray) (by simpa using hi) hf) (by simpa using hr) (fun w => .inl ⟨by simp [Region.wanted, hg], .inl (hy w)⟩) h

/-- A call of a Go function that changes nothing, in whatever world. -/
theorem X_qcall {e1 e2 : List Nat} {S : World → Prop} {l : List Oper} {oi : Oper} {v : Value} {f : Nat} {L : Array Bool} {a : Act} {w : World} (i : Nat) (hi : l[i]? = some oi)
    (hs : Region.noSelect l.toArray = true) (hf : Region.free md l.toArray L i = true) (hr : (Region.ready md l.toArray L).contains i = true) (he : (e1 ++ e2).contains i = false) (hQ : ∀ c a w, Q (.panic c) (a.put oi.dst v) w → Q (.panic c) a w)
    (hg : oi.guard = none) (g : FuncId) (args : Array Value) (hy : ∀ w, (execOp a.eval oi).run P w = .ok (.enter g args) w) (hc : ∀ w, Calls P g args w fun e w' => e = .returned v ∧ w = w')
    (h : wpX P md l.toArray Q e1 e2 S f (L.setIfInBounds i true) (a.put oi.dst v) w) : wpX P md l.toArray Q e1 e2 S (f + 1) L a w := by
  have he' : i ∉ e1 ++ e2 := by simpa using he
  exact X_pure_first (ops := l.toArray) (by simpa using hi) (fun h => he' (List.mem_append_left _ h)) (fun h => he' (List.mem_append_right _ h)) (Region.noSelect_spec hs) hQ f L a w (Region.free_spec (ops := l.toArray) (by simpa using hi) hf) (by simpa using hr)
    (fun w => .inl ⟨by simp [Region.wanted, hg], .inr (.inr ⟨g, args, hy w, (hc w).mono fun e w' ⟨h1, h2⟩ => ⟨h1, h2.symm⟩⟩)⟩) h

theorem wp_post {o : Oper} {a : Act} {w : World} {K K' : Act → World → Prop} {Q Q' : Exit → Act → World → Prop} (hK : ∀ a w, K a w → K' a w) (hp : ∀ c a w, Q (.panic c) a w → Q' (.panic c) a w) (ho : LetsOut Q → LetsOut Q')
    (h : o.wp P a w K Q) : o.wp P a w K' Q' := by
  unfold Oper.wp at *
  generalize (execOp a.eval o).run P w = r at *
  cases r with
  | ok n w' =>
    cases n <;> simp only [Oper.upon] at h ⊢
    case value u => exact hK _ _ h
    case skip => exact hK _ _ h
    case defer d => exact hK _ _ h
    case enter g args => exact Calls.mono h fun e w'' he => (by
      cases e with
      | returned u => exact hK _ _ he
      | panicked c => exact hp _ _ _ he
      | outgrown => exact ho he)
    case row row args => exact Rows.mono h fun u w'' he => hK _ _ he
  | halt x w' =>
    cases x <;> simp only [Oper.upon] at h ⊢
    case panic u => exact hp _ _ _ h

theorem wpOp_of_list {i : Nat} {oi : Oper} {a : Act} {w : World} {K : Act → World → Prop} (hi : ops[i]? = some oi) (h : wpList P ops (Exit.then K Q) [oi] a w) : wpOp P ops Q i K a w := by
  unfold wpOp
  simp only [hi]
  unfold wpList at h
  by_cases hw : Region.wanted oi (yielded ops a.tmps) = true
  · rw [if_pos hw] at h ⊢
    rcases h with h | ⟨h, g⟩
    · exact .inl (wp_post (fun _ _ h => h) (fun _ _ _ h => h) (fun ⟨a, w, h⟩ => ⟨a, w, h⟩) h)
    · exact .inr ⟨h, (fun ⟨a, w, h⟩ => ⟨a, w, h⟩) g⟩
  · rw [if_neg hw] at h ⊢
    exact h

/-- An operation of e2 that comes up alone, as the laws on lists of operations have it. -/
theorem X_op {e1 e2 : List Nat} {S : World → Prop} {L : Array Bool} {a : Act} {w : World} {f : Nat} (i : Nat) {l : List Oper} {oi : Oper} (hi : l[i]? = some oi) (hr : Region.ready md l.toArray L = [i]) (he1 : e1.contains i = false) (he : e2.contains i = true)
    (h : wpList P l.toArray (Exit.then (fun a' w' => wpX P md l.toArray Q e1 e2 S f (L.setIfInBounds i true) a' w') Q) [oi] a w) : wpX P md l.toArray Q e1 e2 S (f + 1) L a w := by
  refine ⟨fun h0 => (by rw [hr] at h0; cases h0), fun j hj => ?_⟩
  rw [hr] at hj
  obtain rfl : j = i := by simpa using hj
  have h1 : j ∉ e1 := by simpa using he1
  have h2 : j ∈ e2 := by simpa using he
  exact ⟨fun h => absurd h h1, fun _ _ => wpOp_of_list (ops := l.toArray) (by simpa using hi) h, fun _ h => absurd h2 h⟩

/-- An operation of e1 that comes up alone: S must hold behind it. -/
theorem X_opS {e1 e2 : List Nat} {S : World → Prop} {L : Array Bool} {a : Act} {w : World} {f : Nat} (i : Nat) {l : List Oper} {oi : Oper} (hi : l[i]? = some oi) (hr : Region.ready md l.toArray L = [i]) (he : e1.contains i = true)
    (h : wpList P l.toArray (Exit.then (fun a' w' => S w' ∧ wpX P md l.toArray Q e1 e2 S f (L.setIfInBounds i true) a' w') Q) [oi] a w) : wpX P md l.toArray Q e1 e2 S (f + 1) L a w := by
  refine ⟨fun h0 => (by rw [hr] at h0; cases h0), fun j hj => ?_⟩
  rw [hr] at hj
  obtain rfl : j = i := by simpa using hj
  have h1 : j ∈ e1 := by simpa using he
  exact ⟨fun _ => wpOp_of_list (ops := l.toArray) (by simpa using hi) h, fun h => absurd h1 h, fun h => absurd h1 h⟩

/-- Two operations of e2 that may come up in either order. -/
theorem X_op2 {e1 e2 : List Nat} {S : World → Prop} {L : Array Bool} {a : Act} {w : World} {f : Nat} (i j : Nat) {l : List Oper} {oi oj : Oper} (hi : l[i]? = some oi) (hj : l[j]? = some oj) (hr : Region.ready md l.toArray L = [i, j])
    (he1 : e1.contains i = false) (he : e2.contains i = true) (he1' : e1.contains j = false) (he' : e2.contains j = true)
    (h : wpList P l.toArray (Exit.then (fun a' w' => wpX P md l.toArray Q e1 e2 S f (L.setIfInBounds i true) a' w') Q) [oi] a w)
    (h' : wpList P l.toArray (Exit.then (fun a' w' => wpX P md l.toArray Q e1 e2 S f (L.setIfInBounds j true) a' w') Q) [oj] a w) : wpX P md l.toArray Q e1 e2 S (f + 1) L a w := by
  refine ⟨fun h0 => (by rw [hr] at h0; cases h0), fun k hk => ?_⟩
  rw [hr] at hk
  rcases List.mem_cons.1 hk with rfl | hk
  · have h1 : k ∉ e1 := by simpa using he1
    have h2 : k ∈ e2 := by simpa using he
    exact ⟨fun h => absurd h h1, fun _ _ => wpOp_of_list (ops := l.toArray) (by simpa using hi) h, fun _ h => absurd h2 h⟩
  · obtain rfl : k = j := by simpa using hk
    have h1 : k ∉ e1 := by simpa using he1'
    have h2 : k ∈ e2 := by simpa using he'
    exact ⟨fun h => absurd h h1, fun _ _ => wpOp_of_list (ops := l.toArray) (by simpa using hj) h', fun _ h => absurd h2 h⟩
end
end Go.Proofs.Ytfeacmlnlljnnaa

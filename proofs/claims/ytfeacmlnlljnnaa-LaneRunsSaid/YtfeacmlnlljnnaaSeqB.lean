/- More steps of a draw region: guarded ones, and calls that change nothing in this world. -/
import Derived.Test.YtfeacmlnlljnnaaSeq
namespace Go.Proofs.Ytfeacmlnlljnnaa
open Go Go.Proofs Go.RowKit
variable {P : Program} {md : Region.Mode} {Q : Exit → Act → World → Prop}

theorem X_stillG {e1 e2 : List Nat} {S : World → Prop} {l : List Oper} {oi : Oper} {v : Value} {f : Nat} {L : Array Bool} {a : Act} {w : World} (i : Nat) (hi : l[i]? = some oi)
    (hs : Region.noSelect l.toArray = true) (hf : Region.free md l.toArray L i = true) (hr : (Region.ready md l.toArray L).contains i = true) (hA : aheadOk md l.toArray (e1 ++ e2) i L (ahead md l.toArray (e1 ++ e2) i l.toArray.size L) = true)
    (hg : Region.wanted oi (yielded l.toArray a.tmps) = true) (hy : (execOp a.eval oi).run P w = .ok (.value v) w) (h : wpX P md l.toArray Q e1 e2 S f (L.setIfInBounds i true) (a.put oi.dst v) w) : wpX P md l.toArray Q e1 e2 S (f + 1) L a w :=
  X_still_first (ops := l.toArray) (by simpa using hi) (Region.noSelect_spec hs) f L a (Ahead.of hA) (Region.free_spec (ops := l.toArray) (by simpa using hi) hf) (by simpa using hr) (.inl ⟨hg, .inl hy⟩) h

theorem X_scall {e1 e2 : List Nat} {S : World → Prop} {l : List Oper} {oi : Oper} {v : Value} {f : Nat} {L : Array Bool} {a : Act} {w : World} (i : Nat) (hi : l[i]? = some oi)
    (hs : Region.noSelect l.toArray = true) (hf : Region.free md l.toArray L i = true) (hr : (Region.ready md l.toArray L).contains i = true) (hA : aheadOk md l.toArray (e1 ++ e2) i L (ahead md l.toArray (e1 ++ e2) i l.toArray.size L) = true)
    (hg : Region.wanted oi (yielded l.toArray a.tmps) = true) (g : FuncId) (args : Array Value) (hy : (execOp a.eval oi).run P w = .ok (.enter g args) w) (hc : Calls P g args w fun e w' => e = .returned v ∧ w = w')
    (h : wpX P md l.toArray Q e1 e2 S f (L.setIfInBounds i true) (a.put oi.dst v) w) : wpX P md l.toArray Q e1 e2 S (f + 1) L a w :=
  X_still_first (ops := l.toArray) (by simpa using hi) (Region.noSelect_spec hs) f L a (Ahead.of hA) (Region.free_spec (ops := l.toArray) (by simpa using hi) hf) (by simpa using hr)
    (.inl ⟨hg, .inr (.inr ⟨g, args, hy, hc.mono fun e w' ⟨h1, h2⟩ => ⟨h1, h2.symm⟩⟩)⟩) h
theorem X_pureG {e1 e2 : List Nat} {S : World → Prop} {l : List Oper} {oi : Oper} {v : Value} {f : Nat} {L : Array Bool} {a : Act} {w : World} (i : Nat) (hi : l[i]? = some oi)
    (hs : Region.noSelect l.toArray = true) (hf : Region.free md l.toArray L i = true) (hr : (Region.ready md l.toArray L).contains i = true) (he : (e1 ++ e2).contains i = false) (hQ : ∀ c a w, Q (.panic c) (a.put oi.dst v) w → Q (.panic c) a w)
    (hg : Region.wanted oi (yielded l.toArray a.tmps) = true) (hy : ∀ w, (execOp a.eval oi).run P w = .ok (.value v) w) (h : wpX P md l.toArray Q e1 e2 S f (L.setIfInBounds i true) (a.put oi.dst v) w) : wpX P md l.toArray Q e1 e2 S (f + 1) L a w := by
  have he' : i ∉ e1 ++ e2 := by simpa using he
  exact X_pure_first (ops := l.toArray) (by simpa using hi) (fun h => he' (List.mem_append_left _ h)) (fun h => he' (List.mem_append_right _ h)) (Region.noSelect_spec hs) hQ f L a w (Region.free_spec (ops := l.toArray) (by simpa using hi) hf) (by simpa using hr) (fun w => .inl ⟨hg, .inl (hy w)⟩) h

/-- Two operations of e1 that may come up in either order: S must hold behind each. -/
theorem X_opS2 {e1 e2 : List Nat} {S : World → Prop} {L : Array Bool} {a : Act} {w : World} {f : Nat} (i j : Nat) {l : List Oper} {oi oj : Oper} (hi : l[i]? = some oi) (hj : l[j]? = some oj) (hr : Region.ready md l.toArray L = [i, j])
    (he : e1.contains i = true) (he' : e1.contains j = true)
    (h : wpList P l.toArray (Exit.then (fun a' w' => S w' ∧ wpX P md l.toArray Q e1 e2 S f (L.setIfInBounds i true) a' w') Q) [oi] a w)
    (h' : wpList P l.toArray (Exit.then (fun a' w' => S w' ∧ wpX P md l.toArray Q e1 e2 S f (L.setIfInBounds j true) a' w') Q) [oj] a w) : wpX P md l.toArray Q e1 e2 S (f + 1) L a w := by
  refine ⟨fun h0 => (by rw [hr] at h0; cases h0), fun k hk => ?_⟩
  rw [hr] at hk
  rcases List.mem_cons.1 hk with rfl | hk
  · have h1 : k ∈ e1 := by simpa using he
    exact ⟨fun _ => wpOp_of_list (ops := l.toArray) (by simpa using hi) h, fun h => absurd h1 h, fun h => absurd h1 h⟩
  · obtain rfl : k = j := by simpa using hk
    have h1 : k ∈ e1 := by simpa using he'
    exact ⟨fun _ => wpOp_of_list (ops := l.toArray) (by simpa using hj) h', fun h => absurd h1 h, fun h => absurd h1 h⟩
end Go.Proofs.Ytfeacmlnlljnnaa

/- Custody: somebody looks on who has two boxes: one that stays, one that holds a value of their own. -/
import Derived.Test.YtlnfhlmgnppcbaaGreatZCMZ
namespace Go.Proofs.YtlnfhlmgnppcbaaGreat
open Go.RowKit Go.ChangeShapes Go.WideShapes Go.Deep Go.Maps
set_option linter.unusedVariables false
set_option linter.unusedSimpArgs false
structure Look2 (f : Fl) (fn A : Nat) (wE : World) (O T : Nat) (v0 : Value) (J : Nat → Value → List Ev → World → Prop) : Prop where
  off : ∀ {X : Nat → Prop} {lo : Nat} {v : Value} {l : List Ev} {w w' : World}, J lo v l w → Off X w w' → ¬ X O → ¬ X T → (∀ g, v.ownBlock = some g → ¬ X g) → J lo v l w'
  row : ∀ {lo : Nat} {v : Value} {l : List Ev} {w : World} {g : Nat}, J lo v l w → v.ownBlock = some g → ((A ≤ g ∧ g < wE.heap.size) ∨ lo ≤ g) ∧ g < w.heap.size
  start : ∀ {lo : Nat} {w : World}, Below wE.heap.size wE w → wE.heap.size ≤ lo → J lo v0 [] w
  seen : ∀ {base lo : Nat} {L : Lay} {s : CSt} {v : Value} {l : List Ev} {w : World} (x : Ev) (err : Int), CM base lo f L s w → s = (if err = 0 then l ++ [x] else l).foldl applyK startS → J lo v l w → l.length ≤ 1000 → (err = 0 → checkE f x = 0) →
    Calls Tryz.prog fn #[.pointer (some ⟨L.sb, 0, none⟩), .agg (eC x), .int .i64 err, .pointer (some ⟨T, 0, none⟩), .pointer (some ⟨O, 0, none⟩)] w fun e w' => e = .returned (.tuple #[]) ∧ ∃ v', J lo v' (if err = 0 then l ++ [x] else l) w' ∧
      (∀ g, v'.ownBlock = some g → v.ownBlock = some g ∨ w.heap.size ≤ g) ∧ Off (fun q => q = O ∨ v.ownBlock = some q) w w'
theorem CM.seen2 {base lo O : Nat} {f : Fl} {L : Lay} {s : CSt} {v : Value} {w w' : World} (h : CM base lo f L s w) (hO : O < base) (hg : ∀ g, v.ownBlock = some g → g < base ∨ lo ≤ g) (hp : ∀ g, v.ownBlock = some g → ∀ i, i < s.k → L.P i ≠ g)
    (ho : Off (fun q => q = O ∨ v.ownBlock = some q) w w') : CM base lo f L s w' := by
  obtain ⟨b1, b2, b3, b4⟩ := h.b0
  obtain ⟨l1, l2, l3, l4⟩ := h.l0
  refine h.off ho (fun hh => ?_) (fun q hq hh => ?_)
  · rcases hh with e | e
    · omega
    · have := hg _ e; omega
  · rcases hh with e | e
    · have := h.own_ge hq; omega
    · rcases hg _ e with h1 | h1
      · have := h.own_ge hq; omega
      · exact h.own_row h1 (hp _ e) hq
end Go.Proofs.YtlnfhlmgnppcbaaGreat

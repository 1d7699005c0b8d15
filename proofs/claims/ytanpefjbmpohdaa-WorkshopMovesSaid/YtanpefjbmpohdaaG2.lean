/- What a planned schedule leaves in memory; the plan's loop. -/
import Derived.Test.YtanpefjbmpohdaaG1
import Derived.Test.YtanpefjbmpohdaaK5
namespace Go.Proofs.Ytanpefjbmpohdaa
open Go.RowKit Go.ChangeShapes Go.WideShapes Go.Deep
set_option linter.unusedVariables false
set_option linter.unusedSimpArgs false
theorem wf_len (L : Nat → Wk) (i : Nat) : (wf L i).length = 4 := rfl
theorem wf_one (L : Nat → Wk) (i : Nat) : ∀ u ∈ wf L i, u.oneCell' = true := by
  intro u hu
  simp [wf] at hu
  rcases hu with rfl | rfl | rfl | rfl <;> rfl
theorem info43 : (Try.prog.info? 43).map (fun i => (i.zero, i.size, i.bytes)) = some (some (.agg #[.int .i64 0, .int .i64 0, .int .i64 0, .int .i64 0]), 4, 32) := by kernel_rfl
/-- How many works are planned. -/
def plN (m : Nat) (J : Nat → Jb) (k : Nat) (M : Nat → Int) : Nat := if chkE m J k M = 0 then m else 0
/-- What a planned schedule leaves. -/
def Planned (w : World) (m : Nat) (J : Nat → Jb) (k : Nat) (M : Nat → Int) (e : Ending) (w' : World) : Prop :=
  ∃ ao cap, e = .returned (.tuple #[.slice ao (plN m J k M) cap, .int .i64 (chkE m J k M)]) ∧ Sl w' 4 ao (plN m J k M) cap (wf (pl m J k M)) ∧ Below w.heap.size w w'
theorem Planned.fail {w w' : World} {m : Nat} {J : Nat → Jb} {k : Nat} {M : Nat → Int} (h : chkE m J k M ≠ 0) (hb : Below w.heap.size w w') : Planned w m J k M (.returned (.tuple #[.slice none 0 0, .int .i64 (chkE m J k M)])) w' := by
  have e : plN m J k M = 0 := by simp [plN, h]
  refine ⟨none, 0, by rw [e], ?_, hb⟩
  rw [e]
  exact ⟨by omega, by omega, fun _ => ⟨rfl, rfl⟩, fun i => rfl, fun i hi => absurd hi (by omega)⟩
/-- The plan's loop: n works are planned. -/
def PSt (W0 wr : World) (bd bf m : Nat) (J : Nat → Jb) (k : Nat) (M : Nat → Int) (n : Nat) (v : Value) : Prop :=
  Row wr W0.heap.size 43 4 v n (wf (pl m J k M)) ∧ Bools wr W0.heap.size bd m (st m J k M n).D ∧ Ints wr W0.heap.size bf k (st m J k M n).F ∧ Below W0.heap.size W0 wr ∧ v.ownBlock ≠ some bd ∧ v.ownBlock ≠ some bf
theorem PSt.below {W0 wr w' : World} {bd bf m : Nat} {J : Nat → Jb} {k : Nat} {M : Nat → Int} {n : Nat} {v : Value} (h : PSt W0 wr bd bf m J k M n v) (hb : Below wr.heap.size wr w') : PSt W0 w' bd bf m J k M n v :=
  ⟨Row.off (X := fun _ => False) h.1 (Off.of_below hb) (fun _ _ h => h), h.2.1.keep hb, h.2.2.1.keep hb, h.2.2.2.1.trans (hb.mono h.2.2.2.1.size), h.2.2.2.2⟩
theorem Planned.done {w w' : World} {bd bf m : Nat} {J : Nat → Jb} {k : Nat} {M : Nat → Int} {v : Value} (h : chkE m J k M = 0) (hs : PSt w w' bd bf m J k M m v) : Planned w m J k M (.returned (.tuple #[v, .int .i64 0])) w' := by
  have e : plN m J k M = m := by simp [plN, h]
  obtain ⟨ao, c, rfl, hsl⟩ := Row.toSl hs.1 (wf_len _)
  exact ⟨ao, c, by rw [e, h], by rw [e]; exact hsl, hs.2.2.2.1⟩
theorem Bools.lo {w : World} {base b n : Nat} {fd : Int → Bool} (h : Bools w base b n fd) : base ≤ b ∧ b < w.heap.size := by
  rcases h.shape with ⟨e, _⟩ | ⟨g, cap, e, h1, h2, _⟩
  · cases e
  · cases e; exact ⟨h1, h2⟩
theorem Ints.lo {w : World} {base b n : Nat} {fr : Int → Int} (h : Ints w base b n fr) : base ≤ b ∧ b < w.heap.size := by
  rcases h.shape with ⟨e, _⟩ | ⟨g, cap, e, h1, h2, _⟩
  · cases e
  · cases e; exact ⟨h1, h2⟩
theorem PSt.step {W0 wA : World} {bd bf m : Nat} {J : Nat → Jb} {k : Nat} {M : Nat → Int} {n : Nat} {v : Value} {D : Int → Bool} {F : Int → Int} {u j : Nat} {x : Int}
    (hA : Row wA W0.heap.size 43 4 v (n + 1) (wf (pl m J k M))) (hd : Bools wA W0.heap.size bd m D) (hf : Ints wA W0.heap.size bf k F) (hb : Below W0.heap.size W0 wA) (h1 : v.ownBlock ≠ some bd) (h2 : v.ownBlock ≠ some bf) (hne : bd ≠ bf) (hu : u < k) (hj : j < m)
    (hst : st m J k M (n + 1) = ⟨upz D j true, upz F u x⟩) : PSt W0 ((wA.setCell ⟨bf, u, none⟩ (.int .i64 x)).setCell ⟨bd, j, none⟩ (.bool true)) bd bf m J k M (n + 1) v := by
  have o1 : Off (fun b => b = bf) wA (wA.setCell ⟨bf, u, none⟩ (.int .i64 x)) := (Off.refl (fun b => b = bf) _).setCell (fun _ => rfl) _
  have o2 : Off (fun b => b = bd) (wA.setCell ⟨bf, u, none⟩ (.int .i64 x)) ((wA.setCell ⟨bf, u, none⟩ (.int .i64 x)).setCell ⟨bd, j, none⟩ (.bool true)) := (Off.refl (fun b => b = bd) _).setCell (fun _ => rfl) _
  have l1 := hd.lo.1
  have l2 := hf.lo.1
  refine ⟨Row.off (Row.off hA o1 (fun g hg h => h2 (by rw [hg, h]))) o2 (fun g hg h => h1 (by rw [hg, h])), ?_, ?_, ?_, h1, h2⟩
  · rw [hst]
    exact Bools.put (Row.off hd o1 (fun g hg h => by cases hg; exact hne h)) hj true
  · rw [hst]
    exact Row.off (Ints.put hf hu x) o2 (fun g hg h => by cases hg; exact hne h.symm)
  · exact (hb.setCell (by show _ ≤ bf; exact l2) _).setCell (by show _ ≤ bd; exact l1) _
end Go.Proofs.Ytanpefjbmpohdaa

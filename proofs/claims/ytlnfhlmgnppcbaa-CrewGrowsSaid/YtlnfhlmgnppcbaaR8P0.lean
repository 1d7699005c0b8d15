/- The ends of an edge; the networks of both directions. -/
import Derived.Test.YtlnfhlmgnppcbaaR8A
import Derived.Test.YtlnfhlmgnppcbaaBB
import Derived.Test.YtlnfhlmgnppcbaaR8Q6
import Derived.Deep.LoopGhost
namespace Go.Proofs.Ytlnfhlmgnppcbaa
open Go.RowKit
set_option linter.unusedVariables false
set_option linter.unusedSimpArgs false
set_option maxRecDepth 8000
/-- This function gives the ends of an edge. -/
def Ends (fid : Nat) (A B : Ed → Int) : Prop := ∀ (e : Ed) (w : World), Calls Try.prog fid #[.agg #[.int .i64 e.frm, .int .i64 e.til, .int .i64 e.sec]] w fun x w' => x = .returned (.tuple #[.int .i64 (A e), .int .i64 (B e)]) ∧ Below w.heap.size w w'
theorem forward135 : Ends 135 Ed.frm Ed.til := by
  intro e w
  obtain ⟨f, t, s⟩ := e
  dsimp only
  go_enter Try.func135, Try.ntmps135
  go_wp2_with fail
  (refine region_all (fun i : Nat => World.drewN _ i) mixed (by kernel_rfl) ⟨1, rfl⟩ ?_; (repeat (any_goals (first | go_big_quiet_step (fail) | quiet_step (fail) | (refine wpQuiet_step (fun K hK => ?_); go_simp; split <;> (refine hK _ ?_; clear hK K))))); (all_goals (refine wpQuiet_nil (fun nq => ?_))))
  go_wp2_with fail
  go_returns
  exact ⟨rfl, by (repeat' (first | (with_reducible exact Below.refl _ _) | (with_reducible assumption) | (with_reducible refine Below.drew ?_) | (with_reducible refine below_drewN ?_ _) | (with_reducible refine Below.alloc ?_ ?_ _) | (with_reducible refine Below.setCell ?_ ?_ _) | go_size))⟩
open Rd
def gr (A B : Ed → Int) (n m : Nat) (E : Nat → Ed) : Gr := ⟨n, m, fun i => A (E i), fun i => B (E i), fun i => (E i).sec⟩
/-- The network is right. -/
structure Right (n m : Nat) (E : Nat → Ed) : Prop where
  n1 : 1 ≤ n
  n2 : n ≤ 64
  m2 : m ≤ 512
  hf : ∀ i, i < m → 0 ≤ (E i).frm ∧ (E i).frm < n
  ht : ∀ i, i < m → 0 ≤ (E i).til ∧ (E i).til < n
  hs : ∀ i, i < m → 1 ≤ (E i).sec ∧ (E i).sec ≤ 1000
theorem Right.fwd {n m : Nat} {E : Nat → Ed} (h : Right n m E) : (gr Ed.frm Ed.til n m E).Ok := ⟨h.hf, h.ht, h.hs⟩
theorem Right.bwd {n m : Nat} {E : Nat → Ed} (h : Right n m E) : (gr Ed.til Ed.frm n m E).Ok := ⟨h.ht, h.hf, h.hs⟩
theorem right_of {N : Int} {m : Nat} {E : Nat → Ed} (h : roadE N m E = 0) : ∃ n : Nat, N = n ∧ Right n m E := by
  unfold roadE at h
  by_cases h1 : N < 1
  · simp [h1] at h
  by_cases h2 : 64 < N
  · simp [h1, h2] at h
  by_cases h3 : 512 < m
  · simp [h1, h2, h3] at h
  simp only [h1, h2, h3, if_false] at h
  have hz := scan_zero h
  have each : ∀ i, i < m → nodeB N (E i).frm = true ∧ nodeB N (E i).til = true ∧ 1 ≤ (E i).sec ∧ (E i).sec ≤ 1000 := fun i hi => by
    have := hz i hi
    unfold badE at this
    cases e1 : nodeB N (E i).frm
    · simp [e1] at this
    · cases e2 : nodeB N (E i).til
      · simp [e1, e2] at this
      · simp only [e1, e2, Bool.true_eq_false, if_false] at this
        refine ⟨rfl, rfl, ?_⟩
        by_cases s1 : (E i).sec < 1
        · simp [s1] at this
        · by_cases s2 : 1000 < (E i).sec
          · simp [s1, s2] at this
          · omega
  refine ⟨N.toNat, by omega, by omega, by omega, by omega, fun i hi => ?_, fun i hi => ?_, fun i hi => (each i hi).2.2⟩
  · have := (each i hi).1; simp [nodeB] at this; omega
  · have := (each i hi).2.1; simp [nodeB] at this; omega
/-- How many nodes are found. -/
def cf (fd : Int → Bool) (n : Nat) : Nat := Lv.cnt (fun j => fd (j : Int)) n
theorem cf_le (fd : Int → Bool) (n : Nat) : cf fd n ≤ n := Lv.cnt_le _ _
theorem cf_up {fd : Int → Bool} {n : Nat} {v : Int} (h0 : 0 ≤ v) (h1 : v < n) (hf : fd v = false) : cf (upz fd v true) n = cf fd n + 1 := by
  have e : cf (upz fd v true) n = Lv.cnt (fun j => fd (j : Int) || decide (j = v.toNat)) n := Lv.cnt_congr fun j _ => by
    by_cases e : (j : Int) = v
    · rw [e, upz_same]; simp; right; omega
    · rw [upz_ne e]; simp; intro h; omega
  rw [e, Lv.cnt_or (fun j _ hj => by simp; intro e; subst e; rw [Int.toNat_of_nonneg h0] at hj; rw [hj] at hf; cases hf)]
  congr 1
  have h3 : Lv.cnt (fun j => decide (j = v.toNat)) n = 1 := by
    have key : ∀ k, v.toNat < k → Lv.cnt (fun j => decide (j = v.toNat)) k = 1 := by
      intro k
      induction k with
      | zero => intro h; omega
      | succ k ih =>
        intro h
        by_cases e : k = v.toNat
        · rw [Lv.cnt_yes (by simp [e]), Lv.cnt_none (fun i hi => by simp; omega)]
        · rw [Lv.cnt_no (by simp [e]), ih (by omega)]
    exact key n (by omega)
  exact h3
def lf (bs be : Int → Int) : Nat → List Value := fun i => [.int .i64 (bs i), .int .i64 (be i)]
theorem lf_len (bs be : Int → Int) (i : Nat) : (lf bs be i).length = 2 := rfl
def ff (fd : Int → Bool) : Nat → List Value := fun i => [.bool (fd i)]
theorem ff_len (fd : Int → Bool) (i : Nat) : (ff fd i).length = 1 := rfl
theorem lf_up (bs be : Int → Int) (v : Nat) (s k : Int) (j : Nat) : upd (lf bs be) v [.int .i64 s, .int .i64 k] j = lf (upz bs v s) (upz be v k) j := by
  by_cases e : j = v
  · subst e; rw [upd_same]; simp [lf, upz_same]
  · rw [upd_ne e]; simp [lf, upz_ne (show (j : Int) ≠ (v : Int) by omega)]
theorem ff_up (fd : Int → Bool) (v : Nat) (j : Nat) : upd (ff fd) v [.bool true] j = ff (upz fd v true) j := by
  by_cases e : j = v
  · subst e; rw [upd_same]; simp [ff, upz_same]
  · rw [upd_ne e]; simp [ff, upz_ne (show (j : Int) ≠ (v : Int) by omega)]
theorem info199 : (Try.prog.info? 199).map (fun i => (i.zero, i.size, i.bytes)) = some (some (.agg #[.int .i64 0, .int .i64 0]), 2, 16) := by kernel_rfl
theorem info4 : (Try.prog.info? 4).map (fun i => (i.zero, i.size, i.bytes)) = some (some (.bool false), 1, 1) := by kernel_rfl
theorem info3 : (Try.prog.info? 3).map (fun i => (i.zero, i.size, i.bytes)) = some (some (.int .i64 0), 1, 8) := by kernel_rfl
theorem mk194 (n : Nat) (hn : n ≤ 64) (w : World) : (Instr.makeSlice 194 (.int .i64 n) (.int .i64 n)).run Try.prog w = .ok (.slice (some ⟨w.heap.size, 0, none⟩) n n) (w.alloc (.cells (madeCells #[.int .i64 0, .int .i64 0] (n * 2)) 199)) := by
  obtain ⟨i, hi, h0, h1, h2⟩ := info_parts info199
  have := run_make (P := Try.prog) w 194 199 i _ Try.underlying194 hi h0 .i64 .i64 n n (by omega) (by omega) (by rw [h2]; omega) (by omega)
  rw [h1, Int.toNat_natCast] at this
  exact this
theorem mk98 (n : Nat) (hn : n ≤ 64) (w : World) : (Instr.makeSlice 98 (.int .i64 n) (.int .i64 n)).run Try.prog w = .ok (.slice (some ⟨w.heap.size, 0, none⟩) n n) (w.alloc (.cells (madeCells #[.bool false] (n * 1)) 4)) := by
  obtain ⟨i, hi, h0, h1, h2⟩ := info_parts info4
  have := run_make (P := Try.prog) w 98 4 i _ Try.underlying98 hi h0 .i64 .i64 n n (by omega) (by omega) (by rw [h2]; omega) (by omega)
  rw [h1, Int.toNat_natCast] at this
  exact this
theorem mk42 (n : Nat) (hn : n ≤ 64) (w : World) : (Instr.makeSlice 42 (.int .i64 n) (.int .i64 n)).run Try.prog w = .ok (.slice (some ⟨w.heap.size, 0, none⟩) n n) (w.alloc (.cells (madeCells #[.int .i64 0] (n * 1)) 3)) := by
  obtain ⟨i, hi, h0, h1, h2⟩ := info_parts info3
  have := run_make (P := Try.prog) w 42 3 i _ Try.underlying42 hi h0 .i64 .i64 n n (by omega) (by omega) (by rw [h2]; omega) (by omega)
  rw [h1, Int.toNat_natCast] at this
  exact this
/-- What the search keeps in memory. -/
def St (W0 wr : World) (b1 b2 q n : Nat) (g : Gr) (src : Int) (ex : Nat → Prop) (fd : Int → Bool) (bs be : Int → Int) (l : List QT.T) (ow : Option Nat) (N : Nat) : Prop :=
  Dij g src ex fd bs be l ∧ QT.Q wr W0.heap.size q ow () l (N : Int) ∧ Row wr W0.heap.size 199 2 (.slice (some ⟨b1, 0, none⟩) n n) n (lf bs be) ∧ Row wr W0.heap.size 4 1 (.slice (some ⟨b2, 0, none⟩) n n) n (ff fd) ∧ Below W0.heap.size W0 wr ∧ ow ≠ some b1 ∧ ow ≠ some b2
/-- What the search leaves. -/
def Spread (w : World) (n : Nat) (g : Gr) (src : Int) (e : Ending) (w' : World) : Prop :=
  ∃ (b1 b2 : Nat) (fd : Int → Bool) (bs be : Int → Int), e = .returned (.tuple #[.slice (some ⟨b1, 0, none⟩) n n, .slice (some ⟨b2, 0, none⟩) n n]) ∧ b1 ≠ b2 ∧ Row w' w.heap.size 199 2 (.slice (some ⟨b1, 0, none⟩) n n) n (lf bs be) ∧ Row w' w.heap.size 4 1 (.slice (some ⟨b2, 0, none⟩) n n) n (ff fd) ∧
    (∀ v, (fd v = true ↔ Rd.Can g src v) ∧ (Rd.Can g src v → bs v = sec g src v ∧ be v = edg g src v)) ∧ Below w.heap.size w w'
end Go.Proofs.Ytlnfhlmgnppcbaa

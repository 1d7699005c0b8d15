/- What a valid schedule is. Made slices. -/
import Derived.Test.YtanpefjbmpohdaaC13
import Derived.Test.YtanpefjbmpohdaaH6
namespace Go.Proofs.Ytanpefjbmpohdaa
open Go.RowKit Go.ChangeShapes Go.WideShapes Go.Deep
set_option linter.unusedVariables false
set_option linter.unusedSimpArgs false
def okW (m : Nat) (J : Nat → Jb) (k : Nat) (M : Nat → Int) (x : Wk) : Prop :=
  0 ≤ x.job ∧ x.job < m ∧ 0 ≤ x.mech ∧ x.mech < k ∧ hasB (M x.mech.toNat) (J x.job.toNat).skill = true ∧ 0 ≤ x.frm ∧ x.frm ≤ x.til ∧ x.til - x.frm = (J x.job.toNat).secs
def apart (x y : Wk) : Prop := x.job ≠ y.job ∧ (x.mech = y.mech → ¬ (x.frm < y.til ∧ y.frm < x.til))
def fineW (m : Nat) (J : Nat → Jb) (k : Nat) (M : Nat → Int) (L : Nat → Wk) (i : Nat) : Prop := okW m J k M (L i) ∧ ∀ t, t < i → apart (L t) (L i)
def validP (m : Nat) (J : Nat → Jb) (k : Nat) (M : Nat → Int) (n : Nat) (L : Nat → Wk) : Prop := chkE m J k M = 0 ∧ n = m ∧ ∀ i, i < n → fineW m J k M L i
open Classical in
noncomputable def vB (m : Nat) (J : Nat → Jb) (k : Nat) (M : Nat → Int) (n : Nat) (L : Nat → Wk) : Bool := decide (validP m J k M n L)
section
variable {m : Nat} {J : Nat → Jb} {k : Nat} {M : Nat → Int} {n : Nat} {L : Nat → Wk}
theorem vB_iff : vB m J k M n L = true ↔ validP m J k M n L := by unfold vB; simp
theorem vB_no (h : ¬ validP m J k M n L) : vB m J k M n L = false := by unfold vB; simp [h]
theorem vB_chk (h : chkE m J k M ≠ 0) : vB m J k M n L = false := vB_no fun hv => h hv.1
theorem vB_len (h : n ≠ m) : vB m J k M n L = false := vB_no fun hv => h hv.2.1
theorem vB_bad {i : Nat} (hi : i < n) (h : ¬ fineW m J k M L i) : vB m J k M n L = false := vB_no fun hv => h (hv.2.2 i hi)
theorem vB_all (h0 : chkE m J k M = 0) (h1 : n = m) (h : ∀ i, i < n → fineW m J k M L i) : vB m J k M n L = true := vB_iff.2 ⟨h0, h1, h⟩
/-- What Check promises. -/
theorem chk_zero (h : chkE m J k M = 0) : m ≤ 32 ∧ k ≤ 8 ∧ ∀ i, i < m → 1 ≤ (J i).id ∧ (J i).id ≤ 1000000 ∧ 1 ≤ (J i).secs ∧ (J i).secs ≤ 86400 ∧ 0 ≤ (J i).skill ∧ (J i).skill < 8 ∧ cnt M (J i).skill k ≠ 0 := by
  unfold chkE at h
  by_cases hm : 32 < m ∨ 8 < k
  · rw [if_pos hm] at h; cases h
  · rw [if_neg hm] at h
    refine ⟨by omega, by omega, fun i hi => ?_⟩
    have h1 := scan_zero h i hi
    unfold jobX at h1
    by_cases hf : fineB (J i) = false
    · rw [if_pos hf] at h1; cases h1
    · rw [if_neg hf] at h1
      by_cases ha : among J (J i).id i = true
      · rw [if_pos ha] at h1; cases h1
      · rw [if_neg ha] at h1
        have hc : cnt M (J i).skill k ≠ 0 := by
          intro hc; rw [if_pos hc] at h1; cases h1
        rcases fine_cases (J i) with ⟨c, _⟩ | ⟨c, _⟩ | ⟨c, _⟩ | ⟨c, _⟩ | ⟨c, _⟩ | ⟨c, _⟩ | ⟨_, c1, c2, c3, c4, c5, c6⟩
        iterate 6 exact absurd c hf
        exact ⟨c1, c2, c3, c4, c5, c6, hc⟩
theorem okW_cases (x : Wk) : (¬ okW m J k M x ∧ x.job < 0) ∨ (¬ okW m J k M x ∧ 0 ≤ x.job ∧ (m : Int) ≤ x.job) ∨ (¬ okW m J k M x ∧ 0 ≤ x.job ∧ x.job < m ∧ x.mech < 0) ∨ (¬ okW m J k M x ∧ 0 ≤ x.job ∧ x.job < m ∧ 0 ≤ x.mech ∧ (k : Int) ≤ x.mech) ∨
    (0 ≤ x.job ∧ x.job < m ∧ 0 ≤ x.mech ∧ x.mech < k) := by unfold okW; omega
theorem okW_rest {x : Wk} (h : 0 ≤ x.job ∧ x.job < m ∧ 0 ≤ x.mech ∧ x.mech < k) : (¬ okW m J k M x ∧ hasB (M x.mech.toNat) (J x.job.toNat).skill = false) ∨ (¬ okW m J k M x ∧ hasB (M x.mech.toNat) (J x.job.toNat).skill = true ∧ x.frm < 0) ∨
    (¬ okW m J k M x ∧ hasB (M x.mech.toNat) (J x.job.toNat).skill = true ∧ 0 ≤ x.frm ∧ x.til < x.frm) ∨ (¬ okW m J k M x ∧ hasB (M x.mech.toNat) (J x.job.toNat).skill = true ∧ 0 ≤ x.frm ∧ x.frm ≤ x.til ∧ x.til - x.frm ≠ (J x.job.toNat).secs) ∨
    (okW m J k M x ∧ hasB (M x.mech.toNat) (J x.job.toNat).skill = true ∧ 0 ≤ x.frm ∧ x.frm ≤ x.til ∧ x.til - x.frm = (J x.job.toNat).secs) := by
  unfold okW
  cases hb : hasB (M x.mech.toNat) (J x.job.toNat).skill
  · left; simp
  · simp; omega
end
def upz {α : Type} (f : Int → α) (v : Int) (x : α) : Int → α := fun u => if u = v then x else f u
theorem upz_same {α : Type} (f : Int → α) (v : Int) (x : α) : upz f v x v = x := by simp [upz]
theorem upz_ne {α : Type} {f : Int → α} {u v : Int} {x : α} (h : u ≠ v) : upz f v x u = f u := by simp [upz, h]
/-- A row of bools; a row of ints. -/
def ff (fd : Int → Bool) : Nat → List Value := fun i => [.bool (fd i)]
def gf (fr : Int → Int) : Nat → List Value := fun i => [.int .i64 (fr i)]
theorem ff_len (fd : Int → Bool) (i : Nat) : (ff fd i).length = 1 := rfl
theorem gf_len (fr : Int → Int) (i : Nat) : (gf fr i).length = 1 := rfl
theorem ff_up (fd : Int → Bool) (v : Nat) (x : Bool) (j : Nat) : upd (ff fd) v [.bool x] j = ff (upz fd v x) j := by
  by_cases e : j = v
  · subst e; rw [upd_same]; simp [ff, upz_same]
  · rw [upd_ne e]; simp [ff, upz_ne (show (j : Int) ≠ (v : Int) by omega)]
theorem gf_up (fr : Int → Int) (v : Nat) (x : Int) (j : Nat) : upd (gf fr) v [.int .i64 x] j = gf (upz fr v x) j := by
  by_cases e : j = v
  · subst e; rw [upd_same]; simp [gf, upz_same]
  · rw [upd_ne e]; simp [gf, upz_ne (show (j : Int) ≠ (v : Int) by omega)]
/-- A slice of bools (of ints) that the call has made, whole in block b. -/
abbrev Bools (w : World) (base b n : Nat) (fd : Int → Bool) : Prop := Row w base 4 1 (.slice (some ⟨b, 0, none⟩) n n) n (ff fd)
abbrev Ints (w : World) (base b n : Nat) (fr : Int → Int) : Prop := Row w base 3 1 (.slice (some ⟨b, 0, none⟩) n n) n (gf fr)
theorem Bools.at {w : World} {base b n : Nat} {fd : Int → Bool} (h : Bools w base b n fd) {i : Nat} (hi : i < n) : w.cell? ⟨b, i, none⟩ = some (.bool (fd i)) := by have := Row.cell h (ff_len fd) hi (by decide : 0 < 1); simpa [ff] using this
theorem Ints.at {w : World} {base b n : Nat} {fr : Int → Int} (h : Ints w base b n fr) {i : Nat} (hi : i < n) : w.cell? ⟨b, i, none⟩ = some (.int .i64 (fr i)) := by have := Row.cell h (gf_len fr) hi (by decide : 0 < 1); simpa [gf] using this
theorem Bools.put {w : World} {base b n : Nat} {fd : Int → Bool} (h : Bools w base b n fd) {i : Nat} (hi : i < n) (x : Bool) : Bools (w.setCell ⟨b, i, none⟩ (.bool x)) base b n (upz fd i x) := by
  have := Row.congr (Row.put h (ff_len fd) hi [.bool x] rfl) (fun j _ => ff_up fd i x j)
  simpa [putCells] using this
theorem Ints.put {w : World} {base b n : Nat} {fr : Int → Int} (h : Ints w base b n fr) {i : Nat} (hi : i < n) (x : Int) : Ints (w.setCell ⟨b, i, none⟩ (.int .i64 x)) base b n (upz fr i x) := by
  have := Row.congr (Row.put h (gf_len fr) hi [.int .i64 x] rfl) (fun j _ => gf_up fr i x j)
  simpa [putCells] using this
theorem Bools.keep {w w' : World} {base b n : Nat} {fd : Int → Bool} (h : Bools w base b n fd) (hb : Below w.heap.size w w') : Bools w' base b n fd := Row.off (X := fun _ => False) h (Off.of_below hb) (fun _ _ h => h)
theorem Ints.keep {w w' : World} {base b n : Nat} {fr : Int → Int} (h : Ints w base b n fr) (hb : Below w.heap.size w w') : Ints w' base b n fr := Row.off (X := fun _ => False) h (Off.of_below hb) (fun _ _ h => h)
theorem Bools.made {w : World} {base b n : Nat} (h : w.heap[b]? = some (.cells (madeCells #[.bool false] (n * 1)) 4 (0, 0))) (hb : base ≤ b) (hn : n ≤ 100) : Bools w base b n (fun _ => false) :=
  Row.of_made (z := #[.bool false]) rfl (by decide) h hb (by unfold maxLen; omega)
theorem Ints.made {w : World} {base b n : Nat} (h : w.heap[b]? = some (.cells (madeCells #[.int .i64 0] (n * 1)) 3 (0, 0))) (hb : base ≤ b) (hn : n ≤ 100) : Ints w base b n (fun _ => 0) :=
  Row.of_made (z := #[.int .i64 0]) rfl (by decide) h hb (by unfold maxLen; omega)
theorem info4 : (Try.prog.info? 4).map (fun i => (i.zero, i.size, i.bytes)) = some (some (.bool false), 1, 1) := by kernel_rfl
theorem info3 : (Try.prog.info? 3).map (fun i => (i.zero, i.size, i.bytes)) = some (some (.int .i64 0), 1, 8) := by kernel_rfl
theorem mkB (n : Nat) (hn : n ≤ 100) (w : World) : (Instr.makeSlice 53 (.int .i64 n) (.int .i64 n)).run Try.prog w = .ok (.slice (some ⟨w.heap.size, 0, none⟩) n n) (w.alloc (.cells (madeCells #[.bool false] (n * 1)) 4)) := by
  obtain ⟨i, hi, h0, h1, h2⟩ := info_parts info4
  have := run_make (P := Try.prog) w 53 4 i _ Try.underlying53 hi h0 .i64 .i64 n n (by omega) (by omega) (by rw [h2]; omega) (by omega)
  rw [h1, Int.toNat_natCast] at this
  exact this
theorem mkI (n : Nat) (hn : n ≤ 100) (w : World) : (Instr.makeSlice 41 (.int .i64 n) (.int .i64 n)).run Try.prog w = .ok (.slice (some ⟨w.heap.size, 0, none⟩) n n) (w.alloc (.cells (madeCells #[.int .i64 0] (n * 1)) 3)) := by
  obtain ⟨i, hi, h0, h1, h2⟩ := info_parts info3
  have := run_make (P := Try.prog) w 41 3 i _ Try.underlying41 hi h0 .i64 .i64 n n (by omega) (by omega) (by rw [h2]; omega) (by omega)
  rw [h1, Int.toNat_natCast] at this
  exact this
end Go.Proofs.Ytanpefjbmpohdaa

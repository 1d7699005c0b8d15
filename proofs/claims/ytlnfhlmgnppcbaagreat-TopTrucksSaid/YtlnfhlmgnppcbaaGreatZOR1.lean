/- Orders of a list: two numbers exchanged, the rest turned round. -/
import Derived.Test.YtlnfhlmgnppcbaaGreatZSVI
import Derived.Test.YtlnfhlmgnppcbaaGreatZTTP
import Derived.BigQuiet
import Derived.BigRegion
import Derived.WalkLawsBesides
namespace Go.Proofs.YtlnfhlmgnppcbaaGreat
open Go.RowKit Go.ChangeShapes Go.WideShapes Go.Deep
set_option linter.unusedVariables false
set_option linter.unusedSimpArgs false
def NumR (w : World) (base : Nat) (v : Value) (n : Nat) (V : Nat → Int) : Prop := Row w base 3 1 v n (nf V)
theorem NumR.at {w : World} {base b n c : Nat} {V : Nat → Int} (h : NumR w base (.slice (some ⟨b, 0, none⟩) n c) n V) {i : Nat} (hi : i < n) : w.cell? ⟨b, i, none⟩ = some (.int .i64 (V i)) := by
  have := Row.cell h (nf_len V) hi (j := 0) (by decide)
  rw [Nat.mul_one, Nat.add_zero] at this
  exact this
theorem NumR.set {w : World} {base b n c : Nat} {V : Nat → Int} (h : NumR w base (.slice (some ⟨b, 0, none⟩) n c) n V) {i : Nat} (hi : i < n) (x : Int) : NumR (w.setCell ⟨b, i, none⟩ (.int .i64 x)) base (.slice (some ⟨b, 0, none⟩) n c) n (upd V i x) := by
  have h1 := Row.store h (nf_len V) hi (j := 0) (by decide) (.int .i64 x)
  rw [Nat.mul_one, Nat.add_zero] at h1
  refine Row.congr h1 (fun j _ => ?_)
  by_cases e : j = i
  · subst e; rw [upd_same]; unfold nf; rw [upd_same]; rfl
  · rw [upd_ne e]; unfold nf; rw [upd_ne e]
def swapV (V : Nat → Int) (i j : Nat) : Nat → Int := upd (upd V i (V j)) j (V i)
def Turned (q n : Nat) (V V' : Nat → Int) : Prop := (∀ j, j < q → V' j = V j) ∧ ∀ j, j < n → ∃ k, k < n ∧ V' j = V k
theorem Turned.refl (q n : Nat) (V : Nat → Int) : Turned q n V V := ⟨fun _ _ => rfl, fun j hj => ⟨j, hj, rfl⟩⟩
theorem Turned.swap {q n : Nat} {V V' : Nat → Int} (h : Turned q n V V') {i j : Nat} (hi : q ≤ i) (hj : q ≤ j) (hin : i < n) (hjn : j < n) : Turned q n V (swapV V' i j) := by
  refine ⟨fun x hx => ?_, fun x hx => ?_⟩
  · unfold swapV; rw [upd_ne (by omega), upd_ne (by omega)]; exact h.1 x hx
  · unfold swapV
    by_cases e : x = j
    · subst e; rw [upd_same]; exact h.2 i hin
    · rw [upd_ne e]
      by_cases e2 : x = i
      · subst e2; rw [upd_same]; exact h.2 j hjn
      · rw [upd_ne e2]; exact h.2 x hx
set_option maxHeartbeats 8000000 in
theorem reverse163 (base b q n c : Nat) (V : Nat → Int) (w : World) (hR : NumR w base (.slice (some ⟨b, 0, none⟩) n c) n V) (hq : q ≤ n) :
    Calls Tryz.prog 163 #[.slice (some ⟨b, q, none⟩) (n - q) (c - q)] w fun e w' => e = .returned (.tuple #[]) ∧ ∃ V', Turned q n V V' ∧ NumR w' base (.slice (some ⟨b, 0, none⟩) n c) n V' ∧ Off (fun k => k = b) w w' := by
  obtain ⟨hb, hn, hc⟩ : b < w.heap.size ∧ n ≤ c ∧ c ≤ 9223372036854775807 := by
    rcases Row.shape hR with ⟨h, _⟩ | ⟨g', cap', he, _, h1, h2, h3⟩
    · cases h
    · cases he; exact ⟨h1, h2, h3⟩
  have HR := Lib.hid hR
  obtain ⟨m, hm⟩ : ∃ m, m = n - q := ⟨_, rfl⟩
  obtain ⟨c2, hc2⟩ : ∃ c2, c2 = c - q := ⟨_, rfl⟩
  rw [← hm, ← hc2]
  have hmn : q + m = n := by omega
  have hm1 : m ≤ c2 := by omega
  have hm2 : c2 ≤ 9223372036854775807 := by omega
  clear hR hm hc2
  go_enter Tryz.func163, Tryz.ntmps163
  go_wp2_with fail
  go_loopw [2, 3] (fun s2 s3 wr => ∃ (a : Nat) (z : Int) (V' : Nat → Int), s2 = .int .i64 (a : Int) ∧ s3 = .int .i64 z ∧ z = (m : Int) - 1 - (a : Int) ∧ a ≤ m ∧ Hid (Turned q n V V' ∧ NumR wr base (.slice (some ⟨b, 0, none⟩) n c) n V' ∧ Off (fun k => k = b) w wr)) (fun s2 s3 _ => (intOf s3 - intOf s2 + 2).toNat)
  case atStart => exact ⟨0, (m : Int) - 1, V, rfl, rfl, by omega, by omega, Lib.hid ⟨Turned.refl _ _ _, HR.out, Off.refl _ _⟩⟩
  case round =>
    obtain ⟨a, z, V', rfl, rfl, hz, ha, hr⟩ := hrel
    have HREL := hr
    clear hr HR
    by_cases hlt : (a : Int) < z
    · obtain ⟨y, rfl⟩ := Int.eq_ofNat_of_zero_le (show 0 ≤ z by omega)
      have tl : decide ((a : Int) < (y : Int)) = true := decide_eq_true hlt
      have ta : (a : Int) < (m : Int) := by omega
      have ty : (y : Int) < (m : Int) := by omega
      have RR := HREL.out.2.1
      have c0 := RR.at (show q + a < n by omega)
      have c1 := RR.at (show q + y < n by omega)
      have fr := fun j => Row.free RR j
      have zr := szs (Nat.lt_of_lt_of_le hb HREL.out.2.2.size)
      have HZ := Lib.hid hz
      clear RR hz
      go_wp2_with fail
      (refine region_order (fun i : Nat => World.drewN _ i) [2, 3] [0, 1, 4, 5, 6, 7, 8, 9, 10, 11, 12] 13 [14, 15] mixed (by kernel_rfl) ⟨1, rfl⟩ ?_; simp only [List.map_cons, List.map_nil, Array.getD_eq_getD_getElem?, List.getElem?_toArray, List.getElem?_cons_zero, List.getElem?_cons_succ, Option.getD_some]; (repeat (refine wpPure_cons _ rfl (fun w' => by go_simp; try rfl) ?_; dsimp only [Act.put])); refine wpPure_nil ?_; (repeat (any_goals (first | go_big_quiet_step (fail) | quiet_step (fail) | (refine wpQuiet_step (fun K hK => ?_); go_simp; split <;> (refine hK _ ?_; clear hK K))))); (all_goals (refine wpQuiet_nil (fun nq => ?_))))
      go_wp2_with fail
      refine onlyN_intro ?_
      go_wp2_with fail
      go_roundw
      case rel =>
        have RD : NumR (wr.drewN nq) base (.slice (some ⟨b, 0, none⟩) n c) n V' := Row.off (X := fun _ => False) HREL.out.2.1 (Off.of_below (below_drewN (Below.refl _ _) nq)) (fun _ _ h => h)
        have R1 := RD.set (show q + a < n by omega) (V' (q + y))
        have R2 := R1.set (show q + y < n by omega) (V' (q + a))
        have OD := HREL.out.2.2.trans (Off.of_below (X := fun k => k = b) (below_drewN (Below.refl wr.heap.size wr) nq)) (fun _ _ h => h)
        exact ⟨a + 1, (y : Int) - 1, swapV V' (q + a) (q + y), by go_num, by go_num, by have := HZ.out; omega, by omega, Lib.hid ⟨HREL.out.1.swap (by omega) (by omega) (by omega) (by omega), R2, (OD.setCell (p := ⟨b, q + a, none⟩) (fun _ => rfl) _).setCell (p := ⟨b, q + y, none⟩) (fun _ => rfl) _⟩⟩
      case measure => simp [intOf]; omega
    · have tl : decide ((a : Int) < z) = false := decide_eq_false hlt
      clear hz
      go_wp2_with fail
      go_end0
      exact ⟨rfl, V', HREL.out⟩
end Go.Proofs.YtlnfhlmgnppcbaaGreat

/- Jobs, mechanics and works as arguments; whether a mechanic has a skill. -/
import Derived.Test.YtanpefjbmpohdaaProg
import Derived.Test.YtanpefjbmpohdaaOI
import Derived.Test.YtanpefjbmpohdaaK5
import Derived.Laws.Bits128
import Derived.BigQuiet
import Derived.WalkLawsBesides
namespace Go.Proofs.Ytanpefjbmpohdaa
open Go.RowKit Go.ChangeShapes Go.WideShapes Go.Deep
set_option linter.unusedVariables false
set_option linter.unusedSimpArgs false
theorem mixed : Try.prog.follows .mixedOrders = true := by kernel_rfl
structure Jb where
  id : Int
  secs : Int
  skill : Int
structure Wk where
  job : Int
  mech : Int
  frm : Int
  til : Int
def jf (J : Nat → Jb) : Nat → List Value := fun i => [.int .i64 (J i).id, .int .i64 (J i).secs, .int .i64 (J i).skill]
def mf (M : Nat → Int) : Nat → List Value := fun i => [.int .i64 (M i)]
def wf (L : Nat → Wk) : Nat → List Value := fun i => [.int .i64 (L i).job, .int .i64 (L i).mech, .int .i64 (L i).frm, .int .i64 (L i).til]
section
variable {H : Type} {enc : TypeId × Value → H} {W : World} {base : Nat} {v : Value} {d : DataW H} {p : List MemPlace}
theorem open_jobs (hv : Value.okWide Try.prog W .any base 22 v) (h : DataW.Trod enc Try.prog W 0 (fun _ => true) true 22 v d p) : ∃ (a : Option Addr) (m c : Nat) (J : Nat → Jb), v = .slice a m c ∧ Sl W 3 a m c (jf J) ∧ ∀ i, i < m → inI (J i).id ∧ inI (J i).secs ∧ inI (J i).skill := by
  obtain ⟨a0, len, cap, rfl⟩ := okWide_slice Try.underlying22 hv
  obtain ⟨fuel, hf⟩ := h
  obtain ⟨a, m, c, F, hcs, hs, hb⟩ := open_rows Try.underlying22 Try.underlying40 (by kernel_rfl) (by kernel_rfl) (by decide) (fun j f hj => by
    have hl : j < 3 := (Array.getElem?_eq_some_iff.1 hj).1
    rcases (by omega : j = 0 ∨ j = 1 ∨ j = 2) with rfl | rfl | rfl <;> (cases hj; exact Try.underlying3)) hf
  simp [Value.cells] at hcs
  obtain ⟨rfl, rfl, rfl⟩ := hcs
  exact ⟨_, _, _, fun i => ⟨F i 0, F i 1, F i 2⟩, rfl, hs.congr fun i => rfl, fun i hi => ⟨hb i hi 0 (by decide), hb i hi 1 (by decide), hb i hi 2 (by decide)⟩⟩
theorem open_mechs (hv : Value.okWide Try.prog W .any base 23 v) (h : DataW.Trod enc Try.prog W 0 (fun _ => true) true 23 v d p) : ∃ (a : Option Addr) (m c : Nat) (J : Nat → Int), v = .slice a m c ∧ Sl W 1 a m c (mf J) ∧ ∀ i, i < m → inI (J i) := by
  obtain ⟨a0, len, cap, rfl⟩ := okWide_slice Try.underlying23 hv
  obtain ⟨fuel, hf⟩ := h
  obtain ⟨a, m, c, F, hcs, hs, hb⟩ := open_rows Try.underlying23 Try.underlying38 (by kernel_rfl) (by kernel_rfl) (by decide) (fun j f hj => by
    have hl : j < 1 := (Array.getElem?_eq_some_iff.1 hj).1
    rcases (by omega : j = 0) with rfl <;> (cases hj; exact Try.underlying3)) hf
  simp [Value.cells] at hcs
  obtain ⟨rfl, rfl, rfl⟩ := hcs
  exact ⟨_, _, _, fun i => F i 0, rfl, hs.congr fun i => rfl, fun i hi => hb i hi 0 (by decide)⟩
theorem open_works (hv : Value.okWide Try.prog W .any base 26 v) (h : DataW.Trod enc Try.prog W 0 (fun _ => true) true 26 v d p) : ∃ (a : Option Addr) (m c : Nat) (J : Nat → Wk), v = .slice a m c ∧ Sl W 4 a m c (wf J) ∧ ∀ i, i < m → inI (J i).job ∧ inI (J i).mech ∧ inI (J i).frm ∧ inI (J i).til := by
  obtain ⟨a0, len, cap, rfl⟩ := okWide_slice Try.underlying26 hv
  obtain ⟨fuel, hf⟩ := h
  obtain ⟨a, m, c, F, hcs, hs, hb⟩ := open_rows Try.underlying26 Try.underlying43 (by kernel_rfl) (by kernel_rfl) (by decide) (fun j f hj => by
    have hl : j < 4 := (Array.getElem?_eq_some_iff.1 hj).1
    rcases (by omega : j = 0 ∨ j = 1 ∨ j = 2 ∨ j = 3) with rfl | rfl | rfl | rfl <;> (cases hj; exact Try.underlying3)) hf
  simp [Value.cells] at hcs
  obtain ⟨rfl, rfl, rfl⟩ := hcs
  exact ⟨_, _, _, fun i => ⟨F i 0, F i 1, F i 2, F i 3⟩, rfl, hs.congr fun i => rfl, fun i hi => ⟨hb i hi 0 (by decide), hb i hi 1 (by decide), hb i hi 2 (by decide), hb i hi 3 (by decide)⟩⟩
end
theorem pow2_pos (j : Nat) : (0 : Int) < 2 ^ j := Int.pow_pos (by decide)
theorem and1 (n : Int) : bits .and .i64 n 1 = n % 2 := by
  have h1 : (BitVec.ofInt 64 1).toNat = 2 ^ 1 - 1 := by decide
  have key : (BitVec.ofInt 64 n &&& BitVec.ofInt 64 1).toNat = (n % ((2 ^ 64 : Nat) : Int)).toNat % 2 ^ 1 := by
    rw [BitVec.toNat_and, BitVec.toNat_ofInt, h1, Nat.and_two_pow_sub_one_eq_mod]
  show IntKind.i64.wrap ((BitVec.ofInt 64 n &&& BitVec.ofInt 64 1).toNat : Nat) = n % 2
  rw [key, IntKind.wrap_i64]
  omega
theorem and255 (n : Int) : bits .and .i64 n 255 = n % 256 := by
  have h1 : (BitVec.ofInt 64 255).toNat = 2 ^ 8 - 1 := by decide
  have key : (BitVec.ofInt 64 n &&& BitVec.ofInt 64 255).toNat = (n % ((2 ^ 64 : Nat) : Int)).toNat % 2 ^ 8 := by
    rw [BitVec.toNat_and, BitVec.toNat_ofInt, h1, Nat.and_two_pow_sub_one_eq_mod]
  show IntKind.i64.wrap ((BitVec.ofInt 64 n &&& BitVec.ofInt 64 255).toNat : Nat) = n % 256
  rw [key, IntKind.wrap_i64]
  omega
/-- Whether a mechanic has a skill. -/
def hasB (K s : Int) : Bool := decide (0 ≤ s) && decide (s < 8) && (K / 2 ^ s.toNat % 2 == 1)
theorem able28 (K s : Int) (w : World) (h0 : 0 ≤ s) (h8 : s < 8) : Calls Try.prog 28 #[.agg #[.int .i64 K], .int .i64 s] w fun e w' => e = .returned (.bool (hasB K s)) ∧ Below w.heap.size w w' := by
  go_enter Try.func28, Try.ntmps28
  go_wp2
  all_goals go_returns
  all_goals exact ⟨by simp [hasB, h0, h8, and1], by (repeat' (first | (with_reducible exact Below.refl _ _) | (with_reducible assumption) | (with_reducible refine Below.drew ?_) | (with_reducible refine below_drewN ?_ _) | (with_reducible refine Below.alloc ?_ ?_ _) | (with_reducible refine Below.setCell ?_ ?_ _) | go_size))⟩
theorem mod_bits (K : Int) {s : Nat} (hs : s < 8) : K % 256 / 2 ^ s % 2 = K / 2 ^ s % 2 := by
  rcases (by omega : s = 0 ∨ s = 1 ∨ s = 2 ∨ s = 3 ∨ s = 4 ∨ s = 5 ∨ s = 6 ∨ s = 7) with rfl | rfl | rfl | rfl | rfl | rfl | rfl | rfl <;> simp <;> omega
set_option maxHeartbeats 1000000 in
theorem has22 (K s : Int) (w : World) : Calls Try.prog 22 #[.agg #[.int .i64 K], .int .i64 s] w fun e w' => e = .returned (.bool (hasB K s)) ∧ Below w.heap.size w w' := by
  by_cases h0 : 0 ≤ s
  · by_cases h8 : s < 8
    · obtain ⟨k, rfl⟩ : ∃ k : Nat, s = (k : Int) := ⟨s.toNat, by omega⟩
      go_enter Try.func22, Try.ntmps22
      go_wp2_with fail
      rw [and255]
      go_loopw [6, 5] (fun i n wr => ∃ j : Nat, i = .int .i64 j ∧ j ≤ k ∧ n = .int .i64 (K % 256 / 2 ^ j) ∧ Hid (Below w.heap.size w wr)) (fun i _ _ => k - (intOf i).toNat)
      case atStart => exact ⟨0, rfl, by omega, by simp, Lib.hid (by (repeat' (first | (with_reducible exact Below.refl _ _) | (with_reducible assumption) | (with_reducible refine Below.drew ?_) | (with_reducible refine below_drewN ?_ _) | (with_reducible refine Below.alloc ?_ ?_ _) | (with_reducible refine Below.setCell ?_ ?_ _) | go_size)))⟩
      case round =>
        obtain ⟨j, rfl, hj, rfl, hrel⟩ := hrel
        by_cases hlt : j < k
        · have tj : (j : Int) < (k : Int) := by omega
          have e : K % 256 / 2 ^ j / 2 = K % 256 / 2 ^ (j + 1) := by
            rw [Int.pow_succ, Int.ediv_ediv_of_nonneg (Int.le_of_lt (pow2_pos j))]
          have hp : 0 ≤ K % 256 / 2 ^ j := Int.ediv_nonneg (Int.emod_nonneg _ (by decide)) (Int.le_of_lt (pow2_pos j))
          have hu : K % 256 / 2 ^ j ≤ 255 := by
            have h1 : K % 256 / 2 ^ j ≤ K % 256 := Int.ediv_le_self _ (Int.emod_nonneg _ (by decide))
            omega
          generalize K % 256 / 2 ^ j = q at *
          have e2 : Int.tdiv q 2 = q / 2 := Int.tdiv_eq_ediv_of_nonneg hp
          go_wp2_with fail
          go_roundw
          case rel => exact ⟨j + 1, by go_num, by omega, by rw [← e, ← e2], Lib.hid hrel.out⟩
          case measure => simp [intOf]; omega
        · obtain rfl : j = k := by omega
          have hp : 0 ≤ K % 256 / 2 ^ j := Int.ediv_nonneg (Int.emod_nonneg _ (by decide)) (Int.le_of_lt (pow2_pos j))
          have hb : hasB K j = (K % 256 / 2 ^ j % 2 == 1) := by simp [hasB, h8, mod_bits K (show j < 8 by omega)]
          have HB := Lib.hid hb
          generalize K % 256 / 2 ^ j = q at *
          have e2 : Int.tmod q 2 = q % 2 := Int.tmod_eq_emod_of_nonneg hp
          go_wp2_with fail
          go_returns
          exact ⟨by rw [HB.out]; simp [e2], hrel.out⟩
    · have hb : hasB K s = false := by simp [hasB, h8]
      have t8 : 8 ≤ s := by omega
      go_enter Try.func22, Try.ntmps22
      go_wp2_with fail
      go_returns
      exact ⟨rfl, by (repeat' (first | (with_reducible exact Below.refl _ _) | (with_reducible assumption) | (with_reducible refine Below.drew ?_) | (with_reducible refine below_drewN ?_ _) | (with_reducible refine Below.alloc ?_ ?_ _) | (with_reducible refine Below.setCell ?_ ?_ _) | go_size))⟩
  · have hb : hasB K s = false := by simp [hasB, h0]
    have t8 : s < 0 := by omega
    go_enter Try.func22, Try.ntmps22
    go_wp2_with fail
    go_returns
    exact ⟨rfl, by (repeat' (first | (with_reducible exact Below.refl _ _) | (with_reducible assumption) | (with_reducible refine Below.drew ?_) | (with_reducible refine below_drewN ?_ _) | (with_reducible refine Below.alloc ?_ ?_ _) | (with_reducible refine Below.setCell ?_ ?_ _) | go_size))⟩
end Go.Proofs.Ytanpefjbmpohdaa

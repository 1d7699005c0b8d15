/- The law CrewCarries. -/
import Derived.Test.YtlnfhlmgnppcbaaCSA
import Derived.Test.YtlnfhlmgnppcbaaCV2
import Derived.Test.YtlnfhlmgnppcbaaOPL
namespace Go.Proofs.Ytlnfhlmgnppcbaa
open Go.RowKit Go.ChangeShapes Go.WideShapes Go.Deep
set_option linter.unusedVariables false
set_option linter.unusedSimpArgs false
section
variable {H : Type} {enc : TypeId × Value → H} {W : World} {base : Nat} {v : Value} {d : DataW H} {p : List MemPlace}
set_option maxRecDepth 8000 in
theorem open_levels (hv : Value.okWide Try.prog W .any base 51 v) (h : DataW.Trod enc Try.prog W 0 (fun _ => true) true 51 v d p) : ∃ (a : Option Addr) (m c : Nat) (F : Nat → Int × Int), v = .slice a m c ∧ Sl W 2 a m c (lvf F) := by
  obtain ⟨a0, len, cap, rfl⟩ := okWide_slice Try.underlying51 hv
  obtain ⟨fuel, hf⟩ := h
  obtain ⟨a, m, c, F, hcs, hs, hb⟩ := open_rows Try.underlying51 Try.underlying95 (by kernel_rfl) (by kernel_rfl) (by decide) (fun j f hj => by
    have hl : j < 2 := (Array.getElem?_eq_some_iff.1 hj).1
    rcases (by omega : j = 0 ∨ j = 1) with rfl | rfl <;> (cases hj; exact Try.underlying3)) hf
  simp [Value.cells] at hcs
  obtain ⟨rfl, rfl, rfl⟩ := hcs
  exact ⟨_, _, _, fun i => (F i 0, F i 1), rfl, hs.congr fun i => rfl⟩
end
set_option maxRecDepth 8000 in
set_option maxHeartbeats 8000000 in
theorem run_crewCarries {H : Type} {enc : TypeId × Value → H} (W : World) (base : Nat) (v0 : Value) (d0 : DataW H) (p0 : List MemPlace) (hv0 : Value.okWide Try.prog W .any base 51 v0) (h0 : DataW.Trod enc Try.prog W 0 (fun _ => true) true 51 v0 d0 p0)
    (v1 : Value) (d1 : DataW H) (p1 : List MemPlace) (hv1 : Value.okWide Try.prog W .any base 3 v1) (h1 : DataW.Trod enc Try.prog W 0 (fun _ => true) true 3 v1 d1 p1) :
    Calls Try.prog 10 #[v0, v1] W fun e w' => e = .returned (.bool true) ∧ Below W.heap.size W w' := by
  obtain ⟨ao, n, c, F, rfl, hs⟩ := open_levels hv0 h0
  obtain ⟨cap, rfl, rfl, rfl, _⟩ := open_int Try.underlying3 hv1 h1
  clear hv0 h0 hv1 h1
  have AW := Lib.hid (fun w' => awakeC28 w')
  have hmc := hs.hm
  have hcc := hs.hc
  have HS := Lib.hid hs
  have C1 := Lib.hid (carried29 ao n c F cap W hs)
  have C2 := Lib.hid (fun w' (hb : Below W.heap.size W w') => carried30 ao n c F cap w' (hs.below hb))
  generalize carB cap n F = q at *
  have tq : (q == q) = true := by cases q <;> rfl
  clear hs
  by_cases hn : 200 < n
  · have tn : (200 : Int) < (n : Int) := by omega
    have BR := Lib.hid (Below.refl W.heap.size W)
    go_enter Try.func10, Try.ntmps10
    go_wp2_with fail
    refine (AW.out _).mono ?_
    rintro e wz ⟨rfl, bz⟩
    have BZ := Lib.hid (BR.out.trans (bz.mono BR.out.size))
    clear bz
    go_wp2_with fail
    go_returns
    exact ⟨rfl, BZ.out⟩
  · have tn : decide ((200 : Int) < (n : Int)) = false := decide_eq_false (by omega)
    go_enter Try.func10, Try.ntmps10
    go_wp2_with fail
    refine C1.out.mono ?_
    rintro e w1 ⟨rfl, b1⟩
    have B1 := Lib.hid b1
    clear b1 C1
    go_wp2_with fail
    refine (C2.out w1 B1.out).mono ?_
    rintro e w2 ⟨rfl, b2⟩
    have B2 := Lib.hid (B1.out.trans (b2.mono B1.out.size))
    clear b2 C2
    go_wp2_with fail
    refine (AW.out _).mono ?_
    rintro e wz ⟨rfl, bz⟩
    have BZ := Lib.hid (B2.out.trans (bz.mono B2.out.size))
    clear bz
    go_wp2_with fail
    go_returns
    exact ⟨rfl, BZ.out⟩
end Go.Proofs.Ytlnfhlmgnppcbaa

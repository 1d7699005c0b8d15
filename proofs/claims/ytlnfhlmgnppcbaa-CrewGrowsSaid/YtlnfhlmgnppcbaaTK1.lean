/- Trucks: a night in memory; is a number among others; is one of the needs ahead at this node. -/
import Derived.Test.YtlnfhlmgnppcbaaTRP
import Derived.Test.YtlnfhlmgnppcbaaA
namespace Go.Proofs.Ytlnfhlmgnppcbaa
open Go.RowKit Go.ChangeShapes Go.WideShapes Go.Deep
set_option linter.unusedVariables false
set_option linter.unusedSimpArgs false
set_option maxRecDepth 4000
theorem Sl.cut {w : World} {s : Nat} {ao : Option Addr} {n c : Nat} {f : Nat → List Value} (h : Sl w s ao n c f) {q : Nat} (hq : q ≤ n) : Sl w s ao q c f :=
  ⟨by have := h.hm; omega, h.hc, fun e => ⟨by have := (h.hno e).1; omega, (h.hno e).2⟩, h.len, fun i hi => h.sl i (by omega)⟩
def tkf (T : Nat → Tk) : Nat → List Value := fun i => [.int .i64 (T i).dep, .int .i64 (T i).cap, .int .i64 (T i).frm, .int .i64 (T i).til]
def ndf (D : Nat → Nd) : Nat → List Value := fun i => [.int .i64 (D i).node, .int .i64 (D i).mv]
def Ng.cells (g : Ng) : Array Value := #[.int .i64 g.N, .slice g.ea g.em g.ec, .slice g.ta g.tn g.tc, .slice g.na g.nn g.nc, .int .i64 g.h]
structure Ng.In (g : Ng) (w : World) : Prop where
  net : Net w g.ea g.em g.ec g.E
  trucks : Sl w 4 g.ta g.tn g.tc (tkf g.T)
  needs : Sl w 2 g.na g.nn g.nc (ndf g.D)
theorem Ng.In.below {g : Ng} {w w' : World} (h : g.In w) (hb : Below w.heap.size w w') : g.In w' := ⟨h.net.below hb, h.trucks.below hb, h.needs.below hb⟩
theorem Sl.tk {w : World} {ao : Option Addr} {n c : Nat} {T : Nat → Tk} (h : Sl w 4 ao n c (tkf T)) {i : Nat} (hi : i < n) : ∃ g o, ao = some ⟨g, o, none⟩ ∧ g < w.heap.size ∧ w.cell? ⟨g, o + i * 4, none⟩ = some (.int .i64 (T i).dep) ∧ w.cell? ⟨g, o + i * 4 + 1, none⟩ = some (.int .i64 (T i).cap) ∧ w.cell? ⟨g, o + i * 4 + 2, none⟩ = some (.int .i64 (T i).frm) ∧ w.cell? ⟨g, o + i * 4 + 3, none⟩ = some (.int .i64 (T i).til) := by
  obtain ⟨g, o, e, hc⟩ := h.cell hi
  have h0 : w.cell? ⟨g, o + i * 4, none⟩ = some (.int .i64 (T i).dep) := hc 0 (by decide)
  exact ⟨g, o, e, cell_lt h0, h0, hc 1 (by decide), hc 2 (by decide), hc 3 (by decide)⟩
theorem Sl.nd {w : World} {ao : Option Addr} {n c : Nat} {D : Nat → Nd} (h : Sl w 2 ao n c (ndf D)) {i : Nat} (hi : i < n) : ∃ g o, ao = some ⟨g, o, none⟩ ∧ g < w.heap.size ∧ w.cell? ⟨g, o + i * 2, none⟩ = some (.int .i64 (D i).node) ∧ w.cell? ⟨g, o + i * 2 + 1, none⟩ = some (.int .i64 (D i).mv) := by
  obtain ⟨g, o, e, hc⟩ := h.cell hi
  have h0 : w.cell? ⟨g, o + i * 2, none⟩ = some (.int .i64 (D i).node) := hc 0 (by decide)
  exact ⟨g, o, e, cell_lt h0, h0, hc 1 (by decide)⟩
theorem in115 (n lo hi : Int) (w : World) : Calls Try.prog 115 #[.int .i64 n, .int .i64 lo, .int .i64 hi] w fun e w' => e = .returned (.bool (inB n lo hi)) ∧ w = w' := by
  by_cases h : lo ≤ n
  · have e : inB n lo hi = decide (n ≤ hi) := by simp [inB, h]
    have HE := Lib.hid e
    clear e
    go_enter Try.func115, Try.ntmps115
    go_wp2_with fail
    go_returns
    exact ⟨by rw [HE.out]; rfl, rfl⟩
  · have e : inB n lo hi = false := by simp [inB, h]
    have HE := Lib.hid e
    have hl : n < lo := by omega
    clear e h
    go_enter Try.func115, Try.ntmps115
    go_wp2_with fail
    go_returns
    exact ⟨by rw [HE.out]; rfl, rfl⟩
theorem index138 (ao : Option Addr) (m c : Nat) (F : Nat → Int) (v : Int) (w : World) (h : Sl w 1 ao m c (nf F)) (hm : m ≤ 1000) : Calls Try.prog 138 #[.slice ao m c, .int .i64 v] w fun e w' => ∃ x : Int, e = .returned (.int .i64 x) ∧ decide (0 ≤ x) = anyN (fun j => decide (F j = v)) m ∧ Below w.heap.size w w' := by
  have hmc := h.hm
  have hcc := h.hc
  have HS := Lib.hid h
  clear h
  go_enter Try.func138, Try.ntmps138
  go_wp2_with fail
  go_loopw [8] (fun i wr => ∃ j : Nat, i = .int .i64 j ∧ j ≤ m ∧ Hid (anyN (fun j => decide (F j = v)) j = false ∧ Below w.heap.size w wr)) (fun i _ => m - (intOf i).toNat)
  case atStart => exact ⟨0, rfl, by omega, Lib.hid ⟨rfl, by (repeat' (first | (with_reducible exact Below.refl _ _) | (with_reducible assumption) | (with_reducible refine Below.drew ?_) | (with_reducible refine below_drewN ?_ _) | (with_reducible refine Below.alloc ?_ ?_ _) | (with_reducible refine Below.setCell ?_ ?_ _) | go_size))⟩⟩
  case round =>
    obtain ⟨j, rfl, hj, hrel⟩ := hrel
    have HR := hrel
    clear hrel
    by_cases hlt : j < m
    · have tj : (j : Int) < (m : Int) := by omega
      obtain ⟨g, o, rfl, hg, e0⟩ := (HS.out.below HR.out.2).num hlt
      have zg := szs hg
      obtain ⟨x, hx⟩ : ∃ x, x = F j := ⟨_, rfl⟩
      rw [← hx] at e0
      have HX := Lib.hid hx
      clear hx
      by_cases hv : v = x
      · subst hv
        have tv : (v == v) = true := by simp
        have HA := Lib.hid (anyN_yes (p := fun j => decide (F j = v)) hlt (by simp [HX.out]))
        go_wp2_with fail
        go_returns
        exact ⟨_, rfl, by rw [HA.out]; exact decide_eq_true (by omega), HR.out.2⟩
      · have tv : (v == x) = false := by simpa using hv
        have HA : Hid (anyN (fun j => decide (F j = v)) (j + 1) = false) := Lib.hid (by unfold anyN; rw [HR.out.1, ← HX.out]; simp; exact fun e => hv e.symm)
        go_wp2_with fail
        go_roundw
        case rel => exact ⟨j + 1, by go_num, by omega, Lib.hid ⟨HA.out, HR.out.2⟩⟩
        case measure => simp [intOf]; omega
    · obtain rfl : j = m := by omega
      go_wp2_with fail
      go_returns
      exact ⟨_, rfl, by rw [HR.out.1]; rfl, HR.out.2⟩
theorem contains132 (ao : Option Addr) (m c : Nat) (F : Nat → Int) (v : Int) (w : World) (h : Sl w 1 ao m c (nf F)) (hm : m ≤ 1000) : Calls Try.prog 132 #[.slice ao m c, .int .i64 v] w fun e w' => e = .returned (.bool (anyN (fun j => decide (F j = v)) m)) ∧ Below w.heap.size w w' := by
  have IX := Lib.hid (index138 ao m c F v w h hm)
  clear h
  generalize anyN (fun j => decide (F j = v)) m = y at *
  go_enter Try.func132, Try.ntmps132
  go_wp2_with fail
  refine IX.out.mono ?_
  rintro e w1 ⟨x, rfl, rfl, b1⟩
  have B1 := Lib.hid b1
  clear b1 IX
  go_wp2_with fail
  go_returns
  exact ⟨rfl, B1.out⟩
theorem twice118 (ao : Option Addr) (m c : Nat) (F : Nat → Int) (w : World) (h : Sl w 1 ao m c (nf F)) (hm : m ≤ 1000) : Calls Try.prog 118 #[.slice ao m c] w fun e w' => e = .returned (.bool (twiB F m)) ∧ Below w.heap.size w w' := by
  have hmc := h.hm
  have hcc := h.hc
  have HS := Lib.hid h
  clear h
  unfold twiB
  go_enter Try.func118, Try.ntmps118
  go_wp2_with fail
  go_loopw [7] (fun i wr => ∃ j : Nat, i = .int .i64 j ∧ j ≤ m ∧ Hid (anyN (fun i => anyN (fun j => decide (F j = F i)) i) j = false ∧ Below w.heap.size w wr)) (fun i _ => m - (intOf i).toNat)
  case atStart => exact ⟨0, rfl, by omega, Lib.hid ⟨rfl, by (repeat' (first | (with_reducible exact Below.refl _ _) | (with_reducible assumption) | (with_reducible refine Below.drew ?_) | (with_reducible refine below_drewN ?_ _) | (with_reducible refine Below.alloc ?_ ?_ _) | (with_reducible refine Below.setCell ?_ ?_ _) | go_size))⟩⟩
  case round =>
    obtain ⟨j, rfl, hj, hrel⟩ := hrel
    have HR := hrel
    clear hrel
    by_cases hlt : j < m
    · have tj : (j : Int) < (m : Int) := by omega
      have tj0 : (0 : Int) ≤ (j : Int) := by omega
      have tj1 : (j : Int) ≤ (c : Int) := by omega
      have ej : j - 0 = j := by omega
      obtain ⟨g, o, rfl, hg, e0⟩ := (HS.out.below HR.out.2).num hlt
      have zg := szs hg
      have CT := contains132 (some ⟨g, o, none⟩) j c F (F j) wr ((HS.out.below HR.out.2).cut (by omega)) (by omega)
      obtain ⟨b, hb⟩ : ∃ b, b = anyN (fun i => decide (F i = F j)) j := ⟨_, rfl⟩
      rw [← hb] at CT
      have HB := Lib.hid hb
      obtain ⟨x, hx⟩ : ∃ x, x = F j := ⟨_, rfl⟩
      rw [← hx] at e0 CT
      replace CT := Lib.hid CT
      clear hx hb
      go_wp2_with fail
      refine CT.out.mono ?_
      rintro e w1 ⟨rfl, b1⟩
      have B1 := Lib.hid (HR.out.2.trans (b1.mono HR.out.2.size))
      clear b1 CT
      cases b with
      | true =>
        have HA := Lib.hid (anyN_yes (p := fun i => anyN (fun j => decide (F j = F i)) i) hlt HB.out.symm)
        go_wp2_with fail
        go_returns
        exact ⟨by rw [HA.out]; rfl, B1.out⟩
      | false =>
        have HA : Hid (anyN (fun i => anyN (fun j => decide (F j = F i)) i) (j + 1) = false) := Lib.hid (by rw [anyN, HR.out.1, ← HB.out]; rfl)
        go_wp2_with fail
        go_roundw
        case rel => exact ⟨j + 1, by go_num, by omega, Lib.hid ⟨HA.out, B1.out⟩⟩
        case measure => simp [intOf]; omega
    · obtain rfl : j = m := by omega
      go_wp2_with fail
      go_returns
      exact ⟨by rw [HR.out.1]; rfl, HR.out.2⟩
/-- The closure of walk: is a number no need's? -/
theorem out117 (b : Nat) (nn : Nat) (na : Option Addr) (nc : Nat) (x : Int) (w : World) (h : w.cell? ⟨b, 3, none⟩ = some (.slice na nn nc)) (hn : nn ≤ 1000) :
    Calls Try.prog 117 #[.int .i64 x, .pointer (some ⟨b, 0, none⟩)] w fun e w' => e = .returned (.bool (outB nn x)) ∧ w = w' := by
  have IN := Lib.hid (fun w' => in115 x 0 ((nn : Int) - 1) w')
  have zb := szs (cell_lt h)
  dsimp only at zb
  have HO : Hid (outB nn x = !inB x 0 ((nn : Int) - 1)) := Lib.hid rfl
  generalize inB x 0 ((nn : Int) - 1) = y at *
  go_enter Try.func117, Try.ntmps117
  go_wp2_with fail
  refine (IN.out _).mono ?_
  rintro e w1 ⟨rfl, rfl⟩
  go_wp2_with fail
  go_returns
  exact ⟨by rw [HO.out]; rfl, rfl⟩
theorem outs131 (ao : Option Addr) (m c : Nat) (F : Nat → Int) (b nn : Nat) (na : Option Addr) (nc : Nat) (w : World) (hb : w.cell? ⟨b, 3, none⟩ = some (.slice na nn nc)) (hn : nn ≤ 1000) (h : Sl w 1 ao m c (nf F)) (hm : m ≤ 1000) :
    Calls Try.prog 131 #[.slice ao m c, .func (.func 117) #[] #[.pointer (some ⟨b, 0, none⟩)]] w fun e w' => ∃ x : Int, e = .returned (.int .i64 x) ∧ decide (0 ≤ x) = anyN (fun j => outB nn (F j)) m ∧ Below w.heap.size w w' := by
  have hmc := h.hm
  have hcc := h.hc
  have HS := Lib.hid h
  have HB := Lib.hid hb
  clear h hb
  go_enter Try.func131, Try.ntmps131
  go_wp2_with fail
  go_loopw [8] (fun i wr => ∃ j : Nat, i = .int .i64 j ∧ j ≤ m ∧ Hid (anyN (fun j => outB nn (F j)) j = false ∧ Below w.heap.size w wr)) (fun i _ => m - (intOf i).toNat)
  case atStart => exact ⟨0, rfl, by omega, Lib.hid ⟨rfl, by (repeat' (first | (with_reducible exact Below.refl _ _) | (with_reducible assumption) | (with_reducible refine Below.drew ?_) | (with_reducible refine below_drewN ?_ _) | (with_reducible refine Below.alloc ?_ ?_ _) | (with_reducible refine Below.setCell ?_ ?_ _) | go_size))⟩⟩
  case round =>
    obtain ⟨j, rfl, hj, hrel⟩ := hrel
    have HR := hrel
    clear hrel
    by_cases hlt : j < m
    · have tj : (j : Int) < (m : Int) := by omega
      obtain ⟨g, o, rfl, hg, e0⟩ := (HS.out.below HR.out.2).num hlt
      have zg := szs hg
      have OU := out117 b nn na nc (F j) wr (cell_kept HR.out.2 HB.out) hn
      obtain ⟨y, hy⟩ : ∃ y, y = outB nn (F j) := ⟨_, rfl⟩
      rw [← hy] at OU
      have HY := Lib.hid hy
      obtain ⟨x, hx⟩ : ∃ x, x = F j := ⟨_, rfl⟩
      rw [← hx] at e0 OU
      replace OU := Lib.hid OU
      clear hy hx
      go_wp2_with fail
      refine OU.out.mono ?_
      rintro e w1 ⟨rfl, rfl⟩
      clear OU
      cases y with
      | true =>
        have HA := Lib.hid (anyN_yes (p := fun j => outB nn (F j)) hlt HY.out.symm)
        go_wp2_with fail
        go_returns
        exact ⟨_, rfl, by rw [HA.out]; exact decide_eq_true (by omega), HR.out.2⟩
      | false =>
        have HA : Hid (anyN (fun j => outB nn (F j)) (j + 1) = false) := Lib.hid (by rw [anyN, HR.out.1, ← HY.out]; rfl)
        go_wp2_with fail
        go_roundw
        case rel => exact ⟨j + 1, by go_num, by omega, Lib.hid ⟨HA.out, HR.out.2⟩⟩
        case measure => simp [intOf]; omega
    · obtain rfl : j = m := by omega
      go_wp2_with fail
      go_returns
      exact ⟨_, rfl, by rw [HR.out.1]; rfl, HR.out.2⟩
theorem anyOut116 (ao : Option Addr) (m c : Nat) (F : Nat → Int) (b nn : Nat) (na : Option Addr) (nc : Nat) (w : World) (hb : w.cell? ⟨b, 3, none⟩ = some (.slice na nn nc)) (hn : nn ≤ 1000) (h : Sl w 1 ao m c (nf F)) (hm : m ≤ 1000) :
    Calls Try.prog 116 #[.slice ao m c, .func (.func 117) #[] #[.pointer (some ⟨b, 0, none⟩)]] w fun e w' => e = .returned (.bool (anyN (fun j => outB nn (F j)) m)) ∧ Below w.heap.size w w' := by
  have IX := Lib.hid (outs131 ao m c F b nn na nc w hb hn h hm)
  clear h hb
  generalize anyN (fun j => outB nn (F j)) m = y at *
  go_enter Try.func116, Try.ntmps116
  go_wp2_with fail
  refine IX.out.mono ?_
  rintro e w1 ⟨x, rfl, rfl, b1⟩
  have B1 := Lib.hid b1
  clear b1 IX
  go_wp2_with fail
  go_returns
  exact ⟨rfl, B1.out⟩
end Go.Proofs.Ytlnfhlmgnppcbaa

/- slices.DeleteFunc at the needs of a route: some of the numbers stay. -/
import Derived.Test.YtlnfhlmgnppcbaaGreatZTT6
import Derived.BigQuiet
import Derived.BigRegion
namespace Go.Proofs.YtlnfhlmgnppcbaaGreat
open Go.RowKit Go.ChangeShapes Go.WideShapes Go.Deep
set_option linter.unusedVariables false
set_option linter.unusedSimpArgs false
open Rd
def RtAt (w : World) (b : Nat) : Prop := ∃ (r : Int) (a : Option Addr) (n c : Nat) (R : Nat → Int), w.heap[b]? = some (.cells #[.int .i64 r, .slice a n c] 51 (0, 0)) ∧ Sl w 1 a n c (nf R) ∧ n ≤ 1000
theorem RtAt.below {w w' : World} {b : Nat} (h : RtAt w b) (hb : Below w.heap.size w w') : RtAt w' b := by
  obtain ⟨r, a, n, c, R, h1, h2, h3⟩ := h
  exact ⟨r, a, n, c, R, (hb.block _ (block_lt h1)).trans h1, h2.below hb, h3⟩
theorem del45 (b : Nat) (x : Int) (w : World) (h : RtAt w b) : Calls Tryz.prog 45 #[.int .i64 x, .pointer (some ⟨b, 0, none⟩)] w fun e w' => (∃ d : Bool, e = .returned (.bool d)) ∧ Below w.heap.size w w' := by
  obtain ⟨r, a, n, c, R, h1, h2, h3⟩ := h
  have CT := Lib.hid (contains46 a n c R x w h2 h3)
  have c1 := cell_at h1 1
  have zb := szs (block_lt h1)
  clear h1 h2
  generalize anyN (fun j => decide (R j = x)) n = y at *
  go_enter Tryz.func45, Tryz.ntmps45
  go_wp2_with fail
  refine CT.out.mono ?_
  rintro e w1 ⟨rfl, b1⟩
  have B1 := Lib.hid b1
  clear b1 CT
  go_wp2_with fail
  go_returns
  exact ⟨⟨_, rfl⟩, B1.out⟩
theorem index80 (b : Nat) (ao : Option Addr) (m c : Nat) (F : Nat → Int) (w : World) (hR : RtAt w b) (h : Sl w 1 ao m c (nf F)) (hm : m ≤ 1000) :
    Calls Tryz.prog 80 #[.slice ao m c, .func (.func 45) #[] #[.pointer (some ⟨b, 0, none⟩)]] w fun e w' => (e = .returned (.int .i64 (-1)) ∨ ∃ k : Nat, k < m ∧ e = .returned (.int .i64 k)) ∧ Below w.heap.size w w' := by
  have hmc := h.hm
  have hcc := h.hc
  have HS := Lib.hid h
  have HR0 := Lib.hid hR
  clear h hR
  go_enter Tryz.func80, Tryz.ntmps80
  go_wp2_with fail
  go_loopw [8] (fun i wr => ∃ j : Nat, i = .int .i64 j ∧ j ≤ m ∧ Hid (Below w.heap.size w wr)) (fun i _ => m - (intOf i).toNat)
  case atStart => exact ⟨0, rfl, by omega, Lib.hid (by (repeat' (first | (with_reducible exact Below.refl _ _) | (with_reducible assumption) | (with_reducible refine Below.drew ?_) | (with_reducible refine below_drewN ?_ _) | (with_reducible refine Below.alloc ?_ ?_ _) | (with_reducible refine Below.setCell ?_ ?_ _) | go_size)))⟩
  case round =>
    obtain ⟨j, rfl, hj, hrel⟩ := hrel
    have HR := hrel
    clear hrel
    by_cases hlt : j < m
    · have tj : (j : Int) < (m : Int) := by omega
      obtain ⟨g, o, rfl, hg, e0⟩ := (HS.out.below HR.out).num hlt
      have zg := szs hg
      obtain ⟨x, hx⟩ : ∃ x, x = F j := ⟨_, rfl⟩
      rw [← hx] at e0
      have OU := Lib.hid (del45 b x wr (HR0.out.below HR.out))
      clear hx
      go_wp2_with fail
      refine OU.out.mono ?_
      rintro e w1 ⟨⟨y, rfl⟩, b1⟩
      have B1 := Lib.hid (HR.out.trans (b1.mono HR.out.size))
      clear OU b1
      cases y with
      | true =>
        go_wp2_with fail
        go_returns
        exact ⟨.inr ⟨j, hlt, rfl⟩, B1.out⟩
      | false =>
        go_wp2_with fail
        go_roundw
        case rel => exact ⟨j + 1, by go_num, by omega, B1⟩
        case measure => simp [intOf]; omega
    · obtain rfl : j = m := by omega
      go_wp2_with fail
      go_returns
      exact ⟨.inl rfl, HR.out⟩
def DelW (base : Nat) (v : Value) (n : Nat) (w : World) (e : Ending) (w' : World) : Prop :=
  ∃ (v' : Value) (m : Nat) (V : Nat → Int), e = .returned v' ∧ m ≤ n ∧ NumR w' base v' m V ∧ v'.ownBlock = v.ownBlock ∧ Off (fun k => v.ownBlock = some k) w w'
set_option maxRecDepth 4000 in
set_option maxHeartbeats 8000000 in
theorem delete44 (base b : Nat) (v : Value) (n : Nat) (V : Nat → Int) (w : World) (hR : NumR w base v n V) (hn : n ≤ 1000) (hB : RtAt w b)
    (hsep : ∀ w', Off (fun k => v.ownBlock = some k) w w' → RtAt w' b) :
    Calls Tryz.prog 44 #[v, .func (.func 45) #[] #[.pointer (some ⟨b, 0, none⟩)]] w (DelW base v n w) := by
  rcases Row.shape hR with ⟨rfl, rfl⟩ | ⟨g, c, rfl, hg, hgl, hnc, hcm⟩
  · have IX := Lib.hid (index80 b none 0 0 V w hB (Sl.none (nf_len _)) (by omega))
    have HR := Lib.hid hR
    clear hR hsep
    go_enter Tryz.func44, Tryz.ntmps44
    go_wp2_with fail
    refine IX.out.mono ?_
    rintro e w1 ⟨h1, b1⟩
    rcases h1 with rfl | ⟨k, hk, _⟩
    · have B1 := Lib.hid b1
      clear b1 IX
      go_wp2_with fail
      go_returns
      exact ⟨_, 0, V, rfl, by omega, Row.off (X := fun _ => False) HR.out (Off.of_below B1.out) (fun _ _ h => h), rfl, Off.of_below B1.out⟩
    · omega
  · obtain ⟨a', c', e', hs⟩ := Row.toSl hR (nf_len V)
    cases e'
    have IX := Lib.hid (index80 b (some ⟨g, 0, none⟩) n c V w hB hs hn)
    have HR := Lib.hid hR
    have hb : g < w.heap.size := hgl
    have HSEP := Lib.hid hsep
    have zg := szs hb
    clear hR hsep hs hB
    go_enter Tryz.func44, Tryz.ntmps44
    go_wp2_with fail
    refine IX.out.mono ?_
    rintro e w1 ⟨h1, b1⟩
    have B1 := Lib.hid b1
    clear b1 IX
    rcases h1 with rfl | ⟨k, hk, rfl⟩
    · go_wp2_with fail
      go_returns
      exact ⟨_, n, V, rfl, by omega, Row.off (X := fun _ => False) HR.out (Off.of_below B1.out) (fun _ _ h => h), rfl, Off.of_below B1.out⟩
    · have hk0 : decide ((k : Int) = -1) = false := decide_eq_false (by omega)
      have hk1 : ((k : Int) == -1) = false := by simp
      have O1 := Lib.hid (Off.of_below (X := fun q => q = g) B1.out)
      have hgo : ∀ q, q = g → (Value.slice (some ⟨g, 0, none⟩) n c).ownBlock = some q := fun q h => by rw [h]; rfl
      have HGO := Lib.hid hgo
      clear hgo
      go_wp2_with fail
      go_loopw [5, 6] (fun s5 s6 wr => ∃ (i j : Nat) (V' : Nat → Int), s5 = .int .i64 i ∧ s6 = .int .i64 j ∧ j ≤ n ∧ i < j ∧ Hid (NumR wr base (.slice (some ⟨g, 0, none⟩) n c) n V' ∧ Off (fun q => q = g) w wr)) (fun _ s6 _ => n - (intOf s6).toNat)
      case atStart => exact ⟨k, k + 1, V, rfl, by go_num, by omega, by omega, Lib.hid ⟨Row.off (X := fun _ => False) HR.out (Off.of_below B1.out) (fun _ _ h => h), O1.out⟩⟩
      case round =>
        obtain ⟨i, j, V', rfl, rfl, hj, hij, hr⟩ := hrel
        have HREL := hr
        clear hr O1
        by_cases hlt : j < n
        · have tj : (j : Int) < (n : Int) := by omega
          have A1 := HREL.out.1.at hlt
          have zr := szs (Nat.lt_of_lt_of_le hb HREL.out.2.size)
          obtain ⟨x, hx⟩ : ∃ x, x = V' j := ⟨_, rfl⟩
          rw [← hx] at A1
          have DE := Lib.hid (del45 b x wr (HSEP.out wr (HREL.out.2.mono (fun q _ h => HGO.out q h))))
          clear hx
          go_wp2_with fail
          refine DE.out.mono ?_
          rintro e w4 ⟨⟨d, rfl⟩, b4⟩
          have RR4 : NumR w4 base (.slice (some ⟨g, 0, none⟩) n c) n V' := Row.off (X := fun _ => False) HREL.out.1 (Off.of_below b4) (fun _ _ h => h)
          have OW := Lib.hid (HREL.out.2.trans (Off.of_below (X := fun k => k = g) b4) (fun _ _ h => h))
          have z4 := szs (Nat.lt_of_lt_of_le hb OW.out.size)
          have HR4 := Lib.hid RR4
          clear b4 A1 zr DE
          cases d with
          | true =>
            clear RR4
            go_wp2_with fail
            go_roundw
            case rel => exact ⟨i, j + 1, V', rfl, by go_num, by omega, by omega, Lib.hid ⟨HR4.out, OW.out⟩⟩
            case measure => simp [intOf]; omega
          | false =>
            have A3 := RR4.at (show i < n by omega)
            have fr : ∀ o, w4.frozen? ⟨g, o, none⟩ = false := fun o => Row.free RR4 o
            have ti : (i : Int) < (n : Int) := by omega
            clear RR4
            go_wp2_with fail
            go_roundw
            case rel =>
              have hput := (HR4.out).set (show i < n by omega) x
              exact ⟨i + 1, j + 1, upd V' i x, by go_num, by go_num, by omega, by omega, Lib.hid ⟨hput, off_putCells (X := fun k => k = g) rfl [.int .i64 x] i w4 OW.out⟩⟩
            case measure => simp [intOf]; omega
        · obtain rfl : j = n := by omega
          obtain ⟨w5, hcl, hr5, ho5⟩ := clear_rest (P := Tryz.prog) (fun i => nf_len V' i) HREL.out.1 (k := i) (by omega) Tryz.underlying22 (zv := .int .i64 0) (fun w => by kernel_rfl) (by rfl) (by simp [Value.cells]; rfl)
          have H5 := Lib.hid hr5
          have O5 := Lib.hid (HREL.out.2.trans ho5 (fun _ _ h => h))
          have tj : (i : Int) ≤ (j : Int) := by omega
          have tc : (i : Int) ≤ (c : Int) := by omega
          rw [Nat.mul_one] at hcl
          clear hr5 ho5
          go_wp2_with fail
          go_returns
          exact ⟨_, i, V', rfl, by omega, H5.out, rfl, O5.out.mono (fun q _ h => HGO.out q h)⟩
end Go.Proofs.YtlnfhlmgnppcbaaGreat

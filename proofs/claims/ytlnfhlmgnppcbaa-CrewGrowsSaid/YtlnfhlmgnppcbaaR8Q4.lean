/- The first entry of a queue's heap sinks to its place. -/
import Derived.Test.YtlnfhlmgnppcbaaR8Q2
namespace Go.Proofs.Ytlnfhlmgnppcbaa
open Go.RowKit
namespace QT
set_option linter.unusedVariables false
set_option linter.unusedSimpArgs false
set_option maxRecDepth 8000
/-- Of the places up to k that were looked at, f is the least. -/
def Seen (d : D) (G : Nat → T × Int) (i n k f : Nat) : Prop :=
  (f = i ∨ (2 * i + 1 ≤ f ∧ f < k ∧ f < n ∧ befE (lt d) (G f) (G i) = true)) ∧ (∀ j, 2 * i + 1 ≤ j → j < k → j < n → befE (lt d) (G j) (G f) = false) ∧ befE (lt d) (G i) (G f) = false
theorem Seen.start (d : D) (G : Nat → T × Int) (i n : Nat) : Seen d G i n (2 * i + 1) i := ⟨.inl rfl, fun j h1 h2 => by omega, (befE_ord (lt_ord d)).irr _⟩
theorem Seen.yes {d : D} {G : Nat → T × Int} {i n k f : Nat} (h : Seen d G i n k f) (h1 : 2 * i + 1 ≤ k) (hk : k < n) (hb : befE (lt d) (G k) (G f) = true) : Seen d G i n (k + 1) k := by
  have o := befE_ord (lt_ord d)
  obtain ⟨ha, hc, hd⟩ := h
  have hki : befE (lt d) (G k) (G i) = true := by
    cases hx : befE (lt d) (G k) (G i)
    · have := o.trans hd hx; rw [hb] at this; cases this
    · rfl
  refine ⟨.inr ⟨h1, by omega, hk, hki⟩, fun j j1 j2 j3 => ?_, o.asym hki⟩
  by_cases hj : j = k
  · subst hj; exact o.irr _
  · exact o.trans (o.asym hb) (hc j j1 (by omega) j3)
theorem Seen.no {d : D} {G : Nat → T × Int} {i n k f : Nat} (h : Seen d G i n k f) (hb : befE (lt d) (G k) (G f) = false) : Seen d G i n (k + 1) f := by
  obtain ⟨ha, hc, hd⟩ := h
  refine ⟨ha.imp id (fun ⟨a, b, c, e⟩ => ⟨a, by omega, c, e⟩), fun j j1 j2 j3 => ?_, hd⟩
  by_cases hj : j = k
  · subst hj; exact hb
  · exact hc j j1 (by omega) j3
theorem Seen.all {d : D} {G : Nat → T × Int} {i n k f : Nat} (h : Seen d G i n k f) (hk : k = 2 * i + 3 ∨ n ≤ k) : ∀ j, 0 < j → j < n → (j - 1) / 2 = i → befE (lt d) (G j) (G f) = false :=
  fun j j0 j1 j2 => h.2.1 j (by omega) (by omega) j1
/-- The loop's state. -/
def Sinking (w : World) (base q g n cap : Nat) (d : D) (p : Int) (G : Nat → T × Int) (i : Nat) (wr : World) : Prop :=
  ∃ G', QB wr q d (.slice (some ⟨g, 0, none⟩) n cap) p ∧ RowE wr base (.slice (some ⟨g, 0, none⟩) n cap) n G' ∧ DownInv (befE (lt d)) G' n i ∧ (ents G' n).Perm (ents G n) ∧ Off (fun b => b = g) w wr
def Sunk (w : World) (base g n cap : Nat) (d : D) (G : Nat → T × Int) (w' : World) : Prop :=
  ∃ G', RowE w' base (.slice (some ⟨g, 0, none⟩) n cap) n G' ∧ Heap (befE (lt d)) G' n ∧ (ents G' n).Perm (ents G n) ∧ Off (fun b => b = g) w w'
set_option maxHeartbeats 2000000 in
theorem sink (d : D) (w : World) (base q g n cap : Nat) (p : Int) (G : Nat → T × Int) (hq : QB w q d (.slice (some ⟨g, 0, none⟩) n cap) p) (hr : RowE w base (.slice (some ⟨g, 0, none⟩) n cap) n G)
    (hd : DownInv (befE (lt d)) G n 0) (hn : n ≤ cap) (hc : cap ≤ 9223372036854775807) (hne : q ≠ g) (hn2 : n ≤ 1000000) :
    Calls Try.prog 147 #[.pointer (some ⟨q, 0, none⟩)] w fun e w' => e = .returned (.tuple #[]) ∧ Sunk w base g n cap d G w' := by
  have oE := befE_ord (lt_ord d)
  have HQ := Lib.hid hq
  have HR := Lib.hid hr
  have HD := Lib.hid hd
  clear hq hr hd
  go_enter Try.func147, Try.ntmps147
  go_wp2_with fail
  go_loopw [2] (fun i wr => ∃ k : Nat, (k < n ∨ k = 0) ∧ i = .int .i64 k ∧ Sinking w base q g n cap d p G k wr) (fun i _ => n - (intOf i).toNat)
  case atStart => exact ⟨0, .inr rfl, rfl, _, HQ.out, HR.out, HD.out, List.Perm.refl _, Off.refl _ _⟩
  case round =>
    obtain ⟨i, hi, rfl, G', hq, hr, hu, hpm, hoff⟩ := hrel
    clear HQ HR HD
    obtain ⟨wo, rfl⟩ : ∃ wo : World, wo = wr := ⟨_, rfl⟩
    have H1 := Lib.hid hq
    have H2 := Lib.hid hr
    have H3 := Lib.hid hu
    have H4 := Lib.hid hpm
    have H5 := Lib.hid hoff
    have q1 : wo.cell? ⟨q, 1, none⟩ = some (.slice (some ⟨g, 0, none⟩) n cap) := cell_at hq 1
    have zq := szs (block_lt hq)
    clear hq hr hu hpm hoff
    go_wp2_with fail
    go_loopw [3, 4] (fun f k wr => ∃ kn fn : Nat, k = .int .i64 kn ∧ f = .int .i64 fn ∧ 2 * i + 1 ≤ kn ∧ kn ≤ 2 * i + 3 ∧ (fn = i ∨ fn < n) ∧ Hid (Seen d G' i n kn fn) ∧ Below wo.heap.size wo wr) (fun _ k _ => 2 * i + 3 - (intOf k).toNat)
    case atStart => exact ⟨2 * i + 1, i, by go_num, rfl, by omega, by omega, .inl rfl, Seen.start _ _ _ _, Below.refl _ _⟩
    case round =>
      obtain ⟨k, f, rfl, rfl, hk1, hk2, hf, hs, hb⟩ := hrel
      have q2 := cell_kept hb q1
      have HB := Lib.hid hb
      clear hb
      by_cases hc1 : k = 2 * i + 3 ∨ n ≤ k
      · have hall := Lib.hid (Seen.all hs.out hc1)
        have hs1 := hs.out.1
        have hq5 := H1.out.off (X := fun _ => False) (Off.of_below HB.out) (fun h => h)
        have hr5 : RowE wr base (.slice (some ⟨g, 0, none⟩) n cap) n G' := Row.off (X := fun _ => False) H2.out (Off.of_below HB.out) (fun _ _ h => h)
        have ho5 : Off (fun b => b = g) w wr := H5.out.trans (Off.of_below (X := fun _ => False) HB.out) (fun _ _ h => h.elim)
        have hex : (2 * (i : Int) + 2 < (k : Int)) ∨ ((k : Int) ≤ 2 * (i : Int) + 2 ∧ (n : Int) ≤ (k : Int)) := by omega
        clear hc1
        by_cases hfi : f = i
        · subst hfi
          have HQ5 := Lib.hid hq5
          have HR5 := Lib.hid hr5
          have HO5 := Lib.hid ho5
          clear hq5 hr5 ho5 hs1 hs
          rcases hex with t1 | ⟨t1, t2⟩
          all_goals
            go_wp2_with fail
            go_returns
            exact ⟨rfl, G', HR5.out, down_done H3.out hall.out, H4.out, HO5.out⟩
        · have hfn : f < n := by omega
          obtain ⟨g1, g2, _, g4⟩ := hs1.resolve_left hfi
          have hfi2 : ((f : Int) == (i : Int)) = false := by simp; omega
          have S := swap d wr base q g n cap p G' i f hq5 hr5 (by omega) hfn hn hc hne
          have HS := Lib.hid S
          have HQ5 := Lib.hid hq5
          have HO5 := Lib.hid ho5
          have HG4 := Lib.hid g4
          have HFI := Lib.hid hfi
          clear hq5 hr5 ho5 hs1 hs S g4 hfi
          rcases hex with t1 | ⟨t1, t2⟩
          all_goals
            go_wp2_with (go_at_call 145; refine HS.out.mono ?_; rintro e w6 ⟨rfl, hr6, ho6⟩)
            go_roundw
            case rel => exact ⟨f, .inl hfn, rfl, swp G' i f, HQ5.out.off ho6 hne, hr6, down_step oE H3.out (by omega) hfn (by omega) HG4.out hall.out, (swp_perm (by omega) hfn).trans H4.out, HO5.out.same ho6⟩
            case measure => simp [intOf]; omega
      · have t1 : (k : Int) ≤ 2 * (i : Int) + 2 := by omega
        have t2 : (k : Int) < (n : Int) := by omega
        obtain ⟨r, hrr⟩ : ∃ r, r = befE (lt d) (G' k) (G' f) := ⟨_, rfl⟩
        have C := before d wr base q g n cap p G' k f (H1.out.off (X := fun _ => False) (Off.of_below HB.out) (fun h => h)) (Row.off (X := fun _ => False) H2.out (Off.of_below HB.out) (fun _ _ h => h)) (by omega) (by omega) hn hc
        rw [← hrr] at C
        have HC := Lib.hid C
        have HRR := Lib.hid hrr
        clear C hrr
        cases r
        all_goals
          go_wp2_with (go_at_call 144; refine HC.out.mono ?_; rintro e w5 ⟨rfl, hb5⟩)
          go_roundw
          case rel =>
            first
              | exact ⟨k + 1, k, by go_num, by go_num, by omega, by omega, .inr (by omega), Seen.yes hs.out hk1 (by omega) HRR.out.symm, HB.out.trans (hb5.mono HB.out.size)⟩
              | exact ⟨k + 1, f, by go_num, by go_num, by omega, by omega, hf, Seen.no hs.out HRR.out.symm, HB.out.trans (hb5.mono HB.out.size)⟩
          case measure => simp [intOf]; omega
end QT
end Go.Proofs.Ytlnfhlmgnppcbaa

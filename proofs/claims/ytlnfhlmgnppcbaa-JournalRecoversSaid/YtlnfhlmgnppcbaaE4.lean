/- Clone, the two sorts, and Set of the program. -/
import Derived.Test.YtlnfhlmgnppcbaaE3
import Derived.Test.YtlnfhlmgnppcbaaSL
import Derived.Shelf.SlSortCmp.NoneTotal
namespace Go.Proofs.Ytlnfhlmgnppcbaa
open Go.RowKit Go.ChangeShapes Go.WideShapes Go.Deep
set_option linter.unusedVariables false
set_option linter.unusedSimpArgs false
theorem infoEv : (Try.prog.info? 24).map (fun i => (i.zero, i.size, i.bytes)) = some (some (.agg #[.int .i64 0, .int .i64 0, .int .i64 0, .int .i64 0, .int .i64 0, .int .i64 0, .int .i64 0, .int .i64 0, .int .i64 0]), 9, 72) := by kernel_rfl
theorem evs_one (v : Ev) : ∀ u ∈ evs v, u.oneCell' = true := by
  intro u hu
  simp only [evs, List.mem_cons, List.not_mem_nil, or_false] at hu
  rcases hu with rfl | rfl | rfl | rfl | rfl | rfl | rfl | rfl | rfl <;> rfl
theorem swoE : Go.Sort.SWO (ltOf cmpE) where
  irrefl x := by simp [ltOf, cmpE, cmpL_self]
  trans x y z h1 h2 := decide_eq_true (cmpL_trans (by rfl) (by rfl) (of_decide_eq_true h1) (of_decide_eq_true h2))
  ntrans x y z h1 h2 := by
    have h1 := of_decide_eq_false h1
    have h2 := of_decide_eq_false h2
    refine decide_eq_false fun h => ?_
    by_cases e : cmpE x y = 0
    · have : x = y := keyE_inj (cmpL_zero (by rfl) e)
      subst this; exact h2 h
    · have hn : cmpE y x = - cmpE x y := cmpL_neg _ _
      exact h2 (cmpL_trans (xs := keyE y) (ys := keyE x) (by rfl) (by rfl) (by unfold cmpE at *; omega) h)
theorem swoD : Go.Sort.SWO (ltOf cmpD) where
  irrefl x := by simp [ltOf, cmpD, cmpL_self]
  trans x y z h1 h2 := decide_eq_true (cmpL_trans (by rfl) (by rfl) (of_decide_eq_true h1) (of_decide_eq_true h2))
  ntrans x y z h1 h2 := by
    have h1 := of_decide_eq_false h1
    have h2 := of_decide_eq_false h2
    refine decide_eq_false fun h => ?_
    by_cases e : cmpD x y = 0
    · have : x = y := cmpD_zero e
      subst this; exact h2 h
    · have hn : cmpD y x = - cmpD x y := cmpL_neg _ _
      exact h2 (cmpL_trans (xs := keyD y) (ys := keyD x) (by rfl) (by rfl) (by unfold cmpD at *; omega) h)
def Sorted (cf : Ev → Ev → Int) (w : World) (base b n c : Nat) (F : Nat → Ev) (e : Ending) (w' : World) : Prop :=
  e = .returned (.tuple #[]) ∧ ∃ F' : Nat → Ev, (ents F' n).Perm (ents F n) ∧ (∀ i j, i < j → j < n → ltOf cf (F' j) (F' i) = false) ∧ EvRow w' base (.slice (some ⟨b, 0, none⟩) n c) n F' ∧ Off (fun k => k = b) w w'
set_option maxRecDepth 8000 in
theorem sortD (base b n c : Nat) (F : Nat → Ev) (w : World) (hR : EvRow w base (.slice (some ⟨b, 0, none⟩) n c) n F) (hn : n < 4611686018427387904) : Calls Try.prog 80 #[.slice (some ⟨b, 0, none⟩) n c, .func (.func 81) #[] #[]] w (Sorted cmpD w base b n c F) :=
  sort_row sort80 9 (fun w => by kernel_rfl) (fun w => by kernel_rfl) evs evs_len evs_one cmpD swoD 81 (enters_of Try.func81 (by kernel_rfl) rfl) (fun x y w => set81 x y w) hR hn
set_option maxRecDepth 8000 in
theorem sortE (base b n c : Nat) (F : Nat → Ev) (w : World) (hR : EvRow w base (.slice (some ⟨b, 0, none⟩) n c) n F) (hn : n < 4611686018427387904) : Calls Try.prog 80 #[.slice (some ⟨b, 0, none⟩) n c, .func (.func 84) #[] #[]] w (Sorted cmpE w base b n c F) :=
  sort_row sort80 9 (fun w => by kernel_rfl) (fun w => by kernel_rfl) evs evs_len evs_one cmpE swoE 84 (enters_of Try.func84 (by kernel_rfl) rfl) (fun x y w => compare84 x y w) hR hn
theorem sort_none (fv : Value) (c : Nat) (p : Option Addr) (w : World) : Calls Try.prog 80 #[.slice p 0 c, fv] w fun e w' => e = .returned (.tuple #[]) ∧ w' = w :=
  AnyF.slices_SortFunc_none sort80 p c fv w
def Cloned (w : World) (n : Nat) (f : Nat → List Value) (e : Ending) (w' : World) : Prop := ∃ v, e = .returned v ∧ Row w' w.heap.size 24 9 v n f ∧ Below w.heap.size w w'
theorem clone41w (ao : Option Addr) (n c : Nat) (f : Nat → List Value) (w : World) (h : Sl w 9 ao n c f) (h1 : ∀ i, ∀ u ∈ f i, u.oneCell' = true) (hn : n ≤ 1000000) : Calls Try.prog 79 #[.slice ao n c] w (Cloned w n f) := by
  obtain ⟨i0, hi, hz0, hz1, hz2⟩ := info_parts infoEv
  cases ao with
  | none =>
    obtain ⟨rfl, rfl⟩ := h.hno rfl
    have q34 : ∀ w, (binOp .eql 30 (.slice none 0 0) (.slice none 0 0)).run Try.prog w = .ok (.bool true) w := fun w => Lib.run_eql_slice_nil w _ _ none 0 0 0 0 Try.underlying30
    clear h
    go_enter Try.func79, Try.ntmps79
    go_wp2_with fail
    go_returns
    exact ⟨_, rfl, ⟨by simp [flat], .inl ⟨rfl, rfl⟩⟩, Below.refl _ _⟩
  | some a =>
    have HS := Lib.hid h
    have q34 : ∀ w, (binOp .eql 30 (.slice (some a) n c) (.slice none 0 0)).run Try.prog w = .ok (.bool false) w := fun w => Lib.run_eql_slice_nil w _ _ (some a) n c 0 0 Try.underlying30
    have B0 : Hid (Below w.heap.size w (w.alloc (.cells #[] 24))) := Lib.hid (by (repeat' (first | (with_reducible exact Below.refl _ _) | (with_reducible assumption) | (with_reducible refine Below.drew ?_) | (with_reducible refine below_drewN ?_ _) | (with_reducible refine Below.alloc ?_ ?_ _) | (with_reducible refine Below.setCell ?_ ?_ _) | go_size)))
    clear h
    go_enter Try.func79, Try.ntmps79
    go_wp2_with (at_builtin; refine wpList_append_sl _ rfl (.tmp 5) (.tmp 6) 30 rfl w.heap.size 24 i0 _ 9 72 Try.underlying30 hi hz0 hz1 hz2 rfl (by decide) _ 0 f rfl (World.ownsRow_made w #[] 0 (Nat.le_refl _) (Nat.zero_le _) (by simp)) HS.out.len (some a) n c f rfl HS.out.len (fun h => by cases h) (HS.out.sl.below HS.out.len B0.out) h1 (by omega) (by unfold maxLen; omega) (by simp) ?_)
    intro v' w' hr hg hf
    have B1 : Hid (Below w.heap.size w w') := Lib.hid ((Below.refl _ w).alloc (Nat.le_refl _) _ |>.grown hg (by simp) (by intro k hk; simp [Value.ownBlock] at hk; omega))
    have HR : Hid (Row w' w.heap.size 24 9 v' n f) := Lib.hid (by
      exact Row.congr hr fun i hi => by simp [cat])
    clear hr hg hf
    go_wp2_with fail
    go_returns
    exact ⟨_, rfl, HR.out, B1.out⟩
theorem compact46_nil (fv : Value) (w : World) : Calls Try.prog 85 #[.slice none 0 0, fv] w fun e w' => e = .returned (.slice none 0 0) ∧ w = w' := by
  go_enter Try.func85, Try.ntmps85
  go_wp2_with fail
  go_returns
  exact ⟨rfl, rfl⟩
def SetMade (w : World) (l : List Ev) (e : Ending) (w' : World) : Prop := ∃ (v : Value) (m : Nat) (R : Nat → Ev), e = .returned v ∧ ents R m = setE l ∧ EvRow w' w.heap.size v m R ∧ Below w.heap.size w w'
theorem set63 (ao : Option Addr) (n c : Nat) (F : Nat → Ev) (w : World) (h : Sl w 9 ao n c (fun i => evs (F i))) (hn : n ≤ 1000000) : Calls Try.prog 63 #[.slice ao n c] w (SetMade w (ents F n)) := by
  have C1 := Lib.hid (clone41w ao n c _ w h (fun i => evs_one _) hn)
  clear h
  go_enter Try.func63, Try.ntmps63
  go_wp2_with fail
  refine C1.out.mono ?_
  rintro e w1 ⟨v, rfl, r1, b1⟩
  have B1 := Lib.hid b1
  clear b1
  rcases Row.shape r1 with ⟨rfl, rfl⟩ | ⟨b, cap, rfl, hb, hlt, hnc, hcm⟩
  · have C2 := Lib.hid (sort_none (.func (.func 81) #[] #[]) 0 none w1)
    have C3 := Lib.hid (sort_none (.func (.func 84) #[] #[]) 0 none w1)
    clear r1
    go_wp2_with fail
    refine C2.out.mono ?_
    rintro e w2 ⟨rfl, rfl⟩
    go_wp2_with fail
    refine (compact46_nil (.func (.func 86) #[] #[]) _).mono ?_
    rintro e w3 ⟨rfl, rfl⟩
    go_wp2_with fail
    refine C3.out.mono ?_
    rintro e w4 ⟨rfl, rfl⟩
    go_wp2_with fail
    go_returns
    exact ⟨_, 0, F, rfl, rfl, ⟨by simp [flat], .inl ⟨rfl, rfl⟩⟩, B1.out⟩
  · have R1 : Hid (EvRow w1 w.heap.size (.slice (some ⟨b, 0, none⟩) n cap) n F) := Lib.hid r1
    clear r1
    have C2 := Lib.hid (sortD _ b n cap F w1 R1.out (by omega))
    go_wp2_with fail
    refine C2.out.mono ?_
    rintro e w2 ⟨rfl, D, p2, s2, r2, o2⟩
    have R2 := Lib.hid r2
    have S2 := Lib.hid s2
    have P2 := Lib.hid p2
    have O2 := Lib.hid o2
    clear r2 s2 p2 o2 C2 C1
    have C3 := Lib.hid (compact85 _ b n cap D w2 R2.out)
    go_wp2_with fail
    refine C3.out.mono ?_
    rintro e w3 ⟨m, G, rfl, hm, g3, r3, o3⟩
    have R3 := Lib.hid r3
    have G3 := Lib.hid g3
    have O3 := Lib.hid o3
    clear r3 g3 o3 C3
    have C4 := Lib.hid (sortE _ b m cap G w3 R3.out (by omega))
    go_wp2_with fail
    refine C4.out.mono ?_
    rintro e w4 ⟨rfl, R, p4, s4, r4, o4⟩
    have R4 := Lib.hid r4
    have S4 := Lib.hid s4
    have P4 := Lib.hid p4
    have O4 := Lib.hid o4
    clear r4 s4 p4 o4 C4
    go_wp2_with fail
    go_returns
    refine ⟨_, m, R, rfl, set_of_sorts P2.out (fun i j h1 h2 => of_decide_eq_false (S2.out i j h1 h2)) (by rw [← G3.out]; exact P4.out) (fun i j h1 h2 => S4.out i j h1 h2), R4.out, ?_⟩
    have o := (O2.out.trans (O3.out.trans O4.out (fun _ _ h => h)) (fun _ _ h => h))
    exact B1.out.trans (o.toBelow B1.out.size (fun k hk h => by omega))
end Go.Proofs.Ytlnfhlmgnppcbaa

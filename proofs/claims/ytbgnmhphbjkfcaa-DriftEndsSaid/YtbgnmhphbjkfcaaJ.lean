/- Contract: the law's syncs. -/
import Derived.Test.YtbgnmhphbjkfcaaH
namespace Go.Proofs.Ytbgnmhphbjkfcaa
open Go.RowKit Go.ChangeShapes Go.WideShapes Go.Deep
set_option linter.unusedVariables false
set_option linter.unusedSimpArgs false

structure Sn where
  loc : Int
  tru : Int
  bef : Int
  aft : Int
def Sn4 (w : World) (a : Option Addr) (len : Nat) (X : Nat → Sn) : Prop :=
  ∀ i, i < len → ∃ b off, a = some ⟨b, off, none⟩ ∧ w.cell? ⟨b, off + i * 4, none⟩ = some (.int .i64 (X i).loc) ∧ w.cell? ⟨b, off + i * 4 + 1, none⟩ = some (.int .i64 (X i).tru) ∧ w.cell? ⟨b, off + i * 4 + 2, none⟩ = some (.int .i64 (X i).bef) ∧ w.cell? ⟨b, off + i * 4 + 3, none⟩ = some (.int .i64 (X i).aft)
def goodN (p t0 t : Int) (x : Sn) : Bool := isMom x.loc && (isMom x.tru && (isMom x.bef && (isMom x.aft && keepsB p x.loc x.tru t0 t)))
def syOf (x : Sn) : Sy := ⟨x.loc, max 0 (x.tru - x.bef), min 4294943999 (x.tru + x.aft)⟩
def syCells (Y : Nat → Sy) (i : Nat) : List Value := [.int .i64 (Y i).loc, .int .i64 (Y i).frm, .int .i64 (Y i).til]
theorem sl_of_owns {w : World} {base n : Nat} {v : Value} {Y : Nat → Sy} (h : w.ownsRow base 43 3 v n (flat (syCells Y) n)) : ∃ (a : Option Addr) (cap : Nat), v = .slice a n cap ∧ n ≤ cap ∧ cap ≤ maxLen ∧ Sl w a n Y := by
  obtain ⟨a, cap, hv, hn, hm, hc⟩ := owns_shape (f := syCells Y) (size := 3) (fun _ => rfl) h
  refine ⟨a, cap, hv, hn, hm, fun i hi => ?_⟩
  obtain ⟨g, ha, hcc⟩ := hc i hi
  have h0 := hcc 0 (by omega)
  have h1 := hcc 1 (by omega)
  have h2 := hcc 2 (by omega)
  exact ⟨g, 0, ha, by simpa [syCells] using h0, by simpa [syCells] using h1, by simpa [syCells] using h2⟩
theorem Try.info43 : (Try.prog.info? 43).map (fun i => (i.zero, i.size, i.bytes)) = some (some (.agg #[.int .i64 0, .int .i64 0, .int .i64 0]), 3, 24) := by kernel_rfl
def SyncsPost (w : World) (len : Nat) (X : Nat → Sn) (p t0 t : Int) (e : Ending) (w' : World) : Prop :=
  Below w.heap.size w w' ∧ ((∃ i, i < len ∧ goodN p t0 t (X i) = false) ∧ e = .returned (.tuple #[.slice none 0 0, .bool false]) ∨
    (∀ i, i < len → goodN p t0 t (X i) = true) ∧ ∃ (a : Option Addr) (cap : Nat), e = .returned (.tuple #[.slice a len cap, .bool true]) ∧ len ≤ cap ∧ cap ≤ maxLen ∧ Sl w' a len (fun i => syOf (X i)))
theorem goodN_ways {p t0 t : Int} {x : Sn} (h : goodN p t0 t x = false) : isMom x.loc = false ∨ (isMom x.loc = true ∧ isMom x.tru = false) ∨ (isMom x.loc = true ∧ isMom x.tru = true ∧ isMom x.bef = false) ∨
    (isMom x.loc = true ∧ isMom x.tru = true ∧ isMom x.bef = true ∧ isMom x.aft = false) ∨ (isMom x.loc = true ∧ isMom x.tru = true ∧ isMom x.bef = true ∧ isMom x.aft = true ∧ keepsB p x.loc x.tru t0 t = false) := by
  unfold goodN at h
  cases h1 : isMom x.loc <;> cases h2 : isMom x.tru <;> cases h3 : isMom x.bef <;> cases h4 : isMom x.aft <;> simp [h1, h2, h3, h4] at h ⊢ <;> assumption
theorem goodN_all {p t0 t : Int} {x : Sn} (h : goodN p t0 t x = true) : isMom x.loc = true ∧ isMom x.tru = true ∧ isMom x.bef = true ∧ isMom x.aft = true ∧ keepsB p x.loc x.tru t0 t = true := by
  simpa [goodN] using h

set_option maxHeartbeats 2000000 in
theorem syncs18 (a : Option Addr) (len cap : Nat) (X : Nat → Sn) (p t0 t : Int) (w : World) (hl : len ≤ 32) (h0 : 0 ≤ p ∧ p ≤ 100000) (ht0 : 0 ≤ t0 ∧ t0 ≤ 4294943999) (ht : 0 ≤ t ∧ t ≤ 4294943999) (hS : Sn4 w a len X) :
    Calls Try.prog 18 #[.slice a len cap, .int .i64 p, .int .i64 t0, .int .i64 t] w (SyncsPost w len X p t0 t) := by
  obtain ⟨i0, hi, hz0, hz1, hz2⟩ := info_parts Try.info43
  have HS := Lib.hid hS
  clear hS
  go_enter Try.func18, Try.ntmps18
  go_wp2_with fail
  go_loopw [10, 11] (fun v c wr => ∃ k : Nat, k ≤ len ∧ c = .int .i64 k ∧ (∀ i, i < k → goodN p t0 t (X i) = true) ∧ wr.ownsRow w.heap.size 43 3 v k (flat (syCells (fun i => syOf (X i))) k) ∧ Below w.heap.size w wr) (fun _ c _ => len - (intOf c).toNat)
  case atStart => exact ⟨0, Nat.zero_le _, rfl, fun i hi => absurd hi (by omega), World.ownsRow_nil _ _ _ _, Below.refl _ _⟩
  case round =>
    obtain ⟨k, hk, rfl, hgood, hown, hbel⟩ := hrel
    have HG := Lib.hid hgood
    clear hgood
    by_cases hlt : k < len
    · obtain ⟨b, off, rfl, d0, d1, d2, d3⟩ := HS.out k hlt
      have e0 := cell_kept hbel d0
      have e1 := cell_kept hbel d1
      have e2 := cell_kept hbel d2
      have e3 := cell_kept hbel d3
      have j0 : (k : Int) < (len : Int) := by omega
      clear d0 d1 d2 d3
      cases hgd : goodN p t0 t (X k)
      · rcases goodN_ways hgd with g1 | ⟨g1, g2⟩ | ⟨g1, g2, g3⟩ | ⟨g1, g2, g3, g4⟩ | ⟨g1, g2, g3, g4, g5⟩
        rotate_left 4
        · have HB := Lib.hid hgd
          have KC := fun w => keeps25 p (X k).loc (X k).tru t0 t w h0 (isMom_iff.1 g1) (isMom_iff.1 g2) ht0 ht
          rw [g5] at KC
          clear hgd g5
          go_wp2_with (first
            | (go_at_call 17; refine (moment17 _ _).mono ?_; rintro e w' ⟨rfl, rfl⟩)
            | (go_at_call 25; refine (KC _).mono ?_; rintro e w' ⟨rfl, rfl⟩))
          go_returns
          exact ⟨hbel.alloc hbel.size _, .inl ⟨⟨k, hlt, HB.out⟩, rfl⟩⟩
        all_goals
          have HB := Lib.hid hgd
          clear hgd
          go_wp2_with (go_at_call 17; refine (moment17 _ _).mono ?_; rintro e w' ⟨rfl, rfl⟩)
          go_returns
          exact ⟨hbel.alloc hbel.size _, .inl ⟨⟨k, hlt, HB.out⟩, rfl⟩⟩
      · obtain ⟨g1, g2, g3, g4, g5⟩ := goodN_all hgd
        have HB := Lib.hid hgd
        have KC := fun w => keeps25 p (X k).loc (X k).tru t0 t w h0 (isMom_iff.1 g1) (isMom_iff.1 g2) ht0 ht
        rw [g5] at KC
        clear hgd g5
        obtain ⟨a2, b2⟩ := isMom_iff.1 g2
        obtain ⟨a3, b3⟩ := isMom_iff.1 g3
        obtain ⟨a4, b4⟩ := isMom_iff.1 g4
        by_cases cf : (X k).tru - (X k).bef ≤ 0
        · by_cases cu : 4294943999 ≤ (X k).tru + (X k).aft
          ·
            go_wp2_with (first
              | (go_at_call 17; refine (moment17 _ _).mono ?_; rintro e w' ⟨rfl, rfl⟩)
              | (go_at_call 25; refine (KC _).mono ?_; rintro e w' ⟨rfl, rfl⟩)
              | (at_builtin; refine wpList_append_own _ rfl _ _ 29 rfl w.heap.size 43 i0 (.agg #[.int .i64 0, .int .i64 0, .int .i64 0]) 3 24 Try.underlying29 hi hz0 hz1 hz2 rfl (by decide) _ _ _ rfl ((hown.alloc _).alloc _) ⟨wr.heap.size + 1, 0, none⟩ 1 1 [.int .i64 (X k).loc, .int .i64 0, .int .i64 4294943999] rfl rfl ?c1 ?c2 ?c3 ?c4 ?c5 ?_))
            case c1 =>
              intro j u hj
              match j, hj with
              | 0, hj => simp at hj; subst hj; simp [Addr.add, go_sem]
              | 1, hj => simp at hj; subst hj; simp [Addr.add, go_sem]
              | 2, hj => simp at hj; subst hj; simp [Addr.add, go_sem]
              | j + 3, hj => simp at hj
            case c2 => intro u hu; simp at hu; rcases hu with rfl | rfl | rfl <;> rfl
            case c3 => unfold maxLen; omega
            case c4 => omega
            case c5 => have := hbel.size; simp; omega
            intro v' w1 hown' hgrow _
            have eY : Hid (flat (syCells (fun i => syOf (X i))) (k + 1) = flat (syCells (fun i => syOf (X i))) k ++ [.int .i64 (X k).loc, .int .i64 0, .int .i64 4294943999]) := by
              rw [flat_succ]; simp only [syCells, syOf, Hid]; rw [show max 0 ((X k).tru - (X k).bef) = 0 by omega, show min 4294943999 ((X k).tru + (X k).aft) = 4294943999 by omega]
            have hb2 : Below w.heap.size w w1 := ((hbel.alloc hbel.size _).alloc (by have := hbel.size; go_size) _).grown hgrow (by have := hbel.size; go_size) (fun j hj => (hown.lt j hj).1)
            clear hgrow hown
            go_wp2
            go_roundw
            case rel => exact ⟨k + 1, by omega, by go_num, fun i hi => (Nat.lt_succ_iff_lt_or_eq.1 hi).elim (fun h => HG.out i h) (fun h => h ▸ HB.out), by rw [eY.out]; exact hown', hb2⟩
            case measure => simp [intOf]; omega
          · have cu' : (X k).tru + (X k).aft < 4294943999 := by omega
            go_wp2_with (first
              | (go_at_call 17; refine (moment17 _ _).mono ?_; rintro e w' ⟨rfl, rfl⟩)
              | (go_at_call 25; refine (KC _).mono ?_; rintro e w' ⟨rfl, rfl⟩)
              | (at_builtin; refine wpList_append_own _ rfl _ _ 29 rfl w.heap.size 43 i0 (.agg #[.int .i64 0, .int .i64 0, .int .i64 0]) 3 24 Try.underlying29 hi hz0 hz1 hz2 rfl (by decide) _ _ _ rfl ((hown.alloc _).alloc _) ⟨wr.heap.size + 1, 0, none⟩ 1 1 [.int .i64 (X k).loc, .int .i64 0, .int .i64 ((X k).tru + (X k).aft)] rfl rfl ?c1 ?c2 ?c3 ?c4 ?c5 ?_))
            case c1 =>
              intro j u hj
              match j, hj with
              | 0, hj => simp at hj; subst hj; simp [Addr.add, go_sem]
              | 1, hj => simp at hj; subst hj; simp [Addr.add, go_sem]
              | 2, hj => simp at hj; subst hj; simp [Addr.add, go_sem]
              | j + 3, hj => simp at hj
            case c2 => intro u hu; simp at hu; rcases hu with rfl | rfl | rfl <;> rfl
            case c3 => unfold maxLen; omega
            case c4 => omega
            case c5 => have := hbel.size; simp; omega
            intro v' w1 hown' hgrow _
            have eY : Hid (flat (syCells (fun i => syOf (X i))) (k + 1) = flat (syCells (fun i => syOf (X i))) k ++ [.int .i64 (X k).loc, .int .i64 0, .int .i64 ((X k).tru + (X k).aft)]) := by
              rw [flat_succ]; simp only [syCells, syOf, Hid]; rw [show max 0 ((X k).tru - (X k).bef) = 0 by omega, show min 4294943999 ((X k).tru + (X k).aft) = ((X k).tru + (X k).aft) by omega]
            have hb2 : Below w.heap.size w w1 := ((hbel.alloc hbel.size _).alloc (by have := hbel.size; go_size) _).grown hgrow (by have := hbel.size; go_size) (fun j hj => (hown.lt j hj).1)
            clear hgrow hown
            go_wp2
            go_roundw
            case rel => exact ⟨k + 1, by omega, by go_num, fun i hi => (Nat.lt_succ_iff_lt_or_eq.1 hi).elim (fun h => HG.out i h) (fun h => h ▸ HB.out), by rw [eY.out]; exact hown', hb2⟩
            case measure => simp [intOf]; omega
        · have cf' : 0 < (X k).tru - (X k).bef := by omega
          by_cases cu : 4294943999 ≤ (X k).tru + (X k).aft
          ·
            go_wp2_with (first
              | (go_at_call 17; refine (moment17 _ _).mono ?_; rintro e w' ⟨rfl, rfl⟩)
              | (go_at_call 25; refine (KC _).mono ?_; rintro e w' ⟨rfl, rfl⟩)
              | (at_builtin; refine wpList_append_own _ rfl _ _ 29 rfl w.heap.size 43 i0 (.agg #[.int .i64 0, .int .i64 0, .int .i64 0]) 3 24 Try.underlying29 hi hz0 hz1 hz2 rfl (by decide) _ _ _ rfl ((hown.alloc _).alloc _) ⟨wr.heap.size + 1, 0, none⟩ 1 1 [.int .i64 (X k).loc, .int .i64 ((X k).tru - (X k).bef), .int .i64 4294943999] rfl rfl ?c1 ?c2 ?c3 ?c4 ?c5 ?_))
            case c1 =>
              intro j u hj
              match j, hj with
              | 0, hj => simp at hj; subst hj; simp [Addr.add, go_sem]
              | 1, hj => simp at hj; subst hj; simp [Addr.add, go_sem]
              | 2, hj => simp at hj; subst hj; simp [Addr.add, go_sem]
              | j + 3, hj => simp at hj
            case c2 => intro u hu; simp at hu; rcases hu with rfl | rfl | rfl <;> rfl
            case c3 => unfold maxLen; omega
            case c4 => omega
            case c5 => have := hbel.size; simp; omega
            intro v' w1 hown' hgrow _
            have eY : Hid (flat (syCells (fun i => syOf (X i))) (k + 1) = flat (syCells (fun i => syOf (X i))) k ++ [.int .i64 (X k).loc, .int .i64 ((X k).tru - (X k).bef), .int .i64 4294943999]) := by
              rw [flat_succ]; simp only [syCells, syOf, Hid]; rw [show max 0 ((X k).tru - (X k).bef) = ((X k).tru - (X k).bef) by omega, show min 4294943999 ((X k).tru + (X k).aft) = 4294943999 by omega]
            have hb2 : Below w.heap.size w w1 := ((hbel.alloc hbel.size _).alloc (by have := hbel.size; go_size) _).grown hgrow (by have := hbel.size; go_size) (fun j hj => (hown.lt j hj).1)
            clear hgrow hown
            go_wp2
            go_roundw
            case rel => exact ⟨k + 1, by omega, by go_num, fun i hi => (Nat.lt_succ_iff_lt_or_eq.1 hi).elim (fun h => HG.out i h) (fun h => h ▸ HB.out), by rw [eY.out]; exact hown', hb2⟩
            case measure => simp [intOf]; omega
          · have cu' : (X k).tru + (X k).aft < 4294943999 := by omega
            go_wp2_with (first
              | (go_at_call 17; refine (moment17 _ _).mono ?_; rintro e w' ⟨rfl, rfl⟩)
              | (go_at_call 25; refine (KC _).mono ?_; rintro e w' ⟨rfl, rfl⟩)
              | (at_builtin; refine wpList_append_own _ rfl _ _ 29 rfl w.heap.size 43 i0 (.agg #[.int .i64 0, .int .i64 0, .int .i64 0]) 3 24 Try.underlying29 hi hz0 hz1 hz2 rfl (by decide) _ _ _ rfl ((hown.alloc _).alloc _) ⟨wr.heap.size + 1, 0, none⟩ 1 1 [.int .i64 (X k).loc, .int .i64 ((X k).tru - (X k).bef), .int .i64 ((X k).tru + (X k).aft)] rfl rfl ?c1 ?c2 ?c3 ?c4 ?c5 ?_))
            case c1 =>
              intro j u hj
              match j, hj with
              | 0, hj => simp at hj; subst hj; simp [Addr.add, go_sem]
              | 1, hj => simp at hj; subst hj; simp [Addr.add, go_sem]
              | 2, hj => simp at hj; subst hj; simp [Addr.add, go_sem]
              | j + 3, hj => simp at hj
            case c2 => intro u hu; simp at hu; rcases hu with rfl | rfl | rfl <;> rfl
            case c3 => unfold maxLen; omega
            case c4 => omega
            case c5 => have := hbel.size; simp; omega
            intro v' w1 hown' hgrow _
            have eY : Hid (flat (syCells (fun i => syOf (X i))) (k + 1) = flat (syCells (fun i => syOf (X i))) k ++ [.int .i64 (X k).loc, .int .i64 ((X k).tru - (X k).bef), .int .i64 ((X k).tru + (X k).aft)]) := by
              rw [flat_succ]; simp only [syCells, syOf, Hid]; rw [show max 0 ((X k).tru - (X k).bef) = ((X k).tru - (X k).bef) by omega, show min 4294943999 ((X k).tru + (X k).aft) = ((X k).tru + (X k).aft) by omega]
            have hb2 : Below w.heap.size w w1 := ((hbel.alloc hbel.size _).alloc (by have := hbel.size; go_size) _).grown hgrow (by have := hbel.size; go_size) (fun j hj => (hown.lt j hj).1)
            clear hgrow hown
            go_wp2
            go_roundw
            case rel => exact ⟨k + 1, by omega, by go_num, fun i hi => (Nat.lt_succ_iff_lt_or_eq.1 hi).elim (fun h => HG.out i h) (fun h => h ▸ HB.out), by rw [eY.out]; exact hown', hb2⟩
            case measure => simp [intOf]; omega
    · obtain rfl : k = len := by omega
      obtain ⟨a', cap', rfl, hn, hm, hsl⟩ := sl_of_owns hown
      have HL := Lib.hid hsl
      clear hsl hown
      go_wp2
      go_returns
      exact ⟨hbel, .inr ⟨HG.out, a', cap', rfl, hn, hm, HL.out⟩⟩
end Go.Proofs.Ytbgnmhphbjkfcaa

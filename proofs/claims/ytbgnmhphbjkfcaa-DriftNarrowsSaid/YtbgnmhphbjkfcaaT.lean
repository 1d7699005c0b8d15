/- The law DriftNarrows walked. -/
import Derived.Test.YtbgnmhphbjkfcaaS
namespace Go.Proofs.Ytbgnmhphbjkfcaa
open Go.RowKit Go.ChangeShapes Go.WideShapes Go.Deep
set_option linter.unusedVariables false
set_option linter.unusedSimpArgs false

theorem cells_flat {w : World} {b off len k : Nat} {L : Nat → Sy} (h : Sl w (some ⟨b, off, none⟩) len L) (hk : k ≤ len) : ∀ j u, (flat (syCells L) k)[j]? = some u → w.cell? ((⟨b, off, none⟩ : Addr).add j) = some u := by
  intro j u hj
  have hlt : j < k * 3 := by
    have := (List.getElem?_eq_some_iff.1 hj).1
    rwa [flat_len (s := 3) (fun _ => rfl)] at this
  have hd : j / 3 < k := by omega
  have e := flat_get (f := syCells L) (s := 3) (fun _ => rfl) (j := j % 3) (by omega) hd
  rw [show j / 3 * 3 + j % 3 = j by omega, hj] at e
  obtain ⟨b', off', e', h0, h1, h2⟩ := h (j / 3) (by omega)
  cases e'
  rw [add_flat]
  rcases (show j % 3 = 0 ∨ j % 3 = 1 ∨ j % 3 = 2 by omega) with h3 | h3 | h3
  · rw [h3] at e; simp [syCells] at e; subst e; rw [← h0]; congr 2; omega
  · rw [h3] at e; simp [syCells] at e; subst e; rw [← h1]; congr 2; omega
  · rw [h3] at e; simp [syCells] at e; subst e; rw [← h2]; congr 2; omega
theorem flat3 (L : Nat → Sy) (k : Nat) : (flat (syCells L) k).length = k * 3 := flat_len (f := syCells L) (s := 3) (fun _ => rfl) k
theorem Sl.from {w : World} {b off len k : Nat} {L : Nat → Sy} (h : Sl w (some ⟨b, off, none⟩) len L) : Sl w (some ⟨b, off + k * 3, none⟩) (len - k) (fun j => L (k + j)) := by
  intro i hi
  obtain ⟨b', off', e', h0, h1, h2⟩ := h (k + i) (by omega)
  cases e'
  refine ⟨b, off + k * 3, rfl, ?_, ?_, ?_⟩
  · rw [← h0]; congr 2; omega
  · rw [← h1]; congr 2; omega
  · rw [← h2]; congr 2; omega

theorem boundsV_zero {len : Nat} {L : Nat → Sy} {p t x y z : Int} (h : boundsV len L p t = .tuple #[.agg #[.int .i64 x, .int .i64 y], .int .i64 z]) (hz : ¬ z = 0) : x = 0 ∧ y = 0 := by
  unfold boundsV at h
  split at h
  · simp at h; omega
  split at h
  · simp at h; omega
  split at h
  · simp at h; omega
  · simp at h; omega
theorem boundsV_yes {len : Nat} {L : Nat → Sy} {p t x y : Int} (h : boundsV len L p t = .tuple #[.agg #[.int .i64 x, .int .i64 y], .int .i64 0]) : checkE len L = 0 ∧ isRate p = true ∧ isMom t = true ∧ bLo L p t len = x ∧ bHi L p t len = y ∧ x ≤ y := by
  unfold boundsV at h
  split at h
  · rename_i h0; simp at h; omega
  split at h
  · simp at h
  split at h
  · simp at h
  · rename_i h0 h1 h2
    simp at h
    obtain ⟨rfl, rfl⟩ := h
    simp at h0
    have h3 : isRate p = true ∧ isMom t = true := Classical.not_not.1 h1
    exact ⟨h0, h3.1, h3.2, rfl, rfl, by omega⟩

set_option maxRecDepth 100000 in
set_option maxHeartbeats 4000000 in
theorem run_driftNarrows {H : Type} {enc : TypeId × Value → H} (W : World) (base : Nat) (v0 : Value) (d0 : DataW H) (p0 : List MemPlace) (hv0 : Value.okWide Try.prog W .any base 29 v0) (h0 : DataW.Trod enc Try.prog W 0 (fun _ => true) true 29 v0 d0 p0)
    (v1 : Value) (d1 : DataW H) (p1 : List MemPlace) (hv1 : Value.okWide Try.prog W .any base 5 v1) (h1 : DataW.Trod enc Try.prog W 0 (fun _ => true) true 5 v1 d1 p1)
    (v2 : Value) (d2 : DataW H) (p2 : List MemPlace) (hv2 : Value.okWide Try.prog W .any base 38 v2) (h2 : DataW.Trod enc Try.prog W 0 (fun _ => true) true 38 v2 d2 p2)
    (v3 : Value) (d3 : DataW H) (p3 : List MemPlace) (hv3 : Value.okWide Try.prog W .any base 3 v3) (h3 : DataW.Trod enc Try.prog W 0 (fun _ => true) true 3 v3 d3 p3) :
    Calls Try.prog 7 #[v0, v1, v2, v3] W fun e w' => e = .returned (.bool true) ∧ Below W.heap.size W w' := by
  obtain ⟨a, len, cap, L, rfl, hl, hm, hS, _⟩ := open_sync hv0 h0
  obtain ⟨n, rfl, rfl, rfl, wn⟩ := open_int Try.underlying5 hv1 h1
  obtain ⟨r0, r1, rfl, _, _⟩ := open_rates hv2 h2
  obtain ⟨t, rfl, rfl, rfl, _⟩ := open_int Try.underlying3 hv3 h3
  obtain ⟨n0, n1⟩ := bounds_u8 wn
  clear hv0 hv1 h0 h1 hv2 h2 hv3 h3
  by_cases hlen : len < 2 ∨ 32 < len
  · clear hS
    rcases (show len < 2 ∨ (¬ len < 2 ∧ 32 < len) by omega) with g1 | ⟨g1, g2⟩
    all_goals
      go_enter Try.func7, Try.ntmps7
      go_wp2_with (go_at_call 12; refine (awake12 _).mono ?_; rintro e w5 ⟨rfl, hb5⟩)
      go_returns
      exact ⟨rfl, ((Below.refl _ _).alloc (Nat.le_refl _) _).trans (hb5.mono (by go_size))⟩
  have k0 : decide ((len : Int) < 2) = false := by simp; omega
  have k1 : decide ((32 : Int) < (len : Int)) = false := by simp; omega
  obtain ⟨p, hp⟩ : ∃ p, p = min r0 r1 := ⟨_, rfl⟩
  obtain ⟨q, hq⟩ : ∃ q, q = max r0 r1 := ⟨_, rfl⟩
  have hpq : p ≤ q := by omega
  have e1 : (if r1 < r0 then r1 else r0) = p := by omega
  have e2 : (if r0 < r1 then r1 else r0) = q := by omega
  have HE1 := Lib.hid e1
  have HE2 := Lib.hid e2
  clear e1 e2 hp hq
  obtain ⟨b, off, rfl, hcc⟩ := hS.all (by omega)
  have HS := Lib.hid hcc
  have HS0 := Lib.hid hS
  clear hS hcc
  by_cases hin : 0 ≤ p ∧ q ≤ 100000
  rotate_left
  · clear HS HS0
    rcases (show p < 0 ∨ (¬ p < 0 ∧ 100000 < q) by omega) with g1 | ⟨g1, g2⟩
    all_goals
      go_enter Try.func7, Try.ntmps7
      go_wp2_with fail
      go_region
      rw [HE1.out, HE2.out]
      go_wp2_with (go_at_call 12; refine (awake12 _).mono ?_; rintro e w5 ⟨rfl, hb5⟩)
      go_returns
      exact ⟨rfl, (((Below.refl _ _).alloc (Nat.le_refl _) _).drew).trans (hb5.mono (by go_size))⟩
  obtain ⟨q0, q1⟩ := hin
  have j0 : decide (p < 0) = false := by simp; omega
  have j1 : decide (100000 < q) = false := by simp; omega
  have hn : 0 ≤ n % (len : Int) ∧ n % (len : Int) < (len : Int) := ⟨Int.emod_nonneg _ (by omega), Int.emod_lt_of_pos _ (by omega)⟩
  obtain ⟨k, hkm⟩ := Int.eq_ofNat_of_zero_le hn.1
  have hk : k < len := by omega
  obtain ⟨i0, hi, hz0, hz1, hz2⟩ := info_parts Try.info43
  have hS8 : Sl (W.alloc (.cells #[.int .i64 r0, .int .i64 r1] 38)).drew (some ⟨b, off, none⟩) len L := HS0.out.kept (((Below.refl _ _).alloc (Nat.le_refl _) _).drew)
  have HS1 := Lib.hid hS8
  have one' : ∀ (Y : Nat → Sy) (n : Nat), ∀ u ∈ flat (syCells Y) n, u.oneCell' = true := by
    intro Y n
    induction n with
    | zero => intro u hu; cases hu
    | succ n ih =>
      intro u hu
      rw [flat_succ] at hu
      rcases List.mem_append.1 hu with h | h
      · exact ih u h
      · simp [syCells] at h; rcases h with rfl | rfl | rfl <;> rfl
  have ONE := Lib.hid one'
  clear hn hS8 one'
  go_enter Try.func7, Try.ntmps7
  go_wp2_with fail
  go_region
  rw [HE1.out, HE2.out]
  go_wp2_with (at_builtin; go_loud (refine wpList_append_own _ rfl (.tmp 50) (.tmp 53) 29 rfl W.heap.size 43 i0 (.agg #[.int .i64 0, .int .i64 0, .int .i64 0]) 3 24 Try.underlying29 hi hz0 hz1 hz2 rfl (by decide) _ _ _ rfl (World.ownsRow_nil _ _ _ _) ⟨b, off, none⟩ k cap (flat (syCells L) k) rfl (flat3 _ _) ?c1 ?c2 ?c3 ?c4 ?c5 ?_))
  case c1 => exact cells_flat HS1.out (by omega)
  case c2 => exact ONE.out _ _
  case c3 => unfold maxLen; omega
  case c4 => omega
  case c5 => go_size
  intro v1 w1 hown1 hgrow1 _
  have hb1 : Below W.heap.size W w1 := ((Below.refl _ _).alloc (Nat.le_refl _) _).drew.grown hgrow1 (by go_size) (fun j hj => by cases hj)
  have HS2 := Lib.hid (HS0.out.kept hb1)
  try simp only [Nat.zero_add, List.nil_append] at hown1
  clear hgrow1 HS1
  by_cases hcap : cap = k + 1
  · subst hcap
    go_wp2_with (at_builtin; go_loud (refine wpList_append_own _ rfl (.tmp 55) (.tmp 59) 29 rfl W.heap.size 43 i0 (.agg #[.int .i64 0, .int .i64 0, .int .i64 0]) 3 24 Try.underlying29 hi hz0 hz1 hz2 rfl (by decide) _ _ _ rfl hown1 ⟨b, off, none⟩ 0 0 [] rfl rfl ?c1 ?c2 ?c3 ?c4 ?c5 ?_))
    case c1 => intro j u hj; simp at hj
    case c2 => intro u hu; cases hu
    case c3 => unfold maxLen; omega
    case c4 => omega
    case c5 => exact hb1.size
    intro v2 w2 hown2' hgrow2 _
    have hown2 : w2.ownsRow W.heap.size 43 3 v2 (k + (len - (k + 1))) (flat (syCells L) k ++ flat (fun j => syCells L (k + 1 + j)) (len - (k + 1))) := by
      rw [show len - (k + 1) = 0 by omega]; simp only [flat, List.append_nil, Nat.add_zero]; exact hown2'
    clear hown2'
    have hbel2 : Below W.heap.size W w2 := hb1.grown hgrow2 hb1.size (fun j hj => (hown1.lt j hj).1)
    obtain ⟨m, hm2⟩ : ∃ m, len = m + 2 := ⟨len - 2, by omega⟩
    have hown3 : w2.ownsRow W.heap.size 43 3 v2 (m + 1) (flat (syCells (skip L k)) (m + 1)) := by
      have e1 : m + 1 = k + (len - (k + 1)) := by omega
      rw [e1, ← skip_cells, ← flat_skip]
      exact hown2
    obtain ⟨a', cap', rfl, hn', hm', hsl⟩ := sl_of_owns hown3
    unfold maxLen at hm'
    have HL := Lib.hid hsl
    have HS3 := Lib.hid (HS0.out.kept hbel2)
    clear hgrow2 hown1 hown2 hown3 hsl hb1 HS2 ONE HS0 HS
    obtain ⟨xa, ya, za, EA⟩ := boundsV_form len L p t
    obtain ⟨xb, yb, zb, EB⟩ := boundsV_form (m + 1) (skip L k) p t
    obtain ⟨xc, yc, zc, EC⟩ := boundsV_form len L q t
    have key : Hid ((¬ za = 0 → xa = 0 ∧ ya = 0) ∧ (za = 0 → xa ≤ ya ∧ zb = 0 ∧ zc = 0 ∧ insideB xa ya xb yb = true ∧ insideB xa ya xc yc = true)) := by
      refine ⟨fun h => boundsV_zero EA h, fun h => ?_⟩
      subst h
      obtain ⟨hc, hp, ht, rfl, rfl, hle⟩ := boundsV_yes EA
      obtain ⟨t0, t1⟩ := isMom_iff.1 ht
      subst hm2
      obtain ⟨n1, n2, n3, n4, n5⟩ := narrows (k := k) (q := q) (p := p) hk hc q0 hpq q1 t0 t1
      have hq := isRate_iff.2 (show 0 ≤ q ∧ q ≤ 100000 by omega)
      rw [boundsV_ok n1 hp ht rfl rfl (by omega)] at EB
      rw [boundsV_ok hc hq ht rfl rfl (by omega)] at EC
      simp at EB EC
      obtain ⟨⟨rfl, rfl⟩, rfl⟩ := EB
      obtain ⟨⟨rfl, rfl⟩, rfl⟩ := EC
      exact ⟨hle, rfl, rfl, by simp [insideB]; omega, by simp [insideB]; omega⟩
    have B1 := fun w h => bounds13 (some ⟨b, off, none⟩) len (k + 1) L p t w hl hm h
    have B2 := fun w h => bounds13 a' (m + 1) cap' (skip L k) p t w hn' (by omega) h
    have B3 := fun w h => bounds13 (some ⟨b, off, none⟩) len (k + 1) L q t w hl hm h
    rw [EA] at B1
    rw [EB] at B2
    rw [EC] at B3
    have HB1 := Lib.hid B1
    have HB2 := Lib.hid B2
    have HB3 := Lib.hid B3
    clear B1 B2 B3 EA EB EC hm2
    go_wp2_with fail
    refine (HB1.out _ HS3.out).mono ?_
    rintro e w3 ⟨rfl, hb3⟩
    have hbel3 := hbel2.trans (hb3.mono hbel2.size)
    have HS4 := Lib.hid ((HS3.out.kept hb3).kept ((Below.refl _ _).alloc (Nat.le_refl _) (.cells #[.int .i64 xa, .int .i64 ya] 23)))
    have HL4 := Lib.hid ((HL.out.kept hb3).kept ((Below.refl _ _).alloc (Nat.le_refl _) (.cells #[.int .i64 xa, .int .i64 ya] 23)))
    clear hb3 hbel2 HS3 HL
    go_wp2_with fail
    refine (HB2.out _ HL4.out).mono ?_
    rintro e w4 ⟨rfl, hb4⟩
    have x0 : w4.cell? ⟨w3.heap.size, 0, none⟩ = some (.int .i64 xa) := cell_kept hb4 (by simp [go_sem])
    have x1 : w4.cell? ⟨w3.heap.size, 1, none⟩ = some (.int .i64 ya) := cell_kept hb4 (by simp [go_sem])
    have hbel4 := (hbel3.alloc hbel3.size _).trans (hb4.mono (by have := hbel3.size; go_size))
    have HS5 := Lib.hid ((HS4.out.kept hb4).kept ((Below.refl _ _).alloc (Nat.le_refl _) (.cells #[.int .i64 xb, .int .i64 yb] 23)))
    clear hb4 hbel3 HS4 HL4
    go_wp2_with fail
    refine (HB3.out _ HS5.out).mono ?_
    rintro e w5 ⟨rfl, hb5⟩
    have x2 := cell_kept hb5 (cell_kept ((Below.refl _ _).alloc (Nat.le_refl _) (.cells #[.int .i64 xb, .int .i64 yb] 23)) x0)
    have x3 := cell_kept hb5 (cell_kept ((Below.refl _ _).alloc (Nat.le_refl _) (.cells #[.int .i64 xb, .int .i64 yb] 23)) x1)
    have y0 : w5.cell? ⟨w4.heap.size, 0, none⟩ = some (.int .i64 xb) := cell_kept hb5 (by simp [go_sem])
    have y1 : w5.cell? ⟨w4.heap.size, 1, none⟩ = some (.int .i64 yb) := cell_kept hb5 (by simp [go_sem])
    have hbel5 := (hbel4.alloc hbel4.size _).trans (hb5.mono (by have := hbel4.size; go_size))
    have zx := szs (cell_lt x2)
    have zy := szs (cell_lt y0)
    dsimp only at zx zy
    clear hb5 hbel4 HS5 x0 x1 HB1 HB2 HB3
    by_cases hz : za = 0
    · obtain ⟨k1', k2', k3', k4', k5'⟩ := key.out.2 hz
      subst hz k2' k3'
      have I1 := Lib.hid (fun w => inside19 xa ya xb yb w)
      have I2 := Lib.hid (fun w => inside19 xa ya xc yc w)
      rw [k4'] at I1
      rw [k5'] at I2
      clear k4' k5' key
      go_wp2_with fail
      refine (I1.out _).mono ?_
      rintro e w6 ⟨rfl, hb6⟩
      have u0 := cell_kept hb6 (cell_kept ((Below.refl _ _).alloc (Nat.le_refl _) (.cells #[.int .i64 xc, .int .i64 yc] 23)) x2)
      have u1 := cell_kept hb6 (cell_kept ((Below.refl _ _).alloc (Nat.le_refl _) (.cells #[.int .i64 xc, .int .i64 yc] 23)) x3)
      have u2 : w6.cell? ⟨w5.heap.size, 0, none⟩ = some (.int .i64 xc) := cell_kept hb6 (by simp [go_sem])
      have u3 : w6.cell? ⟨w5.heap.size, 1, none⟩ = some (.int .i64 yc) := cell_kept hb6 (by simp [go_sem])
      have hbel6 := (hbel5.alloc hbel5.size _).trans (hb6.mono (by have := hbel5.size; go_size))
      clear hb6 hbel5 x2 x3 y0 y1 zx zy
      go_wp2_with fail
      refine (I2.out _).mono ?_
      rintro e w7 ⟨rfl, hb7⟩
      have hbel7 := hbel6.trans (hb7.mono hbel6.size)
      go_wp2_with (go_at_call 12; refine (awake12 _).mono ?_; rintro e w8 ⟨rfl, hb8⟩)
      go_returns
      exact ⟨rfl, hbel7.trans (hb8.mono hbel7.size)⟩
    · obtain ⟨rfl, rfl⟩ := key.out.1 hz
      have hz2 : (za == 0) = false := by simpa using hz
      have hz3 : (za != 0) = true := by simpa using hz
      clear key hz
      go_wp2_with (go_at_call 12; refine (awake12 _).mono ?_; rintro e w8 ⟨rfl, hb8⟩)
      go_returns
      exact ⟨rfl, (hbel5.alloc hbel5.size _).trans (hb8.mono (by have := hbel5.size; go_size))⟩
  · go_wp2_with (at_builtin; go_loud (refine wpList_append_own _ rfl (.tmp 55) (.tmp 59) 29 rfl W.heap.size 43 i0 (.agg #[.int .i64 0, .int .i64 0, .int .i64 0]) 3 24 Try.underlying29 hi hz0 hz1 hz2 rfl (by decide) _ _ _ rfl hown1 ⟨b, off + (k + 1) * 3, none⟩ (len - (k + 1)) (cap - (k + 1)) (flat (syCells (fun j => L (k + 1 + j))) (len - (k + 1))) rfl (flat3 _ _) ?c1 ?c2 ?c3 ?c4 ?c5 ?_))
    case c1 => exact cells_flat (Sl.from HS2.out) (Nat.le_refl _)
    case c2 => exact ONE.out _ _
    case c3 => unfold maxLen; omega
    case c4 => omega
    case c5 => exact hb1.size
    intro v2 w2 hown2 hgrow2 _
    have hbel2 : Below W.heap.size W w2 := hb1.grown hgrow2 hb1.size (fun j hj => (hown1.lt j hj).1)
    obtain ⟨m, hm2⟩ : ∃ m, len = m + 2 := ⟨len - 2, by omega⟩
    have hown3 : w2.ownsRow W.heap.size 43 3 v2 (m + 1) (flat (syCells (skip L k)) (m + 1)) := by
      have e1 : m + 1 = k + (len - (k + 1)) := by omega
      rw [e1, ← skip_cells, ← flat_skip]
      exact hown2
    obtain ⟨a', cap', rfl, hn', hm', hsl⟩ := sl_of_owns hown3
    unfold maxLen at hm'
    have HL := Lib.hid hsl
    have HS3 := Lib.hid (HS0.out.kept hbel2)
    clear hgrow2 hown1 hown2 hown3 hsl hb1 HS2 ONE HS0 HS
    obtain ⟨xa, ya, za, EA⟩ := boundsV_form len L p t
    obtain ⟨xb, yb, zb, EB⟩ := boundsV_form (m + 1) (skip L k) p t
    obtain ⟨xc, yc, zc, EC⟩ := boundsV_form len L q t
    have key : Hid ((¬ za = 0 → xa = 0 ∧ ya = 0) ∧ (za = 0 → xa ≤ ya ∧ zb = 0 ∧ zc = 0 ∧ insideB xa ya xb yb = true ∧ insideB xa ya xc yc = true)) := by
      refine ⟨fun h => boundsV_zero EA h, fun h => ?_⟩
      subst h
      obtain ⟨hc, hp, ht, rfl, rfl, hle⟩ := boundsV_yes EA
      obtain ⟨t0, t1⟩ := isMom_iff.1 ht
      subst hm2
      obtain ⟨n1, n2, n3, n4, n5⟩ := narrows (k := k) (q := q) (p := p) hk hc q0 hpq q1 t0 t1
      have hq := isRate_iff.2 (show 0 ≤ q ∧ q ≤ 100000 by omega)
      rw [boundsV_ok n1 hp ht rfl rfl (by omega)] at EB
      rw [boundsV_ok hc hq ht rfl rfl (by omega)] at EC
      simp at EB EC
      obtain ⟨⟨rfl, rfl⟩, rfl⟩ := EB
      obtain ⟨⟨rfl, rfl⟩, rfl⟩ := EC
      exact ⟨hle, rfl, rfl, by simp [insideB]; omega, by simp [insideB]; omega⟩
    have B1 := fun w h => bounds13 (some ⟨b, off, none⟩) len cap L p t w hl hm h
    have B2 := fun w h => bounds13 a' (m + 1) cap' (skip L k) p t w hn' (by omega) h
    have B3 := fun w h => bounds13 (some ⟨b, off, none⟩) len cap L q t w hl hm h
    rw [EA] at B1
    rw [EB] at B2
    rw [EC] at B3
    have HB1 := Lib.hid B1
    have HB2 := Lib.hid B2
    have HB3 := Lib.hid B3
    clear B1 B2 B3 EA EB EC hm2
    go_wp2_with fail
    refine (HB1.out _ HS3.out).mono ?_
    rintro e w3 ⟨rfl, hb3⟩
    have hbel3 := hbel2.trans (hb3.mono hbel2.size)
    have HS4 := Lib.hid ((HS3.out.kept hb3).kept ((Below.refl _ _).alloc (Nat.le_refl _) (.cells #[.int .i64 xa, .int .i64 ya] 23)))
    have HL4 := Lib.hid ((HL.out.kept hb3).kept ((Below.refl _ _).alloc (Nat.le_refl _) (.cells #[.int .i64 xa, .int .i64 ya] 23)))
    clear hb3 hbel2 HS3 HL
    go_wp2_with fail
    refine (HB2.out _ HL4.out).mono ?_
    rintro e w4 ⟨rfl, hb4⟩
    have x0 : w4.cell? ⟨w3.heap.size, 0, none⟩ = some (.int .i64 xa) := cell_kept hb4 (by simp [go_sem])
    have x1 : w4.cell? ⟨w3.heap.size, 1, none⟩ = some (.int .i64 ya) := cell_kept hb4 (by simp [go_sem])
    have hbel4 := (hbel3.alloc hbel3.size _).trans (hb4.mono (by have := hbel3.size; go_size))
    have HS5 := Lib.hid ((HS4.out.kept hb4).kept ((Below.refl _ _).alloc (Nat.le_refl _) (.cells #[.int .i64 xb, .int .i64 yb] 23)))
    clear hb4 hbel3 HS4 HL4
    go_wp2_with fail
    refine (HB3.out _ HS5.out).mono ?_
    rintro e w5 ⟨rfl, hb5⟩
    have x2 := cell_kept hb5 (cell_kept ((Below.refl _ _).alloc (Nat.le_refl _) (.cells #[.int .i64 xb, .int .i64 yb] 23)) x0)
    have x3 := cell_kept hb5 (cell_kept ((Below.refl _ _).alloc (Nat.le_refl _) (.cells #[.int .i64 xb, .int .i64 yb] 23)) x1)
    have y0 : w5.cell? ⟨w4.heap.size, 0, none⟩ = some (.int .i64 xb) := cell_kept hb5 (by simp [go_sem])
    have y1 : w5.cell? ⟨w4.heap.size, 1, none⟩ = some (.int .i64 yb) := cell_kept hb5 (by simp [go_sem])
    have hbel5 := (hbel4.alloc hbel4.size _).trans (hb5.mono (by have := hbel4.size; go_size))
    have zx := szs (cell_lt x2)
    have zy := szs (cell_lt y0)
    dsimp only at zx zy
    clear hb5 hbel4 HS5 x0 x1 HB1 HB2 HB3
    by_cases hz : za = 0
    · obtain ⟨k1', k2', k3', k4', k5'⟩ := key.out.2 hz
      subst hz k2' k3'
      have I1 := Lib.hid (fun w => inside19 xa ya xb yb w)
      have I2 := Lib.hid (fun w => inside19 xa ya xc yc w)
      rw [k4'] at I1
      rw [k5'] at I2
      clear k4' k5' key
      go_wp2_with fail
      refine (I1.out _).mono ?_
      rintro e w6 ⟨rfl, hb6⟩
      have u0 := cell_kept hb6 (cell_kept ((Below.refl _ _).alloc (Nat.le_refl _) (.cells #[.int .i64 xc, .int .i64 yc] 23)) x2)
      have u1 := cell_kept hb6 (cell_kept ((Below.refl _ _).alloc (Nat.le_refl _) (.cells #[.int .i64 xc, .int .i64 yc] 23)) x3)
      have u2 : w6.cell? ⟨w5.heap.size, 0, none⟩ = some (.int .i64 xc) := cell_kept hb6 (by simp [go_sem])
      have u3 : w6.cell? ⟨w5.heap.size, 1, none⟩ = some (.int .i64 yc) := cell_kept hb6 (by simp [go_sem])
      have hbel6 := (hbel5.alloc hbel5.size _).trans (hb6.mono (by have := hbel5.size; go_size))
      clear hb6 hbel5 x2 x3 y0 y1 zx zy
      go_wp2_with fail
      refine (I2.out _).mono ?_
      rintro e w7 ⟨rfl, hb7⟩
      have hbel7 := hbel6.trans (hb7.mono hbel6.size)
      go_wp2_with (go_at_call 12; refine (awake12 _).mono ?_; rintro e w8 ⟨rfl, hb8⟩)
      go_returns
      exact ⟨rfl, hbel7.trans (hb8.mono hbel7.size)⟩
    · obtain ⟨rfl, rfl⟩ := key.out.1 hz
      have hz2 : (za == 0) = false := by simpa using hz
      have hz3 : (za != 0) = true := by simpa using hz
      clear key hz
      go_wp2_with (go_at_call 12; refine (awake12 _).mono ?_; rintro e w8 ⟨rfl, hb8⟩)
      go_returns
      exact ⟨rfl, (hbel5.alloc hbel5.size _).trans (hb8.mono (by have := hbel5.size; go_size))⟩
end Go.Proofs.Ytbgnmhphbjkfcaa

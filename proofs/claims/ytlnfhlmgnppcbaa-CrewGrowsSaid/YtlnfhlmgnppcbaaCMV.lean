/- Crew: what was loaded on a truck, and what has left it. -/
import Derived.Test.YtlnfhlmgnppcbaaCMD
import Derived.BigQuiet
namespace Go.Proofs.Ytlnfhlmgnppcbaa
open Go.RowKit Go.ChangeShapes Go.WideShapes Go.Deep Go.Maps
set_option linter.unusedVariables false
set_option linter.unusedSimpArgs false
theorem path_mem {f : Fl} : ∀ {l : List Ev} {s : CSt}, Path f s l → ∀ e ∈ l, checkE f e = 0
  | e :: l, s, h, x, hx => by
    rcases List.mem_cons.1 hx with rfl | hx
    · exact h.1
    · exact path_mem h.2.2.2 x hx
theorem acc_mem (f : Fl) (l : List Ev) : ∀ e ∈ (runE f l).2, checkE f e = 0 := path_mem (run_path f l).1
theorem acc_len (f : Fl) (l : List Ev) : (runE f l).2.length ≤ l.length := Nat.le_trans (run_sub f l).length_le (setE_len l)
def movedV (f : Fl) (l : List Ev) (number t : Int) : Int × Int × Int :=
  if fleetE f ≠ 0 then (0, 0, fleetE f) else if number < 0 ∨ (f.nt : Int) ≤ number then (0, 0, 7) else if t < 0 ∨ 4294943999 < t then (0, 0, 1)
  else ((mvP number t (fun _ => false) (runE f l).2 0 0).1, (mvP number t (fun _ => false) (runE f l).2 0 0).2, 0)
theorem infoBo : (Try.prog.info? 4).map (fun i => (i.zero, i.size, i.bytes)) = some (some (.bool false), 1, 1) := by kernel_rfl
theorem mkBo (n : Nat) (hn : n ≤ 128) (w : World) : (Instr.makeSlice 98 (.int .i64 n) (.int .i64 n)).run Try.prog w = .ok (.slice (some ⟨w.heap.size, 0, none⟩) n n) (w.alloc (.cells (madeCells #[.bool false] (n * 1)) 4)) := by
  obtain ⟨i, hi, h0, h1, h2⟩ := info_parts infoBo
  have := run_make (P := Try.prog) w 98 4 i _ Try.underlying98 hi h0 .i64 .i64 n n (by omega) (by omega) (by rw [h2]; omega) (by omega)
  rw [h1, Int.toNat_natCast] at this
  exact this
def bof (on : Nat → Bool) : Nat → List Value := fun i => [.bool (on i)]
theorem bof_len (on : Nat → Bool) (i : Nat) : (bof on i).length = 1 := rfl
/-- A row of bools. -/
def Bools (w : World) (base b n : Nat) (on : Nat → Bool) : Prop := Row w base 4 1 (.slice (some ⟨b, 0, none⟩) n n) n (bof on)
theorem Bools.off {X : Nat → Prop} {w w' : World} {base b n : Nat} {on : Nat → Bool} (h : Bools w base b n on) (ho : Off X w w') (hX : ¬ X b) : Bools w' base b n on := Row.off h ho (fun g hg e => by cases hg; exact hX e)
theorem Bools.below {w w' : World} {base b n : Nat} {on : Nat → Bool} (h : Bools w base b n on) (hb : Below w.heap.size w w') : Bools w' base b n on := h.off (X := fun _ => False) (Off.of_below hb) (fun h => h)
theorem Bools.set {w : World} {base b n : Nat} {on : Nat → Bool} (h : Bools w base b n on) {i : Nat} (hi : i < n) (x : Bool) : Bools (w.setCell ⟨b, i, none⟩ (.bool x)) base b n (upd on i x) := by
  have a1 := Row.put h (bof_len on) hi [.bool x] rfl
  have := Row.congr a1 (fun j _ => (by
    by_cases e : j = i
    · subst e; rw [upd_same]; simp [bof, upd]
    · rw [upd_ne e]; simp [bof, upd, e] : upd (bof on) i [.bool x] j = bof (upd on i x) j))
  unfold Bools
  simpa [putCells] using this
theorem Bools.cell {w : World} {base b n : Nat} {on : Nat → Bool} (h : Bools w base b n on) {i : Nat} (hi : i < n) : w.cell? ⟨b, i, none⟩ = some (.bool (on i)) := by
  have := Row.cell h (bof_len on) hi (by decide : 0 < 1); simpa [bof] using this
theorem Bools.lt {w : World} {base b n : Nat} {on : Nat → Bool} (h : Bools w base b n on) : base ≤ b ∧ b < w.heap.size := World.ownsRow.lt h b rfl
theorem Bools.free {w : World} {base b n : Nat} {on : Nat → Bool} (h : Bools w base b n on) (j : Nat) : w.frozen? ⟨b, j, none⟩ = false := Row.free h j
theorem Bools.congr {w : World} {base b n : Nat} {on on' : Nat → Bool} (h : Bools w base b n on) (hf : ∀ i : Nat, i < n → on i = on' i) : Bools w base b n on' := Row.congr h (fun i hi => by unfold bof; rw [hf i hi])
theorem upd_self {α : Type} {f : Nat → α} {i : Nat} {x : α} (h : f i = x) : upd f i x = f := by
  funext j
  by_cases e : j = i
  · subst e; rw [upd_same, h]
  · rw [upd_ne e]
theorem upd_twice {α : Type} (f : Nat → α) (i : Nat) (x y : α) : upd (upd f i x) i y = upd f i y := by
  funext j
  by_cases e : j = i
  · subst e; rw [upd_same, upd_same]
  · rw [upd_ne e, upd_ne e, upd_ne e]
theorem drop_ents {R : Nat → Ev} {m k : Nat} (h : k < m) : (ents R m).drop k = R k :: (ents R m).drop (k + 1) := by
  rw [List.drop_eq_getElem_cons (by rw [ents_len]; exact h)]
  congr 1
  have := ents_get (f := R) h
  rw [List.getElem?_eq_getElem (by rw [ents_len]; exact h)] at this
  exact Option.some.inj this
set_option maxRecDepth 8000 in
set_option maxHeartbeats 16000000 in
theorem moved31 (f : Fl) (ao : Option Addr) (n c : Nat) (F : Nat → Ev) (number t : Int) (w : World) (hf : f.In w) (hs : EvSl w ao n c F) (hn : n ≤ 1000) (hin : ∀ e ∈ ents F n, inN e) :
    Calls Try.prog 31 #[.agg f.cells, .slice ao n c, .int .i64 number, .int .i64 t] w fun e w' => e = .returned (.tuple #[.int .i64 (movedV f (ents F n) number t).1, .int .i64 (movedV f (ents F n) number t).2.1, .int .i64 (movedV f (ents F n) number t).2.2]) ∧ Below w.heap.size w w' := by
  have B0 : Hid (Below w.heap.size w (w.alloc (.cells f.cells 44))) := Lib.hid (by (repeat' (first | (with_reducible exact Below.refl _ _) | (with_reducible assumption) | (with_reducible refine Below.drew ?_) | (with_reducible refine below_drewN ?_ _) | (with_reducible refine Below.alloc ?_ ?_ _) | (with_reducible refine Below.setCell ?_ ?_ _) | go_size)))
  obtain ⟨w1, hw1⟩ : ∃ w1, w1 = w.alloc (.cells f.cells 44) := ⟨_, rfl⟩
  rw [← hw1] at B0
  have HW1 := Lib.hid hw1
  have X0 : w1.heap[w.heap.size]? = some (.cells f.cells 44 (0, 0)) := by rw [hw1]; exact heap_alloc_new w _
  have AC := Lib.hid (accepted51 f ao n c F w1 (hf.below B0.out) (hs.below B0.out) hn hin)
  have HFC : Hid (f.cells = #[.int .i64 f.bikes, .int .i64 f.riders, .int .i64 f.devs, .slice f.ad f.nd f.cd, .slice f.a2 f.nt f.ct]) := Lib.hid rfl
  have FZ : Hid (fleetE f = 0 → 1 ≤ f.bikes ∧ f.bikes ≤ 128) := Lib.hid (fun h => (fleetE_zero h).1)
  have HAM := Lib.hid (acc_mem f (ents F n))
  have HAL : Hid ((runE f (ents F n)).2.length ≤ n) := Lib.hid (by have := acc_len f (ents F n); rwa [ents_len] at this)
  obtain ⟨V, hV⟩ : ∃ V, V = movedV f (ents F n) number t := ⟨_, rfl⟩
  rw [← hV]
  unfold movedV at hV
  have HV := Lib.hid hV
  have hct := hf.trucks.hm
  have hct2 := hf.trucks.hc
  rw [HFC.out] at X0 HW1 AC ⊢
  have x0 := cell_at X0 0
  have x1 := cell_at X0 1
  have x2 := cell_at X0 2
  have x3 := cell_at X0 3
  have x4 := cell_at X0 4
  have zx := szs (block_lt X0)
  clear hw1 hf hs X0 hin hV
  go_enter Try.func31, Try.ntmps31
  go_wp2_with fail
  rw [← HW1.out]
  go_wp2_with fail
  refine AC.out.mono ?_
  rintro e w2 ⟨b2, ⟨h1, rfl⟩ | ⟨h1, v, m, R, rfl, hrow, hR⟩⟩
  · have BE := Lib.hid (B0.out.trans (b2.mono B0.out.size))
    have tx : (fleetE f != 0) = true := by simpa using h1
    have HR0 : Hid (V = (0, 0, fleetE f)) := Lib.hid (by rw [HV.out, if_pos h1])
    clear AC HV b2 h1
    obtain ⟨x, hx⟩ : ∃ x, x = fleetE f := ⟨_, rfl⟩
    rw [← hx] at tx HR0 ⊢
    clear hx
    go_wp2_with fail
    go_returns
    exact ⟨by rw [HR0.out]; rfl, BE.out⟩
  · rw [if_neg (by simp [h1])] at HV
    have BE := Lib.hid (B0.out.trans (b2.mono B0.out.size))
    replace x0 := cell_kept b2 x0
    replace x1 := cell_kept b2 x1
    replace x2 := cell_kept b2 x2
    replace x3 := cell_kept b2 x3
    replace x4 := cell_kept b2 x4
    clear zx
    have zx := szs (cell_lt x0)
    dsimp only at zx
    obtain ⟨a2, c2, rfl, s2⟩ := EvRow.toSl hrow
    have S2 := Lib.hid s2
    have HSL : Hid (∀ ad, a2 = some ad → ad.block < w2.heap.size) := Lib.hid (fun ad h => by subst h; exact (World.ownsRow.lt hrow _ rfl).2)
    have hm2 := s2.hm
    have hc2 := s2.hc
    have hmn : m ≤ n := by have := HAL.out; rwa [← hR, ents_len] at this
    have HFB := FZ.out h1
    clear AC b2 hrow s2 FZ
    by_cases k1 : number < 0
    · have t1 := k1
      have HR0 : Hid (V = (0, 0, 7)) := Lib.hid (by rw [HV.out, if_pos (.inl k1)])
      clear HV
      go_wp2_with fail
      go_returns
      exact ⟨by rw [HR0.out]; rfl, BE.out⟩
    have t1 : decide (number < 0) = false := decide_eq_false k1
    by_cases k2 : (f.nt : Int) ≤ number
    · have t2 := k2
      have HR0 : Hid (V = (0, 0, 7)) := Lib.hid (by rw [HV.out, if_pos (.inr k2)])
      clear HV
      go_wp2_with fail
      go_returns
      exact ⟨by rw [HR0.out]; rfl, BE.out⟩
    have t2 : decide ((f.nt : Int) ≤ number) = false := decide_eq_false k2
    rw [if_neg (by omega)] at HV
    by_cases k3 : t < 0
    · have t3 := k3
      have HR0 : Hid (V = (0, 0, 1)) := Lib.hid (by rw [HV.out, if_pos (.inl k3)])
      clear HV
      go_wp2_with fail
      go_returns
      exact ⟨by rw [HR0.out]; rfl, BE.out⟩
    have t3 : decide (t < 0) = false := decide_eq_false k3
    by_cases k4 : 4294943999 < t
    · have t4 := k4
      have HR0 : Hid (V = (0, 0, 1)) := Lib.hid (by rw [HV.out, if_pos (.inr k4)])
      clear HV
      go_wp2_with fail
      go_returns
      exact ⟨by rw [HR0.out]; rfl, BE.out⟩
    have t4 : decide (4294943999 < t) = false := decide_eq_false k4
    rw [if_neg (by omega)] at HV
    obtain ⟨nb, hnb⟩ := Int.eq_ofNat_of_zero_le (show 0 ≤ f.bikes by omega)
    have hnb2 : nb ≤ 128 := by omega
    have hM := mkBo nb hnb2
    obtain ⟨M, hm⟩ : ∃ M, M = madeCells #[.bool false] (nb * 1) := ⟨_, rfl⟩
    rw [← hm] at hM
    have HM := Lib.hid hm
    have HBK : Hid (∀ k, k < m → ∃ b : Nat, (R k).bike = (b : Int) ∧ b < nb) := Lib.hid (fun k hk => by
      have := bike_in (HAM.out (R k) (by rw [← hR]; exact mem_ents.2 ⟨k, hk, rfl⟩))
      exact ⟨(R k).bike.toNat, by omega, by omega⟩)
    rw [← hR] at HV
    rw [hnb] at x0
    clear hm hnb HFB HAM hR h1 k1 k2 k3 k4
    go_wp2_with fail
    obtain ⟨w3, hw3⟩ : ∃ w3, w3 = w2.alloc (.cells M 4) := ⟨_, rfl⟩
    rw [← hw3]
    have b3 : Below w2.heap.size w2 w3 := by rw [hw3]; (repeat' (first | (with_reducible exact Below.refl _ _) | (with_reducible assumption) | (with_reducible refine Below.drew ?_) | (with_reducible refine below_drewN ?_ _) | (with_reducible refine Below.alloc ?_ ?_ _) | (with_reducible refine Below.setCell ?_ ?_ _) | go_size))
    have X3 : w3.heap[w2.heap.size]? = some (.cells M 4 (0, 0)) := by rw [hw3]; exact heap_alloc_new w2 _
    have y0 : Bools w3 w2.heap.size w2.heap.size nb (fun _ => false) := Row.of_made (z := #[.bool false]) rfl (by decide) (by rw [← HM.out]; exact X3) (Nat.le_refl _) (by unfold maxLen; omega)
    have Y0 := Lib.hid y0
    have S3 := Lib.hid (S2.out.below b3)
    have HB2 := Lib.hid (b3.size)
    have HBL : Hid (∀ ad, a2 = some ad → ad.block < w2.heap.size) := Lib.hid (fun ad h => by subst h; exact (HSL.out ad rfl))
    have BE3 := Lib.hid (BE.out.trans (b3.mono BE.out.size))
    have HZ2 := Lib.hid (show w.heap.size ≤ w2.heap.size from BE.out.size)
    clear hw3 X3 y0 b3 S2 hM HM x0 x1 x2 x3 x4 zx BE
    go_loopw [13, 14, 50] (fun s13 s14 s50 wr => ∃ (k : Nat) (on : Nat → Bool) (a b : Int), s50 = .int .i64 k ∧ k ≤ m ∧ s13 = .int .i64 a ∧ s14 = .int .i64 b ∧ 0 ≤ a ∧ a ≤ k ∧ 0 ≤ b ∧ b ≤ k ∧ Hid (V = ((mvP number t on ((ents R m).drop k) a b).1, (mvP number t on ((ents R m).drop k) a b).2, 0)) ∧
      Hid (Bools wr w2.heap.size w2.heap.size nb on) ∧ Hid (EvSl wr a2 m c2 R) ∧ Hid (Below w.heap.size w wr)) (fun _ _ s50 _ => m - (intOf s50).toNat)
    case atStart => exact ⟨0, fun _ => false, 0, 0, rfl, by omega, rfl, rfl, by omega, by omega, by omega, by omega, HV, Y0, S3, BE3⟩
    case round =>
      obtain ⟨k, on, a, b, rfl, hk, rfl, rfl, ha0, ha1, hb0, hb1, hv, hy, hs, hbw⟩ := hrel
      have VK := hv
      have YK := hy
      have SK := hs
      have BK := hbw
      clear hv hy hs hbw HV Y0 S3 BE3
      by_cases hlt : k < m
      · have tk : (k : Int) < (m : Int) := by omega
        obtain ⟨g, o, rfl, hg, ea⟩ := evs_at SK.out hlt
        have zg := szs hg
        have HGL := Lib.hid (HBL.out ⟨g, o, none⟩ rfl)
        obtain ⟨bk, hbk, hbn⟩ := HBK.out k hlt
        rw [drop_ents hlt] at VK
        unfold mvP at VK
        generalize hy : R k = y at *
        clear hy
        obtain ⟨v1, v2, v3, v4, v5, v6, v7, v8, v9⟩ := y
        dsimp only at hbk VK
        subst hbk
        (have y0 := (ea).c0; have y1 := (ea).c1; have y2 := (ea).c2; have y3 := (ea).c3; have y4 := (ea).c4; have y5 := (ea).c5; have y6 := (ea).c6; have y7 := (ea).c7; have y8 := (ea).c8); (try dsimp only at y0 y1 y2 y3 y4 y5 y6 y7 y8)
        have BA : Hid (Below wr.heap.size wr (wr.alloc (.cells #[.int .i64 v1, .int .i64 v2, .int .i64 v3, .int .i64 v4, .int .i64 v5, .int .i64 (bk : Int), .int .i64 v7, .int .i64 v8, .int .i64 v9] 24))) := Lib.hid (by (repeat' (first | (with_reducible exact Below.refl _ _) | (with_reducible assumption) | (with_reducible refine Below.drew ?_) | (with_reducible refine below_drewN ?_ _) | (with_reducible refine Below.alloc ?_ ?_ _) | (with_reducible refine Below.setCell ?_ ?_ _) | go_size)))
        by_cases hat : t < v3
        · have BE := Lib.hid (BK.out.trans (BA.out.mono BK.out.size))
          rw [if_pos hat] at VK
          go_wp2_with fail
          go_returns
          exact ⟨by rw [VK.out]; rfl, BE.out⟩
        · have tat : decide (t < v3) = false := decide_eq_false hat
          rw [if_neg hat, Int.toNat_natCast] at VK
          have HGX := HGL.out
          have HZX := HZ2.out
          dsimp only at HGX
          have os := fun (w' : World) (x : Bool) => (Off.refl (fun q => q = w2.heap.size) w').setCell (p := ⟨w2.heap.size, bk, none⟩) (fun _ => rfl) (.bool x)
          have al := fun (w' : World) => (by (repeat' (first | (with_reducible exact Below.refl _ _) | (with_reducible assumption) | (with_reducible refine Below.drew ?_) | (with_reducible refine below_drewN ?_ _) | (with_reducible refine Below.alloc ?_ ?_ _) | (with_reducible refine Below.setCell ?_ ?_ _) | go_size)) : Below w'.heap.size w' (w'.alloc (.cells #[.int .i64 v1, .int .i64 v2, .int .i64 v3, .int .i64 v4, .int .i64 v5, .int .i64 (bk : Int), .int .i64 v7, .int .i64 v8, .int .i64 v9] 24)))
          have YF := YK.out.set hbn false
          have SF := Sl.off SK.out (os wr false) (fun ad h e => by cases h; have e : g = w2.heap.size := e; omega)
          have BF := BK.out.trans ((os wr false).toBelow BK.out.size (fun q hq e => by omega))
          have YT := YK.out.set hbn true
          have ST := Sl.off SK.out (os wr true) (fun ad h e => by cases h; have e : g = w2.heap.size := e; omega)
          have BT := BK.out.trans ((os wr true).toBelow BK.out.size (fun q hq e => by omega))
          have YFT := YF.set hbn true
          rw [upd_twice] at YFT
          have SFT := Sl.off SF (os _ true) (fun ad h e => by cases h; have e : g = w2.heap.size := e; omega)
          have BFT := BF.trans ((os _ true).toBelow BF.size (fun q hq e => by omega))
          have HYA := Lib.hid (YK.out.below (al wr))
          have HSA := Lib.hid (SK.out.below (al wr))
          have HBB := Lib.hid (BK.out.trans ((al wr).mono BK.out.size))
          replace YF := Lib.hid (YF.below (al _))
          replace SF := Lib.hid (SF.below (al _))
          replace BF := Lib.hid (BF.trans ((al _).mono BF.size))
          replace YT := Lib.hid (YT.below (al _))
          replace ST := Lib.hid (ST.below (al _))
          replace BT := Lib.hid (BT.trans ((al _).mono BT.size))
          replace YFT := Lib.hid (YFT.below (al _))
          replace SFT := Lib.hid (SFT.below (al _))
          replace BFT := Lib.hid (BFT.trans ((al _).mono BFT.size))
          clear al
          have yc := YK.out.cell hbn
          have yf := YK.out.free bk
          have yl := YK.out.lt.2
          have zl := szs yl
          clear os HGX HZX HBL HBK
          obtain ⟨ob, hob⟩ : ∃ ob, ob = on bk := ⟨_, rfl⟩
          rw [← hob] at yc VK
          have HOB := Lib.hid hob
          clear hob
          have tbk : (bk : Int) < (nb : Int) := by omega
          cases ob with
          | false =>
            rw [show b2i false = 0 from rfl, Int.add_zero] at VK
            have HYS : Hid (Bools _ w2.heap.size w2.heap.size nb (upd on bk false)) := Lib.hid (by rw [upd_self HOB.out.symm]; exact HYA.out)
            by_cases h7 : v5 = 7
            · subst h7
              by_cases hp : v7 = number
              · subst hp
                have tp : (v7 == v7) = true := by simp
                rw [show loadB v7 ⟨v1, v2, v3, v4, 7, (bk : Int), v7, v8, v9⟩ = true by simp [loadB], show b2i true = 1 from rfl] at VK
                go_wp2_with fail
                go_roundw
                case rel => exact ⟨k + 1, upd on bk true, a + 1, b, by go_num, by omega, by go_num, by go_num, by omega, by omega, by omega, by omega, VK, YT, ST, BT⟩
                case measure => simp [intOf]; omega
              · have tp : (v7 == number) = false := by simpa using hp
                rw [show loadB number ⟨v1, v2, v3, v4, 7, (bk : Int), v7, v8, v9⟩ = false by simp [loadB, hp], show b2i false = 0 from rfl, Int.add_zero] at VK
                go_wp2_with fail
                go_roundw
                case rel => exact ⟨k + 1, upd on bk false, a, b, by go_num, by omega, by go_num, by go_num, by omega, by omega, by omega, by omega, VK, HYS, HSA, HBB⟩
                case measure => simp [intOf]; omega
            · have t7 : (v5 == 7) = false := by simpa using h7
              rw [show loadB number ⟨v1, v2, v3, v4, v5, (bk : Int), v7, v8, v9⟩ = false by simp [loadB, h7], show b2i false = 0 from rfl, Int.add_zero] at VK
              go_wp2_with fail
              go_roundw
              case rel => exact ⟨k + 1, upd on bk false, a, b, by go_num, by omega, by go_num, by go_num, by omega, by omega, by omega, by omega, VK, HYS, HSA, HBB⟩
              case measure => simp [intOf]; omega
          | true =>
            rw [show b2i true = 1 from rfl] at VK
            by_cases h7 : v5 = 7
            · subst h7
              by_cases hp : v7 = number
              · subst hp
                have tp : (v7 == v7) = true := by simp
                rw [show loadB v7 ⟨v1, v2, v3, v4, 7, (bk : Int), v7, v8, v9⟩ = true by simp [loadB], show b2i true = 1 from rfl] at VK
                go_wp2_with fail
                go_roundw
                case rel => exact ⟨k + 1, upd on bk true, a + 1, b + 1, by go_num, by omega, by go_num, by go_num, by omega, by omega, by omega, by omega, VK, YFT, SFT, BFT⟩
                case measure => simp [intOf]; omega
              · have tp : (v7 == number) = false := by simpa using hp
                rw [show loadB number ⟨v1, v2, v3, v4, 7, (bk : Int), v7, v8, v9⟩ = false by simp [loadB, hp], show b2i false = 0 from rfl, Int.add_zero] at VK
                go_wp2_with fail
                go_roundw
                case rel => exact ⟨k + 1, upd on bk false, a, b + 1, by go_num, by omega, by go_num, by go_num, by omega, by omega, by omega, by omega, VK, YF, SF, BF⟩
                case measure => simp [intOf]; omega
            · have t7 : (v5 == 7) = false := by simpa using h7
              rw [show loadB number ⟨v1, v2, v3, v4, v5, (bk : Int), v7, v8, v9⟩ = false by simp [loadB, h7], show b2i false = 0 from rfl, Int.add_zero] at VK
              go_wp2_with fail
              go_roundw
              case rel => exact ⟨k + 1, upd on bk false, a, b + 1, by go_num, by omega, by go_num, by go_num, by omega, by omega, by omega, by omega, VK, YF, SF, BF⟩
              case measure => simp [intOf]; omega
      · obtain rfl : k = m := by omega
        rw [List.drop_of_length_le (by rw [ents_len]; omega)] at VK
        go_wp2_with fail
        go_returns
        exact ⟨by rw [VK.out]; rfl, BK.out⟩
end Go.Proofs.Ytlnfhlmgnppcbaa

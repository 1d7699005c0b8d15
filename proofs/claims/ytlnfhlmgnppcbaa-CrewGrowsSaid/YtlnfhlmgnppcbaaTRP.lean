/- Nights, routes of trucks, and how a truck follows a route. Plain theorems, no program. -/
import Derived.Test.YtlnfhlmgnppcbaaR8P0
namespace Go.Proofs.Ytlnfhlmgnppcbaa
set_option linter.unusedVariables false
set_option linter.unusedSimpArgs false
open Rd
theorem Rd.Rc.trans {g : Gr} {a b c s k s' k' : Int} (h1 : Rc g a b s k) (h2 : Rc g b c s' k') : Rc g a c (s + s') (k + k') := by
  induction h2 with
  | nil => simpa using h1
  | @snoc s0 k0 i h hi ih =>
    have := Rc.snoc i ih hi
    rwa [← Int.add_assoc, ← Int.add_assoc]
def anyN (p : Nat → Bool) : Nat → Bool
  | 0 => false
  | n + 1 => anyN p n || p n
theorem anyN_iff {p : Nat → Bool} : ∀ {n : Nat}, anyN p n = true ↔ ∃ i, i < n ∧ p i = true
  | 0 => by simp [anyN]
  | n + 1 => by
    rw [anyN, Bool.or_eq_true, anyN_iff (n := n)]
    constructor
    · rintro (⟨i, h1, h2⟩ | h)
      · exact ⟨i, by omega, h2⟩
      · exact ⟨n, by omega, h⟩
    · rintro ⟨i, h1, h2⟩
      rcases Nat.lt_or_ge i n with h | h
      · exact .inl ⟨i, h, h2⟩
      · obtain rfl : i = n := by omega
        exact .inr h2
theorem anyN_no {p : Nat → Bool} {n : Nat} (h : ∀ i, i < n → p i = false) : anyN p n = false := by
  cases hh : anyN p n
  · rfl
  · obtain ⟨i, h1, h2⟩ := anyN_iff.1 hh
    rw [h i h1] at h2; cases h2
theorem anyN_yes {p : Nat → Bool} {n i : Nat} (h : i < n) (h2 : p i = true) : anyN p n = true := anyN_iff.2 ⟨i, h, h2⟩
theorem anyN_false {p : Nat → Bool} {n : Nat} (h : anyN p n = false) {i : Nat} (hi : i < n) : p i = false := by
  cases hh : p i
  · rfl
  · rw [anyN_yes hi hh] at h; cases h
structure Tk where
  dep : Int
  cap : Int
  frm : Int
  til : Int
structure Nd where
  node : Int
  mv : Int
structure Vi where
  need : Int
  arr : Int
  lea : Int
  load : Int
/-- A night: its network, its trucks, its needs, the seconds for a bicycle. -/
structure Ng where
  N : Int
  ea : Option Addr
  em : Nat
  ec : Nat
  E : Nat → Ed
  ta : Option Addr
  tn : Nat
  tc : Nat
  T : Nat → Tk
  na : Option Addr
  nn : Nat
  nc : Nat
  D : Nat → Nd
  h : Int
def truckE (N : Int) (t : Tk) : Int := if nodeB N t.dep = false then 7 else if t.cap < 1 ∨ 32 < t.cap ∨ t.frm < 0 ∨ t.til < t.frm ∨ 86400 < t.til then 1 else 0
def needE (N : Int) (x : Nd) : Int := if nodeB N x.node = false then 7 else if x.mv = 0 ∨ x.mv < -32 ∨ 32 < x.mv then 1 else 0
def dupB (D : Nat → Nd) (i : Nat) : Bool := anyN (fun k => decide ((D k).node = (D i).node)) i
def nightE (g : Ng) : Int :=
  if roadE g.N g.em g.E ≠ 0 then roadE g.N g.em g.E
  else if 8 < g.tn ∨ 16 < g.nn then 8
  else if scan (fun i => truckE g.N (g.T i)) g.tn ≠ 0 then scan (fun i => truckE g.N (g.T i)) g.tn
  else if scan (fun i => needE g.N (g.D i)) g.nn ≠ 0 then scan (fun i => needE g.N (g.D i)) g.nn
  else if anyN (dupB g.D) g.nn = true then 6
  else if g.h < 0 ∨ 3600 < g.h then 1 else 0
/-- The night is right. -/
structure NOk (g : Ng) (n : Nat) : Prop where
  hN : g.N = n
  right : Right n g.em g.E
  tn : g.tn ≤ 8
  nn : g.nn ≤ 16
  T : ∀ i, i < g.tn → (0 ≤ (g.T i).dep ∧ (g.T i).dep < n) ∧ (1 ≤ (g.T i).cap ∧ (g.T i).cap ≤ 32) ∧ 0 ≤ (g.T i).frm ∧ (g.T i).frm ≤ (g.T i).til ∧ (g.T i).til ≤ 86400
  D : ∀ i, i < g.nn → (0 ≤ (g.D i).node ∧ (g.D i).node < n) ∧ (g.D i).mv ≠ 0 ∧ -32 ≤ (g.D i).mv ∧ (g.D i).mv ≤ 32
  dup : ∀ i j, i < j → j < g.nn → (g.D i).node ≠ (g.D j).node
  h0 : 0 ≤ g.h
  h1 : g.h ≤ 3600
theorem nodeB_iff {N v : Int} : nodeB N v = true ↔ 0 ≤ v ∧ v < N := by simp [nodeB]
theorem nok_of {g : Ng} (h : nightE g = 0) : ∃ n, NOk g n ∧ roadE g.N g.em g.E = 0 := by
  unfold nightE at h
  split at h
  · rename_i h1; exact absurd h h1
  rename_i h1
  have h1 : roadE g.N g.em g.E = 0 := Decidable.not_not.1 h1
  split at h
  · simp at h
  rename_i h2
  split at h
  · rename_i h3; exact absurd h h3
  rename_i h3
  have h3 := scan_zero (Decidable.not_not.1 h3)
  split at h
  · rename_i h4; exact absurd h h4
  rename_i h4
  have h4 := scan_zero (Decidable.not_not.1 h4)
  split at h
  · simp at h
  rename_i h5
  split at h
  · simp at h
  rename_i h6
  obtain ⟨n, hn, hr⟩ := right_of h1
  refine ⟨n, ⟨hn, hr, by omega, by omega, fun i hi => ?_, fun i hi => ?_, fun i j hij hj => ?_, by omega, by omega⟩, h1⟩
  · have := h3 i hi
    unfold truckE at this
    split at this
    · simp at this
    rename_i q1
    split at this
    · simp at this
    rename_i q2
    have q1 : nodeB g.N (g.T i).dep = true := by simpa using q1
    rw [nodeB_iff, hn] at q1
    omega
  · have := h4 i hi
    unfold needE at this
    split at this
    · simp at this
    rename_i q1
    split at this
    · simp at this
    rename_i q2
    have q1 : nodeB g.N (g.D i).node = true := by simpa using q1
    rw [nodeB_iff, hn] at q1
    omega
  · intro he
    exact h5 (anyN_yes hj (anyN_yes hij (by simp [he])))
/-- The travel time between two nodes, -1 if there is no way. -/
noncomputable def Ng.S (g : Ng) (a b : Int) : Int := sec (gr Ed.frm Ed.til g.N.toNat g.em g.E) a b
theorem NOk.ok {g : Ng} {n : Nat} (h : NOk g n) : (gr Ed.frm Ed.til g.N.toNat g.em g.E).Ok := by
  rw [h.hN, Int.toNat_natCast]; exact h.right.fwd
theorem NOk.S_can {g : Ng} {n : Nat} (h : NOk g n) {a b : Int} : 0 ≤ g.S a b ↔ Rd.Can (gr Ed.frm Ed.til g.N.toNat g.em g.E) a b := by
  unfold Ng.S
  constructor
  · intro h1
    by_cases hc : Rd.Can (gr Ed.frm Ed.til g.N.toNat g.em g.E) a b
    · exact hc
    · rw [(not_can hc).1] at h1; omega
  · intro hc
    exact (by have := (hc.best.1.nonneg h.ok); omega)
theorem NOk.S_bd {g : Ng} {n : Nat} (h : NOk g n) {a : Int} (ha : 0 ≤ a ∧ a < n) (b : Int) : -1 ≤ g.S a b ∧ g.S a b ≤ 64000 := by
  by_cases hc : Rd.Can (gr Ed.frm Ed.til g.N.toNat g.em g.E) a b
  · have h1 := hc.best.1.nonneg h.ok
    have h2 := hc.best.few h.ok (by show 0 ≤ a ∧ a < (g.N.toNat : Int); rw [h.hN, Int.toNat_natCast]; exact ha)
    have h3 := h.right.n2
    have h4 : (gr Ed.frm Ed.til g.N.toNat g.em g.E).n = n := by show g.N.toNat = n; rw [h.hN, Int.toNat_natCast]
    rw [h4] at h2
    unfold Ng.S; omega
  · unfold Ng.S; rw [(not_can hc).1]; omega
theorem NOk.S_tri {g : Ng} {n : Nat} (h : NOk g n) {a b c : Int} (h1 : 0 ≤ g.S a b) (h2 : 0 ≤ g.S b c) : 0 ≤ g.S a c ∧ g.S a c ≤ g.S a b + g.S b c := by
  have c1 := h.S_can.1 h1
  have c2 := h.S_can.1 h2
  have hr := c1.best.1.trans c2.best.1
  have c3 : Rd.Can (gr Ed.frm Ed.til g.N.toNat g.em g.E) a c := (can_iff h.ok).2 ⟨_, _, hr⟩
  refine ⟨h.S_can.2 c3, ?_⟩
  have := c3.best.2 _ _ hr
  unfold Ng.S
  unfold leL at this; omega
theorem NOk.S_self {g : Ng} {n : Nat} (h : NOk g n) (a : Int) : g.S a a = 0 := (Best.home h.ok).sec.1
section
variable (g : Ng) (t : Tk) (R : Nat → Int)
def Ng.nd (i : Int) : Nd := g.D i.toNat
def atK : Nat → Int
  | 0 => t.dep
  | k + 1 => (g.nd (R k)).node
def loadK : Nat → Int
  | 0 => 0
  | k + 1 => loadK k + (g.nd (R k)).mv
/-- The seconds to serve a need. -/
def Ng.work (i : Int) : Int := max (g.nd i).mv (-(g.nd i).mv) * g.h
noncomputable def nowK : Nat → Int
  | 0 => t.frm
  | k + 1 => nowK k + g.S (atK g t R k) (g.nd (R k)).node + g.work (R k)
noncomputable def drvK : Nat → Int
  | 0 => 0
  | k + 1 => drvK k + g.S (atK g t R k) (g.nd (R k)).node
noncomputable def visK (k : Nat) : Vi := ⟨R k, nowK g t R k + g.S (atK g t R k) (g.nd (R k)).node, nowK g t R (k + 1), loadK g R (k + 1)⟩
noncomputable def stepK (k : Nat) : Int := if g.S (atK g t R k) (g.nd (R k)).node < 0 then 15 else if loadK g R (k + 1) < 0 ∨ t.cap < loadK g R (k + 1) then 24 else 0
noncomputable def backK (k : Nat) : Int := nowK g t R k + g.S (atK g t R k) t.dep + loadK g R k * g.h
noncomputable def homeK (k : Nat) : Int := if g.S (atK g t R k) t.dep < 0 then 15 else if t.til < backK g t R k then 25 else 0
end
def outB (nn : Nat) (x : Int) : Bool := !inB x 0 ((nn : Int) - 1)
theorem outB_iff {nn : Nat} {x : Int} : outB nn x = false ↔ 0 ≤ x ∧ x < nn := by
  unfold outB
  rw [Bool.not_eq_false', inB_iff]; omega
def twiB (R : Nat → Int) (k : Nat) : Bool := anyN (fun i => anyN (fun j => decide (R j = R i)) i) k
def namesE (g : Ng) (r : Int) (R : Nat → Int) (k : Nat) : Int :=
  if r < 0 ∨ (g.tn : Int) ≤ r then 7 else if anyN (fun i => outB g.nn (R i)) k = true then 7 else if twiB R k = true then 6 else 0
/-- The error of a route. -/
noncomputable def walkE (g : Ng) (r : Int) (R : Nat → Int) (k : Nat) : Int :=
  if nightE g ≠ 0 then nightE g else if namesE g r R k ≠ 0 then namesE g r R k else if scan (stepK g (g.T r.toNat) R) k ≠ 0 then scan (stepK g (g.T r.toNat) R) k else homeK g (g.T r.toNat) R k
/-- The route's numbers are right. -/
structure ROk (g : Ng) (n : Nat) (r : Int) (R : Nat → Int) (k : Nat) : Prop where
  ng : NOk g n
  r0 : 0 ≤ r
  r1 : r < g.tn
  needs : ∀ i, i < k → 0 ≤ R i ∧ R i < g.nn
  one : ∀ i j, i < j → j < k → R i ≠ R j
  k16 : k ≤ 16
theorem names_ok {g : Ng} {r : Int} {R : Nat → Int} {k : Nat} (h : namesE g r R k = 0) : 0 ≤ r ∧ r < g.tn ∧ (∀ i, i < k → 0 ≤ R i ∧ R i < g.nn) ∧ ∀ i j, i < j → j < k → R i ≠ R j := by
  unfold namesE at h
  split at h
  · simp at h
  split at h
  · simp at h
  rename_i h1 h2
  split at h
  · simp at h
  rename_i h3
  refine ⟨by omega, by omega, fun i hi => ?_, fun i j hij hj he => h3 (anyN_yes hj (anyN_yes hij (by simp [he])))⟩
  exact outB_iff.1 (anyN_false (Bool.eq_false_iff.2 h2) hi)
theorem inj_le {R : Nat → Int} {k m : Nat} (h1 : ∀ i, i < k → 0 ≤ R i ∧ R i < m) (h2 : ∀ i j, i < j → j < k → R i ≠ R j) : k ≤ m := by
  have hn : ((List.range k).map (fun i => (R i).toNat)).Nodup := by
    rw [List.nodup_iff_pairwise_ne, List.pairwise_map]
    refine List.Pairwise.imp_of_mem ?_ (List.pairwise_lt_range)
    intro a b ha hb hab he
    have ha := List.mem_range.1 ha
    have hb := List.mem_range.1 hb
    have q1 := h1 a ha
    have q2 := h1 b hb
    exact h2 a b hab hb (by omega)
  have := nodup_le m _ hn (fun x hx => by
    obtain ⟨i, hi, rfl⟩ := List.mem_map.1 hx
    have := h1 i (List.mem_range.1 hi)
    omega)
  simpa using this
theorem rok_of {g : Ng} {r : Int} {R : Nat → Int} {k : Nat} (h1 : nightE g = 0) (h2 : namesE g r R k = 0) : ∃ n, ROk g n r R k := by
  obtain ⟨n, hn, _⟩ := nok_of h1
  obtain ⟨a, b, c, d⟩ := names_ok h2
  exact ⟨n, hn, a, b, c, d, Nat.le_trans (inj_le c d) hn.nn⟩
/-- The route can be followed. -/
structure WOk (g : Ng) (n : Nat) (r : Int) (R : Nat → Int) (k : Nat) : Prop where
  ro : ROk g n r R k
  step : ∀ i, i < k → 0 ≤ g.S (atK g (g.T r.toNat) R i) (g.nd (R i)).node ∧ 0 ≤ loadK g R (i + 1) ∧ loadK g R (i + 1) ≤ (g.T r.toNat).cap
  home : 0 ≤ g.S (atK g (g.T r.toNat) R k) (g.T r.toNat).dep
  back : backK g (g.T r.toNat) R k ≤ (g.T r.toNat).til
theorem step_ok {g : Ng} {t : Tk} {R : Nat → Int} {i : Nat} (h : stepK g t R i = 0) : 0 ≤ g.S (atK g t R i) (g.nd (R i)).node ∧ 0 ≤ loadK g R (i + 1) ∧ loadK g R (i + 1) ≤ t.cap := by
  unfold stepK at h
  split at h
  · simp at h
  split at h
  · simp at h
  omega
theorem home_ok {g : Ng} {t : Tk} {R : Nat → Int} {k : Nat} (h : homeK g t R k = 0) : 0 ≤ g.S (atK g t R k) t.dep ∧ backK g t R k ≤ t.til := by
  unfold homeK at h
  split at h
  · simp at h
  split at h
  · simp at h
  omega
theorem wok_of {g : Ng} {r : Int} {R : Nat → Int} {k : Nat} (h : walkE g r R k = 0) : ∃ n, WOk g n r R k := by
  unfold walkE at h
  split at h
  · rename_i h1; exact absurd h h1
  rename_i h1
  split at h
  · rename_i h2; exact absurd h h2
  rename_i h2
  split at h
  · rename_i h3; exact absurd h h3
  rename_i h3
  obtain ⟨n, hn⟩ := rok_of (Decidable.not_not.1 h1) (Decidable.not_not.1 h2)
  exact ⟨n, hn, fun i hi => step_ok (scan_zero (Decidable.not_not.1 h3) i hi), (home_ok h).1, (home_ok h).2⟩
section
variable {g : Ng} {n : Nat} {r : Int} {R : Nat → Int} {k : Nat}
theorem ROk.nd (h : ROk g n r R k) {i : Nat} (hi : i < k) : (0 ≤ (g.nd (R i)).node ∧ (g.nd (R i)).node < n) ∧ (g.nd (R i)).mv ≠ 0 ∧ -32 ≤ (g.nd (R i)).mv ∧ (g.nd (R i)).mv ≤ 32 := by
  have := h.needs i hi
  exact h.ng.D _ (by omega)
theorem ROk.tk (h : ROk g n r R k) : (0 ≤ (g.T r.toNat).dep ∧ (g.T r.toNat).dep < n) ∧ (1 ≤ (g.T r.toNat).cap ∧ (g.T r.toNat).cap ≤ 32) ∧ 0 ≤ (g.T r.toNat).frm ∧ (g.T r.toNat).frm ≤ (g.T r.toNat).til ∧ (g.T r.toNat).til ≤ 86400 := by
  have := h.r0
  have := h.r1
  exact h.ng.T _ (by omega)
theorem ROk.at (h : ROk g n r R k) : ∀ {i : Nat}, i ≤ k → 0 ≤ atK g (g.T r.toNat) R i ∧ atK g (g.T r.toNat) R i < n
  | 0, _ => h.tk.1
  | i + 1, hi => (h.nd (i := i) (by omega)).1
theorem ROk.work (h : ROk g n r R k) {i : Nat} (hi : i < k) : 0 ≤ g.work (R i) ∧ g.work (R i) ≤ 115200 := by
  have := h.nd hi
  have h0 := h.ng.h0
  have h1 := h.ng.h1
  unfold Ng.work
  have m0 : 0 ≤ max (g.nd (R i)).mv (-(g.nd (R i)).mv) := by omega
  have m1 : max (g.nd (R i)).mv (-(g.nd (R i)).mv) ≤ 32 := by omega
  refine ⟨Int.mul_nonneg m0 h0, ?_⟩
  have := Int.mul_le_mul m1 h1 h0 (by decide)
  omega
theorem ROk.load (h : ROk g n r R k) : ∀ {i : Nat}, i ≤ k → -(32 * (i : Int)) ≤ loadK g R i ∧ loadK g R i ≤ 32 * (i : Int)
  | 0, _ => by simp [loadK]
  | i + 1, hi => by
    have := h.load (i := i) (by omega)
    have := h.nd (i := i) (by omega)
    unfold loadK
    omega
theorem ROk.now (h : ROk g n r R k) : ∀ {i : Nat}, i ≤ k → -(i : Int) ≤ nowK g (g.T r.toNat) R i ∧ nowK g (g.T r.toNat) R i ≤ 86400 + 200000 * (i : Int)
  | 0, _ => by have := h.tk; simp [nowK]; omega
  | i + 1, hi => by
    have := h.now (i := i) (by omega)
    have := h.work (i := i) (by omega)
    have := h.ng.S_bd (h.at (i := i) (by omega)) (g.nd (R i)).node
    unfold nowK
    omega
theorem ROk.drv (h : ROk g n r R k) : ∀ {i : Nat}, i ≤ k → -(i : Int) ≤ drvK g (g.T r.toNat) R i ∧ drvK g (g.T r.toNat) R i ≤ 64000 * (i : Int)
  | 0, _ => by simp [drvK]
  | i + 1, hi => by
    have := h.drv (i := i) (by omega)
    have := h.ng.S_bd (h.at (i := i) (by omega)) (g.nd (R i)).node
    unfold drvK
    omega
end
end Go.Proofs.Ytlnfhlmgnppcbaa

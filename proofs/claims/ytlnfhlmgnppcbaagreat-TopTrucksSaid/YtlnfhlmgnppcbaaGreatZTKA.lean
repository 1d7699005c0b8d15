/- General theorems of this seat, in one text. -/
import Derived.Test.YtlnfhlmgnppcbaaGreatZR8Y
import Derived.Test.YtlnfhlmgnppcbaaGreatZA
import Derived.BigQuiet
import Derived.Test.YtlnfhlmgnppcbaaGreatZR8Z
import Derived.BigRegion
namespace Go.Proofs.YtlnfhlmgnppcbaaGreat
set_option linter.unusedVariables false
set_option linter.unusedSimpArgs false
open Rd
theorem Rd.Rc.trans {g : Gr} {a b c s k s' k' : Int} (h1 : Rc g a b s k) (h2 : Rc g b c s' k') : Rc g a c (s + s') (k + k') := by
  induction h2 with
  | nil => simpa using h1
  | @snoc s0 k0 i h hi ih =>
    have := Rc.snoc i ih hi
    rwa [← Int.add_assoc, ← Int.add_assoc]
def anyN (p : Nat → Bool) : Nat → Bool
  | 0 => false
  | n + 1 => anyN p n || p n
theorem anyN_iff {p : Nat → Bool} : ∀ {n : Nat}, anyN p n = true ↔ ∃ i, i < n ∧ p i = true
  | 0 => by simp [anyN]
  | n + 1 => by
    rw [anyN, Bool.or_eq_true, anyN_iff (n := n)]
    constructor
    · rintro (⟨i, h1, h2⟩ | h)
      · exact ⟨i, by omega, h2⟩
      · exact ⟨n, by omega, h⟩
    · rintro ⟨i, h1, h2⟩
      rcases Nat.lt_or_ge i n with h | h
      · exact .inl ⟨i, h, h2⟩
      · obtain rfl : i = n := by omega
        exact .inr h2
theorem anyN_yes {p : Nat → Bool} {n i : Nat} (h : i < n) (h2 : p i = true) : anyN p n = true := anyN_iff.2 ⟨i, h, h2⟩
theorem anyN_false {p : Nat → Bool} {n : Nat} (h : anyN p n = false) {i : Nat} (hi : i < n) : p i = false := by
  cases hh : p i
  · rfl
  · rw [anyN_yes hi hh] at h; cases h
structure Tk where
  dep : Int
  cap : Int
  frm : Int
  til : Int
structure Nd where
  node : Int
  mv : Int
structure Vi where
  need : Int
  arr : Int
  lea : Int
  load : Int
structure Ng where
  N : Int
  ea : Option Addr
  em : Nat
  ec : Nat
  E : Nat → Ed
  ta : Option Addr
  tn : Nat
  tc : Nat
  T : Nat → Tk
  na : Option Addr
  nn : Nat
  nc : Nat
  D : Nat → Nd
  h : Int
def truckE (N : Int) (t : Tk) : Int := if nodeB N t.dep = false then 7 else if t.cap < 1 ∨ 32 < t.cap ∨ t.frm < 0 ∨ t.til < t.frm ∨ 86400 < t.til then 1 else 0
def needE (N : Int) (x : Nd) : Int := if nodeB N x.node = false then 7 else if x.mv = 0 ∨ x.mv < -32 ∨ 32 < x.mv then 1 else 0
def dupB (D : Nat → Nd) (i : Nat) : Bool := anyN (fun k => decide ((D k).node = (D i).node)) i
def nightE (g : Ng) : Int :=
  if roadE g.N g.em g.E ≠ 0 then roadE g.N g.em g.E
  else if 8 < g.tn ∨ 16 < g.nn then 8
  else if scan (fun i => truckE g.N (g.T i)) g.tn ≠ 0 then scan (fun i => truckE g.N (g.T i)) g.tn
  else if scan (fun i => needE g.N (g.D i)) g.nn ≠ 0 then scan (fun i => needE g.N (g.D i)) g.nn
  else if anyN (dupB g.D) g.nn = true then 6
  else if g.h < 0 ∨ 3600 < g.h then 1 else 0
structure NOk (g : Ng) (n : Nat) : Prop where
  hN : g.N = n
  right : Right n g.em g.E
  tn : g.tn ≤ 8
  nn : g.nn ≤ 16
  T : ∀ i, i < g.tn → (0 ≤ (g.T i).dep ∧ (g.T i).dep < n) ∧ (1 ≤ (g.T i).cap ∧ (g.T i).cap ≤ 32) ∧ 0 ≤ (g.T i).frm ∧ (g.T i).frm ≤ (g.T i).til ∧ (g.T i).til ≤ 86400
  D : ∀ i, i < g.nn → (0 ≤ (g.D i).node ∧ (g.D i).node < n) ∧ (g.D i).mv ≠ 0 ∧ -32 ≤ (g.D i).mv ∧ (g.D i).mv ≤ 32
  dup : ∀ i j, i < j → j < g.nn → (g.D i).node ≠ (g.D j).node
  h0 : 0 ≤ g.h
  h1 : g.h ≤ 3600
theorem nodeB_iff {N v : Int} : nodeB N v = true ↔ 0 ≤ v ∧ v < N := by simp [nodeB]
theorem nok_of {g : Ng} (h : nightE g = 0) : ∃ n, NOk g n ∧ roadE g.N g.em g.E = 0 := by
  unfold nightE at h
  split at h
  · rename_i h1; exact absurd h h1
  rename_i h1
  have h1 : roadE g.N g.em g.E = 0 := Decidable.not_not.1 h1
  split at h
  · simp at h
  rename_i h2
  split at h
  · rename_i h3; exact absurd h h3
  rename_i h3
  have h3 := scan_zero (Decidable.not_not.1 h3)
  split at h
  · rename_i h4; exact absurd h h4
  rename_i h4
  have h4 := scan_zero (Decidable.not_not.1 h4)
  split at h
  · simp at h
  rename_i h5
  split at h
  · simp at h
  rename_i h6
  obtain ⟨n, hn, hr⟩ := right_of h1
  refine ⟨n, ⟨hn, hr, by omega, by omega, fun i hi => ?_, fun i hi => ?_, fun i j hij hj => ?_, by omega, by omega⟩, h1⟩
  · have := h3 i hi
    unfold truckE at this
    split at this
    · simp at this
    rename_i q1
    split at this
    · simp at this
    rename_i q2
    have q1 : nodeB g.N (g.T i).dep = true := by simpa using q1
    rw [nodeB_iff, hn] at q1
    omega
  · have := h4 i hi
    unfold needE at this
    split at this
    · simp at this
    rename_i q1
    split at this
    · simp at this
    rename_i q2
    have q1 : nodeB g.N (g.D i).node = true := by simpa using q1
    rw [nodeB_iff, hn] at q1
    omega
  · intro he
    exact h5 (anyN_yes hj (anyN_yes hij (by simp [he])))
noncomputable def Ng.S (g : Ng) (a b : Int) : Int := sec (gr Ed.frm Ed.til g.N.toNat g.em g.E) a b
theorem NOk.ok {g : Ng} {n : Nat} (h : NOk g n) : (gr Ed.frm Ed.til g.N.toNat g.em g.E).Ok := by
  rw [h.hN, Int.toNat_natCast]; exact h.right.fwd
theorem NOk.S_can {g : Ng} {n : Nat} (h : NOk g n) {a b : Int} : 0 ≤ g.S a b ↔ Rd.Can (gr Ed.frm Ed.til g.N.toNat g.em g.E) a b := by
  unfold Ng.S
  constructor
  · intro h1
    by_cases hc : Rd.Can (gr Ed.frm Ed.til g.N.toNat g.em g.E) a b
    · exact hc
    · rw [(not_can hc).1] at h1; omega
  · intro hc
    exact (by have := (hc.best.1.nonneg h.ok); omega)
theorem NOk.S_bd {g : Ng} {n : Nat} (h : NOk g n) {a : Int} (ha : 0 ≤ a ∧ a < n) (b : Int) : -1 ≤ g.S a b ∧ g.S a b ≤ 64000 := by
  by_cases hc : Rd.Can (gr Ed.frm Ed.til g.N.toNat g.em g.E) a b
  · have h1 := hc.best.1.nonneg h.ok
    have h2 := hc.best.few h.ok (by show 0 ≤ a ∧ a < (g.N.toNat : Int); rw [h.hN, Int.toNat_natCast]; exact ha)
    have h3 := h.right.n2
    have h4 : (gr Ed.frm Ed.til g.N.toNat g.em g.E).n = n := by show g.N.toNat = n; rw [h.hN, Int.toNat_natCast]
    rw [h4] at h2
    unfold Ng.S; omega
  · unfold Ng.S; rw [(not_can hc).1]; omega
theorem NOk.S_tri {g : Ng} {n : Nat} (h : NOk g n) {a b c : Int} (h1 : 0 ≤ g.S a b) (h2 : 0 ≤ g.S b c) : 0 ≤ g.S a c ∧ g.S a c ≤ g.S a b + g.S b c := by
  have c1 := h.S_can.1 h1
  have c2 := h.S_can.1 h2
  have hr := c1.best.1.trans c2.best.1
  have c3 : Rd.Can (gr Ed.frm Ed.til g.N.toNat g.em g.E) a c := (can_iff h.ok).2 ⟨_, _, hr⟩
  refine ⟨h.S_can.2 c3, ?_⟩
  have := c3.best.2 _ _ hr
  unfold Ng.S
  unfold leL at this; omega
theorem NOk.S_self {g : Ng} {n : Nat} (h : NOk g n) (a : Int) : g.S a a = 0 := (Best.home h.ok).sec.1
section
variable (g : Ng) (t : Tk) (R : Nat → Int)
def Ng.nd (i : Int) : Nd := g.D i.toNat
def atK : Nat → Int
  | 0 => t.dep
  | k + 1 => (g.nd (R k)).node
def loadK : Nat → Int
  | 0 => 0
  | k + 1 => loadK k + (g.nd (R k)).mv
def Ng.work (i : Int) : Int := max (g.nd i).mv (-(g.nd i).mv) * g.h
noncomputable def nowK : Nat → Int
  | 0 => t.frm
  | k + 1 => nowK k + g.S (atK g t R k) (g.nd (R k)).node + g.work (R k)
noncomputable def drvK : Nat → Int
  | 0 => 0
  | k + 1 => drvK k + g.S (atK g t R k) (g.nd (R k)).node
noncomputable def visK (k : Nat) : Vi := ⟨R k, nowK g t R k + g.S (atK g t R k) (g.nd (R k)).node, nowK g t R (k + 1), loadK g R (k + 1)⟩
noncomputable def stepK (k : Nat) : Int := if g.S (atK g t R k) (g.nd (R k)).node < 0 then 15 else if loadK g R (k + 1) < 0 ∨ t.cap < loadK g R (k + 1) then 24 else 0
noncomputable def backK (k : Nat) : Int := nowK g t R k + g.S (atK g t R k) t.dep + loadK g R k * g.h
noncomputable def homeK (k : Nat) : Int := if g.S (atK g t R k) t.dep < 0 then 15 else if t.til < backK g t R k then 25 else 0
end
def outB (nn : Nat) (x : Int) : Bool := !inB x 0 ((nn : Int) - 1)
theorem outB_iff {nn : Nat} {x : Int} : outB nn x = false ↔ 0 ≤ x ∧ x < nn := by
  unfold outB
  rw [Bool.not_eq_false', inB_iff]; omega
def twiB (R : Nat → Int) (k : Nat) : Bool := anyN (fun i => anyN (fun j => decide (R j = R i)) i) k
def namesE (g : Ng) (r : Int) (R : Nat → Int) (k : Nat) : Int :=
  if r < 0 ∨ (g.tn : Int) ≤ r then 7 else if anyN (fun i => outB g.nn (R i)) k = true then 7 else if twiB R k = true then 6 else 0
noncomputable def walkE (g : Ng) (r : Int) (R : Nat → Int) (k : Nat) : Int :=
  if nightE g ≠ 0 then nightE g else if namesE g r R k ≠ 0 then namesE g r R k else if scan (stepK g (g.T r.toNat) R) k ≠ 0 then scan (stepK g (g.T r.toNat) R) k else homeK g (g.T r.toNat) R k
structure ROk (g : Ng) (n : Nat) (r : Int) (R : Nat → Int) (k : Nat) : Prop where
  ng : NOk g n
  r0 : 0 ≤ r
  r1 : r < g.tn
  needs : ∀ i, i < k → 0 ≤ R i ∧ R i < g.nn
  one : ∀ i j, i < j → j < k → R i ≠ R j
  k16 : k ≤ 16
theorem names_ok {g : Ng} {r : Int} {R : Nat → Int} {k : Nat} (h : namesE g r R k = 0) : 0 ≤ r ∧ r < g.tn ∧ (∀ i, i < k → 0 ≤ R i ∧ R i < g.nn) ∧ ∀ i j, i < j → j < k → R i ≠ R j := by
  unfold namesE at h
  split at h
  · simp at h
  split at h
  · simp at h
  rename_i h1 h2
  split at h
  · simp at h
  rename_i h3
  refine ⟨by omega, by omega, fun i hi => ?_, fun i j hij hj he => h3 (anyN_yes hj (anyN_yes hij (by simp [he])))⟩
  exact outB_iff.1 (anyN_false (Bool.eq_false_iff.2 h2) hi)
theorem inj_le {R : Nat → Int} {k m : Nat} (h1 : ∀ i, i < k → 0 ≤ R i ∧ R i < m) (h2 : ∀ i j, i < j → j < k → R i ≠ R j) : k ≤ m := by
  have hn : ((List.range k).map (fun i => (R i).toNat)).Nodup := by
    rw [List.nodup_iff_pairwise_ne, List.pairwise_map]
    refine List.Pairwise.imp_of_mem ?_ (List.pairwise_lt_range)
    intro a b ha hb hab he
    have ha := List.mem_range.1 ha
    have hb := List.mem_range.1 hb
    have q1 := h1 a ha
    have q2 := h1 b hb
    exact h2 a b hab hb (by omega)
  have := nodup_le m _ hn (fun x hx => by
    obtain ⟨i, hi, rfl⟩ := List.mem_map.1 hx
    have := h1 i (List.mem_range.1 hi)
    omega)
  simpa using this
theorem rok_of {g : Ng} {r : Int} {R : Nat → Int} {k : Nat} (h1 : nightE g = 0) (h2 : namesE g r R k = 0) : ∃ n, ROk g n r R k := by
  obtain ⟨n, hn, _⟩ := nok_of h1
  obtain ⟨a, b, c, d⟩ := names_ok h2
  exact ⟨n, hn, a, b, c, d, Nat.le_trans (inj_le c d) hn.nn⟩
structure WOk (g : Ng) (n : Nat) (r : Int) (R : Nat → Int) (k : Nat) : Prop where
  ro : ROk g n r R k
  step : ∀ i, i < k → 0 ≤ g.S (atK g (g.T r.toNat) R i) (g.nd (R i)).node ∧ 0 ≤ loadK g R (i + 1) ∧ loadK g R (i + 1) ≤ (g.T r.toNat).cap
  home : 0 ≤ g.S (atK g (g.T r.toNat) R k) (g.T r.toNat).dep
  back : backK g (g.T r.toNat) R k ≤ (g.T r.toNat).til
theorem step_ok {g : Ng} {t : Tk} {R : Nat → Int} {i : Nat} (h : stepK g t R i = 0) : 0 ≤ g.S (atK g t R i) (g.nd (R i)).node ∧ 0 ≤ loadK g R (i + 1) ∧ loadK g R (i + 1) ≤ t.cap := by
  unfold stepK at h
  split at h
  · simp at h
  split at h
  · simp at h
  omega
theorem home_ok {g : Ng} {t : Tk} {R : Nat → Int} {k : Nat} (h : homeK g t R k = 0) : 0 ≤ g.S (atK g t R k) t.dep ∧ backK g t R k ≤ t.til := by
  unfold homeK at h
  split at h
  · simp at h
  split at h
  · simp at h
  omega
theorem wok_of {g : Ng} {r : Int} {R : Nat → Int} {k : Nat} (h : walkE g r R k = 0) : ∃ n, WOk g n r R k := by
  unfold walkE at h
  split at h
  · rename_i h1; exact absurd h h1
  rename_i h1
  split at h
  · rename_i h2; exact absurd h h2
  rename_i h2
  split at h
  · rename_i h3; exact absurd h h3
  rename_i h3
  obtain ⟨n, hn⟩ := rok_of (Decidable.not_not.1 h1) (Decidable.not_not.1 h2)
  exact ⟨n, hn, fun i hi => step_ok (scan_zero (Decidable.not_not.1 h3) i hi), (home_ok h).1, (home_ok h).2⟩
section
variable {g : Ng} {n : Nat} {r : Int} {R : Nat → Int} {k : Nat}
theorem ROk.nd (h : ROk g n r R k) {i : Nat} (hi : i < k) : (0 ≤ (g.nd (R i)).node ∧ (g.nd (R i)).node < n) ∧ (g.nd (R i)).mv ≠ 0 ∧ -32 ≤ (g.nd (R i)).mv ∧ (g.nd (R i)).mv ≤ 32 := by
  have := h.needs i hi
  exact h.ng.D _ (by omega)
theorem ROk.tk (h : ROk g n r R k) : (0 ≤ (g.T r.toNat).dep ∧ (g.T r.toNat).dep < n) ∧ (1 ≤ (g.T r.toNat).cap ∧ (g.T r.toNat).cap ≤ 32) ∧ 0 ≤ (g.T r.toNat).frm ∧ (g.T r.toNat).frm ≤ (g.T r.toNat).til ∧ (g.T r.toNat).til ≤ 86400 := by
  have := h.r0
  have := h.r1
  exact h.ng.T _ (by omega)
theorem ROk.at (h : ROk g n r R k) : ∀ {i : Nat}, i ≤ k → 0 ≤ atK g (g.T r.toNat) R i ∧ atK g (g.T r.toNat) R i < n
  | 0, _ => h.tk.1
  | i + 1, hi => (h.nd (i := i) (by omega)).1
theorem ROk.work (h : ROk g n r R k) {i : Nat} (hi : i < k) : 0 ≤ g.work (R i) ∧ g.work (R i) ≤ 115200 := by
  have := h.nd hi
  have h0 := h.ng.h0
  have h1 := h.ng.h1
  unfold Ng.work
  have m0 : 0 ≤ max (g.nd (R i)).mv (-(g.nd (R i)).mv) := by omega
  have m1 : max (g.nd (R i)).mv (-(g.nd (R i)).mv) ≤ 32 := by omega
  refine ⟨Int.mul_nonneg m0 h0, ?_⟩
  have := Int.mul_le_mul m1 h1 h0 (by decide)
  omega
theorem ROk.load (h : ROk g n r R k) : ∀ {i : Nat}, i ≤ k → -(32 * (i : Int)) ≤ loadK g R i ∧ loadK g R i ≤ 32 * (i : Int)
  | 0, _ => by simp [loadK]
  | i + 1, hi => by
    have := h.load (i := i) (by omega)
    have := h.nd (i := i) (by omega)
    unfold loadK
    omega
theorem ROk.now (h : ROk g n r R k) : ∀ {i : Nat}, i ≤ k → -(i : Int) ≤ nowK g (g.T r.toNat) R i ∧ nowK g (g.T r.toNat) R i ≤ 86400 + 200000 * (i : Int)
  | 0, _ => by have := h.tk; simp [nowK]; omega
  | i + 1, hi => by
    have := h.now (i := i) (by omega)
    have := h.work (i := i) (by omega)
    have := h.ng.S_bd (h.at (i := i) (by omega)) (g.nd (R i)).node
    unfold nowK
    omega
theorem ROk.drv (h : ROk g n r R k) : ∀ {i : Nat}, i ≤ k → -(i : Int) ≤ drvK g (g.T r.toNat) R i ∧ drvK g (g.T r.toNat) R i ≤ 64000 * (i : Int)
  | 0, _ => by simp [drvK]
  | i + 1, hi => by
    have := h.drv (i := i) (by omega)
    have := h.ng.S_bd (h.at (i := i) (by omega)) (g.nd (R i)).node
    unfold drvK
    omega
end
end Go.Proofs.YtlnfhlmgnppcbaaGreat
namespace Go.Proofs.YtlnfhlmgnppcbaaGreat
set_option linter.unusedVariables false
set_option linter.unusedSimpArgs false
open Rd
section
variable {g : Ng} {n : Nat} {r : Int} {R : Nat → Int} {k : Nat}
theorem WOk.fwd (h : WOk g n r R k) (i : Nat) : ∀ {j : Nat}, i ≤ j → j ≤ k → 0 ≤ g.S (atK g (g.T r.toNat) R i) (atK g (g.T r.toNat) R j)
  | 0, hij, _ => by
    obtain rfl : i = 0 := by omega
    rw [h.ro.ng.S_self]; omega
  | j + 1, hij, hj => by
    by_cases e : i = j + 1
    · subst e; rw [h.ro.ng.S_self]; omega
    · exact (h.ro.ng.S_tri (h.fwd i (j := j) (by omega) (by omega)) (h.step j (by omega)).1).1
theorem WOk.all (h : WOk g n r R k) {i j : Nat} (hi : i ≤ k) (hj : j ≤ k) : 0 ≤ g.S (atK g (g.T r.toNat) R i) (atK g (g.T r.toNat) R j) :=
  (h.ro.ng.S_tri (h.ro.ng.S_tri (h.fwd i hi (Nat.le_refl _)) h.home).1 (h.fwd 0 (Nat.zero_le _) hj)).1
theorem WOk.home_all (h : WOk g n r R k) {i : Nat} (hi : i ≤ k) : 0 ≤ g.S (atK g (g.T r.toNat) R i) (g.T r.toNat).dep := h.all hi (Nat.zero_le _)
theorem WOk.load_all (h : WOk g n r R k) {i : Nat} (hi : i ≤ k) : 0 ≤ loadK g R i ∧ loadK g R i ≤ (g.T r.toNat).cap := by
  cases i with
  | zero => have := h.ro.tk; simp [loadK]; omega
  | succ i => exact (h.step i (by omega)).2
noncomputable def hom (g : Ng) (t : Tk) (R : Nat → Int) (i : Nat) : Int := backK g t R i
theorem WOk.back_step (h : WOk g n r R k) {i : Nat} (hi : i < k) : backK g (g.T r.toNat) R i ≤ backK g (g.T r.toNat) R (i + 1) := by
  have h1 := h.home_all (i := i + 1) (by omega)
  have h2 := (h.ro.ng.S_tri (h.step i hi).1 h1).2
  have h0 := h.ro.ng.h0
  have e1 : nowK g (g.T r.toNat) R (i + 1) = nowK g (g.T r.toNat) R i + g.S (atK g (g.T r.toNat) R i) (g.nd (R i)).node + g.work (R i) := rfl
  have e2 : loadK g R (i + 1) = loadK g R i + (g.nd (R i)).mv := rfl
  have e3 : atK g (g.T r.toNat) R (i + 1) = (g.nd (R i)).node := rfl
  have e4 : (loadK g R i) * g.h ≤ loadK g R (i + 1) * g.h + g.work (R i) := by
    rw [e2, Int.add_mul]
    have : 0 ≤ ((g.nd (R i)).mv + max (g.nd (R i)).mv (-(g.nd (R i)).mv)) * g.h := Int.mul_nonneg (by omega) h0
    rw [Int.add_mul] at this
    unfold Ng.work; omega
  unfold backK
  rw [e3] at h1 ⊢
  omega
theorem WOk.back_le (h : WOk g n r R k) : ∀ {j : Nat} (i : Nat), i ≤ j → j ≤ k → backK g (g.T r.toNat) R i ≤ backK g (g.T r.toNat) R j
  | 0, i, hij, _ => by
    obtain rfl : i = 0 := by omega
    exact Int.le_refl _
  | j + 1, i, hij, hj => by
    by_cases e : i = j + 1
    · subst e; exact Int.le_refl _
    · exact Int.le_trans (h.back_le (j := j) i (by omega) (by omega)) (h.back_step (by omega))
theorem WOk.now (h : WOk g n r R k) : ∀ {i : Nat}, i ≤ k → 0 ≤ nowK g (g.T r.toNat) R i ∧ nowK g (g.T r.toNat) R i ≤ 86400
  | i, hi => by
    have h1 := h.home_all hi
    have h2 := h.back_le i hi (Nat.le_refl _)
    have h3 := h.back
    have h4 := h.ro.tk
    have h5 := (h.load_all hi).1
    have h6 := Int.mul_nonneg h5 h.ro.ng.h0
    have h7 : 0 ≤ nowK g (g.T r.toNat) R i := by
      clear h1 h2 h3 h5 h6
      induction i with
      | zero => exact h4.2.2.1
      | succ i ih =>
        have := ih (by omega)
        have := (h.step i (by omega)).1
        have := (h.ro.work (i := i) (by omega)).1
        unfold nowK; omega
    unfold backK at h2 h3
    omega
end
noncomputable def lateE (g : Ng) (r : Int) (R : Nat → Int) (k : Nat) (done now : Int) : Int :=
  if walkE g r R k ≠ 0 then walkE g r R k else if done < 0 ∨ (k : Int) < done ∨ now < 0 ∨ 86400 < now then 1 else if now < nowK g (g.T r.toNat) R done.toNat then 18 else 0
noncomputable def delayK (g : Ng) (r : Int) (R : Nat → Int) (done now : Int) : Int := now - nowK g (g.T r.toNat) R done.toNat
noncomputable def restE (g : Ng) (r : Int) (R : Nat → Int) (k : Nat) (done now : Int) : Int :=
  if lateE g r R k done now ≠ 0 then lateE g r R k done now else if (g.T r.toNat).til < backK g (g.T r.toNat) R k + delayK g r R done now then 25 else 0
structure Cs where
  at' : Int
  load : Int
  now : Int
noncomputable def servO (g : Ng) (p : Cs) (i : Int) : Cs := ⟨(g.nd i).node, p.load + (g.nd i).mv, p.now + g.S p.at' (g.nd i).node + g.work i⟩
noncomputable def servB (g : Ng) (t : Tk) (p : Cs) (i : Int) : Bool := decide (0 ≤ g.S p.at' (g.nd i).node ∧ 0 ≤ p.load + (g.nd i).mv ∧ p.load + (g.nd i).mv ≤ t.cap)
noncomputable def fitsB (g : Ng) (t : Tk) (p : Cs) : Bool := decide (0 ≤ g.S p.at' t.dep ∧ p.now + g.S p.at' t.dep + p.load * g.h ≤ t.til)
noncomputable def okB (g : Ng) (t : Tk) (p : Cs) (i : Int) : Bool := servB g t p i && fitsB g t (servO g p i)
noncomputable def cutS (g : Ng) (t : Tk) (a : Cs × List Int) (i : Int) : Cs × List Int := if okB g t a.1 i = true then (servO g a.1 i, a.2 ++ [i]) else a
noncomputable def cutK (g : Ng) (t : Tk) (R : Nat → Int) (done : Nat) (now : Int) : Nat → Cs × List Int
  | 0 => (⟨atK g t R done, loadK g R done, now⟩, (List.range done).map R)
  | j + 1 => cutS g t (cutK g t R done now j) (R (done + j))
noncomputable def cutE (g : Ng) (r : Int) (R : Nat → Int) (k : Nat) (done now : Int) : Int :=
  if lateE g r R k done now ≠ 0 then lateE g r R k done now else if fitsB g (g.T r.toNat) ⟨atK g (g.T r.toNat) R done.toNat, loadK g R done.toNat, now⟩ = false then 25 else 0
noncomputable def cutL (g : Ng) (r : Int) (R : Nat → Int) (k : Nat) (done now : Int) : List Int := (cutK g (g.T r.toNat) R done.toNat now (k - done.toNat)).2
section
variable {g : Ng} {n : Nat} {r : Int} {R : Nat → Int} {k d : Nat} {now : Int}
structure CutI (g : Ng) (n : Nat) (r : Int) (R : Nat → Int) (k d j : Nat) (a : Cs × List Int) : Prop where
  at' : ∃ i, i ≤ d + j ∧ a.1.at' = atK g (g.T r.toNat) R i
  load : 0 ≤ a.1.load ∧ a.1.load ≤ (g.T r.toNat).cap
  now0 : 0 ≤ a.1.now
  fits : fitsB g (g.T r.toNat) a.1 = true
  len : d ≤ a.2.length ∧ a.2.length ≤ d + j
end
end Go.Proofs.YtlnfhlmgnppcbaaGreat
namespace Go.Proofs.YtlnfhlmgnppcbaaGreat
open Go.RowKit Go.ChangeShapes Go.WideShapes Go.Deep
set_option linter.unusedVariables false
set_option linter.unusedSimpArgs false
set_option maxRecDepth 4000
theorem Sl.cut {w : World} {s : Nat} {ao : Option Addr} {n c : Nat} {f : Nat → List Value} (h : Sl w s ao n c f) {q : Nat} (hq : q ≤ n) : Sl w s ao q c f :=
  ⟨by have := h.hm; omega, h.hc, fun e => ⟨by have := (h.hno e).1; omega, (h.hno e).2⟩, h.len, fun i hi => h.sl i (by omega)⟩
def tkf (T : Nat → Tk) : Nat → List Value := fun i => [.int .i64 (T i).dep, .int .i64 (T i).cap, .int .i64 (T i).frm, .int .i64 (T i).til]
def ndf (D : Nat → Nd) : Nat → List Value := fun i => [.int .i64 (D i).node, .int .i64 (D i).mv]
def Ng.cells (g : Ng) : Array Value := #[.int .i64 g.N, .slice g.ea g.em g.ec, .slice g.ta g.tn g.tc, .slice g.na g.nn g.nc, .int .i64 g.h]
structure Ng.In (g : Ng) (w : World) : Prop where
  net : Net w g.ea g.em g.ec g.E
  trucks : Sl w 4 g.ta g.tn g.tc (tkf g.T)
  needs : Sl w 2 g.na g.nn g.nc (ndf g.D)
theorem Ng.In.below {g : Ng} {w w' : World} (h : g.In w) (hb : Below w.heap.size w w') : g.In w' := ⟨h.net.below hb, h.trucks.below hb, h.needs.below hb⟩
theorem Sl.tk {w : World} {ao : Option Addr} {n c : Nat} {T : Nat → Tk} (h : Sl w 4 ao n c (tkf T)) {i : Nat} (hi : i < n) : ∃ g o, ao = some ⟨g, o, none⟩ ∧ g < w.heap.size ∧ w.cell? ⟨g, o + i * 4, none⟩ = some (.int .i64 (T i).dep) ∧ w.cell? ⟨g, o + i * 4 + 1, none⟩ = some (.int .i64 (T i).cap) ∧ w.cell? ⟨g, o + i * 4 + 2, none⟩ = some (.int .i64 (T i).frm) ∧ w.cell? ⟨g, o + i * 4 + 3, none⟩ = some (.int .i64 (T i).til) := by
  obtain ⟨g, o, e, hc⟩ := h.cell hi
  have h0 : w.cell? ⟨g, o + i * 4, none⟩ = some (.int .i64 (T i).dep) := hc 0 (by decide)
  exact ⟨g, o, e, cell_lt h0, h0, hc 1 (by decide), hc 2 (by decide), hc 3 (by decide)⟩
theorem Sl.nd {w : World} {ao : Option Addr} {n c : Nat} {D : Nat → Nd} (h : Sl w 2 ao n c (ndf D)) {i : Nat} (hi : i < n) : ∃ g o, ao = some ⟨g, o, none⟩ ∧ g < w.heap.size ∧ w.cell? ⟨g, o + i * 2, none⟩ = some (.int .i64 (D i).node) ∧ w.cell? ⟨g, o + i * 2 + 1, none⟩ = some (.int .i64 (D i).mv) := by
  obtain ⟨g, o, e, hc⟩ := h.cell hi
  have h0 : w.cell? ⟨g, o + i * 2, none⟩ = some (.int .i64 (D i).node) := hc 0 (by decide)
  exact ⟨g, o, e, cell_lt h0, h0, hc 1 (by decide)⟩
theorem in75 (n lo hi : Int) (w : World) : Calls Tryz.prog 75 #[.int .i64 n, .int .i64 lo, .int .i64 hi] w fun e w' => e = .returned (.bool (inB n lo hi)) ∧ w = w' := by
  by_cases h : lo ≤ n
  · have e : inB n lo hi = decide (n ≤ hi) := by simp [inB, h]
    have HE := Lib.hid e
    clear e
    go_enter Tryz.func75, Tryz.ntmps75
    go_wp2_with fail
    go_returns
    exact ⟨by rw [HE.out]; rfl, rfl⟩
  · have e : inB n lo hi = false := by simp [inB, h]
    have HE := Lib.hid e
    have hl : n < lo := by omega
    clear e h
    go_enter Tryz.func75, Tryz.ntmps75
    go_wp2_with fail
    go_returns
    exact ⟨by rw [HE.out]; rfl, rfl⟩
theorem index81 (ao : Option Addr) (m c : Nat) (F : Nat → Int) (v : Int) (w : World) (h : Sl w 1 ao m c (nf F)) (hm : m ≤ 1000) : Calls Tryz.prog 81 #[.slice ao m c, .int .i64 v] w fun e w' => ∃ x : Int, e = .returned (.int .i64 x) ∧ decide (0 ≤ x) = anyN (fun j => decide (F j = v)) m ∧ Below w.heap.size w w' := by
  have hmc := h.hm
  have hcc := h.hc
  have HS := Lib.hid h
  clear h
  go_enter Tryz.func81, Tryz.ntmps81
  go_wp2_with fail
  go_loopw [8] (fun i wr => ∃ j : Nat, i = .int .i64 j ∧ j ≤ m ∧ Hid (anyN (fun j => decide (F j = v)) j = false ∧ Below w.heap.size w wr)) (fun i _ => m - (intOf i).toNat)
  case atStart => exact ⟨0, rfl, by omega, Lib.hid ⟨rfl, by (repeat' (first | (with_reducible exact Below.refl _ _) | (with_reducible assumption) | (with_reducible refine Below.drew ?_) | (with_reducible refine below_drewN ?_ _) | (with_reducible refine Below.alloc ?_ ?_ _) | (with_reducible refine Below.setCell ?_ ?_ _) | go_size))⟩⟩
  case round =>
    obtain ⟨j, rfl, hj, hrel⟩ := hrel
    have HR := hrel
    clear hrel
    by_cases hlt : j < m
    · have tj : (j : Int) < (m : Int) := by omega
      obtain ⟨g, o, rfl, hg, e0⟩ := (HS.out.below HR.out.2).num hlt
      have zg := szs hg
      obtain ⟨x, hx⟩ : ∃ x, x = F j := ⟨_, rfl⟩
      rw [← hx] at e0
      have HX := Lib.hid hx
      clear hx
      by_cases hv : v = x
      · subst hv
        have tv : (v == v) = true := by simp
        have HA := Lib.hid (anyN_yes (p := fun j => decide (F j = v)) hlt (by simp [HX.out]))
        go_wp2_with fail
        go_returns
        exact ⟨_, rfl, by rw [HA.out]; exact decide_eq_true (by omega), HR.out.2⟩
      · have tv : (v == x) = false := by simpa using hv
        have HA : Hid (anyN (fun j => decide (F j = v)) (j + 1) = false) := Lib.hid (by unfold anyN; rw [HR.out.1, ← HX.out]; simp; exact fun e => hv e.symm)
        go_wp2_with fail
        go_roundw
        case rel => exact ⟨j + 1, by go_num, by omega, Lib.hid ⟨HA.out, HR.out.2⟩⟩
        case measure => simp [intOf]; omega
    · obtain rfl : j = m := by omega
      go_wp2_with fail
      go_returns
      exact ⟨_, rfl, by rw [HR.out.1]; rfl, HR.out.2⟩
theorem contains46 (ao : Option Addr) (m c : Nat) (F : Nat → Int) (v : Int) (w : World) (h : Sl w 1 ao m c (nf F)) (hm : m ≤ 1000) : Calls Tryz.prog 46 #[.slice ao m c, .int .i64 v] w fun e w' => e = .returned (.bool (anyN (fun j => decide (F j = v)) m)) ∧ Below w.heap.size w w' := by
  have IX := Lib.hid (index81 ao m c F v w h hm)
  clear h
  generalize anyN (fun j => decide (F j = v)) m = y at *
  go_enter Tryz.func46, Tryz.ntmps46
  go_wp2_with fail
  refine IX.out.mono ?_
  rintro e w1 ⟨x, rfl, rfl, b1⟩
  have B1 := Lib.hid b1
  clear b1 IX
  go_wp2_with fail
  go_returns
  exact ⟨rfl, B1.out⟩
theorem twice84 (ao : Option Addr) (m c : Nat) (F : Nat → Int) (w : World) (h : Sl w 1 ao m c (nf F)) (hm : m ≤ 1000) : Calls Tryz.prog 84 #[.slice ao m c] w fun e w' => e = .returned (.bool (twiB F m)) ∧ Below w.heap.size w w' := by
  have hmc := h.hm
  have hcc := h.hc
  have HS := Lib.hid h
  clear h
  unfold twiB
  go_enter Tryz.func84, Tryz.ntmps84
  go_wp2_with fail
  go_loopw [7] (fun i wr => ∃ j : Nat, i = .int .i64 j ∧ j ≤ m ∧ Hid (anyN (fun i => anyN (fun j => decide (F j = F i)) i) j = false ∧ Below w.heap.size w wr)) (fun i _ => m - (intOf i).toNat)
  case atStart => exact ⟨0, rfl, by omega, Lib.hid ⟨rfl, by (repeat' (first | (with_reducible exact Below.refl _ _) | (with_reducible assumption) | (with_reducible refine Below.drew ?_) | (with_reducible refine below_drewN ?_ _) | (with_reducible refine Below.alloc ?_ ?_ _) | (with_reducible refine Below.setCell ?_ ?_ _) | go_size))⟩⟩
  case round =>
    obtain ⟨j, rfl, hj, hrel⟩ := hrel
    have HR := hrel
    clear hrel
    by_cases hlt : j < m
    · have tj : (j : Int) < (m : Int) := by omega
      have tj0 : (0 : Int) ≤ (j : Int) := by omega
      have tj1 : (j : Int) ≤ (c : Int) := by omega
      have ej : j - 0 = j := by omega
      obtain ⟨g, o, rfl, hg, e0⟩ := (HS.out.below HR.out.2).num hlt
      have zg := szs hg
      have CT := contains46 (some ⟨g, o, none⟩) j c F (F j) wr ((HS.out.below HR.out.2).cut (by omega)) (by omega)
      obtain ⟨b, hb⟩ : ∃ b, b = anyN (fun i => decide (F i = F j)) j := ⟨_, rfl⟩
      rw [← hb] at CT
      have HB := Lib.hid hb
      obtain ⟨x, hx⟩ : ∃ x, x = F j := ⟨_, rfl⟩
      rw [← hx] at e0 CT
      replace CT := Lib.hid CT
      clear hx hb
      go_wp2_with fail
      refine CT.out.mono ?_
      rintro e w1 ⟨rfl, b1⟩
      have B1 := Lib.hid (HR.out.2.trans (b1.mono HR.out.2.size))
      clear b1 CT
      cases b with
      | true =>
        have HA := Lib.hid (anyN_yes (p := fun i => anyN (fun j => decide (F j = F i)) i) hlt HB.out.symm)
        go_wp2_with fail
        go_returns
        exact ⟨by rw [HA.out]; rfl, B1.out⟩
      | false =>
        have HA : Hid (anyN (fun i => anyN (fun j => decide (F j = F i)) i) (j + 1) = false) := Lib.hid (by rw [anyN, HR.out.1, ← HB.out]; rfl)
        go_wp2_with fail
        go_roundw
        case rel => exact ⟨j + 1, by go_num, by omega, Lib.hid ⟨HA.out, B1.out⟩⟩
        case measure => simp [intOf]; omega
    · obtain rfl : j = m := by omega
      go_wp2_with fail
      go_returns
      exact ⟨by rw [HR.out.1]; rfl, HR.out.2⟩
theorem out83 (b : Nat) (nn : Nat) (na : Option Addr) (nc : Nat) (x : Int) (w : World) (h : w.cell? ⟨b, 3, none⟩ = some (.slice na nn nc)) (hn : nn ≤ 1000) :
    Calls Tryz.prog 83 #[.int .i64 x, .pointer (some ⟨b, 0, none⟩)] w fun e w' => e = .returned (.bool (outB nn x)) ∧ w = w' := by
  have IN := Lib.hid (fun w' => in75 x 0 ((nn : Int) - 1) w')
  have zb := szs (cell_lt h)
  dsimp only at zb
  have HO : Hid (outB nn x = !inB x 0 ((nn : Int) - 1)) := Lib.hid rfl
  generalize inB x 0 ((nn : Int) - 1) = y at *
  go_enter Tryz.func83, Tryz.ntmps83
  go_wp2_with fail
  refine (IN.out _).mono ?_
  rintro e w1 ⟨rfl, rfl⟩
  go_wp2_with fail
  go_returns
  exact ⟨by rw [HO.out]; rfl, rfl⟩
theorem outs80 (ao : Option Addr) (m c : Nat) (F : Nat → Int) (b nn : Nat) (na : Option Addr) (nc : Nat) (w : World) (hb : w.cell? ⟨b, 3, none⟩ = some (.slice na nn nc)) (hn : nn ≤ 1000) (h : Sl w 1 ao m c (nf F)) (hm : m ≤ 1000) :
    Calls Tryz.prog 80 #[.slice ao m c, .func (.func 83) #[] #[.pointer (some ⟨b, 0, none⟩)]] w fun e w' => ∃ x : Int, e = .returned (.int .i64 x) ∧ decide (0 ≤ x) = anyN (fun j => outB nn (F j)) m ∧ Below w.heap.size w w' := by
  have hmc := h.hm
  have hcc := h.hc
  have HS := Lib.hid h
  have HB := Lib.hid hb
  clear h hb
  go_enter Tryz.func80, Tryz.ntmps80
  go_wp2_with fail
  go_loopw [8] (fun i wr => ∃ j : Nat, i = .int .i64 j ∧ j ≤ m ∧ Hid (anyN (fun j => outB nn (F j)) j = false ∧ Below w.heap.size w wr)) (fun i _ => m - (intOf i).toNat)
  case atStart => exact ⟨0, rfl, by omega, Lib.hid ⟨rfl, by (repeat' (first | (with_reducible exact Below.refl _ _) | (with_reducible assumption) | (with_reducible refine Below.drew ?_) | (with_reducible refine below_drewN ?_ _) | (with_reducible refine Below.alloc ?_ ?_ _) | (with_reducible refine Below.setCell ?_ ?_ _) | go_size))⟩⟩
  case round =>
    obtain ⟨j, rfl, hj, hrel⟩ := hrel
    have HR := hrel
    clear hrel
    by_cases hlt : j < m
    · have tj : (j : Int) < (m : Int) := by omega
      obtain ⟨g, o, rfl, hg, e0⟩ := (HS.out.below HR.out.2).num hlt
      have zg := szs hg
      have OU := out83 b nn na nc (F j) wr (cell_kept HR.out.2 HB.out) hn
      obtain ⟨y, hy⟩ : ∃ y, y = outB nn (F j) := ⟨_, rfl⟩
      rw [← hy] at OU
      have HY := Lib.hid hy
      obtain ⟨x, hx⟩ : ∃ x, x = F j := ⟨_, rfl⟩
      rw [← hx] at e0 OU
      replace OU := Lib.hid OU
      clear hy hx
      go_wp2_with fail
      refine OU.out.mono ?_
      rintro e w1 ⟨rfl, rfl⟩
      clear OU
      cases y with
      | true =>
        have HA := Lib.hid (anyN_yes (p := fun j => outB nn (F j)) hlt HY.out.symm)
        go_wp2_with fail
        go_returns
        exact ⟨_, rfl, by rw [HA.out]; exact decide_eq_true (by omega), HR.out.2⟩
      | false =>
        have HA : Hid (anyN (fun j => outB nn (F j)) (j + 1) = false) := Lib.hid (by rw [anyN, HR.out.1, ← HY.out]; rfl)
        go_wp2_with fail
        go_roundw
        case rel => exact ⟨j + 1, by go_num, by omega, Lib.hid ⟨HA.out, HR.out.2⟩⟩
        case measure => simp [intOf]; omega
    · obtain rfl : j = m := by omega
      go_wp2_with fail
      go_returns
      exact ⟨_, rfl, by rw [HR.out.1]; rfl, HR.out.2⟩
theorem anyOut82 (ao : Option Addr) (m c : Nat) (F : Nat → Int) (b nn : Nat) (na : Option Addr) (nc : Nat) (w : World) (hb : w.cell? ⟨b, 3, none⟩ = some (.slice na nn nc)) (hn : nn ≤ 1000) (h : Sl w 1 ao m c (nf F)) (hm : m ≤ 1000) :
    Calls Tryz.prog 82 #[.slice ao m c, .func (.func 83) #[] #[.pointer (some ⟨b, 0, none⟩)]] w fun e w' => e = .returned (.bool (anyN (fun j => outB nn (F j)) m)) ∧ Below w.heap.size w w' := by
  have IX := Lib.hid (outs80 ao m c F b nn na nc w hb hn h hm)
  clear h hb
  generalize anyN (fun j => outB nn (F j)) m = y at *
  go_enter Tryz.func82, Tryz.ntmps82
  go_wp2_with fail
  refine IX.out.mono ?_
  rintro e w1 ⟨x, rfl, rfl, b1⟩
  have B1 := Lib.hid b1
  clear b1 IX
  go_wp2_with fail
  go_returns
  exact ⟨rfl, B1.out⟩
end Go.Proofs.YtlnfhlmgnppcbaaGreat
namespace Go.Proofs.YtlnfhlmgnppcbaaGreat
open Go.RowKit Go.ChangeShapes Go.WideShapes Go.Deep
set_option linter.unusedVariables false
set_option linter.unusedSimpArgs false
set_option maxRecDepth 8000
theorem node77 (x : Nd) (b : Nat) (v : Int) (w : World) (h : w.cell? ⟨b, 0, none⟩ = some (.int .i64 v)) :
    Calls Tryz.prog 77 #[.agg #[.int .i64 x.node, .int .i64 x.mv], .pointer (some ⟨b, 0, none⟩)] w fun e w' => e = .returned (.bool (decide (x.node = v))) ∧ Below w.heap.size w w' := by
  have zb := szs (cell_lt h)
  dsimp only at zb
  obtain ⟨p, q⟩ := x
  dsimp only
  by_cases hp : p = v
  · subst hp
    have t : (p == p) = true := by simp
    rw [show decide (p = p) = true from decide_eq_true rfl]
    go_enter Tryz.func77, Tryz.ntmps77
    go_wp2_with fail
    go_returns
    exact ⟨rfl, by (repeat' (first | (with_reducible exact Below.refl _ _) | (with_reducible assumption) | (with_reducible refine Below.drew ?_) | (with_reducible refine below_drewN ?_ _) | (with_reducible refine Below.alloc ?_ ?_ _) | (with_reducible refine Below.setCell ?_ ?_ _) | go_size))⟩
  · have t : (p == v) = false := by simpa using hp
    rw [show decide (p = v) = false from decide_eq_false hp]
    go_enter Tryz.func77, Tryz.ntmps77
    go_wp2_with fail
    go_returns
    exact ⟨rfl, by (repeat' (first | (with_reducible exact Below.refl _ _) | (with_reducible assumption) | (with_reducible refine Below.drew ?_) | (with_reducible refine below_drewN ?_ _) | (with_reducible refine Below.alloc ?_ ?_ _) | (with_reducible refine Below.setCell ?_ ?_ _) | go_size))⟩
theorem nodes114 (ao : Option Addr) (m c : Nat) (D : Nat → Nd) (b : Nat) (v : Int) (w : World) (hb : w.cell? ⟨b, 0, none⟩ = some (.int .i64 v)) (h : Sl w 2 ao m c (ndf D)) (hm : m ≤ 1000) :
    Calls Tryz.prog 114 #[.slice ao m c, .func (.func 77) #[] #[.pointer (some ⟨b, 0, none⟩)]] w fun e w' => ∃ x : Int, e = .returned (.int .i64 x) ∧ decide (0 ≤ x) = anyN (fun j => decide ((D j).node = v)) m ∧ Below w.heap.size w w' := by
  have hmc := h.hm
  have hcc := h.hc
  have HS := Lib.hid h
  have HB := Lib.hid hb
  clear h hb
  go_enter Tryz.func114, Tryz.ntmps114
  go_wp2_with fail
  go_loopw [8] (fun i wr => ∃ j : Nat, i = .int .i64 j ∧ j ≤ m ∧ Hid (anyN (fun j => decide ((D j).node = v)) j = false ∧ Below w.heap.size w wr)) (fun i _ => m - (intOf i).toNat)
  case atStart => exact ⟨0, rfl, by omega, Lib.hid ⟨rfl, by (repeat' (first | (with_reducible exact Below.refl _ _) | (with_reducible assumption) | (with_reducible refine Below.drew ?_) | (with_reducible refine below_drewN ?_ _) | (with_reducible refine Below.alloc ?_ ?_ _) | (with_reducible refine Below.setCell ?_ ?_ _) | go_size))⟩⟩
  case round =>
    obtain ⟨j, rfl, hj, hrel⟩ := hrel
    have HR := hrel
    clear hrel
    by_cases hlt : j < m
    · have tj : (j : Int) < (m : Int) := by omega
      obtain ⟨g, o, rfl, hg, e0, e1⟩ := (HS.out.below HR.out.2).nd hlt
      have zg := szs hg
      have OU := node77 (D j) b v wr (cell_kept HR.out.2 HB.out)
      obtain ⟨y, hy⟩ : ∃ y, y = decide ((D j).node = v) := ⟨_, rfl⟩
      rw [← hy] at OU
      have HY := Lib.hid hy
      obtain ⟨x, hx⟩ : ∃ x, x = D j := ⟨_, rfl⟩
      rw [← hx] at e0 e1 OU
      clear hy hx
      obtain ⟨x1, x2⟩ := x
      dsimp only at e0 e1 OU
      replace OU := Lib.hid OU
      go_wp2_with fail
      refine OU.out.mono ?_
      rintro e w1 ⟨rfl, b1⟩
      have B1 := Lib.hid (HR.out.2.trans (b1.mono HR.out.2.size))
      clear OU b1
      cases y with
      | true =>
        have HA := Lib.hid (anyN_yes (p := fun j => decide ((D j).node = v)) hlt HY.out.symm)
        go_wp2_with fail
        go_returns
        exact ⟨_, rfl, by rw [HA.out]; exact decide_eq_true (by omega), B1.out⟩
      | false =>
        have HA : Hid (anyN (fun j => decide ((D j).node = v)) (j + 1) = false) := Lib.hid (by rw [anyN, HR.out.1, ← HY.out]; rfl)
        go_wp2_with fail
        go_roundw
        case rel => exact ⟨j + 1, by go_num, by omega, Lib.hid ⟨HA.out, B1.out⟩⟩
        case measure => simp [intOf]; omega
    · obtain rfl : j = m := by omega
      go_wp2_with fail
      go_returns
      exact ⟨_, rfl, by rw [HR.out.1]; rfl, HR.out.2⟩
theorem anyNode76 (ao : Option Addr) (m c : Nat) (D : Nat → Nd) (b : Nat) (v : Int) (w : World) (hb : w.cell? ⟨b, 0, none⟩ = some (.int .i64 v)) (h : Sl w 2 ao m c (ndf D)) (hm : m ≤ 1000) :
    Calls Tryz.prog 76 #[.slice ao m c, .func (.func 77) #[] #[.pointer (some ⟨b, 0, none⟩)]] w fun e w' => e = .returned (.bool (anyN (fun j => decide ((D j).node = v)) m)) ∧ Below w.heap.size w w' := by
  have IX := Lib.hid (nodes114 ao m c D b v w hb h hm)
  clear h hb
  generalize anyN (fun j => decide ((D j).node = v)) m = y at *
  go_enter Tryz.func76, Tryz.ntmps76
  go_wp2_with fail
  refine IX.out.mono ?_
  rintro e w1 ⟨x, rfl, rfl, b1⟩
  have B1 := Lib.hid b1
  clear b1 IX
  go_wp2_with fail
  go_returns
  exact ⟨rfl, B1.out⟩
end Go.Proofs.YtlnfhlmgnppcbaaGreat
namespace Go.Proofs.YtlnfhlmgnppcbaaGreat
open Go.RowKit Go.ChangeShapes Go.WideShapes Go.Deep
set_option linter.unusedVariables false
set_option linter.unusedSimpArgs false
set_option maxRecDepth 8000
theorem inB_node (N v : Int) : inB v 0 (N - 1) = nodeB N v := by
  rw [Bool.eq_iff_iff, inB_iff, nodeB_iff]; omega
set_option maxHeartbeats 16000000 in
theorem check41 (g : Ng) (w : World) (h : g.In w) : Calls Tryz.prog 41 #[.agg g.cells] w fun e w' => e = .returned (.int .i64 (nightE g)) ∧ Below w.heap.size w w' := by
  have B0 : Hid (Below w.heap.size w (w.alloc (.cells g.cells 32))) := Lib.hid (by (repeat' (first | (with_reducible exact Below.refl _ _) | (with_reducible assumption) | (with_reducible refine Below.drew ?_) | (with_reducible refine below_drewN ?_ _) | (with_reducible refine Below.alloc ?_ ?_ _) | (with_reducible refine Below.setCell ?_ ?_ _) | go_size)))
  obtain ⟨w1, hw1⟩ : ∃ w1, w1 = w.alloc (.cells g.cells 32) := ⟨_, rfl⟩
  rw [← hw1] at B0
  have HW1 := Lib.hid hw1
  have X0 : w1.heap[w.heap.size]? = some (.cells g.cells 32 (0, 0)) := by rw [hw1]; exact heap_alloc_new w _
  have HG := Lib.hid (h.below B0.out)
  have RC := Lib.hid (check74 g.N g.ea g.em g.ec g.E w1 HG.out.net)
  have IN := Lib.hid (fun n lo hi w' => in75 n lo hi w')
  have HRB : Hid (roadE g.N g.em g.E = 0 → 1 ≤ g.N ∧ g.N ≤ 64) := Lib.hid (fun h => by obtain ⟨n, hn, hr⟩ := right_of h; have := hr.n1; have := hr.n2; omega)
  have ht1 := h.trucks.hm
  have ht2 := h.trucks.hc
  have hn1 := h.needs.hm
  have hn2 := h.needs.hc
  obtain ⟨r, hr⟩ : ∃ r, r = nightE g := ⟨_, rfl⟩
  rw [← hr]
  unfold nightE at hr
  obtain ⟨x, hx⟩ : ∃ x, x = roadE g.N g.em g.E := ⟨_, rfl⟩
  rw [← hx] at RC HRB hr
  have HV := Lib.hid hr
  obtain ⟨N, ea, em, ec, E, ta, tn, tc, T, na, nn, nc, D, hh⟩ := g
  unfold Ng.cells at *
  dsimp only at *
  have x0 := cell_at X0 0
  have x1 := cell_at X0 1
  have x2 := cell_at X0 2
  have x3 := cell_at X0 3
  have x4 := cell_at X0 4
  have zx := szs (block_lt X0)
  clear hw1 h X0 hr hx
  go_enter Tryz.func41, Tryz.ntmps41
  go_wp2_with fail
  rw [← HW1.out]
  go_wp2_with fail
  refine RC.out.mono ?_
  rintro e w2 ⟨rfl, b2⟩
  have B2 := Lib.hid b2
  clear RC b2 zx
  by_cases h0 : x = 0
  · subst h0
    rw [if_neg (by simp)] at HV
    have HNB := HRB.out rfl
    have n0 := cell_kept B2.out x0
    have n1 := cell_kept B2.out x1
    have n2 := cell_kept B2.out x2
    have n3 := cell_kept B2.out x3
    have n4 := cell_kept B2.out x4
    have zn := szs (cell_lt n0)
    dsimp only at zn
    by_cases h8 : 8 < tn
    · have t8 : (8 : Int) < (tn : Int) := by omega
      have HRV : Hid (r = 8) := Lib.hid (by rw [HV.out, if_pos (.inl h8)])
      clear HV
      go_wp2_with fail
      go_returns
      exact ⟨by rw [HRV.out]; rfl, B0.out.trans (B2.out.mono B0.out.size)⟩
    have t8 : decide ((8 : Int) < (tn : Int)) = false := decide_eq_false (by omega)
    by_cases h16 : 16 < nn
    · have t16 : (16 : Int) < (nn : Int) := by omega
      have HRV : Hid (r = 8) := Lib.hid (by rw [HV.out, if_pos (.inr h16)])
      clear HV
      go_wp2_with fail
      go_returns
      exact ⟨by rw [HRV.out]; rfl, B0.out.trans (B2.out.mono B0.out.size)⟩
    have t16 : decide ((16 : Int) < (nn : Int)) = false := decide_eq_false (by omega)
    rw [if_neg (by omega)] at HV
    have hn16 : nn ≤ 16 := by omega
    clear h8 h16
    go_wp2_with fail
    go_loopw [29] (fun s29 wr => ∃ k : Nat, s29 = .int .i64 k ∧ k ≤ tn ∧ Hid (scan (fun i => truckE N (T i)) k = 0 ∧ Below w1.heap.size w1 wr)) (fun s29 _ => tn - (intOf s29).toNat)
    case atStart => exact ⟨0, rfl, by omega, Lib.hid ⟨rfl, B2.out⟩⟩
    case round =>
      obtain ⟨k, rfl, hk, hrel⟩ := hrel
      have HR := hrel
      clear hrel n0 n1 n2 n3 n4 zn
      by_cases hlt : k < tn
      · have tk : (k : Int) < (tn : Int) := by omega
        have n0 := cell_kept HR.out.2 x0
        have n1 := cell_kept HR.out.2 x1
        have n2 := cell_kept HR.out.2 x2
        have n3 := cell_kept HR.out.2 x3
        have n4 := cell_kept HR.out.2 x4
        have zn := szs (cell_lt n0)
        dsimp only at zn
        obtain ⟨q, o, rfl, hg, p0, p1, p2, p3⟩ := (HG.out.trucks.below HR.out.2).tk hlt
        have zg := szs hg
        have HHIT := Lib.hid (fun (hx : truckE N (T k) ≠ 0) => scan_hit (f := fun i => truckE N (T i)) HR.out.1 hx hlt)
        have HNEXT := Lib.hid (fun (hx : truckE N (T k) = 0) => scan_next (f := fun i => truckE N (T i)) HR.out.1 hx)
        obtain ⟨y, hy⟩ : ∃ y, y = T k := ⟨_, rfl⟩
        dsimp only at p0 p1 p2 p3
        rw [← hy] at p0 p1 p2 p3 HHIT HNEXT
        clear hy
        obtain ⟨y1, y2, y3, y4⟩ := y
        dsimp only at p0 p1 p2 p3
        have BA : Hid (Below w1.heap.size w1 (wr.alloc (.cells #[.int .i64 y1, .int .i64 y2, .int .i64 y3, .int .i64 y4] 62))) := Lib.hid (HR.out.2.alloc HR.out.2.size _)
        go_wp2_with fail
        refine (IN.out y1 0 (N - 1) _).mono ?_
        rintro e w9 ⟨rfl, rfl⟩
        rw [inB_node]
        by_cases q1 : nodeB N y1 = false
        · rw [q1]
          have HRV : Hid (r = 7) := Lib.hid (by
            have TE : truckE N ⟨y1, y2, y3, y4⟩ = 7 := by unfold truckE; rw [if_pos q1]
            rw [HV.out, HHIT.out (by rw [TE]; simp), TE]; rfl)
          clear HV HHIT HNEXT
          go_wp2_with fail
          go_returns
          exact ⟨by rw [HRV.out]; rfl, B0.out.trans (BA.out.mono B0.out.size)⟩
        have q1' : nodeB N y1 = true := by simpa using q1
        rw [q1']
        have HBAD : Hid ((y2 < 1 ∨ 32 < y2 ∨ y3 < 0 ∨ y4 < y3 ∨ 86400 < y4) → r = 1) := Lib.hid (fun hb => by
          have TE : truckE N ⟨y1, y2, y3, y4⟩ = 1 := by unfold truckE; rw [if_neg q1, if_pos hb]
          rw [HV.out, HHIT.out (by rw [TE]; simp), TE]; rfl)
        go_wp2_with fail
        refine (IN.out y2 1 32 _).mono ?_
        rintro e w9 ⟨rfl, rfl⟩
        by_cases q2 : inB y2 1 32 = false
        · rw [q2]
          have HRV : Hid (r = 1) := Lib.hid (HBAD.out (by
            have : ¬ (1 ≤ y2 ∧ y2 ≤ 32) := fun h => by rw [inB_iff.2 h] at q2; cases q2
            omega))
          clear HV HHIT HNEXT HBAD
          go_wp2_with fail
          go_returns
          exact ⟨by rw [HRV.out]; rfl, B0.out.trans (BA.out.mono B0.out.size)⟩
        have q2' : inB y2 1 32 = true := by simpa using q2
        rw [q2']
        have q2b := inB_iff.1 q2'
        by_cases q3 : y3 < 0
        · have t3 : decide (y3 < 0) = true := decide_eq_true q3
          have HRV : Hid (r = 1) := Lib.hid (HBAD.out (by omega))
          clear HV HHIT HNEXT HBAD
          go_wp2_with fail
          go_returns
          exact ⟨by rw [HRV.out]; rfl, B0.out.trans (BA.out.mono B0.out.size)⟩
        have t3 : decide (y3 < 0) = false := decide_eq_false q3
        by_cases q4 : y4 < y3
        · have t4 : decide (y4 < y3) = true := decide_eq_true q4
          have HRV : Hid (r = 1) := Lib.hid (HBAD.out (by omega))
          clear HV HHIT HNEXT HBAD
          go_wp2_with fail
          go_returns
          exact ⟨by rw [HRV.out]; rfl, B0.out.trans (BA.out.mono B0.out.size)⟩
        have t4 : decide (y4 < y3) = false := decide_eq_false q4
        by_cases q5 : 86400 < y4
        · have t5 : decide (86400 < y4) = true := decide_eq_true q5
          have HRV : Hid (r = 1) := Lib.hid (HBAD.out (by omega))
          clear HV HHIT HNEXT HBAD
          go_wp2_with fail
          go_returns
          exact ⟨by rw [HRV.out]; rfl, B0.out.trans (BA.out.mono B0.out.size)⟩
        have t5 : decide (86400 < y4) = false := decide_eq_false q5
        have HN1 := Lib.hid (HNEXT.out (by unfold truckE; dsimp only; rw [if_neg q1, if_neg (by omega)]))
        clear HHIT HNEXT HBAD
        go_wp2_with fail
        go_roundw
        case rel => exact ⟨k + 1, by go_num, by omega, Lib.hid ⟨HN1.out, BA.out⟩⟩
        case measure => simp [intOf]; omega
      · obtain rfl : k = tn := by omega
        rw [if_neg (by rw [HR.out.1]; simp)] at HV
        have BT := Lib.hid HR.out.2
        clear HR
        have n0 := cell_kept BT.out x0
        have n1 := cell_kept BT.out x1
        have n2 := cell_kept BT.out x2
        have n3 := cell_kept BT.out x3
        have n4 := cell_kept BT.out x4
        have zn := szs (cell_lt n0)
        dsimp only at zn
        go_wp2_with fail
        go_loopw [70] (fun s70 wr => ∃ k : Nat, s70 = .int .i64 k ∧ k ≤ nn ∧ Hid (scan (fun i => needE N (D i)) k = 0 ∧ Below w1.heap.size w1 wr)) (fun s70 _ => nn - (intOf s70).toNat)
        case atStart => exact ⟨0, rfl, by omega, Lib.hid ⟨rfl, BT.out⟩⟩
        case round =>
          obtain ⟨i, rfl, hi, hrel⟩ := hrel
          have HR := hrel
          clear hrel n0 n1 n2 n3 n4 zn BT
          by_cases hlt2 : i < nn
          · have ti : (i : Int) < (nn : Int) := by omega
            have n0 := cell_kept HR.out.2 x0
            have n1 := cell_kept HR.out.2 x1
            have n2 := cell_kept HR.out.2 x2
            have n3 := cell_kept HR.out.2 x3
            have n4 := cell_kept HR.out.2 x4
            have zn := szs (cell_lt n0)
            dsimp only at zn
            obtain ⟨q, o, rfl, hg, p0, p1⟩ := (HG.out.needs.below HR.out.2).nd hlt2
            have zg := szs hg
            have HHIT := Lib.hid (fun (hx : needE N (D i) ≠ 0) => scan_hit (f := fun i => needE N (D i)) HR.out.1 hx hlt2)
            have HNEXT := Lib.hid (fun (hx : needE N (D i) = 0) => scan_next (f := fun i => needE N (D i)) HR.out.1 hx)
            obtain ⟨y, hy⟩ : ∃ y, y = D i := ⟨_, rfl⟩
            dsimp only at p0 p1
            rw [← hy] at p0 p1 HHIT HNEXT
            clear hy
            obtain ⟨y1, y2⟩ := y
            dsimp only at p0 p1
            have BA : Hid (Below w1.heap.size w1 (wr.alloc (.cells #[.int .i64 y1, .int .i64 y2] 58))) := Lib.hid (HR.out.2.alloc HR.out.2.size _)
            go_wp2_with fail
            refine (IN.out y1 0 (N - 1) _).mono ?_
            rintro e w9 ⟨rfl, rfl⟩
            rw [inB_node]
            by_cases q1 : nodeB N y1 = false
            · rw [q1]
              have HRV : Hid (r = 7) := Lib.hid (by
                have TE : needE N ⟨y1, y2⟩ = 7 := by unfold needE; rw [if_pos q1]
                rw [HV.out, HHIT.out (by rw [TE]; simp), TE]; rfl)
              clear HV HHIT HNEXT
              go_wp2_with fail
              go_returns
              exact ⟨by rw [HRV.out]; rfl, B0.out.trans (BA.out.mono B0.out.size)⟩
            have q1' : nodeB N y1 = true := by simpa using q1
            rw [q1']
            have HBAD : Hid ((y2 = 0 ∨ y2 < -32 ∨ 32 < y2) → r = 1) := Lib.hid (fun hb => by
              have TE : needE N ⟨y1, y2⟩ = 1 := by unfold needE; rw [if_neg q1, if_pos hb]
              rw [HV.out, HHIT.out (by rw [TE]; simp), TE]; rfl)
            by_cases q3 : y2 = 0
            · have HRV : Hid (r = 1) := Lib.hid (HBAD.out (.inl q3))
              subst q3
              clear HV HHIT HNEXT HBAD
              go_wp2_with fail
              go_returns
              exact ⟨by rw [HRV.out]; rfl, B0.out.trans (BA.out.mono B0.out.size)⟩
            have t3 : (y2 == 0) = false := by simpa using q3
            go_wp2_with fail
            refine (IN.out y2 (-32) 32 _).mono ?_
            rintro e w9 ⟨rfl, rfl⟩
            by_cases q2 : inB y2 (-32) 32 = false
            · rw [q2]
              have HRV : Hid (r = 1) := Lib.hid (HBAD.out (by
                have : ¬ (-32 ≤ y2 ∧ y2 ≤ 32) := fun h => by rw [inB_iff.2 h] at q2; cases q2
                omega))
              clear HV HHIT HNEXT HBAD
              go_wp2_with fail
              go_returns
              exact ⟨by rw [HRV.out]; rfl, B0.out.trans (BA.out.mono B0.out.size)⟩
            have q2' : inB y2 (-32) 32 = true := by simpa using q2
            rw [q2']
            have q2b := inB_iff.1 q2'
            have HN1 := Lib.hid (HNEXT.out (by unfold needE; dsimp only; rw [if_neg q1, if_neg (by omega)]))
            clear HHIT HNEXT HBAD
            go_wp2_with fail
            go_roundw
            case rel => exact ⟨i + 1, by go_num, by omega, Lib.hid ⟨HN1.out, BA.out⟩⟩
            case measure => simp [intOf]; omega
          · obtain rfl : i = nn := by omega
            rw [if_neg (by rw [HR.out.1]; simp)] at HV
            have BT := Lib.hid HR.out.2
            clear HR
            have n0 := cell_kept BT.out x0
            have n1 := cell_kept BT.out x1
            have n2 := cell_kept BT.out x2
            have n3 := cell_kept BT.out x3
            have n4 := cell_kept BT.out x4
            have zn := szs (cell_lt n0)
            dsimp only at zn
            go_wp2_with fail
            go_loopw [95] (fun s95 wr => ∃ k : Nat, s95 = .int .i64 k ∧ k ≤ i ∧ Hid (anyN (dupB D) k = false ∧ Below w1.heap.size w1 wr)) (fun s95 _ => i - (intOf s95).toNat)
            case atStart => exact ⟨0, rfl, by omega, Lib.hid ⟨rfl, BT.out⟩⟩
            case round =>
              obtain ⟨j, rfl, hj, hrel⟩ := hrel
              have HR := hrel
              clear hrel n0 n1 n2 n3 n4 zn BT
              by_cases hlt3 : j < i
              · have tj : (j : Int) < (i : Int) := by omega
                have tj0 : (0 : Int) ≤ (j : Int) := by omega
                have tj1 : (j : Int) ≤ (nc : Int) := by omega
                have ej : j - 0 = j := by omega
                have n0 := cell_kept HR.out.2 x0
                have n1 := cell_kept HR.out.2 x1
                have n2 := cell_kept HR.out.2 x2
                have n3 := cell_kept HR.out.2 x3
                have n4 := cell_kept HR.out.2 x4
                have zn := szs (cell_lt n0)
                dsimp only at zn
                obtain ⟨q, o, rfl, hg, p0, p1⟩ := (HG.out.needs.below HR.out.2).nd hlt3
                have zg := szs hg
                have HHIT := Lib.hid (fun (hx : dupB D j = true) => anyN_yes (p := dupB D) hlt3 hx)
                have HDB : Hid (dupB D j = anyN (fun k => decide ((D k).node = (D j).node)) j) := Lib.hid rfl
                have HSC := Lib.hid ((HG.out.needs.below HR.out.2).cut (q := j) (by dsimp only; omega))
                obtain ⟨y, hy⟩ : ∃ y, y = D j := ⟨_, rfl⟩
                dsimp only at p0 p1 HSC
                rw [← hy] at p0 p1 HDB
                clear hy
                obtain ⟨y1, y2⟩ := y
                dsimp only at p0 p1 HDB
                have b3 : Below wr.heap.size wr (wr.alloc (.cells #[.int .i64 y1, .int .i64 y2] 58)) := by (repeat' (first | (with_reducible exact Below.refl _ _) | (with_reducible assumption) | (with_reducible refine Below.drew ?_) | (with_reducible refine below_drewN ?_ _) | (with_reducible refine Below.alloc ?_ ?_ _) | (with_reducible refine Below.setCell ?_ ?_ _) | go_size))
                have X3 := heap_alloc_new wr (.cells #[.int .i64 y1, .int .i64 y2] 58)
                have AN := Lib.hid (anyNode76 (some ⟨q, o, none⟩) j nc D wr.heap.size y1 _ (cell_at X3 0) (HSC.out.below b3) (by omega))
                rw [← HDB.out] at AN
                have BA : Hid (Below w1.heap.size w1 (wr.alloc (.cells #[.int .i64 y1, .int .i64 y2] 58))) := Lib.hid (HR.out.2.trans (b3.mono HR.out.2.size))
                have HDJ : Hid (dupB D j = dupB D j) := Lib.hid rfl
                obtain ⟨z, hz⟩ : ∃ z, z = dupB D j := ⟨_, rfl⟩
                rw [← hz] at AN HHIT
                have HZ := Lib.hid hz
                clear hz X3 b3 HDB HSC HDJ
                go_wp2_with fail
                refine AN.out.mono ?_
                rintro e w9 ⟨rfl, b9⟩
                have B9 := Lib.hid (BA.out.trans (b9.mono BA.out.size))
                clear b9 BA AN
                cases z with
                | true =>
                  have HRV : Hid (r = 6) := Lib.hid (by rw [HV.out, if_pos (HHIT.out rfl)])
                  clear HV HHIT
                  go_wp2_with fail
                  go_returns
                  exact ⟨by rw [HRV.out]; rfl, B0.out.trans (B9.out.mono B0.out.size)⟩
                | false =>
                  have HN1 : Hid (anyN (dupB D) (j + 1) = false) := Lib.hid (by rw [anyN, HR.out.1, ← HZ.out]; rfl)
                  clear HHIT
                  go_wp2_with fail
                  go_roundw
                  case rel => exact ⟨j + 1, by go_num, by omega, Lib.hid ⟨HN1.out, B9.out⟩⟩
                  case measure => simp [intOf]; omega
              · obtain rfl : j = i := by omega
                rw [if_neg (by rw [HR.out.1]; simp)] at HV
                have BT := Lib.hid HR.out.2
                clear HR
                have n0 := cell_kept BT.out x0
                have n1 := cell_kept BT.out x1
                have n2 := cell_kept BT.out x2
                have n3 := cell_kept BT.out x3
                have n4 := cell_kept BT.out x4
                have zn := szs (cell_lt n0)
                dsimp only at zn
                go_wp2_with fail
                refine (IN.out hh 0 3600 _).mono ?_
                rintro e w9 ⟨rfl, rfl⟩
                by_cases q2 : inB hh 0 3600 = false
                · rw [q2]
                  have HRV : Hid (r = 1) := Lib.hid (by
                    have : ¬ (0 ≤ hh ∧ hh ≤ 3600) := fun h => by rw [inB_iff.2 h] at q2; cases q2
                    rw [HV.out, if_pos (by omega)])
                  clear HV
                  go_wp2_with fail
                  go_returns
                  exact ⟨by rw [HRV.out]; rfl, B0.out.trans (BT.out.mono B0.out.size)⟩
                · have q2' : inB hh 0 3600 = true := by simpa using q2
                  rw [q2']
                  have HRV : Hid (r = 0) := Lib.hid (by have := inB_iff.1 q2'; rw [HV.out, if_neg (by omega)])
                  clear HV
                  go_wp2_with fail
                  go_returns
                  exact ⟨by rw [HRV.out]; rfl, B0.out.trans (BT.out.mono B0.out.size)⟩
  · have tx : (x != 0) = true := by simpa using h0
    have HRV : Hid (r = x) := Lib.hid (by rw [HV.out, if_pos h0])
    clear HV HRB
    go_wp2_with fail
    go_returns
    exact ⟨by rw [HRV.out]; rfl, B0.out.trans (B2.out.mono B0.out.size)⟩
end Go.Proofs.YtlnfhlmgnppcbaaGreat
namespace Go.Proofs.YtlnfhlmgnppcbaaGreat
open Go.RowKit Go.ChangeShapes Go.WideShapes Go.Deep
set_option linter.unusedVariables false
set_option linter.unusedSimpArgs false
set_option maxRecDepth 8000
open Rd
structure St4 where
  at' : Int
  now : Int
  load : Int
  drv : Int
def tourC (g : Ng) (t : Tk) (s : St4) : Array Value :=
  #[.int .i64 t.dep, .int .i64 t.cap, .int .i64 t.frm, .int .i64 t.til, .int .i64 g.N, .slice g.ea g.em g.ec, .slice g.ta g.tn g.tc, .slice g.na g.nn g.nc, .int .i64 g.h, .int .i64 s.at', .int .i64 s.now, .int .i64 s.load, .int .i64 s.drv]
structure St4.Small (s : St4) (n : Nat) : Prop where
  at' : 0 ≤ s.at' ∧ s.at' < n
  now : -1000 ≤ s.now ∧ s.now ≤ 10000000
  load : -1000 ≤ s.load ∧ s.load ≤ 1000
  drv : -1000 ≤ s.drv ∧ s.drv ≤ 10000000
noncomputable def driveS (g : Ng) (s : St4) (v : Int) : St4 := if g.S s.at' v < 0 then s else ⟨v, s.now + g.S s.at' v, s.load, s.drv + g.S s.at' v⟩
noncomputable def driveE (g : Ng) (s : St4) (v : Int) : Int := if g.S s.at' v < 0 then 15 else 0
theorem times_ok {g : Ng} {n : Nat} (h : NOk g n) (hr : roadE g.N g.em g.E = 0) (w : World) (hg : Net w g.ea g.em g.ec g.E) {a : Int} (ha : 0 ≤ a ∧ a < n) :
    Calls Tryz.prog 78 #[.agg #[.int .i64 g.N, .slice g.ea g.em g.ec], .int .i64 a] w fun e w' => ∃ b, e = .returned (.tuple #[.slice (some ⟨b, 0, none⟩) n n, .int .i64 0]) ∧ Nums w' w.heap.size b n (g.S a) ∧ Below w.heap.size w w' := by
  refine (times78 g.N g.ea g.em g.ec g.E a w hg).mono ?_
  rintro e w' ⟨hb, ⟨h1, _⟩ | ⟨_, h2, _⟩ | ⟨n', s, b, _, hn, hs, hsn, hR, he, hN⟩⟩
  · exact absurd hr h1
  · exfalso
    have : nodeB g.N a = true := nodeB_iff.2 (by rw [h.hN]; exact ha)
    rw [h2] at this; cases this
  · have h3 := h.hN
    rw [hn] at h3
    obtain rfl : n' = n := by omega
    refine ⟨b, he, ?_, hb⟩
    have e1 : g.S a = sec (gr Ed.frm Ed.til n' g.em g.E) a := by
      funext v
      unfold Ng.S
      rw [hn, Int.toNat_natCast]
    rw [e1]; first | exact hN | (rw [hs]; exact hN)
set_option maxHeartbeats 16000000 in
theorem drive119 (g : Ng) (n : Nat) (t : Tk) (s : St4) (v : Int) (b : Nat) (w : World) (h : NOk g n) (hr : roadE g.N g.em g.E = 0) (hg : g.In w) (hs : s.Small n) (hv : 0 ≤ v ∧ v < n) (hb : w.heap[b]? = some (.cells (tourC g t s) 105 (0, 0))) :
    Calls Tryz.prog 119 #[.pointer (some ⟨b, 0, none⟩), .int .i64 v] w fun e w' => e = .returned (.int .i64 (driveE g s v)) ∧ w'.heap[b]? = some (.cells (tourC g t (driveS g s v)) 105 (0, 0)) ∧ Off (fun q => q = b) w w' := by
  have TM := Lib.hid (fun (w' : World) (bb : Below w.heap.size w w') => times_ok h hr w' (hg.below bb).net hs.at')
  have hS := h.S_bd hs.at' v
  have HDE : Hid (driveE g s v = if g.S s.at' v < 0 then 15 else 0) := Lib.hid rfl
  have HDS : Hid (driveS g s v = if g.S s.at' v < 0 then s else ⟨v, s.now + g.S s.at' v, s.load, s.drv + g.S s.at' v⟩) := Lib.hid rfl
  obtain ⟨h1, h2⟩ := hs.now
  obtain ⟨h3, h4⟩ := hs.drv
  obtain ⟨y, hy⟩ : ∃ y, y = g.S s.at' v := ⟨_, rfl⟩
  rw [← hy] at hS HDE HDS
  have HY := Lib.hid hy
  obtain ⟨v, rfl⟩ := Int.eq_ofNat_of_zero_le hv.1
  have hvn : v < n := by omega
  have tvn : (v : Int) < (n : Int) := by omega
  have hn64 := h.right.n2
  obtain ⟨E1, hE1⟩ : ∃ E1, E1 = driveE g s v := ⟨_, rfl⟩
  obtain ⟨S1, hS1⟩ : ∃ S1, S1 = driveS g s v := ⟨_, rfl⟩
  rw [← hE1] at HDE ⊢
  rw [← hS1] at HDS ⊢
  obtain ⟨fn, hfn⟩ : ∃ fn, fn = g.S s.at' := ⟨_, rfl⟩
  rw [← hfn] at TM
  have HFN : Hid (y = fn v) := Lib.hid (by rw [HY.out, hfn])
  have HBX := Lib.hid hb
  have hlt := block_lt hb
  unfold tourC at hb
  have c0 := cell_at hb 0
  have c1 := cell_at hb 1
  have c2 := cell_at hb 2
  have c3 := cell_at hb 3
  have c4 := cell_at hb 4
  have c5 := cell_at hb 5
  have c6 := cell_at hb 6
  have c7 := cell_at hb 7
  have c8 := cell_at hb 8
  have c9 := cell_at hb 9
  have ca := cell_at hb 10
  have cb := cell_at hb 11
  have cc := cell_at hb 12
  have zb := szs (block_lt hb)
  clear h hr hg hs hv hb hy hE1 hS1 hfn HY
  go_enter Tryz.func119, Tryz.ntmps119
  go_wp2_with fail
  (refine region_order (fun i : Nat => World.drewN _ i) [] [0, 1, 2, 3, 4, 5, 6, 7, 8] 9 [10, 11, 12, 13, 14] mixed (by kernel_rfl) ⟨1, rfl⟩ ?_; simp only [List.map_cons, List.map_nil, Array.getD_eq_getD_getElem?, List.getElem?_toArray, List.getElem?_cons_zero, List.getElem?_cons_succ, Option.getD_some]; (repeat (refine wpPure_cons _ rfl (fun w' => by go_simp; try rfl) ?_; dsimp only [Act.put])); refine wpPure_nil ?_; (repeat (any_goals (first | go_big_quiet_step (fail) | quiet_step (fail) | (refine wpQuiet_step (fun K hK => ?_); go_simp; split <;> (refine hK _ ?_; clear hK K))))); (all_goals (refine wpQuiet_nil (fun nq => ?_))))
  go_wp2_with fail
  have b1 : Below w.heap.size w (w.drewN nq) := below_drewN (Below.refl _ _) nq
  refine (TM.out _ b1).mono ?_
  rintro e w2 ⟨q, rfl, hN, b2⟩
  have B2 := Lib.hid (b1.trans (b2.mono b1.size))
  have tc := hN.cell hvn
  rw [← HFN.out] at tc
  have ht := hN.lt
  have HQB : Hid (b < w2.heap.size) := Lib.hid (Nat.lt_of_lt_of_le hlt B2.out.size)
  have HB2 := Lib.hid ((B2.out.block _ hlt).trans HBX.out)
  have HTC := Lib.hid (And.intro tc (And.intro ht.2 HB2.out))
  have hX := HB2.out
  unfold tourC at hX
  have d9 := cell_at hX 9
  have dfr := fun j => free_at hX j
  have zq := szs ht.2
  have zb2 := szs (block_lt hX)
  have HQ1 : q ≠ b := by have := ht.1; have := b1.size; omega
  have HQ2 : b ≠ q := fun e => HQ1 e.symm
  clear b1 b2 hN TM ht HFN hX c0 c1 c2 c3 c4 c5 c6 c7 c8 c9 ca cb cc zb
  by_cases hy0 : y < 0
  · have t0 := hy0
    rw [if_pos hy0] at HDE HDS
    go_wp2_with fail
    refine onlyN_intro ?_
    go_wp2_with fail
    go_returns
    exact ⟨by rw [HDE.out]; rfl, by rw [HDS.out]; exact HB2.out, Off.of_below B2.out⟩
  · have t0 : decide (y < 0) = false := decide_eq_false hy0
    have ty : 0 ≤ y := by omega
    rw [if_neg hy0] at HDE HDS
    go_wp2_with fail
    refine onlyN_intro ?_
    go_wp2_with fail
    have X3 : (w2.setCell ⟨b, 9, none⟩ (.int .i64 v)).heap[b]? = some (.cells (tourC g t ⟨v, s.now, s.load, s.drv⟩) 105 (0, 0)) := by
      rw [setCell_at HB2.out, setAt_same HQB.out]; rfl
    have o3 : Off (fun q => q = b) w2 (w2.setCell ⟨b, 9, none⟩ (.int .i64 v)) := (Off.refl (fun q => q = b) w2).setCell (p := ⟨b, 9, none⟩) (fun _ => rfl) _
    have tc3 := o3.cell tc HQ1
    have HO3 := Lib.hid ((Off.of_below (X := fun q => q = b) B2.out).same o3)
    have HX3 := Lib.hid X3
    unfold tourC at X3
    dsimp only at X3
    have da := cell_at X3 10
    have zb3 := szs (block_lt X3)
    have zq3 := szs (cell_lt tc3)
    dsimp only at zq3
    clear dfr d9 tc zq zb2 o3 X3
    generalize w2.setCell ⟨b, 9, none⟩ (.int .i64 v) = w3 at *
    (refine region_order (fun i : Nat => World.drewN _ i) [] [0, 1, 2, 3, 4, 5, 6, 7, 8, 9, 10] 11 [] mixed (by kernel_rfl) ⟨1, rfl⟩ ?_; simp only [List.map_cons, List.map_nil, Array.getD_eq_getD_getElem?, List.getElem?_toArray, List.getElem?_cons_zero, List.getElem?_cons_succ, Option.getD_some]; (repeat (refine wpPure_cons _ rfl (fun w' => by go_simp; try rfl) ?_; dsimp only [Act.put])); refine wpPure_nil ?_; (repeat (any_goals (first | go_big_quiet_step (fail) | quiet_step (fail) | (refine wpQuiet_step (fun K hK => ?_); go_simp; split <;> (refine hK _ ?_; clear hK K))))); (all_goals (refine wpQuiet_nil (fun nq => ?_))))
    have b3 : Below w3.heap.size w3 (w3.drewN nq) := below_drewN (Below.refl _ _) nq
    have tc4 := cell_kept b3 tc3
    have X4 := (b3.block _ (block_lt HX3.out)).trans HX3.out
    have HO4 := Lib.hid (HO3.out.trans (Y := fun _ => False) (Off.of_below b3) (fun _ _ h => h.elim))
    have HX4 := Lib.hid X4
    have fr4 := fun j => free_at X4 j
    unfold tourC at X4
    dsimp only at X4
    have da4 := cell_at X4 10
    have zb4 := szs (block_lt X4)
    clear tc3 da zb3 zq3 X4 b3 HX3 HO3
    generalize w3.drewN nq = w4 at *
    go_wp2_with fail
    refine onlyN_intro ?_
    go_wp2_with fail
    have X5 : (w4.setCell ⟨b, 10, none⟩ (.int .i64 (s.now + y))).heap[b]? = some (.cells (tourC g t ⟨v, s.now + y, s.load, s.drv⟩) 105 (0, 0)) := by
      rw [setCell_at HX4.out, setAt_same (block_lt HX4.out)]; rfl
    have o5 : Off (fun q => q = b) w4 (w4.setCell ⟨b, 10, none⟩ (.int .i64 (s.now + y))) := (Off.refl (fun q => q = b) w4).setCell (p := ⟨b, 10, none⟩) (fun _ => rfl) _
    have tc5 := o5.cell tc4 HQ1
    have HO5 := Lib.hid (HO4.out.same o5)
    have HX5 := Lib.hid X5
    unfold tourC at X5
    dsimp only at X5
    have dc := cell_at X5 12
    have zb5 := szs (block_lt X5)
    have zq5 := szs (cell_lt tc5)
    dsimp only at zq5
    clear fr4 da4 tc4 zb4 o5 X5 HX4 HO4
    generalize w4.setCell ⟨b, 10, none⟩ (.int .i64 (s.now + y)) = w5 at *
    (refine region_order (fun i : Nat => World.drewN _ i) [] [0, 1, 2, 3, 4, 5, 6, 7, 8, 9, 10] 11 [] mixed (by kernel_rfl) ⟨1, rfl⟩ ?_; simp only [List.map_cons, List.map_nil, Array.getD_eq_getD_getElem?, List.getElem?_toArray, List.getElem?_cons_zero, List.getElem?_cons_succ, Option.getD_some]; (repeat (refine wpPure_cons _ rfl (fun w' => by go_simp; try rfl) ?_; dsimp only [Act.put])); refine wpPure_nil ?_; (repeat (any_goals (first | go_big_quiet_step (fail) | quiet_step (fail) | (refine wpQuiet_step (fun K hK => ?_); go_simp; split <;> (refine hK _ ?_; clear hK K))))); (all_goals (refine wpQuiet_nil (fun nq => ?_))))
    have b5 : Below w5.heap.size w5 (w5.drewN nq) := below_drewN (Below.refl _ _) nq
    have X6 := (b5.block _ (block_lt HX5.out)).trans HX5.out
    have HO6 := Lib.hid (HO5.out.trans (Y := fun _ => False) (Off.of_below b5) (fun _ _ h => h.elim))
    have HX6 := Lib.hid X6
    have fr6 := fun j => free_at X6 j
    unfold tourC at X6
    dsimp only at X6
    have dc6 := cell_at X6 12
    have zb6 := szs (block_lt X6)
    clear tc5 dc zb5 zq5 X6 b5 HX5 HO5
    generalize w5.drewN nq = w6 at *
    go_wp2_with fail
    refine onlyN_intro ?_
    go_wp2_with fail
    go_returns
    have X7 : (w6.setCell ⟨b, 12, none⟩ (.int .i64 (s.drv + y))).heap[b]? = some (.cells (tourC g t ⟨v, s.now + y, s.load, s.drv + y⟩) 105 (0, 0)) := by
      rw [setCell_at HX6.out, setAt_same (block_lt HX6.out)]; rfl
    have o7 : Off (fun q => q = b) w6 (w6.setCell ⟨b, 12, none⟩ (.int .i64 (s.drv + y))) := (Off.refl (fun q => q = b) w6).setCell (p := ⟨b, 12, none⟩) (fun _ => rfl) _
    exact ⟨by rw [HDE.out]; rfl, by rw [HDS.out]; exact X7, HO6.out.same o7⟩
end Go.Proofs.YtlnfhlmgnppcbaaGreat
namespace Go.Proofs.YtlnfhlmgnppcbaaGreat
open Go.RowKit Go.ChangeShapes Go.WideShapes Go.Deep
set_option linter.unusedVariables false
set_option linter.unusedSimpArgs false
set_option maxRecDepth 8000
open Rd
theorem al_at (w : World) (a : Obj) {k : Nat} (hk : w.heap.size = k) : (w.alloc a).heap[k]? = some a := by subst hk; exact heap_alloc_new w a
theorem al_keep {w : World} {i : Nat} {o : Obj} (h : w.heap[i]? = some o) (a : Obj) : (w.alloc a).heap[i]? = some o := by
  have bb : Below w.heap.size w (w.alloc a) := (Below.refl _ _).alloc (Nat.le_refl _) _
  exact (bb.block _ (block_lt h)).trans h
def cpC (p : Cs) : Array Value := #[.int .i64 p.at', .int .i64 p.load, .int .i64 p.now]
structure Cs.Small (p : Cs) (n : Nat) : Prop where
  at' : 0 ≤ p.at' ∧ p.at' < n
  load : -1000 ≤ p.load ∧ p.load ≤ 1000
  now : -1000 ≤ p.now ∧ p.now ≤ 10000000
noncomputable def toS (g : Ng) (p : Cs) (v : Int) : Cs := if g.S p.at' v < 0 then ⟨0, 0, 0⟩ else ⟨v, p.load, p.now + g.S p.at' v⟩
noncomputable def toB (g : Ng) (p : Cs) (v : Int) : Bool := decide (0 ≤ g.S p.at' v)
end Go.Proofs.YtlnfhlmgnppcbaaGreat
namespace Go.Proofs.YtlnfhlmgnppcbaaGreat
open Go.RowKit Go.ChangeShapes Go.WideShapes Go.Deep
set_option linter.unusedVariables false
set_option linter.unusedSimpArgs false
set_option maxRecDepth 8000
open Rd
noncomputable def visitE (g : Ng) (t : Tk) (s : St4) (i : Int) : Int :=
  if g.S s.at' (g.nd i).node < 0 then 15 else if s.load + (g.nd i).mv < 0 ∨ t.cap < s.load + (g.nd i).mv then 24 else 0
noncomputable def visitS (g : Ng) (s : St4) (i : Int) : St4 := ⟨(g.nd i).node, s.now + g.S s.at' (g.nd i).node + g.work i, s.load + (g.nd i).mv, s.drv + g.S s.at' (g.nd i).node⟩
noncomputable def visitV (g : Ng) (s : St4) (i : Int) : Vi := ⟨i, s.now + g.S s.at' (g.nd i).node, s.now + g.S s.at' (g.nd i).node + g.work i, s.load + (g.nd i).mv⟩
def viC (x : Vi) : Array Value := #[.int .i64 x.need, .int .i64 x.arr, .int .i64 x.lea, .int .i64 x.load]
def Visit (g : Ng) (t : Tk) (s : St4) (i : Int) (b : Nat) (w : World) (e : Ending) (w' : World) : Prop :=
  Off (fun q => q = b) w w' ∧ ((visitE g t s i ≠ 0 ∧ e = .returned (.tuple #[.agg #[.int .i64 0, .int .i64 0, .int .i64 0, .int .i64 0], .int .i64 (visitE g t s i)])) ∨
    (visitE g t s i = 0 ∧ e = .returned (.tuple #[.agg (viC (visitV g s i)), .int .i64 0]) ∧ w'.heap[b]? = some (.cells (tourC g t (visitS g s i)) 105 (0, 0))))
theorem NOk.work {g : Ng} {n : Nat} (h : NOk g n) {i : Int} (hi : 0 ≤ i ∧ i < g.nn) : 0 ≤ g.work i ∧ g.work i ≤ 115200 := by
  have := h.D i.toNat (by omega)
  have h0 := h.h0
  have h1 := h.h1
  unfold Ng.work Ng.nd
  have m0 : 0 ≤ max (g.D i.toNat).mv (-(g.D i.toNat).mv) := by omega
  have m1 : max (g.D i.toNat).mv (-(g.D i.toNat).mv) ≤ 32 := by omega
  refine ⟨Int.mul_nonneg m0 h0, ?_⟩
  have := Int.mul_le_mul m1 h1 h0 (by decide)
  omega
theorem put4 {w : World} {r : Nat} {a0 a1 a2 a3 : Value} {T : TypeId} (h : w.heap[r]? = some (.cells #[a0, a1, a2, a3] T (0, 0))) (v0 v1 v2 v3 : Value) : ((((w.setCell ⟨r, 0, none⟩ v0).setCell ⟨r, 1, none⟩ v1).setCell ⟨r, 2, none⟩ v2).setCell ⟨r, 3, none⟩ v3).heap[r]? = some (.cells #[v0, v1, v2, v3] T (0, 0)) := by
  have hl := block_lt h
  rw [setCell_at h, setAt_setCell hl, setAt_setCell hl, setAt_setCell hl, setAt_same hl]
  rfl
theorem off4 (w : World) (r : Nat) (v0 v1 v2 v3 : Value) : Off (fun q => q = r) w ((((w.setCell ⟨r, 0, none⟩ v0).setCell ⟨r, 1, none⟩ v1).setCell ⟨r, 2, none⟩ v2).setCell ⟨r, 3, none⟩ v3) :=
  (((((Off.refl (fun q => q = r) w).setCell (p := ⟨r, 0, none⟩) (fun _ => rfl) _).setCell (p := ⟨r, 1, none⟩) (fun _ => rfl) _).setCell (p := ⟨r, 2, none⟩) (fun _ => rfl) _).setCell (p := ⟨r, 3, none⟩) (fun _ => rfl) _)
theorem two_set {w : World} {r : Nat} {a0 a1 a2 a3 : Value} {T : TypeId} (h : w.heap[r]? = some (.cells #[a0, a1, a2, a3] T (0, 0))) (v2 v3 : Value) : ((w.setCell ⟨r, 2, none⟩ v2).setCell ⟨r, 3, none⟩ v3).heap[r]? = some (.cells #[a0, a1, v2, v3] T (0, 0)) := by
  have hl := block_lt h
  rw [setCell_at h, setAt_setCell hl, setAt_same hl]
  rfl
set_option maxHeartbeats 16000000 in
theorem visit85 (g : Ng) (n : Nat) (t : Tk) (s : St4) (i : Int) (b : Nat) (w : World) (h : NOk g n) (hr : roadE g.N g.em g.E = 0) (hg : g.In w) (hs : s.Small n) (hc : 1 ≤ t.cap ∧ t.cap ≤ 32) (hi : 0 ≤ i ∧ i < g.nn) (hb : w.heap[b]? = some (.cells (tourC g t s) 105 (0, 0)))
    (hnb : ∀ a, g.na = some a → a.block ≠ b) :
    Calls Tryz.prog 85 #[.pointer (some ⟨b, 0, none⟩), .int .i64 i] w (Visit g t s i b w) := by
  obtain ⟨i, rfl⟩ := Int.eq_ofNat_of_zero_le hi.1
  have hin : i < g.nn := by omega
  have tin : (i : Int) < (g.nn : Int) := by omega
  have hw := h.work hi
  have hD := h.D i hin
  have e1 : g.nd (i : Int) = g.D i := by unfold Ng.nd; rw [Int.toNat_natCast]
  have HVE : Hid (visitE g t s i = if g.S s.at' (g.D i).node < 0 then 15 else if s.load + (g.D i).mv < 0 ∨ t.cap < s.load + (g.D i).mv then 24 else 0) := Lib.hid (by unfold visitE; rw [e1])
  have HVS : Hid (visitS g s i = ⟨(g.D i).node, s.now + g.S s.at' (g.D i).node + g.work i, s.load + (g.D i).mv, s.drv + g.S s.at' (g.D i).node⟩) := Lib.hid (by unfold visitS; rw [e1])
  have HVV : Hid (visitV g s i = ⟨i, s.now + g.S s.at' (g.D i).node, s.now + g.S s.at' (g.D i).node + g.work i, s.load + (g.D i).mv⟩) := Lib.hid (by unfold visitV; rw [e1])
  have HWK : Hid (g.work i = max (g.D i).mv (-(g.D i).mv) * g.h) := Lib.hid (by unfold Ng.work; rw [e1])
  have DR := Lib.hid (fun (w' : World) (bb : Below w.heap.size w w') => drive119 g n t s (g.D i).node b w' h hr (hg.below bb) hs hD.1 ((bb.block _ (block_lt hb)).trans hb))
  have hS := h.S_bd hs.at' (g.D i).node
  have HDE : Hid (driveE g s (g.D i).node = if g.S s.at' (g.D i).node < 0 then 15 else 0) := Lib.hid rfl
  have HDS : Hid (driveS g s (g.D i).node = if g.S s.at' (g.D i).node < 0 then s else ⟨(g.D i).node, s.now + g.S s.at' (g.D i).node, s.load, s.drv + g.S s.at' (g.D i).node⟩) := Lib.hid rfl
  have IN := Lib.hid (fun n lo hi w' => in75 n lo hi w')
  obtain ⟨q, o, hna, hq, p0, p1⟩ := hg.needs.nd hin
  have zq := szs hq
  have hqb : ¬ q = b := hnb _ hna
  have hnm := hg.needs.hm
  have hnc := hg.needs.hc
  obtain ⟨h1, h2⟩ := hs.now
  obtain ⟨h3, h4⟩ := hs.drv
  obtain ⟨h5, h6⟩ := hs.load
  obtain ⟨hd1, hd2, hd3, hd4⟩ := hD
  have HH := Lib.hid (And.intro h.h0 h.h1)
  obtain ⟨y, hy⟩ : ∃ y, y = g.S s.at' (g.D i).node := ⟨_, rfl⟩
  rw [← hy] at hS HDE HDS HVE HVS HVV
  obtain ⟨wk, hwk⟩ : ∃ wk, wk = g.work i := ⟨_, rfl⟩
  rw [← hwk] at HVS HVV hw HWK
  generalize hx : g.D i = x at *
  obtain ⟨nd, mv⟩ := x
  dsimp only at p0 p1 hd1 hd2 hd3 hd4 HDE HDS HVE HVS HVV DR HWK
  have HBX := Lib.hid hb
  have hlt := block_lt hb
  have HNA := Lib.hid hna
  unfold tourC at hb
  rw [hna] at hb
  have c0 := cell_at hb 0
  have c1 := cell_at hb 1
  have c2 := cell_at hb 2
  have c3 := cell_at hb 3
  have c4 := cell_at hb 4
  have c5 := cell_at hb 5
  have c6 := cell_at hb 6
  have c7 := cell_at hb 7
  have c8 := cell_at hb 8
  have c9 := cell_at hb 9
  have ca := cell_at hb 10
  have cb := cell_at hb 11
  have cc := cell_at hb 12
  have zb := szs (block_lt hb)
  clear h hr hg hs hi hin hb hy hwk e1 hx hnb
  go_enter Tryz.func85, Tryz.ntmps85
  go_wp2_with fail
  have BA : Hid (Below w.heap.size w ((w.alloc (.cells #[.int .i64 0, .int .i64 0, .int .i64 0, .int .i64 0] 56)).alloc (.cells #[.int .i64 nd, .int .i64 mv] 58))) := Lib.hid (by (repeat' (first | (with_reducible exact Below.refl _ _) | (with_reducible assumption) | (with_reducible refine Below.drew ?_) | (with_reducible refine below_drewN ?_ _) | (with_reducible refine Below.alloc ?_ ?_ _) | (with_reducible refine Below.setCell ?_ ?_ _) | go_size)))
  have RA : Hid (((w.alloc (.cells #[.int .i64 0, .int .i64 0, .int .i64 0, .int .i64 0] 56)).alloc (.cells #[.int .i64 nd, .int .i64 mv] 58)).heap[w.heap.size]? = some (.cells #[.int .i64 0, .int .i64 0, .int .i64 0, .int .i64 0] 56 (0, 0))) := Lib.hid (by
    have h0 := heap_alloc_new w (.cells #[.int .i64 0, .int .i64 0, .int .i64 0, .int .i64 0] 56)
    have bb : Below (w.alloc (.cells #[.int .i64 0, .int .i64 0, .int .i64 0, .int .i64 0] 56)).heap.size (w.alloc (.cells #[.int .i64 0, .int .i64 0, .int .i64 0, .int .i64 0] 56)) ((w.alloc (.cells #[.int .i64 0, .int .i64 0, .int .i64 0, .int .i64 0] 56)).alloc (.cells #[.int .i64 nd, .int .i64 mv] 58)) := by (repeat' (first | (with_reducible exact Below.refl _ _) | (with_reducible assumption) | (with_reducible refine Below.drew ?_) | (with_reducible refine below_drewN ?_ _) | (with_reducible refine Below.alloc ?_ ?_ _) | (with_reducible refine Below.setCell ?_ ?_ _) | go_size))
    exact (bb.block _ (block_lt h0)).trans h0)
  have XA : Hid (((w.alloc (.cells #[.int .i64 0, .int .i64 0, .int .i64 0, .int .i64 0] 56)).alloc (.cells #[.int .i64 nd, .int .i64 mv] 58)).heap[w.heap.size + 1]? = some (.cells #[.int .i64 nd, .int .i64 mv] 58 (0, 0))) := Lib.hid (by
    have h0 := heap_alloc_new (w.alloc (.cells #[.int .i64 0, .int .i64 0, .int .i64 0, .int .i64 0] 56)) (.cells #[.int .i64 nd, .int .i64 mv] 58)
    rwa [show (w.alloc (.cells #[.int .i64 0, .int .i64 0, .int .i64 0, .int .i64 0] 56)).heap.size = w.heap.size + 1 by simp] at h0)
  generalize (World.alloc (World.alloc w _) _) = w1 at *
  refine (DR.out _ BA.out).mono ?_
  rintro e w3 ⟨rfl, hT3, o3⟩
  have HNR : Hid (¬ w.heap.size = b ∧ ¬ w.heap.size + 1 = b) := Lib.hid ⟨by omega, by omega⟩
  have R3 := Lib.hid ((o3.block _ (block_lt RA.out) HNR.out.1).trans RA.out)
  have X3 := Lib.hid ((o3.block _ (block_lt XA.out) HNR.out.2).trans XA.out)
  have O3 := Lib.hid ((Off.of_below (X := fun q => q = b) BA.out).same o3)
  have T3 := Lib.hid hT3
  have HLT := Lib.hid hlt
  have c0 := cell_at R3.out 0
  have c1 := cell_at R3.out 1
  have c2 := cell_at R3.out 2
  have c3 := cell_at R3.out 3
  have fr := fun j => free_at R3.out j
  have zr := szs (block_lt R3.out)
  clear hT3 o3 DR BA RA XA p0 p1 zq c4 c5 c6 c7 c8 c9 ca cb cc zb hlt
  rw [HDE.out]
  by_cases hy0 : y < 0
  · rw [if_pos hy0]
    rw [if_pos hy0] at HVE
    go_wp2_with fail
    have KZ := put4 R3.out (.int .i64 0) (.int .i64 0) (.int .i64 0) (.int .i64 0)
    have OZ := O3.out.trans (Y := fun q => q = w.heap.size) (off4 w3 w.heap.size (.int .i64 0) (.int .i64 0) (.int .i64 0) (.int .i64 0)) (fun k hk h => by omega)
    generalize World.setCell (World.setCell (World.setCell (World.setCell w3 _ _) _ _) _ _) _ _ = w9 at *
    have k0 := cell_at KZ 0
    have k1 := cell_at KZ 1
    have k2 := cell_at KZ 2
    have k3 := cell_at KZ 3
    have zk := szs (block_lt KZ)
    refine bodyPost_ret (v := .tuple #[.agg #[(.int .i64 0), (.int .i64 0), (.int .i64 0), (.int .i64 0)], .int .i64 15]) (by simp [results, Tryz.results85, go_sem, k0, k1, k2, k3]) rfl ⟨OZ, ?_⟩
    exact .inl ⟨by rw [HVE.out]; decide, by rw [HVE.out]⟩
  · rw [if_neg hy0]
    rw [if_neg hy0] at HVE
    rw [HDS.out, if_neg hy0] at T3
    have t0 : decide (y < 0) = false := decide_eq_false hy0
    have ty : 0 ≤ y := by omega
    clear HDS HDE
    clear c0 c1 c2 c3 fr zr
    have c0 := cell_at R3.out 0
    have c1 := cell_at R3.out 1
    have c2 := cell_at R3.out 2
    have c3 := cell_at R3.out 3
    have fr := fun j => free_at R3.out j
    have zr := szs (block_lt R3.out)
    have hT := T3.out
    unfold tourC at hT
    dsimp only at hT
    have d0 := cell_at hT 0
    have d1 := cell_at hT 1
    have d2 := cell_at hT 2
    have d3 := cell_at hT 3
    have d4 := cell_at hT 4
    have d5 := cell_at hT 5
    have d6 := cell_at hT 6
    have d7 := cell_at hT 7
    have d8 := cell_at hT 8
    have d9 := cell_at hT 9
    have da := cell_at hT 10
    have db := cell_at hT 11
    have dc := cell_at hT 12
    have dfr := fun j => free_at T3.out j
    have zt := szs (block_lt hT)
    have x0 := cell_at X3.out 0
    have x1 := cell_at X3.out 1
    have zx := szs (block_lt X3.out)
    clear hT
    have HCP := Lib.hid hc
    clear hc
    go_wp2_with fail
    (refine region_order (fun i : Nat => World.drewN _ i) [] [0, 1, 2, 3, 4, 5, 6, 7, 8, 9, 10, 11] 12 [13] mixed (by kernel_rfl) ⟨1, rfl⟩ ?_; simp only [List.map_cons, List.map_nil, Array.getD_eq_getD_getElem?, List.getElem?_toArray, List.getElem?_cons_zero, List.getElem?_cons_succ, Option.getD_some]; (repeat (refine wpPure_cons _ rfl (fun w' => by go_simp; try rfl) ?_; dsimp only [Act.put])); refine wpPure_nil ?_; (repeat (any_goals (first | go_big_quiet_step (fail) | quiet_step (fail) | (refine wpQuiet_step (fun K hK => ?_); go_simp; split <;> (refine hK _ ?_; clear hK K))))); (all_goals (refine wpQuiet_nil (fun nq => ?_))))
    have b4 : Below w3.heap.size w3 (w3.drewN nq) := below_drewN (Below.refl _ _) nq
    replace R3 := Lib.hid ((b4.block _ (block_lt R3.out)).trans R3.out)
    replace X3 := Lib.hid ((b4.block _ (block_lt X3.out)).trans X3.out)
    replace T3 := Lib.hid ((b4.block _ (block_lt T3.out)).trans T3.out)
    replace O3 := Lib.hid (O3.out.trans (Y := fun _ => False) (Off.of_below b4) (fun _ _ h => h.elim))
    clear c0 c1 c2 c3 fr zr d0 d1 d2 d3 d4 d5 d6 d7 d8 d9 da db dc dfr zt x0 x1 zx
    clear b4
    generalize w3.drewN nq = w4 at *
    have c0 := cell_at R3.out 0
    have c1 := cell_at R3.out 1
    have c2 := cell_at R3.out 2
    have c3 := cell_at R3.out 3
    have fr := fun j => free_at R3.out j
    have zr := szs (block_lt R3.out)
    have hT := T3.out
    unfold tourC at hT
    dsimp only at hT
    have d0 := cell_at hT 0
    have d1 := cell_at hT 1
    have d2 := cell_at hT 2
    have d3 := cell_at hT 3
    have d4 := cell_at hT 4
    have d5 := cell_at hT 5
    have d6 := cell_at hT 6
    have d7 := cell_at hT 7
    have d8 := cell_at hT 8
    have d9 := cell_at hT 9
    have da := cell_at hT 10
    have db := cell_at hT 11
    have dc := cell_at hT 12
    have dfr := fun j => free_at T3.out j
    have zt := szs (block_lt hT)
    have x0 := cell_at X3.out 0
    have x1 := cell_at X3.out 1
    have zx := szs (block_lt X3.out)
    clear hT
    go_wp2_with fail
    refine (IN.out (s.load + mv) 0 t.cap _).mono ?_
    rintro e w9 ⟨rfl, rfl⟩
    by_cases hl : inB (s.load + mv) 0 t.cap = false
    · rw [hl]
      have HV2 : Hid (visitE g t s i = 24) := Lib.hid (by
        have : ¬ (0 ≤ s.load + mv ∧ s.load + mv ≤ t.cap) := fun h => by rw [inB_iff.2 h] at hl; cases hl
        rw [HVE.out, if_pos (by omega)])
      go_wp2_with fail
      refine onlyN_intro ?_
      go_wp2_with fail
      have KZ := put4 R3.out (.int .i64 0) (.int .i64 0) (.int .i64 0) (.int .i64 0)
      have OZ := O3.out.trans (Y := fun q => q = w.heap.size) (off4 w4 w.heap.size (.int .i64 0) (.int .i64 0) (.int .i64 0) (.int .i64 0)) (fun k hk h => by omega)
      generalize World.setCell (World.setCell (World.setCell (World.setCell w4 _ _) _ _) _ _) _ _ = w9 at *
      have k0 := cell_at KZ 0
      have k1 := cell_at KZ 1
      have k2 := cell_at KZ 2
      have k3 := cell_at KZ 3
      have zk := szs (block_lt KZ)
      refine bodyPost_ret (v := .tuple #[.agg #[(.int .i64 0), (.int .i64 0), (.int .i64 0), (.int .i64 0)], .int .i64 24]) (by simp [results, Tryz.results85, go_sem, k0, k1, k2, k3]) rfl ⟨OZ, ?_⟩
      exact .inl ⟨by rw [HV2.out]; decide, by rw [HV2.out]⟩
    · have hl' : inB (s.load + mv) 0 t.cap = true := by simpa using hl
      have hlb := inB_iff.1 hl'
      rw [hl']
      have HV2 : Hid (visitE g t s i = 0) := Lib.hid (by rw [HVE.out, if_neg (by omega)])
      clear hl hl' HVE
      go_wp2_with fail
      refine onlyN_intro ?_
      go_wp2_with fail
      have b5 : Below w4.heap.size w4 (w4.alloc (.cells #[.int .i64 (i : Int), .int .i64 (s.now + y), .int .i64 0, .int .i64 0] 56)) := by (repeat' (first | (with_reducible exact Below.refl _ _) | (with_reducible assumption) | (with_reducible refine Below.drew ?_) | (with_reducible refine below_drewN ?_ _) | (with_reducible refine Below.alloc ?_ ?_ _) | (with_reducible refine Below.setCell ?_ ?_ _) | go_size))
      have V3 := Lib.hid (heap_alloc_new w4 (.cells #[.int .i64 (i : Int), .int .i64 (s.now + y), .int .i64 0, .int .i64 0] 56))
      have HNV : Hid (¬ w4.heap.size = b) := Lib.hid (by have := block_lt T3.out; omega)
      have HVR : Hid (w4.heap.size ≠ w.heap.size ∧ w4.heap.size ≠ w.heap.size + 1 ∧ w.heap.size ≤ w4.heap.size) := Lib.hid (by have := block_lt R3.out; have := block_lt X3.out; omega)
      replace R3 := Lib.hid ((b5.block _ (block_lt R3.out)).trans R3.out)
      replace X3 := Lib.hid ((b5.block _ (block_lt X3.out)).trans X3.out)
      replace T3 := Lib.hid ((b5.block _ (block_lt T3.out)).trans T3.out)
      replace O3 := Lib.hid (O3.out.trans (Y := fun _ => False) (Off.of_below b5) (fun _ _ h => h.elim))
      clear c0 c1 c2 c3 fr zr d0 d1 d2 d3 d4 d5 d6 d7 d8 d9 da db dc dfr zt x0 x1 zx
      clear b5
      generalize w4.alloc (.cells #[.int .i64 (i : Int), .int .i64 (s.now + y), .int .i64 0, .int .i64 0] 56) = w5 at *
      generalize w4.heap.size = vb at *
      have c0 := cell_at R3.out 0
      have c1 := cell_at R3.out 1
      have c2 := cell_at R3.out 2
      have c3 := cell_at R3.out 3
      have fr := fun j => free_at R3.out j
      have zr := szs (block_lt R3.out)
      have hT := T3.out
      unfold tourC at hT
      dsimp only at hT
      have d0 := cell_at hT 0
      have d1 := cell_at hT 1
      have d2 := cell_at hT 2
      have d3 := cell_at hT 3
      have d4 := cell_at hT 4
      have d5 := cell_at hT 5
      have d6 := cell_at hT 6
      have d7 := cell_at hT 7
      have d8 := cell_at hT 8
      have d9 := cell_at hT 9
      have da := cell_at hT 10
      have db := cell_at hT 11
      have dc := cell_at hT 12
      have dfr := fun j => free_at T3.out j
      have zt := szs (block_lt hT)
      have x0 := cell_at X3.out 0
      have x1 := cell_at X3.out 1
      have zx := szs (block_lt X3.out)
      clear hT
      (refine region_order (fun i : Nat => World.drewN _ i) [] [0, 1, 2, 3, 4, 5, 6, 7, 8] 9 [] mixed (by kernel_rfl) ⟨1, rfl⟩ ?_; simp only [List.map_cons, List.map_nil, Array.getD_eq_getD_getElem?, List.getElem?_toArray, List.getElem?_cons_zero, List.getElem?_cons_succ, Option.getD_some]; (repeat (refine wpPure_cons _ rfl (fun w' => by go_simp; try rfl) ?_; dsimp only [Act.put])); refine wpPure_nil ?_; (repeat (any_goals (first | go_big_quiet_step (fail) | quiet_step (fail) | (refine wpQuiet_step (fun K hK => ?_); go_simp; split <;> (refine hK _ ?_; clear hK K))))); (all_goals (refine wpQuiet_nil (fun nq => ?_))))
      have b6 : Below w5.heap.size w5 (w5.drewN nq) := below_drewN (Below.refl _ _) nq
      replace V3 := Lib.hid ((b6.block _ (block_lt V3.out)).trans V3.out)
      replace R3 := Lib.hid ((b6.block _ (block_lt R3.out)).trans R3.out)
      replace X3 := Lib.hid ((b6.block _ (block_lt X3.out)).trans X3.out)
      replace T3 := Lib.hid ((b6.block _ (block_lt T3.out)).trans T3.out)
      replace O3 := Lib.hid (O3.out.trans (Y := fun _ => False) (Off.of_below b6) (fun _ _ h => h.elim))
      clear c0 c1 c2 c3 fr zr d0 d1 d2 d3 d4 d5 d6 d7 d8 d9 da db dc dfr zt x0 x1 zx
      clear b6
      generalize w5.drewN nq = w6 at *
      have c0 := cell_at R3.out 0
      have c1 := cell_at R3.out 1
      have c2 := cell_at R3.out 2
      have c3 := cell_at R3.out 3
      have fr := fun j => free_at R3.out j
      have zr := szs (block_lt R3.out)
      have hT := T3.out
      unfold tourC at hT
      dsimp only at hT
      have d0 := cell_at hT 0
      have d1 := cell_at hT 1
      have d2 := cell_at hT 2
      have d3 := cell_at hT 3
      have d4 := cell_at hT 4
      have d5 := cell_at hT 5
      have d6 := cell_at hT 6
      have d7 := cell_at hT 7
      have d8 := cell_at hT 8
      have d9 := cell_at hT 9
      have da := cell_at hT 10
      have db := cell_at hT 11
      have dc := cell_at hT 12
      have dfr := fun j => free_at T3.out j
      have zt := szs (block_lt hT)
      have x0 := cell_at X3.out 0
      have x1 := cell_at X3.out 1
      have zx := szs (block_lt X3.out)
      clear hT
      go_wp2_with fail
      refine onlyN_intro ?_
      go_wp2_with fail
      have hT5 : (World.setCell w6 ⟨b, 11, none⟩ (.int .i64 (s.load + mv))).heap[b]? = some (.cells (tourC g t ⟨nd, s.now + y, s.load + mv, s.drv + y⟩) 105 (0, 0)) := by
        rw [setCell_at T3.out, setAt_same (block_lt T3.out)]; rfl
      have o5 : Off (fun q => q = b) w6 (World.setCell w6 ⟨b, 11, none⟩ (.int .i64 (s.load + mv))) := (Off.refl (fun q => q = b) w6).setCell (p := ⟨b, 11, none⟩) (fun _ => rfl) _
      replace R3 := Lib.hid ((o5.block _ (block_lt R3.out) HNR.out.1).trans R3.out)
      replace X3 := Lib.hid ((o5.block _ (block_lt X3.out) HNR.out.2).trans X3.out)
      replace V3 := Lib.hid ((o5.block _ (block_lt V3.out) HNV.out).trans V3.out)
      replace O3 := Lib.hid (O3.out.same o5)
      replace T3 := Lib.hid hT5
      clear c0 c1 c2 c3 fr zr d0 d1 d2 d3 d4 d5 d6 d7 d8 d9 da db dc dfr zt x0 x1 zx
      clear hT5 o5
      generalize World.setCell w6 ⟨b, 11, none⟩ (.int .i64 (s.load + mv)) = w8 at *
      have c0 := cell_at R3.out 0
      have c1 := cell_at R3.out 1
      have c2 := cell_at R3.out 2
      have c3 := cell_at R3.out 3
      have fr := fun j => free_at R3.out j
      have zr := szs (block_lt R3.out)
      have hT := T3.out
      unfold tourC at hT
      dsimp only at hT
      have d0 := cell_at hT 0
      have d1 := cell_at hT 1
      have d2 := cell_at hT 2
      have d3 := cell_at hT 3
      have d4 := cell_at hT 4
      have d5 := cell_at hT 5
      have d6 := cell_at hT 6
      have d7 := cell_at hT 7
      have d8 := cell_at hT 8
      have d9 := cell_at hT 9
      have da := cell_at hT 10
      have db := cell_at hT 11
      have dc := cell_at hT 12
      have dfr := fun j => free_at T3.out j
      have zt := szs (block_lt hT)
      have x0 := cell_at X3.out 0
      have x1 := cell_at X3.out 1
      have zx := szs (block_lt X3.out)
      clear hT
      have HWB := Lib.hid hw
      have hmh : 0 ≤ g.h ∧ g.h ≤ 3600 := HH.out
      obtain rfl : wk = max mv (-mv) * g.h := HWK.out
      clear HWK
      (refine region_order (fun i : Nat => World.drewN _ i) [] [0, 1, 2, 3, 4, 5, 6, 7, 8, 9, 10, 11, 12, 13, 14, 15, 16, 17, 18] 19 [] mixed (by kernel_rfl) ⟨1, rfl⟩ ?_; simp only [List.map_cons, List.map_nil, Array.getD_eq_getD_getElem?, List.getElem?_toArray, List.getElem?_cons_zero, List.getElem?_cons_succ, Option.getD_some]; (repeat (refine wpPure_cons _ rfl (fun w' => by go_simp; try rfl) ?_; dsimp only [Act.put])); refine wpPure_nil ?_; (repeat (any_goals (first | go_big_quiet_step (fail) | quiet_step (fail) | (refine wpQuiet_step (fun K hK => ?_); go_simp; split <;> (refine hK _ ?_; clear hK K))))); (all_goals (refine wpQuiet_nil (fun nq => ?_))))
      have b9 : Below w8.heap.size w8 (w8.drewN nq) := below_drewN (Below.refl _ _) nq
      replace V3 := Lib.hid ((b9.block _ (block_lt V3.out)).trans V3.out)
      replace R3 := Lib.hid ((b9.block _ (block_lt R3.out)).trans R3.out)
      replace X3 := Lib.hid ((b9.block _ (block_lt X3.out)).trans X3.out)
      replace T3 := Lib.hid ((b9.block _ (block_lt T3.out)).trans T3.out)
      replace O3 := Lib.hid (O3.out.trans (Y := fun _ => False) (Off.of_below b9) (fun _ _ h => h.elim))
      clear c0 c1 c2 c3 fr zr d0 d1 d2 d3 d4 d5 d6 d7 d8 d9 da db dc dfr zt x0 x1 zx
      clear b9
      generalize w8.drewN nq = w10 at *
      have c0 := cell_at R3.out 0
      have c1 := cell_at R3.out 1
      have c2 := cell_at R3.out 2
      have c3 := cell_at R3.out 3
      have fr := fun j => free_at R3.out j
      have zr := szs (block_lt R3.out)
      have hT := T3.out
      unfold tourC at hT
      dsimp only at hT
      have d0 := cell_at hT 0
      have d1 := cell_at hT 1
      have d2 := cell_at hT 2
      have d3 := cell_at hT 3
      have d4 := cell_at hT 4
      have d5 := cell_at hT 5
      have d6 := cell_at hT 6
      have d7 := cell_at hT 7
      have d8 := cell_at hT 8
      have d9 := cell_at hT 9
      have da := cell_at hT 10
      have db := cell_at hT 11
      have dc := cell_at hT 12
      have dfr := fun j => free_at T3.out j
      have zt := szs (block_lt hT)
      have x0 := cell_at X3.out 0
      have x1 := cell_at X3.out 1
      have zx := szs (block_lt X3.out)
      clear hT
      go_wp2_with fail
      refine onlyN_intro ?_
      go_wp2_with fail
      have hT5 : (World.setCell w10 ⟨b, 10, none⟩ (.int .i64 (s.now + y + max mv (-mv) * g.h))).heap[b]? = some (.cells (tourC g t ⟨nd, s.now + y + max mv (-mv) * g.h, s.load + mv, s.drv + y⟩) 105 (0, 0)) := by
        rw [setCell_at T3.out, setAt_same (block_lt T3.out)]; rfl
      have o5 : Off (fun q => q = b) w10 (World.setCell w10 ⟨b, 10, none⟩ (.int .i64 (s.now + y + max mv (-mv) * g.h))) := (Off.refl (fun q => q = b) w10).setCell (p := ⟨b, 10, none⟩) (fun _ => rfl) _
      replace R3 := Lib.hid ((o5.block _ (block_lt R3.out) HNR.out.1).trans R3.out)
      replace X3 := Lib.hid ((o5.block _ (block_lt X3.out) HNR.out.2).trans X3.out)
      replace V3 := Lib.hid ((o5.block _ (block_lt V3.out) HNV.out).trans V3.out)
      replace O3 := Lib.hid (O3.out.same o5)
      replace T3 := Lib.hid hT5
      clear c0 c1 c2 c3 fr zr d0 d1 d2 d3 d4 d5 d6 d7 d8 d9 da db dc dfr zt x0 x1 zx
      clear hT5 o5
      generalize World.setCell w10 ⟨b, 10, none⟩ (.int .i64 (s.now + y + max mv (-mv) * g.h)) = w8 at *
      have c0 := cell_at R3.out 0
      have c1 := cell_at R3.out 1
      have c2 := cell_at R3.out 2
      have c3 := cell_at R3.out 3
      have fr := fun j => free_at R3.out j
      have zr := szs (block_lt R3.out)
      have hT := T3.out
      unfold tourC at hT
      dsimp only at hT
      have d0 := cell_at hT 0
      have d1 := cell_at hT 1
      have d2 := cell_at hT 2
      have d3 := cell_at hT 3
      have d4 := cell_at hT 4
      have d5 := cell_at hT 5
      have d6 := cell_at hT 6
      have d7 := cell_at hT 7
      have d8 := cell_at hT 8
      have d9 := cell_at hT 9
      have da := cell_at hT 10
      have db := cell_at hT 11
      have dc := cell_at hT 12
      have dfr := fun j => free_at T3.out j
      have zt := szs (block_lt hT)
      have x0 := cell_at X3.out 0
      have x1 := cell_at X3.out 1
      have zx := szs (block_lt X3.out)
      clear hT
      have v2 := cell_at V3.out 2
      have v3 := cell_at V3.out 3
      have vfr := fun j => free_at V3.out j
      have zv := szs (block_lt V3.out)
      have nvb : vb ≠ b := HNV.out
      have nvb2 : b ≠ vb := fun e => HNV.out e.symm
      go_region
      have hV := two_set V3.out (.int .i64 (s.now + y + max mv (-mv) * g.h)) (.int .i64 (s.load + mv))
      have oV : Off (fun q => q = vb) w8 ((w8.setCell ⟨vb, 2, none⟩ (.int .i64 (s.now + y + max mv (-mv) * g.h))).setCell ⟨vb, 3, none⟩ (.int .i64 (s.load + mv))) := ((Off.refl (fun q => q = vb) w8).setCell (p := ⟨vb, 2, none⟩) (fun _ => rfl) _).setCell (p := ⟨vb, 3, none⟩) (fun _ => rfl) _
      have bV : Below ((w8.setCell ⟨vb, 2, none⟩ (.int .i64 (s.now + y + max mv (-mv) * g.h))).setCell ⟨vb, 3, none⟩ (.int .i64 (s.load + mv))).heap.size ((w8.setCell ⟨vb, 2, none⟩ (.int .i64 (s.now + y + max mv (-mv) * g.h))).setCell ⟨vb, 3, none⟩ (.int .i64 (s.load + mv))) (((w8.setCell ⟨vb, 2, none⟩ (.int .i64 (s.now + y + max mv (-mv) * g.h))).setCell ⟨vb, 3, none⟩ (.int .i64 (s.load + mv))).drew) := by (repeat' (first | (with_reducible exact Below.refl _ _) | (with_reducible assumption) | (with_reducible refine Below.drew ?_) | (with_reducible refine below_drewN ?_ _) | (with_reducible refine Below.alloc ?_ ?_ _) | (with_reducible refine Below.setCell ?_ ?_ _) | go_size))
      have oD : Off (fun q => q = vb) w8 (((w8.setCell ⟨vb, 2, none⟩ (.int .i64 (s.now + y + max mv (-mv) * g.h))).setCell ⟨vb, 3, none⟩ (.int .i64 (s.load + mv))).drew) := oV.trans (Y := fun _ => False) (Off.of_below bV) (fun _ _ h => h.elim)
      have hVD := (bV.block _ (block_lt hV)).trans hV
      replace R3 := Lib.hid ((oD.block _ (block_lt R3.out) (fun h => HVR.out.1 h.symm)).trans R3.out)
      replace X3 := Lib.hid ((oD.block _ (block_lt X3.out) (fun h => HVR.out.2.1 h.symm)).trans X3.out)
      replace T3 := Lib.hid ((oD.block _ (block_lt T3.out) nvb2).trans T3.out)
      replace O3 := Lib.hid (O3.out.trans (Y := fun q => q = vb) oD (fun k hk h => by have := HVR.out.2.2; omega))
      clear c0 c1 c2 c3 fr zr d0 d1 d2 d3 d4 d5 d6 d7 d8 d9 da db dc dfr zt x0 x1 zx
      clear v2 v3 vfr zv nvb nvb2 oV bV oD hV V3
      generalize ((w8.setCell ⟨vb, 2, none⟩ (.int .i64 (s.now + y + max mv (-mv) * g.h))).setCell ⟨vb, 3, none⟩ (.int .i64 (s.load + mv))).drew = w11 at *
      have c0 := cell_at R3.out 0
      have c1 := cell_at R3.out 1
      have c2 := cell_at R3.out 2
      have c3 := cell_at R3.out 3
      have fr := fun j => free_at R3.out j
      have zr := szs (block_lt R3.out)
      have hT := T3.out
      unfold tourC at hT
      dsimp only at hT
      have d0 := cell_at hT 0
      have d1 := cell_at hT 1
      have d2 := cell_at hT 2
      have d3 := cell_at hT 3
      have d4 := cell_at hT 4
      have d5 := cell_at hT 5
      have d6 := cell_at hT 6
      have d7 := cell_at hT 7
      have d8 := cell_at hT 8
      have d9 := cell_at hT 9
      have da := cell_at hT 10
      have db := cell_at hT 11
      have dc := cell_at hT 12
      have dfr := fun j => free_at T3.out j
      have zt := szs (block_lt hT)
      have x0 := cell_at X3.out 0
      have x1 := cell_at X3.out 1
      have zx := szs (block_lt X3.out)
      clear hT
      have v0 := cell_at hVD 0
      have v1 := cell_at hVD 1
      have v2 := cell_at hVD 2
      have v3 := cell_at hVD 3
      have zv := szs (block_lt hVD)
      have TF := T3
      clear d0 d1 d2 d3 d4 d5 d6 d7 d8 d9 da db dc dfr zt x0 x1 zx hVD
      go_wp2_with fail
      have TF2 : Hid (((((w11.setCell ⟨w.heap.size, 0, none⟩ (.int .i64 (i : Int))).setCell ⟨w.heap.size, 1, none⟩ (.int .i64 (s.now + y))).setCell ⟨w.heap.size, 2, none⟩ (.int .i64 (s.now + y + max mv (-mv) * g.h))).setCell ⟨w.heap.size, 3, none⟩ (.int .i64 (s.load + mv))).heap[b]? = some (.cells (tourC g t ⟨nd, s.now + y + max mv (-mv) * g.h, s.load + mv, s.drv + y⟩) 105 (0, 0))) := Lib.hid (((off4 w11 w.heap.size _ _ _ _).block _ (block_lt T3.out) (fun h => HNR.out.1 h.symm)).trans T3.out)
      have KZ := put4 R3.out (.int .i64 (i : Int)) (.int .i64 (s.now + y)) (.int .i64 (s.now + y + max mv (-mv) * g.h)) (.int .i64 (s.load + mv))
      have OZ := O3.out.trans (Y := fun q => q = w.heap.size) (off4 w11 w.heap.size (.int .i64 (i : Int)) (.int .i64 (s.now + y)) (.int .i64 (s.now + y + max mv (-mv) * g.h)) (.int .i64 (s.load + mv))) (fun k hk h => by omega)
      generalize World.setCell (World.setCell (World.setCell (World.setCell w11 _ _) _ _) _ _) _ _ = w9 at *
      have k0 := cell_at KZ 0
      have k1 := cell_at KZ 1
      have k2 := cell_at KZ 2
      have k3 := cell_at KZ 3
      have zk := szs (block_lt KZ)
      refine bodyPost_ret (v := .tuple #[.agg #[(.int .i64 (i : Int)), (.int .i64 (s.now + y)), (.int .i64 (s.now + y + max mv (-mv) * g.h)), (.int .i64 (s.load + mv))], .int .i64 0]) (by simp [results, Tryz.results85, go_sem, k0, k1, k2, k3]) rfl ⟨OZ, ?_⟩
      exact .inr ⟨HV2.out, by rw [HVV.out]; rfl, by rw [HVS.out]; exact TF2.out⟩
end Go.Proofs.YtlnfhlmgnppcbaaGreat
namespace Go.Proofs.YtlnfhlmgnppcbaaGreat
open Go.RowKit Go.ChangeShapes Go.WideShapes Go.Deep
set_option linter.unusedVariables false
set_option linter.unusedSimpArgs false
set_option maxRecDepth 8000
open Rd
noncomputable def homeB (g : Ng) (t : Tk) (s : St4) : Int := s.now + g.S s.at' t.dep + s.load * g.h
noncomputable def homeE (g : Ng) (t : Tk) (s : St4) : Int := if g.S s.at' t.dep < 0 then 15 else if t.til < homeB g t s then 25 else 0
noncomputable def homeS (g : Ng) (t : Tk) (s : St4) : St4 := ⟨t.dep, homeB g t s, s.load, s.drv + g.S s.at' t.dep⟩
set_option maxHeartbeats 16000000 in
theorem home86 (g : Ng) (n : Nat) (t : Tk) (s : St4) (b : Nat) (w : World) (h : NOk g n) (hr : roadE g.N g.em g.E = 0) (hg : g.In w) (hs : s.Small n) (hd : 0 ≤ t.dep ∧ t.dep < n) (hl : -200000 ≤ s.load * g.h ∧ s.load * g.h ≤ 200000) (hb : w.heap[b]? = some (.cells (tourC g t s) 105 (0, 0))) :
    Calls Tryz.prog 86 #[.pointer (some ⟨b, 0, none⟩)] w fun e w' => e = .returned (.int .i64 (homeE g t s)) ∧ Off (fun q => q = b) w w' ∧ (homeE g t s = 0 → w'.heap[b]? = some (.cells (tourC g t (homeS g t s)) 105 (0, 0))) := by
  have DR := Lib.hid (drive119 g n t s t.dep b w h hr hg hs hd hb)
  have HDE : Hid (driveE g s t.dep = if g.S s.at' t.dep < 0 then 15 else 0) := Lib.hid rfl
  have HDS : Hid (driveS g s t.dep = if g.S s.at' t.dep < 0 then s else ⟨t.dep, s.now + g.S s.at' t.dep, s.load, s.drv + g.S s.at' t.dep⟩) := Lib.hid rfl
  have HHE : Hid (homeE g t s = if g.S s.at' t.dep < 0 then 15 else if t.til < s.now + g.S s.at' t.dep + s.load * g.h then 25 else 0) := Lib.hid rfl
  have HHS : Hid (homeS g t s = ⟨t.dep, s.now + g.S s.at' t.dep + s.load * g.h, s.load, s.drv + g.S s.at' t.dep⟩) := Lib.hid rfl
  have hS := h.S_bd hs.at' t.dep
  obtain ⟨y, hy⟩ : ∃ y, y = g.S s.at' t.dep := ⟨_, rfl⟩
  rw [← hy] at hS HDE HDS HHE HHS
  obtain ⟨h1, h2⟩ := hs.now
  obtain ⟨h3, h4⟩ := hs.load
  have hh1 := h.h0
  have hh2 := h.h1
  have HHH := Lib.hid (And.intro hh1 hh2)
  have T3 := Lib.hid hb
  have hT := T3.out
  unfold tourC at hT
  try dsimp only at hT
  have d0 := cell_at hT 0
  have d1 := cell_at hT 1
  have d2 := cell_at hT 2
  have d3 := cell_at hT 3
  have d4 := cell_at hT 4
  have d5 := cell_at hT 5
  have d6 := cell_at hT 6
  have d7 := cell_at hT 7
  have d8 := cell_at hT 8
  have d9 := cell_at hT 9
  have da := cell_at hT 10
  have db := cell_at hT 11
  have dc := cell_at hT 12
  have dfr := fun j => free_at T3.out j
  have zt := szs (block_lt hT)
  clear hT
  obtain ⟨E, hE⟩ : ∃ E, E = homeE g t s := ⟨_, rfl⟩
  rw [← hE] at HHE ⊢
  obtain ⟨S2, hS2⟩ : ∃ S2, S2 = homeS g t s := ⟨_, rfl⟩
  rw [← hS2] at HHS ⊢
  clear h hr hg hs hd hb hy hE hS2 hh1 hh2
  go_enter Tryz.func86, Tryz.ntmps86
  go_wp2_with fail
  refine DR.out.mono ?_
  rintro e w3 ⟨rfl, hT3, o3⟩
  have O3 := Lib.hid o3
  rw [HDS.out] at hT3
  rw [HDE.out]
  clear DR T3 o3
  clear d0 d1 d2 d3 d4 d5 d6 d7 d8 d9 da db dc dfr zt
  have T3 := Lib.hid hT3
  clear hT3 HDE HDS
  by_cases hy0 : y < 0
  · rw [if_pos hy0] at HHE ⊢
    go_wp2_with fail
    go_returns
    exact ⟨by rw [HHE.out]; rfl, O3.out, fun h => by rw [HHE.out] at h; cases h⟩
  · rw [if_neg hy0] at HHE T3 ⊢
    have hT := T3.out
    unfold tourC at hT
    try dsimp only at hT
    have d0 := cell_at hT 0
    have d1 := cell_at hT 1
    have d2 := cell_at hT 2
    have d3 := cell_at hT 3
    have d4 := cell_at hT 4
    have d5 := cell_at hT 5
    have d6 := cell_at hT 6
    have d7 := cell_at hT 7
    have d8 := cell_at hT 8
    have d9 := cell_at hT 9
    have da := cell_at hT 10
    have db := cell_at hT 11
    have dc := cell_at hT 12
    have dfr := fun j => free_at T3.out j
    have zt := szs (block_lt hT)
    clear hT
    go_wp2_with fail
    (refine region_order (fun i : Nat => World.drewN _ i) [] [0, 1, 2, 3, 4, 5, 6, 7, 8, 9, 10, 11, 12, 13, 14, 15, 16] 17 [] mixed (by kernel_rfl) ⟨1, rfl⟩ ?_; simp only [List.map_cons, List.map_nil, Array.getD_eq_getD_getElem?, List.getElem?_toArray, List.getElem?_cons_zero, List.getElem?_cons_succ, Option.getD_some]; (repeat (refine wpPure_cons _ rfl (fun w' => by go_simp; try rfl) ?_; dsimp only [Act.put])); refine wpPure_nil ?_; (repeat (any_goals (first | go_big_quiet_step (fail) | quiet_step (fail) | (refine wpQuiet_step (fun K hK => ?_); go_simp; split <;> (refine hK _ ?_; clear hK K))))); (all_goals (refine wpQuiet_nil (fun nq => ?_))))
    have b4 : Below w3.heap.size w3 (w3.drewN nq) := below_drewN (Below.refl _ _) nq
    replace T3 := Lib.hid ((b4.block _ (block_lt T3.out)).trans T3.out)
    replace O3 := Lib.hid (O3.out.trans (Y := fun _ => False) (Off.of_below b4) (fun _ _ h => h.elim))
    clear d0 d1 d2 d3 d4 d5 d6 d7 d8 d9 da db dc dfr zt
    clear b4
    generalize w3.drewN nq = w4 at *
    have hT := T3.out
    unfold tourC at hT
    try dsimp only at hT
    have d0 := cell_at hT 0
    have d1 := cell_at hT 1
    have d2 := cell_at hT 2
    have d3 := cell_at hT 3
    have d4 := cell_at hT 4
    have d5 := cell_at hT 5
    have d6 := cell_at hT 6
    have d7 := cell_at hT 7
    have d8 := cell_at hT 8
    have d9 := cell_at hT 9
    have da := cell_at hT 10
    have db := cell_at hT 11
    have dc := cell_at hT 12
    have dfr := fun j => free_at T3.out j
    have zt := szs (block_lt hT)
    clear hT
    go_wp2_with fail
    refine onlyN_intro ?_
    go_wp2_with fail
    have hT5 : (w4.setCell ⟨b, 10, none⟩ (.int .i64 (s.now + y + s.load * g.h))).heap[b]? = some (.cells (tourC g t ⟨t.dep, s.now + y + s.load * g.h, s.load, s.drv + y⟩) 105 (0, 0)) := by
      rw [setCell_at T3.out, setAt_same (block_lt T3.out)]; rfl
    have o5 : Off (fun q => q = b) w4 (w4.setCell ⟨b, 10, none⟩ (.int .i64 (s.now + y + s.load * g.h))) := (Off.refl (fun q => q = b) w4).setCell (p := ⟨b, 10, none⟩) (fun _ => rfl) _
    replace O3 := Lib.hid (O3.out.same o5)
    replace T3 := Lib.hid hT5
    clear d0 d1 d2 d3 d4 d5 d6 d7 d8 d9 da db dc dfr zt
    clear hT5 o5
    generalize w4.setCell ⟨b, 10, none⟩ (.int .i64 (s.now + y + s.load * g.h)) = w5 at *
    have hT := T3.out
    unfold tourC at hT
    try dsimp only at hT
    have d0 := cell_at hT 0
    have d1 := cell_at hT 1
    have d2 := cell_at hT 2
    have d3 := cell_at hT 3
    have d4 := cell_at hT 4
    have d5 := cell_at hT 5
    have d6 := cell_at hT 6
    have d7 := cell_at hT 7
    have d8 := cell_at hT 8
    have d9 := cell_at hT 9
    have da := cell_at hT 10
    have db := cell_at hT 11
    have dc := cell_at hT 12
    have dfr := fun j => free_at T3.out j
    have zt := szs (block_lt hT)
    clear hT
    (refine region_all (fun i : Nat => World.drewN _ i) mixed (by kernel_rfl) ⟨1, rfl⟩ ?_; (repeat (any_goals (first | go_big_quiet_step (fail) | quiet_step (fail) | (refine wpQuiet_step (fun K hK => ?_); go_simp; split <;> (refine hK _ ?_; clear hK K))))); (all_goals (refine wpQuiet_nil (fun nq => ?_))))
    have b6 : Below w5.heap.size w5 (w5.drewN nq) := below_drewN (Below.refl _ _) nq
    replace T3 := Lib.hid ((b6.block _ (block_lt T3.out)).trans T3.out)
    replace O3 := Lib.hid (O3.out.trans (Y := fun _ => False) (Off.of_below b6) (fun _ _ h => h.elim))
    clear b6
    clear d0 d1 d2 d3 d4 d5 d6 d7 d8 d9 da db dc dfr zt
    generalize w5.drewN nq = w6 at *
    by_cases hl2 : t.til < s.now + y + s.load * g.h
    · rw [if_pos hl2] at HHE
      go_wp2_with fail
      go_returns
      exact ⟨by rw [HHE.out]; rfl, O3.out, fun h => by rw [HHE.out] at h; cases h⟩
    · rw [if_neg hl2] at HHE
      have tl2 : decide (t.til < s.now + y + s.load * g.h) = false := decide_eq_false hl2
      go_wp2_with fail
      go_returns
      exact ⟨by rw [HHE.out]; rfl, O3.out, fun _ => by rw [HHS.out]; exact T3.out⟩
end Go.Proofs.YtlnfhlmgnppcbaaGreat
namespace Go.Proofs.YtlnfhlmgnppcbaaGreat
open Go.RowKit Go.ChangeShapes Go.WideShapes Go.Deep
set_option linter.unusedVariables false
set_option linter.unusedSimpArgs false
set_option maxRecDepth 8000
open Rd
def vif (V : Nat → Vi) : Nat → List Value := fun i => [.int .i64 (V i).need, .int .i64 (V i).arr, .int .i64 (V i).lea, .int .i64 (V i).load]
theorem vif_len (V : Nat → Vi) (i : Nat) : (vif V i).length = 4 := rfl
def ViRow (w : World) (base : Nat) (v : Value) (n : Nat) (V : Nat → Vi) : Prop := Row w base 56 4 v n (vif V)
theorem infoVi : (Tryz.prog.info? 56).map (fun i => (i.zero, i.size, i.bytes)) = some (some (.agg #[.int .i64 0, .int .i64 0, .int .i64 0, .int .i64 0]), 4, 32) := by kernel_rfl
theorem wpList_append_Vi {ops : Array Oper} {rest : List Oper} {o : Oper} {a : Act} {Q : Exit → Act → World → Prop} (w : World) (hgd : o.guard = none) (x1 x2 : Operand) (ho : o.op = .call { callee := .builtin .append, args := #[x1, x2], argTypes := #[52, 52] })
    (base : Nat) (v : Value) (n : Nat) (V : Nat → Vi) (hs : a.eval x1 = v) (h1 : ViRow w base v n V) (b1 : Nat) (x : Vi) (hx : a.eval x2 = .slice (some ⟨b1, 0, none⟩) 1 1) (ob : TypeId) (fz : Nat × Nat) (hb1 : w.heap[b1]? = some (.cells (viC x) ob fz)) (hn : n ≤ 1000000) (hb : base ≤ w.heap.size)
    (h : ∀ v' w', ViRow w' base v' (n + 1) (upd V n x) → Off (fun i => base ≤ i) w w' → wpList Tryz.prog ops Q rest (a.put o.dst v') w') : wpList Tryz.prog ops Q (o :: rest) a w := by
  obtain ⟨i0, hi, hz0, hz1, hz2⟩ := info_parts infoVi
  refine wpList_append_row w hgd x1 x2 52 ho base 56 i0 _ 4 32 Tryz.underlying52 hi hz0 hz1 hz2 rfl (by decide) v n (vif V) hs h1 (vif_len V) b1 1 [.int .i64 x.need, .int .i64 x.arr, .int .i64 x.lea, .int .i64 x.load] hx rfl ob fz hb1 (fun u hu => by
    simp only [List.mem_cons, List.not_mem_nil, or_false] at hu
    rcases hu with rfl | rfl | rfl | rfl <;> rfl) (by omega) (by unfold maxLen; omega) hb ?_
  intro g cap w' k1 k2 k3 k4 k5 r b
  refine h _ w' (Row.congr r (fun i _ => ?_)) ((Off.of_grown b).mono (fun i _ hh => ?_))
  · show upd (vif V) n _ i = vif (upd V n x) i
    by_cases e : i = n
    · subst e; rw [upd_same]; simp [vif, upd]
    · rw [upd_ne e]; simp [vif, upd, e]
  · have hh : v.ownBlock = some i := by first | exact hh | exact hh.symm
    exact (World.ownsRow.lt h1 i hh).1
noncomputable def stK (g : Ng) (t : Tk) (R : Nat → Int) (i : Nat) : St4 := ⟨atK g t R i, nowK g t R i, loadK g R i, drvK g t R i⟩
theorem stK_next (g : Ng) (t : Tk) (R : Nat → Int) (i : Nat) : visitS g (stK g t R i) (R i) = stK g t R (i + 1) := rfl
theorem stK_err (g : Ng) (t : Tk) (R : Nat → Int) (i : Nat) : visitE g t (stK g t R i) (R i) = stepK g t R i := rfl
theorem stK_vis (g : Ng) (t : Tk) (R : Nat → Int) (i : Nat) : visitV g (stK g t R i) (R i) = visK g t R i := rfl
theorem stK_home (g : Ng) (t : Tk) (R : Nat → Int) (k : Nat) : homeE g t (stK g t R k) = homeK g t R k := rfl
theorem ROk.small {g : Ng} {n : Nat} {r : Int} {R : Nat → Int} {k : Nat} (h : ROk g n r R k) {i : Nat} (hi : i ≤ k) : (stK g (g.T r.toNat) R i).Small n := by
  have h16 := h.k16
  refine ⟨h.at hi, ?_, ?_, ?_⟩
  · have := h.now hi; show -1000 ≤ nowK _ _ _ _ ∧ _; constructor
    · omega
    · show nowK _ _ _ _ ≤ _; omega
  · have := h.load hi; constructor
    · show -1000 ≤ loadK _ _ _; omega
    · show loadK _ _ _ ≤ _; omega
  · have := h.drv hi; constructor
    · show -1000 ≤ drvK _ _ _ _; omega
    · show drvK _ _ _ _ ≤ _; omega
theorem ROk.loadh {g : Ng} {n : Nat} {r : Int} {R : Nat → Int} {k : Nat} (h : ROk g n r R k) (hs : ∀ i, i < k → stepK g (g.T r.toNat) R i = 0) : -200000 ≤ (stK g (g.T r.toNat) R k).load * g.h ∧ (stK g (g.T r.toNat) R k).load * g.h ≤ 200000 := by
  have h0 := h.ng.h0
  have h1 := h.ng.h1
  have ht := h.tk
  have hl : 0 ≤ loadK g R k ∧ loadK g R k ≤ 32 := by
    cases k with
    | zero => simp [loadK]
    | succ k => have := step_ok (hs k (by omega)); omega
  show -200000 ≤ loadK g R k * g.h ∧ loadK g R k * g.h ≤ 200000
  have m1 := Int.mul_nonneg hl.1 h0
  have m2 := Int.mul_le_mul hl.2 h1 h0 (by decide)
  omega
def WalkP (g : Ng) (r : Int) (R : Nat → Int) (k : Nat) (w : World) (e : Ending) (w' : World) : Prop :=
  Below w.heap.size w w' ∧ ((walkE g r R k ≠ 0 ∧ e = .returned (.tuple #[.pointer none, .slice none 0 0, .int .i64 (walkE g r R k)])) ∨
    (walkE g r R k = 0 ∧ ∃ (b : Nat) (v : Value), e = .returned (.tuple #[.pointer (some ⟨b, 0, none⟩), v, .int .i64 0]) ∧ w'.heap[b]? = some (.cells (tourC g (g.T r.toNat) (homeS g (g.T r.toNat) (stK g (g.T r.toNat) R k))) 105 (0, 0)) ∧ ViRow w' w.heap.size v k (visK g (g.T r.toNat) R)))
theorem vi_none (w : World) (base : Nat) (V : Nat → Vi) : ViRow w base (.slice none 0 0) 0 V := ⟨rfl, .inl ⟨rfl, rfl⟩⟩
set_option maxHeartbeats 16000000 in
theorem walk47 (g : Ng) (r : Int) (R : Nat → Int) (k : Nat) (ra : Option Addr) (rc : Nat) (w : World) (hg : g.In w) (hR : Sl w 1 ra k rc (nf R)) (hk : k ≤ 1000) :
    Calls Tryz.prog 47 #[.agg g.cells, .agg #[.int .i64 r, .slice ra k rc]] w (WalkP g r R k w) := by
  have BB : Hid (Below w.heap.size w ((w.alloc (.cells g.cells 32)).alloc (.cells #[.int .i64 r, .slice ra k rc] 51))) := Lib.hid (by (repeat' (first | (with_reducible exact Below.refl _ _) | (with_reducible assumption) | (with_reducible refine Below.drew ?_) | (with_reducible refine below_drewN ?_ _) | (with_reducible refine Below.alloc ?_ ?_ _) | (with_reducible refine Below.setCell ?_ ?_ _) | go_size)))
  have XG : Hid (((w.alloc (.cells g.cells 32)).alloc (.cells #[.int .i64 r, .slice ra k rc] 51)).heap[w.heap.size]? = some (.cells g.cells 32 (0, 0))) := Lib.hid (by
    have h0 := heap_alloc_new w (.cells g.cells 32)
    have bb : Below (w.alloc (.cells g.cells 32)).heap.size (w.alloc (.cells g.cells 32)) ((w.alloc (.cells g.cells 32)).alloc (.cells #[.int .i64 r, .slice ra k rc] 51)) := by (repeat' (first | (with_reducible exact Below.refl _ _) | (with_reducible assumption) | (with_reducible refine Below.drew ?_) | (with_reducible refine below_drewN ?_ _) | (with_reducible refine Below.alloc ?_ ?_ _) | (with_reducible refine Below.setCell ?_ ?_ _) | go_size))
    exact (bb.block _ (block_lt h0)).trans h0)
  have XR : Hid (((w.alloc (.cells g.cells 32)).alloc (.cells #[.int .i64 r, .slice ra k rc] 51)).heap[w.heap.size + 1]? = some (.cells #[.int .i64 r, .slice ra k rc] 51 (0, 0))) := Lib.hid (by
    have h0 := heap_alloc_new (w.alloc (.cells g.cells 32)) (.cells #[.int .i64 r, .slice ra k rc] 51)
    rwa [show (w.alloc (.cells g.cells 32)).heap.size = w.heap.size + 1 by simp] at h0)
  obtain ⟨w1, hw1⟩ : ∃ w1, w1 = (w.alloc (.cells g.cells 32)).alloc (.cells #[.int .i64 r, .slice ra k rc] 51) := ⟨_, rfl⟩
  rw [← hw1] at BB XG XR
  have HW1 := Lib.hid hw1
  have HG := Lib.hid hg
  have HR := Lib.hid (hR.below BB.out)
  have HG1 := Lib.hid (hg.below BB.out)
  have CK := Lib.hid (check41 g w1 (hg.below BB.out))
  have IN := Lib.hid (fun n lo hi w' => in75 n lo hi w')
  have hrm := hR.hm
  have hrc := hR.hc
  have htm := hg.trucks.hm
  have htc := hg.trucks.hc
  have hnm := hg.needs.hm
  have hnc := hg.needs.hc
  have HNA : Hid (∀ a, g.na = some a → a.block < w.heap.size ∨ g.nn = 0) := Lib.hid (fun a ha => by
    rcases Nat.eq_zero_or_pos g.nn with h | h
    · exact .inr h
    · obtain ⟨q, o, e, hq, _⟩ := hg.needs.nd h
      rw [e] at ha; cases ha
      exact .inl hq)
  obtain ⟨x, hx⟩ : ∃ x, x = nightE g := ⟨_, rfl⟩
  rw [← hx] at CK
  have HX := Lib.hid hx
  have HCC : Hid (g.cells = #[.int .i64 g.N, .slice g.ea g.em g.ec, .slice g.ta g.tn g.tc, .slice g.na g.nn g.nc, .int .i64 g.h]) := Lib.hid rfl
  rw [HCC.out] at XG HW1 CK ⊢
  clear hw1 hg hR hx
  go_enter Tryz.func47, Tryz.ntmps47
  go_wp2_with fail
  rw [← HW1.out]
  have g0 := cell_at XG.out 0
  have g1 := cell_at XG.out 1
  have g2 := cell_at XG.out 2
  have g3 := cell_at XG.out 3
  have g4 := cell_at XG.out 4
  have r0 := cell_at XR.out 0
  have r1 := cell_at XR.out 1
  have zg := szs (block_lt XG.out)
  have zr := szs (block_lt XR.out)
  go_wp2_with fail
  refine CK.out.mono ?_
  rintro e w2 ⟨rfl, b2⟩
  have B2 := Lib.hid b2
  clear b2 CK
  clear g0 g1 g2 g3 g4 r0 r1 zg zr
  by_cases h0 : x = 0
  · subst h0
    obtain ⟨n, hok, hroad⟩ := nok_of HX.out.symm
    have HOK := Lib.hid hok
    have HRO := Lib.hid hroad
    have ht8 := hok.tn
    have hn16 := hok.nn
    clear hok hroad
    have g0 := cell_kept B2.out (cell_at XG.out 0)
    have g1 := cell_kept B2.out (cell_at XG.out 1)
    have g2 := cell_kept B2.out (cell_at XG.out 2)
    have g3 := cell_kept B2.out (cell_at XG.out 3)
    have g4 := cell_kept B2.out (cell_at XG.out 4)
    have r0 := cell_kept B2.out (cell_at XR.out 0)
    have r1 := cell_kept B2.out (cell_at XR.out 1)
    try dsimp only at g0 g1 g2 g3 g4 r0 r1
    have zg := szs (cell_lt g0)
    have zr := szs (cell_lt r0)
    dsimp only at zg zr
    go_wp2_with fail
    refine (IN.out r 0 ((g.tn : Int) - 1) _).mono ?_
    rintro e w9 ⟨rfl, rfl⟩
    by_cases hr1 : 0 ≤ r ∧ r < g.tn
    · rw [inB_iff.2 (⟨hr1.1, by omega⟩ : 0 ≤ r ∧ r ≤ (g.tn : Int) - 1)]
      have AO := Lib.hid (anyOut82 ra k rc R w.heap.size g.nn g.na g.nc w2 g3 (by omega) (HR.out.below B2.out) hk)
      obtain ⟨y, hy⟩ : ∃ y, y = anyN (fun i => outB g.nn (R i)) k := ⟨_, rfl⟩
      rw [← hy] at AO
      have HY := Lib.hid hy
      clear hy
      go_wp2_with fail
      refine AO.out.mono ?_
      rintro e w3 ⟨rfl, b3⟩
      have B3 := Lib.hid (B2.out.trans (b3.mono B2.out.size))
      clear b3 AO
      clear g0 g1 g2 g3 g4 r0 r1 zg zr
      cases y with
      | true =>
        have HW : Hid (walkE g r R k = 7) := Lib.hid (by
          have : namesE g r R k = 7 := by unfold namesE; rw [if_neg (by omega), if_pos HY.out.symm]
          unfold walkE; rw [if_neg (by rw [← HX.out]; simp), if_pos (by rw [this]; simp), this])
        go_wp2_with fail
        go_returns
        exact ⟨BB.out.trans (B3.out.mono BB.out.size), .inl ⟨by rw [HW.out]; simp, by rw [HW.out]; rfl⟩⟩
      | false =>
        have g0 := cell_kept B3.out (cell_at XG.out 0)
        have g1 := cell_kept B3.out (cell_at XG.out 1)
        have g2 := cell_kept B3.out (cell_at XG.out 2)
        have g3 := cell_kept B3.out (cell_at XG.out 3)
        have g4 := cell_kept B3.out (cell_at XG.out 4)
        have r0 := cell_kept B3.out (cell_at XR.out 0)
        have r1 := cell_kept B3.out (cell_at XR.out 1)
        try dsimp only at g0 g1 g2 g3 g4 r0 r1
        have zg := szs (cell_lt g0)
        have zr := szs (cell_lt r0)
        dsimp only at zg zr
        have TW := Lib.hid (twice84 ra k rc R w3 (HR.out.below B3.out) hk)
        obtain ⟨z, hz⟩ : ∃ z, z = twiB R k := ⟨_, rfl⟩
        rw [← hz] at TW
        have HZ := Lib.hid hz
        clear hz
        go_wp2_with fail
        refine TW.out.mono ?_
        rintro e w4 ⟨rfl, b4⟩
        have B4 := Lib.hid (B3.out.trans (b4.mono B3.out.size))
        clear b4 TW B2 B3
        clear g0 g1 g2 g3 g4 r0 r1 zg zr
        cases z with
        | true =>
          have HW : Hid (walkE g r R k = 6) := Lib.hid (by
            have : namesE g r R k = 6 := by unfold namesE; rw [if_neg (by omega), if_neg (by rw [← HY.out]; simp), if_pos HZ.out.symm]
            unfold walkE; rw [if_neg (by rw [← HX.out]; simp), if_pos (by rw [this]; simp), this])
          go_wp2_with fail
          go_returns
          exact ⟨BB.out.trans (B4.out.mono BB.out.size), .inl ⟨by rw [HW.out]; simp, by rw [HW.out]; rfl⟩⟩
        | false =>
          have HNE : Hid (namesE g r R k = 0) := Lib.hid (by unfold namesE; rw [if_neg (by omega), if_neg (by rw [← HY.out]; simp), if_neg (by rw [← HZ.out]; simp)])
          have HWK : Hid (walkE g r R k = if scan (stepK g (g.T r.toNat) R) k ≠ 0 then scan (stepK g (g.T r.toNat) R) k else homeK g (g.T r.toNat) R k) := Lib.hid (by
            unfold walkE; rw [if_neg (by rw [← HX.out]; simp), if_neg (by rw [HNE.out]; simp)])
          obtain ⟨q, rfl⟩ := Int.eq_ofNat_of_zero_le hr1.1
          have hq : q < g.tn := by omega
          have tq : (q : Int) < (g.tn : Int) := by omega
          have HRK : Hid (ROk g n (q : Int) R k) := Lib.hid (by
            obtain ⟨a, b, c, d⟩ := names_ok HNE.out
            exact ⟨HOK.out, a, b, c, d, Nat.le_trans (inj_le c d) HOK.out.nn⟩)
          clear HNE HY HZ hr1
          obtain ⟨tb, to, htb, hg4, t0, t1, t2, t3⟩ := ((HG1.out.trucks).below B4.out).tk hq
          have zt := szs hg4
          obtain ⟨tk, htk⟩ : ∃ tk, tk = g.T q := ⟨_, rfl⟩
          rw [← htk] at t0 t1 t2 t3
          have HTK : Hid (g.T ((q : Int)).toNat = tk) := Lib.hid (by rw [htk]; rfl)
          clear htk
          rw [htb] at XG HW1 HCC
          have g0 := cell_kept B4.out (cell_at XG.out 0)
          have g1 := cell_kept B4.out (cell_at XG.out 1)
          have g2 := cell_kept B4.out (cell_at XG.out 2)
          have g3 := cell_kept B4.out (cell_at XG.out 3)
          have g4 := cell_kept B4.out (cell_at XG.out 4)
          have r0 := cell_kept B4.out (cell_at XR.out 0)
          have r1 := cell_kept B4.out (cell_at XR.out 1)
          try dsimp only at g0 g1 g2 g3 g4 r0 r1
          have zg := szs (cell_lt g0)
          have zr := szs (cell_lt r0)
          dsimp only at zg zr
          go_wp2_with fail
          (refine region_order (fun i : Nat => World.drewN _ i) [] [0, 1, 2, 3, 4, 5, 6, 7] 8 [9] mixed (by kernel_rfl) ⟨1, rfl⟩ ?_; simp only [List.map_cons, List.map_nil, Array.getD_eq_getD_getElem?, List.getElem?_toArray, List.getElem?_cons_zero, List.getElem?_cons_succ, Option.getD_some]; (repeat (refine wpPure_cons _ rfl (fun w' => by go_simp; try rfl) ?_; dsimp only [Act.put])); refine wpPure_nil ?_; (repeat (any_goals (first | go_big_quiet_step (fail) | quiet_step (fail) | (refine wpQuiet_step (fun K hK => ?_); go_simp; split <;> (refine hK _ ?_; clear hK K))))); (all_goals (refine wpQuiet_nil (fun nq => ?_))))
          have b5 : Below w4.heap.size w4 (w4.drewN nq) := below_drewN (Below.refl _ _) nq
          have B5 := Lib.hid (B4.out.trans (b5.mono B4.out.size))
          clear g0 g1 g2 g3 g4 r0 r1 zg zr
          clear t0 t1 t2 t3 zt b5 B4
          generalize w4.drewN nq = w5 at *
          go_wp2_with fail
          refine onlyN_intro ?_
          go_wp2_with fail
          have T6 := al_at w5 (.cells (tourC g tk ⟨0, 0, 0, 0⟩) 105) rfl
          have B6 := Lib.hid (B5.out.trans ((Below.refl _ w5).alloc (Nat.le_refl _) (.cells (tourC g tk ⟨0, 0, 0, 0⟩) 105) |>.mono B5.out.size))
          have HTC : Hid (∀ s : St4, tourC g tk s = #[.int .i64 tk.dep, .int .i64 tk.cap, .int .i64 tk.frm, .int .i64 tk.til, .int .i64 g.N, .slice g.ea g.em g.ec, .slice (some ⟨tb, to, none⟩) g.tn g.tc, .slice g.na g.nn g.nc, .int .i64 g.h, .int .i64 s.at', .int .i64 s.now, .int .i64 s.load, .int .i64 s.drv]) := Lib.hid (fun s => by unfold tourC; rw [htb])
          rw [HTC.out] at T6 B6
          dsimp only at T6 B6
          generalize hw6 : World.alloc w5 _ = w6 at *
          have HWB : Hid (w1.heap.size ≤ w5.heap.size) := Lib.hid B5.out.size
          generalize w5.heap.size = b at *
          have d0 := cell_at T6 0
          have d1 := cell_at T6 1
          have d2 := cell_at T6 2
          have d3 := cell_at T6 3
          have d4 := cell_at T6 4
          have d5 := cell_at T6 5
          have d6 := cell_at T6 6
          have d7 := cell_at T6 7
          have d8 := cell_at T6 8
          have d9 := cell_at T6 9
          have da := cell_at T6 10
          have db := cell_at T6 11
          have dc := cell_at T6 12
          have dfr := fun j => free_at T6 j
          have zt := szs (block_lt T6)
          go_region
          have hw7 : ((w6.setCell ⟨b, 9, none⟩ (.int .i64 tk.dep)).setCell ⟨b, 10, none⟩ (.int .i64 tk.frm)).heap[b]? = some (.cells (tourC g tk (stK g tk R 0)) 105 (0, 0)) := by
            have hl := block_lt T6
            rw [setCell_at T6, setAt_setCell hl, setAt_same hl, HTC.out]
            rfl
          have B7 : Hid (Below w1.heap.size w1 (((w6.setCell ⟨b, 9, none⟩ (.int .i64 tk.dep)).setCell ⟨b, 10, none⟩ (.int .i64 tk.frm)).drew)) := Lib.hid (by
            have o7 : Off (fun q => q = b) w6 ((w6.setCell ⟨b, 9, none⟩ (.int .i64 tk.dep)).setCell ⟨b, 10, none⟩ (.int .i64 tk.frm)) := ((Off.refl (fun q => q = b) w6).setCell (p := ⟨b, 9, none⟩) (fun _ => rfl) _).setCell (p := ⟨b, 10, none⟩) (fun _ => rfl) _
            have h2 := B6.out.trans (o7.toBelow B6.out.size (fun q hq h => by have := HWB.out; omega))
            exact h2.trans ((Below.refl _ _).drew |>.mono h2.size))
          have T7 : Hid ((((w6.setCell ⟨b, 9, none⟩ (.int .i64 tk.dep)).setCell ⟨b, 10, none⟩ (.int .i64 tk.frm)).drew).heap[b]? = some (.cells (tourC g tk (stK g tk R 0)) 105 (0, 0))) := Lib.hid hw7
          clear d0 d1 d2 d3 d4 d5 d6 d7 d8 d9 da db dc dfr zt hw6 hw7 T6 B6 B5
          generalize ((w6.setCell ⟨b, 9, none⟩ (.int .i64 tk.dep)).setCell ⟨b, 10, none⟩ (.int .i64 tk.frm)).drew = w7 at *
          have X7 := (B7.out.block _ (block_lt XR.out)).trans XR.out
          have x1 := cell_at X7 1
          have zx := szs (block_lt X7)
          clear X7 HCC
          rw [HTK.out] at HWK
          go_wp2_with fail
          go_loopw [9, 66] (fun s9 s66 wr => ∃ (i : Nat) (v : Value), s66 = .int .i64 i ∧ i ≤ k ∧ s9 = v ∧ Hid (scan (stepK g tk R) i = 0) ∧ Hid (wr.heap[b]? = some (.cells (tourC g tk (stK g tk R i)) 105 (0, 0))) ∧ Hid (ViRow wr (b + 1) v i (visK g tk R)) ∧ Hid (Below w1.heap.size w1 wr)) (fun _ s66 _ => k - (intOf s66).toNat)
          case atStart => exact ⟨0, _, rfl, by omega, rfl, Lib.hid rfl, T7, Lib.hid (vi_none _ _ _), B7⟩
          case round =>
            obtain ⟨i, v, rfl, hi, rfl, hsc, hto, hvr, hbw⟩ := hrel
            have SC := hsc
            have TO := hto
            have VR := hvr
            have BW := hbw
            clear hsc hto hvr hbw T7 B7 x1 zx
            by_cases hlt : i < k
            · have ti : (i : Int) < (k : Int) := by omega
              obtain ⟨ra1, ra2, rfl, hg5, e0⟩ := (HR.out.below BW.out).num hlt
              have z5 := szs hg5
              have hRi := HRK.out.needs i hlt
              have HRi := Lib.hid hRi
              have VS := visit85 g n tk (stK g tk R i) (R i) b wr HOK.out HRO.out (HG1.out.below BW.out) (by have := HRK.out.small (i := i) (by omega); rw [HTK.out] at this; exact this) (by have := HRK.out.tk; rw [HTK.out] at this; exact this.2.1) hRi TO.out (fun a ha => by
                have h1 := HWB.out
                have h2 := BB.out.size
                rcases HNA.out a ha with h | h
                · omega
                · exfalso; have := HRi.out; omega)
              unfold Visit at VS
              rw [stK_err, stK_next, stK_vis] at VS
              have HHIT := Lib.hid (fun (hx : stepK g tk R i ≠ 0) => scan_hit (f := stepK g tk R) SC.out hx hlt)
              have HNXT := Lib.hid (fun (hx : stepK g tk R i = 0) => scan_next (f := stepK g tk R) SC.out hx)
              generalize hy : stepK g tk R i = y at *
              generalize hv : visK g tk R i = vi at *
              have HVI := Lib.hid hv
              generalize hRR : R i = ri at *
              obtain ⟨v1, v2, v3, v4⟩ := vi
              unfold viC at VS
              dsimp only at VS
              replace VS := Lib.hid VS
              clear hy hv hRi hRR
              go_wp2_with fail
              refine VS.out.mono ?_
              rintro e w8 ⟨o8, ⟨hy0, rfl⟩ | ⟨rfl, rfl, hT8⟩⟩
              · have ty : (y != 0) = true := by simpa using hy0
                have HW : Hid (walkE g (q : Int) R k = y) := Lib.hid (by rw [HWK.out, if_pos (by rw [HHIT.out hy0]; exact hy0), HHIT.out hy0])
                have HY0 := Lib.hid hy0
                have B8 := Lib.hid (BW.out.trans (o8.toBelow BW.out.size (fun q hq h => by have := HWB.out; omega)))
                clear VS hy0 o8 HHIT HNXT
                have BA : Hid (Below w1.heap.size w1 (w8.alloc (.cells #[.int .i64 0, .int .i64 0, .int .i64 0, .int .i64 0] 56))) := Lib.hid (B8.out.alloc B8.out.size _)
                go_wp2_with fail
                go_returns
                exact ⟨BB.out.trans (BA.out.mono BB.out.size), .inl ⟨by rw [HW.out]; exact HY0.out, by rw [HW.out]; rfl⟩⟩
              · have B8 := Lib.hid (BW.out.trans (o8.toBelow BW.out.size (fun q hq h => by have := HWB.out; omega)))
                have VR8 := Lib.hid (Row.off VR.out o8 (fun gg hgg h => by have := (World.ownsRow.lt VR.out gg hgg).1; have h : gg = b := h; omega))
                have TO8 := Lib.hid hT8
                have hbs := block_lt hT8
                have hb1 := al_at (w8.alloc (.cells #[.int .i64 v1, .int .i64 v2, .int .i64 v3, .int .i64 v4] 56)) (.cells #[.int .i64 v1, .int .i64 v2, .int .i64 v3, .int .i64 v4] 56) (k := w8.heap.size + 1) (by simp)
                have HB1 := Lib.hid hb1
                have BA : Hid (Below w8.heap.size w8 ((w8.alloc (.cells #[.int .i64 v1, .int .i64 v2, .int .i64 v3, .int .i64 v4] 56)).alloc (.cells #[.int .i64 v1, .int .i64 v2, .int .i64 v3, .int .i64 v4] 56))) := Lib.hid (by (repeat' (first | (with_reducible exact Below.refl _ _) | (with_reducible assumption) | (with_reducible refine Below.drew ?_) | (with_reducible refine below_drewN ?_ _) | (with_reducible refine Below.alloc ?_ ?_ _) | (with_reducible refine Below.setCell ?_ ?_ _) | go_size)))
                have hle : b + 1 ≤ ((w8.alloc (.cells #[.int .i64 v1, .int .i64 v2, .int .i64 v3, .int .i64 v4] 56)).alloc (.cells #[.int .i64 v1, .int .i64 v2, .int .i64 v3, .int .i64 v4] 56)).heap.size := Nat.le_trans hbs BA.out.size
                clear hT8 o8 hb1 VS HHIT VR TO BW
                go_wp2_with (at_builtin; go_loud (refine wpList_append_Vi _ rfl (.tmp 79) (.tmp 81) rfl (b + 1) _ i (visK g tk R) rfl (Row.off (X := fun _ => False) VR8.out (Off.of_below BA.out) (fun _ _ h => h)) (w8.heap.size + 1) ⟨v1, v2, v3, v4⟩ rfl 56 (0, 0) HB1.out (by omega) hle ?_))
                intro v' w9 r9 o9
                have B9 : Hid (Below w1.heap.size w1 w9) := Lib.hid ((B8.out.trans (BA.out.mono B8.out.size)).trans (o9.toBelow (Nat.le_trans B8.out.size BA.out.size) (fun q hq h => by have := HWB.out; have h : b + 1 ≤ q := h; omega)))
                have TO9 : Hid (w9.heap[b]? = some (.cells (tourC g tk (stK g tk R (i + 1))) 105 (0, 0))) := Lib.hid ((o9.block _ (block_lt ((BA.out.block _ hbs).trans TO8.out)) (fun h => by have h : b + 1 ≤ b := h; omega)).trans ((BA.out.block _ hbs).trans TO8.out))
                have VR9 : Hid (ViRow w9 (b + 1) v' (i + 1) (visK g tk R)) := Lib.hid (by
                  rw [show visK g tk R = upd (visK g tk R) i ⟨v1, v2, v3, v4⟩ from by
                    funext j
                    by_cases e : j = i
                    · subst e; rw [upd_same, HVI.out]
                    · rw [upd_ne e]]
                  exact r9)
                have HSN := Lib.hid (HNXT.out trivial)
                clear r9 o9 HNXT hle hbs
                go_wp2_with fail
                go_roundw
                case rel => exact ⟨i + 1, v', by go_num, by omega, rfl, HSN, TO9, VR9, B9⟩
                case measure => simp [intOf]; omega
            · obtain rfl : i = k := by omega
              have HM := home86 g n tk (stK g tk R i) b wr HOK.out HRO.out (HG1.out.below BW.out) (by have := HRK.out.small (i := i) (by omega); rw [HTK.out] at this; exact this) (by have := HRK.out.tk; rw [HTK.out] at this; exact this.1)
                (by have := HRK.out.loadh (by rw [HTK.out]; exact fun j hj => scan_zero SC.out j hj); rw [HTK.out] at this; exact this) TO.out
              rw [stK_home] at HM
              rw [if_neg (by rw [SC.out]; simp)] at HWK
              have HFT : Hid (tourC g (g.T ((q : Int)).toNat) (homeS g (g.T ((q : Int)).toNat) (stK g (g.T ((q : Int)).toNat) R i)) = tourC g tk (homeS g tk (stK g tk R i))) := Lib.hid (by rw [HTK.out])
              have HFV : Hid (visK g (g.T ((q : Int)).toNat) R = visK g tk R) := Lib.hid (by rw [HTK.out])
              generalize hy : homeK g tk R i = y at *
              replace HM := Lib.hid HM
              clear hy
              go_wp2_with fail
              refine HM.out.mono ?_
              rintro e w8 ⟨rfl, o8, hT8⟩
              have B8 := Lib.hid (BW.out.trans (o8.toBelow BW.out.size (fun q hq h => by have := HWB.out; omega)))
              have VR8 := Lib.hid (Row.off VR.out o8 (fun gg hgg h => by have := (World.ownsRow.lt VR.out gg hgg).1; have h : gg = b := h; omega))
              have TO8 := Lib.hid hT8
              clear HM o8 hT8 TO VR BW
              by_cases hy0 : y = 0
              · subst hy0
                go_wp2_with fail
                go_returns
                refine ⟨BB.out.trans (B8.out.mono BB.out.size), .inr ⟨HWK.out, b, _, rfl, ?_, ?_⟩⟩
                · rw [HFT.out]; exact TO8.out trivial
                · rw [HFV.out]; exact Row.base_mono VR8.out (by have := HWB.out; have := BB.out.size; omega)
              · have ty : (y != 0) = true := by simpa using hy0
                have HY0 := Lib.hid hy0
                clear hy0 TO8
                go_wp2_with fail
                go_returns
                exact ⟨BB.out.trans (B8.out.mono BB.out.size), .inl ⟨by rw [HWK.out]; exact HY0.out, by rw [HWK.out]; rfl⟩⟩
    · have q1 : inB r 0 ((g.tn : Int) - 1) = false := by
        cases hh : inB r 0 ((g.tn : Int) - 1)
        · rfl
        · have := inB_iff.1 hh; exact absurd ⟨this.1, by omega⟩ hr1
      rw [q1]
      have HW : Hid (walkE g r R k = 7) := Lib.hid (by
        have : namesE g r R k = 7 := by unfold namesE; rw [if_pos (by omega)]
        unfold walkE; rw [if_neg (by rw [← HX.out]; simp), if_pos (by rw [this]; simp), this])
      go_wp2_with fail
      go_returns
      exact ⟨BB.out.trans (B2.out.mono BB.out.size), .inl ⟨by rw [HW.out]; simp, by rw [HW.out]; rfl⟩⟩
  · have tx : (x != 0) = true := by simpa using h0
    have HW : Hid (walkE g r R k = x) := Lib.hid (by unfold walkE; rw [if_pos (by rw [← HX.out]; exact h0)]; exact HX.out.symm)
    go_wp2_with fail
    go_returns
    exact ⟨BB.out.trans (B2.out.mono BB.out.size), .inl ⟨by rw [HW.out]; exact h0, by rw [HW.out]; rfl⟩⟩
end Go.Proofs.YtlnfhlmgnppcbaaGreat

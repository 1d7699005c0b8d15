/- General theorems of this seat, in one text. -/
import Derived.Test.YtlnfhlmgnppcbaaBB
import Derived.Laws.BitsAllLaws
import Derived.Laws.BitsLemmas
/- Events, their order, and the set of a list of events. Plain theorems, no program. -/
namespace Go.Proofs.Ytlnfhlmgnppcbaa
set_option linter.unusedVariables false
set_option linter.unusedSimpArgs false
/-! Lists of numbers in the order of the dictionary. -/
def cmpL : List Int → List Int → Int
  | a :: ar, b :: bs => if a < b then -1 else if b < a then 1 else cmpL ar bs
  | _, _ => 0
theorem cmpL_range : ∀ xs ys : List Int, -1 ≤ cmpL xs ys ∧ cmpL xs ys ≤ 1
  | [], _ => by simp [cmpL]
  | _ :: _, [] => by simp [cmpL]
  | a :: ar, b :: bs => by have := cmpL_range ar bs; unfold cmpL; split; omega; split <;> omega
theorem cmpL_neg : ∀ xs ys : List Int, cmpL ys xs = - cmpL xs ys
  | [], [] => rfl
  | [], _ :: _ => rfl
  | _ :: _, [] => rfl
  | a :: ar, b :: bs => by
    have := cmpL_neg ar bs
    unfold cmpL
    by_cases h1 : a < b
    · rw [if_neg (by omega), if_pos h1, if_pos h1]; rfl
    · by_cases h2 : b < a
      · rw [if_pos h2, if_neg h1, if_pos h2]
      · rw [if_neg h2, if_neg h1, if_neg h1, if_neg h2, this]
theorem cmpL_self (xs : List Int) : cmpL xs xs = 0 := by have := cmpL_neg xs xs; omega
theorem cmpL_zero : ∀ {xs ys : List Int}, xs.length = ys.length → cmpL xs ys = 0 → xs = ys
  | [], [], _, _ => rfl
  | a :: ar, b :: bs, hl, h => by
    unfold cmpL at h
    by_cases h1 : a < b
    · rw [if_pos h1] at h; omega
    · by_cases h2 : b < a
      · rw [if_neg h1, if_pos h2] at h; omega
      · rw [if_neg h1, if_neg h2] at h
        have : a = b := by omega
        rw [this, cmpL_zero (by simpa using hl) h]
theorem cmpL_trans : ∀ {xs ys zs : List Int}, xs.length = ys.length → ys.length = zs.length → cmpL xs ys < 0 → cmpL ys zs < 0 → cmpL xs zs < 0
  | [], [], _, _, _, h, _ => by simp [cmpL] at h
  | a :: ar, b :: bs, [], _, h2, _, _ => by simp at h2
  | a :: ar, b :: bs, c :: cs, l1, l2, h1, h2 => by
    have ih := @cmpL_trans ar bs cs (by simpa using l1) (by simpa using l2)
    unfold cmpL at h1 h2 ⊢
    by_cases x1 : a < b
    · by_cases y1 : b < c
      · rw [if_pos (by omega)]; omega
      · by_cases y2 : c < b
        · rw [if_neg y1, if_pos y2] at h2; omega
        · rw [if_pos (by omega)]; omega
    · by_cases x2 : b < a
      · rw [if_neg x1, if_pos x2] at h1; omega
      · rw [if_neg x1, if_neg x2] at h1
        by_cases y1 : b < c
        · rw [if_pos (by omega)]; omega
        · by_cases y2 : c < b
          · rw [if_neg y1, if_pos y2] at h2; omega
          · rw [if_neg y1, if_neg y2] at h2
            rw [if_neg (by omega), if_neg (by omega)]
            exact ih h1 h2
/-- An event. -/
structure Ev where
  dev : Int
  seq : Int
  at' : Int
  late : Int
  kind : Int
  bike : Int
  place : Int
  rider : Int
  ride : Int
deriving DecidableEq
instance : Inhabited Ev := ⟨⟨0, 0, 0, 0, 0, 0, 0, 0, 0⟩⟩
def keyE (e : Ev) : List Int := [e.at', e.dev, e.seq, e.late, e.kind, e.bike, e.place, e.rider, e.ride]
def keyD (e : Ev) : List Int := e.dev :: e.seq :: keyE e
theorem keyE_inj {a b : Ev} (h : keyE a = keyE b) : a = b := by
  obtain ⟨a1, a2, a3, a4, a5, a6, a7, a8, a9⟩ := a
  obtain ⟨b1, b2, b3, b4, b5, b6, b7, b8, b9⟩ := b
  simp [keyE] at h
  simp [h]
def cmpE (a b : Ev) : Int := cmpL (keyE a) (keyE b)
def cmpD (a b : Ev) : Int := cmpL (keyD a) (keyD b)
def ltE (a b : Ev) : Bool := decide (cmpE a b < 0)
def sameN (a b : Ev) : Bool := decide (a.dev = b.dev) && decide (a.seq = b.seq)
theorem sameN_iff {a b : Ev} : sameN a b = true ↔ a.dev = b.dev ∧ a.seq = b.seq := by simp [sameN]
theorem ltE_irr (a : Ev) : ltE a a = false := by simp [ltE, cmpE, cmpL_self]
theorem ltE_trans {a b c : Ev} (h1 : ltE a b = true) (h2 : ltE b c = true) : ltE a c = true := by
  exact decide_eq_true (cmpL_trans (by rfl) (by rfl) (of_decide_eq_true h1) (of_decide_eq_true h2))
theorem ltE_total {a b : Ev} (h1 : ltE a b = false) (h2 : ltE b a = false) : a = b := by
  have h1 : ¬ cmpL (keyE a) (keyE b) < 0 := of_decide_eq_false h1
  have h2 : ¬ cmpL (keyE b) (keyE a) < 0 := of_decide_eq_false h2
  have := cmpL_neg (keyE a) (keyE b)
  exact keyE_inj (cmpL_zero (by rfl) (by omega))
theorem ltE_asym {a b : Ev} (h : ltE a b = true) : ltE b a = false := by
  cases hb : ltE b a
  · rfl
  · have := ltE_trans h hb; rw [ltE_irr] at this; cases this
theorem cmpD_trans {a b c : Ev} (h1 : cmpD a b < 0) (h2 : cmpD b c < 0) : cmpD a c < 0 := cmpL_trans (by rfl) (by rfl) h1 h2
theorem cmpD_zero {a b : Ev} (h : cmpD a b = 0) : a = b := by
  have := cmpL_zero (by rfl) h
  simp [keyD] at this
  exact keyE_inj this.2.2
/-- The sorted list without repeats of these. -/
def SortedE (l : List Ev) : Prop := l.Pairwise (fun a b => ltE a b = true)
theorem sorted_unique : ∀ {l m : List Ev}, SortedE l → SortedE m → (∀ x, x ∈ l ↔ x ∈ m) → l = m
  | [], [], _, _, _ => rfl
  | [], b :: m, _, _, h => by have := (h b).2 (by simp); cases this
  | a :: l, [], _, _, h => by have := (h a).1 (by simp); cases this
  | a :: l, b :: m, hl, hm, h => by
    obtain ⟨l1, l2⟩ := List.pairwise_cons.1 hl
    obtain ⟨m1, m2⟩ := List.pairwise_cons.1 hm
    have hab : a = b := by
      rcases List.mem_cons.1 ((h a).1 (by simp)) with e | e
      · exact e
      · rcases List.mem_cons.1 ((h b).2 (by simp)) with e2 | e2
        · exact e2.symm
        · have := ltE_asym (m1 a e)
          rw [l1 b e2] at this; cases this
    subst hab
    rw [sorted_unique (l := l) (m := m) l2 m2 (fun x => ?_)]
    constructor
    · intro hx
      rcases List.mem_cons.1 ((h x).1 (by simp [hx])) with e | e
      · subst e; have := l1 x hx; rw [ltE_irr] at this; cases this
      · exact e
    · intro hx
      rcases List.mem_cons.1 ((h x).2 (by simp [hx])) with e | e
      · subst e; have := m1 x hx; rw [ltE_irr] at this; cases this
      · exact e
/-- Is the event the least of its number in the list? -/
def Least (l : List Ev) (x : Ev) : Prop := x ∈ l ∧ ∀ y ∈ l, y.dev = x.dev → y.seq = x.seq → ltE y x = false
/-- This is the set of the events. -/
def IsSet (l r : List Ev) : Prop := SortedE r ∧ ∀ x, x ∈ r ↔ Least l x
theorem IsSet.unique {l r s : List Ev} (h1 : IsSet l r) (h2 : IsSet l s) : r = s := sorted_unique h1.1 h2.1 (fun x => (h1.2 x).trans (h2.2 x).symm)
theorem IsSet.congr {l m r : List Ev} (h : IsSet l r) (hm : ∀ x, x ∈ l ↔ x ∈ m) : IsSet m r := by
  refine ⟨h.1, fun x => (h.2 x).trans ?_⟩
  unfold Least
  rw [hm]
  exact ⟨fun ⟨a, b⟩ => ⟨a, fun y hy => b y ((hm y).2 hy)⟩, fun ⟨a, b⟩ => ⟨a, fun y hy => b y ((hm y).1 hy)⟩⟩
/-- Every number of the list has its least event. -/
theorem least_exists : ∀ {l : List Ev} {x : Ev}, x ∈ l → ∃ y, Least l y ∧ y.dev = x.dev ∧ y.seq = x.seq ∧ (ltE y x = true ∨ y = x)
  | a :: l, x, h => by
    by_cases hs : ∃ z ∈ l, z.dev = x.dev ∧ z.seq = x.seq
    · obtain ⟨z, hz, z1, z2⟩ := hs
      obtain ⟨y, ⟨y1, y2⟩, y3, y4, y5⟩ := least_exists hz
      by_cases hx : a.dev = x.dev ∧ a.seq = x.seq
      · cases hc : ltE a y
        · refine ⟨y, ⟨by simp [y1], fun v hv e1 e2 => ?_⟩, by omega, by omega, ?_⟩
          · rcases List.mem_cons.1 hv with e | e
            · subst e; exact hc
            · exact y2 v e e1 e2
          · rcases List.mem_cons.1 h with e | e
            · subst e
              cases hcy : ltE y x
              · exact .inr (ltE_total hcy hc)
              · exact .inl rfl
            · have := y2 x e (by omega) (by omega)
              cases hcy : ltE y x
              · exact .inr (ltE_total hcy this)
              · exact .inl rfl
        · refine ⟨a, ⟨by simp, fun v hv e1 e2 => ?_⟩, hx.1, hx.2, ?_⟩
          · rcases List.mem_cons.1 hv with e | e
            · subst e; exact ltE_irr _
            · have := y2 v e (by omega) (by omega)
              cases hva : ltE v a
              · rfl
              · have := ltE_trans hva hc
                rw [y2 v e (by omega) (by omega)] at this; cases this
          · rcases List.mem_cons.1 h with e | e
            · exact .inr e.symm
            · have hyx := y2 x e (by omega) (by omega)
              left
              cases hcy : ltE y x
              · rw [← ltE_total hcy hyx]; exact hc
              · exact ltE_trans hc hcy
      · refine ⟨y, ⟨by simp [y1], fun v hv e1 e2 => ?_⟩, by omega, by omega, ?_⟩
        · rcases List.mem_cons.1 hv with e | e
          · subst e; exact absurd ⟨by omega, by omega⟩ hx
          · exact y2 v e e1 e2
        · rcases List.mem_cons.1 h with e | e
          · subst e; exact absurd ⟨rfl, rfl⟩ hx
          · have := y2 x e (by omega) (by omega)
            cases hcy : ltE y x
            · exact .inr (ltE_total hcy this)
            · exact .inl rfl
    · have hxa : x = a := by
        rcases List.mem_cons.1 h with e | e
        · exact e
        · exact absurd ⟨x, e, rfl, rfl⟩ hs
      subst hxa
      refine ⟨x, ⟨by simp, fun v hv e1 e2 => ?_⟩, rfl, rfl, .inr rfl⟩
      rcases List.mem_cons.1 hv with e | e
      · subst e; exact ltE_irr _
      · exact absurd ⟨v, e, e1, e2⟩ hs
end Go.Proofs.Ytlnfhlmgnppcbaa

/- The set of a list of events, as the program makes it and as the reference does. Plain theorems, no program. -/
namespace Go.Proofs.Ytlnfhlmgnppcbaa
set_option linter.unusedVariables false
set_option linter.unusedSimpArgs false
/-- The first of each run of one number. -/
def firstsE : List Ev → List Ev
  | [] => []
  | a :: l => match firstsE l with
    | [] => [a]
    | b :: r => if sameN a b = true then a :: r else a :: b :: r
theorem firstsE_head (a : Ev) (l : List Ev) : ∃ r, firstsE (a :: l) = a :: r := by
  unfold firstsE
  split
  · exact ⟨_, rfl⟩
  · split <;> exact ⟨_, rfl⟩
/-- The list sorted by number first. -/
def SortedD (l : List Ev) : Prop := l.Pairwise (fun a b => ¬ cmpD b a < 0)
theorem cmpD_ltE {a b : Ev} (h : a.dev = b.dev) (h2 : a.seq = b.seq) : cmpD a b = cmpE a b := by
  unfold cmpD keyD cmpL
  rw [if_neg (by omega), if_neg (by omega)]
  unfold cmpL
  rw [if_neg (by omega), if_neg (by omega)]
  rfl
/-- Between two of one number, in the order by number, all are of that number. -/
theorem between {a b c : Ev} (h1 : ¬ cmpD b a < 0) (h2 : ¬ cmpD c b < 0) (hd : a.dev = c.dev) (hs : a.seq = c.seq) : b.dev = a.dev ∧ b.seq = a.seq := by
  unfold cmpD keyD cmpL at h1 h2
  by_cases x1 : b.dev < a.dev
  · rw [if_pos x1] at h1; omega
  · rw [if_neg x1] at h1
    by_cases x2 : a.dev < b.dev
    · rw [if_pos (show c.dev < b.dev by omega)] at h2; omega
    · rw [if_neg x2] at h1
      rw [if_neg (by omega), if_neg (by omega)] at h2
      unfold cmpL at h1 h2
      by_cases y1 : b.seq < a.seq
      · rw [if_pos y1] at h1; omega
      · by_cases y2 : a.seq < b.seq
        · rw [if_pos (show c.seq < b.seq by omega)] at h2; omega
        · exact ⟨by omega, by omega⟩
/-- What the firsts of a list sorted by number are: the least of each number, each number once. -/
theorem firstsE_spec : ∀ {l : List Ev}, SortedD l → (∀ x, x ∈ firstsE l ↔ Least l x) ∧ (firstsE l).Pairwise (fun a b => sameN a b = false)
  | [], _ => ⟨fun x => by simp [firstsE, Least], List.Pairwise.nil⟩
  | a :: l, h => by
    obtain ⟨h1, h2⟩ := List.pairwise_cons.1 h
    obtain ⟨i1, i2⟩ := firstsE_spec h2
    have hle : ∀ y ∈ l, y.dev = a.dev → y.seq = a.seq → ltE y a = false := fun y hy e1 e2 => by
      have := h1 y hy
      rw [cmpD_ltE e1 e2] at this
      exact decide_eq_false this
    have hLa : Least (a :: l) a := ⟨by simp, fun y hy e1 e2 => by
      rcases List.mem_cons.1 hy with e | e
      · subst e; exact ltE_irr _
      · exact hle y e e1 e2⟩
    -- an event of another number is the least of the longer list just if it is of the shorter
    have other : ∀ x, sameN a x = false → (Least (a :: l) x ↔ Least l x) := fun x hx => by
      have hne : ¬ (a.dev = x.dev ∧ a.seq = x.seq) := fun hh => by rw [sameN_iff.2 hh] at hx; cases hx
      constructor
      · rintro ⟨m1, m2⟩
        refine ⟨?_, fun y hy => m2 y (by simp [hy])⟩
        rcases List.mem_cons.1 m1 with e | e
        · subst e; exact absurd ⟨rfl, rfl⟩ hne
        · exact e
      · rintro ⟨m1, m2⟩
        refine ⟨by simp [m1], fun y hy e1 e2 => ?_⟩
        rcases List.mem_cons.1 hy with e | e
        · subst e; exact absurd ⟨e1, e2⟩ hne
        · exact m2 y e e1 e2
    have same : ∀ x, sameN a x = true → Least (a :: l) x → x = a := fun x hx hL => by
      obtain ⟨e1, e2⟩ := sameN_iff.1 hx
      have p1 := hL.2 a (by simp) e1 e2
      have p2 := hLa.2 x hL.1 e1.symm e2.symm
      exact ltE_total p2 p1
    unfold firstsE
    cases hf : firstsE l with
    | nil =>
      have hl : l = [] := by
        cases l with
        | nil => rfl
        | cons b r => obtain ⟨q, hq⟩ := firstsE_head b r; rw [hq] at hf; cases hf
      subst hl
      refine ⟨fun x => ?_, by simp⟩
      simp
      constructor
      · rintro rfl; exact hLa
      · intro hL; simpa using hL.1
    | cons b r =>
      have hbl : l ≠ [] := by rintro rfl; simp [firstsE] at hf
      obtain ⟨c, l', rfl⟩ := List.exists_cons_of_ne_nil hbl
      have hbc : b = c := by
        obtain ⟨q, hq⟩ := firstsE_head c l'
        rw [hq] at hf; cases hf; rfl
      subst hbc
      rw [hf] at i1 i2
      obtain ⟨j1, j2⟩ := List.pairwise_cons.1 i2
      -- all later firsts are of another number than a
      have hr : ∀ x ∈ r, sameN a x = false := fun x hx => by
        cases hs : sameN a x
        · rfl
        · obtain ⟨e1, e2⟩ := sameN_iff.1 hs
          have hxl : x ∈ b :: l' := ((i1 x).1 (by simp [hx])).1
          have hxb : x ∈ l' := by
            rcases List.mem_cons.1 hxl with e | e
            · subst e; have := j1 x hx
              rw [sameN_iff.2 ⟨rfl, rfl⟩] at this; cases this
            · exact e
          have hb1 := h1 b (by simp)
          have hb2 := (List.pairwise_cons.1 h2).1 x hxb
          obtain ⟨f1, f2⟩ := between hb1 hb2 e1 e2
          have := j1 x hx
          rw [sameN_iff.2 ⟨by omega, by omega⟩] at this; cases this
      dsimp only
      by_cases hs : sameN a b = true
      · rw [if_pos hs]
        refine ⟨fun x => ?_, List.pairwise_cons.2 ⟨hr, j2⟩⟩
        simp only [List.mem_cons]
        constructor
        · rintro (rfl | hx)
          · exact hLa
          · exact (other x (hr x hx)).2 ((i1 x).1 (by simp [hx]))
        · intro hL
          cases hsx : sameN a x
          · have := (i1 x).2 ((other x hsx).1 hL)
            rcases List.mem_cons.1 this with e | e
            · subst e; rw [hs] at hsx; cases hsx
            · exact .inr e
          · exact .inl (same x hsx hL)
      · rw [if_neg hs]
        have hs : sameN a b = false := by cases h : sameN a b; rfl; exact absurd h hs
        refine ⟨fun x => ?_, List.pairwise_cons.2 ⟨fun x hx => ?_, i2⟩⟩
        · rw [List.mem_cons]
          constructor
          · rintro (rfl | hx)
            · exact hLa
            · have hsx : sameN a x = false := by
                rcases List.mem_cons.1 hx with e | e
                · subst e; exact hs
                · exact hr x e
              exact (other x hsx).2 ((i1 x).1 hx)
          · intro hL
            cases hsx : sameN a x
            · exact .inr ((i1 x).2 ((other x hsx).1 hL))
            · exact .inl (same x hsx hL)
        · rcases List.mem_cons.1 hx with e | e
          · subst e; exact hs
          · exact hr x e
/-- The program's way: sorted by number, the firsts, sorted. -/
theorem isSet_sorted {l d r : List Ev} (hp : ∀ x, x ∈ d ↔ x ∈ l) (hs : SortedD d) (hr : ∀ x, x ∈ r ↔ x ∈ firstsE d) (hnd : r.Pairwise (fun a b => ltE b a = false)) (hn : r.Nodup) : IsSet l r := by
  obtain ⟨f1, _⟩ := firstsE_spec hs
  have h1 : IsSet d r := by
    refine ⟨?_, fun x => (hr x).trans (f1 x)⟩
    have hn' : r.Pairwise (fun a b => a ≠ b) := hn
    refine List.Pairwise.imp (fun {a b} h => ?_) (hnd.and hn')
    cases hc : ltE a b
    · exact absurd (ltE_total hc h.1) h.2
    · rfl
  exact h1.congr hp
/-! The reference's way. -/
/-- Without the events of this number, and the lesser of the two of this number. -/
def dropN (l : List Ev) (e : Ev) : List Ev := l.filter (fun x => !sameN x e)
def lesserE (l : List Ev) (e : Ev) : Ev := l.foldl (fun e x => if sameN x e = true ∧ ltE x e = true then x else e) e
/-- An event put in its place. -/
def insE : List Ev → Ev → List Ev
  | [], e => [e]
  | a :: l, e => if ltE a e = true then a :: insE l e else e :: a :: l
theorem insE_mem {e x : Ev} : ∀ {l : List Ev}, x ∈ insE l e ↔ x = e ∨ x ∈ l
  | [] => by simp [insE]
  | a :: l => by
    unfold insE
    split
    · simp only [List.mem_cons, insE_mem (l := l)]
      constructor
      · rintro (h | h | h)
        · exact .inr (.inl h)
        · exact .inl h
        · exact .inr (.inr h)
      · rintro (h | h | h)
        · exact .inr (.inl h)
        · exact .inl h
        · exact .inr (.inr h)
    · simp
theorem insE_sorted {e : Ev} : ∀ {l : List Ev}, SortedE l → e ∉ l → SortedE (insE l e)
  | [], _, _ => List.pairwise_singleton _ _
  | a :: l, h, hn => by
    obtain ⟨h1, h2⟩ := List.pairwise_cons.1 h
    simp only [List.mem_cons, not_or] at hn
    unfold insE
    split
    · rename_i hae
      refine List.pairwise_cons.2 ⟨fun x hx => ?_, insE_sorted h2 hn.2⟩
      rcases insE_mem.1 hx with e1 | e1
      · subst e1; exact hae
      · exact h1 x e1
    · rename_i hae
      have hea : ltE e a = true := by
        cases hc : ltE e a
        · exact absurd (ltE_total hc (by cases h : ltE a e; rfl; exact absurd h hae)) hn.1
        · rfl
      refine List.pairwise_cons.2 ⟨fun x hx => ?_, h⟩
      rcases List.mem_cons.1 hx with e1 | e1
      · subst e1; exact hea
      · exact ltE_trans hea (h1 x e1)
theorem lesserE_spec : ∀ (l : List Ev) (e : Ev), sameN (lesserE l e) e = true ∧ (lesserE l e = e ∨ lesserE l e ∈ l) ∧ ltE e (lesserE l e) = false ∧ ∀ x ∈ l, sameN x e = true → ltE x (lesserE l e) = false
  | [], e => ⟨by simp [lesserE, sameN], .inl rfl, ltE_irr e, fun x hx => by cases hx⟩
  | a :: l, e => by
    by_cases hc : sameN a e = true ∧ ltE a e = true
    · have hl : lesserE (a :: l) e = lesserE l a := by unfold lesserE; rw [List.foldl_cons, if_pos hc]
      rw [hl]
      obtain ⟨h1, h2, h3, h4⟩ := lesserE_spec l a
      obtain ⟨s1, s2⟩ := sameN_iff.1 hc.1
      obtain ⟨t1, t2⟩ := sameN_iff.1 h1
      have hem : ltE e (lesserE l a) = false := by
        cases hx : ltE e (lesserE l a)
        · rfl
        · have := ltE_trans hc.2 hx; rw [h3] at this; cases this
      refine ⟨sameN_iff.2 ⟨by omega, by omega⟩, .inr ?_, hem, fun x hx hs => ?_⟩
      · rcases h2 with e1 | e1
        · rw [e1]; simp
        · simp [e1]
      · rcases List.mem_cons.1 hx with e1 | e1
        · subst e1; exact h3
        · obtain ⟨u1, u2⟩ := sameN_iff.1 hs
          exact h4 x e1 (sameN_iff.2 ⟨by omega, by omega⟩)
    · have hl : lesserE (a :: l) e = lesserE l e := by unfold lesserE; rw [List.foldl_cons, if_neg hc]
      rw [hl]
      obtain ⟨h1, h2, h3, h4⟩ := lesserE_spec l e
      refine ⟨h1, ?_, h3, fun x hx hs => ?_⟩
      · rcases h2 with e1 | e1
        · exact .inl e1
        · exact .inr (by simp [e1])
      · rcases List.mem_cons.1 hx with e1 | e1
        · subst e1
          cases hx : ltE x (lesserE l e)
          · rfl
          · have hxe : ltE x e = false := by
              cases h : ltE x e
              · rfl
              · exact absurd ⟨hs, h⟩ hc
            cases hme : ltE (lesserE l e) e
            · rw [ltE_total hme h3] at hx; rw [hxe] at hx; cases hx
            · have := ltE_trans hx hme; rw [hxe] at this; cases this
        · exact h4 x e1 hs
/-- What the reference does with one more event. -/
def withE (r : List Ev) (e : Ev) : List Ev := insE (dropN r e) (lesserE r e)
theorem isSet_with {l r : List Ev} {e : Ev} (h : IsSet l r) : IsSet (l ++ [e]) (withE r e) := by
  obtain ⟨h1, h2, h3, h4⟩ := lesserE_spec r e
  obtain ⟨hs, hm⟩ := h
  obtain ⟨s1, s2⟩ := sameN_iff.1 h1
  have hdrop : ∀ x, x ∈ dropN r e ↔ x ∈ r ∧ sameN x e = false := fun x => by simp [dropN]
  refine ⟨insE_sorted (List.Pairwise.filter _ hs) (fun hx => by rw [((hdrop _).1 hx).2] at h1; cases h1), fun x => ?_⟩
  unfold withE
  rw [insE_mem, hdrop, hm]
  -- the new least event of this number
  have hM : Least (l ++ [e]) (lesserE r e) := by
    refine ⟨?_, fun y hy e1 e2 => ?_⟩
    · rcases h2 with h | h
      · rw [h]; simp
      · have := ((hm _).1 h).1; simp [this]
    · rcases List.mem_append.1 hy with hy | hy
      · obtain ⟨z, hz, z1, z2, z3⟩ := least_exists hy
        have hzr := (hm z).2 hz
        have hzm := h4 z hzr (sameN_iff.2 ⟨by omega, by omega⟩)
        rcases z3 with z3 | z3
        · cases hc : ltE y (lesserE r e)
          · rfl
          · have := ltE_trans z3 hc; rw [hzm] at this; cases this
        · rw [← z3]; exact hzm
      · simp at hy; rw [hy]; exact h3
  constructor
  · rintro (rfl | ⟨hL, hx⟩)
    · exact hM
    · refine ⟨by simp [hL.1], fun y hy e1 e2 => ?_⟩
      rcases List.mem_append.1 hy with hy | hy
      · exact hL.2 y hy e1 e2
      · simp at hy; subst hy
        rw [sameN_iff.2 ⟨e1.symm, e2.symm⟩] at hx; cases hx
  · intro hL
    cases hx : sameN x e
    · right
      refine ⟨⟨?_, fun y hy => hL.2 y (by simp [hy])⟩, rfl⟩
      rcases List.mem_append.1 hL.1 with h | h
      · exact h
      · simp at h; subst h
        rw [sameN_iff.2 ⟨rfl, rfl⟩] at hx; cases hx
    · left
      obtain ⟨e1, e2⟩ := sameN_iff.1 hx
      exact ltE_total (hM.2 x hL.1 (by omega) (by omega)) (hL.2 _ hM.1 (by omega) (by omega))
/-- The set, event by event. -/
def setE (l : List Ev) : List Ev := l.foldl withE []
theorem isSet_setE : ∀ l, IsSet l (setE l) := by
  have key : ∀ (l m r : List Ev), IsSet m r → IsSet (m ++ l) (l.foldl withE r) := by
    intro l
    induction l with
    | nil => intro m r h; simpa using h
    | cons a l ih =>
      intro m r h
      have := ih (m ++ [a]) (withE r a) (isSet_with h)
      simpa using this
  intro l
  have := key l [] [] ⟨List.Pairwise.nil, fun x => by simp [Least]⟩
  show IsSet l (l.foldl withE [])
  simpa using this
end Go.Proofs.Ytlnfhlmgnppcbaa

/- The firsts of a list of events, from the left; sorted lists of events. Plain theorems, no program. -/
namespace Go.Proofs.Ytlnfhlmgnppcbaa
set_option linter.unusedVariables false
set_option linter.unusedSimpArgs false
theorem sameN_comm (a b : Ev) : sameN a b = sameN b a := by
  unfold sameN
  rw [decide_eq_decide.2 (⟨Eq.symm, Eq.symm⟩ : a.dev = b.dev ↔ b.dev = a.dev), decide_eq_decide.2 (⟨Eq.symm, Eq.symm⟩ : a.seq = b.seq ↔ b.seq = a.seq)]
theorem firstsE_cons (c : Ev) (l : List Ev) {d : Ev} {r : List Ev} (h : firstsE l = d :: r) : firstsE (c :: l) = if sameN c d = true then c :: r else c :: d :: r := by
  rw [firstsE, h]
theorem firstsE_snoc : ∀ (l : List Ev) (a x : Ev), firstsE (l ++ [a, x]) = if sameN a x = true then firstsE (l ++ [a]) else firstsE (l ++ [a]) ++ [x]
  | [], a, x => by
    have h1 : firstsE [x] = x :: [] := rfl
    rw [List.nil_append, firstsE_cons a [x] h1]
    split <;> rfl
  | c :: l, a, x => by
    have ih := firstsE_snoc l a x
    obtain ⟨d, r, hd⟩ : ∃ d r, firstsE (l ++ [a]) = d :: r := by
      cases l with
      | nil => exact ⟨a, [], rfl⟩
      | cons b l' => obtain ⟨q, hq⟩ := firstsE_head b (l' ++ [a]); exact ⟨b, q, hq⟩
    rw [List.cons_append, List.cons_append, firstsE_cons c _ hd]
    by_cases hs : sameN a x = true
    · rw [if_pos hs] at ih ⊢
      rw [firstsE_cons c _ (ih.trans hd)]
    · rw [if_neg hs] at ih ⊢
      rw [hd, List.cons_append] at ih
      rw [firstsE_cons c _ ih]
      split <;> rfl
theorem firsts_step (F : Nat → Ev) {q : Nat} (hq : 0 < q) : firstsE (ents F (q + 1)) = if sameN (F (q - 1)) (F q) = true then firstsE (ents F q) else firstsE (ents F q) ++ [F q] := by
  obtain ⟨p, rfl⟩ : ∃ p, q = p + 1 := ⟨q - 1, by omega⟩
  rw [ents_succ F (p + 1), ents_succ F p, List.append_assoc, Nat.add_sub_cancel]
  exact firstsE_snoc (ents F p) (F p) (F (p + 1))
theorem firsts_one (F : Nat → Ev) : firstsE (ents F 1) = ents F 1 := rfl
theorem firsts_few (F : Nat → Ev) {n : Nat} (h : n < 2) : firstsE (ents F n) = ents F n := by
  have : n = 0 ∨ n = 1 := by omega
  rcases this with rfl | rfl <;> rfl
theorem firsts_len : ∀ l : List Ev, (firstsE l).length ≤ l.length
  | [] => Nat.le_refl _
  | a :: l => by
    have ih := firsts_len l
    cases h : firstsE l with
    | nil => rw [firstsE, h]; simp
    | cons d r =>
      rw [firstsE_cons a l h]
      rw [h] at ih
      simp at ih
      split <;> simp <;> omega
theorem firsts_mem : ∀ {l : List Ev} {x : Ev}, x ∈ firstsE l → x ∈ l
  | a :: l, x, hx => by
    cases h : firstsE l with
    | nil => rw [firstsE, h] at hx; simp at hx; simp [hx]
    | cons d r =>
      rw [firstsE_cons a l h] at hx
      have ih := @firsts_mem l
      rw [h] at ih
      split at hx
      · rcases List.mem_cons.1 hx with e | e
        · simp [e]
        · exact List.mem_cons_of_mem _ (ih (List.mem_cons_of_mem _ e))
      · rcases List.mem_cons.1 hx with e | e
        · simp [e]
        · exact List.mem_cons_of_mem _ (ih e)
theorem pairwise_ents {α : Type} {R : α → α → Prop} {F : Nat → α} {n : Nat} (h : ∀ i j, i < j → j < n → R (F i) (F j)) : (ents F n).Pairwise R := by
  rw [List.pairwise_iff_getElem]
  intro i j hi hj hij
  simp only [ents, List.length_map, List.length_range] at hi hj
  simp only [ents, List.getElem_map, List.getElem_range]
  exact h i j hij hj
/-- Sorted by number, the firsts, sorted: the set. -/
theorem set_of_sorts {l : List Ev} {D R : Nat → Ev} {n m : Nat} (h1 : (ents D n).Perm l) (h2 : ∀ i j, i < j → j < n → ¬ cmpD (D j) (D i) < 0) (h3 : (ents R m).Perm (firstsE (ents D n))) (h4 : ∀ i j, i < j → j < m → ltE (R j) (R i) = false) : ents R m = setE l := by
  have hs : SortedD (ents D n) := pairwise_ents h2
  have hf := (firstsE_spec hs).2
  have hn : (ents R m).Nodup := by
    refine (h3.nodup_iff).2 ?_
    refine List.Pairwise.imp (fun {a b} h e => ?_) hf
    subst e
    rw [sameN_iff.2 ⟨rfl, rfl⟩] at h; cases h
  exact (isSet_sorted (fun x => h1.mem_iff) hs (fun x => h3.mem_iff) (pairwise_ents h4) hn).unique (isSet_setE l)
theorem insE_len (e : Ev) : ∀ l : List Ev, (insE l e).length = l.length + 1
  | [] => rfl
  | a :: l => by
    unfold insE
    split
    · simp [insE_len e l]
    · simp
theorem withE_len (r : List Ev) (e : Ev) : (withE r e).length ≤ r.length + 1 := by
  unfold withE
  rw [insE_len]
  exact Nat.succ_le_succ (List.length_filter_le _ _)
theorem foldl_withE_len : ∀ (l r : List Ev), (l.foldl withE r).length ≤ r.length + l.length
  | [], r => by simp
  | a :: l, r => by
    have h1 := foldl_withE_len l (withE r a)
    have h2 := withE_len r a
    simp only [List.foldl_cons, List.length_cons]
    omega
theorem setE_len (l : List Ev) : (setE l).length ≤ l.length := by
  have := foldl_withE_len l []
  simpa [setE] using this
/-! The reference's way, step by step. -/
theorem sameN_lesser (l : List Ev) (e x : Ev) : sameN x (lesserE l e) = sameN x e := by
  obtain ⟨h1, h2⟩ := sameN_iff.1 (lesserE_spec l e).1
  unfold sameN
  rw [h1, h2]
theorem lesserE_snoc (l : List Ev) (e x : Ev) : lesserE (l ++ [x]) e = if sameN x (lesserE l e) = true ∧ ltE x (lesserE l e) = true then x else lesserE l e := by
  unfold lesserE
  rw [List.foldl_append]
  rfl
theorem dropN_snoc (l : List Ev) (e x : Ev) : dropN (l ++ [x]) e = if sameN x (lesserE l e) = true then dropN l e else dropN l e ++ [x] := by
  rw [sameN_lesser]
  unfold dropN
  rw [List.filter_append]
  by_cases h : sameN x e = true
  · rw [if_pos h]; simp [h]
  · rw [if_neg h]; simp [h]
theorem insE_split {e : Ev} : ∀ {l : List Ev} {k : Nat}, k ≤ l.length → (∀ i x, i < k → l[i]? = some x → ltE x e = true) → (∀ x, l[k]? = some x → ltE x e = false) → insE l e = l.take k ++ e :: l.drop k
  | [], k, hk, _, _ => by
    obtain rfl : k = 0 := by simpa using hk
    rfl
  | a :: l, 0, _, _, h2 => by
    have := h2 a (by simp)
    unfold insE
    rw [if_neg (by rw [this]; decide)]
    rfl
  | a :: l, k + 1, hk, h1, h2 => by
    have ha := h1 0 a (by omega) (by simp)
    unfold insE
    rw [if_pos ha, insE_split (l := l) (k := k) (by simpa using hk) (fun i x hi hx => h1 (i + 1) x (by omega) (by simpa using hx)) (fun x hx => h2 x (by simpa using hx))]
    rfl
theorem setE_snoc (l : List Ev) (x : Ev) : setE (l ++ [x]) = withE (setE l) x := by
  simp [setE, List.foldl_append]
end Go.Proofs.Ytlnfhlmgnppcbaa

/- Sets of events: of lists with the same members, of joined sets, of a set. Plain theorems, no program. -/
namespace Go.Proofs.Ytlnfhlmgnppcbaa
set_option linter.unusedVariables false
theorem mem_setE {l : List Ev} {x : Ev} : x ∈ setE l ↔ Least l x := (isSet_setE l).2 x
theorem setE_congr {l m : List Ev} (h : ∀ x, x ∈ l ↔ x ∈ m) : setE l = setE m := IsSet.unique ((isSet_setE l).congr h) (isSet_setE m)
theorem setE_least {l m : List Ev} (h : ∀ x, Least l x ↔ Least m x) : setE l = setE m := by
  exact IsSet.unique (isSet_setE l) ⟨(isSet_setE m).1, fun x => ((isSet_setE m).2 x).trans (h x).symm⟩
theorem least_join {a b : List Ev} {x : Ev} : Least (setE b ++ setE a) x ↔ Least (a ++ b) x := by
  have sub : ∀ {l : List Ev} {y : Ev}, y ∈ setE l → y ∈ l := fun h => (mem_setE.1 h).1
  constructor
  · rintro ⟨hx, hl⟩
    have hx' : x ∈ a ++ b := by
      rcases List.mem_append.1 hx with h | h
      · exact List.mem_append.2 (.inr (sub h))
      · exact List.mem_append.2 (.inl (sub h))
    refine ⟨hx', fun y hy e1 e2 => ?_⟩
    have key : ∀ {l : List Ev}, (∀ z ∈ setE l, z ∈ setE b ++ setE a) → y ∈ l → ltE y x = false := by
      intro l hsub hyl
      obtain ⟨z, hz, z1, z2, z3⟩ := least_exists hyl
      have hzx := hl z (hsub z (mem_setE.2 hz)) (by omega) (by omega)
      rcases z3 with z3 | z3
      · cases h : ltE y x
        · rfl
        · rw [ltE_trans z3 h] at hzx; cases hzx
      · rw [← z3]; exact hzx
    rcases List.mem_append.1 hy with h | h
    · exact key (fun z hz => List.mem_append.2 (.inr hz)) h
    · exact key (fun z hz => List.mem_append.2 (.inl hz)) h
  · rintro ⟨hx, hl⟩
    refine ⟨?_, fun y hy e1 e2 => ?_⟩
    · rcases List.mem_append.1 hx with h | h
      · exact List.mem_append.2 (.inr (mem_setE.2 ⟨h, fun y hy => hl y (List.mem_append.2 (.inl hy))⟩))
      · exact List.mem_append.2 (.inl (mem_setE.2 ⟨h, fun y hy => hl y (List.mem_append.2 (.inr hy))⟩))
    · rcases List.mem_append.1 hy with h | h
      · exact hl y (List.mem_append.2 (.inr (sub h))) e1 e2
      · exact hl y (List.mem_append.2 (.inl (sub h))) e1 e2
theorem setE_join (a b : List Ev) : setE (setE b ++ setE a) = setE (a ++ b) := setE_least fun x => least_join
theorem setE_idem (l : List Ev) : setE (setE l) = setE l := by
  have h := setE_join l []
  simpa [setE] using h
/-- In the set there is exactly one event of a number of the list. -/
theorem setE_one {l : List Ev} {x : Ev} (hx : x ∈ l) : ∃ (k : Nat) (y : Ev), (setE l)[k]? = some y ∧ sameN y x = true ∧ ltE x y = false ∧ ∀ (j : Nat) (z : Ev), (setE l)[j]? = some z → sameN z x = true → j = k := by
  obtain ⟨y, hy, y1, y2, y3⟩ := least_exists hx
  obtain ⟨k, hk⟩ := List.getElem?_of_mem (mem_setE.2 hy)
  refine ⟨k, y, hk, sameN_iff.2 ⟨y1, y2⟩, ?_, fun j z hj hz => ?_⟩
  · rcases y3 with y3 | rfl
    · exact ltE_asym y3
    · exact ltE_irr _
  · obtain ⟨z1, z2⟩ := sameN_iff.1 hz
    have hzl := mem_setE.1 (List.mem_of_getElem? hj)
    have hzy : z = y := by
      have h1 := hzl.2 y hy.1 (by omega) (by omega)
      have h2 := hy.2 z hzl.1 (by omega) (by omega)
      exact ltE_total h2 h1
    subst hzy
    have hs := (isSet_setE l).1
    rcases Nat.lt_trichotomy j k with h | h | h
    · have := List.pairwise_iff_getElem.1 hs j k (List.getElem?_eq_some_iff.1 hj).1 (List.getElem?_eq_some_iff.1 hk).1 h
      rw [(List.getElem?_eq_some_iff.1 hj).2, (List.getElem?_eq_some_iff.1 hk).2, ltE_irr] at this
      cases this
    · exact h
    · have := List.pairwise_iff_getElem.1 hs k j (List.getElem?_eq_some_iff.1 hk).1 (List.getElem?_eq_some_iff.1 hj).1 h
      rw [(List.getElem?_eq_some_iff.1 hj).2, (List.getElem?_eq_some_iff.1 hk).2, ltE_irr] at this
      cases this
theorem setE_asc {l : List Ev} {i : Nat} {x y : Ev} (h1 : (setE l)[i]? = some x) (h2 : (setE l)[i + 1]? = some y) : ltE x y = true := by
  have := List.pairwise_iff_getElem.1 (isSet_setE l).1 i (i + 1) (List.getElem?_eq_some_iff.1 h1).1 (List.getElem?_eq_some_iff.1 h2).1 (by omega)
  rw [(List.getElem?_eq_some_iff.1 h1).2, (List.getElem?_eq_some_iff.1 h2).2] at this
  exact this
end Go.Proofs.Ytlnfhlmgnppcbaa

/- Numbers as bytes, seven bits to a byte, the sign in the lowest bit: encoded, read. Plain theorems, no program. -/
namespace Go.Proofs.Ytlnfhlmgnppcbaa
set_option linter.unusedVariables false
set_option linter.unusedSimpArgs false
/-- The number without a sign for a number. -/
def zz (n : Int) : Nat := if n < 0 then (2 * (-(n + 1)) + 1).toNat else (2 * n).toNat
def unzz (u : Nat) : Int := if u % 2 = 1 then -((u / 2 : Nat) : Int) - 1 else ((u / 2 : Nat) : Int)
theorem unzz_zz (n : Int) : unzz (zz n) = n := by
  unfold zz unzz
  split <;> split <;> omega
theorem zz_unzz (u : Nat) : zz (unzz u) = u := by
  unfold unzz
  split <;> (unfold zz; split <;> omega)
theorem zz_lt {n : Int} (h1 : -9223372036854775808 ≤ n) (h2 : n ≤ 9223372036854775807) : zz n < 18446744073709551616 := by
  unfold zz; split <;> omega
theorem unzz_in {u : Nat} (h : u < 18446744073709551616) : -9223372036854775808 ≤ unzz u ∧ unzz u ≤ 9223372036854775807 := by
  unfold unzz; split <;> omega
def codeU (u : Nat) : List Nat := if h : u < 128 then [u] else (u % 128 + 128) :: codeU (u / 128)
termination_by u
decreasing_by omega
theorem codeU_small {u : Nat} (h : u < 128) : codeU u = [u] := by rw [codeU, dif_pos h]
theorem codeU_big {u : Nat} (h : ¬ u < 128) : codeU u = (u % 128 + 128) :: codeU (u / 128) := by rw [codeU, dif_neg h]
theorem codeU_byte : ∀ (u : Nat), ∀ x ∈ codeU u, x < 256
  | u => by
    by_cases h : u < 128
    · rw [codeU_small h]; intro x hx; simp at hx; omega
    · rw [codeU_big h]
      intro x hx
      rcases List.mem_cons.1 hx with e | e
      · omega
      · exact codeU_byte (u / 128) x e
termination_by u => u
decreasing_by omega
theorem codeU_len : ∀ (k u : Nat), u < 128 ^ k → 0 < k → (codeU u).length ≤ k
  | 0, u, h, h0 => absurd h0 (by omega)
  | k + 1, u, h, h0 => by
    by_cases hu : u < 128
    · rw [codeU_small hu]; simp
    · rw [codeU_big hu, List.length_cons]
      have : u / 128 < 128 ^ k := by
        rw [Nat.div_lt_iff_lt_mul (by decide), ← Nat.pow_succ]; exact h
      have hk : 0 < k := by
        rcases Nat.eq_zero_or_pos k with h1 | h1
        · subst h1; simp at h; omega
        · exact h1
      have := codeU_len k (u / 128) this hk
      omega
theorem codeU_pos (u : Nat) : 0 < (codeU u).length := by
  by_cases hu : u < 128
  · rw [codeU_small hu]; simp
  · rw [codeU_big hu]; simp
def codeN (n : Int) : List Nat := codeU (zz n)
theorem codeN_len {n : Int} (h1 : -9223372036854775808 ≤ n) (h2 : n ≤ 9223372036854775807) : (codeN n).length ≤ 10 := codeU_len 10 _ (by have := zz_lt h1 h2; omega) (by decide)
theorem codeN_byte (n : Int) : ∀ x ∈ codeN n, x < 256 := codeU_byte _
/-- What stands at the head of bytes: i of the number's bytes are read, z is their value. -/
def intF : Nat → Nat → List Nat → Int × Nat × Int
  | i, z, [] => if 10 ≤ i then (0, 0, 3) else (0, 0, 4)
  | i, z, x :: t => if i = 10 then (0, 0, 3) else if 128 ≤ x then intF (i + 1) (z + (x - 128) * 2 ^ (7 * i)) t
    else if (0 < i ∧ x = 0) ∨ (i = 9 ∧ 1 < x) then (0, 0, 3) else (unzz (z + x * 2 ^ (7 * i)), i + 1, 0)
theorem intF_nil (i z : Nat) : intF i z [] = if 10 ≤ i then (0, 0, 3) else (0, 0, 4) := by unfold intF; rfl
theorem intF_cons (i z x : Nat) (t : List Nat) : intF i z (x :: t) = if i = 10 then (0, 0, 3) else if 128 ≤ x then intF (i + 1) (z + (x - 128) * 2 ^ (7 * i)) t
    else if (0 < i ∧ x = 0) ∨ (i = 9 ∧ 1 < x) then (0, 0, 3) else (unzz (z + x * 2 ^ (7 * i)), i + 1, 0) := by rw [intF]
theorem intF_ten (z z' : Nat) (l : List Nat) : intF 10 z l = intF 10 z' l := by
  cases l with
  | nil => rw [intF_nil, intF_nil]
  | cons x t => rw [intF_cons, intF_cons]; simp
/-- The number at an index: value, the index behind it, error. -/
def intE (l : List Nat) (at' : Int) : Int × Int × Int :=
  if at' < 0 ∨ (l.length : Int) < at' then (0, 0, 1)
  else if (intF 0 0 (l.drop at'.toNat)).2.2 = 0 then ((intF 0 0 (l.drop at'.toNat)).1, at' + (intF 0 0 (l.drop at'.toNat)).2.1, 0)
  else (0, 0, (intF 0 0 (l.drop at'.toNat)).2.2)
theorem intF_err : ∀ (l : List Nat) (i z : Nat), ((intF i z l).2.2 = 0 ∧ i < (intF i z l).2.1 ∧ (intF i z l).2.1 ≤ i + l.length) ∨ ((intF i z l).1 = 0 ∧ (intF i z l).2.1 = 0 ∧ ((intF i z l).2.2 = 3 ∨ (intF i z l).2.2 = 4))
  | [], i, z => by rw [intF_nil]; split <;> simp
  | x :: t, i, z => by
    rw [intF_cons]
    split
    · simp
    · split
      · rcases intF_err t (i + 1) (z + (x - 128) * 2 ^ (7 * i)) with ⟨h1, h2, h3⟩ | h
        · left; refine ⟨h1, by omega, by rw [List.length_cons]; omega⟩
        · exact .inr h
      · split
        · simp
        · left; exact ⟨rfl, by simp, by simp⟩
/-- The value of s + 1 bytes. -/
def valB : List Nat → Nat → Nat
  | [], _ => 0
  | x :: _, 0 => x % 128
  | x :: t, s + 1 => x % 128 + 128 * valB t s
theorem valB_lt : ∀ (l : List Nat) (s : Nat), valB l s < 128 ^ (s + 1)
  | [], s => Nat.pow_pos (by decide)
  | x :: t, 0 => by simp [valB]; omega
  | x :: t, s + 1 => by
    have := valB_lt t s
    rw [Nat.pow_succ, valB]
    omega
/-- Some bytes that go on, then one that ends. -/
theorem intF_run : ∀ (s : Nat) (l : List Nat) (i z : Nat) (x : Nat), i + s ≤ 9 → (∀ q y, q < s → l[q]? = some y → 128 ≤ y) → (∀ q y, q ≤ s → l[q]? = some y → y < 256) → l[s]? = some x → x < 128 →
    intF i z l = if (0 < i + s ∧ x = 0) ∨ (i + s = 9 ∧ 1 < x) then (0, 0, 3) else (unzz (z + valB l s * 2 ^ (7 * i)), i + s + 1, 0)
  | 0, [], i, z, x, _, _, _, h, _ => by simp at h
  | 0, y :: t, i, z, x, hi, _, _, h, hx => by
    have : y = x := by simpa using h
    subst this
    rw [intF_cons, if_neg (by omega), if_neg (by omega), Nat.add_zero]
    simp only [valB, Nat.mod_eq_of_lt hx, Nat.add_zero]
  | s + 1, [], i, z, x, _, _, _, h, _ => by simp at h
  | s + 1, y :: t, i, z, x, hi, h1, h2, h, hx => by
    have hy := h1 0 y (by omega) (by simp)
    have hy2 := h2 0 y (by omega) (by simp)
    rw [intF_cons, if_neg (by omega), if_pos hy, intF_run s t (i + 1) _ x (by omega) (fun q v hq hv => h1 (q + 1) v (by omega) (by simpa using hv)) (fun q v hq hv => h2 (q + 1) v (by omega) (by simpa using hv)) (by simpa using h) hx]
    have e1 : i + 1 + s = i + (s + 1) := by omega
    have e2 : z + (y - 128) * 2 ^ (7 * i) + valB t s * 2 ^ (7 * (i + 1)) = z + valB (y :: t) (s + 1) * 2 ^ (7 * i) := by
      have e3 : 2 ^ (7 * (i + 1)) = 128 * 2 ^ (7 * i) := by rw [Nat.mul_add, Nat.pow_add, Nat.mul_comm]
      have e4 : y % 128 = y - 128 := by omega
      rw [e3, valB, e4, Nat.add_mul, Nat.add_assoc, ← Nat.mul_assoc, Nat.mul_comm (valB t s) 128]
    rw [e1, e2]
/-- Ten bytes that go on. -/
theorem intF_long : ∀ (s : Nat) (l : List Nat) (i z : Nat), i + s = 10 → (∀ q, q < s → ∃ y, l[q]? = some y ∧ 128 ≤ y) → intF i z l = (0, 0, 3)
  | 0, [], i, z, hi, _ => by rw [intF_nil, if_pos (by omega)]
  | 0, x :: t, i, z, hi, _ => by rw [intF_cons, if_pos (by omega)]
  | s + 1, [], i, z, hi, h => by obtain ⟨y, hy, _⟩ := h 0 (by omega); simp at hy
  | s + 1, x :: t, i, z, hi, h => by
    obtain ⟨y, hy, hy2⟩ := h 0 (by omega)
    simp at hy; subst hy
    rw [intF_cons, if_neg (by omega), if_pos hy2]
    exact intF_long s t (i + 1) _ (by omega) (fun q hq => by obtain ⟨v, hv, hv2⟩ := h (q + 1) (by omega); exact ⟨v, by simpa using hv, hv2⟩)
/-- All bytes go on, fewer than ten. -/
theorem intF_short : ∀ (l : List Nat) (i z : Nat), i + l.length < 10 → (∀ y ∈ l, 128 ≤ y) → intF i z l = (0, 0, 4)
  | [], i, z, hi, _ => by rw [intF_nil, if_neg (by simp at hi; omega)]
  | x :: t, i, z, hi, h => by
    rw [List.length_cons] at hi
    rw [intF_cons, if_neg (by omega), if_pos (h x (by simp))]
    exact intF_short t (i + 1) _ (by omega) (fun y hy => h y (by simp [hy]))
/-! The program's arithmetic. -/
theorem zz_bits {n : Int} (h1 : -9223372036854775808 ≤ n) (h2 : n ≤ 9223372036854775807) : bits .xor .u64 (IntKind.u64.wrap (IntKind.u64.wrap n * 2)) (IntKind.u64.wrap (n / 9223372036854775808)) = (zz n : Int) := by
  rw [IntKind.wrap_u64, IntKind.wrap_u64, IntKind.wrap_u64]
  by_cases h : n < 0
  · have e1 : n / 9223372036854775808 % 18446744073709551616 = 18446744073709551615 := by omega
    have e2 : n % 18446744073709551616 * 2 % 18446744073709551616 = 18446744073709551616 + 2 * n := by omega
    rw [e1, e2]
    obtain ⟨a, ha⟩ := Int.eq_ofNat_of_zero_le (show 0 ≤ 18446744073709551616 + 2 * n by omega)
    rw [ha, show (18446744073709551615 : Int) = ((18446744073709551615 : Nat) : Int) from rfl, u64_xor_nat a _ (by omega) (by decide)]
    have e3 : a ^^^ 18446744073709551615 = 18446744073709551615 - a := by
      have := BitVec.toNat_not (x := BitVec.ofNat 64 a)
      have e4 : (BitVec.ofNat 64 a).toNat = a := by rw [BitVec.toNat_ofNat]; exact Nat.mod_eq_of_lt (by omega)
      rw [← BitVec.xor_allOnes, BitVec.toNat_xor, BitVec.toNat_allOnes, e4] at this
      exact this
    rw [e3]
    unfold zz; rw [if_pos h]; omega
  · have e1 : n / 9223372036854775808 % 18446744073709551616 = 0 := by omega
    have e2 : n % 18446744073709551616 * 2 % 18446744073709551616 = 2 * n := by omega
    rw [e1, e2]
    obtain ⟨a, ha⟩ := Int.eq_ofNat_of_zero_le (show 0 ≤ 2 * n by omega)
    rw [ha, show (0 : Int) = ((0 : Nat) : Int) from rfl, u64_xor_nat a _ (by omega) (by decide), Nat.xor_zero]
    unfold zz; rw [if_neg h]; omega
theorem low_or (u : Nat) : bits .or .u8 (IntKind.u8.wrap (u : Int)) 128 = ((u % 128 + 128 : Nat) : Int) := by
  rw [IntKind.wrap_u8]
  obtain ⟨a, ha⟩ := Int.eq_ofNat_of_zero_le (show 0 ≤ (u : Int) % 256 by omega)
  rw [ha, show (128 : Int) = ((128 : Nat) : Int) from rfl, u8_or_nat a 128 (by omega) (by decide)]
  have hd : a ||| 128 = a % 128 + 128 := by
    have h3 := Nat.two_pow_add_eq_or_of_lt (i := 7) (b := a % 128) (by omega) 1
    have h4 : (a % 128) ||| 128 = a ||| 128 := by
      apply Nat.eq_of_testBit_eq
      intro j
      rw [Nat.testBit_or, Nat.testBit_or, show (128 : Nat) = 2 ^ 7 from rfl, Nat.testBit_mod_two_pow, Nat.testBit_two_pow]
      by_cases hj : j < 7
      · simp [hj]
      · by_cases hj7 : j = 7
        · subst hj7; simp
        · have : a.testBit j = false := Nat.testBit_lt_two_pow (Nat.lt_of_lt_of_le (show a < 2 ^ 8 by omega) (Nat.pow_le_pow_right (by decide) (by omega)))
          simp [hj, this]
    rw [← h4, Nat.or_comm]
    simp at h3
    omega
  rw [hd]
  omega
theorem unzz_bits {u : Nat} (h : u < 18446744073709551616) : bits .xor .i64 (IntKind.i64.wrap ((u : Int) / 2)) (IntKind.i64.wrap (-(IntKind.i64.wrap ((u % 2 : Nat) : Int)))) = unzz u := by
  rw [IntKind.wrap_i64, IntKind.wrap_i64, IntKind.wrap_i64]
  have e0 : ((u : Int) / 2 + 9223372036854775808) % 18446744073709551616 - 9223372036854775808 = ((u / 2 : Nat) : Int) := by omega
  rw [e0]
  unfold unzz
  by_cases hu : u % 2 = 1
  · rw [if_pos hu, hu]
    show bits .xor .i64 _ (-1) = _
    have e1 : ∀ v : Nat, v < 9223372036854775808 → bits .xor .i64 (v : Int) (-1) = -(v : Int) - 1 := fun v hv => by
      show IntKind.i64.wrap ((BitVec.ofInt 64 (v : Int) ^^^ BitVec.ofInt 64 (-1)).toNat : Int) = _
      rw [show BitVec.ofInt 64 (-1) = BitVec.allOnes 64 from by decide, BitVec.xor_allOnes, BitVec.toNat_not, BitVec.ofInt_natCast, BitVec.toNat_ofNat, Nat.mod_eq_of_lt (by omega), IntKind.wrap_i64]
      omega
    exact e1 _ (by omega)
  · have : u % 2 = 0 := by omega
    rw [if_neg hu, this]
    show bits .xor .i64 _ 0 = _
    have e1 : ∀ v : Nat, v < 9223372036854775808 → bits .xor .i64 (v : Int) 0 = (v : Int) := fun v hv => by
      show IntKind.i64.wrap ((BitVec.ofInt 64 (v : Int) ^^^ BitVec.ofInt 64 0).toNat : Int) = _
      rw [show BitVec.ofInt 64 0 = 0#64 from by decide, BitVec.xor_zero, BitVec.ofInt_natCast, BitVec.toNat_ofNat, Nat.mod_eq_of_lt (by omega), IntKind.wrap_i64]
      omega
    exact e1 _ (by omega)
end Go.Proofs.Ytlnfhlmgnppcbaa

/- The bytes of a number read: the steps of the program's way and of the reference's. Plain theorems, no program. -/
namespace Go.Proofs.Ytlnfhlmgnppcbaa
set_option linter.unusedVariables false
set_option linter.unusedSimpArgs false
theorem low7 {x : Nat} (h : x < 256) : bits .andNot .u8 (x : Int) 128 = ((x % 128 : Nat) : Int) := by
  rw [show (128 : Int) = ((128 : Nat) : Int) from rfl, u8_andNot_nat x 128 h (by decide), show 255 - 128 = 127 from rfl, nat_mask7]
theorem top7_yes {x : Nat} (h : x < 256) (h1 : 128 ≤ x) : bits .and .u8 (x : Int) 128 = 128 := by
  rw [show (128 : Int) = ((128 : Nat) : Int) from rfl, u8_and_nat x 128 h (by decide), show (128 : Nat) = 2 ^ 7 from rfl, nat_bit]
  have : x / 2 ^ 7 % 2 = 1 := by omega
  rw [this]
theorem top7_no {x : Nat} (h1 : x < 128) : bits .and .u8 (x : Int) 128 = 0 := by
  rw [show (128 : Int) = ((128 : Nat) : Int) from rfl, u8_and_nat x 128 (by omega) (by decide), show (128 : Nat) = 2 ^ 7 from rfl, nat_bit]
  have : x / 2 ^ 7 % 2 = 0 := by omega
  rw [this]; rfl
theorem bit1 {u : Nat} (h : u < 18446744073709551616) : bits .and .u64 (u : Int) 1 = ((u % 2 : Nat) : Int) := by
  rw [show (1 : Int) = ((1 : Nat) : Int) from rfl, u64_and_nat u 1 h (by decide), nat_mask1]
theorem or_at {z y i : Nat} (hz : z < 2 ^ (7 * i)) (hz2 : z < 18446744073709551616) (hy : y * 2 ^ (7 * i) < 18446744073709551616) : bits .or .u64 (z : Int) ((y * 2 ^ (7 * i) : Nat) : Int) = ((z + y * 2 ^ (7 * i) : Nat) : Int) := by
  rw [u64_or_nat z _ hz2 hy, Nat.or_comm, nat_join (7 * i) (y * 2 ^ (7 * i)) z (Nat.mul_mod_left _ _) hz, Nat.add_comm]
theorem pow_step (i : Nat) : 2 ^ (7 * (i + 1)) = 128 * 2 ^ (7 * i) := by rw [Nat.mul_add, Nat.pow_add, Nat.mul_comm]
theorem pow_le8 {i : Nat} (h : i ≤ 8) : 2 ^ (7 * i) ≤ 72057594037927936 := by
  have := Nat.pow_le_pow_right (n := 2) (by decide) (show 7 * i ≤ 56 by omega)
  exact Nat.le_trans this (by decide)
theorem pow_9 : 2 ^ (7 * 9) = 9223372036854775808 := by decide
/-- What stands read behind i + 1 bytes, if it fits. -/
theorem read_fits {z y i : Nat} (hi : i ≤ 9) (hz : z < 2 ^ (7 * i)) (hy : y < 128) (h9 : i = 9 → y ≤ 1) : z + y * 2 ^ (7 * i) < 18446744073709551616 ∧ z + y * 2 ^ (7 * i) < 2 ^ (7 * (i + 1)) := by
  have h1 : z + y * 2 ^ (7 * i) < 128 * 2 ^ (7 * i) := by
    have : y * 2 ^ (7 * i) ≤ 127 * 2 ^ (7 * i) := Nat.mul_le_mul_right _ (by omega)
    omega
  refine ⟨?_, by rw [pow_step]; exact h1⟩
  by_cases h : i = 9
  · subst h
    have := h9 rfl
    rw [pow_9] at *
    have : y * 9223372036854775808 ≤ 1 * 9223372036854775808 := Nat.mul_le_mul_right _ this
    omega
  · have := pow_le8 (i := i) (by omega)
    omega
/-- One more byte by the program's way. -/
theorem or_step {z x i : Nat} (hz : z < 18446744073709551616) (hz1 : i ≤ 9 → z < 2 ^ (7 * i)) (hi : i ≤ 9) : ∃ z' : Nat, bits .or .u64 (z : Int) (IntKind.u64.wrap ((x : Int) % 128 * 2 ^ (7 * i))) = (z' : Int) ∧ z' < 18446744073709551616 ∧ ((i = 9 → x % 128 ≤ 1) → z' = z + (x % 128) * 2 ^ (7 * i)) := by
  have e : ((x : Int) % 128 * 2 ^ (7 * i)) = ((x % 128 * 2 ^ (7 * i) : Nat) : Int) := by simp
  rw [e, IntKind.wrap_u64]
  by_cases h : i = 9 → x % 128 ≤ 1
  · have hf := read_fits hi (hz1 hi) (show x % 128 < 128 by omega) h
    generalize hy : x % 128 = y at *
    have hlt : y * 2 ^ (7 * i) < 18446744073709551616 := by omega
    have e2 : ((y * 2 ^ (7 * i) : Nat) : Int) % 18446744073709551616 = ((y * 2 ^ (7 * i) : Nat) : Int) := by
      generalize y * 2 ^ (7 * i) = q at *; omega
    refine ⟨z + y * 2 ^ (7 * i), ?_, hf.1, fun _ => rfl⟩
    rw [e2]
    exact or_at (hz1 hi) hz hlt
  · generalize x % 128 * 2 ^ (7 * i) = q
    have e3 : ((q : Nat) : Int) % 18446744073709551616 = ((q % 18446744073709551616 : Nat) : Int) := by omega
    rw [e3, u64_or_nat z _ hz (Nat.mod_lt _ (by decide))]
    exact ⟨_, rfl, Nat.or_lt_two_pow (n := 64) hz (Nat.mod_lt _ (by decide)), fun h2 => absurd h2 h⟩
theorem valB_lt1 : ∀ (l : List Nat) (s : Nat) (x : Nat), l[s]? = some x → x ≤ 1 → valB l s < 2 * 128 ^ s
  | [], s, x, h, _ => by simp at h
  | y :: t, 0, x, h, hx => by
    have : y = x := by simpa using h
    subst this; simp [valB]; omega
  | y :: t, s + 1, x, h, hx => by
    have := valB_lt1 t s x (by simpa using h) hx
    rw [Nat.pow_succ, valB]
    omega
theorem valB_fits {l : List Nat} {s x : Nat} (hs : s ≤ 9) (h : l[s]? = some x) (h9 : s = 9 → x ≤ 1) : valB l s < 18446744073709551616 := by
  by_cases e : s = 9
  · subst e
    have := valB_lt1 l 9 x h (h9 rfl)
    omega
  · have h1 := valB_lt l s
    have h2 := Nat.pow_le_pow_right (n := 128) (by decide) (show s + 1 ≤ 9 by omega)
    omega
theorem drop_head {l : List Nat} {i : Nat} (h : i < l.length) : ∃ x, l[i]? = some x ∧ l.drop i = x :: l.drop (i + 1) := ⟨l[i], by simp [h], List.drop_eq_getElem_cons h⟩
theorem valB_drop {l : List Nat} {i j x : Nat} (h : l[i]? = some x) : valB (l.drop i) (j + 1) = x % 128 + 128 * valB (l.drop (i + 1)) j := by
  have hl : i < l.length := by
    rcases Nat.lt_or_ge i l.length with h1 | h1
    · exact h1
    · rw [List.getElem?_eq_none h1] at h; cases h
  obtain ⟨y, hy, hd⟩ := drop_head hl
  rw [h] at hy
  cases hy
  rw [hd, valB]
theorem valB_last {l : List Nat} {i x : Nat} (h : l[i]? = some x) : valB (l.drop i) 0 = x % 128 := by
  have hl : i < l.length := by
    rcases Nat.lt_or_ge i l.length with h1 | h1
    · exact h1
    · rw [List.getElem?_eq_none h1] at h; cases h
  obtain ⟨y, hy, hd⟩ := drop_head hl
  rw [h] at hy
  cases hy
  rw [hd, valB]
end Go.Proofs.Ytlnfhlmgnppcbaa

/- Events as bytes: encoded, read; what is read is what was encoded, in one form. Plain theorems, no program. -/
namespace Go.Proofs.Ytlnfhlmgnppcbaa
set_option linter.unusedVariables false
set_option linter.unusedSimpArgs false
theorem intF_code : ∀ (u i z : Nat) (t : List Nat), (0 < i → u ≠ 0) → z + u * 2 ^ (7 * i) < 18446744073709551616 → intF i z (codeU u ++ t) = (unzz (z + u * 2 ^ (7 * i)), i + (codeU u).length, 0)
  | u, i, z, t, h0, hl => by
    have h10 : i ≠ 10 ∨ u = 0 := by
      rcases Nat.eq_zero_or_pos u with h | h
      · exact .inr h
      · left; intro e; subst e
        have : 1 * 2 ^ (7 * 10) ≤ u * 2 ^ (7 * 10) := Nat.mul_le_mul_right _ h
        have e2 : (2 : Nat) ^ (7 * 10) = 1180591620717411303424 := by decide
        rw [e2] at *
        omega
    have h11 : i ≠ 10 := fun e => by subst e; exact h0 (by decide) (h10.resolve_left (by simp))
    by_cases h : u < 128
    · rw [codeU_small h]
      show intF i z (u :: t) = _
      rw [intF_cons, if_neg h11, if_neg (by omega), if_neg]
      · simp
      · rintro (⟨h1, h2⟩ | ⟨rfl, h2⟩)
        · exact h0 h1 h2
        · have : 2 * 2 ^ (7 * 9) ≤ u * 2 ^ (7 * 9) := Nat.mul_le_mul_right _ h2
          rw [pow_9] at *
          omega
    · rw [codeU_big h]
      show intF i z ((u % 128 + 128) :: (codeU (u / 128) ++ t)) = _
      have e1 : z + (u % 128 + 128 - 128) * 2 ^ (7 * i) + u / 128 * 2 ^ (7 * (i + 1)) = z + u * 2 ^ (7 * i) := by
        rw [pow_step, Nat.add_sub_cancel, Nat.add_assoc, ← Nat.mul_assoc, ← Nat.add_mul]
        congr 2
        omega
      rw [intF_cons, if_neg h11, if_pos (by omega), intF_code (u / 128) (i + 1) _ t (fun _ => by omega) (by rw [e1]; exact hl), e1, List.length_cons]
      congr 2; omega
termination_by u => u
decreasing_by omega
theorem intF_form : ∀ (l : List Nat) (i z : Nat) (n : Int) (k : Nat), (∀ x ∈ l, x < 256) → intF i z l = (n, k, 0) → ∃ u, l.take (k - i) = codeU u ∧ n = unzz (z + u * 2 ^ (7 * i)) ∧ (0 < i → u ≠ 0) ∧ k = i + (codeU u).length
  | [], i, z, n, k, _, h => by
    rw [intF_nil] at h
    split at h <;> simp at h
  | x :: t, i, z, n, k, hb, h => by
    rw [intF_cons] at h
    split at h
    · simp at h
    · split at h
      · rename_i h1 h2
        obtain ⟨u, e1, e2, e3, e4⟩ := intF_form t (i + 1) _ n k (fun y hy => hb y (by simp [hy])) h
        have hx := hb x (by simp)
        have hu := e3 (by omega)
        have e5 : codeU ((x - 128) + 128 * u) = x :: codeU u := by
          rw [codeU_big (by omega), show ((x - 128) + 128 * u) % 128 + 128 = x by omega, show ((x - 128) + 128 * u) / 128 = u by omega]
        refine ⟨(x - 128) + 128 * u, ?_, ?_, fun _ => by omega, ?_⟩
        · rw [e5, ← e1, show k - i = (k - (i + 1)) + 1 by have := codeU_pos u; omega, List.take_succ_cons]
        · rw [e2, pow_step, Nat.add_mul, ← Nat.add_assoc, ← Nat.mul_assoc, Nat.mul_comm u 128]
        · rw [e5, List.length_cons, e4]; omega
      · split at h
        · simp at h
        · rename_i h1 h2 h3
          injection h with e1 e2
          injection e2 with e2 e3
          refine ⟨x, ?_, e1.symm, fun h0 hx => h3 (.inl ⟨h0, hx⟩), ?_⟩
          · rw [codeU_small (by omega), ← e2]; simp
          · rw [codeU_small (by omega), ← e2]; simp
/-- The number at an index where its bytes stand. -/
theorem intE_code {pre t : List Nat} {m : Int} (h1 : -9223372036854775808 ≤ m) (h2 : m ≤ 9223372036854775807) : intE (pre ++ (codeN m ++ t)) pre.length = (m, ((pre.length + (codeN m).length : Nat) : Int), 0) := by
  have hz := zz_lt h1 h2
  have h := intF_code (zz m) 0 0 t (fun h => absurd h (by decide)) (by simpa using hz)
  unfold intE
  rw [if_neg (by simp only [List.length_append]; omega), Int.toNat_natCast, List.drop_left]
  have h' : intF 0 0 (codeN m ++ t) = (m, (codeN m).length, 0) := by
    unfold codeN; rw [h]; simp [unzz_zz]
  rw [h']
  simp
/-- What was read stands there. -/
theorem intE_form {l : List Nat} (hb : ∀ x ∈ l, x < 256) {a : Int} (h : (intE l a).2.2 = 0) : ∃ p, a = (p : Nat) ∧ p ≤ l.length ∧ ∃ t, l.drop p = codeN (intE l a).1 ++ t ∧ (intE l a).2.1 = ((p + (codeN (intE l a).1).length : Nat) : Int) := by
  unfold intE at h ⊢
  split at h
  · simp at h
  · rename_i h1
    rw [if_neg h1]
    split at h
    · rename_i h2
      rw [if_pos h2]
      refine ⟨a.toNat, by omega, by omega, ?_⟩
      rcases he : intF 0 0 (l.drop a.toNat) with ⟨n, k, e⟩
      rw [he] at h2
      dsimp only at h2 ⊢
      subst h2
      obtain ⟨u, e1, e2, e3, e4⟩ := intF_form _ 0 0 n k (fun x hx => hb x (List.mem_of_mem_drop hx)) he
      have en : codeN n = codeU u := by unfold codeN; rw [e2]; simp [zz_unzz]
      refine ⟨(l.drop a.toNat).drop k, ?_, ?_⟩
      · rw [en, ← e1, Nat.sub_zero, List.take_append_drop]
      · rw [en, e4]; omega
    · rename_i h2
      exact absurd h h2
theorem intE_bd (l : List Nat) (a : Int) : (intE l a).2.2 = 0 ∧ 0 ≤ (intE l a).2.1 ∧ (intE l a).2.1 ≤ l.length ∧ 0 ≤ a ∨ (intE l a).1 = 0 ∧ (intE l a).2.1 = 0 ∧ ((intE l a).2.2 = 1 ∨ (intE l a).2.2 = 3 ∨ (intE l a).2.2 = 4) := by
  unfold intE
  split
  · right; simp
  · rename_i h1
    rcases intF_err (l.drop a.toNat) 0 0 with ⟨e1, e2, e3⟩ | ⟨e1, e2, e3⟩
    · rw [if_pos e1]
      left
      rw [List.length_drop] at e3
      refine ⟨rfl, ?_, ?_, by omega⟩ <;> dsimp only <;> omega
    · rw [if_neg (by omega)]
      right
      refine ⟨rfl, rfl, by dsimp only; omega⟩
theorem intF_in : ∀ (l : List Nat) (i z : Nat), (∀ x ∈ l, x < 256) → (i ≤ 9 → z < 2 ^ (7 * i)) → i ≤ 10 → -9223372036854775808 ≤ (intF i z l).1 ∧ (intF i z l).1 ≤ 9223372036854775807
  | [], i, z, _, _, _ => by rw [intF_nil]; split <;> simp
  | x :: t, i, z, hb, hz, hi => by
    rw [intF_cons]
    split
    · simp
    · split
      · rename_i h1 h2
        have hx := hb x (by simp)
        by_cases h9 : i = 9
        · subst h9
          rw [show 9 + 1 = 10 from rfl, intF_ten _ 0]
          exact intF_in t 10 0 (fun y hy => hb y (by simp [hy])) (fun h => absurd h (by decide)) (by decide)
        · exact intF_in t (i + 1) _ (fun y hy => hb y (by simp [hy])) (fun _ => by
            have := hz (by omega)
            rw [pow_step]
            have : (x - 128) * 2 ^ (7 * i) ≤ 127 * 2 ^ (7 * i) := Nat.mul_le_mul_right _ (by omega)
            omega) (by omega)
      · split
        · simp
        · rename_i h1 h2 h3
          dsimp only
          exact unzz_in (read_fits (i := i) (by omega) (hz (by omega)) (by omega) (by omega)).1
theorem intE_in' (l : List Nat) (hb : ∀ x ∈ l, x < 256) (a : Int) : -9223372036854775808 ≤ (intE l a).1 ∧ (intE l a).1 ≤ 9223372036854775807 := by
  unfold intE
  split
  · simp
  · split
    · exact intF_in _ 0 0 (fun x hx => hb x (List.mem_of_mem_drop hx)) (fun _ => by decide) (by decide)
    · simp
/-! Events. -/
def nums (v : Ev) : List Int := [v.dev, v.seq, v.at', v.late, v.kind, v.bike, v.place, v.rider, v.ride]
def ofNums (l : List Int) : Ev := ⟨l.getD 0 0, l.getD 1 0, l.getD 2 0, l.getD 3 0, l.getD 4 0, l.getD 5 0, l.getD 6 0, l.getD 7 0, l.getD 8 0⟩
theorem ofNums_nums (v : Ev) : ofNums (nums v) = v := rfl
theorem nums_ofNums : ∀ {l : List Int}, l.length = 9 → nums (ofNums l) = l
  | [_, _, _, _, _, _, _, _, _], _ => rfl
def inN (v : Ev) : Prop := ∀ x ∈ nums v, -9223372036854775808 ≤ x ∧ x ≤ 9223372036854775807
def encL : List Int → List Nat
  | [] => []
  | m :: t => codeN m ++ encL t
theorem encL_app : ∀ (a b : List Int), encL (a ++ b) = encL a ++ encL b
  | [], b => rfl
  | m :: t, b => by show codeN m ++ encL (t ++ b) = _; rw [encL_app t b]; simp [encL]
theorem encL_snoc (a : List Int) (m : Int) : encL (a ++ [m]) = encL a ++ codeN m := by rw [encL_app]; simp [encL]
theorem encL_byte : ∀ (a : List Int), ∀ x ∈ encL a, x < 256
  | [], x, h => by simp [encL] at h
  | m :: t, x, h => by
    rcases List.mem_append.1 h with h | h
    · exact codeN_byte m x h
    · exact encL_byte t x h
theorem encL_len : ∀ (a : List Int), (∀ x ∈ a, -9223372036854775808 ≤ x ∧ x ≤ 9223372036854775807) → (encL a).length ≤ 10 * a.length
  | [], _ => by simp [encL]
  | m :: t, h => by
    have h1 := codeN_len (h m (by simp)).1 (h m (by simp)).2
    have h2 := encL_len t (fun x hx => h x (by simp [hx]))
    show (codeN m ++ encL t).length ≤ _
    rw [List.length_append, List.length_cons]; omega
def encE (v : Ev) : List Nat := encL (nums v)
theorem encE_len {v : Ev} (h : inN v) : (encE v).length ≤ 90 := encL_len (nums v) h
theorem take_succ_get {l : List Int} {j : Nat} (h : j < l.length) : l.take (j + 1) = l.take j ++ [l.getD j 0] := by
  rw [List.take_succ_eq_append_getElem h]; simp [List.getD, h]
/-- k numbers from an index on, behind those that stand read. -/
def readL (l : List Nat) : Nat → Int → List Int → List Int × Int × Int
  | 0, a, acc => (acc, a, 0)
  | k + 1, a, acc => if (intE l a).2.2 = 0 then readL l k (intE l a).2.1 (acc ++ [(intE l a).1]) else ([], 0, (intE l a).2.2)
theorem readL_step {l : List Nat} {k : Nat} {a : Int} {acc : List Int} (h : (intE l a).2.2 = 0) : readL l (k + 1) a acc = readL l k (intE l a).2.1 (acc ++ [(intE l a).1]) := by rw [readL, if_pos h]
theorem readL_stop {l : List Nat} {k : Nat} {a : Int} {acc : List Int} (h : (intE l a).2.2 ≠ 0) : readL l (k + 1) a acc = ([], 0, (intE l a).2.2) := by rw [readL, if_neg h]
def zeroE : Ev := ⟨0, 0, 0, 0, 0, 0, 0, 0, 0⟩
def decE (l : List Nat) : Ev × Int :=
  if (readL l 9 0 []).2.2 ≠ 0 then (zeroE, (readL l 9 0 []).2.2) else if (readL l 9 0 []).2.1 ≠ l.length then (zeroE, 3) else (ofNums (readL l 9 0 []).1, 0)
theorem readL_code : ∀ (ms : List Int) (pre t : List Nat) (acc : List Int), (∀ x ∈ ms, -9223372036854775808 ≤ x ∧ x ≤ 9223372036854775807) → readL (pre ++ (encL ms ++ t)) ms.length pre.length acc = (acc ++ ms, ((pre.length + (encL ms).length : Nat) : Int), 0)
  | [], pre, t, acc, _ => by simp [readL, encL]
  | m :: ms, pre, t, acc, h => by
    have hm := h m (by simp)
    have e1 : pre ++ (encL (m :: ms) ++ t) = pre ++ (codeN m ++ (encL ms ++ t)) := by simp [encL]
    have hi := intE_code (pre := pre) (t := encL ms ++ t) hm.1 hm.2
    rw [List.length_cons, e1, readL_step (by rw [hi]), hi]
    have e2 : pre ++ (codeN m ++ (encL ms ++ t)) = (pre ++ codeN m) ++ (encL ms ++ t) := by simp
    have ih := readL_code ms (pre ++ codeN m) t (acc ++ [m]) (fun x hx => h x (by simp [hx]))
    rw [List.length_append] at ih
    dsimp only
    rw [e2, ih]
    simp [encL]; omega
theorem dec_enc {v : Ev} (h : inN v) : decE (encE v) = (v, 0) := by
  have hr := readL_code (nums v) [] [] [] h
  simp only [List.nil_append, List.append_nil, List.length_nil, Nat.zero_add] at hr
  have hr' : readL (encE v) 9 0 [] = (nums v, ((encE v).length : Int), 0) := hr
  unfold decE
  rw [hr']
  simp [ofNums_nums]
theorem readL_form (l : List Nat) (hb : ∀ x ∈ l, x < 256) : ∀ (k p : Nat) (acc : List Int), p ≤ l.length → l.take p = encL acc → (readL l k p acc).2.2 = 0 → ∃ q : Nat, (readL l k p acc).2.1 = (q : Int) ∧ q ≤ l.length ∧ l.take q = encL (readL l k p acc).1 ∧ (readL l k p acc).1.length = acc.length + k
  | 0, p, acc, hp, ht, h => ⟨p, rfl, hp, ht, rfl⟩
  | k + 1, p, acc, hp, ht, h => by
    by_cases h0 : (intE l p).2.2 = 0
    · rw [readL_step h0] at h ⊢
      obtain ⟨p', e1, e2, t, e3, e4⟩ := intE_form hb h0
      have : p' = p := by omega
      subst this
      have hlen := congrArg List.length e3
      rw [List.length_drop, List.length_append] at hlen
      rw [e4] at h ⊢
      have ht' : l.take (p' + (codeN (intE l p').1).length) = encL (acc ++ [(intE l p').1]) := by
        rw [encL_snoc, ← ht, List.take_add, e3, List.take_left]
      obtain ⟨q, q1, q2, q3, q4⟩ := readL_form l hb k _ _ (by omega) ht' h
      exact ⟨q, q1, q2, q3, by rw [q4]; simp; omega⟩
    · rw [readL_stop h0] at h
      exact absurd h h0
theorem enc_dec {l : List Nat} (hb : ∀ x ∈ l, x < 256) (h : (decE l).2 = 0) : encE (decE l).1 = l := by
  unfold decE at h ⊢
  split at h
  · rename_i h1; exact absurd h h1
  · rename_i h1
    split at h
    · simp at h
    · rename_i h2
      rw [if_neg h1, if_neg h2]
      have hf : (readL l 9 0 []).2.2 = 0 → ∃ q : Nat, (readL l 9 0 []).2.1 = (q : Int) ∧ q ≤ l.length ∧ l.take q = encL (readL l 9 0 []).1 ∧ (readL l 9 0 []).1.length = 0 + 9 := readL_form l hb 9 0 [] (by omega) rfl
      obtain ⟨q, q1, q2, q3, q4⟩ := hf (Decidable.not_not.1 h1)
      dsimp only
      unfold encE
      rw [nums_ofNums (by rw [q4]), ← q3]
      have : q = l.length := by omega
      rw [this, List.take_length]
theorem dec_err (l : List Nat) : (decE l).2 ≠ 0 → (decE l).1 = zeroE := by
  unfold decE
  split
  · intro _; rfl
  · split
    · intro _; rfl
    · intro h; exact absurd rfl h
end Go.Proofs.Ytlnfhlmgnppcbaa

/- Checksums: the register a byte at a time by a table, and bit by bit. Plain theorems, no program. -/
namespace Go.Proofs.Ytlnfhlmgnppcbaa
set_option linter.unusedVariables false
/-- One bit of the register. -/
def cstep (x : Nat) : Nat := if x % 2 = 1 then (x / 2) ^^^ 3988292384 else x / 2
def cN : Nat → Nat → Nat
  | 0, x => x
  | k + 1, x => cN k (cstep x)
theorem cN_last : ∀ (k x : Nat), cN (k + 1) x = cstep (cN k x)
  | 0, _ => rfl
  | k + 1, x => by
    show cN (k + 1) (cstep x) = cstep (cN k (cstep x))
    exact cN_last k (cstep x)
theorem xor_mod2 (a b : Nat) : (a ^^^ b) % 2 = (a % 2 + b % 2) % 2 := by
  have h : ∀ n : Nat, n % 2 = (n.testBit 0).toNat := fun n => by
    rw [Nat.testBit_zero]
    rcases Nat.mod_two_eq_zero_or_one n with h | h <;> simp [h]
  rw [h (a ^^^ b), Nat.testBit_xor, h a, h b]
  cases a.testBit 0 <;> cases b.testBit 0 <;> rfl
theorem xor_mid (a b c d : Nat) : (a ^^^ b) ^^^ (c ^^^ d) = (a ^^^ c) ^^^ (b ^^^ d) := by
  rw [Nat.xor_assoc, Nat.xor_assoc, ← Nat.xor_assoc b c d, Nat.xor_comm b c, Nat.xor_assoc]
theorem cstep_xor (a b : Nat) : cstep (a ^^^ b) = cstep a ^^^ cstep b := by
  unfold cstep
  rw [xor_mod2, Nat.xor_div_two]
  rcases Nat.mod_two_eq_zero_or_one a with ha | ha <;> rcases Nat.mod_two_eq_zero_or_one b with hb | hb
  · simp [ha, hb]
  · simp [ha, hb, Nat.xor_assoc]
  · simp only [ha, hb]
    show (a / 2 ^^^ b / 2) ^^^ 3988292384 = (a / 2 ^^^ 3988292384) ^^^ b / 2
    rw [Nat.xor_assoc, Nat.xor_assoc, Nat.xor_comm (b / 2)]
  · simp only [ha, hb]
    show a / 2 ^^^ b / 2 = (a / 2 ^^^ 3988292384) ^^^ (b / 2 ^^^ 3988292384)
    rw [xor_mid, Nat.xor_self, Nat.xor_zero]
theorem cN_xor : ∀ (k a b : Nat), cN k (a ^^^ b) = cN k a ^^^ cN k b
  | 0, _, _ => rfl
  | k + 1, a, b => by show cN k (cstep (a ^^^ b)) = _; rw [cstep_xor, cN_xor k]; rfl
theorem cN_shift : ∀ (k y : Nat), cN k (2 ^ k * y) = y
  | 0, y => by simp [cN]
  | k + 1, y => by
    show cN k (cstep (2 ^ (k + 1) * y)) = y
    have e : 2 ^ (k + 1) * y = 2 * (2 ^ k * y) := by rw [Nat.pow_succ, Nat.mul_comm (2 ^ k) 2, Nat.mul_assoc]
    have : cstep (2 ^ (k + 1) * y) = 2 ^ k * y := by
      unfold cstep
      rw [e, if_neg (by omega)]
      omega
    rw [this]; exact cN_shift k y
theorem hi_lo (x : Nat) : (2 ^ 8 * (x / 256)) ^^^ (x % 256) = x := by
  apply Nat.eq_of_testBit_eq
  intro i
  rw [Nat.testBit_xor, Nat.testBit_two_pow_mul, show (256 : Nat) = 2 ^ 8 from rfl, Nat.testBit_mod_two_pow, Nat.testBit_div_two_pow]
  by_cases h : i < 8
  · simp [h, show ¬ 8 ≤ i by omega]
  · simp [h, show 8 ≤ i by omega, show i - 8 + 8 = i by omega]
/-- The table's entry. -/
def tab (i : Nat) : Nat := cN 8 i
theorem crc_step (x c : Nat) : cN 8 (x ^^^ c) = (x / 256) ^^^ tab ((x % 256) ^^^ c) := by
  have e : x ^^^ c = (2 ^ 8 * (x / 256)) ^^^ ((x % 256) ^^^ c) := by rw [← Nat.xor_assoc, hi_lo]
  rw [e, cN_xor, cN_shift]
  rfl
theorem cstep_lt {x : Nat} (h : x < 4294967296) : cstep x < 4294967296 := by
  unfold cstep
  split
  · exact Nat.xor_lt_two_pow (n := 32) (by omega) (by decide)
  · omega
theorem cN_lt : ∀ (k : Nat) {x : Nat}, x < 4294967296 → cN k x < 4294967296
  | 0, _, h => h
  | k + 1, _, h => cN_lt k (cstep_lt h)
/-- The register behind bytes. -/
def crcS (s : Nat) : List Nat → Nat
  | [] => s
  | c :: t => crcS (cN 8 (s ^^^ c)) t
theorem crcS_snoc : ∀ (l : List Nat) (s c : Nat), crcS s (l ++ [c]) = cN 8 (crcS s l ^^^ c)
  | [], _, _ => rfl
  | x :: t, s, c => by show crcS _ (t ++ [c]) = _; rw [crcS_snoc t]; rfl
theorem crcS_lt : ∀ (l : List Nat) {s : Nat}, s < 4294967296 → (∀ c ∈ l, c < 256) → crcS s l < 4294967296
  | [], _, h, _ => h
  | x :: t, s, h, hb => crcS_lt t (cN_lt 8 (Nat.xor_lt_two_pow (n := 32) h (by have := hb x (by simp); omega))) (fun c hc => hb c (by simp [hc]))
/-- The sum of bytes. -/
def sumB (l : List Nat) : Nat := 4294967295 - crcS 4294967295 l
theorem sumB_lt (l : List Nat) : sumB l < 4294967296 := by unfold sumB; omega
theorem not32 {x : Nat} (h : x < 4294967296) : x ^^^ 4294967295 = 4294967295 - x := by
  have e : (BitVec.ofNat 32 x).toNat = x := by rw [BitVec.toNat_ofNat]; exact Nat.mod_eq_of_lt (by omega)
  have := BitVec.toNat_not (x := BitVec.ofNat 32 x)
  rw [← BitVec.xor_allOnes, BitVec.toNat_xor, BitVec.toNat_allOnes, e] at this
  exact this
/-- The four bytes of a sum. -/
def tailB (n : Nat) : List Nat := [n % 256, n / 256 % 256, n / 65536 % 256, n / 16777216 % 256]
theorem tailB_byte (n : Nat) : ∀ x ∈ tailB n, x < 256 := by
  intro x hx
  simp [tailB] at hx
  omega
end Go.Proofs.Ytlnfhlmgnppcbaa

/- Frames and journals: bytes in frames, events in frames, what is read of bytes. Plain theorems, no program. -/
namespace Go.Proofs.Ytlnfhlmgnppcbaa
set_option linter.unusedVariables false
set_option linter.unusedSimpArgs false
/-- The frame of a content. -/
def sealB (l : List Nat) : List Nat := codeN (l.length : Int) ++ (l ++ tailB (sumB l))
theorem tailB_len (n : Nat) : (tailB n).length = 4 := rfl
theorem sealB_len (l : List Nat) : (sealB l).length = (codeN (l.length : Int)).length + l.length + 4 := by
  unfold sealB; simp only [List.length_append, tailB_len]; omega
theorem sealB_byte {l : List Nat} (h : ∀ x ∈ l, x < 256) : ∀ x ∈ sealB l, x < 256 := by
  intro x hx
  unfold sealB at hx
  rcases List.mem_append.1 hx with hx | hx
  · exact codeN_byte _ x hx
  · rcases List.mem_append.1 hx with hx | hx
    · exact h x hx
    · exact tailB_byte _ x hx
/-- What opening the frame at an index hands back: content, the index behind it, error. -/
def openE (L : List Nat) (a : Int) : List Nat × Int × Int :=
  if (intE L a).2.2 ≠ 0 then ([], 0, (intE L a).2.2)
  else if (intE L a).1 < 0 ∨ 65536 < (intE L a).1 then ([], 0, 3)
  else if (L.length : Int) - (intE L a).2.1 < (intE L a).1 + 4 then ([], 0, 4)
  else if (L.drop ((intE L a).2.1.toNat + (intE L a).1.toNat)).take 4 = tailB (sumB ((L.drop (intE L a).2.1.toNat).take (intE L a).1.toNat))
    then ((L.drop (intE L a).2.1.toNat).take (intE L a).1.toNat, (intE L a).2.1 + (intE L a).1 + 4, 0) else ([], 0, 13)
theorem code_free {m m' : Int} {x y : List Nat} (h1 : -9223372036854775808 ≤ m) (h2 : m ≤ 9223372036854775807) (h3 : -9223372036854775808 ≤ m') (h4 : m' ≤ 9223372036854775807) (h : codeN m ++ x = codeN m' ++ y) : m = m' ∧ x = y := by
  have e1 := intE_code (pre := []) (t := x) h1 h2
  have e2 := intE_code (pre := []) (t := y) h3 h4
  simp only [List.nil_append] at e1 e2
  rw [h] at e1
  rw [e1] at e2
  have e3 : m = m' := congrArg (·.1) e2
  subst e3
  exact ⟨rfl, List.append_cancel_left h⟩
theorem seal_free {c c' x y : List Nat} (h1 : c.length ≤ 65536) (h2 : c'.length ≤ 65536) (h : sealB c ++ x = sealB c' ++ y) : c = c' ∧ x = y := by
  unfold sealB at h
  simp only [List.append_assoc] at h
  obtain ⟨e1, e2⟩ := code_free (m := (c.length : Int)) (m' := (c'.length : Int)) (by omega) (by omega) (by omega) (by omega) h
  have e3 : c.length = c'.length := by omega
  obtain ⟨e4, e5⟩ := List.append_inj e2 e3
  subst e4
  exact ⟨rfl, List.append_cancel_left e5⟩
theorem open_seal {pre c t : List Nat} (h : c.length ≤ 65536) : openE (pre ++ (sealB c ++ t)) pre.length = (c, ((pre.length + (sealB c).length : Nat) : Int), 0) := by
  have e0 : pre ++ (sealB c ++ t) = pre ++ (codeN (c.length : Int) ++ (c ++ (tailB (sumB c) ++ t))) := by unfold sealB; simp
  have e1 := intE_code (pre := pre) (t := c ++ (tailB (sumB c) ++ t)) (m := (c.length : Int)) (by omega) (by omega)
  rw [← e0] at e1
  have hlen : (pre ++ (sealB c ++ t)).length = pre.length + (codeN (c.length : Int)).length + c.length + 4 + t.length := by
    rw [List.length_append, List.length_append, sealB_len]; omega
  have d1 : (pre ++ (sealB c ++ t)).drop (pre.length + (codeN (c.length : Int)).length) = c ++ (tailB (sumB c) ++ t) := by
    rw [e0, ← List.append_assoc, ← List.length_append, List.drop_left]
  have d2 : (pre ++ (sealB c ++ t)).drop (pre.length + (codeN (c.length : Int)).length + c.length) = tailB (sumB c) ++ t := by
    rw [← List.drop_drop, d1, List.drop_left]
  unfold openE
  rw [e1]
  dsimp only
  rw [if_neg (by simp), if_neg (by omega), if_neg (by rw [hlen]; omega), Int.toNat_natCast, Int.toNat_natCast, d1, d2]
  have t4 : (tailB (sumB c) ++ t).take 4 = tailB (sumB c) := by rw [show 4 = (tailB (sumB c)).length from rfl, List.take_left]
  rw [List.take_left, t4, if_pos rfl]
  congr 2
  rw [sealB_len]; omega
theorem open_form {L : List Nat} (hb : ∀ x ∈ L, x < 256) {a : Int} (h : (openE L a).2.2 = 0) : ∃ (p : Nat) (t : List Nat), a = p ∧ p ≤ L.length ∧ L.drop p = sealB (openE L a).1 ++ t ∧ (openE L a).2.1 = ((p + (sealB (openE L a).1).length : Nat) : Int) ∧ (openE L a).1.length ≤ 65536 := by
  unfold openE at h ⊢
  split at h
  · rename_i h1; exact absurd h h1
  · rename_i h1
    rw [if_neg h1]
    have h1 := Decidable.not_not.1 h1
    split at h
    · simp at h
    · rename_i h2
      rw [if_neg h2]
      split at h
      · simp at h
      · rename_i h3
        rw [if_neg h3]
        split at h
        · rename_i h4
          rw [if_pos h4]
          obtain ⟨p, e1, e2, t, e3, e4⟩ := intE_form hb h1
          generalize (intE L a).1 = n at *
          generalize (intE L a).2.1 = to at *
          obtain ⟨k, rfl⟩ := Int.eq_ofNat_of_zero_le (show 0 ≤ n by omega)
          subst e4
          rw [Int.toNat_natCast, Int.toNat_natCast] at h4
          dsimp only
          rw [Int.toNat_natCast, Int.toNat_natCast]
          have d1 : L.drop (p + (codeN (k : Int)).length) = t := by rw [← List.drop_drop, e3, List.drop_left]
          have d2 : L.drop (p + (codeN (k : Int)).length + k) = t.drop k := by rw [← List.drop_drop, d1]
          rw [d2] at h4
          rw [d1] at h4 ⊢
          have hlt := congrArg List.length d1
          rw [List.length_drop] at hlt
          have hk : (t.take k).length = k := by rw [List.length_take]; omega
          refine ⟨p, (t.drop k).drop 4, e1, e2, ?_, ?_, by rw [hk]; omega⟩
          · rw [e3]
            unfold sealB
            rw [hk, ← h4, List.append_assoc, List.append_assoc, List.take_append_drop, List.take_append_drop]
          · rw [sealB_len, hk]; omega
        · simp at h
theorem open_err {L : List Nat} {a : Int} (h : (openE L a).2.2 ≠ 0) : (openE L a).1 = [] ∧ (openE L a).2.1 = 0 := by
  unfold openE at h ⊢
  split
  · exact ⟨rfl, rfl⟩
  · split
    · exact ⟨rfl, rfl⟩
    · split
      · exact ⟨rfl, rfl⟩
      · split
        · rename_i h1 h2 h3 h4
          rw [if_neg h1, if_neg h2, if_neg h3, if_pos h4] at h
          exact absurd rfl h
        · exact ⟨rfl, rfl⟩
/-! Events in frames. -/
def okN (x : Int) : Bool := decide (-1125899906842624 ≤ x) && decide (x ≤ 1125899906842624)
def framedB (v : Ev) : Bool := (nums v).all okN
theorem framed_in {v : Ev} (h : framedB v = true) : inN v := fun x hx => by
  have := List.all_eq_true.1 h x hx
  simp [okN] at this
  omega
def frameB (v : Ev) : List Nat := sealB (encE v)
theorem frameB_byte (v : Ev) : ∀ x ∈ frameB v, x < 256 := sealB_byte (encL_byte _)
def framesB : List Ev → List Nat
  | [] => []
  | v :: t => frameB v ++ framesB t
theorem framesB_app : ∀ (a b : List Ev), framesB (a ++ b) = framesB a ++ framesB b
  | [], b => rfl
  | v :: t, b => by show frameB v ++ framesB (t ++ b) = _; rw [framesB_app t b]; simp [framesB]
theorem framesB_byte : ∀ (l : List Ev), ∀ x ∈ framesB l, x < 256
  | [], x, h => by simp [framesB] at h
  | v :: t, x, h => by
    rcases List.mem_append.1 h with h | h
    · exact frameB_byte v x h
    · exact framesB_byte t x h
theorem frameB_len {v : Ev} (h : inN v) : (frameB v).length ≤ 104 := by
  have h1 := encE_len h
  have h2 := codeN_len (n := ((encE v).length : Int)) (by omega) (by omega)
  unfold frameB; rw [sealB_len]; omega
theorem framesB_len : ∀ {l : List Ev}, (∀ v ∈ l, framedB v = true) → (framesB l).length ≤ 104 * l.length
  | [], _ => by simp [framesB]
  | v :: t, h => by
    have h1 := frameB_len (framed_in (h v (by simp)))
    have h2 := framesB_len (l := t) (fun x hx => h x (by simp [hx]))
    show (frameB v ++ framesB t).length ≤ _
    rw [List.length_append, List.length_cons]; omega
def writeE (l : List Ev) : List Nat × Int := if l.all framedB = false then ([], 1) else if 512 < l.length then ([], 8) else (framesB l, 0)
/-- What is read: k events at most, from an index on, behind those that stand read. -/
def readJ (L : List Nat) : Nat → Int → List Ev → List Ev × Int
  | 0, a, acc => (acc, a)
  | k + 1, a, acc => if (openE L a).2.2 ≠ 0 then (acc, a) else if (decE (openE L a).1).2 ≠ 0 ∨ framedB (decE (openE L a).1).1 = false then (acc, a)
    else readJ L k (openE L a).2.1 (acc ++ [(decE (openE L a).1).1])
theorem readJ_open {L : List Nat} {k : Nat} {a : Int} {acc : List Ev} (h : (openE L a).2.2 ≠ 0) : readJ L (k + 1) a acc = (acc, a) := by rw [readJ, if_pos h]
theorem readJ_dec {L : List Nat} {k : Nat} {a : Int} {acc : List Ev} (h : (openE L a).2.2 = 0) (h2 : (decE (openE L a).1).2 ≠ 0 ∨ framedB (decE (openE L a).1).1 = false) : readJ L (k + 1) a acc = (acc, a) := by
  rw [readJ, if_neg (by simp [h]), if_pos h2]
theorem readJ_step {L : List Nat} {k : Nat} {a : Int} {acc : List Ev} (h : (openE L a).2.2 = 0) (h2 : (decE (openE L a).1).2 = 0) (h3 : framedB (decE (openE L a).1).1 = true) : readJ L (k + 1) a acc = readJ L k (openE L a).2.1 (acc ++ [(decE (openE L a).1).1]) := by
  rw [readJ, if_neg (by simp [h]), if_neg (by simp [h2, h3])]
def readE (L : List Nat) : List Ev × Int := readJ L 512 0 []
/-- A frame that stands whole is read. -/
theorem readJ_frame {pre t : List Nat} {v : Ev} {k : Nat} {acc : List Ev} (hv : framedB v = true) : readJ (pre ++ (frameB v ++ t)) (k + 1) pre.length acc = readJ (pre ++ (frameB v ++ t)) k ((pre ++ frameB v).length : Nat) (acc ++ [v]) := by
  have h1 := encE_len (framed_in hv)
  have ho := open_seal (pre := pre) (c := encE v) (t := t) (by omega)
  have ho' : openE (pre ++ (frameB v ++ t)) pre.length = (encE v, ((pre.length + (frameB v).length : Nat) : Int), 0) := ho
  have hd := dec_enc (framed_in hv)
  rw [readJ_step (by rw [ho']) (by rw [ho', hd]) (by rw [ho', hd]; exact hv), ho', hd, List.length_append]
theorem readJ_frames : ∀ (l : List Ev) (pre t : List Nat) (k : Nat) (acc : List Ev), (∀ v ∈ l, framedB v = true) → readJ (pre ++ (framesB l ++ t)) (l.length + k) pre.length acc = readJ (pre ++ (framesB l ++ t)) k ((pre ++ framesB l).length : Nat) (acc ++ l)
  | [], pre, t, k, acc, _ => by simp [framesB]
  | v :: l, pre, t, k, acc, h => by
    have e : pre ++ (framesB (v :: l) ++ t) = pre ++ (frameB v ++ (framesB l ++ t)) := by simp [framesB]
    have e2 : pre ++ (frameB v ++ (framesB l ++ t)) = (pre ++ frameB v) ++ (framesB l ++ t) := by simp
    rw [e, List.length_cons, show l.length + 1 + k = (l.length + k) + 1 by omega, readJ_frame (h v (by simp)), e2, readJ_frames l (pre ++ frameB v) t k _ (fun x hx => h x (by simp [hx]))]
    simp [framesB]
/-- What was read stands there. -/
theorem readJ_form {L : List Nat} (hb : ∀ x ∈ L, x < 256) : ∀ (k p : Nat) (acc : List Ev), p ≤ L.length → L.take p = framesB acc → (∀ v ∈ acc, framedB v = true) →
    ∃ q : Nat, (readJ L k p acc).2 = q ∧ q ≤ L.length ∧ L.take q = framesB (readJ L k p acc).1 ∧ (∀ v ∈ (readJ L k p acc).1, framedB v = true) ∧ (readJ L k p acc).1.length ≤ acc.length + k
  | 0, p, acc, hp, ht, hf => ⟨p, rfl, hp, ht, hf, by simp [readJ]⟩
  | k + 1, p, acc, hp, ht, hf => by
    by_cases h0 : (openE L p).2.2 = 0
    · by_cases h1 : (decE (openE L p).1).2 ≠ 0 ∨ framedB (decE (openE L p).1).1 = false
      · rw [readJ_dec h0 h1]
        exact ⟨p, rfl, hp, ht, hf, by simp⟩
      · have h2 : (decE (openE L p).1).2 = 0 := Decidable.not_not.1 (fun h => h1 (.inl h))
        have h3 : framedB (decE (openE L p).1).1 = true := by
          cases h : framedB (decE (openE L p).1).1
          · exact absurd (.inr h) h1
          · rfl
        rw [readJ_step h0 h2 h3]
        obtain ⟨p', t, e1, e2, e3, e4, e5⟩ := open_form hb h0
        obtain rfl : p = p' := by omega
        rw [e4]
        have hcb : ∀ x ∈ (openE L p).1, x < 256 := fun x hx => hb x (by
          have h : x ∈ L.drop p := by rw [e3]; unfold sealB; simp [hx]
          exact List.mem_of_mem_drop h)
        have hed := enc_dec hcb h2
        have hlen := congrArg List.length e3
        rw [List.length_drop, List.length_append] at hlen
        have ht' : L.take (p + (sealB (openE L p).1).length) = framesB (acc ++ [(decE (openE L p).1).1]) := by
          rw [framesB_app, ← ht, List.take_add, e3, List.take_left]
          simp [framesB, frameB, hed]
        obtain ⟨q, q1, q2, q3, q4, q5⟩ := readJ_form hb k _ _ (by omega) ht' (fun v hv => by
          rcases List.mem_append.1 hv with h | h
          · exact hf v h
          · rw [List.mem_singleton.1 h]; exact h3)
        exact ⟨q, q1, q2, q3, q4, Nat.le_trans q5 (by simp; omega)⟩
    · rw [readJ_open h0]
      exact ⟨p, rfl, hp, ht, hf, by simp⟩
theorem readE_form {L : List Nat} (hb : ∀ x ∈ L, x < 256) : ∃ q : Nat, (readE L).2 = q ∧ q ≤ L.length ∧ L.take q = framesB (readE L).1 ∧ (∀ v ∈ (readE L).1, framedB v = true) ∧ (readE L).1.length ≤ 512 := by
  have h := readJ_form hb 512 0 [] (by omega) rfl (by simp)
  obtain ⟨q, q1, q2, q3, q4, q5⟩ := h
  exact ⟨q, q1, q2, q3, q4, by show (readJ L 512 0 []).1.length ≤ 512; simpa using q5⟩
/-- A frame of which something lacks is not opened. -/
theorem open_cut {pre : List Nat} {c : List Nat} (hc : ∀ x ∈ c, x < 256) (hp : ∀ x ∈ pre, x < 256) (h : c.length ≤ 65536) {j : Nat} (hj : j < (sealB c).length) : (openE (pre ++ (sealB c).take j) pre.length).2.2 ≠ 0 := fun h0 => by
  have hb : ∀ x ∈ pre ++ (sealB c).take j, x < 256 := fun x hx => by
    rcases List.mem_append.1 hx with h | h
    · exact hp x h
    · exact sealB_byte hc x (List.mem_of_mem_take h)
  obtain ⟨p, t, e1, e2, e3, e4, e5⟩ := open_form hb h0
  obtain rfl : pre.length = p := by omega
  rw [List.drop_left] at e3
  have e6 : sealB c ++ [] = sealB (openE (pre ++ (sealB c).take j) pre.length).1 ++ (t ++ (sealB c).drop j) := by
    rw [← List.append_assoc, ← e3, List.append_nil, List.take_append_drop]
  obtain ⟨e7, e8⟩ := seal_free h e5 e6
  have := congrArg List.length e8
  rw [List.length_append, List.length_drop] at this
  simp at this
  omega
/-- How many frames stand whole before a cut. -/
def wholeN : List Ev → Nat → Nat
  | [], _ => 0
  | v :: t, c => if (frameB v).length ≤ c then wholeN t (c - (frameB v).length) + 1 else 0
theorem wholeN_le : ∀ (l : List Ev) (c : Nat), wholeN l c ≤ l.length
  | [], _ => Nat.le_refl _
  | v :: t, c => by
    unfold wholeN
    split
    · have := wholeN_le t (c - (frameB v).length); simp; omega
    · simp
theorem wholeN_cut : ∀ (l : List Ev) (c : Nat), c ≤ (framesB l).length → ∃ t, (framesB l).take c = framesB (l.take (wholeN l c)) ++ t ∧ (t = [] ∨ ∃ v j, l[wholeN l c]? = some v ∧ j < (frameB v).length ∧ t = (frameB v).take j)
  | [], c, h => ⟨[], by simp [framesB], .inl rfl⟩
  | v :: l, c, h => by
    unfold wholeN
    split
    · rename_i hc
      have h' : c - (frameB v).length ≤ (framesB l).length := by
        have : (framesB (v :: l)).length = (frameB v).length + (framesB l).length := by simp [framesB]
        omega
      obtain ⟨t, e1, e2⟩ := wholeN_cut l (c - (frameB v).length) h'
      refine ⟨t, ?_, ?_⟩
      · show (frameB v ++ framesB l).take c = (frameB v ++ framesB (l.take _)) ++ t
        rw [List.take_append, List.take_of_length_le hc, e1, List.append_assoc]
      · simpa using e2
    · rename_i hc
      refine ⟨(frameB v).take c, ?_, .inr ⟨v, c, by simp, by omega, rfl⟩⟩
      show (frameB v ++ framesB l).take c = _
      rw [List.take_append_of_le_length (by omega)]
      simp [framesB]
/-- A cut journal is read up to its last whole frame. -/
theorem read_cut {l : List Ev} (hf : ∀ v ∈ l, framedB v = true) (hl : l.length ≤ 511) {c : Nat} (hc : c ≤ (framesB l).length) : readE ((framesB l).take c) = (l.take (wholeN l c), ((framesB (l.take (wholeN l c))).length : Int)) := by
  obtain ⟨t, e1, e2⟩ := wholeN_cut l c hc
  have hw := wholeN_le l c
  have hlen : (l.take (wholeN l c)).length = wholeN l c := by rw [List.length_take]; omega
  have hft : ∀ v ∈ l.take (wholeN l c), framedB v = true := fun v hv => hf v (List.mem_of_mem_take hv)
  have h := readJ_frames (l.take (wholeN l c)) [] t (512 - wholeN l c) [] hft
  rw [hlen, show wholeN l c + (512 - wholeN l c) = 512 by omega] at h
  simp only [List.nil_append, List.length_nil] at h
  unfold readE
  rw [e1]
  refine Eq.trans h ?_
  rw [show 512 - wholeN l c = (511 - wholeN l c) + 1 by omega, readJ_open]
  rcases e2 with rfl | ⟨v, j, hv, hj, rfl⟩
  · rw [List.append_nil]
    have : intE (framesB (l.take (wholeN l c))) ((framesB (l.take (wholeN l c))).length : Int) = (0, 0, 4) := by
      unfold intE
      rw [if_neg (by omega), Int.toNat_natCast, List.drop_length, intF_nil]
      rfl
    unfold openE
    rw [this]
    simp
  · have hv' : v ∈ l := List.mem_of_getElem? hv
    have h1 := encE_len (framed_in (hf v hv'))
    exact open_cut (c := encE v) (encL_byte _) (framesB_byte _) (by omega) hj
theorem read_frames {l : List Ev} (hf : ∀ v ∈ l, framedB v = true) (hl : l.length ≤ 512) : readE (framesB l) = (l, ((framesB l).length : Int)) := by
  have h := readJ_frames l [] [] (512 - l.length) [] hf
  rw [show l.length + (512 - l.length) = 512 by omega] at h
  simp only [List.nil_append, List.length_nil, List.append_nil] at h
  unfold readE
  refine Eq.trans h ?_
  rcases Nat.lt_or_ge l.length 512 with h5 | h5
  · rw [show 512 - l.length = (511 - l.length) + 1 by omega, readJ_open]
    have : intE (framesB l) ((framesB l).length : Int) = (0, 0, 4) := by
      unfold intE
      rw [if_neg (by omega), Int.toNat_natCast, List.drop_length, intF_nil]
      rfl
    unfold openE
    rw [this]
    simp
  · rw [show 512 - l.length = 0 by omega]; rfl
end Go.Proofs.Ytlnfhlmgnppcbaa

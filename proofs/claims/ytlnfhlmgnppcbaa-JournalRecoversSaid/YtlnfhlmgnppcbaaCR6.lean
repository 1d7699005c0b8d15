/- A journal's Append, both sides. -/
import Derived.Test.YtlnfhlmgnppcbaaCR5
namespace Go.Proofs.Ytlnfhlmgnppcbaa
open Go.RowKit Go.ChangeShapes Go.WideShapes Go.Deep
set_option linter.unusedVariables false
set_option linter.unusedSimpArgs false
theorem flat_cells {w : World} {ao : Option Addr} {n c : Nat} {B : Nat → Nat} (h : BSl w ao n c B) {g o : Nat} (e : ao = some ⟨g, o, none⟩) {j : Nat} {u : Value} (hu : (flat (bf B) n)[j]? = some u) : w.cell? ((⟨g, o, none⟩ : Addr).add j) = some u := by
  obtain ⟨k1, k2, k3⟩ := flat_at (bf_len B) hu
  obtain ⟨g', o', e', hc⟩ := h.cell k1
  rw [e] at e'
  cases e'
  have := hc _ k2
  rw [k3] at this
  rw [add_flat, show o + j = o + j / 1 * 1 + j % 1 by omega]
  exact this
/-- 'append' to bytes without room: new bytes. -/
theorem wpList_append_G {ops : Array Oper} {rest : List Oper} {o : Oper} {a : Act} {Q : Exit → Act → World → Prop} (w : World) (hgd : o.guard = none) (x1 x2 : Operand) (ho : o.op = .call { callee := .builtin .append, args := #[x1, x2], argTypes := #[22, 22] })
    (ao1 : Option Addr) (n : Nat) (A : Nat → Nat) (hs : a.eval x1 = .slice ao1 n n) (h1 : BSl w ao1 n n A) (ao : Option Addr) (m c : Nat) (B : Nat → Nat) (hx : a.eval x2 = .slice ao m c) (h2 : BSl w ao m c B) (hn : n + m ≤ 100000000) (hm : 0 < m)
    (h : ∀ v' w' R, BRow w' w.heap.size v' (n + m) R → ents R (n + m) = ents A n ++ ents B m → Below w.heap.size w w' → wpList Try.prog ops Q rest (a.put o.dst v') w') : wpList Try.prog ops Q (o :: rest) a w := by
  obtain ⟨i0, hi0, hz0, hz1, hz2⟩ := info_parts info_u8
  obtain ⟨g, o2, e, _⟩ := h2.cell hm
  subst e
  have q1 : ∀ u ∈ flat (bf B) m, u.oneCell' = true := fun u hu => by
    obtain ⟨j, hj⟩ := List.getElem?_of_mem hu
    exact bf_one B _ u (List.mem_of_getElem? (flat_at (bf_len B) hj).2.2)
  refine wpList_append_grows w hgd x1 x2 22 ho 5 i0 _ 1 1 Try.underlying22 hi0 hz0 hz1 hz2 rfl (by decide) ao1 n n (flat (bf A) n) hs h1.hno (flat_len (bf_len A) n) (fun b hb j u hu => by
      by_cases h0 : n = 0
      · subst h0; simp [flat] at hu
      obtain ⟨g', o', e', _⟩ := h1.cell (i := 0) (by omega)
      rw [hb] at e'
      cases e'
      exact flat_cells h1 hb hu) ⟨g, o2, none⟩ m c (flat (bf B) m) hx (flat_len (bf_len B) m) (fun j u hu => flat_cells h2 rfl hu) q1 (by omega) (by unfold maxLen; omega) (by omega) ?_
  intro v' w' k1 k2
  have r : Row w' w.heap.size 5 1 v' (n + m) (cat (bf A) n (bf B)) := by unfold Row; rw [flat_cat]; exact k1
  rw [cat_bf] at r
  exact h v' w' _ r (ents_cat A n m B) ((Off.of_grown k2).toBelow (Nat.le_refl _) (fun q hq hh => by simp at hh))
/-- What Append hands back. -/
def appendE (L : List Nat) (v : Ev) : List Nat × Int := if framedB v = true then (L ++ frameB v, 0) else ([], 1)
theorem framed_encode {v : Ev} (hf : framedB v = true) : (encE v).length ≤ 90 := encE_len (framed_in hf)
theorem BytesE.congr {w w' : World} {l l' : List Nat} {x x' : Int} {e : Ending} (h : BytesE w l x e w') (h1 : l = l') (h2 : x = x') : BytesE w l' x' e w' := by subst h1 h2; exact h
theorem append_no {L : List Nat} {v : Ev} (h : framedB v = false) : appendE L v = ([], 1) := by unfold appendE; rw [h]; rfl
theorem append_yes {L : List Nat} {v : Ev} (h : framedB v = true) : appendE L v = (L ++ sealB (encE v), 0) := by unfold appendE; rw [h]; rfl
theorem ents_byte {R : Nat → Nat} {k : Nat} {l : List Nat} (h : ents R k = l) (hl : ∀ x ∈ l, x < 256) : ∀ i, i < k → R i < 256 := fun i hi => hl _ (by rw [← h]; exact mem_ents.2 ⟨i, hi, rfl⟩)
theorem encE_byte (v : Ev) : ∀ x ∈ encE v, x < 256 := encL_byte _
set_option maxRecDepth 4000 in
set_option maxHeartbeats 4000000 in
theorem append14 (ao : Option Addr) (n c : Nat) (B : Nat → Nat) (v : Ev) (w : World) (h : BSl w ao n c B) (hn : n ≤ 10000000) : Calls Try.prog 14 #[.slice ao n c, .agg (eC v)] w (BytesE w (appendE (ents B n) v).1 (appendE (ents B n) v).2) := by
  have HS := Lib.hid h
  have BW : Hid (Below w.heap.size w (w.alloc (.cells (eC v) 24))) := Lib.hid (by (repeat' (first | (with_reducible exact Below.refl _ _) | (with_reducible assumption) | (with_reducible refine Below.drew ?_) | (with_reducible refine below_drewN ?_ _) | (with_reducible refine Below.alloc ?_ ?_ _) | (with_reducible refine Below.setCell ?_ ?_ _) | go_size)))
  have CF := Lib.hid (framed34 v (w.alloc (.cells (eC v) 24)))
  have CE := Lib.hid (fun (wa : World) (hv : inN v) => encode36 v wa hv)
  have HFE := Lib.hid (fun (hf : framedB v = true) => And.intro (framed_in hf) (framed_encode hf))
  have HB := Lib.hid (encE_byte v)
  have NO := Lib.hid (fun (hf : framedB v = false) => append_no (L := ents B n) hf)
  have YES := Lib.hid (fun (hf : framedB v = true) => append_yes (L := ents B n) hf)
  clear h
  obtain ⟨f, hf⟩ : ∃ f, f = framedB v := ⟨_, rfl⟩
  obtain ⟨X, hX⟩ : ∃ X, X = appendE (ents B n) v := ⟨_, rfl⟩
  obtain ⟨E, hE⟩ : ∃ E, E = encE v := ⟨_, rfl⟩
  obtain ⟨I, hI⟩ : ∃ I, I = inN v := ⟨_, rfl⟩
  rw [← hf] at CF HFE NO YES
  rw [← hX] at NO YES ⊢
  rw [← hE] at CE HFE HB YES
  rw [← hI] at CE HFE
  clear hf hX hE hI
  obtain ⟨v1, v2, v3, v4, v5, v6, v7, v8, v9⟩ := v
  unfold eC at *
  dsimp only at BW CF CE ⊢
  go_enter Try.func14, Try.ntmps14
  go_wp2_with fail
  refine CF.out.mono ?_
  rintro e w1 ⟨rfl, b1⟩
  have B1 := Lib.hid (BW.out.trans (b1.mono BW.out.size))
  cases f with
  | false =>
    have hx := NO.out rfl
    go_wp2_with fail
    go_returns
    rw [hx]
    exact ⟨_, 0, fun _ => 0, rfl, rfl, BRow.none _ _, B1.out⟩
  | true =>
    have HX := Lib.hid (YES.out rfl)
    clear YES NO
    have hc1 := (b1.block _ (block_lt (heap_alloc_new _ _))).trans (heap_alloc_new w (.cells #[.int .i64 v1, .int .i64 v2, .int .i64 v3, .int .i64 v4, .int .i64 v5, .int .i64 v6, .int .i64 v7, .int .i64 v8, .int .i64 v9] 24))
    have k0 := cell_at hc1 0
    have k1 := cell_at hc1 1
    have k2 := cell_at hc1 2
    have k3 := cell_at hc1 3
    have k4 := cell_at hc1 4
    have k5 := cell_at hc1 5
    have k6 := cell_at hc1 6
    have k7 := cell_at hc1 7
    have k8 := cell_at hc1 8
    have z1 := szs (block_lt hc1)
    obtain ⟨hin, hel⟩ := HFE.out rfl
    have CC := Lib.hid (CE.out w1 hin)
    clear CF b1 hin
    go_wp2_with fail
    refine CC.out.mono ?_
    rintro e w2 ⟨u2, k2, R2, rfl, l2, r2, b2⟩
    obtain ⟨a2, c2, rfl, s2⟩ := BRow.toSl r2
    have hk2 : k2 ≤ 90 := by
      have h := congrArg List.length l2
      rw [ents_len] at h
      omega
    have CS := Lib.hid (seal35 a2 k2 c2 R2 w2 s2 (ents_byte l2 HB.out) (by omega))
    rw [l2] at CS
    have B2 := Lib.hid (B1.out.trans (b2.mono B1.out.size))
    clear CC CE l2 r2 b2 s2 k0 k1 k3 k4 k5 k6 k7 k8
    go_wp2_with fail
    refine CS.out.mono ?_
    rintro e w3 ⟨u3, k3, R3, rfl, l3, r3, b3⟩
    obtain ⟨a3, c3, rfl, s3⟩ := BRow.toSl r3
    have hk3 : k3 ≤ 104 := by
      have h := congrArg List.length l3
      have h2 := codeN_len (n := (E.length : Int)) (by omega) (by omega)
      rw [ents_len, sealB_len] at h
      omega
    have B3 := Lib.hid (B2.out.trans (b3.mono B2.out.size))
    have S3 := Lib.hid s3
    have L3 := Lib.hid l3
    have B4 : Hid (Below w.heap.size w (w3.alloc (.cells #[] 5))) := Lib.hid (B3.out.alloc B3.out.size _)
    have R4 : Hid (BRow (w3.alloc (.cells #[] 5)) w3.heap.size (.slice (some ⟨w3.heap.size, 0, none⟩) 0 0) 0 (fun _ => 0)) := Lib.hid (Row.of_block (heap_alloc_new _ _) (Nat.le_refl _) (bf_len _) rfl (by decide))
    have B34 : Hid (Below w3.heap.size w3 (w3.alloc (.cells #[] 5))) := Lib.hid (by (repeat' (first | (with_reducible exact Below.refl _ _) | (with_reducible assumption) | (with_reducible refine Below.drew ?_) | (with_reducible refine below_drewN ?_ _) | (with_reducible refine Below.alloc ?_ ?_ _) | (with_reducible refine Below.setCell ?_ ?_ _) | go_size)))
    have le34 : w3.heap.size ≤ (w3.alloc (.cells #[] 5)).heap.size := B34.out.size
    clear CS l3 r3 b3 s3
    go_wp2_with (at_builtin; first | (refine wpList_append_B _ rfl (.tmp 17) (.tmp 18) rfl w3.heap.size _ 0 (fun _ => 0) rfl R4.out ao n c B rfl (HS.out.below B4.out) (by omega) le34 ?_))
    intro v5 w5 R5 r5 l5 b5
    have B35 := Lib.hid (B34.out.trans b5)
    have R5r := Lib.hid r5
    have L5 := Lib.hid l5
    clear r5 l5 b5
    go_wp2_with (at_builtin; first | (refine wpList_append_B w5 rfl (.tmp 19) (.tmp 20) rfl w3.heap.size v5 n R5 rfl R5r.out a3 k3 c3 R3 rfl (S3.out.below B35.out) (by omega) B35.out.size ?_))
    intro v6 w6 R6 r6 l6 b6
    have B6 := Lib.hid (B3.out.trans ((B35.out.trans b6).mono B3.out.size))
    have R6r := Lib.hid (Row.base_mono r6 B3.out.size)
    have L6 := Lib.hid l6
    clear r6 l6 b6
    go_wp2_with fail
    go_returns
    rw [HX.out]
    refine ⟨_, _, R6, rfl, ?_, R6r.out, B6.out⟩
    rw [L6.out, L5.out, L3.out]
    rfl
end Go.Proofs.Ytlnfhlmgnppcbaa

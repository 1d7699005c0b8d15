/- Appending bytes; a content sealed, the program's and the reference's. -/
import Derived.Test.YtlnfhlmgnppcbaaCR2
import Derived.Test.YtlnfhlmgnppcbaaBC
import Derived.Test.YtlnfhlmgnppcbaaWI2
namespace Go.Proofs.Ytlnfhlmgnppcbaa
open Go.RowKit Go.ChangeShapes Go.WideShapes Go.Deep
set_option linter.unusedVariables false
set_option linter.unusedSimpArgs false
theorem BRow.below {w w' : World} {base : Nat} {v : Value} {n : Nat} {F : Nat → Nat} (h : BRow w base v n F) (hb : Below w.heap.size w w') : BRow w' base v n F := Row.off (X := fun _ => False) h (Off.of_below hb) (fun _ _ h => h)
theorem BRow.none (w : World) (base : Nat) : BRow w base (.slice none 0 0) 0 (fun _ => 0) := ⟨rfl, .inl ⟨rfl, rfl⟩⟩
theorem BSl.none (w : World) : BSl w none 0 0 (fun _ => 0) := by
  obtain ⟨ao, c, e, h⟩ := BRow.toSl (BRow.none w 0)
  cases e
  exact h
theorem wpList_append_B {ops : Array Oper} {rest : List Oper} {o : Oper} {a : Act} {Q : Exit → Act → World → Prop} (w : World) (hgd : o.guard = none) (x1 x2 : Operand) (ho : o.op = .call { callee := .builtin .append, args := #[x1, x2], argTypes := #[22, 22] })
    (base : Nat) (v : Value) (n : Nat) (A : Nat → Nat) (hs : a.eval x1 = v) (h1 : BRow w base v n A) (ao : Option Addr) (m c : Nat) (B : Nat → Nat) (hx : a.eval x2 = .slice ao m c) (h2 : BSl w ao m c B) (hn : n + m ≤ 100000000) (hb : base ≤ w.heap.size)
    (h : ∀ v' w' R, BRow w' base v' (n + m) R → ents R (n + m) = ents A n ++ ents B m → Below base w w' → wpList Try.prog ops Q rest (a.put o.dst v') w') : wpList Try.prog ops Q (o :: rest) a w := by
  obtain ⟨i0, hi0, hz0, hz1, hz2⟩ := info_parts info_u8
  refine wpList_append_sl w hgd x1 x2 22 ho base 5 i0 _ 1 1 Try.underlying22 hi0 hz0 hz1 hz2 rfl (by decide) v n (bf A) hs h1 (bf_len A) ao m c (bf B) hx (bf_len B) h2.hno h2.sl (fun i => bf_one B i) (by omega) (by unfold maxLen; omega) hb ?_
  intro v' w' r g f
  rw [cat_bf] at r
  exact h v' w' _ r (ents_cat A n m B) ((Off.of_grown g).toBelow hb (fun q hq hh => Row.apart' h1 hq hh))
/-- The call hands back these bytes, and this number. -/
def BytesE (w : World) (l : List Nat) (x : Int) (e : Ending) (w' : World) : Prop := ∃ (v : Value) (k : Nat) (R : Nat → Nat), e = .returned (.tuple #[v, .int .i64 x]) ∧ ents R k = l ∧ BRow w' w.heap.size v k R ∧ Below w.heap.size w w'
set_option maxRecDepth 4000 in
set_option maxHeartbeats 4000000 in
theorem seal22 (ao : Option Addr) (n c : Nat) (B : Nat → Nat) (w : World) (h : BSl w ao n c B) (hB : ∀ i, i < n → B i < 256) (hn : n ≤ 65536) : Calls Try.prog 22 #[.slice ao n c] w (BytesE w (sealB (ents B n)) 0) := by
  have HS := Lib.hid h
  have HB := Lib.hid hB
  have CP := Lib.hid (putInt43 none 0 0 (fun _ => 0) (n : Int) w (BSl.none w) (by omega) ⟨by omega, by omega⟩)
  have HL := Lib.hid (codeN_len (n := (n : Int)) (by omega) (by omega))
  have hni : (n : Int) ≤ 65536 := by omega
  clear h hB
  go_enter Try.func22, Try.ntmps22
  go_wp2_with fail
  refine CP.out.mono ?_
  rintro e w1 ⟨v1, k1, R1, rfl, l1, r1, b1⟩
  have hk1 : k1 ≤ 10 := by
    have := congrArg List.length l1
    have := HL.out
    simp [ents_len] at *
    omega
  have L1 := Lib.hid l1
  have RR1 := Lib.hid r1
  have B1 := Lib.hid b1
  clear CP l1 r1 b1
  go_wp2_with (at_builtin; refine wpList_append_B w1 rfl _ _ rfl w.heap.size _ k1 R1 rfl RR1.out ao n c B rfl (HS.out.below B1.out) (by omega) B1.out.size ?_)
  intro v2 w2 R2 r2 l2 b2
  have L2 := Lib.hid l2
  have RR2 := Lib.hid r2
  have B2 := Lib.hid (B1.out.trans b2)
  clear l2 r2 b2
  have CT := Lib.hid (tail44 ao n c B w2 (HS.out.below B2.out) HB.out)
  go_wp2_with fail
  refine CT.out.mono ?_
  rintro e w3 ⟨v3, k3, R3, rfl, l3, r3, b3⟩
  have hk3 : k3 ≤ 4 := by
    have := congrArg List.length l3
    simp [ents_len, tailB_len] at this
    omega
  obtain ⟨a3, c3, rfl, s3⟩ := BRow.toSl r3
  have L3 := Lib.hid l3
  have S3 := Lib.hid s3
  have RR3 := Lib.hid (RR2.out.below b3)
  have B3 := Lib.hid (B2.out.trans (b3.mono B2.out.size))
  clear CT l3 r3 b3 s3
  go_wp2_with (at_builtin; refine wpList_append_B w3 rfl _ _ rfl w.heap.size _ (k1 + n) R2 rfl RR3.out a3 k3 c3 R3 rfl S3.out (by omega) B3.out.size ?_)
  intro v4 w4 R4 r4 l4 b4
  have L4 := Lib.hid l4
  have RR4 := Lib.hid r4
  have B4 := Lib.hid (B3.out.trans b4)
  clear l4 r4 b4
  go_wp2_with fail
  go_returns
  refine ⟨_, _, R4, rfl, ?_, RR4.out, B4.out⟩
  rw [L4.out, L2.out, L1.out, L3.out]
  unfold sealB
  simp [ents_len, ents]
end Go.Proofs.Ytlnfhlmgnppcbaa

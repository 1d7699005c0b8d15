/- Bytes as a string. -/
import Derived.Test.YtlnfhlmgnppcbaaWI1
import Derived.Laws.BytesArg
namespace Go.Proofs.Ytlnfhlmgnppcbaa
open Go.RowKit
set_option linter.unusedVariables false
/-- The string of bytes. -/
def strB (l : List Nat) : ByteArray := strOfNums (l.map fun x : Nat => (x : Int))
theorem strB_eq {l l' : List Nat} (h : ∀ x ∈ l, x < 256) (h' : ∀ x ∈ l', x < 256) : strB l = strB l' ↔ l = l' := by
  constructor
  · intro e
    have e2 := congrArg (fun s : ByteArray => s.data.toList) e
    simp only [strB, strOfNums_data, List.map_map] at e2
    have inj : ∀ (l l' : List Nat), (∀ x ∈ l, x < 256) → (∀ x ∈ l', x < 256) → l.map ((fun n : Int => UInt8.ofNat n.toNat) ∘ fun x : Nat => (x : Int)) = l'.map ((fun n : Int => UInt8.ofNat n.toNat) ∘ fun x : Nat => (x : Int)) → l = l' := by
      intro l
      induction l with
      | nil => intro l' _ _ e; cases l' with
        | nil => rfl
        | cons x t => simp at e
      | cons x t ih => intro l' h1 h2 e; cases l' with
        | nil => simp at e
        | cons y u =>
          simp only [List.map_cons, List.cons.injEq, Function.comp, Int.toNat_natCast] at e
          have hx := h1 x (by simp)
          have hy := h2 y (by simp)
          have hxy : x = y := by
            have := congrArg UInt8.toNat e.1
            simp only [UInt8.toNat_ofNat'] at this
            omega
          subst hxy
          rw [ih u (fun z hz => h1 z (by simp [hz])) (fun z hz => h2 z (by simp [hz])) e.2]
    exact inj l l' h h' e2
  · intro e; rw [e]
theorem strB_beq {l l' : List Nat} (h : ∀ x ∈ l, x < 256) (h' : ∀ x ∈ l', x < 256) : ((strB l).toList == (strB l').toList) = decide (l = l') := by
  rw [ByteArray.toList_eq, ByteArray.toList_eq]
  by_cases e : l = l'
  · subst e; simp
  · have h1 : ¬ strB l = strB l' := fun h2 => e ((strB_eq h h').1 h2)
    have h2 : ¬ (strB l).data.toList = (strB l').data.toList := fun h3 => h1 (by
      have : (strB l).data = (strB l').data := Array.ext' h3
      exact congrArg ByteArray.mk this)
    rw [decide_eq_false e]; exact beq_false_of_ne h2
theorem convB {w : World} {ao : Option Addr} {n c : Nat} {B : Nat → Nat} (h : BSl w ao n c B) : (convert 22 9 (.slice ao n c)).run Try.prog w = .ok (.string (strB (ents B n))) w := by
  rcases Nat.eq_zero_or_pos n with h0 | h0
  · subst h0
    cases ao with
    | none => exact run_convert_bytes_nil w 22 5 Try.underlying22 Try.underlying5 0 c 9 Try.underlying9
    | some a =>
      rw [run_convert_bytes_string w 22 9 5 _ 0 c Try.underlying22 Try.underlying5 Try.underlying9, run_bytesToString w a 0 c [] (by simp [loadCells, loadCellsFrom, Sem.run_pure])]
      rfl
  · obtain ⟨g, o, rfl, _⟩ := h.cell h0
    refine run_convert_bytes_arg w 22 5 Try.underlying22 Try.underlying5 g o n c ((ents B n).map fun x : Nat => (x : Int)) (by rw [List.length_map, ents_len]) (fun i hi => ?_) 9 Try.underlying9
    obtain ⟨g', o', e, hc⟩ := h.cell hi
    cases e
    have h0 : w.cell? ⟨g, o + i * 1 + 0, none⟩ = some (.int .u8 (B i)) := hc 0 (by decide)
    rw [Nat.mul_one, Nat.add_zero] at h0
    rw [h0]
    simp [List.getD, ents_get hi]
end Go.Proofs.Ytlnfhlmgnppcbaa

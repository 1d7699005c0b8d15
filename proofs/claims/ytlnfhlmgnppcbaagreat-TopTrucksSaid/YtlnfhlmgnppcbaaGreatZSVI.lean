/- slices.Values of a slice of numbers; slices.Sorted of it. -/
import Derived.Test.YtlnfhlmgnppcbaaGreatZSIT
import Derived.Test.YtlnfhlmgnppcbaaGreatZSHL
import Derived.Test.YtlnfhlmgnppcbaaGreatZA
import Derived.RangeFuncBox
import Derived.RangeFuncLeaves
import Derived.OwnWalkIn
import Derived.TacticsInMore
import Derived.LoopNIn
import Derived.LoopIn
namespace Go.Proofs.YtlnfhlmgnppcbaaGreat
open Go.RowKit Go.Maps Go.Sort Go.Shelf Go.Proofs
set_option linter.unusedVariables false
set_option linter.unusedSimpArgs false
attribute [local go_sem] Oper.semAt_some
set_option maxRecDepth 100000 in
set_option maxHeartbeats 2000000 in
theorem valuesB (m Bs n c : Nat) (a : Option Addr) (V : Nat → Int) (hm : 1 ≤ m) (w : World) (hn : n ≤ 1000) (hs : Sl w 1 a n c (nf V)) (hB : w.cell? ⟨Bs, 0, none⟩ = some (.slice a n c)) :
    GivesB Fence.wide m Tryz.prog 162 #[.pointer (some ⟨Bs, 0, none⟩)] (fun xs => xs = ents V n) n w := by
  intro l J W hW hJ hK hY h0
  have hBs := cell_lt hB
  have hBW := (hW.cell (p := ⟨Bs, 0, none⟩) hBs).trans hB
  have hnc := hs.hm
  have hcc := hs.hc
  refine callsIn_of_wp Tryz.func162 rfl trivial ?_ rfl
  simp only [Tryz.ntmps162, List.size_toArray, List.length_cons, List.length_nil, Nat.reduceAdd, Nat.reduceSub, Array.replicate_succ, Array.replicate_zero, List.push_toArray, List.append_toArray, List.nil_append, List.cons_append]
  gi_wp2
  gi_loopw [7] (fun i wr => ∃ k : Nat, k ≤ n ∧ i = .int .i64 k ∧ J (ents V k) wr) (fun i _ => n - (intOf i).toNat)
  case atStart => exact ⟨0, Nat.zero_le _, rfl, h0⟩
  case round =>
    obtain ⟨k, hk, rfl, hJs⟩ := hrel
    by_cases hlt : k < n
    · have hsw := hs.below (hK _ _ hJs)
      obtain ⟨g, o, rfl, hg, hcx⟩ := hsw.num hlt
      obtain ⟨fn, tmps, assign, body, hy, hR⟩ := hY _ (V k) wr hJs (by rw [ents_len]; exact hlt)
      gi_wp2
      refine hR.mono ?_
      rintro e W3 ⟨rfl, hJ3, hk3⟩
      gi_wp2
      go_roundw
      case rel => exact ⟨k + 1, by omega, by simp, by rw [ents_succ]; exact hJ3⟩
      case measure => simp [intOf]; omega
    · obtain rfl : k = n := by omega
      gi_wp2
      go_end0
      exact ⟨⟨_, rfl⟩, _, rfl, hJs⟩
theorem values135 (a : Option Addr) (n c : Nat) (w : World) : Calls Tryz.prog 135 #[.slice a n c] w fun e w' => e = .returned (.func (.func 162) #[] #[.pointer (some ⟨w.heap.size, 0, none⟩)]) ∧ w' = w.alloc (.cells #[.slice a n c] 22) := by
  go_enter Tryz.func135, Tryz.ntmps135
  go_wp2_with fail
  go_ret
  exact ⟨rfl, rfl⟩
theorem sorts161 (m : Nat) : AnyZI.SortsIn Tryz.prog laySorted134_ren Fence.wide m :=
  ⟨fun blk off cap ss W hH hblk hsz => callsIn_wide.2 (AnyM.slices_Sort_int laySort161 blk off cap ss W hH hblk hsz),
   fun p cap W => callsIn_wide.2 (AnyM.slices_Sort_int_none laySort161 p cap W)⟩
theorem sorted134 (Bs n c : Nat) (a : Option Addr) (V : Nat → Int) (w : World) (hn : n ≤ 1000) (hs : Sl w 1 a n c (nf V)) (hB : w.cell? ⟨Bs, 0, none⟩ = some (.slice a n c)) :
    Calls Tryz.prog 134 #[.func (.func 162) #[] #[.pointer (some ⟨Bs, 0, none⟩)]] w fun e w' => ∃ (v : Value) (ss : List Int), e = .returned v ∧ ss = ents V n ∧ w'.ownsRow w.heap.size 3 1 v ss.length ((ss.mergeSort fun x y => decide (x ≤ y)).map encZ) ∧ (v = .slice none 0 0 ↔ ss = []) ∧ Below w.heap.size w w' := by
  refine (callsIn_wide (n := 6)).1 ?_
  exact sortedB_in laySorted134 Fence.wide 6 trivial trivial trivial trivial rfl (by omega) (sorts161 _) (enters_of Tryz.func161 (by kernel_rfl) rfl) 162 #[.pointer (some ⟨Bs, 0, none⟩)] trivial (enters_of Tryz.func162 (by kernel_rfl) rfl) (fun xs => xs = ents V n) n (by unfold maxLen; omega) (by omega) w (valuesB _ Bs n c a V (by omega) w hn hs hB)
end Go.Proofs.YtlnfhlmgnppcbaaGreat

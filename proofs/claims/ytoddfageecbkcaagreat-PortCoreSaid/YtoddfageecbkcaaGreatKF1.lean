/-
  THE ITERATOR slices.Backward OVER CELLS: it gives the places from the last to the first (after the kit's worked proofs of slices.All).
-/
import Derived.RangeFuncBox
import Derived.RangeFuncLeaves
import Derived.Shelf.Abstract
import Derived.WalkKit
import Derived.OwnWalkIn
import Derived.TacticsInMore
import Derived.LoopNIn
import Derived.LoopIn
import Derived.Test.YtoddfageecbkcaaGreatK14
namespace Go.Proofs.YtoddfageecbkcaaGreat
open Go Go.RowKit Go.Shelf
set_option linter.unusedVariables false
set_option linter.unusedSimpArgs false

attribute [local go_sem] Oper.semAt_some

/-- WHAT HAS COME WHEN k ROUNDS ARE OVER. -/
def bkUpto {α : Type} (f : Nat → α) (k : Nat) : List α := (List.range k).map f
theorem bkUpto_succ {α : Type} (f : Nat → α) (k : Nat) : bkUpto f (k + 1) = bkUpto f k ++ [f k] := by simp [bkUpto, List.range_succ]
theorem bkUpto_length {α : Type} (f : Nat → α) (k : Nat) : (bkUpto f k).length = k := by simp [bkUpto]

def bkF (ps : List (Int × Int)) (j : Nat) : Int × (Int × Int) := ((ps.length : Int) - 1 - j, ps.getD (ps.length - 1 - j) (0, 0))

set_option maxRecDepth 100000 in
set_option maxHeartbeats 2000000 in
theorem bk1_in (F : Fence) (n : Nat) (h7 : F.fn 127) (hro : F.round = none) (hn : 1 ≤ n) {α : Type} (e : α → Int × (Int × Int)) (f : Nat → α) (l Bs n₀ b off cap : Nat) (ps : List (Int × Int)) (hf : ∀ k, k < ps.length → e (f k) = bkF ps k) (hreach : ps.length ≤ 1000) (hb : b < n₀) (hBn : Bs < n₀) (J Jx : List α → World → Prop)
    (hY : ∀ pre x W, J pre W → pre.length < ps.length → YieldAt F (n - 1) Tryz.prog l #[.int .i64 (e x).1, .complex .f64 (Sy.fl (e x).2.1) (Sy.fl (e x).2.2)] W fun e W' =>
      (e = .returned (.bool true) ∧ J (pre ++ [x]) W' ∧ Below n₀ W W') ∨ (e = .returned (.bool false) ∧ Jx (pre ++ [x]) W'))
    (W : World) (hBs : W.cell? ⟨Bs, 0, none⟩ = some (.slice (some ⟨b, off, none⟩) ps.length cap)) (hc : ∀ j, j < ps.length → W.cell? ⟨b, off + j, none⟩ = some (.complex .f64 (Sy.fl (ps.getD j (0, 0)).1) (Sy.fl (ps.getD j (0, 0)).2))) (h0 : J [] W) :
    CallsIn F n Tryz.prog 127 #[.func (.yield l) #[] #[], .pointer (some ⟨Bs, 0, none⟩)] W fun e W' => (∃ v, e = .returned v) ∧
      ((∃ ys, ys = bkUpto f ps.length ∧ J ys W') ∨ (∃ pre, (∃ k, k ≤ ps.length ∧ pre = bkUpto f k) ∧ Jx pre W')) := by
  refine callsIn_of_wp Tryz.func127 rfl h7 ?_ hro
  simp only [Tryz.ntmps127, List.size_toArray, List.length_cons, List.length_nil, Nat.reduceAdd, Nat.reduceSub, Array.replicate_succ, Array.replicate_zero, List.push_toArray, List.append_toArray, List.nil_append, List.cons_append]
  gi_wp2
  gi_loopw [3] (fun i wr => ∃ k : Nat, k ≤ ps.length ∧ i = .int .i64 ((ps.length : Int) - 1 - k) ∧ J (bkUpto f k) wr ∧ Below n₀ W wr)
    (fun i _ => (intOf i + 1).toNat)
  case atStart => exact ⟨0, Nat.zero_le _, by simp, h0, Below.refl _ _⟩
  case round =>
    obtain ⟨k, hk, rfl, hJs, hnx⟩ := hrel
    have hBs' : wr.cell? ⟨Bs, 0, none⟩ = some (.slice (some ⟨b, off, none⟩) ps.length cap) := (hnx.cell (p := ⟨Bs, 0, none⟩) hBn).trans hBs
    by_cases hlt : k < ps.length
    · have hcx' : wr.cell? ⟨b, off + (ps.length - 1 - k), none⟩ = some (.complex .f64 (Sy.fl (ps.getD (ps.length - 1 - k) (0, 0)).1) (Sy.fl (ps.getD (ps.length - 1 - k) (0, 0)).2)) := (hnx.cell (p := ⟨b, off + (ps.length - 1 - k), none⟩) hb).trans (hc _ (by omega))
      obtain ⟨fn, tmps, assign, body, hy, hR⟩ := hY _ (f k) wr hJs (by rw [bkUpto_length]; exact hlt)
      have hidx : ((ps.length : Int) - 1 - k).toNat = ps.length - 1 - k := by omega
      rw [hf k hlt] at hy
      simp only [bkF, List.getD_eq_getElem?_getD] at hy hcx'
      gi_wp2
      refine hR.mono ?_
      rintro e W3 (⟨rfl, hJ3, hk3⟩ | ⟨rfl, hJx3⟩)
      · gi_wp2
        go_roundw
        case rel => exact ⟨k + 1, by omega, by simp; omega, by rw [bkUpto_succ]; exact hJ3, hnx.trans hk3⟩
        case measure => simp [intOf]; omega
      · gi_wp2
        refine bodyPost_ret (results_none rfl _ _ _) rfl ?_
        exact ⟨⟨_, rfl⟩, .inr ⟨_, ⟨k + 1, by omega, (bkUpto_succ _ _).symm⟩, hJx3⟩⟩
    · obtain rfl : k = ps.length := by omega
      gi_wp2
      go_end0
      exact ⟨⟨_, rfl⟩, .inl ⟨_, rfl, hJs⟩⟩
end Go.Proofs.YtoddfageecbkcaaGreat

/-
  CONTRACTS: words, cells (an address and a word as one complex number), what stands at which address.
-/
import Derived.Test.YtoddfageecbkcaaGreatR
import Derived.Test.YtoddfageecbkcaaGreatT0
namespace Go.Proofs.YtoddfageecbkcaaGreat
open Go Go.Eng Sy
set_option linter.unusedVariables false
set_option linter.unusedSimpArgs false
set_option maxRecDepth 100000

section
variable {m : Amb} {H : Hp} {K : Value → Hp → Prop}

theorem C35 {x : Int} (h : K (I (x % 65536)) H) : CallsH Tryz.prog m 35 [I x] H K := by
  refine S35 ?_
  unfold t35; rw [and_65535]; exact h

theorem C126 {x : Int} (h : K (B (decide (x = x % 65536))) H) : CallsH Tryz.prog m 126 [I x] H K := by
  refine S126 ?_
  exact C35 ⟨_, rfl, h⟩

theorem C48 {a b : Int} (h : K (B (decide (0 ≤ a) && decide (a < b))) H) : CallsH Tryz.prog m 48 [I a, I b] H K := by
  refine S48 ?_
  unfold t48
  by_cases h0 : 0 ≤ a
  · rw [show (decide (0 ≤ a) && decide (a < b)) = decide (a < b) by simp [h0]] at h
    exact br_yes (by simp [h0]) h
  · rw [show (decide (0 ≤ a) && decide (a < b)) = false by simp [h0]] at h
    exact br_no (by simp; omega) h

theorem C119 {a w : Int} (ha : 0 ≤ a ∧ a < 65536) (hw : 0 ≤ w ∧ w < 65536) (h : K (.tuple #[cx (a, w), .bool true]) H) : CallsH Tryz.prog m 119 [I a, I w] H K := by
  refine S119 (C126 ⟨_, rfl, br_no (by simp; omega) (C126 ⟨_, rfl, br_no (by simp; omega) ?_⟩)⟩)
  refine fun d => ⟨.float .f64 (fl a), H, d, by kernel_rfl, _, rfl, ?_⟩
  refine fun d => ⟨.float .f64 (fl w), H, d, by kernel_rfl, _, rfl, ?_⟩
  refine ⟨.complex .f64 (fl a) (fl w), fun w => by kernel_rfl, _, rfl, h⟩

theorem f2i {x : Int} (h : 0 ≤ x ∧ x < 65536) : Conv.floatToInt .f64 (fl x) .i64 = pure (.int .i64 x) := by
  unfold Conv.floatToInt
  rw [fl_int h]
  have h1 : IntKind.i64.min ≤ x ∧ x ≤ IntKind.i64.max := by
    have e1 : IntKind.i64.min = -9223372036854775808 := by decide
    have e2 : IntKind.i64.max = 9223372036854775807 := by decide
    omega
  simp only [h1, and_self, if_true]

theorem C128 {x : Int} (hx : 0 ≤ x ∧ x < 65536) (h : K (I x) H) : CallsH Tryz.prog m 128 [.float .f64 (fl x)] H K := by
  refine S128 ?_
  have g1 : (FloatKind.f64.format.order (fl x) 0 == some .gt || FloatKind.f64.format.order (fl x) 0 == some .eq) = true := by
    rcases fl_geq hx with h | h <;> rw [show FloatKind.f64.format.order (fl x) 0 = _ from h] <;> rfl
  have g2 : (FloatKind.f64.format.order (fl x) 4679239875398991872 == some .lt || FloatKind.f64.format.order (fl x) 4679239875398991872 == some .eq) = true := by
    rcases fl_leq hx with h | h <;> rw [show FloatKind.f64.format.order (fl x) 4679239875398991872 = _ from h] <;> rfl
  have g3 : (FloatKind.f64.format.order (fl x) (fl x) == some .eq) = true := by
    rw [show FloatKind.f64.format.order (fl x) (fl x) = _ from fl_self hx]; rfl
  have conv : ∀ (s : Sem Next) (w : World), (s.run Tryz.prog w = ((Conv.floatToInt .f64 (fl x) .i64) >>= fun v => pure (.value v)).run Tryz.prog w) → s.run Tryz.prog w = .ok (.value (I x)) w := by
    intro s w hs
    rw [hs, f2i hx]; rfl
  refine ⟨.bool _, fun w => by kernel_rfl, _, rfl, br_yes g1 ?_⟩
  refine ⟨.bool _, fun w => by kernel_rfl, _, rfl, br_yes g2 ?_⟩
  refine fun d => ⟨I x, H, d, conv _ _ (by kernel_rfl), _, rfl, ?_⟩
  refine fun d => ⟨.float .f64 (fl x), H, d, by kernel_rfl, _, rfl, ?_⟩
  refine ⟨.bool _, fun w => by kernel_rfl, _, rfl, br_yes g3 ?_⟩
  refine fun d => ⟨I x, H, d, conv _ _ (by kernel_rfl), _, rfl, h⟩

theorem C125 {p : Int × Int} (ha : 0 ≤ p.1 ∧ p.1 < 65536) (hw : 0 ≤ p.2 ∧ p.2 < 65536) (h : K (.tuple #[I p.1, I p.2, .bool true]) H) : CallsH Tryz.prog m 125 [cx p] H K := by
  refine S125 ?_
  refine ⟨.float .f64 (fl p.1), fun w => by kernel_rfl, _, rfl, C128 ha ⟨_, rfl, ?_⟩⟩
  refine ⟨.float .f64 (fl p.2), fun w => by kernel_rfl, _, rfl, C128 hw ⟨_, rfl, ?_⟩⟩
  exact br_no (by simp; omega) (br_no (by simp; omega) h)
end
end Go.Proofs.YtoddfageecbkcaaGreat

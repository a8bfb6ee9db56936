/-
  THE PLAN OF A PLAIN SOC stays, whatever is done with it.
-/
import Derived.Test.YtoddfageecbkcaaGreatM3
namespace Sy
open Go Go.Eng
set_option linter.unusedVariables false
set_option linter.unusedSimpArgs false

/-- The same plan. -/
def SameP (s t : Soc) : Prop := t.cores = s.cores ∧ t.words = s.words ∧ t.locks = s.locks ∧ t.most = s.most
theorem SameP.rfl' {s : Soc} : SameP s s := ⟨rfl, rfl, rfl, rfl⟩
theorem SameP.trans {s t u : Soc} (h : SameP s t) (k : SameP t u) : SameP s u := ⟨k.1.trans h.1, k.2.1.trans h.2.1, k.2.2.1.trans h.2.2.1, k.2.2.2.trans h.2.2.2⟩

section
variable (s : Soc)
theorem plan_flush (c : Int) : SameP s (s.flush c) := SameP.rfl'
theorem plan_drain1 (c : Int) : SameP s (s.drain1 c) := by unfold Soc.drain1; split <;> exact SameP.rfl'
theorem plan_register (c : Int) (x : Spot) : SameP s (s.register c x).1 := by
  unfold Soc.register
  split
  · split <;> exact SameP.rfl'
  · exact SameP.rfl'
  · split
    · exact SameP.rfl'
    · split
      · split <;> exact SameP.rfl'
      · exact SameP.rfl'
  · exact SameP.rfl'
theorem plan_read (c a : Int) : SameP s (s.read c a).1 := by
  unfold Soc.read
  split
  · exact SameP.rfl'
  · split
    · exact SameP.rfl'
    · exact SameP.rfl'
    · split
      · exact SameP.rfl'
      · exact (plan_flush s c).trans (plan_register _ _ _)
    · exact (plan_flush s c).trans (plan_register _ _ _)
theorem plan_store (c a w : Int) : SameP s (s.store c a w) := by
  unfold Soc.store
  simp only
  split
  · exact (plan_drain1 s c).trans SameP.rfl'
  · exact SameP.rfl'
theorem plan_write (c a w : Int) : SameP s (s.write c a w).1 := by
  unfold Soc.write
  split
  · exact SameP.rfl'
  · split
    · exact SameP.rfl'
    · exact SameP.rfl'
    · split
      · exact SameP.rfl'
      · exact plan_store s c a w
    · split
      · exact SameP.rfl'
      · split <;> exact SameP.rfl'
    · split
      · exact SameP.rfl'
      · split
        · exact SameP.rfl'
        · split
          · exact SameP.rfl'
          · unfold Soc.ring; simp only; split <;> exact SameP.rfl'
theorem plan_fence (c : Int) : SameP s (s.fence c).1 := by unfold Soc.fence; split <;> exact SameP.rfl'
theorem plan_drain (c : Int) : SameP s (s.drain c).1 := by
  unfold Soc.drain; split
  · exact SameP.rfl'
  · exact plan_drain1 s c
theorem plan_swap (c a w : Int) : SameP s (s.swap c a w).1 := by
  unfold Soc.swap; split
  · exact SameP.rfl'
  · split
    · split <;> exact SameP.rfl'
    · exact SameP.rfl'
theorem plan_hold (c : Int) : SameP s (s.hold c).1 := by
  unfold Soc.hold; split
  · exact SameP.rfl'
  · split <;> exact SameP.rfl'
theorem plan_start (c : Int) : SameP s (s.start c).1 := by
  unfold Soc.start; split
  · exact SameP.rfl'
  · split <;> exact SameP.rfl'
theorem plan_op (k c a w : Int) : SameP s (s.op k c a w).1 := by
  unfold Soc.op
  split
  · exact plan_write s _ _ _
  · split
    · exact plan_fence s _
    · split
      · exact plan_drain s _
      · split
        · exact plan_swap s _ _ _
        · split
          · exact plan_hold s _
          · split
            · exact plan_start s _
            · exact plan_read s _ _
theorem plan_touch (c : Int) (t : Touch) : SameP s (s.touch c t).1 := by
  unfold Soc.touch
  split
  · split
    · exact plan_read s _ _
    · exact SameP.rfl'
  · split
    · exact plan_read s _ _
    · exact SameP.rfl'
  · split
    · exact plan_write s _ _ _
    · exact SameP.rfl'
  · exact plan_fence s _
  · split
    · exact plan_write s _ _ _
    · exact SameP.rfl'
end
end Sy

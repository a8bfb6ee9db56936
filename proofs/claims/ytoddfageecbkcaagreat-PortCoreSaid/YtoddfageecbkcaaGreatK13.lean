/-
  CONTRACTS: locks and gate cloned.
-/
import Derived.Test.YtoddfageecbkcaaGreatK12
namespace Go.Proofs.YtoddfageecbkcaaGreat
open Go Go.Eng Sy
set_option linter.unusedVariables false
set_option linter.unusedSimpArgs false
set_option maxRecDepth 100000

theorem list8 {α : Type} {l : List α} (h : l.length = 8) : ∃ o0 o1 o2 o3 o4 o5 o6 o7, l = [o0, o1, o2, o3, o4, o5, o6, o7] := by
  match l, h with
  | [o0, o1, o2, o3, o4, o5, o6, o7], _ => exact ⟨_, _, _, _, _, _, _, _, rfl⟩

section
variable {m : Amb} {r : Nat} {ow : Ow} {H : Hp} {K : Value → Hp → Prop} {b : Nat} {cores locks : Int} {owners epochs : List Int} {held : List Bool}

set_option maxHeartbeats 1000000 in
theorem C28 (r' : Nat) (hL : LocksR r ow H b cores locks owners) (ho : owners.length = 16) (h : ∀ ow' H' b', Upd Tno ow H ow' H' → LocksR r' ow' H' b' cores locks owners → K (Pt b') H') : CallsH Tryz.prog m 28 [Pt b] H K := by
  obtain ⟨o0, o1, o2, o3, o4, o5, o6, o7, o8, o9, o10, o11, o12, o13, o14, o15, rfl⟩ := list16 ho
  refine S28 (br_f (nn_r ?_))
  refine ldI_r (x := cores) hL.2 rfl ?_
  refine ldI_r (x := locks) hL.2 rfl ?_
  refine ldI_r (x := o0) hL.2 rfl ?_
  refine ldI_r (x := o1) hL.2 rfl ?_
  refine ldI_r (x := o2) hL.2 rfl ?_
  refine ldI_r (x := o3) hL.2 rfl ?_
  refine ldI_r (x := o4) hL.2 rfl ?_
  refine ldI_r (x := o5) hL.2 rfl ?_
  refine ldI_r (x := o6) hL.2 rfl ?_
  refine ldI_r (x := o7) hL.2 rfl ?_
  refine ldI_r (x := o8) hL.2 rfl ?_
  refine ldI_r (x := o9) hL.2 rfl ?_
  refine ldI_r (x := o10) hL.2 rfl ?_
  refine ldI_r (x := o11) hL.2 rfl ?_
  refine ldI_r (x := o12) hL.2 rfl ?_
  refine ldI_r (x := o13) hL.2 rfl ?_
  refine ldI_r (x := o14) hL.2 rfl ?_
  refine ldI_r (x := o15) hL.2 rfl ?_
  rw [zc108]
  refine nw_t (ow := ow) (r', 11, 0, 0) ?_
  intro ow1 H0 b1 u1 hb1 g0
  have key : stsP b1 (I cores :: I locks :: [o0, o1, o2, o3, o4, o5, o6, o7, o8, o9, o10, o11, o12, o13, o14, o15].map I) 0 H0 (fun H' => K (Pt b1) H') := by
    refine st_seq _ g0 ⟨rfl, fun _ _ => rfl⟩ (by simp) (by intro v hv; simp at hv; rcases hv with rfl | rfl | rfl | rfl | rfl | rfl | rfl | rfl | rfl | rfl | rfl | rfl | rfl | rfl | rfl | rfl | rfl | rfl <;> rfl) fun H' s g => ?_
    exact h ow1 H' b1 (u1.set s (.inr (by omega))) (by have g2 := g; rw [List.take_zero, List.nil_append] at g2; exact g2)
  exact key

set_option maxHeartbeats 1000000 in
theorem C29 (r' : Nat) (hG : GateR r ow H b cores epochs held) (he : epochs.length = 8) (hh : held.length = 8) (h : ∀ ow' H' b', Upd Tno ow H ow' H' → GateR r' ow' H' b' cores epochs held → K (Pt b') H') : CallsH Tryz.prog m 29 [Pt b] H K := by
  obtain ⟨o0, o1, o2, o3, o4, o5, o6, o7, rfl⟩ := list8 he
  obtain ⟨p0, p1, p2, p3, p4, p5, p6, p7, rfl⟩ := list8 hh
  refine S29 (br_f (nn_r ?_))
  refine ldI_r (x := cores) hG.2 rfl ?_
  refine ldI_r (x := o0) hG.2 rfl ?_
  refine ldI_r (x := o1) hG.2 rfl ?_
  refine ldI_r (x := o2) hG.2 rfl ?_
  refine ldI_r (x := o3) hG.2 rfl ?_
  refine ldI_r (x := o4) hG.2 rfl ?_
  refine ldI_r (x := o5) hG.2 rfl ?_
  refine ldI_r (x := o6) hG.2 rfl ?_
  refine ldI_r (x := o7) hG.2 rfl ?_
  refine ldB_r (x := p0) hG.2 rfl ?_
  refine ldB_r (x := p1) hG.2 rfl ?_
  refine ldB_r (x := p2) hG.2 rfl ?_
  refine ldB_r (x := p3) hG.2 rfl ?_
  refine ldB_r (x := p4) hG.2 rfl ?_
  refine ldB_r (x := p5) hG.2 rfl ?_
  refine ldB_r (x := p6) hG.2 rfl ?_
  refine ldB_r (x := p7) hG.2 rfl ?_
  rw [zc112]
  refine nw_t (ow := ow) (r', 12, 0, 0) ?_
  intro ow1 H0 b1 u1 hb1 g0
  have key : stsP b1 (I cores :: ([o0, o1, o2, o3, o4, o5, o6, o7].map I ++ [p0, p1, p2, p3, p4, p5, p6, p7].map B)) 0 H0 (fun H' => K (Pt b1) H') := by
    refine st_seq _ g0 ⟨rfl, fun _ _ => rfl⟩ (by simp) (by intro v hv; simp at hv; rcases hv with rfl | rfl | rfl | rfl | rfl | rfl | rfl | rfl | rfl | rfl | rfl | rfl | rfl | rfl | rfl | rfl | rfl <;> rfl) fun H' s g => ?_
    exact h ow1 H' b1 (u1.set s (.inr (by omega))) (by have g2 := g; rw [List.take_zero, List.nil_append] at g2; exact g2)
  exact key
end
end Go.Proofs.YtoddfageecbkcaaGreat

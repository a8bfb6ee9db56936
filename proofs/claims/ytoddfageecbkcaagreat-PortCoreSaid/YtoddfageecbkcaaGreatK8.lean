/-
  CONTRACTS: the locks that a core has; lanes.
-/
import Derived.Test.YtoddfageecbkcaaGreatK7
namespace Go.Proofs.YtoddfageecbkcaaGreat
open Go Go.Eng Sy
set_option linter.unusedVariables false
set_option linter.unusedSimpArgs false
set_option maxRecDepth 100000

theorem list16 {l : List Int} (h : l.length = 16) : ∃ o0 o1 o2 o3 o4 o5 o6 o7 o8 o9 o10 o11 o12 o13 o14 o15, l = [o0, o1, o2, o3, o4, o5, o6, o7, o8, o9, o10, o11, o12, o13, o14, o15] := by
  match l, h with
  | [o0, o1, o2, o3, o4, o5, o6, o7, o8, o9, o10, o11, o12, o13, o14, o15], _ => exact ⟨_, _, _, _, _, _, _, _, _, _, _, _, _, _, _, _, rfl⟩

theorem c16 {j : Nat} (h : j < 16) : j = 0 ∨ j = 1 ∨ j = 2 ∨ j = 3 ∨ j = 4 ∨ j = 5 ∨ j = 6 ∨ j = 7 ∨ j = 8 ∨ j = 9 ∨ j = 10 ∨ j = 11 ∨ j = 12 ∨ j = 13 ∨ j = 14 ∨ j = 15 := by omega

def heldN (owners : List Int) (c : Int) (k : Nat) : List Nat := (List.range k).filter fun i => owners.getD i 0 == c + 1
theorem heldN_succ (owners : List Int) (c : Int) (k : Nat) : heldN owners c (k + 1) = heldN owners c k ++ (if owners.getD k 0 == c + 1 then [k] else []) := by
  unfold heldN; rw [List.range_succ, List.filter_append]
  congr 1
  simp only [List.filter_cons, List.filter_nil]
theorem heldN_len (owners : List Int) (c : Int) (k : Nat) : (heldN owners c k).length ≤ k := by
  unfold heldN; exact Nat.le_trans (List.length_filter_le _ _) (by simp)

section
variable {m : Amb} {r : Nat} {ow : Ow} {H : Hp} {K : Value → Hp → Prop} {b : Nat} {cores locks : Int} {owners : List Int}

theorem C107 {x : Int} (hL : LocksR r ow H b cores locks owners) (ho : owners.length = 16) (h8 : cores ≤ 8) (hx : 0 ≤ x ∧ x < cores)
    (h : ∀ ow' H' q c, Upd Tno ow H ow' H' → SlT 1 ow' H' T0 q (heldOf owners x).length c ((heldOf owners x).map fun (i : Nat) => I i) → K (.slice q (heldOf owners x).length c) H') : CallsH Tryz.prog m 107 [Pt b, I x] H K := by
  refine S107 (C106 hL hx ⟨_, rfl, br_f ?_⟩)
  obtain ⟨o0, o1, o2, o3, o4, o5, o6, o7, o8, o9, o10, o11, o12, o13, o14, o15, rfl⟩ := list16 ho
  refine nn_r ?_
  refine ldI_r (x := o0) hL.2 rfl (ldI_r (x := o1) hL.2 rfl (ldI_r (x := o2) hL.2 rfl (ldI_r (x := o3) hL.2 rfl ?_)))
  refine ldI_r (x := o4) hL.2 rfl (ldI_r (x := o5) hL.2 rfl (ldI_r (x := o6) hL.2 rfl (ldI_r (x := o7) hL.2 rfl ?_)))
  refine ldI_r (x := o8) hL.2 rfl (ldI_r (x := o9) hL.2 rfl (ldI_r (x := o10) hL.2 rfl (ldI_r (x := o11) hL.2 rfl ?_)))
  refine ldI_r (x := o12) hL.2 rfl (ldI_r (x := o13) hL.2 rfl (ldI_r (x := o14) hL.2 rfl (ldI_r (x := o15) hL.2 rfl ?_)))
  generalize hO : [o0, o1, o2, o3, o4, o5, o6, o7, o8, o9, o10, o11, o12, o13, o14, o15] = O at h
  refine ⟨fun q n c i A => ∃ k : Nat, i = (k : Int) ∧ k ≤ 16 ∧ n = (heldN O x k).length ∧ ∃ ow', Fresh H.size q ∧ Upd Tno ow H ow' A ∧ SlT 1 ow' A T0 q n c ((heldN O x k).map fun (i : Nat) => I i), fun _ _ _ i _ => (16 - i).toNat, ⟨0, rfl, by omega, rfl, ow, Fresh.none, Upd.refl _ _ _, SlT.nil⟩, ?_⟩
  rintro q n c i A w j ⟨k, rfl, hk, rfl, ow', f, u, s⟩ hw
  by_cases hlt : k < 16
  · refine br_yes (by simp; omega) ⟨I (O.getD k 0), ?_, O.getD k 0, rfl, ?_⟩
    · subst hO
      rcases c16 hlt with rfl | rfl | rfl | rfl | rfl | rfl | rfl | rfl | rfl | rfl | rfl | rfl | rfl | rfl | rfl | rfl <;> (intro w; kernel_rfl)
    · rw [wr_i64 (n := x + 1) (by omega) (by omega), wr_i64 (n := (k : Int) + 1) (by omega) (by omega)]
      have hdec : Nat.succ (16 - ((k : Int) + 1)).toNat ≤ w := by
        subst hw; show (16 - ((k : Int) + 1)).toNat + 1 ≤ (16 - (k : Int)).toNat; omega
      have hs := heldN_succ O x k
      by_cases e : O.getD k 0 == x + 1
      · rw [if_pos e] at hs
        refine br_yes e (nw_t (ow := ow') T0 ?_)
        intro ow1 H1 b1 u1 hb1 g1
        refine .inr ⟨_, rfl, rfl, _, rcells_of g1.2, by simp, ?_⟩
        have hkl := heldN_len O x k
        refine ap_f (u.trans u1) f zc3l (s.upd u1 id) (by rfl) (by intro v hv; simp at hv; subst hv; rfl) (by omega) ?_ ?_
        · intro hlt2
          have := ncap (n := (heldN O x k).length + 1) (c := c) (by have := s.2.1; omega) (by omega) hlt2
          omega
        · intro ow2 q' c' H2 U2 u2 f2 s2
          refine ⟨⟨k + 1, rfl, by omega, by rw [hs]; simp, ow2, f2, U2, ?_⟩, hdec⟩
          rw [hs, List.map_append]; exact s2
      · rw [if_neg e] at hs
        refine br_no (by simpa using e) ⟨⟨k + 1, rfl, by omega, by rw [hs]; simp, ow', f, u, ?_⟩, hdec⟩
        rw [hs, List.append_nil]; exact s
  · obtain rfl : k = 16 := by omega
    exact br_no (by simp) (h ow' A q c u s)
end
end Go.Proofs.YtoddfageecbkcaaGreat

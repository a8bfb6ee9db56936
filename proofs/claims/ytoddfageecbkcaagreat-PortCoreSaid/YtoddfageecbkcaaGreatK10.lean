/-
  CONTRACTS: lanes told whole, and cloned; mailboxes.
-/
import Derived.Test.YtoddfageecbkcaaGreatK9
namespace Go.Proofs.YtoddfageecbkcaaGreat
open Go Go.Eng Sy
set_option linter.unusedVariables false
set_option linter.unusedSimpArgs false
set_option maxRecDepth 100000

section
variable {m : Amb} {r : Nat} {ow : Ow} {H : Hp} {K : Value → Hp → Prop} {i bl : Nat} {l : List Int}

theorem C96 (hr0 : 0 < r) (hR : LaneR r ow H i bl l) (h : ∀ ow' H' q c, Upd Tno ow H ow' H' → SlT 1 ow' H' T0 q l.length c (l.map I) → K (.slice q l.length c) H') : CallsH Tryz.prog m 96 [Pt bl] H K := by
  refine S96 (C117 hR ⟨_, rfl, ?_⟩)
  obtain ⟨q0, c0, first, room, h1, h2, h3, h4, h5, h6⟩ := hR
  refine ⟨fun q n c j A => ∃ k : Nat, j = (k : Int) ∧ k ≤ l.length ∧ n = k ∧ ∃ ow', Fresh H.size q ∧ Upd Tno ow H ow' A ∧ SlT 1 ow' A T0 q n c ((l.take k).map I), fun _ _ _ j _ => (l.length - j).toNat, ⟨0, rfl, by omega, rfl, ow, Fresh.none, Upd.refl _ _ _, SlT.nil⟩, ?_⟩
  rintro q n c j A w jj ⟨k, rfl, hk, rfl, ow', f, u, s⟩ hw
  by_cases hlt : n < l.length
  · refine br_yes (by simp; omega) ?_
    have g1 := h1.upd u id
    have g2 := h2.upd u id
    refine nn_r (ldS_r g1.2 rfl (C120 g1 (by omega) (by omega) ⟨_, rfl, must_r (cont_r g1.2 rfl) (ld_sl g2 (by omega) ?_)⟩))
    have e1 : room.getD (((first : Int) + (n : Int)) % 16).toNat 0 = l.getD n 0 := by
      rw [← h6 n hlt, show (((first : Int) + (n : Int)) % 16).toNat = (first + n) % 16 by omega]
    rw [e1]
    refine nw_t (ow := ow') T0 ?_
    intro ow1 H1 b1 u1 hb1 k1
    refine .inr ⟨_, rfl, rfl, _, rcells_of k1.2, by simp, ?_⟩
    refine ap_f (u.trans u1) f zc3l (s.upd u1 id) (by rfl) (by intro v hv; simp at hv; subst hv; rfl) (by omega) ?_ ?_
    · intro hlt2
      have := ncap (n := n + 1) (c := c) (by have := s.2.1; omega) (by omega) hlt2
      omega
    · intro ow2 q' c' H2 U2 u2 f2 s2
      refine ⟨⟨n + 1, wr_i64 (by omega) (by omega), by omega, rfl, ow2, f2, U2, ?_⟩, ?_⟩
      · rw [List.take_succ_eq_append_getElem hlt, List.map_append]
        have e2 : l.getD n 0 = l[n] := by rw [List.getD_eq_getElem?_getD, List.getElem?_eq_getElem hlt]; rfl
        rw [e2] at s2
        exact s2
      · rw [wr_i64 (by omega) (by omega)]; subst hw
        show ((l.length : Int) - ((n : Int) + 1)).toNat + 1 ≤ ((l.length : Int) - (n : Int)).toNat
        omega
  · obtain rfl : n = l.length := by omega
    rw [List.take_length] at s
    exact br_no (by simp) (h ow' A q c u s)

theorem C61 (hr0 : 0 < r) (r' i' : Nat) (hR : LaneR r ow H i bl l) (h : ∀ ow' H' b', Upd Tno ow H ow' H' → LaneR r' ow' H' i' b' l → K (Pt b') H') : CallsH Tryz.prog m 61 [Pt bl] H K := by
  have hR0 := hR
  obtain ⟨q0, c0, first, room, h1, h2, h3, h4, h5, h6⟩ := hR
  refine S61 (br_f (nn_r (ldS_r h1.2 rfl (nn_r (ldI_r (x := (l.length : Int)) h1.2 rfl ?_)))))
  refine mkS_t (ow := ow) (r', 10, i', 0) zc3 (by kernel_rfl) (by omega) ?_
  intro ow1 H1 q u1 eq1 s1
  refine must_r (cont_r (h1.upd u1 id).2 rfl) (nw_t (ow := ow1) (r', 9, i', 0) ?_)
  intro ow2 H2 b u2 hb g2
  have s1 : SlT 1 ow2 H2 (r', 10, i', 0) q 16 16 ((List.replicate 16 (0 : Int)).map I) := by
    have := s1.upd u2 id
    simpa using this
  refine ldS_r g2.2 rfl (C96 hr0 ((hR0.upd u1 id id).upd u2 id id) ?_)
  intro ow3 H3 q3 c3 u3 s3
  have g3 := g2.upd u3 id
  have s1 := s1.upd u3 id
  have hu : Upd Tno ow H ow3 H3 := (u1.trans u2).trans u3
  refine ⟨q3, l.length, c3, rfl, must_r (cont_r g3.2 rfl) ?_⟩
  refine cpy_t s1 s3 (one_ints l) ?_
  intro H4 e4 s4
  have hmin : Nat.min l.length ((16 : Nat) : Int).toNat = l.length := Nat.min_eq_left h4
  rw [hmin] at s4
  have hU : Upd (· = (r', 10, i', 0)) ow3 H3 ow3 H4 := by
    rcases e4 with ⟨bb, o, e1, e2, e3⟩ | rfl
    · exact e3.upd e2
    · exact Upd.refl _ _ _
  have hV : Upd Tno ow H ow3 H4 := by
    rcases e4 with ⟨bb, o, e1, e2, e3⟩ | rfl
    · refine hu.set e3 (.inr ?_)
      rw [eq1] at e1; cases e1; exact Nat.le_refl _
    · exact hu
  refine h ow3 H4 b hV ⟨q, 16, 0, l ++ List.replicate (16 - l.length) 0, g3.upd hU (by simp), ?_, by omega, h4, by simp; omega, fun k hk => ?_⟩
  · have e5 : (l.map I).take (l.length * 1) ++ ((List.replicate 16 (0 : Int)).map I).drop (l.length * 1) = (l ++ List.replicate (16 - l.length) (0 : Int)).map I := by
      rw [Nat.mul_one, List.map_append, List.take_of_length_le (by simp), ← List.map_drop, List.drop_replicate]
    rw [e5] at s4; exact s4
  · rw [show (0 + k) % 16 = k by omega]
    simp only [List.getD_eq_getElem?_getD]
    rw [List.getElem?_append_left hk]
end
end Go.Proofs.YtoddfageecbkcaaGreat

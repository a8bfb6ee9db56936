/-
  CONTRACTS: the chapter's example.
-/
import Derived.Test.YtoddfageecbkcaaGreatK23
import Derived.Test.YtoddfageecbkcaaGreatM4
namespace Go.Proofs.YtoddfageecbkcaaGreat
open Go Go.Eng Sy
set_option linter.unusedVariables false
set_option linter.unusedSimpArgs false
set_option maxRecDepth 100000

def T9 : Tg → Prop := fun τ => τ.1 = 9

section
variable {m : Amb} {ow : Ow} {H : Hp} {K : Value → Hp → Prop} {b : Nat}

theorem C50 (j : Nat) {τ0 : Tg} {q : Option Addr} {n c : Nat} {l : List Int} (hs : SlT 1 ow H τ0 q n c (l.map I)) (hn : n ≤ 2 ^ 40)
    (h : ∀ ow' H' q' c', Upd (· = (9, j, 0, 0)) ow H ow' H' → SlT 1 ow' H' (9, j, 0, 0) q' n c' ((l.map (· % 65536)).map I) → K (.slice q' n c') H') : CallsH Tryz.prog m 50 [.slice q n c] H K := by
  have hl : l.length = n := by simpa using hs.len1
  refine S50 (C97 (9, j, 0, 0) hs hn ?_)
  intro ow1 H1 q1 c1 u1 s1
  refine ⟨_, _, _, rfl, ?_⟩
  refine ⟨fun i A => ∃ k : Nat, i = (k : Int) ∧ k ≤ n ∧ Upd (· = (9, j, 0, 0)) ow1 H1 ow1 A ∧ SlT 1 ow1 A (9, j, 0, 0) q1 n c1 ((((l.take k).map (· % 65536)) ++ l.drop k).map I), fun i _ => (n - i).toNat, ⟨0, rfl, by omega, Upd.refl _ _ _, by simpa using s1⟩, ?_⟩
  rintro _ A w _ ⟨k, rfl, hk, u, s⟩ hw
  by_cases hlt : k < n
  · have hkl : k < l.length := by omega
    have e1 : (((l.take k).map (· % 65536)) ++ l.drop k).getD (k : Int).toNat 0 = l[k] := by
      rw [Int.toNat_natCast, List.getD_eq_getElem?_getD, List.getElem?_append_right (by simp; omega)]
      simp [List.getElem?_drop, hkl, show min k l.length = k by omega]
    have e2 : (((l.take k).map (· % 65536)) ++ l.drop k).set (k : Int).toNat (l[k] % 65536) = ((l.take (k + 1)).map (· % 65536)) ++ l.drop (k + 1) := by
      have hA : ((l.take k).map (· % 65536)).length = k := by simp; omega
      rw [Int.toNat_natCast, List.drop_eq_getElem_cons hkl, List.set_append_right _ _ (by omega), hA, Nat.sub_self, List.set_cons_zero, List.take_succ_eq_append_getElem hkl, List.map_append, List.append_assoc]
      rfl
    refine br_yes (by simp; omega) (ld_sl s (by omega) ?_)
    rw [e1]
    refine C35 ⟨_, rfl, st_sl s (by omega) fun H2 u2 s2 => ⟨⟨k + 1, wr_i64 (by omega) (by omega), by omega, u.trans u2, ?_⟩, ?_⟩⟩
    · rw [e2] at s2; exact s2
    · rw [wr_i64 (by omega) (by omega)]; subst hw
      show ((n : Int) - ((k : Int) + 1)).toNat + 1 ≤ ((n : Int) - (k : Int)).toNat
      omega
  · obtain rfl : k = n := by omega
    rw [← hl, List.take_length, List.drop_length, List.append_nil, hl] at s
    exact br_no (by simp) (h ow1 A q1 c1 ((u1.mono fun _ h => h.elim).trans u) s)

theorem C51 {q : Option Addr} {n c : Nat} {x : Int} (h : K (B (decide (0 ≤ x) && decide (x < n))) H) : CallsH Tryz.prog m 51 [.slice q n c, I x] H K := by
  refine S51 ?_
  unfold t51
  by_cases h0 : 0 ≤ x
  · rw [show (decide (0 ≤ x) && decide (x < (n : Int))) = decide (x < (n : Int)) by simp [h0]] at h
    exact br_yes (by simp [h0]) h
  · rw [show (decide (0 ≤ x) && decide (x < (n : Int))) = false by simp [h0]] at h
    exact br_no (by simp; omega) h

theorem C21 {q : Option Addr} {n c : Nat} {y z : Value} {ws : List Int} {τ : Tg} {x : Int} (hp : Has ow H τ b [.slice q n c, y, z]) (hs : SlT 1 ow H (9, 0, 0, 0) q n c (ws.map I)) (h : K (I (if 0 ≤ x ∧ x < n then ws.getD x.toNat 0 else 0)) H) : CallsH Tryz.prog m 21 [Pt b, I x] H K := by
  refine S21 (br_f (nn_r (ldS_r hp.2 rfl (C51 ⟨_, rfl, ?_⟩))))
  by_cases hx : 0 ≤ x ∧ x < n
  · rw [if_pos hx] at h
    exact br_no (by simp [hx]) (nn_r (ldS_r hp.2 rfl (ld_sl hs hx h)))
  · rw [if_neg hx] at h
    exact br_yes (by simp; omega) h

theorem C20 {q : Option Addr} {n c : Nat} {y z : Value} {ws : List Int} {τ : Tg} {x w : Int} (hp : Has ow H τ b [.slice q n c, y, z]) (hτ : τ ≠ (9, 0, 0, 0)) (hs : SlT 1 ow H (9, 0, 0, 0) q n c (ws.map I)) (hx : 0 ≤ x ∧ x < n)
    (h : ∀ H', Upd (· = (9, 0, 0, 0)) ow H ow H' → SlT 1 ow H' (9, 0, 0, 0) q n c ((ws.set x.toNat (w % 65536)).map I) → K (.tuple #[]) H') : CallsH Tryz.prog m 20 [Pt b, I x, I w] H K := by
  refine S20 (br_t (nn_r (ldS_r hp.2 rfl (C51 ⟨_, rfl, br_yes (by simp [hx]) (nn_r (ldS_r hp.2 rfl (C35 ⟨_, rfl, must_r (cont_r hp.2 rfl) (st_sl hs hx fun H' u s => h H' u s)⟩)))⟩))))

theorem C5 (h : ∀ ow' H', Upd T9 ow H ow' H' → K (B true) H') : CallsH Tryz.prog m 5 [] H K := by
  refine S5 ?_
  unfold t5
  refine nw_t (ow := ow) (9, 5, 0, 0) ?_
  intro ow1 H1 b1 u1 hb1 g1
  have s1 : SlT 1 ow1 H1 (9, 5, 0, 0) (some ⟨b1, 0, none⟩) 2 2 (([5, 6] : List Int).map I) := ⟨rfl, Nat.le_refl _, .inr ⟨b1, [], [], [], rfl, g1, rfl⟩⟩
  refine S19 (C50 0 s1 (by decide) ?_)
  intro ow2 H2 q2 c2 u2 s2
  refine ⟨_, _, _, rfl, C50 (l := []) 1 (SlT.nil (τ := (9, 5, 0, 0)) (ow := ow2)) (by decide) ?_⟩
  intro ow3 H3 q3 c3 u3 s3
  have s2 := s2.upd u3 (by simp)
  refine ⟨_, _, _, rfl, nw_t (ow := ow3) (9, 2, 0, 0) ?_⟩
  intro ow4 H4 b4 u4 hb4 g4
  have s2 := s2.upd u4 id
  refine ⟨_, rfl, C20 g4 (by simp) s2 (by decide) ?_⟩
  intro H5 u5 s5
  have g5 := g4.upd u5 (by simp)
  have U : Upd T9 ow H ow4 H5 := ((((u1.mono fun _ h => h.elim).trans (u2.mono fun τ h => by rw [h]; rfl)).trans (u3.mono fun τ h => by rw [h]; rfl)).trans (u4.mono fun _ h => h.elim)).trans (u5.mono fun τ h => by rw [h]; rfl)
  refine ⟨rfl, C21 g5 s5 ⟨_, rfl, br_yes (by decide) (C21 g5 s5 ⟨_, rfl, br_yes (by decide) (C21 g5 s5 ⟨_, rfl, ?_⟩)⟩)⟩⟩
  exact h ow4 H5 U
end
end Go.Proofs.YtoddfageecbkcaaGreat

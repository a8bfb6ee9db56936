/-
  CONTRACTS: THE WALK OF PortCore.
-/
import Derived.Test.YtoddfageecbkcaaGreatK24
import Derived.Test.YtoddfageecbkcaaGreatT2
namespace Go.Proofs.YtoddfageecbkcaaGreat
open Go Go.Eng Sy
set_option linter.unusedVariables false
set_option linter.unusedSimpArgs false
set_option maxRecDepth 100000

/-- The blocks of two socs, and of the example. -/
def TS : Tg → Prop := fun τ => τ.1 = 1 ∨ τ.1 = 2 ∨ τ.1 = 9
theorem TS1 : ∀ τ, TSoc 1 τ → TS τ := fun τ h => .inl h.1
theorem TS2 : ∀ τ, TSoc 2 τ → TS τ := fun τ h => .inr (.inl h.1)
theorem TS9 : ∀ τ, T9 τ → TS τ := fun τ h => .inr (.inr h)
theorem TS0 : ¬ TS T0 := by rintro (h | h | h) <;> cases h
theorem soc12 {lo hi : Nat} : Off 2 lo hi (TSoc 1) := fun τ h1 _ _ h2 => by have := h2.1; omega
theorem soc21 {lo hi : Nat} : Off 1 lo hi (TSoc 2) := fun τ h1 _ _ h2 => by have := h2.1; omega

theorem zc34 : zc Tryz.prog 34 = [I 0, I 0, I 0, I 0] := by kernel_rfl
theorem zc41 : zc Tryz.prog 41 = [I 0, I 0, I 0] := by kernel_rfl

abbrev Op4 := Int × Int × Int × Int
abbrev Op3 := Int × Int × Int
def cells4 (l : List Op4) : List Value := l.flatMap fun p => [I p.1, I p.2.1, I p.2.2.1, I p.2.2.2]
def cells3 (l : List Op3) : List Value := l.flatMap fun p => [I p.1, I p.2.1, I p.2.2]

theorem cells4_len (l : List Op4) : (cells4 l).length = 4 * l.length := by
  induction l with
  | nil => rfl
  | cons p l ih => show (I _ :: I _ :: I _ :: I _ :: cells4 l).length = _; simp [ih]; omega
theorem cells3_len (l : List Op3) : (cells3 l).length = 3 * l.length := by
  induction l with
  | nil => rfl
  | cons p l ih => show (I _ :: I _ :: I _ :: cells3 l).length = _; simp [ih]; omega
theorem cells4_get : ∀ (l : List Op4) (k : Nat) (h : k < l.length), (cells4 l)[4 * k]? = some (I l[k].1) ∧ (cells4 l)[4 * k + 1]? = some (I l[k].2.1) ∧ (cells4 l)[4 * k + 2]? = some (I l[k].2.2.1) ∧ (cells4 l)[4 * k + 3]? = some (I l[k].2.2.2)
  | p :: l, 0, _ => ⟨rfl, rfl, rfl, rfl⟩
  | p :: l, k + 1, h => by
    have := cells4_get l k (by simpa using h)
    have e : cells4 (p :: l) = I p.1 :: I p.2.1 :: I p.2.2.1 :: I p.2.2.2 :: cells4 l := rfl
    rw [e, show 4 * (k + 1) = 4 * k + 1 + 1 + 1 + 1 by omega, show 4 * k + 1 + 1 + 1 + 1 + 1 = (4 * k + 1) + 1 + 1 + 1 + 1 by omega, show 4 * k + 1 + 1 + 1 + 1 + 2 = (4 * k + 2) + 1 + 1 + 1 + 1 by omega, show 4 * k + 1 + 1 + 1 + 1 + 3 = (4 * k + 3) + 1 + 1 + 1 + 1 by omega]
    simp only [List.getElem?_cons_succ, List.getElem_cons_succ]
    exact this
theorem cells3_get : ∀ (l : List Op3) (k : Nat) (h : k < l.length), (cells3 l)[3 * k]? = some (I l[k].1) ∧ (cells3 l)[3 * k + 1]? = some (I l[k].2.1) ∧ (cells3 l)[3 * k + 2]? = some (I l[k].2.2)
  | p :: l, 0, _ => ⟨rfl, rfl, rfl⟩
  | p :: l, k + 1, h => by
    have := cells3_get l k (by simpa using h)
    have e : cells3 (p :: l) = I p.1 :: I p.2.1 :: I p.2.2 :: cells3 l := rfl
    rw [e, show 3 * (k + 1) = 3 * k + 1 + 1 + 1 by omega, show 3 * k + 1 + 1 + 1 + 1 = (3 * k + 1) + 1 + 1 + 1 by omega, show 3 * k + 1 + 1 + 1 + 2 = (3 * k + 2) + 1 + 1 + 1 by omega]
    simp only [List.getElem?_cons_succ, List.getElem_cons_succ]
    exact this

section
variable {m : Amb} {ow : Ow} {H : Hp} {K : Value → Hp → Prop}

theorem new_SameP {c w l mo : Int} : (Soc.new c w l mo).cores = c ∧ (Soc.new c w l mo).words = w := ⟨rfl, rfl⟩

theorem touch_want {s : Soc} {id k a w : Int} : (k = 1 → (0 ≤ a ∧ a < s.words) → doT s id (tch k a w) = ((s.read id a).1, (s.read id a).2.1)) ∧ (k = 1 → ¬ (0 ≤ a ∧ a < s.words) → doT s id (tch k a w) = (s, 0)) ∧
    (k = 2 → (0 ≤ a ∧ a < s.words) → doT s id (tch k a w) = ((s.write id a w).1, 0)) ∧ (k = 2 → ¬ (0 ≤ a ∧ a < s.words) → doT s id (tch k a w) = (s, 0)) ∧
    (k = 3 → doT s id (tch k a w) = ((s.fence id).1, 0)) ∧
    (k = 4 → (0 ≤ a ∧ a < s.cores) → doT s id (tch k a w) = ((s.read id (66048 + a)).1, (s.read id (66048 + a)).2.1)) ∧ (k = 4 → ¬ (0 ≤ a ∧ a < s.cores) → doT s id (tch k a w) = (s, 0)) ∧
    (k = 5 → (0 ≤ a ∧ a < s.cores) → doT s id (tch k a w) = ((s.write id (65536 + 16 * a + 2) id).1, 0)) ∧ (k = 5 → ¬ (0 ≤ a ∧ a < s.cores) → doT s id (tch k a w) = (s, 0)) ∧
    (k ≠ 1 → k ≠ 2 → k ≠ 3 → k ≠ 4 → k ≠ 5 → doT s id (tch k a w) = (s, 0)) := by
  refine ⟨?_, ?_, ?_, ?_, ?_, ?_, ?_, ?_, ?_, ?_⟩
  · rintro rfl h; show s.touch id (.ld a) = _; simp only [Soc.touch, if_pos h]
  · rintro rfl h; show s.touch id (.ld a) = _; simp only [Soc.touch, if_neg h]
  · rintro rfl h; show s.touch id (.st a w) = _; simp only [Soc.touch, if_pos h]
  · rintro rfl h; show s.touch id (.st a w) = _; simp only [Soc.touch, if_neg h]
  · rintro rfl; rfl
  · rintro rfl h; show s.touch id (.ep a) = _; simp only [Soc.touch, if_pos h]
  · rintro rfl h; show s.touch id (.ep a) = _; simp only [Soc.touch, if_neg h]
  · rintro rfl h; show s.touch id (.kick a) = _; simp only [Soc.touch, if_pos h]
  · rintro rfl h; show s.touch id (.kick a) = _; simp only [Soc.touch, if_neg h]
  · intro h1 h2 h3 h4 h5; unfold tch; rw [if_neg h1, if_neg h2, if_neg h3, if_neg h4, if_neg h5]; rfl
theorem doT_ok {s : Soc} (ok : s.Ok) {id : Int} : ∀ t : Option Sy.Touch, (doT s id t).1.Ok
  | none => ok
  | some t => ok.touch id t
theorem doT_plan {s : Soc} {id : Int} : ∀ t : Option Sy.Touch, SameP s (doT s id t).1
  | none => SameP.rfl'
  | some t => plan_touch s id t

theorem ixS4 {ow : Ow} {H : Hp} {q : Option Addr} {n : Nat} {l : List Op4} {x : Int} {k : Addr → Prop} (h : SlR ow H T0 q (cells4 l)) (hx : 0 ≤ x ∧ x < n) (hl : x.toNat < l.length)
    (hk : ∀ b o cs, rcells H b = some cs → cs[o + x.toNat * 4]? = some (I l[x.toNat].1) → cs[o + x.toNat * 4 + 1]? = some (I l[x.toNat].2.1) → cs[o + x.toNat * 4 + 2]? = some (I l[x.toNat].2.2.1) → cs[o + x.toNat * 4 + 3]? = some (I l[x.toNat].2.2.2) → k ((⟨b, o, none⟩ : Addr))) :
    ixS q x n k := by
  have hlen := cells4_len l
  obtain h | ⟨b, o, cs, rfl, g0, g1, g2⟩ := h
  · rw [h] at hlen; simp at hlen; omega
  obtain ⟨e0, e1, e2, e3⟩ := cells4_get l x.toNat hl
  refine ⟨_, rfl, hx, ?_⟩
  refine hk b o cs g1 ?_ ?_ ?_ ?_
  · rw [g2 _ (by omega), Nat.mul_comm]; exact e0
  · rw [Nat.add_assoc, g2 _ (by omega), Nat.mul_comm]; exact e1
  · rw [Nat.add_assoc, g2 _ (by omega), Nat.mul_comm]; exact e2
  · rw [Nat.add_assoc, g2 _ (by omega), Nat.mul_comm]; exact e3
theorem ixS3 {ow : Ow} {H : Hp} {q : Option Addr} {n : Nat} {l : List Op3} {x : Int} {k : Addr → Prop} (h : SlR ow H T0 q (cells3 l)) (hx : 0 ≤ x ∧ x < n) (hl : x.toNat < l.length)
    (hk : ∀ b o cs, rcells H b = some cs → cs[o + x.toNat * 3]? = some (I l[x.toNat].1) → cs[o + x.toNat * 3 + 1]? = some (I l[x.toNat].2.1) → cs[o + x.toNat * 3 + 2]? = some (I l[x.toNat].2.2) → k ((⟨b, o, none⟩ : Addr))) :
    ixS q x n k := by
  have hlen := cells3_len l
  obtain h | ⟨b, o, cs, rfl, g0, g1, g2⟩ := h
  · rw [h] at hlen; simp at hlen; omega
  obtain ⟨e0, e1, e2⟩ := cells3_get l x.toNat hl
  refine ⟨_, rfl, hx, ?_⟩
  refine hk b o cs g1 ?_ ?_ ?_
  · rw [g2 _ (by omega), Nat.mul_comm]; exact e0
  · rw [Nat.add_assoc, g2 _ (by omega), Nat.mul_comm]; exact e1
  · rw [Nat.add_assoc, g2 _ (by omega), Nat.mul_comm]; exact e2

section
variable {m : Amb} {ow : Ow} {H : Hp} {K : Value → Hp → Prop}

theorem T20 : ¬ TSoc 2 T0 := fun h => by have := h.1; cases this
theorem T10 : ¬ TSoc 1 T0 := fun h => by have := h.1; cases this

theorem alive_u {ow1 : Ow} {H1 : Hp} (u : Upd TS ow H ow1 H1) (h : ∀ ow' H', Upd TS ow H ow' H' → K (B true) H') : CallsH Tryz.prog m 5 [] H1 fun v A => ∃ e : Bool, must (v = .bool e) (K (.bool e) A) :=
  C5 (ow := ow1) fun ow' H' u' => ⟨true, rfl, h ow' H' (u.trans (u'.mono TS9))⟩

set_option maxHeartbeats 4000000 in
theorem C3 {x0 x1 x2 x3 x5 : Int} {q4 q6 : Option Addr} {n4 c4 n6 c6 : Nat} {ops : List Op4} {l : List Op3} (i0 : i64 x0) (i1 : i64 x1) (i2 : i64 x2) (l4 : ops.length = n4) (s4 : SlR ow H T0 q4 (cells4 ops)) (h4 : ∀ p ∈ ops, i64 p.2.2.1)
    (l6 : l.length = n6) (s6 : SlR ow H T0 q6 (cells3 l)) (h6 : ∀ p ∈ l, i64 p.2.1) (h : ∀ ow' H', Upd TS ow H ow' H' → K (B true) H') :
    CallsH Tryz.prog m 3 [.agg #[I x0, I x1, I x2], I x3, .slice q4 n4 c4, .agg #[I x5, .slice q6 n6 c6]] H K := by
  refine S3 ?_
  unfold t3; rw [zc34, zc41]
  refine nw_t (ow := ow) T0 ?_
  intro ow1 H1 b0 u1 hb0 g0
  refine nw_t (ow := ow1) T0 ?_
  intro ow2 H2 b2 u2 hb2 g2
  replace g0 := g0.upd u2 id
  have U : Upd TS ow H ow2 H2 := (u1.trans u2).mono fun _ h => h.elim
  replace s4 := (s4.upd u1 id).upd u2 id
  replace s6 := (s6.upd u1 id).upd u2 id
  refine ldI_r (x := x0) g0.2 rfl (ldI_r (x := x1) g0.2 rfl (ldI_r (x := x2) g0.2 rfl (C4 (ow := ow2) 1 (by decide) i0 i1 i2 ?_ ?_)))
  · intro hno ow3 H3 u3
    exact ⟨_, _, rfl, br_yes rfl (alive_u (U.trans (u3.mono fun _ h => h.elim)) h)⟩
  intro hr ow3 H3 b u3 S1
  have ok0 := Soc.new_ok hr.1 hr.2
  have hpl := @new_SameP x0 x1 x2 x3
  revert S1 ok0 hpl
  generalize Soc.new x0 x1 x2 x3 = s0
  intro S1 ok0 hpl
  replace U := U.trans (u3.mono fun _ h => h.elim)
  replace g0 := g0.upd u3 id
  replace g2 := g2.upd u3 id
  replace s4 := s4.upd u3 id
  replace s6 := s6.upd u3 id
  refine ⟨_, _, rfl, br_no rfl (br_no rfl (ldI_r (x := x1) g0.2 rfl ?_))⟩
  by_cases c1 : x1 > 100
  · exact br_yes (decide_eq_true c1) (alive_u U h)
  refine br_no (decide_eq_false c1) ?_
  by_cases c2 : (n4 : Int) > 40
  · exact br_yes (decide_eq_true c2) (alive_u U h)
  refine br_no (decide_eq_false c2) (ldS_r g2.2 rfl ?_)
  by_cases c3 : (n6 : Int) > 40
  · exact br_yes (decide_eq_true c3) (alive_u U h)
  refine br_no (decide_eq_false c3) ?_
  refine ⟨fun i A => ∃ k : Nat, i = (k : Int) ∧ k ≤ n4 ∧ ∃ ow' s, Upd TS ow3 H3 ow' A ∧ SocR 1 ow' A b s ∧ s.Ok ∧ s.cores = x0 ∧ s.words = x1, fun i _ => (n4 - i).toNat, ⟨0, rfl, by omega, ow3, s0, Upd.refl _ _ _, S1, ok0, hpl⟩, ?_⟩
  rintro _ A w _ ⟨k, rfl, hk, ow4, s, u4, S1, ok, hpl⟩ hw
  by_cases hlt : k < n4
  · refine br_yes (by simp; omega) ?_
    refine ixS4 (x := (k : Int)) (s4.upd u4 TS0) (by omega) (by simp; omega) ?_
    intro bb o cs gb e0 e1 e2 e3
    rw [add_mk]
    simp only [Int.toNat_natCast] at e0 e1 e2 e3 ⊢
    refine ldI_rr gb e0 (ldI_rr gb e1 (ldI_rr gb e2 (ldI_rr gb e3 ?_)))
    refine nw_t (ow := ow4) T0 ?_
    intro ow5 H5 b5 u5 hb5 g5
    have hA : A.size ≤ b5 := Nat.le_of_eq hb5.symm
    refine st_t g5 rfl (by decide) fun H6 w6 g6 => st_t g6 rfl (by simp) fun H7 w7 g7 => st_t g7 rfl (by simp) fun H8 w8 g8 => st_t g8 rfl (by simp) fun H9 w9 g9 => ?_
    have u9 : Upd Tno ow4 A ow5 H9 := (((u5.set w6 (.inr hA)).set w7 (.inr hA)).set w8 (.inr hA)).set w9 (.inr hA)
    refine ldI_r (x := ops[k].1) g9.2 rfl (ldI_r (x := ops[k].2.1) g9.2 rfl (ldI_r (x := ops[k].2.2.1) g9.2 rfl (ldI_r (x := ops[k].2.2.2) g9.2 rfl ?_)))
    refine C6 (by decide) (S1.upd u9 Off.no) ok (h4 _ (List.getElem_mem _)) ?_
    intro ow6 H10 u10 S10
    have sp := plan_op s ops[k].1 ops[k].2.1 ops[k].2.2.1 ops[k].2.2.2
    refine ⟨_, _, rfl, ⟨k + 1, wr_i64 (by omega) (by omega), by omega, ow6, _, (u4.trans (u9.mono fun _ h => h.elim)).trans (u10.mono TS1), S10, ok.op _ _ _ _, sp.1.trans hpl.1, sp.2.1.trans hpl.2⟩, ?_⟩
    rw [wr_i64 (by omega) (by omega)]; subst hw
    show ((n4 : Int) - ((k : Int) + 1)).toNat + 1 ≤ ((n4 : Int) - (k : Int)).toNat
    omega
  · refine br_no (by simp; omega) ?_
    refine C7 (by decide) 2 (by decide) S1 ok ?_
    intro ow5 H5 bc u5 S2
    have u45 := u4.trans (u5.mono (T' := TS) fun _ h => h.elim)
    replace S1 := S1.upd u5 Off.no
    replace g0 := g0.upd u45 TS0
    replace g2 := g2.upd u45 TS0
    replace s6 := s6.upd u45 TS0
    refine ⟨_, rfl, ldI_r (x := x5) g2.2 rfl (C8 (ow := ow5) ?_)⟩
    intro ow6 H6 bp u6 gp
    replace S1 := S1.upd u6 Off.no
    replace S2 := S2.upd u6 Off.no
    replace g0 := g0.upd u6 id
    replace g2 := g2.upd u6 id
    replace s6 := s6.upd u6 id
    replace U := (U.trans u45).trans (u6.mono (T' := TS) fun _ h => h.elim)
    refine ⟨_, rfl, ldS_r g2.2 rfl ?_⟩
    clear s4 u4 u45 u5 u6 hk
    refine ⟨fun i A => ∃ k : Nat, i = (k : Int) ∧ k ≤ n6 ∧ ∃ ow' s, Upd TS ow6 H6 ow' A ∧ SocR 1 ow' A b s ∧ SocR 2 ow' A bc s ∧ s.Ok ∧ s.cores = x0 ∧ s.words = x1, fun i _ => (n6 - i).toNat, ⟨0, rfl, by omega, ow6, s, Upd.refl _ _ _, S1, S2, ok, hpl⟩, ?_⟩
    clear S1 S2 ok hpl hlt hw
    rintro _ A w _ ⟨k, rfl, hk, ow7, s, u7, S1, S2, ok, hpl⟩ hw
    by_cases hlt : k < n6
    · refine br_yes (by simp; omega) ?_
      refine ixS3 (x := (k : Int)) (s6.upd u7 TS0) (by omega) (by simp; omega) ?_
      intro bb o cs gb e0 e1 e2
      rw [add_mk]
      simp only [Int.toNat_natCast] at e0 e1 e2 ⊢
      refine ldI_rr gb e0 (ldI_rr gb e1 (ldI_rr gb e2 ?_))
      have hi := h6 _ (List.getElem_mem (l := l) (n := k) (by omega))
      generalize hkd : l[k].1 = kd at *
      generalize hka : l[k].2.1 = ka at *
      generalize hkw : l[k].2.2 = kw at *
      refine nw_t (ow := ow7) T0 ?_
      intro ow8 H8 b8 u8 hb8 g8
      have hA : A.size ≤ b8 := Nat.le_of_eq hb8.symm
      refine st_t g8 rfl (by decide) fun H9 w9 g9 => st_t g9 rfl (by simp) fun H10 w10 g10 => st_t g10 rfl (by simp) fun H11 w11 gt => ?_
      have u11 : Upd Tno ow7 A ow8 H11 := ((u8.set w9 (.inr hA)).set w10 (.inr hA)).set w11 (.inr hA)
      replace S1 := S1.upd u11 Off.no
      replace S2 := S2.upd u11 Off.no
      have u7' := u7.trans (u11.mono (T' := TS) fun _ h => h.elim)
      have f0 := g0.upd u7' TS0
      have f2 := g2.upd u7' TS0
      have fp := gp.upd u7' TS0
      clear u8 g8 w9 g9 w10 g10 w11 u11 e0 e1 e2 gb hkd hka hkw u7
      have hT := @touch_want s x5 kd ka kw
      have hc8 := Soc.cores8 ok
      refine ldI_r (x := ka) gt.2 rfl ?_
      by_cases hge : ka ≥ 0
      · refine br_yes (decide_eq_true hge) (ldI_r (x := ka) gt.2 rfl (ldI_r (x := x1) f0.2 rfl ⟨fun j B => ∃ ow', Upd (TSoc 2) ow8 H11 ow' B ∧ SocR 2 ow' B bc (doT s x5 (tch kd ka kw)).1 ∧ j = (doT s x5 (tch kd ka kw)).2, ?_, ?_⟩))
        · rcases (show kd = 1 ∨ kd = 2 ∨ kd = 3 ∨ kd = 4 ∨ kd = 5 ∨ (kd ≠ 1 ∧ kd ≠ 2 ∧ kd ≠ 3 ∧ kd ≠ 4 ∧ kd ≠ 5) by omega) with k1 | k1 | k1 | k1 | k1 | k1
          · by_cases hr : 0 ≤ ka ∧ ka < s.words
            · first
              | (exfalso; omega)
              | have e := hT.1 k1 hr
                (repeat (first | refine br_yes (decide_eq_true (by omega)) ?_ | refine br_no (decide_eq_false (by omega)) ?_ | refine br_yes (beq_iff_eq.2 (by omega)) ?_ | refine br_no (beq_eq_false_iff_ne.2 (by omega)) ?_ | refine ldI_r (x := kd) gt.2 rfl ?_ | refine ldI_r (x := ka) gt.2 rfl ?_ | refine ldI_r (x := kw) gt.2 rfl ?_ | refine ldI_r (x := x0) f0.2 rfl ?_ | refine ldI_r (x := x1) f0.2 rfl ?_ | refine ldI_r (x := x5) f2.2 rfl ?_))
                refine C9 (by decide) S2 ok hi ?_
                intro ow9 H12 u9 S9
                exact ⟨_, _, rfl, ow9, u9, by rw [e]; exact S9, by rw [e]⟩
            · have e := hT.2.1 k1 hr
              (repeat (first | refine br_yes (decide_eq_true (by omega)) ?_ | refine br_no (decide_eq_false (by omega)) ?_ | refine br_yes (beq_iff_eq.2 (by omega)) ?_ | refine br_no (beq_eq_false_iff_ne.2 (by omega)) ?_ | refine ldI_r (x := kd) gt.2 rfl ?_ | refine ldI_r (x := ka) gt.2 rfl ?_ | refine ldI_r (x := kw) gt.2 rfl ?_ | refine ldI_r (x := x0) f0.2 rfl ?_ | refine ldI_r (x := x1) f0.2 rfl ?_ | refine ldI_r (x := x5) f2.2 rfl ?_))
              exact ⟨ow8, Upd.refl _ _ _, by rw [e]; exact S2, by rw [e]⟩
          · by_cases hr : 0 ≤ ka ∧ ka < s.words
            · first
              | (exfalso; omega)
              | have e := hT.2.2.1 k1 hr
                (repeat (first | refine br_yes (decide_eq_true (by omega)) ?_ | refine br_no (decide_eq_false (by omega)) ?_ | refine br_yes (beq_iff_eq.2 (by omega)) ?_ | refine br_no (beq_eq_false_iff_ne.2 (by omega)) ?_ | refine ldI_r (x := kd) gt.2 rfl ?_ | refine ldI_r (x := ka) gt.2 rfl ?_ | refine ldI_r (x := kw) gt.2 rfl ?_ | refine ldI_r (x := x0) f0.2 rfl ?_ | refine ldI_r (x := x1) f0.2 rfl ?_ | refine ldI_r (x := x5) f2.2 rfl ?_))
                refine C10 (by decide) S2 ok hi ?_
                intro ow9 H12 u9 S9
                exact ⟨_, rfl, ow9, u9, by rw [e]; exact S9, by rw [e]⟩
            · have e := hT.2.2.2.1 k1 hr
              (repeat (first | refine br_yes (decide_eq_true (by omega)) ?_ | refine br_no (decide_eq_false (by omega)) ?_ | refine br_yes (beq_iff_eq.2 (by omega)) ?_ | refine br_no (beq_eq_false_iff_ne.2 (by omega)) ?_ | refine ldI_r (x := kd) gt.2 rfl ?_ | refine ldI_r (x := ka) gt.2 rfl ?_ | refine ldI_r (x := kw) gt.2 rfl ?_ | refine ldI_r (x := x0) f0.2 rfl ?_ | refine ldI_r (x := x1) f0.2 rfl ?_ | refine ldI_r (x := x5) f2.2 rfl ?_))
              exact ⟨ow8, Upd.refl _ _ _, by rw [e]; exact S2, by rw [e]⟩
          · have e := hT.2.2.2.2.1 k1
            (repeat (first | refine br_yes (decide_eq_true (by omega)) ?_ | refine br_no (decide_eq_false (by omega)) ?_ | refine br_yes (beq_iff_eq.2 (by omega)) ?_ | refine br_no (beq_eq_false_iff_ne.2 (by omega)) ?_ | refine ldI_r (x := kd) gt.2 rfl ?_ | refine ldI_r (x := ka) gt.2 rfl ?_ | refine ldI_r (x := kw) gt.2 rfl ?_ | refine ldI_r (x := x0) f0.2 rfl ?_ | refine ldI_r (x := x1) f0.2 rfl ?_ | refine ldI_r (x := x5) f2.2 rfl ?_))
            refine C11 (by decide) S2 ok ?_
            intro ow9 H12 u9 S9
            exact ⟨_, _, rfl, ow9, u9, by rw [e]; exact S9, by rw [e]⟩
          · by_cases hr : 0 ≤ ka ∧ ka < s.cores
            · first
              | (exfalso; omega)
              | have e := hT.2.2.2.2.2.1 k1 hr
                (repeat (first | refine br_yes (decide_eq_true (by omega)) ?_ | refine br_no (decide_eq_false (by omega)) ?_ | refine br_yes (beq_iff_eq.2 (by omega)) ?_ | refine br_no (beq_eq_false_iff_ne.2 (by omega)) ?_ | refine ldI_r (x := kd) gt.2 rfl ?_ | refine ldI_r (x := ka) gt.2 rfl ?_ | refine ldI_r (x := kw) gt.2 rfl ?_ | refine ldI_r (x := x0) f0.2 rfl ?_ | refine ldI_r (x := x1) f0.2 rfl ?_ | refine ldI_r (x := x5) f2.2 rfl ?_))
                rw [wr_i64 (by omega) (by omega)]
                refine C9 (by decide) S2 ok (by unfold i64; omega) ?_
                intro ow9 H12 u9 S9
                exact ⟨_, _, rfl, ow9, u9, by rw [e]; exact S9, by rw [e]⟩
            · have e := hT.2.2.2.2.2.2.1 k1 hr
              (repeat (first | refine br_yes (decide_eq_true (by omega)) ?_ | refine br_no (decide_eq_false (by omega)) ?_ | refine br_yes (beq_iff_eq.2 (by omega)) ?_ | refine br_no (beq_eq_false_iff_ne.2 (by omega)) ?_ | refine ldI_r (x := kd) gt.2 rfl ?_ | refine ldI_r (x := ka) gt.2 rfl ?_ | refine ldI_r (x := kw) gt.2 rfl ?_ | refine ldI_r (x := x0) f0.2 rfl ?_ | refine ldI_r (x := x1) f0.2 rfl ?_ | refine ldI_r (x := x5) f2.2 rfl ?_))
              exact ⟨ow8, Upd.refl _ _ _, by rw [e]; exact S2, by rw [e]⟩
          · by_cases hr : 0 ≤ ka ∧ ka < s.cores
            · first
              | (exfalso; omega)
              | have e := hT.2.2.2.2.2.2.2.1 k1 hr
                (repeat (first | refine br_yes (decide_eq_true (by omega)) ?_ | refine br_no (decide_eq_false (by omega)) ?_ | refine br_yes (beq_iff_eq.2 (by omega)) ?_ | refine br_no (beq_eq_false_iff_ne.2 (by omega)) ?_ | refine ldI_r (x := kd) gt.2 rfl ?_ | refine ldI_r (x := ka) gt.2 rfl ?_ | refine ldI_r (x := kw) gt.2 rfl ?_ | refine ldI_r (x := x0) f0.2 rfl ?_ | refine ldI_r (x := x1) f0.2 rfl ?_ | refine ldI_r (x := x5) f2.2 rfl ?_))
                rw [wr_i64 (n := 16 * ka) (by omega) (by omega), wr_i64 (n := 65536 + 16 * ka) (by omega) (by omega), wr_i64 (n := 65536 + 16 * ka + 2) (by omega) (by omega)]
                refine C10 (by decide) S2 ok (by unfold i64; omega) ?_
                intro ow9 H12 u9 S9
                exact ⟨_, rfl, ow9, u9, by rw [e]; exact S9, by rw [e]⟩
            · have e := hT.2.2.2.2.2.2.2.2.1 k1 hr
              (repeat (first | refine br_yes (decide_eq_true (by omega)) ?_ | refine br_no (decide_eq_false (by omega)) ?_ | refine br_yes (beq_iff_eq.2 (by omega)) ?_ | refine br_no (beq_eq_false_iff_ne.2 (by omega)) ?_ | refine ldI_r (x := kd) gt.2 rfl ?_ | refine ldI_r (x := ka) gt.2 rfl ?_ | refine ldI_r (x := kw) gt.2 rfl ?_ | refine ldI_r (x := x0) f0.2 rfl ?_ | refine ldI_r (x := x1) f0.2 rfl ?_ | refine ldI_r (x := x5) f2.2 rfl ?_))
              exact ⟨ow8, Upd.refl _ _ _, by rw [e]; exact S2, by rw [e]⟩
          · have e := hT.2.2.2.2.2.2.2.2.2 k1.1 k1.2.1 k1.2.2.1 k1.2.2.2.1 k1.2.2.2.2
            (repeat (first | refine br_yes (decide_eq_true (by omega)) ?_ | refine br_no (decide_eq_false (by omega)) ?_ | refine br_yes (beq_iff_eq.2 (by omega)) ?_ | refine br_no (beq_eq_false_iff_ne.2 (by omega)) ?_ | refine ldI_r (x := kd) gt.2 rfl ?_ | refine ldI_r (x := ka) gt.2 rfl ?_ | refine ldI_r (x := kw) gt.2 rfl ?_ | refine ldI_r (x := x0) f0.2 rfl ?_ | refine ldI_r (x := x1) f0.2 rfl ?_ | refine ldI_r (x := x5) f2.2 rfl ?_))
            exact ⟨ow8, Upd.refl _ _ _, by rw [e]; exact S2, by rw [e]⟩
        · rintro _ B _ ⟨ow9, u9, S2', rfl⟩
          have gt' := gt.upd u9 T20
          refine ldI_r (x := kd) gt'.2 rfl (ldI_r (x := ka) gt'.2 rfl (ldI_r (x := kw) gt'.2 rfl (C12 (by decide) (fp.upd u9 T20) (S1.upd u9 soc21) ok ?_)))
          intro ow10 H13 u10 S1'
          refine ⟨_, rfl, br_no (by simp) (C13 (by decide) (by decide) S1' (S2'.upd u10 soc12) (doT_ok ok _) ?_)⟩
          intro ow11 H14 u14
          have sp := doT_plan (s := s) (id := x5) (tch kd ka kw)
          refine ⟨_, rfl, br_no rfl ⟨⟨k + 1, wr_i64 (by omega) (by omega), by omega, ow11, _, (((u7'.trans (u9.mono TS2)).trans (u10.mono TS1)).trans (u14.mono fun _ h => h.elim)), S1'.upd u14 Off.no, (S2'.upd u10 soc12).upd u14 Off.no, doT_ok ok _, sp.1.trans hpl.1, sp.2.1.trans hpl.2⟩, ?_⟩⟩
          rw [wr_i64 (by omega) (by omega)]; subst hw
          show ((n6 : Int) - ((k : Int) + 1)).toNat + 1 ≤ ((n6 : Int) - (k : Int)).toNat
          omega
      · refine br_no (decide_eq_false hge) ⟨fun j B => ∃ ow', Upd (TSoc 2) ow8 H11 ow' B ∧ SocR 2 ow' B bc (doT s x5 (tch kd ka kw)).1 ∧ j = (doT s x5 (tch kd ka kw)).2, ?_, ?_⟩
        · rcases (show kd = 1 ∨ kd = 2 ∨ kd = 3 ∨ kd = 4 ∨ kd = 5 ∨ (kd ≠ 1 ∧ kd ≠ 2 ∧ kd ≠ 3 ∧ kd ≠ 4 ∧ kd ≠ 5) by omega) with k1 | k1 | k1 | k1 | k1 | k1
          · by_cases hr : 0 ≤ ka ∧ ka < s.words
            · first
              | (exfalso; omega)
              | have e := hT.1 k1 hr
                (repeat (first | refine br_yes (decide_eq_true (by omega)) ?_ | refine br_no (decide_eq_false (by omega)) ?_ | refine br_yes (beq_iff_eq.2 (by omega)) ?_ | refine br_no (beq_eq_false_iff_ne.2 (by omega)) ?_ | refine ldI_r (x := kd) gt.2 rfl ?_ | refine ldI_r (x := ka) gt.2 rfl ?_ | refine ldI_r (x := kw) gt.2 rfl ?_ | refine ldI_r (x := x0) f0.2 rfl ?_ | refine ldI_r (x := x1) f0.2 rfl ?_ | refine ldI_r (x := x5) f2.2 rfl ?_))
                refine C9 (by decide) S2 ok hi ?_
                intro ow9 H12 u9 S9
                exact ⟨_, _, rfl, ow9, u9, by rw [e]; exact S9, by rw [e]⟩
            · have e := hT.2.1 k1 hr
              (repeat (first | refine br_yes (decide_eq_true (by omega)) ?_ | refine br_no (decide_eq_false (by omega)) ?_ | refine br_yes (beq_iff_eq.2 (by omega)) ?_ | refine br_no (beq_eq_false_iff_ne.2 (by omega)) ?_ | refine ldI_r (x := kd) gt.2 rfl ?_ | refine ldI_r (x := ka) gt.2 rfl ?_ | refine ldI_r (x := kw) gt.2 rfl ?_ | refine ldI_r (x := x0) f0.2 rfl ?_ | refine ldI_r (x := x1) f0.2 rfl ?_ | refine ldI_r (x := x5) f2.2 rfl ?_))
              exact ⟨ow8, Upd.refl _ _ _, by rw [e]; exact S2, by rw [e]⟩
          · by_cases hr : 0 ≤ ka ∧ ka < s.words
            · first
              | (exfalso; omega)
              | have e := hT.2.2.1 k1 hr
                (repeat (first | refine br_yes (decide_eq_true (by omega)) ?_ | refine br_no (decide_eq_false (by omega)) ?_ | refine br_yes (beq_iff_eq.2 (by omega)) ?_ | refine br_no (beq_eq_false_iff_ne.2 (by omega)) ?_ | refine ldI_r (x := kd) gt.2 rfl ?_ | refine ldI_r (x := ka) gt.2 rfl ?_ | refine ldI_r (x := kw) gt.2 rfl ?_ | refine ldI_r (x := x0) f0.2 rfl ?_ | refine ldI_r (x := x1) f0.2 rfl ?_ | refine ldI_r (x := x5) f2.2 rfl ?_))
                refine C10 (by decide) S2 ok hi ?_
                intro ow9 H12 u9 S9
                exact ⟨_, rfl, ow9, u9, by rw [e]; exact S9, by rw [e]⟩
            · have e := hT.2.2.2.1 k1 hr
              (repeat (first | refine br_yes (decide_eq_true (by omega)) ?_ | refine br_no (decide_eq_false (by omega)) ?_ | refine br_yes (beq_iff_eq.2 (by omega)) ?_ | refine br_no (beq_eq_false_iff_ne.2 (by omega)) ?_ | refine ldI_r (x := kd) gt.2 rfl ?_ | refine ldI_r (x := ka) gt.2 rfl ?_ | refine ldI_r (x := kw) gt.2 rfl ?_ | refine ldI_r (x := x0) f0.2 rfl ?_ | refine ldI_r (x := x1) f0.2 rfl ?_ | refine ldI_r (x := x5) f2.2 rfl ?_))
              exact ⟨ow8, Upd.refl _ _ _, by rw [e]; exact S2, by rw [e]⟩
          · have e := hT.2.2.2.2.1 k1
            (repeat (first | refine br_yes (decide_eq_true (by omega)) ?_ | refine br_no (decide_eq_false (by omega)) ?_ | refine br_yes (beq_iff_eq.2 (by omega)) ?_ | refine br_no (beq_eq_false_iff_ne.2 (by omega)) ?_ | refine ldI_r (x := kd) gt.2 rfl ?_ | refine ldI_r (x := ka) gt.2 rfl ?_ | refine ldI_r (x := kw) gt.2 rfl ?_ | refine ldI_r (x := x0) f0.2 rfl ?_ | refine ldI_r (x := x1) f0.2 rfl ?_ | refine ldI_r (x := x5) f2.2 rfl ?_))
            refine C11 (by decide) S2 ok ?_
            intro ow9 H12 u9 S9
            exact ⟨_, _, rfl, ow9, u9, by rw [e]; exact S9, by rw [e]⟩
          · by_cases hr : 0 ≤ ka ∧ ka < s.cores
            · first
              | (exfalso; omega)
              | have e := hT.2.2.2.2.2.1 k1 hr
                (repeat (first | refine br_yes (decide_eq_true (by omega)) ?_ | refine br_no (decide_eq_false (by omega)) ?_ | refine br_yes (beq_iff_eq.2 (by omega)) ?_ | refine br_no (beq_eq_false_iff_ne.2 (by omega)) ?_ | refine ldI_r (x := kd) gt.2 rfl ?_ | refine ldI_r (x := ka) gt.2 rfl ?_ | refine ldI_r (x := kw) gt.2 rfl ?_ | refine ldI_r (x := x0) f0.2 rfl ?_ | refine ldI_r (x := x1) f0.2 rfl ?_ | refine ldI_r (x := x5) f2.2 rfl ?_))
                rw [wr_i64 (by omega) (by omega)]
                refine C9 (by decide) S2 ok (by unfold i64; omega) ?_
                intro ow9 H12 u9 S9
                exact ⟨_, _, rfl, ow9, u9, by rw [e]; exact S9, by rw [e]⟩
            · have e := hT.2.2.2.2.2.2.1 k1 hr
              (repeat (first | refine br_yes (decide_eq_true (by omega)) ?_ | refine br_no (decide_eq_false (by omega)) ?_ | refine br_yes (beq_iff_eq.2 (by omega)) ?_ | refine br_no (beq_eq_false_iff_ne.2 (by omega)) ?_ | refine ldI_r (x := kd) gt.2 rfl ?_ | refine ldI_r (x := ka) gt.2 rfl ?_ | refine ldI_r (x := kw) gt.2 rfl ?_ | refine ldI_r (x := x0) f0.2 rfl ?_ | refine ldI_r (x := x1) f0.2 rfl ?_ | refine ldI_r (x := x5) f2.2 rfl ?_))
              exact ⟨ow8, Upd.refl _ _ _, by rw [e]; exact S2, by rw [e]⟩
          · by_cases hr : 0 ≤ ka ∧ ka < s.cores
            · first
              | (exfalso; omega)
              | have e := hT.2.2.2.2.2.2.2.1 k1 hr
                (repeat (first | refine br_yes (decide_eq_true (by omega)) ?_ | refine br_no (decide_eq_false (by omega)) ?_ | refine br_yes (beq_iff_eq.2 (by omega)) ?_ | refine br_no (beq_eq_false_iff_ne.2 (by omega)) ?_ | refine ldI_r (x := kd) gt.2 rfl ?_ | refine ldI_r (x := ka) gt.2 rfl ?_ | refine ldI_r (x := kw) gt.2 rfl ?_ | refine ldI_r (x := x0) f0.2 rfl ?_ | refine ldI_r (x := x1) f0.2 rfl ?_ | refine ldI_r (x := x5) f2.2 rfl ?_))
                rw [wr_i64 (n := 16 * ka) (by omega) (by omega), wr_i64 (n := 65536 + 16 * ka) (by omega) (by omega), wr_i64 (n := 65536 + 16 * ka + 2) (by omega) (by omega)]
                refine C10 (by decide) S2 ok (by unfold i64; omega) ?_
                intro ow9 H12 u9 S9
                exact ⟨_, rfl, ow9, u9, by rw [e]; exact S9, by rw [e]⟩
            · have e := hT.2.2.2.2.2.2.2.2.1 k1 hr
              (repeat (first | refine br_yes (decide_eq_true (by omega)) ?_ | refine br_no (decide_eq_false (by omega)) ?_ | refine br_yes (beq_iff_eq.2 (by omega)) ?_ | refine br_no (beq_eq_false_iff_ne.2 (by omega)) ?_ | refine ldI_r (x := kd) gt.2 rfl ?_ | refine ldI_r (x := ka) gt.2 rfl ?_ | refine ldI_r (x := kw) gt.2 rfl ?_ | refine ldI_r (x := x0) f0.2 rfl ?_ | refine ldI_r (x := x1) f0.2 rfl ?_ | refine ldI_r (x := x5) f2.2 rfl ?_))
              exact ⟨ow8, Upd.refl _ _ _, by rw [e]; exact S2, by rw [e]⟩
          · have e := hT.2.2.2.2.2.2.2.2.2 k1.1 k1.2.1 k1.2.2.1 k1.2.2.2.1 k1.2.2.2.2
            (repeat (first | refine br_yes (decide_eq_true (by omega)) ?_ | refine br_no (decide_eq_false (by omega)) ?_ | refine br_yes (beq_iff_eq.2 (by omega)) ?_ | refine br_no (beq_eq_false_iff_ne.2 (by omega)) ?_ | refine ldI_r (x := kd) gt.2 rfl ?_ | refine ldI_r (x := ka) gt.2 rfl ?_ | refine ldI_r (x := kw) gt.2 rfl ?_ | refine ldI_r (x := x0) f0.2 rfl ?_ | refine ldI_r (x := x1) f0.2 rfl ?_ | refine ldI_r (x := x5) f2.2 rfl ?_))
            exact ⟨ow8, Upd.refl _ _ _, by rw [e]; exact S2, by rw [e]⟩
        · rintro _ B _ ⟨ow9, u9, S2', rfl⟩
          have gt' := gt.upd u9 T20
          refine ldI_r (x := kd) gt'.2 rfl (ldI_r (x := ka) gt'.2 rfl (ldI_r (x := kw) gt'.2 rfl (C12 (by decide) (fp.upd u9 T20) (S1.upd u9 soc21) ok ?_)))
          intro ow10 H13 u10 S1'
          refine ⟨_, rfl, br_no (by simp) (C13 (by decide) (by decide) S1' (S2'.upd u10 soc12) (doT_ok ok _) ?_)⟩
          intro ow11 H14 u14
          have sp := doT_plan (s := s) (id := x5) (tch kd ka kw)
          refine ⟨_, rfl, br_no rfl ⟨⟨k + 1, wr_i64 (by omega) (by omega), by omega, ow11, _, (((u7'.trans (u9.mono TS2)).trans (u10.mono TS1)).trans (u14.mono fun _ h => h.elim)), S1'.upd u14 Off.no, (S2'.upd u10 soc12).upd u14 Off.no, doT_ok ok _, sp.1.trans hpl.1, sp.2.1.trans hpl.2⟩, ?_⟩⟩
          rw [wr_i64 (by omega) (by omega)]; subst hw
          show ((n6 : Int) - ((k : Int) + 1)).toNat + 1 ≤ ((n6 : Int) - (k : Int)).toNat
          omega
    · refine br_no (by simp; omega) (alive_u (U.trans u7) h)
end
end
end Go.Proofs.YtoddfageecbkcaaGreat

/-
  CONTRACTS: the soc: who may do what, what stands where; registers; reads.
-/
import Derived.Test.YtoddfageecbkcaaGreatK15
namespace Go.Proofs.YtoddfageecbkcaaGreat
open Go Go.Eng Sy
set_option linter.unusedVariables false
set_option linter.unusedSimpArgs false
set_option maxRecDepth 100000

theorem Soc.Ok.bus {s : Soc} (h : s.Ok) : BOk s.ram s.most s.bufs := by
  have hr := right_imp h.right
  refine ⟨by rw [h.ram]; omega, h.most.1, h.most.2, fun l hl p hp => ?_, h.bufl⟩
  have := h.bufw l hl p hp
  refine ⟨⟨⟨this.1.1, by omega⟩, this.2⟩, by rw [h.ram]; omega⟩

def spotOf : Option (Int × Int × Int) → Spot
  | none => .none
  | some (k, i, r) => if k = 1 then .ram else if k = 2 then .mail i r else if k = 3 then .lock i else .gate i

theorem spot_dec {s : Soc} (h : s.Ok) (a : Int) : s.spot a = spotOf (dec s.cores s.words s.locks a) := by
  unfold Soc.spot dec gs
  have hr := right_imp h.right
  by_cases e1 : a < 65536
  · rw [if_pos e1, if_pos e1]
    unfold enc
    by_cases e : 0 ≤ a ∧ a < s.words
    · rw [if_pos e]; simp [e, spotOf]
    · rw [if_neg e]; simp [e, spotOf]
  · rw [if_neg e1, if_neg e1]
    by_cases e2 : a < 65792
    · rw [if_pos e2, if_pos e2]
      unfold enc
      have m1 := Int.emod_nonneg a (show (16 : Int) ≠ 0 by decide)
      have m2 : 0 ≤ (a - 65536) / 16 := by omega
      by_cases e : (a - 65536) / 16 < s.cores ∧ a % 16 < 3
      · rw [if_pos e]
        simp [e, m1, m2, spotOf]
      · rw [if_neg e]
        have : ¬ ((0 ≤ (a - 65536) / 16 ∧ (a - 65536) / 16 < s.cores) ∧ 0 ≤ a % 16 ∧ a % 16 < 3) := by omega
        simp only [if_neg this]
        simp [spotOf]
    · rw [if_neg e2, if_neg e2]
      by_cases e3 : a < 66048
      · rw [if_pos e3, if_pos e3]
        unfold enc
        by_cases e : a - 65792 < s.locks
        · rw [if_pos e]
          have g : 65792 ≤ a := by omega
          simp [e, g, spotOf]
        · rw [if_neg e]
          simp [e, spotOf]
      · rw [if_neg e3, if_neg e3]
        unfold enc
        by_cases e : a - 66048 < s.cores
        · rw [if_pos e]
          have g : 66048 ≤ a := by omega
          simp [e, g, spotOf]
        · rw [if_neg e]
          simp [e, spotOf]

theorem has_iff {s : Soc} {c : Int} : s.has c = true ↔ 0 ≤ c ∧ c < s.cores := by simp [Soc.has]
theorem has_no {s : Soc} {c : Int} : s.has c = false ↔ ¬ (0 ≤ c ∧ c < s.cores) := by
  rw [← Bool.not_eq_true, has_iff]

section
variable {m : Amb} {r : Nat} {ow : Ow} {H : Hp} {K : Value → Hp → Prop} {b : Nat} {s : Soc}

theorem C41 (hS : SocR r ow H b s) (ok : s.Ok) {c : Int} (h : K (I (s.wrong c)) H) : CallsH Tryz.prog m 41 [Pt b, I c] H K := by
  obtain ⟨bb, bx, bl, bg, h1, h2, h3, h4, h5⟩ := hS
  have hr := right_imp ok.right
  refine S41 (br_f (nn_r (ldP_r (x := at0 bg) h1.2 rfl ?_)))
  unfold Soc.wrong at h
  by_cases hc : 0 ≤ c ∧ c < s.cores
  · rw [if_neg (by rw [has_iff.2 hc]; simp)] at h
    refine C70 h5 ok.epochs hr.1.2 hc ⟨_, _, rfl, br_f (nn_r (ldP_r (x := at0 bg) h1.2 rfl (C87 h5 ok.epochs ok.held hr.1.2 hc ⟨_, rfl, ?_⟩)))⟩
    unfold Soc.heldAt at h
    cases hh : s.held.getD c.toNat false with
    | true => rw [hh] at h; exact br_t h
    | false => rw [hh] at h; exact br_f h
  · rw [if_pos (has_no.2 hc)] at h
    exact C70n h5 hc ⟨_, _, rfl, br_t h⟩

/-- What 'at' tells. -/
def atV (s : Soc) (c a : Int) : Value :=
  if s.wrong c ≠ 0 then .tuple #[.agg #[I 0, I 0, I 0], I (s.wrong c)] else match dec s.cores s.words s.locks a with
    | some t => .tuple #[.agg #[I t.1, I t.2.1, I t.2.2], I 0]
    | none => .tuple #[.agg #[I 0, I 0, I 0], I 4]

theorem C30 (hr0 : 0 < r) (hS : SocR r ow H b s) (ok : s.Ok) {c a : Int} (ha : i64 a) (h : ∀ ow' H', Upd Tno ow H ow' H' → K (atV s c a) H') : CallsH Tryz.prog m 30 [Pt b, I c, I a] H K := by
  refine S30 ?_
  unfold t30; rw [zc77]
  refine nw_t (ow := ow) T0 ?_
  intro ow1 H1 b1 u1 hb1 g1
  have hS1 := hS.upd u1 Off.no
  have fin : ∀ (ow8 : Ow) (H8 : Hp) (x y z e : Int) (K' : Value → Hp → Prop) (cs : List Value), Upd Tno ow H ow8 H8 → Has ow8 H8 T0 b1 cs → cs.length = 3 → (∀ ow' H', Upd Tno ow H ow' H' → K' (.tuple #[.agg #[I x, I y, I z], I e]) H') →
      st H8 ⟨b1, 0, none⟩ (I x) fun H2 => st H2 ⟨b1, 1, none⟩ (I y) fun H3 => st H3 ⟨b1, 2, none⟩ (I z) fun H4 => ldI .i64 H4 ⟨b1, 0, none⟩ fun i5 => ldI .i64 H4 ⟨b1, 1, none⟩ fun i6 => ldI .i64 H4 ⟨b1, 2, none⟩ fun i7 => K' (.tuple #[.agg #[I i5, I i6, I i7], I e]) H4 := by
    intro ow8 H8 x y z e K' cs U8 h2 hl hK
    have hA : H.size ≤ b1 := Nat.le_of_eq hb1.symm
    match cs, hl with
    | [c0, c1, c2], _ =>
    refine st_t h2 rfl (by simp) fun H2 s2 h2 => st_t h2 rfl (by simp) fun H3 s3 h3 => st_t h3 rfl (by simp) fun H4 s4 h4 => ?_
    refine ldI_r (x := x) h4.2 rfl (ldI_r (x := y) h4.2 rfl (ldI_r (x := z) h4.2 rfl (hK ow8 H4 ?_)))
    exact ((U8.set s2 (.inr hA)).set s3 (.inr hA)).set s4 (.inr hA)
  refine C41 hS1 ok ⟨_, rfl, ?_⟩
  unfold atV at h
  by_cases hw : s.wrong c = 0
  · rw [if_neg (by simpa using hw)] at h
    refine br_no (by simpa using hw) (nn_r ?_)
    obtain ⟨bb, bx, bl, bg, h1, h2, h3, h4, h5⟩ := hS1
    refine ldI_r (x := s.cores) h1.2 rfl (ldI_r (x := s.words) h1.2 rfl (ldI_r (x := s.locks) h1.2 rfl (C62 (ow := ow1) ok.right ha ?_)))
    intro ow2 H2 u2
    have g2 := g1.upd u2 id
    have k2 := g2.lt
    have go : ∀ (x y z : Int) (K'' : Addr → Hp → Prop), (∀ ow' H' b4, Upd Tno ow H ow' H' → Has ow' H' T0 b1 [I 0, I 0, I 0] → Has ow' H' T0 b4 [I x, I y, I z] → K'' ⟨b4, 0, none⟩ H') →
        nw H2 [I 0, I 0, I 0] 77 fun a21 H22 => st H22 (a21.add 0) (I x) fun H23 => st H23 (a21.add 1) (I y) fun H24 => st H24 (a21.add 2) (I z) (K'' a21) := by
      intro x y z K'' hK
      refine nw_t (ow := ow2) T0 ?_
      intro ow3 H3 b4 u3 hb4 g4
      have g3 := g2.upd u3 id
      have hne : b1 ≠ b4 := by omega
      have hA : H.size ≤ b4 := by have := u1.size; have := u2.size; omega
      refine st_t g4 rfl (by decide) fun H4 s4 g4 => st_t g4 rfl (by simp) fun H5 s5 g4 => st_t g4 rfl (by simp) fun H6 s6 g4 => ?_
      exact hK ow3 H6 b4 (((((u1.trans u2).trans u3).set s4 (.inr hA)).set s5 (.inr hA)).set s6 (.inr hA)) (((g3.set s4 hne).set s5 hne).set s6 hne) g4
    unfold decV
    cases hd : dec s.cores s.words s.locks a with
    | none =>
      rw [hd] at h
      refine ⟨_, _, _, _, rfl, go 0 0 0 _ fun ow' H' b4 u k1 k4 => br_t ?_⟩
      exact fin ow' H' 0 0 0 4 _ _ u k1 rfl h
    | some t =>
      rw [hd] at h
      refine ⟨_, _, _, _, rfl, go t.1 t.2.1 t.2.2 _ fun ow' H' b4 u k1 k4 => br_f ?_⟩
      refine ldI_r (x := t.1) k4.2 rfl (ldI_r (x := t.2.1) k4.2 rfl (ldI_r (x := t.2.2) k4.2 rfl ?_))
      exact fin ow' H' t.1 t.2.1 t.2.2 0 _ _ u k1 rfl h
  · rw [if_pos hw] at h
    refine br_yes (by simpa using hw) ?_
    exact fin ow1 H1 0 0 0 _ _ _ u1 g1 rfl h

/-- A soc, opened. -/
theorem C33 (hr0 : 0 < r) (hS : SocR r ow H b s) (ok : s.Ok) {c : Nat} (hc : (c : Int) < s.cores) {k i rg : Int} {x : Spot} (hx : spotOf (some (k, i, rg)) = x) (hk : k = 2 ∨ k = 3 ∨ k = 4)
    (hin : (k = 2 → i = c ∧ 0 ≤ rg ∧ rg < 3) ∧ (k = 3 → 0 ≤ i ∧ i < s.locks) ∧ (k = 4 → 0 ≤ i ∧ i < s.cores))
    (h : ∀ ow' H', Upd (TSoc r) ow H ow' H' → SocR r ow' H' b (s.register c x).1 → K (I (s.register c x).2) H') : CallsH Tryz.prog m 33 [Pt b, I c, .agg #[I k, I i, I rg]] H K := by
  have hr := right_imp ok.right
  refine S33 ?_
  unfold t33
  refine nw_t (ow := ow) T0 ?_
  intro ow1 H1 b1 u1 hb1 g1
  have hS0 := hS
  have hS1 := hS.upd u1 Off.no
  obtain ⟨bb, bx, bl, bg, h1, h2, h3, h4, h5⟩ := hS1
  have boxl := ok.box
  have U1 : Upd (TSoc r) ow H ow1 H1 := u1.mono fun _ h => h.elim
  have noL : ∀ {lo hi}, (hi < 11 ∨ 11 < lo) → Off r lo hi (TLock r) := by rintro lo hi hh τ e1 e2 e3 rfl; simp at e2 e3; omega
  have noB : ∀ {lo hi j}, (hi < 8 ∨ 10 < lo) → Off r lo hi (TBx r j) := by rintro lo hi j hh τ e1 e2 e3 (rfl | rfl | rfl) <;> (simp at e2 e3; omega)
  have lockS : ∀ τ, TLock r τ → TSoc r τ := by rintro τ rfl; exact ⟨rfl, by simp⟩
  have boxS : ∀ {j} τ, TBx r j τ → TSoc r τ := by rintro j τ (rfl | rfl | rfl) <;> exact ⟨rfl, by simp⟩
  refine ldI_r (x := k) g1.2 rfl ?_
  rcases hk with rfl | rfl | rfl
  · -- a mailbox
    obtain ⟨rfl, hg⟩ := hin.1 rfl
    obtain rfl : Spot.mail (c : Int) rg = x := hx
    have hcb : c < s.box.length := by rw [boxl]; omega
    have hm : s.mail c = s.box[c] := by
      unfold Soc.mail; rw [Int.toNat_natCast, List.getD_eq_getElem?_getD, List.getElem?_eq_getElem hcb]; rfl
    refine br_f (ldI_r (x := 2) g1.2 rfl (br_f (ldI_r (x := rg) g1.2 rfl ?_)))
    simp only [Soc.register] at h
    by_cases e0 : rg = 0
    · rw [if_pos e0] at h
      refine br_yes (by simpa using e0) (nn_r (ldP_r (x := at0 bx) h1.2 rfl (C71 hr0 h3 hcb ?_)))
      intro ow2 H2 u2
      refine ⟨_, _, rfl, ?_⟩
      have := h ow2 H2 (U1.trans (u2.mono fun _ h => h.elim)) (hS0.upd (u1.trans u2) Off.no)
      rw [hm] at this; exact this
    · rw [if_neg e0] at h
      refine br_no (by simpa using e0) (ldI_r (x := rg) g1.2 rfl ?_)
      by_cases e1 : rg = 1
      · rw [if_pos e1] at h
        refine br_yes (by simpa using e1) (nn_r (ldP_r (x := at0 bx) h1.2 rfl (C72 hr0 h3 hcb (ok.boxw _ (List.getElem_mem _)) ?_)))
        intro ow2 H2 e f u2 B2
        refine ⟨_, _, _, rfl, ?_⟩
        have hS2 : SocR r ow2 H2 b { s with box := s.box.set c (s.box[c].1, s.box[c].2.tail) } := ⟨bb, bx, bl, bg, h1.upd u2 (by simp [TBx]), h2.upd u2 (noB (by omega)), B2, h4.upd u2 (by simp [TBx]), h5.upd u2 (by simp [TBx])⟩
        have hh := h ow2 H2 (U1.then u2 boxS)
        rw [hm] at hh
        cases hl : s.box[c].2 with
        | nil =>
          rw [hl] at hh
          have : s.box.set c (s.box[c].1, s.box[c].2.tail) = s.box := by
            rw [hl]
            have : (s.box[c].1, ([] : List Int).tail) = s.box[c] := by rw [List.tail_nil, ← hl]
            rw [this, List.set_getElem_self]
          rw [this] at hS2
          exact hh hS2
        | cons n l =>
          rw [hl] at hh hS2
          exact hh (by simpa [Soc.setMail] using hS2)
      · rw [if_neg e1] at h
        refine br_no (by simpa using e1) (nn_r (ldP_r (x := at0 bx) h1.2 rfl (C73 hr0 h3 hcb ?_)))
        intro ow2 H2 u2
        refine ⟨_, rfl, ?_⟩
        have := h ow2 H2 (U1.trans (u2.mono fun _ h => h.elim)) (hS0.upd (u1.trans u2) Off.no)
        rw [hm] at this; exact this
  · -- a lock
    have hi := hin.2.1 rfl
    obtain rfl : Spot.lock i = x := hx
    simp only [Soc.register] at h
    refine br_t (nn_r (ldP_r (x := at0 bl) h1.2 rfl (ldI_r (x := i) g1.2 rfl (C69 h4 ok.owners hr.1.2 hr.2.2.2 ⟨by omega, hc⟩ hi ?_ ?_))))
    · intro hne
      rw [if_neg (show ¬ s.owner i = 0 from hne)] at h
      exact ⟨_, _, rfl, br_f (h ow1 H1 U1 (hS0.upd u1 Off.no))⟩
    · intro he H2 u2 L2
      rw [if_pos (show s.owner i = 0 from he)] at h
      refine ⟨_, _, rfl, br_t (h ow1 H2 (U1.then u2 lockS) ⟨bb, bx, bl, bg, h1.upd u2 (by simp [TLock]), h2.upd u2 (noL (by omega)), h3.upd u2 (noL (by omega)), L2, h5.upd u2 (by simp [TLock])⟩)⟩
  · -- the gate
    have hi := hin.2.2 rfl
    obtain rfl : Spot.gate i = x := hx
    simp only [Soc.register, Soc.epoch] at h
    refine br_f (ldI_r (x := 4) g1.2 rfl (br_t (nn_r (ldP_r (x := at0 bg) h1.2 rfl (ldI_r (x := i) g1.2 rfl (C70 h5 ok.epochs hr.1.2 hi ⟨_, _, rfl, ?_⟩))))))
    exact h ow1 H1 U1 (hS0.upd u1 Off.no)
end
end Go.Proofs.YtoddfageecbkcaaGreat

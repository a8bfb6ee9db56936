/-
  CONTRACTS: the soc: writes.
-/
import Derived.Test.YtoddfageecbkcaaGreatK17
namespace Go.Proofs.YtoddfageecbkcaaGreat
open Go Go.Eng Sy
set_option linter.unusedVariables false
set_option linter.unusedSimpArgs false
set_option maxRecDepth 100000

section
variable {m : Amb} {r : Nat} {ow : Ow} {H : Hp} {K : Value → Hp → Prop} {b : Nat} {s : Soc}

/-- May a core write at a spot? -/
def mayB (c k i rg : Int) : Bool := if k = 4 then false else if k = 2 then (rg == 2 || (rg == 0 && i == c)) else true

theorem C34 {c k i rg : Int} (h : ∀ ow' H', Upd Tno ow H ow' H' → K (B (mayB c k i rg)) H') : CallsH Tryz.prog m 34 [I c, .agg #[I k, I i, I rg]] H K := by
  refine S34 ?_
  unfold t34
  refine nw_t (ow := ow) T0 ?_
  intro ow1 H1 b1 u1 hb1 g1
  have h := h ow1 H1 u1
  unfold mayB at h
  refine ldI_r (x := k) g1.2 rfl ?_
  by_cases e4 : k = 4
  · rw [if_pos e4] at h; exact br_yes (by simpa using e4) h
  · rw [if_neg e4] at h
    refine br_no (by simpa using e4) ?_
    by_cases e2 : k = 2
    · rw [if_pos e2] at h
      refine br_yes (by simpa using e2) (ldI_r (x := rg) g1.2 rfl ?_)
      by_cases r2 : rg = 2
      · rw [show (rg == 2 || (rg == 0 && i == c)) = true by simp [r2]] at h
        exact br_yes (by simpa using r2) h
      · refine br_no (by simpa using r2) (ldI_r (x := rg) g1.2 rfl ?_)
        by_cases r0 : rg = 0
        · rw [show (rg == 2 || (rg == 0 && i == c)) = (i == c) by simp [r0]] at h
          exact br_yes (by simpa using r0) (ldI_r (x := i) g1.2 rfl h)
        · rw [show (rg == 2 || (rg == 0 && i == c)) = false by simp [r0, r2]] at h
          exact br_no (by simpa using r0) h
    · rw [if_neg e2] at h; exact br_no (by simpa using e2) h

theorem buf_at (ok : s.Ok) {n : Nat} (hn : (n : Int) < s.cores) : ∃ h : n < s.bufs.length, s.buf n = s.bufs[n] := by
  have hcb : n < s.bufs.length := by rw [ok.bufs]; omega
  refine ⟨hcb, ?_⟩
  unfold Soc.buf; rw [Int.toNat_natCast, List.getD_eq_getElem?_getD, List.getElem?_eq_getElem hcb]; rfl
theorem mail_at (ok : s.Ok) {n : Nat} (hn : (n : Int) < s.cores) : ∃ h : n < s.box.length, s.mail n = s.box[n] := by
  have hcb : n < s.box.length := by rw [ok.box]; omega
  refine ⟨hcb, ?_⟩
  unfold Soc.mail; rw [Int.toNat_natCast, List.getD_eq_getElem?_getD, List.getElem?_eq_getElem hcb]; rfl

theorem C10 (hr0 : 0 < r) (hS : SocR r ow H b s) (ok : s.Ok) {c a w : Int} (ha : i64 a)
    (h : ∀ ow' H', Upd (TSoc r) ow H ow' H' → SocR r ow' H' b (s.write c a w).1 → K (I (s.write c a w).2) H') : CallsH Tryz.prog m 10 [Pt b, I c, I a, I w] H K := by
  have hr := right_imp ok.right
  refine S10 (C30 hr0 hS ok ha ?_)
  intro ow1 H1 u1
  have go : ∀ (x y z : Int) (K'' : Addr → Hp → Prop), (∀ ow' H' b4, Upd Tno ow H ow' H' → Has ow' H' T0 b4 [I x, I y, I z] → K'' ⟨b4, 0, none⟩ H') →
      nw H1 (zc Tryz.prog 77) 77 fun a21 H22 => st H22 (a21.add 0) (I x) fun H23 => st H23 (a21.add 1) (I y) fun H24 => st H24 (a21.add 2) (I z) (K'' a21) := by
    intro x y z K'' hK
    rw [zc77]
    refine nw_t (ow := ow1) T0 ?_
    intro ow3 H3 b4 u3 hb4 g4
    have hA : H.size ≤ b4 := by have := u1.size; omega
    refine st_t g4 rfl (by decide) fun H4 s4 g4 => st_t g4 rfl (by simp) fun H5 s5 g4 => st_t g4 rfl (by simp) fun H6 s6 g4 => ?_
    exact hK ow3 H6 b4 ((((u1.trans u3).set s4 (.inr hA)).set s5 (.inr hA)).set s6 (.inr hA)) g4
  have U1 : ∀ {ow' H'}, Upd Tno ow H ow' H' → Upd (TSoc r) ow H ow' H' := fun u => u.mono fun _ h => h.elim
  unfold atV
  unfold Soc.write at h
  by_cases hw : s.wrong c = 0
  · rw [if_neg (by simpa using hw)]
    rw [if_neg (by simpa using hw), spot_dec ok] at h
    obtain ⟨n, rfl⟩ := nat_of (wrong_has hw).1
    have hn := (wrong_has hw).2
    cases hd : dec s.cores s.words s.locks a with
    | none =>
      rw [hd] at h
      refine ⟨0, 0, 0, 4, rfl, go 0 0 0 _ fun ow' H' b4 u g4 => br_t ?_⟩
      exact h ow' H' (U1 u) (hS.upd u Off.no)
    | some t =>
      rw [hd] at h
      obtain ⟨k, i, rg⟩ := t
      obtain ⟨d1, d2, d3, d4, d5⟩ := dec_ram hd
      simp only at d1 d2 d3 d4 d5
      refine ⟨k, i, rg, 0, rfl, go k i rg _ fun ow2 H2 b4 u2 g4 => br_f (ldI_r (x := k) g4.2 rfl (ldI_r (x := i) g4.2 rfl (ldI_r (x := rg) g4.2 rfl ?_)))⟩
      refine C34 (ow := ow2) ?_
      intro ow3 H3 u3
      have g4 := g4.upd u3 id
      have u := u2.trans u3
      have hS4 := hS.upd u Off.no
      have hS40 := hS4
      obtain ⟨bb, bx, bl, bg, h1, h2, h3, h4, h5⟩ := hS4
      refine ⟨_, rfl, ?_⟩
      rcases d5 with rfl | rfl | rfl | rfl
      · -- the memory
        have e2 : spotOf (some ((1 : Int), i, rg)) = .ram := rfl
        rw [e2] at h
        obtain ⟨hcb, hb⟩ := buf_at ok hn
        refine br_f (C35 ⟨_, rfl, ?_⟩)
        by_cases hww : w = w % 65536
        · refine br_no (by simpa using hww) (ldI_r (x := 1) g4.2 rfl (br_t (nn_r (ldP_r (x := at0 bb) h1.2 rfl ?_))))
          refine C36 (p := (a, w)) hr0 h2 (Soc.Ok.bus ok) hcb ⟨⟨⟨(d1 rfl).1, by have := (d1 rfl).2; show a < 65536; omega⟩, by show 0 ≤ w ∧ w < 65536; omega⟩, by rw [ok.ram]; have := d1 rfl; show a < _; omega⟩ ?_
          intro ow5 H5 u5 B5
          refine ⟨_, rfl, ?_⟩
          have hh := h ow5 H5 ((U1 u).then u5 busS)
          simp only [ne_eq, ← hww, not_true_eq_false, if_false] at hh
          refine hh ?_
          unfold Soc.store
          have hS5 : SocR r ow5 H5 b { s with ram := stR s.ram s.most s.bufs[n], bufs := s.bufs.set n (stL s.most s.bufs[n] (a, w)) } :=
            ⟨bb, bx, bl, bg, h1.upd u5 (by simp [TBus]), B5, h3.upd u5 (noU (by decide)), h4.upd u5 (by simp [TBus]), h5.upd u5 (by simp [TBus])⟩
          unfold stR stL at hS5
          rw [hb]
          by_cases hfull : (s.bufs[n].length : Int) = s.most
          · rw [if_pos hfull, if_pos hfull] at hS5
            rw [if_pos hfull]
            have hne : s.bufs[n] ≠ [] := by intro h0; rw [h0] at hfull; have := ok.most.1; simp at hfull; omega
            have hdr : s.drain1 n = { s with ram := drR s.ram s.bufs[n], bufs := s.bufs.set n s.bufs[n].tail } := by
              unfold Soc.drain1; rw [hb]
              cases hl : s.bufs[n] with
              | nil => exact absurd hl hne
              | cons p l => rfl
            rw [hdr]
            have hbuf : Soc.buf { s with ram := drR s.ram s.bufs[n], bufs := s.bufs.set n s.bufs[n].tail } n = s.bufs[n].tail := by
              unfold Soc.buf; rw [Int.toNat_natCast, List.getD_eq_getElem?_getD]; simp [hcb]
            dsimp only
            rw [hbuf]
            simp only [Int.toNat_natCast, List.set_set]
            exact hS5
          · rw [if_neg hfull, if_neg hfull] at hS5
            rw [if_neg hfull]
            simp only [Int.toNat_natCast, hb]
            exact hS5
        · refine br_yes (by simpa using hww) ?_
          have hh := h ow3 H3 (U1 u)
          simp only [ne_eq, hww, not_false_eq_true, if_true] at hh
          exact hh hS40
      · -- a mailbox
        have e2 : spotOf (some ((2 : Int), i, rg)) = .mail i rg := rfl
        rw [e2] at h
        by_cases hm : rg = 2 ∨ rg = 0 ∧ i = n
        · have hmb : mayB n 2 i rg = true := by
            unfold mayB; rw [if_neg (by decide), if_pos rfl]
            rcases hm with h | h <;> simp [h]
          rw [hmb]
          refine br_f (C35 ⟨_, rfl, ?_⟩)
          by_cases hww : w = w % 65536
          · refine br_no (by simpa using hww) (ldI_r (x := 2) g4.2 rfl (br_f (br_f (nn_r (ldP_r (x := at0 bb) h1.2 rfl (C32s hr0 ok h1 hS40 hn ?_))))))
            intro ow5 H5 u5 S5 k5 kT
            have g4 := kT _ _ g4
            have hh : ∀ ow' H', Upd (TSoc r) ow5 H5 ow' H' → SocR r ow' H' b (if rg = 0 then ((s.flush n).setMail n (bitsOf .andNot .i64 ((s.flush n).mail n).1 w, ((s.flush n).mail n).2), (0 : Int)) else (s.flush n).ring n i w).1 → K (I (if rg = 0 then ((s.flush n).setMail n (bitsOf .andNot .i64 ((s.flush n).mail n).1 w, ((s.flush n).mail n).2), (0 : Int)) else (s.flush n).ring n i w).2) H' := by
              intro ow' H' u' S'
              have hh := h ow' H' (((U1 u).trans u5).trans u')
              simp only [hm, not_true_eq_false, if_false, ne_eq, ← hww] at hh
              exact hh S'
            refine ⟨_, _, rfl, ldI_r (x := rg) g4.2 rfl ?_⟩
            have ok5 := flush_ok (c := n) ok
            obtain ⟨bb', bx', bl', bg', q1, q2, q3, q4, q5⟩ := S5
            have e := k5.2.symm.trans q1.2
            simp only [Option.some.injEq, List.cons.injEq, Value.pointer.injEq, Addr.mk.injEq, and_true, true_and] at e
            obtain ⟨_, _, _, rfl, rfl, rfl, rfl⟩ := e
            obtain ⟨hcb, hb⟩ := mail_at (s := s.flush n) ok5 hn
            by_cases e0 : rg = 0
            · simp only [e0, if_true] at hh
              refine br_yes (by simpa using e0) (nn_r (ldP_r (x := at0 bx) q1.2 rfl (C39 hr0 q3 hcb ?_)))
              intro ow6 H6 u6 B6
              refine ⟨_, rfl, hh ow6 H6 (u6.mono boxS) ?_⟩
              rw [hb]
              unfold Soc.setMail; rw [Int.toNat_natCast]
              exact ⟨bb, bx, bl, bg, q1.upd u6 (by simp [TBx]), q2.upd u6 (noB (by omega)), B6, q4.upd u6 (by simp [TBx]), q5.upd u6 (by simp [TBx])⟩
            · simp only [if_neg e0] at hh
              obtain ⟨j, rfl⟩ := nat_of (d2 rfl).1.1
              obtain ⟨hjb, hj⟩ := mail_at (s := s.flush n) (n := j) ok5 (d2 rfl).1.2
              refine br_no (by simpa using e0) (nn_r (ldP_r (x := at0 bx) q1.2 rfl (ldI_r (x := (j : Int)) g4.2 rfl (C40 hr0 q3 hcb (by omega) hjb (by omega) (ok5.boxl _ (List.getElem_mem _)) ?_ ?_))))
              · intro hf ow6 H6 u6 B6
                unfold Soc.ring at hh
                simp only [hj, hf, if_true] at hh
                refine ⟨_, rfl, hh ow6 H6 (u6.mono boxS) ?_⟩
                unfold Soc.setMail; rw [Int.toNat_natCast]
                exact ⟨bb, bx, bl, bg, q1.upd u6 (by simp [TBx]), q2.upd u6 (noB (by omega)), B6, q4.upd u6 (by simp [TBx]), q5.upd u6 (by simp [TBx])⟩
              · intro hf ow6 H6 u6 B6
                unfold Soc.ring at hh
                simp only [hj, Nat.ne_of_lt hf, if_false] at hh
                refine ⟨_, rfl, hh ow6 H6 (u6.mono boxS) ?_⟩
                unfold Soc.setMail; rw [Int.toNat_natCast]
                exact ⟨bb, bx, bl, bg, q1.upd u6 (by simp [TBx]), q2.upd u6 (noB (by omega)), B6, q4.upd u6 (by simp [TBx]), q5.upd u6 (by simp [TBx])⟩
          · refine br_yes (by simpa using hww) ?_
            have hh := h ow3 H3 (U1 u)
            simp only [hm, not_true_eq_false, if_false, ne_eq, hww, not_false_eq_true, if_true] at hh
            exact hh hS40
        · have hmb : mayB n 2 i rg = false := by
            unfold mayB; rw [if_neg (by decide), if_pos rfl]
            simp only [Bool.or_eq_false_iff, Bool.and_eq_false_iff, beq_eq_false_iff_ne]
            omega
          rw [hmb]
          refine br_t ?_
          have hh := h ow3 H3 (U1 u)
          simp only [hm, not_false_eq_true, if_true] at hh
          exact hh hS40
      · -- a lock
        have e2 : spotOf (some ((3 : Int), i, rg)) = .lock i := rfl
        rw [e2] at h
        refine br_f (C35 ⟨_, rfl, ?_⟩)
        by_cases hww : w = w % 65536
        · refine br_no (by simpa using hww) (ldI_r (x := 3) g4.2 rfl (br_f (br_t (nn_r (ldP_r (x := at0 bl) h1.2 rfl (ldI_r (x := i) g4.2 rfl (C37 h4 ok.owners ok.ownersw hr.2.2.2 (d3 rfl) ⟨_, _, rfl, ?_⟩)))))))
          by_cases hown : s.owners.getD i.toNat 0 - 1 = n
          · refine br_no (by simpa using hown) (nn_r (ldP_r (x := at0 bb) h1.2 rfl (C32s hr0 ok h1 hS40 hn ?_)))
            intro ow5 H5 u5 S5 k5 kT
            have g4 := kT _ _ g4
            have ok5 := flush_ok (c := n) ok
            obtain ⟨bb', bx', bl', bg', q1, q2, q3, q4, q5⟩ := S5
            have e := k5.2.symm.trans q1.2
            simp only [Option.some.injEq, List.cons.injEq, Value.pointer.injEq, Addr.mk.injEq, and_true, true_and] at e
            obtain ⟨_, _, _, rfl, rfl, rfl, rfl⟩ := e
            refine ⟨_, _, rfl, nn_r (ldP_r (x := at0 bl) q1.2 rfl (ldI_r (x := i) g4.2 rfl (C38 q4 ok5.owners hr.1.2 hr.2.2.2 ⟨by omega, hn⟩ (d3 rfl) (by show s.owners.getD i.toNat 0 = _; omega) ?_)))⟩
            intro H6 u6 L6
            have hh := h ow5 H6 (((U1 u).trans u5).then u6 lockS)
            have hown' : s.owner i - 1 = n := hown
            simp only [ne_eq, ← hww, not_true_eq_false, if_false, hown'] at hh
            exact ⟨_, rfl, hh ⟨bb, bx, bl, bg, q1.upd u6 (by simp [TLock]), q2.upd u6 (noL (by omega)), q3.upd u6 (noL (by omega)), L6, q5.upd u6 (by simp [TLock])⟩⟩
          · refine br_yes (by simpa using hown) ?_
            have hh := h ow3 H3 (U1 u)
            have hown' : ¬ s.owner i - 1 = n := hown
            simp only [ne_eq, ← hww, not_true_eq_false, if_false, hown', not_false_eq_true, if_true] at hh
            exact hh hS40
        · refine br_yes (by simpa using hww) ?_
          have hh := h ow3 H3 (U1 u)
          simp only [ne_eq, hww, not_false_eq_true, if_true] at hh
          exact hh hS40
      · have e2 : spotOf (some ((4 : Int), i, rg)) = .gate i := rfl
        rw [e2] at h
        exact br_t (h ow3 H3 (U1 u) hS40)
  · rw [if_pos hw]
    rw [if_pos hw] at h
    refine ⟨0, 0, 0, _, rfl, go 0 0 0 _ fun ow' H' b4 u g4 => br_yes (by simpa using hw) ?_⟩
    exact h ow' H' (U1 u) (hS.upd u Off.no)
end
end Go.Proofs.YtoddfageecbkcaaGreat

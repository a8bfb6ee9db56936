/-
  CONTRACTS: the soc: fences, drains, swaps, holds, starts; made and cloned.
-/
import Derived.Test.YtoddfageecbkcaaGreatK18
namespace Go.Proofs.YtoddfageecbkcaaGreat
open Go Go.Eng Sy
set_option linter.unusedVariables false
set_option linter.unusedSimpArgs false
set_option maxRecDepth 100000

section
variable {m : Amb} {r : Nat} {ow : Ow} {H : Hp} {K : Value → Hp → Prop} {b : Nat} {s : Soc}

theorem C11 (hr0 : 0 < r) (hS : SocR r ow H b s) (ok : s.Ok) {c : Int}
    (h : ∀ ow' H', Upd (TSoc r) ow H ow' H' → SocR r ow' H' b (s.fence c).1 → K (.tuple #[I (s.fence c).2.1, I (s.fence c).2.2]) H') : CallsH Tryz.prog m 11 [Pt b, I c] H K := by
  refine S11 (C41 hS ok ⟨_, rfl, ?_⟩)
  unfold Soc.fence at h
  by_cases hw : s.wrong c = 0
  · rw [if_neg (by simpa using hw)] at h
    obtain ⟨n, rfl⟩ := nat_of (wrong_has hw).1
    have hn := (wrong_has hw).2
    have hS0 := hS
    obtain ⟨bb, bx, bl, bg, h1, h2, h3, h4, h5⟩ := hS
    refine br_no (by simpa using hw) (nn_r (ldP_r (x := at0 bb) h1.2 rfl (C32s hr0 ok h1 hS0 hn ?_)))
    intro ow5 H5 u5 S5 k5 kT
    exact ⟨_, _, rfl, h ow5 H5 u5 S5⟩
  · rw [if_pos hw] at h
    exact br_yes (by simpa using hw) (h ow H (Upd.refl _ _ _) hS)

theorem C22 (hr0 : 0 < r) (hS : SocR r ow H b s) (ok : s.Ok) {c : Int}
    (h : ∀ ow' H', Upd (TSoc r) ow H ow' H' → SocR r ow' H' b (s.drain c).1 → K (.tuple #[.bool (s.drain c).2.1, I (s.drain c).2.2]) H') : CallsH Tryz.prog m 22 [Pt b, I c] H K := by
  have hS0 := hS
  obtain ⟨bb, bx, bl, bg, h1, h2, h3, h4, h5⟩ := hS
  refine S22 (br_f (nn_r (ldP_r (x := at0 bb) h1.2 rfl ?_)))
  unfold Soc.drain at h
  by_cases hc : 0 ≤ c ∧ c < s.cores
  · rw [if_neg (by rw [has_iff.2 hc]; simp)] at h
    obtain ⟨n, rfl⟩ := nat_of hc.1
    obtain ⟨hcb, hb⟩ := buf_at ok hc.2
    refine C52 hr0 h2 (Soc.Ok.bus ok) hcb ?_
    intro ow5 H5 u5 B5
    refine ⟨_, _, rfl, ?_⟩
    have hh := h ow5 H5 (u5.mono busS)
    rw [hb] at hh
    refine hh ?_
    have hdr : s.drain1 n = { s with ram := drR s.ram s.bufs[n], bufs := s.bufs.set n s.bufs[n].tail } := by
      unfold Soc.drain1; rw [hb]
      cases hl : s.bufs[n] with
      | nil =>
        have : s.bufs.set n ([] : List (Int × Int)).tail = s.bufs := by
          rw [List.tail_nil, ← hl, List.set_getElem_self]
        rw [this]; rfl
      | cons p l => rfl
    rw [hdr]
    exact ⟨bb, bx, bl, bg, h1.upd u5 (by simp [TBus]), B5, h3.upd u5 (noU (by decide)), h4.upd u5 (by simp [TBus]), h5.upd u5 (by simp [TBus])⟩
  · rw [if_pos (has_no.2 hc)] at h
    refine C52n hr0 h2 (by rw [ok.bufs]; omega) ?_
    intro ow5 H5 u5
    exact ⟨_, _, rfl, h ow5 H5 (u5.mono fun _ h => h.elim) (hS0.upd u5 Off.no)⟩

theorem C23 (hr0 : 0 < r) (hS : SocR r ow H b s) (ok : s.Ok) {c a w : Int} (ha : i64 a)
    (h : ∀ ow' H', Upd (TSoc r) ow H ow' H' → SocR r ow' H' b (s.swap c a w).1 → K (.tuple #[I (s.swap c a w).2.1, I (s.swap c a w).2.2]) H') : CallsH Tryz.prog m 23 [Pt b, I c, I a, I w] H K := by
  have hr := right_imp ok.right
  refine S23 (C30 hr0 hS ok ha ?_)
  intro ow1 H1 u1
  have go : ∀ (x y z : Int) (K'' : Addr → Hp → Prop), (∀ ow' H' b4, Upd Tno ow H ow' H' → Has ow' H' T0 b4 [I x, I y, I z] → K'' ⟨b4, 0, none⟩ H') →
      nw H1 (zc Tryz.prog 77) 77 fun a21 H22 => st H22 (a21.add 0) (I x) fun H23 => st H23 (a21.add 1) (I y) fun H24 => st H24 (a21.add 2) (I z) (K'' a21) := by
    intro x y z K'' hK
    rw [zc77]
    refine nw_t (ow := ow1) T0 ?_
    intro ow3 H3 b4 u3 hb4 g4
    have hA : H.size ≤ b4 := by have := u1.size; omega
    refine st_t g4 rfl (by decide) fun H4 s4 g4 => st_t g4 rfl (by simp) fun H5 s5 g4 => st_t g4 rfl (by simp) fun H6 s6 g4 => ?_
    exact hK ow3 H6 b4 ((((u1.trans u3).set s4 (.inr hA)).set s5 (.inr hA)).set s6 (.inr hA)) g4
  have U1 : ∀ {ow' H'}, Upd Tno ow H ow' H' → Upd (TSoc r) ow H ow' H' := fun u => u.mono fun _ h => h.elim
  unfold atV
  unfold Soc.swap at h
  by_cases hw : s.wrong c = 0
  · rw [if_neg (by simpa using hw)]
    rw [if_neg (by simpa using hw), spot_dec ok] at h
    obtain ⟨n, rfl⟩ := nat_of (wrong_has hw).1
    have hn := (wrong_has hw).2
    cases hd : dec s.cores s.words s.locks a with
    | none =>
      rw [hd] at h
      refine ⟨0, 0, 0, 4, rfl, go 0 0 0 _ fun ow' H' b4 u g4 => br_f (br_t ?_)⟩
      exact h ow' H' (U1 u) (hS.upd u Off.no)
    | some t =>
      rw [hd] at h
      obtain ⟨k, i, rg⟩ := t
      obtain ⟨d1, d2, d3, d4, d5⟩ := dec_ram hd
      simp only at d1 d2 d3 d4 d5
      refine ⟨k, i, rg, 0, rfl, go k i rg _ fun ow2 H2 b4 u g4 => br_t (ldI_r (x := k) g4.2 rfl ?_)⟩
      have hS40 := hS.upd u Off.no
      by_cases ek : k = 1
      · subst ek
        have e2 : spotOf (some ((1 : Int), i, rg)) = .ram := rfl
        rw [e2] at h
        obtain ⟨bb, bx, bl, bg, h1, h2, h3, h4, h5⟩ := hS40
        obtain ⟨hcb, hb⟩ := buf_at ok hn
        have hS40 := hS.upd u Off.no
        refine br_f (br_f (nn_r (ldP_r (x := at0 bb) h1.2 rfl (C53 hr0 h2 (Soc.Ok.bus ok) hcb (by rw [ok.ram]; have := d1 rfl; omega) ?_ ?_))))
        · intro hbad ow5 H5 u5
          have hh := h ow5 H5 (U1 (u.trans u5))
          simp only [hbad, if_true] at hh
          exact ⟨_, _, rfl, hh (hS.upd (u.trans u5) Off.no)⟩
        · intro hgood ow5 H5 u5 B5
          have hh := h ow5 H5 ((U1 u).then u5 busS)
          have hng : ¬ (w < 0 ∨ w > 65535) := by omega
          simp only [hng, if_false] at hh
          have hfl : (s.flush n).ram = s.bufs[n].foldl setRam s.ram := by unfold Soc.flush; rw [hb]
          rw [hfl] at hh
          refine ⟨_, _, rfl, hh ?_⟩
          unfold Soc.flush; rw [Int.toNat_natCast]
          exact ⟨bb, bx, bl, bg, h1.upd u5 (by simp [TBus]), B5, h3.upd u5 (noU (by decide)), h4.upd u5 (by simp [TBus]), h5.upd u5 (by simp [TBus])⟩
      · refine br_yes (by simpa using ek) (br_t ?_)
        have hh := h ow2 H2 (U1 u)
        rcases d5 with rfl | rfl | rfl | rfl
        · exact absurd rfl ek
        · exact hh hS40
        · exact hh hS40
        · exact hh hS40
  · rw [if_pos hw]
    rw [if_pos hw] at h
    refine ⟨0, 0, 0, _, rfl, go 0 0 0 _ fun ow' H' b4 u g4 => br_no (by simpa using hw) (br_yes (by simpa using hw) ?_)⟩
    exact h ow' H' (U1 u) (hS.upd u Off.no)

theorem C24 (hr0 : 0 < r) (hS : SocR r ow H b s) (ok : s.Ok) {c : Int}
    (h : ∀ ow' H', Upd (TSoc r) ow H ow' H' → SocR r ow' H' b (s.hold c).1 → K (I (s.hold c).2) H') : CallsH Tryz.prog m 24 [Pt b, I c] H K := by
  have hr := right_imp ok.right
  have hS0 := hS
  obtain ⟨bb, bx, bl, bg, h1, h2, h3, h4, h5⟩ := hS
  refine S24 (br_f (nn_r (ldP_r (x := at0 bg) h1.2 rfl ?_)))
  unfold Soc.hold Soc.heldAt at h
  refine C54 h5 ok.epochs ok.held hr.1.2 ?_ ?_ ?_
  · intro hc
    rw [if_pos (has_no.2 hc)] at h
    exact ⟨_, rfl, br_t (h ow H (Upd.refl _ _ _) hS0)⟩
  · intro hc hh
    rw [if_neg (by rw [has_iff.2 hc]; simp), hh] at h
    exact ⟨_, rfl, br_t (h ow H (Upd.refl _ _ _) hS0)⟩
  · intro hc hh H1 u1 G1
    rw [if_neg (by rw [has_iff.2 hc]; simp), hh] at h
    obtain ⟨n, rfl⟩ := nat_of hc.1
    have hcb : n < s.bufs.length := by rw [ok.bufs]; omega
    have hcx : n < s.box.length := by rw [ok.box]; omega
    have h1 := h1.upd u1 (by simp [TGate])
    have h2 := h2.upd u1 (noG (by omega))
    have h3 := h3.upd u1 (noG (by omega))
    have h4 := h4.upd u1 (by simp [TGate])
    refine ⟨_, rfl, br_f (nn_r (ldP_r (x := at0 bb) h1.2 rfl (C55 hr0 h2 hcb ?_)))⟩
    intro ow2 H2 x2 u2 B2
    have h1 := h1.upd u2 (by simp [TBus])
    have h3 := h3.upd u2 (noU (by omega))
    have h4 := h4.upd u2 (by simp [TBus])
    have G2 := G1.upd u2 (by simp [TBus])
    refine ⟨_, _, rfl, nn_r (ldP_r (x := at0 bx) h1.2 rfl (C56 hr0 h3 hcx ?_))⟩
    intro ow3 H3 x3 u3 B3
    have h1 := h1.upd u3 (by simp [TBx])
    have B2 := B2.upd u3 (noB (by omega))
    have h4 := h4.upd u3 (by simp [TBx])
    have G3 := G2.upd u3 (by simp [TBx])
    refine ⟨_, _, rfl, nn_r (ldP_r (x := at0 bl) h1.2 rfl (C57 hr0 h4 ok.owners hr.1.2 hc ?_))⟩
    intro ow4 H4 x4 u4 L4
    refine ⟨_, _, rfl, h ow4 H4 ((((u1.mono gateS).then u2 busS).then u3 boxS).then u4 lockS) ?_⟩
    rw [if_neg (by simp)]
    simp only [Int.toNat_natCast]
    exact ⟨bb, bx, bl, bg, h1.upd u4 (by simp [TLock]), B2.upd u4 (noL (by omega)), B3.upd u4 (noL (by omega)), L4, G3.upd u4 (by simp [TLock])⟩

theorem C25 (hr0 : 0 < r) (hS : SocR r ow H b s) (ok : s.Ok) {c : Int}
    (h : ∀ ow' H', Upd (TSoc r) ow H ow' H' → SocR r ow' H' b (s.start c).1 → K (I (s.start c).2) H') : CallsH Tryz.prog m 25 [Pt b, I c] H K := by
  have hr := right_imp ok.right
  have hS0 := hS
  obtain ⟨bb, bx, bl, bg, h1, h2, h3, h4, h5⟩ := hS
  refine S25 (br_f (nn_r (ldP_r (x := at0 bg) h1.2 rfl ?_)))
  unfold Soc.start Soc.heldAt Soc.epoch at h
  refine C58 h5 ok.epochs ok.held hr.1.2 ?_ ?_ ?_
  · intro hc
    rw [if_pos (has_no.2 hc)] at h
    exact ⟨_, rfl, h ow H (Upd.refl _ _ _) hS0⟩
  · intro hc hh
    rw [if_neg (by rw [has_iff.2 hc]; simp), hh] at h
    exact ⟨_, rfl, h ow H (Upd.refl _ _ _) hS0⟩
  · intro hc hh H1 u1 G1
    rw [if_neg (by rw [has_iff.2 hc]; simp), hh, if_neg (by simp)] at h
    refine ⟨_, rfl, h ow H1 (u1.mono gateS) ?_⟩
    exact ⟨bb, bx, bl, bg, h1.upd u1 (by simp [TGate]), h2.upd u1 (noG (by omega)), h3.upd u1 (noG (by omega)), h4.upd u1 (by simp [TGate]), G1⟩

theorem C4 (r' : Nat) (hr' : 0 < r') {cores words locks most : Int} (i1 : i64 cores) (i2 : i64 words) (i3 : i64 locks)
    (hno : ¬ (rightPlan cores words locks = true ∧ 1 ≤ most ∧ most ≤ 16) → ∀ ow' H', Upd Tno ow H ow' H' → K (.tuple #[.pointer none, I 2]) H')
    (h : (rightPlan cores words locks = true ∧ 1 ≤ most ∧ most ≤ 16) → ∀ ow' H' b', Upd Tno ow H ow' H' → SocR r' ow' H' b' (Soc.new cores words locks most) → K (.tuple #[Pt b', I 0]) H') : CallsH Tryz.prog m 4 [.agg #[I cores, I words, I locks], I most] H K := by
  refine S4 ?_
  unfold t4
  refine nw_t (ow := ow) T0 ?_
  intro ow1 H1 b1 u1 hb1 g1
  refine ldI_r (x := cores) g1.2 rfl (ldI_r (x := words) g1.2 rfl ?_)
  by_cases hok : (1 ≤ cores ∧ cores ≤ 8) ∧ (1 ≤ words ∧ words ≤ 65536) ∧ 1 ≤ most ∧ most ≤ 16
  · refine C14 (ow := ow1) r' hr' hok.1 hok.2.1 hok.2.2 ?_
    intro ow2 H2 bb u2 B2
    have g1 := g1.upd u2 id
    refine ⟨_, _, rfl, br_f (ldI_r (x := cores) g1.2 rfl (ldI_r (x := words) g1.2 rfl (ldI_r (x := locks) g1.2 rfl (C15 (ow := ow2) i1 i2 i3 ?_))))⟩
    intro ow3 H3 u3
    have g1 := g1.upd u3 id
    have B2 := B2.upd u3 Off.no
    have U3 := (u1.trans u2).trans u3
    refine ⟨_, rfl, ?_⟩
    by_cases hp : rightPlan cores words locks = true
    · rw [hp]
      have hr := right_imp hp
      refine br_f (ldI_r (x := cores) g1.2 rfl (ldI_r (x := words) g1.2 rfl (ldI_r (x := locks) g1.2 rfl (ldI_r (x := cores) g1.2 rfl (ldI_r (x := cores) g1.2 rfl (ldI_r (x := locks) g1.2 rfl (ldI_r (x := cores) g1.2 rfl (C16 (ow := ow3) r' hr' hr.1 ?_))))))))
      intro ow4 H4 bx u4 B4
      have g1 := g1.upd u4 id
      refine ⟨_, rfl, must_r (cont_r g1.2 rfl) (must_r (cont_r g1.2 rfl) (must_r (cont_r g1.2 rfl) (must_r (cont_r g1.2 rfl) (must_r (cont_r g1.2 rfl) (must_r (cont_r g1.2 rfl) (C17 (ow := ow4) r' hr.1 hr.2.2 ?_))))))⟩
      intro ow5 H5 bl u5 L5
      have g1 := g1.upd u5 id
      refine ⟨_, rfl, must_r (cont_r g1.2 rfl) (must_r (cont_r g1.2 rfl) (must_r (cont_r g1.2 rfl) (must_r (cont_r g1.2 rfl) (C18 (ow := ow5) r' hr.1 ?_))))⟩
      intro ow6 H6 bg u6 G6
      have g1 := g1.upd u6 id
      refine ⟨_, rfl, must_r (cont_r g1.2 rfl) (must_r (cont_r g1.2 rfl) (must_r (cont_r g1.2 rfl) (nw_t (ow := ow6) (r', 0, 0, 0) ?_)))⟩
      intro ow7 H7 b7 u7 hb7 g7
      refine h ⟨hp, hok.2.2⟩ ow7 H7 b7 ((((U3.trans u4).trans u5).trans u6).trans u7) ?_
      exact ⟨bb, bx, bl, bg, g7, ((((B2.upd u4 Off.no).upd u5 Off.no).upd u6 Off.no).upd u7 Off.no), (((B4.upd u5 Off.no).upd u6 Off.no).upd u7 Off.no), ((L5.upd u6 id).upd u7 id), G6.upd u7 id⟩
    · rw [show rightPlan cores words locks = false by simpa using hp]
      exact br_t (hno (fun hh => hp hh.1) ow3 H3 U3)
  · refine C14n (ow := ow1) hok ?_
    intro ow2 H2 u2
    refine ⟨_, _, rfl, br_t (hno (fun hh => hok ?_) ow2 H2 (u1.trans u2))⟩
    have hr := right_imp hh.1
    exact ⟨hr.1, hr.2.1, hh.2⟩

theorem C7 (hr0 : 0 < r) (r' : Nat) (hr' : 0 < r') (hS : SocR r ow H b s) (ok : s.Ok) (h : ∀ ow' H' b', Upd Tno ow H ow' H' → SocR r' ow' H' b' s → K (Pt b') H') : CallsH Tryz.prog m 7 [Pt b] H K := by
  have hr := right_imp ok.right
  have l1 : s.bufs.length ≤ 8 := by rw [ok.bufs]; omega
  have l2 : s.box.length ≤ 8 := by rw [ok.box]; omega
  obtain ⟨bb, bx, bl, bg, h1, h2, h3, h4, h5⟩ := hS
  refine S7 (br_f (nn_r (ldI_r (x := s.cores) h1.2 rfl (ldI_r (x := s.words) h1.2 rfl (ldI_r (x := s.locks) h1.2 rfl ?_)))))
  refine nn_r (ldP_r (x := at0 bb) h1.2 rfl (nn_r (ldP_r (x := at0 bx) h1.2 rfl (nn_r (ldP_r (x := at0 bl) h1.2 rfl (nn_r (ldP_r (x := at0 bg) h1.2 rfl (C26 hr0 r' hr' h2 (Soc.Ok.bus ok) l1 ?_))))))))
  intro ow1 H1 bb' u1 B1
  have h1 := h1.upd u1 id
  refine ⟨_, rfl, must_r (cont_r h1.2 rfl) (must_r (cont_r h1.2 rfl) (must_r (cont_r h1.2 rfl) (must_r (cont_r h1.2 rfl) (must_r (cont_r h1.2 rfl) (must_r (cont_r h1.2 rfl) (C27 hr0 r' hr' (h3.upd u1 Off.no) l2 ?_))))))⟩
  intro ow2 H2 bx' u2 B2
  have h1 := h1.upd u2 id
  refine ⟨_, rfl, must_r (cont_r h1.2 rfl) (must_r (cont_r h1.2 rfl) (must_r (cont_r h1.2 rfl) (must_r (cont_r h1.2 rfl) (must_r (cont_r h1.2 rfl) (C28 r' ((h4.upd u1 id).upd u2 id) ok.owners ?_)))))⟩
  intro ow3 H3 bl' u3 L3
  have h1 := h1.upd u3 id
  refine ⟨_, rfl, must_r (cont_r h1.2 rfl) (must_r (cont_r h1.2 rfl) (must_r (cont_r h1.2 rfl) (must_r (cont_r h1.2 rfl) (C29 r' (((h5.upd u1 id).upd u2 id).upd u3 id) ok.epochs ok.held ?_))))⟩
  intro ow4 H4 bg' u4 G4
  have h1 := h1.upd u4 id
  refine ⟨_, rfl, must_r (cont_r h1.2 rfl) (must_r (cont_r h1.2 rfl) (must_r (cont_r h1.2 rfl) (nw_t (ow := ow4) (r', 0, 0, 0) ?_)))⟩
  intro ow5 H5 b5 u5 hb5 g5
  refine h ow5 H5 b5 ((((u1.trans u2).trans u3).trans u4).trans u5) ?_
  exact ⟨bb', bx', bl', bg', g5, (((B1.upd u2 Off.no).upd u3 Off.no).upd u4 Off.no).upd u5 Off.no, ((B2.upd u3 Off.no).upd u4 Off.no).upd u5 Off.no, (L3.upd u4 id).upd u5 id, G4.upd u5 id⟩
end
end Go.Proofs.YtoddfageecbkcaaGreat

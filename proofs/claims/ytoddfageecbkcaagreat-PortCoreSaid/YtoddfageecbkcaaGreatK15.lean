/-
  CONTRACTS: a load of the bus.
-/
import Derived.Test.YtoddfageecbkcaaGreatKF
namespace Go.Proofs.YtoddfageecbkcaaGreat
open Go Go.Eng Sy
set_option linter.unusedVariables false
set_option linter.unusedSimpArgs false
set_option maxRecDepth 100000

section
variable {m : Amb} {r : Nat} {ow : Ow} {H : Hp} {K : Value → Hp → Prop} {b : Nat}

theorem C66 {i : Nat} {most : Int} {l : List (Int × Int)} {a : Int} (hB : BufR r ow H i b most l) (hl : ∀ p ∈ l, okP p) (h16 : l.length ≤ 16)
    (h : ∀ ow' H', Upd Tno ow H ow' H' → K (findV l a) H') : CallsH Tryz.prog m 66 [Pt b, I a] H K := by
  obtain ⟨q, n, c, h1, h2⟩ := hB
  refine S66 (br_f (nn_r (ldS_r h1.2 rfl (C112 h2 hl h16 ?_))))
  intro ow' H' u
  have := h ow' H' u
  unfold findV at this ⊢
  split <;> (rename_i w hw; rw [hw] at this; exact ⟨_, _, rfl, this⟩)

variable {ram : List Int} {most : Int} {bufs : List (List (Int × Int))}

theorem C31 (hr0 : 0 < r) (hB : BusR r ow H b ram most bufs) (ok : BOk ram most bufs) {c : Nat} (hc : c < bufs.length) {a : Int} (ha : 0 ≤ a ∧ a < ram.length)
    (h : ∀ ow' H', Upd Tno ow H ow' H' → K (.tuple #[I (match find bufs[c] a with | some w => w | none => ram.getD a.toNat 0), I 0]) H') : CallsH Tryz.prog m 31 [Pt b, I c, I a] H K := by
  refine S31 ?_
  unfold t31; rw [zc3]
  refine nw_t (ow := ow) T0 ?_
  intro ow1 H1 b1 u1 hb1 g1
  have k1 := g1.lt
  refine nw_t (ow := ow1) T0 ?_
  intro ow2 H2 b2 u2 hb2 g2
  have k2 := g2.lt
  refine nw_t (ow := ow2) T0 ?_
  intro ow3 H3 b3 u3 hb3 g3
  have g1 := (g1.upd u2 id).upd u3 id
  have g2 := g2.upd u3 id
  have e1 := u1.size
  have e2 := u2.size
  have u123 := (u1.trans u2).trans u3
  have B3 := hB.upd u123 Off.no
  have h16 := ok.m16
  have hs := ok.short hc
  have hpp := ok.pair hc
  have hne1 : b1 ≠ b3 := by omega
  have hne2 : b2 ≠ b3 := by omega
  have hA : H.size ≤ b3 := by omega
  obtain ⟨rb, q, n, cp, bs, bc, F⟩ := BusR.at B3 hc
  refine ldP_r (x := at0 b) g1.2 rfl (C63 F.has F.sl F.at_ (by kernel_rfl) ?_)
  refine S64 (ldP_r (x := at0 b) g1.2 rfl (nn_r (ldP_r (x := at0 rb) F.has.2 rfl (ldI_r (x := a) g2.2 rfl (C65 F.ram ok.len ha ⟨_, _, rfl, ?_⟩)))))
  refine st_t g3 rfl (by decide) fun H4 s4 g4 => br_f ?_
  have g1 := g1.set s4 hne1
  have g2 := g2.set s4 hne2
  have V4 : Upd (TL Tno) ow3 H3 ow3 H4 := (Upd.refl (TL Tno) _ _).loc s4 g3.1
  refine ldI_r (x := a) g2.2 rfl (C66 (F.buf.upd V4 (TL.no id hr0) (TL.no id hr0)) (fun p hp => (hpp p hp).1) (by omega) ?_)
  intro ow5 H5 u5
  have g5 := g4.upd u5 id
  have U5 := (u123.set s4 (.inr hA)).trans u5
  unfold findV
  cases hf : find bufs[c] a with
  | some w =>
    rw [hf] at h
    refine ⟨_, _, rfl, br_t (st_t g5 rfl (by simp) fun H6 s6 g6 => ⟨0, rfl, 0, rfl, ?_⟩)⟩
    refine ldI_r (x := w) g6.2 rfl (st_t g6 rfl (by simp) fun H7 s7 g7 => ldI_r (x := w) g7.2 rfl ?_)
    exact h ow5 H7 ((U5.set s6 (.inr hA)).set s7 (.inr hA))
  | none =>
    rw [hf] at h
    refine ⟨_, _, rfl, br_f ⟨0, rfl, 0, rfl, ?_⟩⟩
    refine ldI_r (x := ram.getD a.toNat 0) g5.2 rfl (st_t g5 rfl (by simp) fun H7 s7 g7 => ldI_r (x := ram.getD a.toNat 0) g7.2 rfl ?_)
    exact h ow5 H7 (U5.set s7 (.inr hA))
end
end Go.Proofs.YtoddfageecbkcaaGreat

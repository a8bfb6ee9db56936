/-
  CONTRACTS: a core's port; calls of a soc.
-/
import Derived.Test.YtoddfageecbkcaaGreatK19
import Derived.Test.YtoddfageecbkcaaGreatM2
namespace Go.Proofs.YtoddfageecbkcaaGreat
open Go Go.Eng Sy
set_option linter.unusedVariables false
set_option linter.unusedSimpArgs false
set_option maxRecDepth 100000

theorem zc23 : zc Tryz.prog 23 = [I 0, I 0, I 0] := by kernel_rfl

section
variable {m : Amb} {r : Nat} {ow : Ow} {H : Hp} {K : Value → Hp → Prop} {b pb : Nat} {s : Soc} {id : Int} {τ : Tg}

theorem C153 (hS : SocR r ow H b s) (h : ∀ ow' H', Upd Tno ow H ow' H' → K (.agg #[I s.cores, I s.words, I s.locks]) H') : CallsH Tryz.prog m 153 [Pt b] H K := by
  refine S153 ?_
  unfold t153; rw [zc23]
  refine nw_t (ow := ow) T0 ?_
  intro ow1 H1 b1 u1 hb1 g1
  obtain ⟨bb, bx, bl, bg, h1, h2⟩ := hS
  have h1 := h1.upd u1 id
  have hA : H.size ≤ b1 := Nat.le_of_eq hb1.symm
  refine br_f (nn_r (ldI_r (x := s.cores) h1.2 rfl (ldI_r (x := s.words) h1.2 rfl (ldI_r (x := s.locks) h1.2 rfl ?_))))
  refine st_t g1 rfl (by decide) fun H2 s2 g2 => st_t g2 rfl (by simp) fun H3 s3 g3 => st_t g3 rfl (by simp) fun H4 s4 g4 => ?_
  refine ldI_r (x := s.cores) g4.2 rfl (ldI_r (x := s.words) g4.2 rfl (ldI_r (x := s.locks) g4.2 rfl ?_))
  exact h ow1 H4 (((u1.set s2 (.inr hA)).set s3 (.inr hA)).set s4 (.inr hA))

theorem C152 (hp : Has ow H τ pb [Pt b, I id]) (hS : SocR r ow H b s) (ok : s.Ok) {k i rg : Int} (hk : k = 1 ∨ k = 2 ∨ k = 3 ∨ k = 4)
    (h : ∀ ow' H', Upd Tno ow H ow' H' → K (encV (enc s.cores s.words s.locks k i rg)) H') : CallsH Tryz.prog m 152 [Pt pb, I k, I i, I rg] H K := by
  refine S152 (br_f (nn_r (ldP_r (x := at0 b) hp.2 rfl (C153 hS ?_))))
  intro ow1 H1 u1
  refine ⟨_, _, _, rfl, C110 (ow := ow1) ok.right hk ?_⟩
  intro ow2 H2 u2
  have := h ow2 H2 (u1.trans u2)
  cases he : enc s.cores s.words s.locks k i rg <;> (rw [he] at this; exact ⟨_, _, rfl, this⟩)

theorem C151 (hr0 : 0 < r) (hp : Has ow H τ pb [Pt b, I id]) (hS : SocR r ow H b s) (ok : s.Ok) {k i rg : Int} (hk : k = 1 ∨ k = 2 ∨ k = 3 ∨ k = 4)
    (hno : enc s.cores s.words s.locks k i rg = none → ∀ ow' H', Upd (TSoc r) ow H ow' H' → SocR r ow' H' b s → K (I 0) H')
    (h : ∀ a, enc s.cores s.words s.locks k i rg = some a → i64 a ∧ ∀ ow' H', Upd (TSoc r) ow H ow' H' → SocR r ow' H' b (s.read id a).1 → K (I (s.read id a).2.1) H') : CallsH Tryz.prog m 151 [Pt pb, I k, I i, I rg] H K := by
  refine S151 (C152 hp hS ok hk ?_)
  intro ow1 H1 u1
  have U1 : Upd (TSoc r) ow H ow1 H1 := u1.mono fun _ h => h.elim
  cases he : enc s.cores s.words s.locks k i rg with
  | none => exact ⟨_, _, rfl, br_t (hno he ow1 H1 U1 (hS.upd u1 Off.no))⟩
  | some a =>
    have hp := hp.upd u1 (fun x => x)
    obtain ⟨ha, h⟩ := h a he
    refine ⟨_, _, rfl, br_f (nn_r (ldP_r (x := at0 b) hp.2 rfl (nn_r (ldI_r (x := id) hp.2 rfl (C9 hr0 (hS.upd u1 Off.no) ok ha ?_)))))⟩
    intro ow2 H2 u2 S2
    exact ⟨_, _, rfl, h ow2 H2 (U1.trans u2) S2⟩

theorem enc1 {cores words locks a : Int} : enc cores words locks 1 0 a = if 0 ≤ a ∧ a < words then some a else none := by
  unfold enc; rw [if_pos rfl]; simp
theorem enc4 {cores words locks p : Int} : enc cores words locks 4 p 0 = if 0 ≤ p ∧ p < cores then some (66048 + p) else none := by
  unfold enc; simp
theorem enc2 {cores words locks p : Int} : enc cores words locks 2 p 2 = if 0 ≤ p ∧ p < cores then some (65536 + 16 * p + 2) else none := by
  unfold enc; simp

theorem C149 (hr0 : 0 < r) (hp : Has ow H τ pb [Pt b, I id]) (hS : SocR r ow H b s) (ok : s.Ok) {a : Int}
    (h : ∀ ow' H', Upd (TSoc r) ow H ow' H' → SocR r ow' H' b (s.touch id (.ld a)).1 → K (I (s.touch id (.ld a)).2) H') : CallsH Tryz.prog m 149 [Pt pb, I a] H K := by
  have hr := right_imp ok.right
  simp only [Soc.touch] at h
  refine S149 (C151 hr0 hp hS ok (.inl rfl) ?_ ?_)
  · intro he ow' H' u S'
    have hc : ¬ (0 ≤ a ∧ a < s.words) := by intro hc; rw [enc1, if_pos hc] at he; cases he
    rw [if_neg hc] at h
    exact ⟨_, rfl, h ow' H' u S'⟩
  · intro a' he
    by_cases hc : 0 ≤ a ∧ a < s.words
    · rw [enc1, if_pos hc] at he; cases he
      rw [if_pos hc] at h
      exact ⟨⟨by omega, by omega⟩, fun ow' H' u S' => ⟨_, rfl, h ow' H' u S'⟩⟩
    · rw [enc1, if_neg hc] at he; cases he

theorem C146 (hr0 : 0 < r) (hp : Has ow H τ pb [Pt b, I id]) (hS : SocR r ow H b s) (ok : s.Ok) {p : Int}
    (h : ∀ ow' H', Upd (TSoc r) ow H ow' H' → SocR r ow' H' b (s.touch id (.ep p)).1 → K (I (s.touch id (.ep p)).2) H') : CallsH Tryz.prog m 146 [Pt pb, I p] H K := by
  have hr := right_imp ok.right
  simp only [Soc.touch] at h
  refine S146 (C151 hr0 hp hS ok (.inr (.inr (.inr rfl))) ?_ ?_)
  · intro he ow' H' u S'
    have hc : ¬ (0 ≤ p ∧ p < s.cores) := by intro hc; rw [enc4, if_pos hc] at he; cases he
    rw [if_neg hc] at h
    exact ⟨_, rfl, h ow' H' u S'⟩
  · intro a' he
    by_cases hc : 0 ≤ p ∧ p < s.cores
    · rw [enc4, if_pos hc] at he; cases he
      rw [if_pos hc] at h
      exact ⟨⟨by omega, by omega⟩, fun ow' H' u S' => ⟨_, rfl, h ow' H' u S'⟩⟩
    · rw [enc4, if_neg hc] at he; cases he

theorem C150 (hr0 : 0 < r) (hp : Has ow H τ pb [Pt b, I id]) (hS : SocR r ow H b s) (ok : s.Ok) {a w : Int}
    (h : ∀ ow' H', Upd (TSoc r) ow H ow' H' → SocR r ow' H' b (s.touch id (.st a w)).1 → K (.tuple #[]) H') : CallsH Tryz.prog m 150 [Pt pb, I a, I w] H K := by
  have hr := right_imp ok.right
  simp only [Soc.touch] at h
  refine S150 (C152 hp hS ok (.inl rfl) ?_)
  intro ow1 H1 u1
  have U1 : Upd (TSoc r) ow H ow1 H1 := u1.mono fun _ h => h.elim
  have hp := hp.upd u1 (fun x => x)
  rw [enc1]
  by_cases hc : 0 ≤ a ∧ a < s.words
  · rw [if_pos hc] at h ⊢
    refine ⟨_, _, rfl, br_t (nn_r (ldP_r (x := at0 b) hp.2 rfl (nn_r (ldI_r (x := id) hp.2 rfl (C10 hr0 (hS.upd u1 Off.no) ok ⟨by omega, by omega⟩ ?_)))))⟩
    intro ow2 H2 u2 S2
    exact ⟨_, rfl, h ow2 H2 (U1.trans u2) S2⟩
  · rw [if_neg hc] at h ⊢
    exact ⟨_, _, rfl, br_f (h ow1 H1 U1 (hS.upd u1 Off.no))⟩

theorem C148 (hr0 : 0 < r) (hp : Has ow H τ pb [Pt b, I id]) (hS : SocR r ow H b s) (ok : s.Ok) {p : Int}
    (h : ∀ ow' H', Upd (TSoc r) ow H ow' H' → SocR r ow' H' b (s.touch id (.kick p)).1 → K (.tuple #[]) H') : CallsH Tryz.prog m 148 [Pt pb, I p] H K := by
  have hr := right_imp ok.right
  simp only [Soc.touch] at h
  refine S148 (C152 hp hS ok (.inr (.inl rfl)) ?_)
  intro ow1 H1 u1
  have U1 : Upd (TSoc r) ow H ow1 H1 := u1.mono fun _ h => h.elim
  have hp := hp.upd u1 (fun x => x)
  rw [enc2]
  by_cases hc : 0 ≤ p ∧ p < s.cores
  · rw [if_pos hc] at h ⊢
    refine ⟨_, _, rfl, br_t (nn_r (ldP_r (x := at0 b) hp.2 rfl (nn_r (ldI_r (x := id) hp.2 rfl (nn_r (ldI_r (x := id) hp.2 rfl (C10 hr0 (hS.upd u1 Off.no) ok ⟨by omega, by omega⟩ ?_)))))))⟩
    intro ow2 H2 u2 S2
    exact ⟨_, rfl, h ow2 H2 (U1.trans u2) S2⟩
  · rw [if_neg hc] at h ⊢
    exact ⟨_, _, rfl, br_f (h ow1 H1 U1 (hS.upd u1 Off.no))⟩

theorem C147 (hr0 : 0 < r) (hp : Has ow H τ pb [Pt b, I id]) (hS : SocR r ow H b s) (ok : s.Ok)
    (h : ∀ ow' H', Upd (TSoc r) ow H ow' H' → SocR r ow' H' b (s.touch id .fence).1 → K (.tuple #[]) H') : CallsH Tryz.prog m 147 [Pt pb] H K := by
  simp only [Soc.touch] at h
  refine S147 (br_t (nn_r (ldP_r (x := at0 b) hp.2 rfl (nn_r (ldI_r (x := id) hp.2 rfl (C11 hr0 hS ok ?_))))))
  intro ow2 H2 u2 S2
  exact ⟨_, _, rfl, h ow2 H2 u2 S2⟩
end
end Go.Proofs.YtoddfageecbkcaaGreat

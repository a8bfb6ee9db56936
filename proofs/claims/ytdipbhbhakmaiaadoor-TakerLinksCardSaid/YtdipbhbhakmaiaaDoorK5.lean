/-
  THE WALK of the law of the taker that is nil.
-/
import Derived.Test.YtdipbhbhakmaiaaDoorK4
namespace Go.Proofs.YtdipbhbhakmaiaaDoor
open Go Go.Eng
set_option linter.unusedVariables false
set_option linter.unusedSimpArgs false
set_option maxRecDepth 100000

section
variable {m : Amb} {H : Hp} {K : Value → Hp → Prop}

theorem But.low {H0 A B C : Hp} (h : Ext A B) (k : But (fun b => B.size ≤ b) B C) : But (fun b => A.size ≤ b) A C :=
  (But.of_ext h).trans (k.mono fun b hb => .inl (Nat.le_trans h.size hb))

theorem C3 (g : Gl H) {x : Int} (h : ∀ H', But (fun b => H.size ≤ b) H H' → K (B true) H') : CallsH Tryd.prog m 3 [I x] H K := by
  refine S3 ?_
  refine C7 (l := []) (l' := []) (N := 0) ⟨rfl, .inl ⟨rfl, rfl, rfl⟩⟩ ⟨rfl, .inl ⟨rfl, rfl, rfl⟩⟩ (by decide) (by decide) ?_
  intro b H1 e1 _
  refine ⟨_, rfl, ?_⟩
  refine S6 (br_t ⟨true, 1, rfl, ?_⟩)
  refine S8 (S48 (br_f ⟨false, rfl, br_t ⟨none, 0, 0, 0, rfl, ?_⟩⟩))
  refine S9 (br_t ⟨0, false, rfl, ?_⟩)
  refine S10 (S51 (br_t ⟨1, rfl, br_f ⟨1, rfl, br_t ?_⟩⟩))
  refine S11 (S51 (br_t ⟨1, rfl, br_t ⟨1, rfl, br_t (br_t (br_t (br_t (br_t (br_t (br_t ?_))))))⟩⟩))
  refine S12 (br_f ⟨false, rfl, br_t ?_⟩)
  refine S13 (br_f ⟨false, rfl, br_t ?_⟩)
  refine S14 (br_t ⟨none, 0, 0, rfl, br_t ?_⟩)
  refine S15 (br_t ⟨0, rfl, br_t ?_⟩)
  refine C16 (g.ext e1) ?_
  intro H' hb
  exact ⟨_, rfl, h H' ((But.of_ext e1).trans (hb.mono fun b hb => .inl (Nat.le_trans e1.size hb)))⟩
end
end Go.Proofs.YtdipbhbhakmaiaaDoor

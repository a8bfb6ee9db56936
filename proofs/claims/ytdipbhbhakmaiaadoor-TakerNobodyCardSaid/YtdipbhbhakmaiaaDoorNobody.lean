/-
  PROVED: whatever the handle, 'switchyardlaw17.TakerNobody' returns true and does not panic, and the handle reads behind the call as it read before. CONDITIONS: the two listed package variables (math/bits.deBruijn64tab, switchyard/plot.ahead) read as they are laid, which the card ties to the program's text; nothing else.
-/
import Derived.Test.YtdipbhbhakmaiaaDoorK5
import Derived.Test.YtdipbhbhakmaiaaDoorV
import Derived.Test.YtdipbhbhakmaiaaDoorCards
import Derived.Test.YtdipbhbhakmaiaaDoorTie
import Derived.SevenTiedAt
namespace Go.Proofs.YtdipbhbhakmaiaaDoor
open Go Go.ChangeShapes Go.WideShapes Go.ChangeAt Go.RowKit
set_option linter.unusedVariables false
set_option linter.unusedSimpArgs false

theorem own : ownKnob Tryd.prog.godebug = none := by kernel_rfl

theorem nobody_walk (x : Int) (W : World) (g : Gl W.heap) : Calls Tryd.prog 3 #[.int .i64 x] W fun e W' => e = .returned (.bool true) ∧ ∃ H' d', W' = Go.Eng.mkW (ambOf W) H' d' ∧ Go.Eng.But (fun b => W.heap.size ≤ b) W.heap H' := by
  have h := C3 (m := ambOf W) (H := W.heap) (x := x) (K := fun v H' => v = .bool true ∧ Go.Eng.But (fun b => W.heap.size ≤ b) W.heap H') g (fun H' hb => ⟨rfl, hb⟩) W.drawn
  refine Calls.mono h fun e W' ⟨v, H', d', h1, h2, h3, h4⟩ => ?_
  subst h3
  exact ⟨h1, H', d', h2, h4⟩

set_option maxRecDepth 100000 in
theorem nobody_lifted (os : Os) (started : os.Started) (H : Type) (enc : TypeId × Value → H) :
    ReturnsInHanded {} Tryd.checked os 3 .any (fun w args => (Rows.takerNobodySpec.pre enc Tryd.prog Tryd.f3 [] false w args ∧ laidMetH Tryd.prog Rows.takerNobodyRow.laid w) ∧ sizedMet enc Tryd.prog Tryd.f3 (OpenSpec.ofChange Rows.takerNobodySpec) false w args)
      (Rows.takerNobodySpec.post enc Tryd.prog Tryd.f3 false true false false) := by
  refine returnsInHanded_of_change_and (C := Tryd.checked) (X := fun w _ => laidMetH Tryd.prog Rows.takerNobodyRow.laid w) (fun _ _ _ hh h => h.of_heap hh) own started (by kernel_rfl) Tryd.func3
    (ChangeSpec.witness_shaped (enc := enc) (C := Tryd.checked) (os := os) (X := fun w _ => laidMetH Tryd.prog Rows.takerNobodyRow.laid w) false (World.laidAll Tryd.prog os Rows.takerNobodyRow.laid) #[.int .i64 0] 8 (World.laidAll_os _ _ _)
      (World.shaped_of_ZipB (by kernel_rfl) (by kernel_rfl)) (by kernel_rfl) (by kernel_rfl) (by kernel_rfl)
      (by rw [MakeChecks.laidMetH_plain _ _ _ (by kernel_rfl)]; exact laidMet_laidAll _ (by kernel_rfl) (by kernel_rfl))) ?_
  intro W base args ds gs before hval0 hW _ _ hL _
  have hval : ∀ (j : Nat) t v, Tryd.f3.params[j]? = some t → args[j]? = some v → Value.okWide Tryd.prog W .any base t v := hval0
  have hW' := hW
  obtain ⟨p, q, hA0, hV, rfl, _, _⟩ := hW
  have hA : DataW.TrodAll enc Tryd.prog W 0 (fun _ => true) true Tryd.f3.params.toList args.toList ds p := hA0
  rw [Tryd.params3] at hA hval
  obtain ⟨v0, d0, rfl, rfl, h0⟩ := trodAll_one hA
  obtain ⟨rfl, rfl⟩ := trodVars_none hV
  obtain ⟨x, rfl, rfl, rfl, wx⟩ := open_int Tryd.underlying3 (hval 0 3 v0 rfl rfl) h0
  simp only [List.append_nil] at hW'
  rw [MakeChecks.laidMetH_plain _ _ _ (by kernel_rfl)] at hL
  refine (nobody_walk x W (gl_of_laid hL)).mono fun e W' ⟨he, H', d', hw, hb⟩ => ?_
  subst he; subst hw
  exact ⟨_, rfl, _, _, _, [], [], [], hW', trodAll_mk1 (shut_bool Tryd.underlying4 _), trodAll_mk1 (shut_int Tryd.underlying3 wx), rfl, kept_of_but _ hb, fun h => by cases h⟩

theorem takerNobody_holds : Rows.TakerNobodySaid :=
  OpenClaim.holds_of_wide 3 Tryd.f3 rfl rfl rfl rfl rfl rfl rfl ⟨rfl, rfl, rfl, rfl, rfl⟩ rfl rfl rfl rfl rfl (by kernel_rfl) Tryd.func3 (by kernel_rfl)
    (of_decide_eq_true (by kernel_rfl)) (by unfold Func.isWrapper; first | (rw [if_pos (by decide +kernel)]; kernel_rfl) | (rw [if_neg (by decide +kernel)]; exact ⟨rfl, rfl⟩))
    (fun os started H enc _ => nobody_lifted os started H enc)

theorem takerNobody_card_holds : Rows.TakerNobodyCardSaid :=
  Claim7.holds_tied_plain_at .later [] [.data, .data] true (true, "65014d1db8a245e73594165130d45d0e3a3484c23597cab37a20444b7d351a35") false takerNobody_holds (fun _ h => by cases h) (by kernel_rfl) (fun _ h => by cases h) takerNobody_row_tie rfl ⟨rfl, rfl⟩ (by kernel_rfl) rfl
    (fun f fn hf hfn => by
      obtain rfl : f = 3 := Option.some.inj ((show Tryd.prog.funcNamed "switchyard/switchyardlaw17.TakerNobody" = some 3 by kernel_rfl).symm.trans hf) |>.symm
      obtain rfl : fn = Tryd.f3 := (Option.some.inj (Tryd.func3.symm.trans hfn)).symm
      exact ⟨by kernel_rfl, fun j t ht => by
        rw [Tryd.params3] at ht
        have hm : t ∈ [3] := by simpa using Array.mem_of_getElem? ht
        have hall : ([3].all fun u => !Tryd.prog.wantsStandIn u) = true := by kernel_rfl
        exact (show Tryd.prog.wantsStandIn t = false by simpa using List.all_eq_true.1 hall t hm)⟩)
    (by kernel_rfl)
#print axioms takerNobody_card_holds
end Go.Proofs.YtdipbhbhakmaiaaDoor

/-
  PROVED: whatever the ring, the epoch and the mark, 'switchyardlaw17.TakerLinks' returns true and does not panic, and the three numbers read behind the call as they read before. CONDITIONS: the two listed package variables (math/bits.deBruijn64tab, switchyard/plot.ahead) read as they are laid, which the card ties to the program's text; nothing else.
-/
import Derived.Test.YtdipbhbhakmaiaaDoorL1
import Derived.Test.YtdipbhbhakmaiaaDoorV
import Derived.Test.YtdipbhbhakmaiaaDoorCards
import Derived.Test.YtdipbhbhakmaiaaDoorTie
import Derived.SevenTiedAt
namespace Go.Proofs.YtdipbhbhakmaiaaDoor
open Go Go.ChangeShapes Go.WideShapes Go.ChangeAt Go.RowKit
set_option linter.unusedVariables false
set_option linter.unusedSimpArgs false

theorem ownL : ownKnob Tryd.prog.godebug = none := by kernel_rfl

theorem links_walk (x y z : Int) (W : World) (g : Gl W.heap) : Calls Tryd.prog 4 #[.int .i64 x, .int .i64 y, .int .i64 z] W fun e W' => e = .returned (.bool true) ∧ ∃ H' d', W' = Go.Eng.mkW (ambOf W) H' d' ∧ Go.Eng.But (fun b => W.heap.size ≤ b) W.heap H' := by
  have h := C4 (m := ambOf W) (H := W.heap) (ring := x) (epoch := y) (mark := z) (K := fun v H' => v = .bool true ∧ Go.Eng.But (fun b => W.heap.size ≤ b) W.heap H') g (fun H' hb => ⟨rfl, hb⟩) W.drawn
  refine Calls.mono h fun e W' ⟨v, H', d', h1, h2, h3, h4⟩ => ?_
  subst h3
  exact ⟨h1, H', d', h2, h4⟩

set_option maxRecDepth 100000 in
theorem links_lifted (os : Os) (started : os.Started) (H : Type) (enc : TypeId × Value → H) :
    ReturnsInHanded {} Tryd.checked os 4 .any (fun w args => (Rows.takerLinksSpec.pre enc Tryd.prog Tryd.f4 [] false w args ∧ laidMetH Tryd.prog Rows.takerLinksRow.laid w) ∧ sizedMet enc Tryd.prog Tryd.f4 (OpenSpec.ofChange Rows.takerLinksSpec) false w args)
      (Rows.takerLinksSpec.post enc Tryd.prog Tryd.f4 false true false false) := by
  refine returnsInHanded_of_change_and (C := Tryd.checked) (X := fun w _ => laidMetH Tryd.prog Rows.takerLinksRow.laid w) (fun _ _ _ hh h => h.of_heap hh) ownL started (by kernel_rfl) Tryd.func4
    (ChangeSpec.witness_shaped (enc := enc) (C := Tryd.checked) (os := os) (X := fun w _ => laidMetH Tryd.prog Rows.takerLinksRow.laid w) false (World.laidAll Tryd.prog os Rows.takerLinksRow.laid) #[.int .i64 0, .int .i64 0, .int .i64 0] 8 (World.laidAll_os _ _ _)
      (World.shaped_of_ZipB (by kernel_rfl) (by kernel_rfl)) (by kernel_rfl) (by kernel_rfl) (by kernel_rfl)
      (by rw [MakeChecks.laidMetH_plain _ _ _ (by kernel_rfl)]; exact laidMet_laidAll _ (by kernel_rfl) (by kernel_rfl))) ?_
  intro W base args ds gs before hval0 hW _ _ hL _
  have hval : ∀ (j : Nat) t v, Tryd.f4.params[j]? = some t → args[j]? = some v → Value.okWide Tryd.prog W .any base t v := hval0
  have hW' := hW
  obtain ⟨p, q, hA0, hV, rfl, _, _⟩ := hW
  have hA : DataW.TrodAll enc Tryd.prog W 0 (fun _ => true) true Tryd.f4.params.toList args.toList ds p := hA0
  rw [Tryd.params4] at hA hval
  obtain ⟨v0, vs0, d0, ds0, p0, q0, hargs, rfl, rfl, h0, r0⟩ := trodAll_cons hA
  obtain ⟨v1, vs1, d1, ds1, p1, q1, rfl, rfl, rfl, h1, r1⟩ := trodAll_cons r0
  obtain ⟨v2, vs2, d2, ds2, p2, q2, rfl, rfl, rfl, h2, r2⟩ := trodAll_cons r1
  obtain ⟨rfl, rfl, rfl⟩ := trodAll_nil r2
  obtain rfl : args = #[v0, v1, v2] := Array.toList_inj.1 hargs
  obtain ⟨rfl, rfl⟩ := trodVars_none hV
  obtain ⟨x, rfl, rfl, rfl, wx⟩ := open_int Tryd.underlying3 (hval 0 3 v0 rfl rfl) h0
  obtain ⟨y, rfl, rfl, rfl, wy⟩ := open_int Tryd.underlying3 (hval 1 3 v1 rfl rfl) h1
  obtain ⟨z, rfl, rfl, rfl, wz⟩ := open_int Tryd.underlying3 (hval 2 3 v2 rfl rfl) h2
  simp only [List.append_nil] at hW'
  rw [MakeChecks.laidMetH_plain _ _ _ (by kernel_rfl)] at hL
  refine (links_walk x y z W (gl_of_laid hL)).mono fun e W' ⟨he, H', d', hw, hb⟩ => ?_
  subst he; subst hw
  exact ⟨_, rfl, _, _, _, [], [], [], hW', trodAll_mk1 (shut_bool Tryd.underlying4 _), trodAll_cons_mk (shut_int Tryd.underlying3 wx) (trodAll_cons_mk (shut_int Tryd.underlying3 wy) (trodAll_cons_mk (shut_int Tryd.underlying3 wz) trodAll_mk0)), rfl, kept_of_but _ hb, fun h => by cases h⟩

theorem takerLinks_holds : Rows.TakerLinksSaid :=
  OpenClaim.holds_of_wide 4 Tryd.f4 rfl rfl rfl rfl rfl rfl rfl ⟨rfl, rfl, rfl, rfl, rfl⟩ rfl rfl rfl rfl rfl (by kernel_rfl) Tryd.func4 (by kernel_rfl)
    (of_decide_eq_true (by kernel_rfl)) (by unfold Func.isWrapper; first | (rw [if_pos (by decide +kernel)]; kernel_rfl) | (rw [if_neg (by decide +kernel)]; exact ⟨rfl, rfl⟩))
    (fun os started H enc _ => links_lifted os started H enc)

theorem takerLinks_card_holds : Rows.TakerLinksCardSaid :=
  Claim7.holds_tied_plain_at .later [] [.data, .data] true (true, "65014d1db8a245e73594165130d45d0e3a3484c23597cab37a20444b7d351a35") false takerLinks_holds (fun _ h => by cases h) (by kernel_rfl) (fun _ h => by cases h) takerLinks_row_tie rfl ⟨rfl, rfl⟩ (by kernel_rfl) rfl
    (fun f fn hf hfn => by
      obtain rfl : f = 4 := Option.some.inj ((show Tryd.prog.funcNamed "switchyard/switchyardlaw17.TakerLinks" = some 4 by kernel_rfl).symm.trans hf) |>.symm
      obtain rfl : fn = Tryd.f4 := (Option.some.inj (Tryd.func4.symm.trans hfn)).symm
      exact ⟨by kernel_rfl, fun j t ht => by
        rw [Tryd.params4] at ht
        have hm : t ∈ [3, 3, 3] := by simpa using Array.mem_of_getElem? ht
        have hall : ([3, 3, 3].all fun u => !Tryd.prog.wantsStandIn u) = true := by kernel_rfl
        exact (show Tryd.prog.wantsStandIn t = false by simpa using List.all_eq_true.1 hall t hm)⟩)
    (by kernel_rfl)
#print axioms takerLinks_card_holds
end Go.Proofs.YtdipbhbhakmaiaaDoor

/-
  FROM THE ROW's WORLD TO THE WALK's HEAP, and back: what the listed variables read as; what has grown.
-/
import Derived.Test.YtdipbhbhakmaiaaDoorK0
import Derived.Test.YtdipbhbhakmaiaaDoorRows
import Derived.ProofKit
import Derived.Lay
import Derived.LaidOnce
import Derived.MakeChecks
import Derived.OpenShut
namespace Go.Proofs.YtdipbhbhakmaiaaDoor
open Go Go.Eng
set_option linter.unusedVariables false
set_option linter.unusedSimpArgs false
set_option maxRecDepth 100000

theorem cells_of_trod_ints {P : Program} {w : World} {fuel : Nat} {t e : TypeId} {n : Nat} {k : IntKind} {cs : List Value} {p : List MemPlace} {zs : List Int} (ht : P.underlying t = some (.array n e)) (he : P.underlying e = some (.int k)) (hc : P.cellsOf e = 1) (hct : P.cellsOf t = n)
    (h : DataW.trod (fun _ => ()) P w 0 (fun _ => true) false fuel t cs = some (.agg (zs.map fun z => .lit (.int k z)), p)) : cs = zs.map (.int k) := by
  obtain ⟨xs, j, _, hx, hl, hn, hi⟩ := DataW.trod_array ht h
  have hzs : zs.map (fun z => (DataW.lit (.int k z) : DataW Unit)) = xs.map (·.1) := by
    have := congrArg Prod.fst hx; simpa using this
  have hlen : zs.length = n := by have := congrArg List.length hzs; simpa [hn] using this
  rw [hct] at hl
  apply List.ext_getElem
  · simp [hl, hlen]
  · intro i h1 h2
    have hin : i < n := by omega
    have hh := hi i hin
    rw [hc, Nat.mul_one, List.getElem?_eq_getElem (show i < xs.length by omega)] at hh
    obtain ⟨z, hz1, hz2, _⟩ := DataW.trod_int he hh
    have hci : cs[i] = .int k z := by
      have h3 : ((cs.drop i).take 1)[0]? = some cs[i] := by simp [List.getElem?_take, List.getElem?_drop, List.getElem?_eq_getElem h1]
      rw [hz1] at h3; simpa using h3.symm
    have hzi : z = zs[i]'(by omega) := by
      have h4 : (zs.map (fun z => (DataW.lit (.int k z) : DataW Unit)))[i]? = (xs.map (·.1))[i]? := by rw [hzs]
      rw [List.getElem?_map, List.getElem?_map, List.getElem?_eq_getElem (show i < zs.length by omega), List.getElem?_eq_getElem (show i < xs.length by omega)] at h4
      simp only [Option.map_some, Option.some.injEq] at h4
      rw [hz2] at h4
      simp at h4
      exact h4.symm
    rw [hci, hzi]; simp

theorem cells_of_var {P : Program} {w : World} {nm : String} {g : Nat} {cs : Array Value} (hg : P.globalNamed nm = some g) (h : w.var? P nm = some cs) (hc : ∃ c t, w.heap[g]? = some (.cells c t (0, 0))) : cells w.heap g = some cs.toList := by
  obtain ⟨c, t, hc⟩ := hc
  simp only [World.var?, hg, Option.bind_some] at h
  rw [hc] at h
  simp at h
  subst h
  unfold cells; rw [hc]; rfl

def tabInts : List Int := [0, 1, 56, 2, 57, 49, 28, 3, 61, 58, 42, 50, 38, 29, 17, 4, 62, 47, 59, 36, 45, 43, 51, 22, 53, 39, 33, 30, 24, 18, 12, 5, 63, 55, 48, 27, 60, 41, 37, 16, 46, 35, 44, 21, 52, 32, 23, 11, 54, 26, 40, 15, 34, 20, 31, 10, 25, 14, 19, 9, 13, 8, 7, 6]

theorem gl_of_laid {W : World} (h : laidMet Tryd.prog [("math/bits.deBruijn64tab", Rows.laid_math_bits_deBruijn64tab), ("switchyard/plot.ahead", Rows.laid_switchyard_plot_ahead)] W) : Gl W.heap := by
  obtain ⟨ps, hv, hnd, hps⟩ := h
  obtain ⟨g, t, cs, fuel, p, q, h1, h2, h3, h4, h5, rfl⟩ := hv
  obtain ⟨g', t', cs', fuel', p', q', h1', h2', h3', h4', h5', rfl⟩ := h5
  obtain rfl : 1 = g := Option.some.inj ((show Tryd.prog.globalNamed "math/bits.deBruijn64tab" = some 1 by kernel_rfl).symm.trans h1)
  obtain rfl : 0 = g' := Option.some.inj ((show Tryd.prog.globalNamed "switchyard/plot.ahead" = some 0 by kernel_rfl).symm.trans h1')
  obtain rfl : 124 = t := Option.some.inj ((show (Tryd.prog.globals[1]?).map (·.type) = some 124 by kernel_rfl).symm.trans h2)
  obtain rfl : 90 = t' := Option.some.inj ((show (Tryd.prog.globals[0]?).map (·.type) = some 90 by kernel_rfl).symm.trans h2')
  have e1 : cs.toList = tabCells := cells_of_trod_ints (k := .u8) (n := 64) (e := 5) (zs := tabInts) (by kernel_rfl) (by kernel_rfl) (by kernel_rfl) (by kernel_rfl) h4
  have e2 : cs'.toList = aheadCells := cells_of_trod_ints (k := .i64) (n := 9) (e := 3) (zs := [0, 0, 0, 0, 0, 0, 1, 2, 3]) (by kernel_rfl) (by kernel_rfl) (by kernel_rfl) (by kernel_rfl) h4'
  have s1 : cs.size = 64 := by rw [← Array.length_toList, e1]; rfl
  have s2 : cs'.size = 9 := by rw [← Array.length_toList, e2]; rfl
  refine ⟨?_, ?_⟩
  · rw [cells_of_var h1' h3' (hps 0 0 ?_).1, e2]
    simp [MemPlace.row, s1, s2]
  · rw [cells_of_var h1 h3 (hps 1 0 ?_).1, e1]
    simp [MemPlace.row, s1, s2]

def ambOf (W : World) : Amb := ⟨W.tape, W.os, W.output⟩
theorem mkW_of (W : World) : mkW (ambOf W) W.heap W.drawn = W := rfl

theorem kept_of_but {W : World} {H' : Hp} {d' : Nat} (may : MemPlace → Prop) (h : But (fun b => W.heap.size ≤ b) W.heap H') : W.keptBut (mkW (ambOf W) H' d') may := by
  refine ⟨rfl, rfl, fun i hi => ?_⟩
  have e : (mkW (ambOf W) H' d').heap[i]? = W.heap[i]? := h.same i hi (by omega)
  rw [e]
  exact (World.keptBut_mono (fun _ f => f.elim) (World.keptBut_refl W (fun _ => False))).2.2 i hi
end Go.Proofs.YtdipbhbhakmaiaaDoor

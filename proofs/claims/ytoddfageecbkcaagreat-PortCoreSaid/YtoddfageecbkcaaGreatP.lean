/-
  FROM THE ROW's ARGUMENTS TO THE WALK's: structs of numbers, slices of structs of numbers.
-/
import Derived.Test.YtoddfageecbkcaaGreatK25
import Derived.Test.YtoddfageecbkcaaGreatRows
import Derived.ProofKit
import Derived.Lay
import Derived.OpenShut
import Derived.Carry
import Derived.MakeChecks
import Derived.Handed
namespace Go.Proofs.YtoddfageecbkcaaGreat
open Go Go.Eng Go.RowKit Sy
set_option linter.unusedVariables false
set_option linter.unusedSimpArgs false
set_option maxRecDepth 100000

section
variable {T : Type} {enc : TypeId × Value → T} {P : Program} {w : World} {base : Nat} {spare : Nat → Bool} {held : Bool}

/-- A struct of numbers, one after the other. -/
def IntFields (P : Program) (fs : Array Field) (n : Nat) : Prop := fs.size = n ∧ ∀ i, i < n → ∃ f : Field, fs[i]? = some f ∧ P.underlying f.type = some (.int .i64) ∧ f.offset = i ∧ P.cellsOf f.type = 1

theorem struct_ints {t : TypeId} {fs : Array Field} {n fuel : Nat} {cs : List Value} {x : DataW T × List MemPlace} (ht : P.underlying t = some (.struct fs)) (hf : IntFields P fs n) (hct : P.cellsOf t = n)
    (h : DataW.trod enc P w base spare held fuel t cs = some x) : cs.length = n ∧ ∀ i, i < n → ∃ z, cs[i]? = some (I z) ∧ i64 z := by
  obtain ⟨xs, m, _, _, hl, hlen, hfi⟩ := DataW.trod_struct ht h
  refine ⟨by omega, fun i hi => ?_⟩
  obtain ⟨f, h1, h2, h3, h4⟩ := hf.2 i hi
  have h5 := hfi i f h1
  rw [h3, h4, List.getElem?_eq_getElem (show i < xs.length by have := hf.1; omega)] at h5
  obtain ⟨z, h6, _, h7⟩ := DataW.trod_int h2 h5
  refine ⟨z, ?_, bounds_i64 h7⟩
  have h8 : ((cs.drop i).take 1)[0]? = cs[i]? := by simp [List.getElem?_take, List.getElem?_drop]
  rw [← h8, h6]; rfl

theorem mapM_get {α β : Type} {f : α → Option β} : ∀ {l : List α} {r : List β}, l.mapM f = some r → ∀ (i : Nat) (x : α), l[i]? = some x → f x = r[i]?
  | [], r, h, i, x, hx => by cases hx
  | y :: l, r, h, i, x, hx => by
    simp only [List.mapM_cons, Option.bind_eq_bind] at h
    cases h1 : f y with
    | none => rw [h1] at h; cases h
    | some b =>
      rw [h1] at h
      cases h2 : l.mapM f with
      | none => rw [h2] at h; cases h
      | some r' =>
        rw [h2] at h
        cases h
        cases i with
        | zero => cases hx; exact h1
        | succ i => exact mapM_get h2 i x hx

theorem cells_get {a : Addr} {n : Nat} {cs : List Value} (h : w.cells? base a n = some cs) {i : Nat} (hi : i < n) : w.cell? (a.add i) = cs[i]? := by
  unfold World.cells? at h
  split at h
  · exact mapM_get h i i (by simp [hi])
  · cases h

/-- A slice of such structs. -/
theorem slice_ints {t e : TypeId} {fs : Array Field} {E fuel : Nat} {v : Value} {x : DataW T × List MemPlace} (ht : P.underlying t = some (.slice e)) (he : P.underlying e = some (.struct fs)) (hf : IntFields P fs E) (hce : P.cellsOf e = E)
    (h : DataW.trod enc P w base spare held fuel t [v] = some x) : v = .slice none 0 0 ∨ ∃ a len cap, v = .slice (some a) len cap ∧ ∀ i, i < len → ∀ j, j < E → ∃ z, w.cell? ((a.add (i * E)).add j) = some (I z) ∧ i64 z := by
  rcases DataW.trod_slice ht h with ⟨h1, _⟩ | ⟨a, len, cap, elems, rest, m, _, h1, _, _, _, _, hlen, hel, _⟩
  · left; simpa using h1
  · right
    refine ⟨a, len, cap, by simpa using h1, fun i hi j hj => ?_⟩
    have h2 := hel i hi
    rw [hce, List.getElem?_eq_getElem (show i < elems.length by omega)] at h2
    obtain ⟨cs, h3, h4⟩ := Option.bind_eq_some_iff.1 h2
    obtain ⟨h5, h6⟩ := struct_ints he hf hce h4
    obtain ⟨z, h7, h8⟩ := h6 j hj
    exact ⟨z, by rw [cells_get h3 hj]; exact h7, h8⟩
end

theorem cell_r {W : World} {a : Addr} {v : Value} (h : W.cell? a = some v) : a.spot = none ∧ ∃ cs, rcells W.heap a.block = some cs ∧ cs[a.off]? = some v := by
  unfold World.cell? at h
  unfold rcells
  split at h
  · rename_i c t f hb
    split at h
    · cases h
    · rename_i hs
      refine ⟨by simpa using hs, c.toList, ?_, by simpa using h⟩
      rw [hb]
  · cases h

theorem cells_ints {W : World} {a : Addr} {E len : Nat} (h0 : 0 < len) (hE : 0 < E) (h : ∀ i, i < len → ∀ j, j < E → ∃ z, W.cell? ((a.add (i * E)).add j) = some (I z) ∧ i64 z) :
    ∃ b o cs, a = ⟨b, o, none⟩ ∧ rcells W.heap b = some cs ∧ ∀ i, i < len → ∀ j, j < E → ∃ z, cs[o + (i * E + j)]? = some (I z) ∧ i64 z := by
  obtain ⟨b, o, sp⟩ := a
  obtain ⟨z, h1, _⟩ := h 0 h0 0 hE
  have e0 : (((⟨b, o, sp⟩ : Addr).add (0 * E)).add 0) = ⟨b, o, sp⟩ := by simp [Addr.add]
  rw [e0] at h1
  obtain ⟨hs, cs, h2, h3⟩ := cell_r h1
  have hs : sp = none := hs
  subst hs
  refine ⟨b, o, cs, rfl, h2, fun i hi j hj => ?_⟩
  obtain ⟨z, h4, h5⟩ := h i hi j hj
  rw [add_mk, add_mk] at h4
  obtain ⟨_, cs', h6, h7⟩ := cell_r h4
  have h8 : rcells W.heap b = some cs' := h6
  rw [h2] at h8
  cases h8
  exact ⟨z, by rw [← Nat.add_assoc]; exact h7, h5⟩

def iv : Value → Int
  | .int _ z => z
  | _ => 0
theorem iv_get {cs : List Value} {k : Nat} {z : Int} (h : cs[k]? = some (I z)) : iv (cs.getD k (I 0)) = z := by
  rw [List.getD_eq_getElem?_getD, h]; rfl

theorem ops4 {W : World} {q : Option Addr} {n c : Nat} (h : (q = none ∧ n = 0) ∨ ∃ a, q = some a ∧ ∀ i, i < n → ∀ j, j < 4 → ∃ z, W.cell? ((a.add (i * 4)).add j) = some (I z) ∧ i64 z) :
    ∃ ops : List Op4, ops.length = n ∧ SlR (fun _ => T0) W.heap T0 q (cells4 ops) ∧ ∀ p ∈ ops, i64 p.2.2.1 := by
  rcases h with ⟨rfl, rfl⟩ | ⟨a, rfl, h⟩
  · exact ⟨[], rfl, .inl rfl, fun p hp => by cases hp⟩
  by_cases h0 : 0 < n
  · obtain ⟨b, o, cs, rfl, h1, h2⟩ := cells_ints h0 (by decide) h
    let g : Nat → Int := fun k => iv (cs.getD (o + k) (I 0))
    have hg : ∀ i, i < n → ∀ j, j < 4 → cs[o + (i * 4 + j)]? = some (I (g (i * 4 + j))) ∧ i64 (g (i * 4 + j)) := fun i hi j hj => by
      obtain ⟨z, h3, h4⟩ := h2 i hi j hj
      have : g (i * 4 + j) = z := iv_get h3
      rw [this]; exact ⟨h3, h4⟩
    refine ⟨(List.range n).map fun i => (g (i * 4 + 0), g (i * 4 + 1), g (i * 4 + 2), g (i * 4 + 3)), by simp, .inr ⟨b, o, cs, rfl, rfl, h1, fun k hk => ?_⟩, fun p hp => ?_⟩
    · rw [cells4_len] at hk
      simp only [List.length_map, List.length_range] at hk
      have hi : k / 4 < n := by omega
      obtain ⟨d0, d1, d2, d3⟩ := cells4_get ((List.range n).map fun i => (g (i * 4 + 0), g (i * 4 + 1), g (i * 4 + 2), g (i * 4 + 3))) (k / 4) (by simpa using hi)
      simp only [List.getElem_map, List.getElem_range] at d0 d1 d2 d3
      have hm : k % 4 = 0 ∨ k % 4 = 1 ∨ k % 4 = 2 ∨ k % 4 = 3 := by omega
      have hk4 := hg (k / 4) hi (k % 4) (by omega)
      rw [show k / 4 * 4 + k % 4 = k by omega] at hk4
      rw [hk4.1]
      rcases hm with hm | hm | hm | hm
      · rw [show 4 * (k / 4) = k by omega, show k / 4 * 4 + 0 = k by omega] at d0; exact d0.symm
      · rw [show 4 * (k / 4) + 1 = k by omega, show k / 4 * 4 + 1 = k by omega] at d1; exact d1.symm
      · rw [show 4 * (k / 4) + 2 = k by omega, show k / 4 * 4 + 2 = k by omega] at d2; exact d2.symm
      · rw [show 4 * (k / 4) + 3 = k by omega, show k / 4 * 4 + 3 = k by omega] at d3; exact d3.symm
    · obtain ⟨i, hi, rfl⟩ := List.mem_map.1 hp
      exact (hg i (by simpa using hi) 2 (by decide)).2
  · obtain rfl : n = 0 := by omega
    exact ⟨[], rfl, .inl rfl, fun p hp => by cases hp⟩

theorem ops3 {W : World} {q : Option Addr} {n c : Nat} (h : (q = none ∧ n = 0) ∨ ∃ a, q = some a ∧ ∀ i, i < n → ∀ j, j < 3 → ∃ z, W.cell? ((a.add (i * 3)).add j) = some (I z) ∧ i64 z) :
    ∃ ops : List Op3, ops.length = n ∧ SlR (fun _ => T0) W.heap T0 q (cells3 ops) ∧ ∀ p ∈ ops, i64 p.2.1 := by
  rcases h with ⟨rfl, rfl⟩ | ⟨a, rfl, h⟩
  · exact ⟨[], rfl, .inl rfl, fun p hp => by cases hp⟩
  by_cases h0 : 0 < n
  · obtain ⟨b, o, cs, rfl, h1, h2⟩ := cells_ints h0 (by decide) h
    let g : Nat → Int := fun k => iv (cs.getD (o + k) (I 0))
    have hg : ∀ i, i < n → ∀ j, j < 3 → cs[o + (i * 3 + j)]? = some (I (g (i * 3 + j))) ∧ i64 (g (i * 3 + j)) := fun i hi j hj => by
      obtain ⟨z, h3, h4⟩ := h2 i hi j hj
      have : g (i * 3 + j) = z := iv_get h3
      rw [this]; exact ⟨h3, h4⟩
    refine ⟨(List.range n).map fun i => (g (i * 3 + 0), g (i * 3 + 1), g (i * 3 + 2)), by simp, .inr ⟨b, o, cs, rfl, rfl, h1, fun k hk => ?_⟩, fun p hp => ?_⟩
    · rw [cells3_len] at hk
      simp only [List.length_map, List.length_range] at hk
      have hi : k / 3 < n := by omega
      obtain ⟨d0, d1, d2⟩ := cells3_get ((List.range n).map fun i => (g (i * 3 + 0), g (i * 3 + 1), g (i * 3 + 2))) (k / 3) (by simpa using hi)
      simp only [List.getElem_map, List.getElem_range] at d0 d1 d2
      have hm : k % 3 = 0 ∨ k % 3 = 1 ∨ k % 3 = 2 := by omega
      have hk4 := hg (k / 3) hi (k % 3) (by omega)
      rw [show k / 3 * 3 + k % 3 = k by omega] at hk4
      rw [hk4.1]
      rcases hm with hm | hm | hm
      · rw [show 3 * (k / 3) = k by omega, show k / 3 * 3 + 0 = k by omega] at d0; exact d0.symm
      · rw [show 3 * (k / 3) + 1 = k by omega, show k / 3 * 3 + 1 = k by omega] at d1; exact d1.symm
      · rw [show 3 * (k / 3) + 2 = k by omega, show k / 3 * 3 + 2 = k by omega] at d2; exact d2.symm
    · obtain ⟨i, hi, rfl⟩ := List.mem_map.1 hp
      exact (hg i (by simpa using hi) 1 (by decide)).2
  · obtain rfl : n = 0 := by omega
    exact ⟨[], rfl, .inl rfl, fun p hp => by cases hp⟩

def ambOf (W : World) : Amb := ⟨W.tape, W.os, W.output⟩

theorem below_of {T : Tg → Prop} {W : World} {ow' : Ow} {H' : Hp} {d : Nat} (hT : ¬ T T0) (u : Upd T (fun _ => T0) W.heap ow' H') : Below W.heap.size W (mkW (ambOf W) H' d) :=
  ⟨rfl, rfl, rfl, u.size, fun k hk => u.same k hk hT⟩
end Go.Proofs.YtoddfageecbkcaaGreat

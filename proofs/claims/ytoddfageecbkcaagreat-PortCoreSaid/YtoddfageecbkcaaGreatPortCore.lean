/-
  PROVED: whatever the plan, the room, the calls and the touches, 'switchyardlaw14.PortCore' returns true and does not panic, and each argument reads behind the call as it read before. CONDITIONS: none beyond the row's own.
-/
import Derived.Test.YtoddfageecbkcaaGreatP
namespace Go.Proofs.YtoddfageecbkcaaGreat
open Go Go.ChangeShapes Go.WideShapes Go.ChangeAt Go.RowKit
set_option linter.unusedVariables false
set_option linter.unusedSimpArgs false
set_option maxRecDepth 100000

theorem own : ownKnob Tryz.prog.godebug = none := by kernel_rfl
theorem laidOut : laidOutB Tryz.prog = true := by kernel_rfl

theorem if23 : IntFields Tryz.prog #[{ name := "Cores", type := 3, offset := 0, embedded := false, tag := "", pkgPath := "", byteOffset := 0 }, { name := "Words", type := 3, offset := 1, embedded := false, tag := "", pkgPath := "", byteOffset := 8 }, { name := "Locks", type := 3, offset := 2, embedded := false, tag := "", pkgPath := "", byteOffset := 16 }] 3 :=
  ⟨rfl, fun i hi => match i, hi with
    | 0, _ => ⟨_, rfl, Tryz.underlying3, rfl, by kernel_rfl⟩
    | 1, _ => ⟨_, rfl, Tryz.underlying3, rfl, by kernel_rfl⟩
    | 2, _ => ⟨_, rfl, Tryz.underlying3, rfl, by kernel_rfl⟩⟩
theorem if34 : IntFields Tryz.prog #[{ name := "Kind", type := 3, offset := 0, embedded := false, tag := "", pkgPath := "", byteOffset := 0 }, { name := "Core", type := 3, offset := 1, embedded := false, tag := "", pkgPath := "", byteOffset := 8 }, { name := "Addr", type := 3, offset := 2, embedded := false, tag := "", pkgPath := "", byteOffset := 16 }, { name := "W", type := 3, offset := 3, embedded := false, tag := "", pkgPath := "", byteOffset := 24 }] 4 :=
  ⟨rfl, fun i hi => match i, hi with
    | 0, _ => ⟨_, rfl, Tryz.underlying3, rfl, by kernel_rfl⟩
    | 1, _ => ⟨_, rfl, Tryz.underlying3, rfl, by kernel_rfl⟩
    | 2, _ => ⟨_, rfl, Tryz.underlying3, rfl, by kernel_rfl⟩
    | 3, _ => ⟨_, rfl, Tryz.underlying3, rfl, by kernel_rfl⟩⟩
theorem if41 : IntFields Tryz.prog #[{ name := "Kind", type := 3, offset := 0, embedded := false, tag := "", pkgPath := "", byteOffset := 0 }, { name := "At", type := 3, offset := 1, embedded := false, tag := "", pkgPath := "", byteOffset := 8 }, { name := "Word", type := 3, offset := 2, embedded := false, tag := "", pkgPath := "", byteOffset := 16 }] 3 :=
  ⟨rfl, fun i hi => match i, hi with
    | 0, _ => ⟨_, rfl, Tryz.underlying3, rfl, by kernel_rfl⟩
    | 1, _ => ⟨_, rfl, Tryz.underlying3, rfl, by kernel_rfl⟩
    | 2, _ => ⟨_, rfl, Tryz.underlying3, rfl, by kernel_rfl⟩⟩

theorem pc_walk {x0 x1 x2 x3 x5 : Int} {q4 q6 : Option Addr} {n4 c4 n6 c6 : Nat} {ops : List Op4} {l : List Op3} {W : World} (i0 : i64 x0) (i1 : i64 x1) (i2 : i64 x2) (l4 : ops.length = n4) (s4 : Go.Eng.SlR (fun _ => T0) W.heap T0 q4 (cells4 ops)) (h4 : ∀ p ∈ ops, i64 p.2.2.1)
    (l6 : l.length = n6) (s6 : Go.Eng.SlR (fun _ => T0) W.heap T0 q6 (cells3 l)) (h6 : ∀ p ∈ l, i64 p.2.1) :
    Calls Tryz.prog 3 #[.agg #[.int .i64 x0, .int .i64 x1, .int .i64 x2], .int .i64 x3, .slice q4 n4 c4, .agg #[.int .i64 x5, .slice q6 n6 c6]] W fun e W' => e = .returned (.bool true) ∧ Below W.heap.size W W' := by
  have h := C3 (m := ambOf W) (ow := fun _ => T0) (H := W.heap) (x3 := x3) (x5 := x5) (c4 := c4) (c6 := c6) (K := fun v H' => v = .bool true ∧ ∃ ow', Go.Eng.Upd TS (fun _ => T0) W.heap ow' H') i0 i1 i2 l4 s4 h4 l6 s6 h6 (fun ow' H' u => ⟨rfl, ow', u⟩) W.drawn
  refine Calls.mono h fun e W' ⟨v, H', d', h1, h2, h3, ow', h5⟩ => ?_
  subst h3; subst h2
  exact ⟨h1, below_of TS0 h5⟩

theorem portCore_lifted (os : Os) (started : os.Started) (H : Type) (enc : TypeId × Value → H) :
    ReturnsInHanded {} Tryz.checked os 3 .any (Rows.portCoreSpec.pre6 enc Tryz.prog Tryz.f3 Rows.portCoreRow.domain false) (Rows.portCoreSpec.post enc Tryz.prog Tryz.f3 false true false false) := by
  refine returnsInHanded_of_change (C := Tryz.checked) own started (by kernel_rfl) Tryz.func3
    (ChangeSpec.witness6 (enc := enc) (C := Tryz.checked) false ⟨#[], #[.agg #[.int .i64 0, .int .i64 0, .int .i64 0], .int .i64 0, .slice none 0 0, .agg #[.int .i64 0, .slice none 0 0]], []⟩ 8 (by kernel_rfl) (by kernel_rfl) (by kernel_rfl) (by kernel_rfl)) ?_
  intro W base args ds gs before hval0 hW _ _
  have hval : ∀ (j : Nat) t v, Tryz.f3.params[j]? = some t → args[j]? = some v → Value.okWide Tryz.prog W .any base t v := hval0
  have hW' := hW
  obtain ⟨p, q, hA0, hV, rfl, _, _⟩ := hW
  have hA : DataW.TrodAll enc Tryz.prog W 0 (fun _ => true) true Tryz.f3.params.toList args.toList ds p := hA0
  rw [Tryz.params3] at hA hval
  obtain ⟨v0, vs0, d0, ds0, p0, q0, hargs, rfl, rfl, h0, r0⟩ := trodAll_cons hA
  obtain ⟨v1, vs1, d1, ds1, p1, q1, rfl, rfl, rfl, h1, r1⟩ := trodAll_cons r0
  obtain ⟨v2, vs2, d2, ds2, p2, q2, rfl, rfl, rfl, h2, r2⟩ := trodAll_cons r1
  obtain ⟨v3, vs3, d3, ds3, p3, q3, rfl, rfl, rfl, h3, r3⟩ := trodAll_cons r2
  obtain ⟨rfl, rfl, rfl⟩ := trodAll_nil r3
  obtain rfl : args = #[v0, v1, v2, v3] := Array.toList_inj.1 hargs
  obtain ⟨rfl, rfl⟩ := trodVars_none hV
  have k0 := h0; have k1 := h1; have k2 := h2; have k3 := h3
  obtain ⟨x3, rfl, _, _, wx⟩ := open_int Tryz.underlying3 (hval 1 3 v1 rfl rfl) h1
  obtain ⟨cs0, rfl, z0⟩ := okWide_struct Tryz.underlying23 (hval 0 23 v0 rfl rfl)
  obtain ⟨a2, n2, c2, rfl⟩ := okWide_slice Tryz.underlying24 (hval 2 24 v2 rfl rfl)
  obtain ⟨cs3, rfl, z3⟩ := okWide_struct Tryz.underlying27 (hval 3 27 v3 rfl rfl)
  obtain ⟨f0, h0⟩ := h0
  obtain ⟨f2, h2⟩ := h2
  obtain ⟨f3, h3⟩ := h3
  have h0 : DataW.trod enc Tryz.prog W 0 (fun _ => true) true f0 23 cs0.toList = some (d0, p0) := by simpa [Value.cells] using h0
  have h2 : DataW.trod enc Tryz.prog W 0 (fun _ => true) true f2 24 [.slice a2 n2 c2] = some (d2, p2) := by simpa [Value.cells] using h2
  have h3 : DataW.trod enc Tryz.prog W 0 (fun _ => true) true f3 27 cs3.toList = some (d3, p3) := by simpa [Value.cells] using h3
  obtain ⟨e0, g0⟩ := struct_ints Tryz.underlying23 if23 (by kernel_rfl) h0
  obtain ⟨x0, a0, i0⟩ := g0 0 (by decide)
  obtain ⟨x1, a1, i1⟩ := g0 1 (by decide)
  obtain ⟨x2, a22, i2⟩ := g0 2 (by decide)
  obtain rfl : cs0 = #[.int .i64 x0, .int .i64 x1, .int .i64 x2] := by
    apply Array.toList_inj.1
    match hh : cs0.toList, e0 with
    | [u, v, w], _ =>
      rw [hh] at a0 a1 a22
      cases a0; cases a1; cases a22; rfl
  obtain ⟨y0, y1, m3, _, e3, b0, b1⟩ := trod_struct2 Tryz.underlying27 h3
  have c3 : cs3.toList.length = 2 := e3.trans (by kernel_rfl)
  obtain ⟨u, v, hh⟩ : ∃ u v, cs3.toList = [u, v] := by
    match hh : cs3.toList, c3 with
    | [u, v], _ => exact ⟨u, v, rfl⟩
  obtain rfl : cs3 = #[u, v] := Array.toList_inj.1 hh
  have b0 : DataW.trod enc Tryz.prog W 0 (fun _ => true) true m3 3 [u] = some y0 := by
    have e : Tryz.prog.cellsOf 3 = 1 := by kernel_rfl
    rw [e] at b0; exact b0
  have b1 : DataW.trod enc Tryz.prog W 0 (fun _ => true) true m3 25 [v] = some y1 := by
    have e : Tryz.prog.cellsOf 25 = 1 := by kernel_rfl
    rw [e] at b1; exact b1
  obtain ⟨x5, hu, _, _⟩ := DataW.trod_int Tryz.underlying3 b0
  obtain rfl : u = .int .i64 x5 := by simpa using hu
  have s2 := slice_ints Tryz.underlying24 Tryz.underlying34 if34 (by kernel_rfl) h2
  have s3 := slice_ints Tryz.underlying25 Tryz.underlying41 if41 (by kernel_rfl) b1
  have A2 : (a2 = none ∧ n2 = 0) ∨ ∃ a, a2 = some a ∧ ∀ i, i < n2 → ∀ j, j < 4 → ∃ z, W.cell? ((a.add (i * 4)).add j) = some (Value.int .i64 z) ∧ i64 z := by
    rcases s2 with h | ⟨a, len, cap, h, hc⟩
    · cases h; exact .inl ⟨rfl, rfl⟩
    · cases h; exact .inr ⟨a, rfl, hc⟩
  obtain ⟨a6, n6, c6, rfl, A3⟩ : ∃ a6 n6 c6, v = .slice a6 n6 c6 ∧ ((a6 = none ∧ n6 = 0) ∨ ∃ a, a6 = some a ∧ ∀ i, i < n6 → ∀ j, j < 3 → ∃ z, W.cell? ((a.add (i * 3)).add j) = some (Value.int .i64 z) ∧ i64 z) := by
    rcases s3 with h | ⟨a, len, cap, h, hc⟩
    · exact ⟨none, 0, 0, h, .inl ⟨rfl, rfl⟩⟩
    · exact ⟨some a, len, cap, h, .inr ⟨a, rfl, hc⟩⟩
  obtain ⟨ops, lo, so, io⟩ := ops4 (c := c2) A2
  obtain ⟨l, ll, sl, il⟩ := ops3 (c := c6) A3
  have hlt : ∀ x, x ∈ p0 ∨ x ∈ p1 ∨ x ∈ p2 ∨ x ∈ p3 → x.block < W.heap.size := fun x hx => hW'.lt x (by
    simp only [List.mem_append, List.append_nil]
    rcases hx with h | h | h | h
    · exact .inl h
    · exact .inr (.inl h)
    · exact .inr (.inr (.inl h))
    · exact .inr (.inr (.inr h)))
  refine (pc_walk i0 i1 i2 lo so io ll sl il).mono fun e W' ⟨he, hb⟩ => ?_
  subst he
  refine ⟨_, rfl, _, _, _, [], _, [], hW', trodAll_mk1 (shut_bool Tryz.underlying4 _), trodAll_cons_mk (Below.trod laidOut (by kernel_rfl) (of_decide_eq_true (by kernel_rfl)) k0 hb fun x hx => hlt x (.inl hx))
    (trodAll_cons_mk (Below.trod laidOut (by kernel_rfl) (of_decide_eq_true (by kernel_rfl)) k1 hb fun x hx => hlt x (.inr (.inl hx)))
    (trodAll_cons_mk (Below.trod laidOut (by kernel_rfl) (of_decide_eq_true (by kernel_rfl)) k2 hb fun x hx => hlt x (.inr (.inr (.inl hx))))
    (trodAll_cons_mk (Below.trod laidOut (by kernel_rfl) (of_decide_eq_true (by kernel_rfl)) k3 hb fun x hx => hlt x (.inr (.inr (.inr hx)))) trodAll_mk0))), rfl, hb.frame _, fun h => by cases h⟩

theorem portCore_holds : Rows.PortCoreSaid :=
  OpenClaim.holds_of_wide 3 Tryz.f3 rfl rfl rfl rfl rfl rfl rfl ⟨rfl, rfl, rfl, rfl, rfl⟩ rfl rfl rfl rfl rfl (by kernel_rfl) Tryz.func3 (by kernel_rfl)
    (of_decide_eq_true (by kernel_rfl)) (by unfold Func.isWrapper; first | (rw [if_pos (by decide +kernel)]; kernel_rfl) | (rw [if_neg (by decide +kernel)]; exact ⟨rfl, rfl⟩))
    (fun os started H enc _ => portCore_lifted os started H enc)
#print axioms portCore_holds
end Go.Proofs.YtoddfageecbkcaaGreat

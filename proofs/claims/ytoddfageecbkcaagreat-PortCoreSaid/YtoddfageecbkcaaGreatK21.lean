/-
  CONTRACTS: calls of a soc; touches by a core's port.
-/
import Derived.Test.YtoddfageecbkcaaGreatK20
import Derived.Test.YtoddfageecbkcaaGreatM3
namespace Go.Proofs.YtoddfageecbkcaaGreat
open Go Go.Eng Sy
set_option linter.unusedVariables false
set_option linter.unusedSimpArgs false
set_option maxRecDepth 100000

section
variable {m : Amb} {r : Nat} {ow : Ow} {H : Hp} {K : Value → Hp → Prop} {b pb : Nat} {s : Soc} {id : Int} {τ : Tg}

theorem C6 (hr0 : 0 < r) (hS : SocR r ow H b s) (ok : s.Ok) {kind core addr w : Int} (ha : i64 addr)
    (h : ∀ ow' H', Upd (TSoc r) ow H ow' H' → SocR r ow' H' b (s.op kind core addr w).1 → K (.tuple #[I (s.op kind core addr w).2.1, I (s.op kind core addr w).2.2]) H') : CallsH Tryz.prog m 6 [Pt b, .agg #[I kind, I core, I addr, I w]] H K := by
  refine S6 ?_
  unfold t6
  refine nw_t (ow := ow) T0 ?_
  intro ow1 H1 b1 u1 hb1 g1
  have U1 : Upd (TSoc r) ow H ow1 H1 := u1.mono fun _ h => h.elim
  have hS1 := hS.upd u1 Off.no
  unfold Soc.op at h
  refine ldI_r (x := kind) g1.2 rfl ?_
  by_cases e1 : kind = 1
  · rw [if_pos e1] at h
    refine br_yes (by simpa using e1) (ldI_r (x := core) g1.2 rfl (ldI_r (x := addr) g1.2 rfl (ldI_r (x := w) g1.2 rfl (C10 hr0 hS1 ok ha ?_))))
    intro ow2 H2 u2 S2
    exact ⟨_, rfl, h ow2 H2 (U1.trans u2) S2⟩
  rw [if_neg e1] at h
  refine br_no (by simpa using e1) ?_
  by_cases e2 : kind = 2
  · rw [if_pos e2] at h
    refine br_yes (by simpa using e2) (ldI_r (x := core) g1.2 rfl (C11 hr0 hS1 ok ?_))
    intro ow2 H2 u2 S2
    exact ⟨_, _, rfl, h ow2 H2 (U1.trans u2) S2⟩
  rw [if_neg e2] at h
  refine br_no (by simpa using e2) ?_
  by_cases e3 : kind = 3
  · rw [if_pos e3] at h
    refine br_yes (by simpa using e3) (ldI_r (x := core) g1.2 rfl (C22 hr0 hS1 ok ?_))
    intro ow2 H2 u2 S2
    have hh := h ow2 H2 (U1.trans u2) S2
    cases hd : (s.drain core).2.1 with
    | true => rw [hd] at hh; exact ⟨_, _, rfl, br_t hh⟩
    | false => rw [hd] at hh; exact ⟨_, _, rfl, br_f hh⟩
  rw [if_neg e3] at h
  refine br_no (by simpa using e3) ?_
  by_cases e4 : kind = 4
  · rw [if_pos e4] at h
    refine br_yes (by simpa using e4) (ldI_r (x := core) g1.2 rfl (ldI_r (x := addr) g1.2 rfl (ldI_r (x := w) g1.2 rfl (C23 hr0 hS1 ok ha ?_))))
    intro ow2 H2 u2 S2
    exact ⟨_, _, rfl, h ow2 H2 (U1.trans u2) S2⟩
  rw [if_neg e4] at h
  refine br_no (by simpa using e4) ?_
  by_cases e5 : kind = 5
  · rw [if_pos e5] at h
    refine br_yes (by simpa using e5) (ldI_r (x := core) g1.2 rfl (C24 hr0 hS1 ok ?_))
    intro ow2 H2 u2 S2
    exact ⟨_, rfl, h ow2 H2 (U1.trans u2) S2⟩
  rw [if_neg e5] at h
  refine br_no (by simpa using e5) ?_
  by_cases e6 : kind = 6
  · rw [if_pos e6] at h
    refine br_yes (by simpa using e6) (ldI_r (x := core) g1.2 rfl (C25 hr0 hS1 ok ?_))
    intro ow2 H2 u2 S2
    exact ⟨_, rfl, h ow2 H2 (U1.trans u2) S2⟩
  rw [if_neg e6] at h
  refine br_no (by simpa using e6) (ldI_r (x := core) g1.2 rfl (ldI_r (x := addr) g1.2 rfl (C9 hr0 hS1 ok ha ?_)))
  intro ow2 H2 u2 S2
  exact ⟨_, _, rfl, h ow2 H2 (U1.trans u2) S2⟩

theorem inv_r {P : Program} {v x : Value} {t : TypeId} {name : String} {f : FuncId} {r : Value} {args : List Value} {k : Value → Hp → Prop} (hv : v = .iface t x) (hc : callable P f = true) (hm : ∀ d, (method (P.types.size + Made.depth) t x name).run P (mkW m H d) = .ok (f, r) (mkW m H d)) (h : CallsH P m f (r :: args) H k) : inv P m v name args H k := ⟨t, x, f, r, hv, hc, hm, h⟩

theorem ICload {q : Option Addr} {args : List Value} (h : CallsH Tryz.prog m 149 (.pointer q :: args) H K) : inv Tryz.prog m (.iface 38 (.pointer q)) "Load" args H K :=
  inv_r rfl (by kernel_rfl) (fun d => by kernel_rfl) h
theorem ICepoch {q : Option Addr} {args : List Value} (h : CallsH Tryz.prog m 146 (.pointer q :: args) H K) : inv Tryz.prog m (.iface 38 (.pointer q)) "Epoch" args H K :=
  inv_r rfl (by kernel_rfl) (fun d => by kernel_rfl) h
theorem ICstore {q : Option Addr} {args : List Value} (h : CallsH Tryz.prog m 150 (.pointer q :: args) H K) : inv Tryz.prog m (.iface 38 (.pointer q)) "Store" args H K :=
  inv_r rfl (by kernel_rfl) (fun d => by kernel_rfl) h
theorem ICfence {q : Option Addr} {args : List Value} (h : CallsH Tryz.prog m 147 (.pointer q :: args) H K) : inv Tryz.prog m (.iface 38 (.pointer q)) "Fence" args H K :=
  inv_r rfl (by kernel_rfl) (fun d => by kernel_rfl) h
theorem ICkick {q : Option Addr} {args : List Value} (h : CallsH Tryz.prog m 148 (.pointer q :: args) H K) : inv Tryz.prog m (.iface 38 (.pointer q)) "Kick" args H K :=
  inv_r rfl (by kernel_rfl) (fun d => by kernel_rfl) h

/-- A touch by its numbers. -/
def tch (kind a w : Int) : Option Sy.Touch :=
  if kind = 1 then some (.ld a) else if kind = 2 then some (.st a w) else if kind = 3 then some .fence else if kind = 4 then some (.ep a) else if kind = 5 then some (.kick a) else none
def doT (s : Soc) (id : Int) : Option Sy.Touch → Soc × Int
  | none => (s, 0)
  | some t => s.touch id t

theorem touch_st {a w : Int} : (s.touch id (.st a w)).2 = 0 := by unfold Soc.touch; simp only; split <;> rfl
theorem touch_kick {a : Int} : (s.touch id (.kick a)).2 = 0 := by unfold Soc.touch; simp only; split <;> rfl

theorem C12 (hr0 : 0 < r) (hp : Has ow H τ pb [Pt b, I id]) (hS : SocR r ow H b s) (ok : s.Ok) {kind a w : Int}
    (h : ∀ ow' H', Upd (TSoc r) ow H ow' H' → SocR r ow' H' b (doT s id (tch kind a w)).1 → K (I (doT s id (tch kind a w)).2) H') : CallsH Tryz.prog m 12 [.iface 38 (Pt pb), .agg #[I kind, I a, I w]] H K := by
  refine S12 ?_
  unfold t12
  refine nw_t (ow := ow) T0 ?_
  intro ow1 H1 b1 u1 hb1 g1
  have U1 : Upd (TSoc r) ow H ow1 H1 := u1.mono fun _ h => h.elim
  have hS1 := hS.upd u1 Off.no
  have hp1 := hp.upd u1 (fun x => x)
  unfold tch at h
  refine ldI_r (x := kind) g1.2 rfl ?_
  by_cases e1 : kind = 1
  · simp only [if_pos e1, doT] at h
    refine br_yes (by simpa using e1) (ldI_r (x := a) g1.2 rfl (ICload (C149 hr0 hp1 hS1 ok ?_)))
    intro ow2 H2 u2 S2
    exact ⟨_, rfl, h ow2 H2 (U1.trans u2) S2⟩
  simp only [if_neg e1] at h
  refine br_no (by simpa using e1) ?_
  by_cases e2 : kind = 2
  · simp only [if_pos e2, doT, touch_st] at h
    refine br_yes (by simpa using e2) (ldI_r (x := a) g1.2 rfl (ldI_r (x := w) g1.2 rfl (ICstore (C150 hr0 hp1 hS1 ok ?_))))
    intro ow2 H2 u2 S2
    exact ⟨rfl, h ow2 H2 (U1.trans u2) S2⟩
  simp only [if_neg e2] at h
  refine br_no (by simpa using e2) ?_
  by_cases e3 : kind = 3
  · simp only [if_pos e3, doT] at h
    refine br_yes (by simpa using e3) (ICfence (C147 hr0 hp1 hS1 ok ?_))
    intro ow2 H2 u2 S2
    exact ⟨rfl, h ow2 H2 (U1.trans u2) S2⟩
  simp only [if_neg e3] at h
  refine br_no (by simpa using e3) ?_
  by_cases e4 : kind = 4
  · simp only [if_pos e4, doT] at h
    refine br_yes (by simpa using e4) (ldI_r (x := a) g1.2 rfl (ICepoch (C146 hr0 hp1 hS1 ok ?_)))
    intro ow2 H2 u2 S2
    exact ⟨_, rfl, h ow2 H2 (U1.trans u2) S2⟩
  simp only [if_neg e4] at h
  refine br_no (by simpa using e4) ?_
  by_cases e5 : kind = 5
  · simp only [if_pos e5, doT, touch_kick] at h
    refine br_yes (by simpa using e5) (ldI_r (x := a) g1.2 rfl (ICkick (C148 hr0 hp1 hS1 ok ?_)))
    intro ow2 H2 u2 S2
    exact ⟨rfl, h ow2 H2 (U1.trans u2) S2⟩
  simp only [if_neg e5, doT] at h
  exact br_no (by simpa using e5) (h ow1 H1 U1 hS1)

theorem C8 (h : ∀ ow' H' b', Upd Tno ow H ow' H' → Has ow' H' T0 b' [Pt b, I id] → K (Pt b') H') : CallsH Tryz.prog m 8 [Pt b, I id] H K := by
  refine S8 ?_
  unfold t8
  refine nw_t (ow := ow) T0 ?_
  intro ow1 H1 b1 u1 hb1 g1
  exact h ow1 H1 b1 u1 g1
end
end Go.Proofs.YtoddfageecbkcaaGreat

/-
  CONTRACTS: the taker's further steps.
-/
import Derived.Test.YtdipbhbhakmaiaaDoorK6
namespace Go.Proofs.YtdipbhbhakmaiaaDoor
open Go Go.Eng
set_option linter.unusedVariables false
set_option linter.unusedSimpArgs false
set_option maxRecDepth 100000

def Tb.clear (t : Tb) : Tb := { t with held := List.replicate 64 false }
theorem Tb.clear_ok {t : Tb} (h : t.ok) : t.clear.ok := ⟨h.n1, h.n64, h.gl, List.length_replicate, h.gw⟩

theorem setAll (X Y : List Value) (v : Value) : ∀ n, n ≤ Y.length → (List.range n).foldl (fun cs i => cs.set (X.length + i) v) (X ++ Y) = X ++ (List.replicate n v ++ Y.drop n) := by
  intro n
  induction n with
  | zero => intro _; simp
  | succ n ih =>
    intro hn
    rw [List.range_succ, List.foldl_append, ih (by omega)]
    simp only [List.foldl_cons, List.foldl_nil]
    rw [List.set_append_right _ _ (by omega), Nat.add_sub_cancel_left, List.set_append_right _ _ (by simp)]
    rw [List.length_replicate, Nat.sub_self, List.drop_eq_getElem_cons (by omega), List.set_cons_zero, List.replicate_succ', List.append_assoc]
    rfl

theorem Tb.clear_cells {t : Tb} (h : t.ok) : (List.range 64).foldl (fun cs i => cs.set (65 + i) (.bool false)) t.cells = t.clear.cells := by
  have e : t.cells = (I t.n :: t.gens.map I) ++ t.held.map B := rfl
  have hl : (I t.n :: t.gens.map I).length = 65 := by simp [h.gl]
  have := setAll (I t.n :: t.gens.map I) (t.held.map B) (.bool false) 64 (by simp [h.hl])
  rw [hl] at this
  rw [e, this, List.drop_eq_nil_of_le (by simp [h.hl])]
  simp [Tb.clear, Tb.cells]

theorem st_65 {H : Hp} {b j : Nat} {cs : List Value} {v : Value} {k : Hp → Prop} (h : cells H b = some cs) (h1 : v.oneCell' = true) (ho : 65 + j < cs.length) (hk : ∀ H', But (fun x => x = b) H H' → cells H' b = some (cs.set (65 + j) v) → k H') : st H (((⟨b, 0, none⟩ : Addr).add 65).add j) v k := by
  rw [add_mk, add_mk, Nat.zero_add]
  exact st_s h h1 ho fun H' b1 _ c1 => hk H' b1 c1

section
variable {m : Amb} {H : Hp} {K : Value → Hp → Prop}

def clr (b : Nat) (v : Value) (k : Hp → Prop) : Nat → Nat → Hp → Prop
  | 0, _, A => k A
  | n + 1, i, A => st A (((⟨b, 0, none⟩ : Addr).add 65).add i) v (fun A' => clr b v k n (i + 1) A')

theorem clr_r {b : Nat} {v : Value} {k : Hp → Prop} (h1 : v.oneCell' = true) : ∀ (n i : Nat) (A : Hp) (cs : List Value), cells A b = some cs → 65 + i + n ≤ cs.length → (∀ A', But (fun x => x = b) A A' → cells A' b = some ((List.range' i n).foldl (fun c j => c.set (65 + j) v) cs) → k A') → clr b v k n i A
  | 0, _, A, cs, hc, _, hk => hk A (But.refl _ _) hc
  | n + 1, i, A, cs, hc, hl, hk => by
    refine st_65 hc h1 (by omega) fun A' b1 c1 => ?_
    refine clr_r h1 n (i + 1) A' _ c1 (by rw [List.length_set]; omega) fun A'' b2 c2 => ?_
    exact hk A'' (b1.trans b2) c2

theorem C71 {b : Nat} {t : Tb} (ho : t.ok) (hT : cells H b = some t.cells) (h : ∀ n H', But (fun x => x = b) H H' → cells H' b = some t.clear.cells → K (I n) H') : CallsH Tryd.prog m 71 [.pointer (at0 b)] H K := by
  refine S71 ?_
  refine C45 ho hT ?_
  intro q c H1 e1 _
  refine ⟨_, _, _, rfl, br_t (nn_r ?_)⟩
  have hx : clr b (.bool false) (fun A => K (I (t.heldL.length : Int)) A) 64 0 H1 := by
    refine clr_r rfl 64 0 H1 _ (e1.cells hT) (by rw [Tb.cells_len ho]; decide) fun A' b1 c1 => ?_
    refine h _ A' ((But.of_ext e1).trans b1) ?_
    rw [c1, ← List.range_eq_range', Tb.clear_cells ho]
  exact hx

def Tk.first (t : Tk) : Tk := { t with linked := false, head := 0, used := 0, st := 0, lp := none, ln := 0, lc := 0, got := 0 }

theorem C41 {bt : Nat} {t : Tk} {g : Tb} (ho : g.ok) (hne : t.tb ≠ bt) (hT : cells H bt = some t.cells) (hG : cells H t.tb = some g.cells)
    (h : ∀ H', But (fun x => x = bt ∨ x = t.tb) H H' → cells H' bt = some t.first.cells → cells H' t.tb = some g.clear.cells → K (.tuple #[]) H') : CallsH Tryd.prog m 41 [.pointer (at0 bt)] H K := by
  refine S41 ?_
  refine nn_r (st_s hT rfl (by simp [Tk.cells]) fun H1 b1 _ c1 => ?_)
  refine nn_r (st_s c1 rfl (by simp [Tk.cells]) fun H2 b2 _ c2 => ?_)
  refine nn_r (st_s c2 rfl (by simp [Tk.cells]) fun H3 b3 _ c3 => ?_)
  refine nn_r (st_s c3 rfl (by simp [Tk.cells]) fun H4 b4 _ c4 => ?_)
  refine nn_r (st_s c4 rfl (by simp [Tk.cells]) fun H5 b5 _ c5 => ?_)
  refine nn_r (st_s c5 rfl (by simp [Tk.cells]) fun H6 b6 _ c6 => ?_)
  refine nn_r (ldP_r (x := at0 t.tb) c6 rfl ?_)
  have bb := ((((b1.trans b2).trans b3).trans b4).trans b5).trans b6
  refine C71 ho (bb.cells hne hG) ?_
  intro n H7 b7 c7
  refine ⟨_, rfl, h H7 ?_ ?_ c7⟩
  · exact (bb.mono fun x hx => .inl (.inl hx)).trans (b7.mono fun x hx => .inl (.inr hx))
  · exact b7.cells (fun h => hne h.symm) c6

theorem C89s (gl : Gl H) {base ring f s : Int} (hb : 0 ≤ base ∧ base < 65536) (hr : ring ≤ 64) (hf : f = 5 ∨ f = 6 ∨ f = 7) (hs : 0 ≤ s ∧ s < ring) (h : ∀ H', Ext H H' → K (.tuple #[I (base + 4 + (f - 5) * ring + s), B true]) H') : CallsH Tryd.prog m 89 [.agg #[I base, I ring], I f, I s, I 0] H K := by
  refine S89 ?_
  unfold t89
  refine nw_r ?_
  rintro _ H1 e1 rfl hz hc
  refine br_no (by simp; omega) (br_no (by simp; omega) (br_no (by simp; omega) (br_no (by simp) (br_no (by simp) (br_no (by simp; omega) ?_)))))
  refine br_no (by simp; omega) (ldI_r (x := ring) hc rfl (br_no (by simp; omega) (ldI_r (x := base) hc rfl ⟨⟨by omega, by omega⟩, ?_⟩)))
  have h2 := h H1 e1
  have e2 : wr .i64 (base + 4) = base + 4 := wr_i64 (by omega) (by omega)
  have e3 : wr .i64 (1 * s) = s := by rw [Int.one_mul]; exact wr_i64 (by omega) (by omega)
  rcases hf with rfl | rfl | rfl
  · refine ldI_o (v := 0) (o := 0) (gl.ext e1).ahead rfl (ldI_r (x := ring) hc rfl ?_)
    have e4 : wr .i64 (0 * ring) = 0 := by rw [Int.zero_mul]; decide
    have e5 : wr .i64 (base + 4 + 0) = base + 4 := wr_i64 (n := base + 4 + 0) (by omega) (by omega) |>.trans (by omega)
    have e6 : wr .i64 (base + 4 + s) = base + 4 + s := wr_i64 (by omega) (by omega)
    have e7 : wr .i64 (base + 4 + s + 0) = base + 4 + s := wr_i64 (n := base + 4 + s + 0) (by omega) (by omega) |>.trans (by omega)
    rw [e2, e3, e4, e5, e6, e7]
    rw [show base + 4 + (5 - 5) * ring + s = base + 4 + s by omega] at h2; exact h2
  · refine ldI_o (v := 1) (o := 0) (gl.ext e1).ahead rfl (ldI_r (x := ring) hc rfl ?_)
    have e4 : wr .i64 (1 * ring) = ring := by rw [Int.one_mul]; exact wr_i64 (by omega) (by omega)
    have e5 : wr .i64 (base + 4 + ring) = base + 4 + ring := wr_i64 (by omega) (by omega)
    have e6 : wr .i64 (base + 4 + ring + s) = base + 4 + ring + s := wr_i64 (by omega) (by omega)
    have e7 : wr .i64 (base + 4 + ring + s + 0) = base + 4 + ring + s := wr_i64 (n := base + 4 + ring + s + 0) (by omega) (by omega) |>.trans (by omega)
    rw [e2, e3, e4, e5, e6, e7]
    rw [show base + 4 + (6 - 5) * ring + s = base + 4 + ring + s by omega] at h2; exact h2
  · refine ldI_o (v := 2) (o := 0) (gl.ext e1).ahead rfl (ldI_r (x := ring) hc rfl ?_)
    have e4 : wr .i64 (2 * ring) = 2 * ring := wr_i64 (by omega) (by omega)
    have e5 : wr .i64 (base + 4 + 2 * ring) = base + 4 + 2 * ring := wr_i64 (by omega) (by omega)
    have e6 : wr .i64 (base + 4 + 2 * ring + s) = base + 4 + 2 * ring + s := wr_i64 (by omega) (by omega)
    have e7 : wr .i64 (base + 4 + 2 * ring + s + 0) = base + 4 + 2 * ring + s := wr_i64 (n := base + 4 + 2 * ring + s + 0) (by omega) (by omega) |>.trans (by omega)
    rw [e2, e3, e4, e5, e6, e7]
    rw [show base + 4 + (7 - 5) * ring + s = base + 4 + 2 * ring + s by omega] at h2; exact h2

theorem C69s {bt : Nat} {t : Tk} {f s : Int} (gl : Gl H) (hT : cells H bt = some t.cells) (hb : 0 ≤ t.base ∧ t.base < 65536) (hr : t.ring ≤ 64) (hf : f = 5 ∨ f = 6 ∨ f = 7) (hs : 0 ≤ s ∧ s < t.ring) (h : ∀ H', Ext H H' → K (I (t.base + 4 + (f - 5) * t.ring + s)) H') : CallsH Tryd.prog m 69 [.pointer (at0 bt), I f, I s, I 0] H K := by
  refine S69 ?_
  refine nn_r (ldI_r (x := t.base) hT rfl (ldI_r (x := t.ring) hT rfl (C89s gl hb hr hf hs ?_)))
  intro H' e
  exact ⟨_, _, rfl, h H' e⟩

/-- What a port is. -/
def IsP (v : Value) : Prop := ∃ q, v = .iface 72 (.pointer q) ∨ v = .iface 26 (.pointer q)
theorem IsP.nm {v : Value} (hv : IsP v) {name : String} (hn : name = "Load" ∨ name = "Epoch" ∨ name = "Store" ∨ name = "Fence") {k : Prop} (hk : k) : nmv Tryd.prog v name k := by
  obtain ⟨q, rfl | rfl⟩ := hv <;> rcases hn with rfl | rfl | rfl | rfl <;> exact ⟨⟨_, _, rfl, fun w => by kernel_rfl⟩, hk⟩

theorem inv_mono {P : Program} {v : Value} {name : String} {args : List Value} {k k' : Value → Hp → Prop} (h : inv P m v name args H k) (hk : ∀ w H', k w H' → k' w H') : inv P m v name args H k' := by
  obtain ⟨tt, x, f, r, e1, e2, e3, e4⟩ := h
  exact ⟨tt, x, f, r, e1, e2, e3, e4.mono hk⟩

theorem C39_slot {bt : Nat} {t : Tk} {v : Value} (gl : Gl H) (hT : cells H bt = some t.cells) (hb : 0 ≤ t.base ∧ t.base < 65536) (hr : 1 ≤ t.ring ∧ t.ring ≤ 64) (hh : 0 ≤ t.head) (hs : t.st = 7) (hv : IsP v)
    (h : ∀ H', Ext H H' → inv Tryd.prog m v "Load" [I (t.base + 4 + t.head % t.ring)] H' (fun w H' => ∃ i, w = I i ∧ K (I i) H')) : CallsH Tryd.prog m 39 [.pointer (at0 bt), v] H K := by
  refine S39 ?_
  refine nn_r (ldI_r (x := t.st) hT rfl ?_)
  refine br_no (by simp [hs]) (br_no (by simp [hs]) (br_no (by simp [hs]) (br_no (by simp [hs]) (br_yes (by simp [hs]) ?_))))
  refine nn_r (ldI_r (x := t.head) hT rfl (nn_r (ldI_r (x := t.ring) hT rfl (must_r (by omega) (hv.nm (.inl rfl) ?_)))))
  have e : t.head.tmod t.ring = t.head % t.ring := Int.tmod_eq_emod_of_nonneg hh
  rw [e]
  have hm := Int.emod_nonneg t.head (show t.ring ≠ 0 by omega)
  have hm2 := Int.emod_lt_of_pos t.head (show 0 < t.ring by omega)
  refine C69s gl hT hb hr.2 (.inl rfl) ⟨hm, hm2⟩ ?_
  intro H' e'
  refine ⟨_, rfl, ?_⟩
  have h2 := h H' e'
  rw [show t.base + 4 + (5 - 5) * t.ring + t.head % t.ring = t.base + 4 + t.head % t.ring by omega]; exact h2

theorem C39_size {bt : Nat} {t : Tk} {v : Value} (gl : Gl H) (hT : cells H bt = some t.cells) (hb : 0 ≤ t.base ∧ t.base < 65536) (hr : 1 ≤ t.ring ∧ t.ring ≤ 64) (hd : 0 ≤ t.d ∧ t.d < t.ring) (hs : t.st = 8) (hv : IsP v)
    (h : ∀ H', Ext H H' → inv Tryd.prog m v "Load" [I (t.base + 4 + 2 * t.ring + t.d)] H' (fun w H' => ∃ i, w = I i ∧ K (I i) H')) : CallsH Tryd.prog m 39 [.pointer (at0 bt), v] H K := by
  refine S39 ?_
  refine nn_r (ldI_r (x := t.st) hT rfl ?_)
  refine br_no (by simp [hs]) (br_no (by simp [hs]) (br_no (by simp [hs]) (br_no (by simp [hs]) (br_no (by simp [hs]) (br_yes (by simp [hs]) ?_)))))
  refine nn_r (ldI_r (x := t.d) hT rfl (hv.nm (.inl rfl) ?_))
  refine C69s gl hT hb hr.2 (.inr (.inr rfl)) hd ?_
  intro H' e'
  refine ⟨_, rfl, ?_⟩
  have h2 := h H' e'
  rw [show t.base + 4 + (7 - 5) * t.ring + t.d = t.base + 4 + 2 * t.ring + t.d by omega]; exact h2

/-- Is there a message? -/
def waits (t : Tk) (g : Tb) (w : Int) : Int := if (w - t.head) % 65536 = 0 then 6 else if (w - t.head) % 65536 > t.ring - g.heldL.length then 10 else 0

theorem C43 {bt : Nat} {t : Tk} {g : Tb} {w : Int} (ho : g.ok) (hr : 1 ≤ t.ring ∧ t.ring ≤ 64) (hT : cells H bt = some t.cells) (hG : cells H t.tb = some g.cells) (h : ∀ H', Ext H H' → K (I (waits t g w)) H') : CallsH Tryd.prog m 43 [.pointer (at0 bt), I w] H K := by
  refine S43 ?_
  refine nn_r (ldI_r (x := t.head) hT rfl (C72 ⟨_, rfl, ?_⟩))
  unfold waits at h
  by_cases h0 : (w - t.head) % 65536 = 0
  · rw [if_pos h0] at h; exact br_yes (by rw [h0]; rfl) (h H (Ext.refl _))
  · rw [if_neg h0] at h
    refine br_no (by simpa using h0) (nn_r (ldI_r (x := t.ring) hT rfl (nn_r (ldP_r (x := at0 t.tb) hT rfl (C45 ho hG ?_)))))
    intro q c H1 e1 _
    refine ⟨_, _, _, rfl, must_r (cont_r (e1.cells hT) rfl) ?_⟩
    have hl := Tb.upto_len g g.n.toNat
    have hn64 := ho.n64
    have hle : (g.heldL.length : Int) ≤ 64 := by have : g.heldL.length ≤ g.n.toNat := hl; omega
    rw [wr_i64 (by omega) (by omega)]
    by_cases h1 : (w - t.head) % 65536 > t.ring - g.heldL.length
    · rw [if_pos h1] at h; exact br_yes (by simpa using h1) (h H1 e1)
    · rw [if_neg h1] at h; exact br_no (by simpa using h1) (h H1 e1)

theorem C6_look {bt : Nat} {t : Tk} {g : Tb} {v : Value} (ho : g.ok) (hr : 1 ≤ t.ring ∧ t.ring ≤ 64) (hT : cells H bt = some t.cells) (hb : 0 ≤ t.base ∧ t.base < 65536) (hs : t.st = 6) (hv : IsP v)
    (h : ∀ H', Ext H H' → inv Tryd.prog m v "Load" [I (t.base + 2)] H' (fun w H' => ∃ i, w = I i ∧ cells H' bt = some t.cells ∧ cells H' t.tb = some g.cells ∧ ∀ H'', But (fun x => x = bt) H' H'' →
      cells H'' bt = some { t with answer := waits t g i, st := if waits t g i = 0 then 7 else 14 }.cells → K (.tuple #[B false, I 0]) H'')) : CallsH Tryd.prog m 6 [.pointer (at0 bt), v] H K := by
  refine S6 ?_
  refine br_f (nn_r (ldI_r (x := t.st) hT rfl (br_no (by simp [hs]) (C39_look hT hb hs hv ?_))))
  intro H0 e0
  refine inv_mono (h H0 e0) ?_
  rintro w H1 ⟨i, rfl, h1, hg1, h2⟩
  refine ⟨i, rfl, i, rfl, nn_r (ldI_r (x := t.st) h1 rfl (br_no (by simp [hs]) (br_no (by simp [hs]) (br_no (by simp [hs]) (br_yes (by simp [hs]) (C43 ho hr h1 hg1 ?_))))))⟩
  intro H2 e2
  refine ⟨_, rfl, ?_⟩
  refine nn_r (st_s (e2.cells h1) rfl (by simp [Tk.cells]) fun H3 b3 _ c3 => nn_r (ldI_r (x := waits t g i) c3 rfl ?_))
  by_cases hw : waits t g i = 0
  · refine br_no (by simp [hw]) (nn_r (st_s c3 rfl (by simp [Tk.cells]) fun H4 b4 _ c4 => ?_))
    refine h2 H4 ((But.of_ext e2).trans (b3.trans b4)) ?_
    rw [if_pos hw]; exact c4
  · refine br_yes (by simp [hw]) (nn_r (st_s c3 rfl (by simp [Tk.cells]) fun H4 b4 _ c4 => ?_))
    refine h2 H4 ((But.of_ext e2).trans (b3.trans b4)) ?_
    rw [if_neg hw]; exact c4

def Tk.slotted (t : Tk) (g : Tb) (i : Int) : Tk := if i ≥ t.ring ∨ i ∈ g.heldL then { t with answer := 10, st := 14 } else { t with d := i, st := 8 }

theorem C6_slot {bt : Nat} {t : Tk} {g : Tb} {v : Value} (gl : Gl H) (ho : g.ok) (hr : 1 ≤ t.ring ∧ t.ring ≤ 64) (hh : 0 ≤ t.head) (hT : cells H bt = some t.cells) (hb : 0 ≤ t.base ∧ t.base < 65536) (hs : t.st = 7) (hv : IsP v)
    (h : ∀ H', Ext H H' → inv Tryd.prog m v "Load" [I (t.base + 4 + t.head % t.ring)] H' (fun w H' => ∃ i, w = I i ∧ cells H' bt = some t.cells ∧ cells H' t.tb = some g.cells ∧ ∀ H'', But (fun x => x = bt) H' H'' →
      cells H'' bt = some (t.slotted g i).cells → K (.tuple #[B false, I 0]) H'')) : CallsH Tryd.prog m 6 [.pointer (at0 bt), v] H K := by
  refine S6 ?_
  refine br_f (nn_r (ldI_r (x := t.st) hT rfl (br_no (by simp [hs]) (C39_slot gl hT hb hr hh hs hv ?_))))
  intro H0 e0
  refine inv_mono (h H0 e0) ?_
  rintro w H1 ⟨i, rfl, h1, hg1, h2⟩
  refine ⟨i, rfl, i, rfl, nn_r (ldI_r (x := t.st) h1 rfl (br_no (by simp [hs]) (br_no (by simp [hs]) (br_no (by simp [hs]) (br_no (by simp [hs]) (br_yes (by simp [hs]) (nn_r (ldI_r (x := t.ring) h1 rfl ?_))))))))⟩
  unfold Tk.slotted at h2
  by_cases hge : i ≥ t.ring
  · rw [if_pos (.inl hge)] at h2
    refine br_yes (by simpa using hge) (nn_r (st_s h1 rfl (by simp [Tk.cells]) fun H3 b3 _ c3 => nn_r (st_s c3 rfl (by simp [Tk.cells]) fun H4 b4 _ c4 => ?_)))
    exact h2 H4 (b3.trans b4) c4
  · refine br_no (by simpa using hge) (nn_r (ldP_r (x := at0 t.tb) h1 rfl (C45 ho hg1 ?_)))
    intro q c H2 e2 s2
    have hl : g.heldL.length ≤ 64 := by have := Tb.upto_len g g.n.toNat; have h64 := ho.n64; have : g.heldL.length ≤ g.n.toNat := this; omega
    refine ⟨_, _, _, rfl, C44 s2 (by omega) ⟨_, rfl, ?_⟩⟩
    by_cases hin : i ∈ g.heldL
    · rw [if_pos (.inr hin)] at h2
      refine br_yes (by simpa using hin) (nn_r (st_s (e2.cells h1) rfl (by simp [Tk.cells]) fun H3 b3 _ c3 => nn_r (st_s c3 rfl (by simp [Tk.cells]) fun H4 b4 _ c4 => ?_)))
      exact h2 H4 ((But.of_ext e2).trans (b3.trans b4)) c4
    · rw [if_neg (by rintro (h | h); exact hge h; exact hin h)] at h2
      refine br_no (by simpa using hin) (nn_r (st_s (e2.cells h1) rfl (by simp [Tk.cells]) fun H3 b3 _ c3 => nn_r (st_s c3 rfl (by simp [Tk.cells]) fun H4 b4 _ c4 => ?_)))
      exact h2 H4 ((But.of_ext e2).trans (b3.trans b4)) c4

def Tk.sized (t : Tk) (i : Int) : Tk := if i > 8 then { t with answer := 10, st := 14 } else if (t.ln : Int) < i then { t with many := i, st := 9, answer := 0 } else { t with many := i, st := 14, answer := 0 }

theorem C6_size {bt : Nat} {t : Tk} {v : Value} (gl : Gl H) (hr : 1 ≤ t.ring ∧ t.ring ≤ 64) (hd : 0 ≤ t.d ∧ t.d < t.ring) (hT : cells H bt = some t.cells) (hb : 0 ≤ t.base ∧ t.base < 65536) (hs : t.st = 8) (hv : IsP v)
    (h : ∀ H', Ext H H' → inv Tryd.prog m v "Load" [I (t.base + 4 + 2 * t.ring + t.d)] H' (fun w H' => ∃ i, w = I i ∧ cells H' bt = some t.cells ∧ ∀ H'', But (fun x => x = bt) H' H'' →
      cells H'' bt = some (t.sized i).cells → K (.tuple #[B false, I 0]) H'')) : CallsH Tryd.prog m 6 [.pointer (at0 bt), v] H K := by
  refine S6 ?_
  refine br_f (nn_r (ldI_r (x := t.st) hT rfl (br_no (by simp [hs]) (C39_size gl hT hb hr hd hs hv ?_))))
  intro H0 e0
  refine inv_mono (h H0 e0) ?_
  rintro w H1 ⟨i, rfl, h1, h2⟩
  refine ⟨i, rfl, i, rfl, nn_r (ldI_r (x := t.st) h1 rfl (br_no (by simp [hs]) (br_no (by simp [hs]) (br_no (by simp [hs]) (br_no (by simp [hs]) (br_no (by simp [hs]) (br_yes (by simp [hs]) ?_)))))))⟩
  unfold Tk.sized at h2
  by_cases hge : i > 8
  · rw [if_pos hge] at h2
    refine br_yes (by simpa using hge) (nn_r (st_s h1 rfl (by simp [Tk.cells]) fun H3 b3 _ c3 => nn_r (st_s c3 rfl (by simp [Tk.cells]) fun H4 b4 _ c4 => ?_)))
    exact h2 H4 (b3.trans b4) c4
  · rw [if_neg hge] at h2
    refine br_no (by simpa using hge) (nn_r (st_s h1 rfl (by simp [Tk.cells]) fun H3 b3 _ c3 => nn_r (st_s c3 rfl (by simp [Tk.cells]) fun H4 b4 _ c4 => nn_r (st_s c4 rfl (by simp [Tk.cells]) fun H5 b5 _ c5 => ?_))))
    refine nn_r (ldS_r (q := t.lp) (n := t.ln) (c := t.lc) c5 rfl (nn_r (ldI_r (x := i) c5 rfl ?_)))
    by_cases hlt : (t.ln : Int) < i
    · rw [if_pos hlt] at h2
      refine br_yes (by simpa using hlt) ?_
      exact h2 H5 (b3.trans (b4.trans b5)) c5
    · rw [if_neg hlt] at h2
      refine br_no (by simpa using hlt) (nn_r (st_s c5 rfl (by simp [Tk.cells]) fun H6 b6 _ c6 => ?_))
      exact h2 H6 (b3.trans (b4.trans (b5.trans b6))) c6
end
end Go.Proofs.YtdipbhbhakmaiaaDoor

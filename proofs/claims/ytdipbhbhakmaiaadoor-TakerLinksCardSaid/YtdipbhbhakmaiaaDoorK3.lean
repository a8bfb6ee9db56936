/-
  CONTRACTS: the taker's touches and steps.
-/
import Derived.Test.YtdipbhbhakmaiaaDoorK2
namespace Go.Proofs.YtdipbhbhakmaiaaDoor
open Go Go.Eng
set_option linter.unusedVariables false
set_option linter.unusedSimpArgs false
set_option maxRecDepth 100000

section
variable {m : Amb} {H : Hp} {K : Value → Hp → Prop}

theorem C89 {base ring f : Int} (hb : 0 ≤ base ∧ base < 65536) (hf : 1 ≤ f ∧ f < 5) (h : ∀ H', Ext H H' → K (.tuple #[I (base + f - 1), B true]) H') : CallsH Tryd.prog m 89 [.agg #[I base, I ring], I f, I 0, I 0] H K := by
  refine S89 ?_
  unfold t89
  refine nw_r ?_
  rintro _ H1 e1 rfl hz hc
  refine br_no (by simp; omega) (br_no (by simp; omega) (br_no (by simp; omega) (br_no (by simp) (br_no (by simp) (br_yes (by simp; omega) ?_)))))
  refine ldI_r (x := base) hc rfl (C93 ⟨_, rfl, cont_r hc rfl, ?_⟩)
  have h2 := h H1 e1
  have e2 : wr .i64 (base + f) = base + f := wr_i64 (by omega) (by omega)
  have e3 : wr .i64 (base + f - 1) = base + f - 1 := wr_i64 (by omega) (by omega)
  rw [e2, e3]
  show K (.tuple #[I (wr .i64 ((base + f - 1) * 1)), B true]) H1
  rw [Int.mul_one, wr_i64 (by omega) (by omega)]
  exact h2

theorem C69 {bt : Nat} {t : Tk} {f : Int} (hT : cells H bt = some t.cells) (hb : 0 ≤ t.base ∧ t.base < 65536) (hf : 1 ≤ f ∧ f < 5) (h : ∀ H', Ext H H' → K (I (t.base + f - 1)) H') : CallsH Tryd.prog m 69 [.pointer (at0 bt), I f, I 0, I 0] H K := by
  refine S69 ?_
  refine nn_r (ldI_r (x := t.base) hT rfl (ldI_r (x := t.ring) hT rfl (C89 hb hf ?_)))
  intro H' e
  exact ⟨_, _, rfl, h H' e⟩

theorem C42 {bt : Nat} {t : Tk} (hT : cells H bt = some t.cells) (h : K (I ((t.own + t.known) % 65536)) H) : CallsH Tryd.prog m 42 [.pointer (at0 bt)] H K := by
  refine S42 ?_
  exact nn_r (ldI_r (x := t.own) hT rfl (nn_r (ldI_r (x := t.known) hT rfl (C70 ⟨_, rfl, h⟩))))

def Tk.asked (t : Tk) (w : Int) : Tk := if w ≠ t.known then { t with known := w } else t
def Tk.next (t : Tk) (w : Int) : Int := if w ≠ t.known then 2 else if t.linked = false then 5 else if t.back then 10 else 6

theorem C40 {bt : Nat} {t : Tk} {w : Int} (hT : cells H bt = some t.cells) (h : ∀ H', But (fun x => x = bt) H H' → cells H' bt = some (t.asked w).cells → K (I (t.next w)) H') : CallsH Tryd.prog m 40 [.pointer (at0 bt), I w] H K := by
  refine S40 ?_
  refine nn_r (ldI_r (x := t.known) hT rfl ?_)
  unfold Tk.asked Tk.next at h
  by_cases h0 : w = t.known
  · simp only [h0, ne_eq, not_true_eq_false, if_false] at h
    refine br_no (by simp [h0]) (nn_r (ldB_r (x := t.linked) hT rfl ?_))
    cases h1 : t.linked
    · rw [h1] at h
      exact br_t (h H (But.refl _ _) hT)
    · rw [h1] at h
      refine br_f (nn_r (ldB_r (x := t.back) hT rfl ?_))
      cases h2 : t.back
      · rw [h2] at h; exact br_f (h H (But.refl _ _) hT)
      · rw [h2] at h; exact br_t (h H (But.refl _ _) hT)
  · rw [if_pos h0, if_pos h0] at h
    refine br_yes (by simp [h0]) (nn_r (st_r hT rfl (by simp [Tk.cells]) ?_))
    exact h _ (set1 (But.refl _ _) _) (cells_set hT)

theorem C43_none {bt : Nat} {t : Tk} {w : Int} (hT : cells H bt = some t.cells) (h0 : (w - t.head) % 65536 = 0) (h : K (I 6) H) : CallsH Tryd.prog m 43 [.pointer (at0 bt), I w] H K := by
  refine S43 ?_
  refine nn_r (ldI_r (x := t.head) hT rfl (C72 ⟨_, rfl, br_yes (by rw [h0]; rfl) h⟩))

theorem C39_epoch {bt : Nat} {t : Tk} {v : Value} (hT : cells H bt = some t.cells) (hs : t.st = 1 ∨ t.st = 14) (hv : ∃ q, v = .iface 72 (.pointer q) ∨ v = .iface 26 (.pointer q)) (h : inv Tryd.prog m v "Epoch" [I t.peer] H (fun w H' => ∃ i, w = I i ∧ K (I i) H')) : CallsH Tryd.prog m 39 [.pointer (at0 bt), v] H K := by
  have hn : ∀ {k : Prop}, k → nmv Tryd.prog v "Epoch" k := by
    intro k hk
    obtain ⟨q, rfl | rfl⟩ := hv <;> exact ⟨⟨_, _, rfl, fun w => by kernel_rfl⟩, hk⟩
  refine S39 ?_
  refine nn_r (ldI_r (x := t.st) hT rfl ?_)
  rcases hs with hs | hs
  · refine br_yes (by simp [hs]) (nn_r (ldI_r (x := t.peer) hT rfl (hn h)))
  · refine br_no (by simp [hs]) (br_yes (by simp [hs]) (nn_r (ldI_r (x := t.peer) hT rfl (hn h))))

theorem C39_link {bt : Nat} {t : Tk} {v : Value} (hT : cells H bt = some t.cells) (hb : 0 ≤ t.base ∧ t.base < 65536) (hs : t.st = 5) (hv : ∃ q, v = .iface 72 (.pointer q) ∨ v = .iface 26 (.pointer q)) (h : ∀ H', Ext H H' → inv Tryd.prog m v "Load" [I t.base] H' (fun w H' => ∃ i, w = I i ∧ K (I i) H')) : CallsH Tryd.prog m 39 [.pointer (at0 bt), v] H K := by
  have hn : ∀ {k : Prop}, k → nmv Tryd.prog v "Load" k := by
    intro k hk
    obtain ⟨q, rfl | rfl⟩ := hv <;> exact ⟨⟨_, _, rfl, fun w => by kernel_rfl⟩, hk⟩
  refine S39 ?_
  refine nn_r (ldI_r (x := t.st) hT rfl ?_)
  refine br_no (by simp [hs]) (br_no (by simp [hs]) (br_yes (by simp [hs]) (hn (C69 hT hb (by decide) ?_))))
  intro H' e
  refine ⟨_, rfl, ?_⟩
  have h2 := h H' e
  rw [show t.base + 1 - 1 = t.base by omega]; exact h2

theorem C39_look {bt : Nat} {t : Tk} {v : Value} (hT : cells H bt = some t.cells) (hb : 0 ≤ t.base ∧ t.base < 65536) (hs : t.st = 6) (hv : ∃ q, v = .iface 72 (.pointer q) ∨ v = .iface 26 (.pointer q)) (h : ∀ H', Ext H H' → inv Tryd.prog m v "Load" [I (t.base + 2)] H' (fun w H' => ∃ i, w = I i ∧ K (I i) H')) : CallsH Tryd.prog m 39 [.pointer (at0 bt), v] H K := by
  have hn : ∀ {k : Prop}, k → nmv Tryd.prog v "Load" k := by
    intro k hk
    obtain ⟨q, rfl | rfl⟩ := hv <;> exact ⟨⟨_, _, rfl, fun w => by kernel_rfl⟩, hk⟩
  refine S39 ?_
  refine nn_r (ldI_r (x := t.st) hT rfl ?_)
  refine br_no (by simp [hs]) (br_no (by simp [hs]) (br_no (by simp [hs]) (br_yes (by simp [hs]) (hn (C69 hT hb (by decide) ?_)))))
  intro H' e
  refine ⟨_, rfl, ?_⟩
  have h2 := h H' e
  rw [show t.base + 3 - 1 = t.base + 2 by omega]; exact h2

theorem C6_ask {bt : Nat} {t : Tk} {v : Value} (hT : cells H bt = some t.cells) (hs : t.st = 1) (hv : ∃ q, v = .iface 72 (.pointer q) ∨ v = .iface 26 (.pointer q))
    (h : inv Tryd.prog m v "Epoch" [I t.peer] H (fun w H' => ∃ i, w = I i ∧ cells H' bt = some t.cells ∧ ∀ H'', But (fun x => x = bt) H' H'' → cells H'' bt = some { t.asked i with st := t.next i }.cells → K (.tuple #[B false, I 0]) H'')) : CallsH Tryd.prog m 6 [.pointer (at0 bt), v] H K := by
  refine S6 ?_
  refine br_f (nn_r (ldI_r (x := t.st) hT rfl (br_no (by simp [hs]) (C39_epoch hT (.inl hs) hv ?_))))
  obtain ⟨tt, x, f, r, e1, e2, e3, e4⟩ := h
  refine ⟨tt, x, f, r, e1, e2, e3, e4.mono ?_⟩
  rintro w H1 ⟨i, rfl, h1, h2⟩
  refine ⟨i, rfl, i, rfl, nn_r (ldI_r (x := t.st) h1 rfl (br_yes (by simp [hs]) (C40 h1 ?_)))⟩
  intro H2 b2 c2
  refine ⟨_, rfl, nn_r (st_r c2 rfl (by simp [Tk.cells]) ?_)⟩
  exact h2 _ (set1 b2 _) (cells_set c2)

theorem C6_link {bt : Nat} {t : Tk} {v : Value} (hT : cells H bt = some t.cells) (hb : 0 ≤ t.base ∧ t.base < 65536) (hs : t.st = 5) (hv : ∃ q, v = .iface 72 (.pointer q) ∨ v = .iface 26 (.pointer q))
    (h : ∀ H', Ext H H' → inv Tryd.prog m v "Load" [I t.base] H' (fun w H' => ∃ i, w = I i ∧ cells H' bt = some t.cells ∧ ∀ H'', But (fun x => x = bt) H' H'' →
      (if i = (t.own + t.known) % 65536 then cells H'' bt = some { t with linked := true, st := 6 }.cells → K (.tuple #[B false, I 0]) H'' else cells H'' bt = some { t with st := 0 }.cells → K (.tuple #[B true, I 9]) H''))) : CallsH Tryd.prog m 6 [.pointer (at0 bt), v] H K := by
  refine S6 ?_
  refine br_f (nn_r (ldI_r (x := t.st) hT rfl (br_no (by simp [hs]) (C39_link hT hb hs hv ?_))))
  intro H0 e0
  obtain ⟨tt, x, f, r, e1, e2, e3, e4⟩ := h H0 e0
  refine ⟨tt, x, f, r, e1, e2, e3, e4.mono ?_⟩
  rintro w H1 ⟨i, rfl, h1, h2⟩
  refine ⟨i, rfl, i, rfl, nn_r (ldI_r (x := t.st) h1 rfl (br_no (by simp [hs]) (br_no (by simp [hs]) (br_yes (by simp [hs]) (C42 h1 ⟨_, rfl, ?_⟩)))))⟩
  by_cases hi : i = (t.own + t.known) % 65536
  · simp only [if_pos hi] at h2
    refine br_no (by simp [hi]) (nn_r (st_r h1 rfl (by simp [Tk.cells]) (nn_r (st_r (cells_set h1) rfl (by simp [Tk.cells]) ?_))))
    exact h2 _ (set1 (set1 (But.refl _ _) _) _) (cells_set (cells_set h1))
  · simp only [if_neg hi] at h2
    refine br_yes (by simp [hi]) (nn_r (st_r h1 rfl (by simp [Tk.cells]) ?_))
    exact h2 _ (set1 (But.refl _ _) _) (cells_set h1)

theorem C6_look_none {bt : Nat} {t : Tk} {v : Value} (hT : cells H bt = some t.cells) (hb : 0 ≤ t.base ∧ t.base < 65536) (hs : t.st = 6) (hv : ∃ q, v = .iface 72 (.pointer q) ∨ v = .iface 26 (.pointer q))
    (h : ∀ H', Ext H H' → inv Tryd.prog m v "Load" [I (t.base + 2)] H' (fun w H' => ∃ i, w = I i ∧ (i - t.head) % 65536 = 0 ∧ cells H' bt = some t.cells ∧ ∀ H'', But (fun x => x = bt) H' H'' →
      cells H'' bt = some { t with answer := 6, st := 14 }.cells → K (.tuple #[B false, I 0]) H'')) : CallsH Tryd.prog m 6 [.pointer (at0 bt), v] H K := by
  refine S6 ?_
  refine br_f (nn_r (ldI_r (x := t.st) hT rfl (br_no (by simp [hs]) (C39_look hT hb hs hv ?_))))
  intro H0 e0
  obtain ⟨tt, x, f, r, e1, e2, e3, e4⟩ := h H0 e0
  refine ⟨tt, x, f, r, e1, e2, e3, e4.mono ?_⟩
  rintro w H1 ⟨i, rfl, hi, h1, h2⟩
  refine ⟨i, rfl, i, rfl, nn_r (ldI_r (x := t.st) h1 rfl (br_no (by simp [hs]) (br_no (by simp [hs]) (br_no (by simp [hs]) (br_yes (by simp [hs]) (C43_none h1 hi ⟨_, rfl, ?_⟩))))))⟩
  refine nn_r (st_r h1 rfl (by simp [Tk.cells]) (nn_r (ldI_r (x := 6) (cells_set h1) rfl (br_t (nn_r (st_r (cells_set h1) rfl (by simp [Tk.cells]) ?_))))))
  exact h2 _ (set1 (set1 (But.refl _ _) _) _) (cells_set (cells_set h1))

theorem C46_bad {bt : Nat} {t : Tk} {w : Int} (hT : cells H bt = some t.cells) (hw : w = t.known) (ha : t.answer ≠ 0) (h : ∀ H', But (fun x => x = bt) H H' → cells H' bt = some { t with st := 0, lp := none, ln := 0, lc := 0 }.cells → K (I t.answer) H') : CallsH Tryd.prog m 46 [.pointer (at0 bt), I w] H K := by
  refine S46 ?_
  refine nn_r (st_r hT rfl (by simp [Tk.cells]) (nn_r (ldI_r (x := t.known) (cells_set hT) rfl (br_no (by simp [hw]) (nn_r (ldI_r (x := t.answer) (cells_set hT) rfl (br_yes (by simp [ha]) ?_)))))))
  refine nn_r (st_r (cells_set hT) rfl (by simp [Tk.cells]) (nn_r (ldI_r (x := t.answer) (cells_set (cells_set hT)) rfl ?_)))
  exact h _ (set1 (set1 (But.refl _ _) _) _) (cells_set (cells_set hT))

theorem C6_over_bad {bt : Nat} {t : Tk} {v : Value} (hT : cells H bt = some t.cells) (hs : t.st = 14) (ha : t.answer ≠ 0) (hv : ∃ q, v = .iface 72 (.pointer q) ∨ v = .iface 26 (.pointer q))
    (h : inv Tryd.prog m v "Epoch" [I t.peer] H (fun w H' => ∃ i, w = I i ∧ i = t.known ∧ cells H' bt = some t.cells ∧ ∀ H'', But (fun x => x = bt) H' H'' → cells H'' bt = some { t with st := 0, lp := none, ln := 0, lc := 0 }.cells → K (.tuple #[B true, I t.answer]) H'')) : CallsH Tryd.prog m 6 [.pointer (at0 bt), v] H K := by
  refine S6 ?_
  refine br_f (nn_r (ldI_r (x := t.st) hT rfl (br_no (by simp [hs]) (C39_epoch hT (.inr hs) hv ?_))))
  obtain ⟨tt, x, f, r, e1, e2, e3, e4⟩ := h
  refine ⟨tt, x, f, r, e1, e2, e3, e4.mono ?_⟩
  rintro w H1 ⟨i, rfl, hi, h1, h2⟩
  refine ⟨i, rfl, i, rfl, nn_r (ldI_r (x := t.st) h1 rfl ?_)⟩
  refine br_no (by simp [hs]) (br_no (by simp [hs]) (br_no (by simp [hs]) (br_no (by simp [hs]) (br_no (by simp [hs]) (br_no (by simp [hs]) (br_no (by simp [hs]) (br_no (by simp [hs]) (br_yes (by simp [hs]) (C46_bad h1 hi ha ?_)))))))))
  intro H2 b2 c2
  exact ⟨_, rfl, h2 H2 b2 c2⟩

theorem C12 {bt : Nat} {t : Tk} (hT : cells H bt = some t.cells) (h : K (B (t.st != 0)) H) : CallsH Tryd.prog m 12 [.pointer (at0 bt)] H K := by
  refine S12 ?_
  exact br_t (nn_r (ldI_r (x := t.st) hT rfl h))
theorem C13 {bt : Nat} {t : Tk} (hT : cells H bt = some t.cells) (h : K (B t.linked) H) : CallsH Tryd.prog m 13 [.pointer (at0 bt)] H K := by
  refine S13 ?_
  exact br_t (nn_r (ldB_r (x := t.linked) hT rfl h))
end
end Go.Proofs.YtdipbhbhakmaiaaDoor

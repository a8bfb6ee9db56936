/-
  CONTRACTS: the taker's stores, its end, what it is asked.
-/
import Derived.Test.YtdipbhbhakmaiaaDoorK7
namespace Go.Proofs.YtdipbhbhakmaiaaDoor
open Go Go.Eng
set_option linter.unusedVariables false
set_option linter.unusedSimpArgs false
set_option maxRecDepth 100000

section
variable {m : Amb} {H : Hp} {K : Value → Hp → Prop}

theorem C6_zero {bt : Nat} {t : Tk} {v : Value} (hT : cells H bt = some t.cells) (hb : 0 ≤ t.base ∧ t.base < 65536) (hs : t.st = 2) (hv : IsP v)
    (h : ∀ H', Ext H H' → inv Tryd.prog m v "Store" [I (t.base + 3), I 0] H' (fun w H' => w = .tuple #[] ∧ cells H' bt = some t.cells ∧ ∀ H'', But (fun x => x = bt) H' H'' →
      cells H'' bt = some { t with st := 3 }.cells → K (.tuple #[B false, I 0]) H'')) : CallsH Tryd.prog m 6 [.pointer (at0 bt), v] H K := by
  refine S6 ?_
  refine br_f (nn_r (ldI_r (x := t.st) hT rfl (br_no (by simp [hs]) ?_)))
  refine S39 (nn_r (ldI_r (x := t.st) hT rfl ?_))
  refine br_no (by simp [hs]) (br_no (by simp [hs]) (br_no (by simp [hs]) (br_no (by simp [hs]) (br_no (by simp [hs]) (br_no (by simp [hs]) (br_no (by simp [hs]) (br_yes (by simp [hs]) (hv.nm (.inr (.inr (.inl rfl))) (C69 hT hb (by decide) ?_)))))))))
  intro H0 e0
  refine ⟨_, rfl, ?_⟩
  rw [show t.base + 4 - 1 = t.base + 3 by omega]
  refine inv_mono (h H0 e0) ?_
  rintro w H1 ⟨rfl, h1, h2⟩
  refine ⟨rfl, _, rfl, nn_r (ldI_r (x := t.st) h1 rfl ?_)⟩
  refine br_no (by simp [hs]) (br_no (by simp [hs]) (br_no (by simp [hs]) (br_no (by simp [hs]) (br_no (by simp [hs]) (br_no (by simp [hs]) (br_no (by simp [hs]) (br_no (by simp [hs]) (br_no (by simp [hs]) ?_))))))))
  refine nn_r (ldI_r (x := t.st) h1 rfl (nn_r (st_s h1 rfl (by simp [Tk.cells]) fun H2 b2 _ c2 => ?_)))
  refine h2 H2 b2 ?_
  rw [c2, hs]; rfl

theorem C6_mark {bt : Nat} {t : Tk} {v : Value} (hT : cells H bt = some t.cells) (hb : 0 ≤ t.base ∧ t.base < 65536) (hs : t.st = 3) (hv : IsP v)
    (h : ∀ H', Ext H H' → inv Tryd.prog m v "Store" [I (t.base + 1), I ((t.own + t.known) % 65536)] H' (fun w H' => w = .tuple #[] ∧ cells H' bt = some t.cells ∧ ∀ H'', But (fun x => x = bt) H' H'' →
      cells H'' bt = some { t with st := 4 }.cells → K (.tuple #[B false, I 0]) H'')) : CallsH Tryd.prog m 6 [.pointer (at0 bt), v] H K := by
  refine S6 ?_
  refine br_f (nn_r (ldI_r (x := t.st) hT rfl (br_no (by simp [hs]) ?_)))
  refine S39 (nn_r (ldI_r (x := t.st) hT rfl ?_))
  refine br_no (by simp [hs]) (br_no (by simp [hs]) (br_no (by simp [hs]) (br_no (by simp [hs]) (br_no (by simp [hs]) (br_no (by simp [hs]) (br_no (by simp [hs]) (br_no (by simp [hs]) (br_yes (by simp [hs]) (hv.nm (.inr (.inr (.inl rfl))) (C69 hT hb (by decide) ?_))))))))))
  intro H0 e0
  refine ⟨_, rfl, C42 (e0.cells hT) ⟨_, rfl, ?_⟩⟩
  rw [show t.base + 2 - 1 = t.base + 1 by omega]
  refine inv_mono (h H0 e0) ?_
  rintro w H1 ⟨rfl, h1, h2⟩
  refine ⟨rfl, _, rfl, nn_r (ldI_r (x := t.st) h1 rfl ?_)⟩
  refine br_no (by simp [hs]) (br_no (by simp [hs]) (br_no (by simp [hs]) (br_no (by simp [hs]) (br_no (by simp [hs]) (br_no (by simp [hs]) (br_no (by simp [hs]) (br_no (by simp [hs]) (br_no (by simp [hs]) ?_))))))))
  refine nn_r (ldI_r (x := t.st) h1 rfl (nn_r (st_s h1 rfl (by simp [Tk.cells]) fun H2 b2 _ c2 => ?_)))
  refine h2 H2 b2 ?_
  rw [c2, hs]; rfl

theorem C6_settle {bt : Nat} {t : Tk} {g : Tb} {v : Value} (ho : g.ok) (hne : t.tb ≠ bt) (hT : cells H bt = some t.cells) (hs : t.st = 4)
    (h : inv Tryd.prog m v "Fence" [] H (fun w H' => w = .tuple #[] ∧ cells H' bt = some t.cells ∧ cells H' t.tb = some g.cells ∧ ∀ H'', But (fun x => x = bt ∨ x = t.tb) H' H'' →
      cells H'' bt = some t.first.cells → cells H'' t.tb = some g.clear.cells → K (.tuple #[B true, I 8]) H'')) : CallsH Tryd.prog m 6 [.pointer (at0 bt), v] H K := by
  refine S6 ?_
  refine br_f (nn_r (ldI_r (x := t.st) hT rfl (br_no (by simp [hs]) ?_)))
  refine S39 (nn_r (ldI_r (x := t.st) hT rfl ?_))
  refine br_no (by simp [hs]) (br_no (by simp [hs]) (br_no (by simp [hs]) (br_no (by simp [hs]) (br_no (by simp [hs]) (br_no (by simp [hs]) (br_no (by simp [hs]) (br_no (by simp [hs]) (br_no (by simp [hs]) (br_no (by simp [hs]) (br_no (by simp [hs]) ?_))))))))))
  refine inv_mono h ?_
  rintro w H1 ⟨rfl, h1, hg, h2⟩
  refine ⟨rfl, _, rfl, nn_r (ldI_r (x := t.st) h1 rfl ?_)⟩
  refine br_no (by simp [hs]) (br_yes (by simp [hs]) (C41 ho hne h1 hg ?_))
  intro H2 b2 c2 cg2
  exact ⟨rfl, h2 H2 b2 c2 cg2⟩

/-- The end of a call that received. -/
def Tk.took (t : Tk) (hd : Int) : Tk := { t with st := 0, head := (t.head + 1) % 65536, got := hd }
def Tb.give (g : Tb) (i : Nat) : Tb := { g with gens := g.gens.set i ((g.gens.getD i 0 + 1) % 65536), held := g.held.set i true }

theorem C6_over_ok {bt : Nat} {t : Tk} {g : Tb} {v : Value} {i : Nat} (ho : g.ok) (hne : t.tb ≠ bt) (hT : cells H bt = some t.cells) (hs : t.st = 14) (ha : t.answer = 0) (hbk : t.back = false) (hd : t.d = i) (hi : (i : Int) < g.n) (hh : g.held.getD i false = false) (hv : IsP v)
    (h : inv Tryd.prog m v "Epoch" [I t.peer] H (fun w H' => ∃ i', w = I i' ∧ i' = t.known ∧ cells H' bt = some t.cells ∧ cells H' t.tb = some g.cells ∧ ∀ H'', But (fun x => x = bt ∨ x = t.tb) H' H'' →
      cells H'' bt = some (t.took ((g.gens.getD i 0 + 1) % 65536 * 64 + i)).cells → cells H'' t.tb = some (g.give i).cells → K (.tuple #[B true, I 0]) H'')) : CallsH Tryd.prog m 6 [.pointer (at0 bt), v] H K := by
  refine S6 ?_
  refine br_f (nn_r (ldI_r (x := t.st) hT rfl (br_no (by simp [hs]) (C39_epoch hT (.inr hs) hv ?_))))
  refine inv_mono h ?_
  rintro w H1 ⟨i', rfl, hi', h1, hg, h2⟩
  refine ⟨i', rfl, i', rfl, nn_r (ldI_r (x := t.st) h1 rfl ?_)⟩
  refine br_no (by simp [hs]) (br_no (by simp [hs]) (br_no (by simp [hs]) (br_no (by simp [hs]) (br_no (by simp [hs]) (br_no (by simp [hs]) (br_no (by simp [hs]) (br_no (by simp [hs]) (br_yes (by simp [hs]) ?_))))))))
  refine S46 ?_
  refine nn_r (st_s h1 rfl (by simp [Tk.cells]) fun A1 b1 _ c1 => ?_)
  refine nn_r (ldI_r (x := t.known) c1 rfl (br_no (by simp [hi']) (nn_r (ldI_r (x := t.answer) c1 rfl (br_no (by simp [ha]) (nn_r (ldB_r (x := t.back) c1 rfl (br_no hbk ?_))))))))
  refine nn_r (ldI_r (x := t.head) c1 rfl (C70 ⟨_, rfl, nn_r (st_s c1 rfl (by simp [Tk.cells]) fun A2 b2 _ c2 => ?_)⟩))
  refine nn_r (ldP_r (x := at0 t.tb) c2 rfl (nn_r (ldI_r (x := t.d) c2 rfl ?_)))
  have hg2 : cells A2 t.tb = some g.cells := (b1.trans b2).cells hne hg
  rw [hd]
  refine C75 ho hg2 hi hh ?_
  intro A3 b3 _ cg3
  have c3 := b3.cells (fun h => hne h.symm) c2
  refine ⟨_, _, rfl, nn_r (st_s c3 rfl (by simp [Tk.cells]) fun A4 b4 _ c4 => ?_)⟩
  refine nn_r (ldI_r (x := t.answer) c4 rfl ⟨_, rfl, ?_⟩)
  rw [ha]
  refine h2 A4 ?_ c4 (b4.cells hne cg3)
  exact ((b1.trans b2).mono fun x hx => .inl (.inl hx)).trans ((b3.mono fun x hx => .inl (.inr hx)).trans (b4.mono fun x hx => .inl (.inl hx)))

theorem C11_no {bt : Nat} {t : Tk} {g : Tb} {hd : Int} (ho : g.ok) (hT : cells H bt = some t.cells) (hG : cells H t.tb = some g.cells) (hs : t.st = 0) (hn : g.slotOf hd = none) (h : K (I 7) H) : CallsH Tryd.prog m 11 [.pointer (at0 bt), I hd] H K := by
  refine S11 ?_
  refine C51 hT ⟨_, rfl, ?_⟩
  rw [if_pos hs]
  refine br_f (nn_r (ldP_r (x := at0 t.tb) hT rfl (C50 ho hG ?_)))
  rw [hn]
  refine ⟨_, _, rfl, nn_r (ldP_r (x := at0 t.tb) hT rfl (C53 ho hG (fun _ => ⟨_, rfl, br_yes (by decide) h⟩) (fun i hi => ?_)))⟩
  rw [hn] at hi; cases hi

theorem C11_yes {bt : Nat} {t : Tk} {g : Tb} {hd : Int} {i : Nat} (ho : g.ok) (hne : t.tb ≠ bt) (hT : cells H bt = some t.cells) (hG : cells H t.tb = some g.cells) (hs : t.st = 0) (hn : g.slotOf hd = some i)
    (h : ∀ H', But (fun x => x = bt ∨ x = t.tb) H H' → cells H' bt = some { t.begin true with d := i }.cells → cells H' t.tb = some { g with held := g.held.set i false }.cells → K (I 0) H') : CallsH Tryd.prog m 11 [.pointer (at0 bt), I hd] H K := by
  refine S11 ?_
  refine C51 hT ⟨_, rfl, ?_⟩
  rw [if_pos hs]
  refine br_f (nn_r (ldP_r (x := at0 t.tb) hT rfl (C50 ho hG ?_)))
  rw [hn]
  refine ⟨_, _, rfl, nn_r (ldP_r (x := at0 t.tb) hT rfl (C53 ho hG (fun hh => ?_) (fun i' hi' A1 b1 _ cg1 => ?_)))⟩
  · rw [hn] at hh; cases hh
  · rw [hn] at hi'; cases hi'
    have c1 := b1.cells (fun h => hne h.symm) hT
    refine ⟨_, rfl, br_no (by decide) (C52 c1 fun A2 b2 c2 => ⟨rfl, nn_r (st_s c2 rfl (by simp [Tk.cells]) fun A3 b3 _ c3 => ?_)⟩)⟩
    refine h A3 ?_ c3 ((b2.trans b3).cells hne cg1)
    exact (b1.mono fun x hx => .inl (.inr hx)).trans ((b2.trans b3).mono fun x hx => .inl (.inl hx))

theorem C8_got {bt : Nat} {t : Tk} (hT : cells H bt = some t.cells) (hs : t.st = 0) (hg : t.got ≠ 0) (hl : t.lp = none) (h : ∀ n c, K (.tuple #[.slice none n c, I t.got]) H) : CallsH Tryd.prog m 8 [.pointer (at0 bt)] H K := by
  refine S8 ?_
  refine S48 (br_t (nn_r (ldI_r (x := t.st) hT rfl (br_yes (by simp [hs]) (nn_r (ldI_r (x := t.got) hT rfl ?_))))))
  refine ⟨_, rfl, br_no (by simp [hg]) (nn_r (ldS_r (q := t.lp) (n := t.ln) (c := t.lc) hT rfl (nn_r (ldI_r (x := t.got) hT rfl ?_))))⟩
  rw [hl]
  refine S49 (br_t ⟨none, 0, 0, rfl, must_r (cont_r hT rfl) (h 0 0)⟩)

theorem C9 {bt : Nat} {t : Tk} {g : Tb} {hd : Int} (ho : g.ok) (hT : cells H bt = some t.cells) (hG : cells H t.tb = some g.cells) (h : K (match g.slotOf hd with | some i => .tuple #[I i, .bool true] | none => .tuple #[I 0, .bool false]) H) : CallsH Tryd.prog m 9 [.pointer (at0 bt), I hd] H K := by
  refine S9 (br_f (nn_r (ldP_r (x := at0 t.tb) hT rfl (C50 ho hG ?_))))
  cases hs : g.slotOf hd with
  | none => rw [hs] at h; exact ⟨_, _, rfl, h⟩
  | some i => rw [hs] at h; exact ⟨_, _, rfl, h⟩

theorem C14 {bt : Nat} {t : Tk} {g : Tb} (ho : g.ok) (hT : cells H bt = some t.cells) (hG : cells H t.tb = some g.cells) (h : ∀ q c H', Ext H H' → Sl 1 H.size H' q g.heldL.length c (g.heldL.map I) → K (.slice q g.heldL.length c) H') : CallsH Tryd.prog m 14 [.pointer (at0 bt)] H K := by
  refine S14 (br_f (nn_r (ldP_r (x := at0 t.tb) hT rfl (C45 ho hG ?_))))
  intro q c H1 e1 s1
  exact ⟨_, _, _, rfl, h q c H1 e1 s1⟩

/-- The rings that there may be. -/
theorem C17 {n : Int} (hn : n ≤ 16 ∨ n = 32 ∨ n = 64 ∨ 64 < n ∨ True) (h : ∀ b : Bool, (b = true → n = 2 ∨ n = 4 ∨ n = 8 ∨ n = 16 ∨ n = 32 ∨ n = 64) → K (B b) H) : CallsH Tryd.prog m 17 [I n] H K := by
  refine S17 ?_
  refine ⟨fun i A => A = H ∧ (i = 2 ∨ i = 4 ∨ i = 8 ∨ i = 16 ∨ i = 32 ∨ i = 64 ∨ i = 128), fun i _ => (128 - i).toNat, ⟨rfl, .inl rfl⟩, ?_⟩
  rintro i A ll _ ⟨rfl, hi⟩ hll
  by_cases h64 : i ≤ 64
  · refine br_yes (by simpa using h64) ?_
    by_cases hin : i = n
    · refine br_yes (by simp [hin]) (h true fun _ => ?_)
      omega
    · refine br_no (by simp [hin]) ⟨⟨rfl, ?_⟩, ?_⟩
      · rw [wr_i64 (by omega) (by omega)]; omega
      · rw [wr_i64 (by omega) (by omega)]; subst hll
        show (128 - (2 * i)).toNat + 1 ≤ (128 - i).toNat
        omega
  · exact br_no (by simpa using h64) (h false (by simp))

theorem C20 {ring f : Int} (hf : f = 1 ∨ f = 2 ∨ f = 3 ∨ f = 4) (h : K (.tuple #[I (f - 1), B true]) H) : CallsH Tryd.prog m 20 [I 0, I ring, I f, I 0, I 0] H K := by
  refine S20 ?_
  refine ⟨fun a i A => A = H ∧ a = i - 1 ∧ 1 ≤ i ∧ i ≤ f, fun _ i _ => (9 - i).toNat, ⟨rfl, by omega, by omega, by omega⟩, ?_⟩
  rintro a i A l1 _ ⟨rfl, rfl, hi1, hif⟩ hl1
  refine br_yes (by simp; omega) (br_no (by simp; omega) (br_no (by simp; omega) ?_))
  refine ⟨fun a s B => B = A ∧ ((a = i - 1 ∧ s = 0) ∨ (a = i ∧ s = 1 ∧ i < f)), fun _ s _ => (1 - s).toNat, ⟨rfl, .inl ⟨rfl, rfl⟩⟩, ?_⟩
  rintro a s B l2 _ ⟨rfl, has⟩ hl2
  rcases has with ⟨rfl, rfl⟩ | ⟨rfl, rfl, hlt⟩
  · refine br_yes (by decide) ?_
    refine ⟨fun a s C => C = B ∧ ((a = i - 1 ∧ s = 0) ∨ (a = i ∧ s = 1 ∧ i < f)), fun _ s _ => (1 - s).toNat, ⟨rfl, .inl ⟨rfl, rfl⟩⟩, ?_⟩
    rintro a s C l3 _ ⟨rfl, has⟩ hl3
    rcases has with ⟨rfl, rfl⟩ | ⟨rfl, rfl, hlt⟩
    · refine br_yes (by decide) ?_
      have hw : wr .i64 (i - 1 + 1) = i := (wr_i64 (n := i - 1 + 1) (by omega) (by omega)).trans (by omega)
      have h01 : wr .i64 (0 + 1) = 1 := by decide
      by_cases hif2 : i = f
      · subst hif2
        refine br_yes (by simp) (br_yes (by decide) (br_yes (by decide) ?_))
        exact h
      · refine br_no (by simpa using hif2) ⟨⟨rfl, .inr ⟨hw, h01, by omega⟩⟩, ?_⟩
        rw [hw, h01]; subst hl3
        show (1 - (1 : Int)).toNat + 1 ≤ (1 - (0 : Int)).toNat
        decide
    · refine br_no (by decide) ⟨⟨rfl, .inr ⟨rfl, by decide, hlt⟩⟩, ?_⟩
      rw [show wr .i64 (0 + 1) = 1 by decide]; subst hl2
      show (1 - (1 : Int)).toNat + 1 ≤ (1 - (0 : Int)).toNat
      decide
  · refine br_no (by decide) ⟨⟨rfl, ?_, ?_, ?_⟩, ?_⟩
    · rw [wr_i64 (by omega) (by omega)]; omega
    · rw [wr_i64 (by omega) (by omega)]; omega
    · rw [wr_i64 (by omega) (by omega)]; omega
    · rw [wr_i64 (by omega) (by omega)]; subst hl1
      show (9 - (a + 1)).toNat + 1 ≤ (9 - a).toNat
      omega

theorem C19 {a0 : Nat} {ring f : Int} (hc : cells H a0 = some [I ring]) (hf : f = 1 ∨ f = 2 ∨ f = 3 ∨ f = 4) (h : K (I (f - 1)) H) : CallsH Tryd.prog m 19 [I f, .pointer (at0 a0)] H K := by
  refine S19 (ldI_r (x := ring) hc rfl (C20 hf ⟨_, _, rfl, h⟩))
end
end Go.Proofs.YtdipbhbhakmaiaaDoor

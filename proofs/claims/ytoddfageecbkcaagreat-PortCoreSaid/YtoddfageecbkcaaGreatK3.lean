/-
  CONTRACTS: a core's stores that wait, one by one.
-/
import Derived.Test.YtoddfageecbkcaaGreatK2
namespace Go.Proofs.YtoddfageecbkcaaGreat
open Go Go.Eng Sy
set_option linter.unusedVariables false
set_option linter.unusedSimpArgs false
set_option maxRecDepth 100000

theorem one_ints (l : List Int) : oneCells (l.map I) := by
  intro v hv; simp at hv; obtain ⟨a, _, rfl⟩ := hv; rfl
theorem one_cx (l : List (Int × Int)) : oneCells (l.map cx) := by
  intro v hv; simp at hv; obtain ⟨a, b, _, rfl⟩ := hv; rfl
theorem one_pts (l : List Nat) : oneCells (l.map Pt) := by
  intro v hv; simp at hv; obtain ⟨a, _, rfl⟩ := hv; rfl
theorem zc3l : (zc Tryz.prog 3).length = 1 := by kernel_rfl

/-- A pair that is a cell. -/
def okP (p : Int × Int) : Prop := (0 ≤ p.1 ∧ p.1 < 65536) ∧ 0 ≤ p.2 ∧ p.2 < 65536

section
variable {m : Amb} {r : Nat} {ow : Ow} {H : Hp} {K : Value → Hp → Prop}

theorem C97 (τ : Tg) {τ0 : Tg} {q : Option Addr} {n c : Nat} {l : List Int} (hs : SlT 1 ow H τ0 q n c (l.map I)) (hn : n ≤ 2 ^ 40)
    (h : ∀ ow' H' q' c', Upd Tno ow H ow' H' → SlT 1 ow' H' τ q' n c' (l.map I) → K (.slice q' n c') H') : CallsH Tryz.prog m 97 [.slice q n c] H K := by
  refine S97 ?_
  refine clone_go (K' := fun a b c H' => K (.slice a b c) H') (τ := τ) zc3l (by decide) hs (one_ints l) hn h

theorem C122 (τ : Tg) {τ0 : Tg} {q : Option Addr} {n c : Nat} {l : List (Int × Int)} (hs : SlT 1 ow H τ0 q n c (l.map cx)) (hn : n ≤ 2 ^ 40)
    (h : ∀ ow' H' q' c', Upd Tno ow H ow' H' → SlT 1 ow' H' τ q' n c' (l.map cx) → K (.slice q' n c') H') : CallsH Tryz.prog m 122 [.slice q n c] H K := by
  refine S122 ?_
  refine clone_go (K' := fun a b c H' => K (.slice a b c) H') (τ := τ) zc160 (by decide) hs (one_cx l) hn h

theorem C46 {n : Int} (r' : Nat) (h1 : 1 ≤ n ∧ n ≤ 65536) (h : ∀ ow' H' b, Upd Tno ow H ow' H' → RamR r' ow' H' b (List.replicate n.toNat 0) → K (.tuple #[Pt b, I 0]) H') : CallsH Tryz.prog m 46 [I n] H K := by
  refine S46 (br_no (by simp; omega) (br_no (by simp; omega) ?_))
  refine mkS_t (ow := ow) (r', 3, 0, 0) zc3 (by kernel_rfl) (by omega) ?_
  intro ow1 H1 q u1 _ s1
  refine nw_t (ow := ow1) (r', 2, 0, 0) ?_
  intro ow2 H2 b u2 hb h2
  refine h ow2 H2 b (u1.trans u2) ⟨q, n.toNat, n.toNat, h2, ?_⟩
  have := s1.upd u2 id
  simpa using this

theorem C46n {n : Int} (h1 : ¬ (1 ≤ n ∧ n ≤ 65536)) (h : K (.tuple #[.pointer none, I 2]) H) : CallsH Tryz.prog m 46 [I n] H K := by
  refine S46 ?_
  by_cases e : n < 1
  · exact br_yes (by simpa using e) h
  · exact br_no (by simpa using e) (br_yes (by simp; omega) h)

theorem C59 (r' : Nat) {b : Nat} {ws : List Int} (hR : RamR r ow H b ws) (hl : ws.length ≤ 65536) (h : ∀ ow' H' b', Upd Tno ow H ow' H' → RamR r' ow' H' b' ws → K (Pt b') H') : CallsH Tryz.prog m 59 [Pt b] H K := by
  obtain ⟨q, n, c, h1, h2⟩ := hR
  have hn : ws.length = n := by simpa using h2.len1
  refine S59 (br_f (nn_r (ldS_r h1.2 rfl (C97 (r', 3, 0, 0) h2 (by omega) ?_))))
  intro ow1 H1 q' c' u1 s1
  refine ⟨_, _, _, rfl, nw_t (ow := ow1) (r', 2, 0, 0) ?_⟩
  intro ow2 H2 b' u2 hb h2
  exact h ow2 H2 b' (u1.trans u2) ⟨q', n, c', h2, s1.upd u2 id⟩

theorem C47 {n : Int} (τ : Nat × Nat) (h1 : 1 ≤ n ∧ n ≤ 16) (h : ∀ ow' H' b, Upd Tno ow H ow' H' → BufR τ.1 ow' H' τ.2 b n [] → K (Pt b) H') : CallsH Tryz.prog m 47 [I n] H K := by
  refine S47 (br_no (by simp; omega) (br_no (by simp; omega) ?_))
  refine nw_t (ow := ow) (τ.1, 5, τ.2, 0) ?_
  intro ow1 H1 b u1 hb g
  exact h ow1 H1 b u1 ⟨none, 0, 0, g, SlT.nil⟩

theorem C47n {n : Int} (h1 : ¬ (1 ≤ n ∧ n ≤ 16)) (h : K (.pointer none) H) : CallsH Tryz.prog m 47 [I n] H K := by
  refine S47 ?_
  by_cases e : n < 1
  · exact br_yes (by simpa using e) h
  · exact br_no (by simpa using e) (br_yes (by simp; omega) h)

theorem C76 {i b : Nat} {most : Int} {l : List (Int × Int)} (hB : BufR r ow H i b most l) (h : K (I l.length) H) : CallsH Tryz.prog m 76 [Pt b] H K := by
  obtain ⟨q, n, c, h1, h2⟩ := hB
  have hn : l.length = n := by simpa using h2.len1
  subst hn
  exact S76 (br_f (nn_r (ldS_r h1.2 rfl h)))

theorem C77 {i b : Nat} {most : Int} {l : List (Int × Int)} (hB : BufR r ow H i b most l) (h : K (I most) H) : CallsH Tryz.prog m 77 [Pt b] H K := by
  obtain ⟨q, n, c, h1, h2⟩ := hB
  exact S77 (br_f (nn_r (ldI_r (x := most) h1.2 rfl h)))

theorem SlT.cap {esz : Nat} {ow : Ow} {H : Hp} {τ : Tg} {q : Option Addr} {n c : Nat} {vs : List Value} (h : SlT esz ow H τ q n c vs) : n ≤ c := h.2.1

theorem C79 {i b : Nat} {most : Int} {l : List (Int × Int)} {p : Int × Int} (hB : BufR r ow H i b most l) (hp : okP p) (hl : (l.length : Int) < most) (hm : most ≤ 16)
    (h : ∀ ow' H', Upd (TBuf r i) ow H ow' H' → BufR r ow' H' i b most (l ++ [p]) → K (I 0) H') : CallsH Tryz.prog m 79 [Pt b, I p.1, I p.2] H K := by
  obtain ⟨q, n, c, h1, h2⟩ := hB
  have hn : l.length = n := by simpa using h2.len1
  refine S79 (C119 hp.1 hp.2 ⟨_, _, rfl, br_f (br_f ?_)⟩)
  refine nn_r (ldS_r h1.2 rfl (nn_r (ldI_r (x := most) h1.2 rfl (br_no (by simp; omega) (nn_r (ldS_r h1.2 rfl (must_r rfl ?_)))))))
  refine nw_t (ow := ow) T0 ?_
  intro ow1 H1 b1 u1 hb1 g1
  refine .inr ⟨_, rfl, rfl, _, rcells_of g1.2, by simp, ?_⟩
  have h1 := h1.upd u1 id
  have h2 := h2.upd u1 id
  refine ap_t (vs := l.map cx) zc160 h2 (by rfl) (by intro v hv; simp at hv; subst hv; rfl) (by omega) ?_ ?_
  · intro hlt
    have := ncap (n := n + 1) (c := c) (by have := h2.2.1; omega) (by omega) hlt
    omega
  · intro ow2 q' c' H2 u2 _ _ s2
    have h1 := h1.upd u2 (by simp)
    refine nn_r (st_t h1 rfl (by simp) fun H3 s3 h3 => ?_)
    have s2' := s2.set1 s3 (by rw [h1.1]; simp)
    refine h ow2 H3 ?_ ⟨q', n + 1, c', h3, by simpa using s2'⟩
    refine Upd.set ?_ s3 (.inl (.inl h1.1))
    exact (u1.mono fun _ h => h.elim).then u2 fun τ hτ => .inr hτ

theorem C118e {i b : Nat} {most : Int} (hB : BufR r ow H i b most []) (h : K (.tuple #[I 0, I 0, .bool false]) H) : CallsH Tryz.prog m 118 [Pt b] H K := by
  exact S118 (C76 hB ⟨_, rfl, br_t h⟩)

theorem C118 {i b : Nat} {most : Int} {p : Int × Int} {l : List (Int × Int)} (hB : BufR r ow H i b most (p :: l)) (hp : okP p) (hm : l.length ≤ 65536)
    (h : ∀ H', Upd (TBuf r i) ow H ow H' → BufR r ow H' i b most l → K (.tuple #[I p.1, I p.2, .bool true]) H') : CallsH Tryz.prog m 118 [Pt b] H K := by
  refine S118 (C76 hB ⟨_, rfl, br_no (by simp; omega) ?_⟩)
  obtain ⟨q, n, c, h1, h2⟩ := hB
  have hn : l.length + 1 = n := by simpa using h2.len1
  refine nn_r (ldS_r h1.2 rfl ?_)
  obtain ⟨bb, o, cs, rfl, g1, g2, g3, g4⟩ := h2.place (by simp)
  refine ⟨_, rfl, ⟨by decide, by omega⟩, ?_⟩
  show ldV H ((⟨bb, o, none⟩ : Addr).add 0) _
  rw [add_mk]
  refine ldV_r (x := cx p) g1.2 ?_ rfl ?_
  · rw [g2 0 (by simp)]; rfl
  refine nn_r (ldS_r h1.2 rfl (nn_r (ldS_r h1.2 rfl (nn_r (ldS_r h1.2 rfl ?_)))))
  have ht := SlT.tail (esz := 1) h2
  have hc := h2.2.1
  refine ⟨⟨by decide, ?_, ?_, ?_⟩, ?_⟩
  · show (1 : Int) ≤ (n : Int); omega
  · show (n : Int) ≤ (n : Int); omega
  · show (n : Int) ≤ (c : Int); omega
  refine nn_r (st_t h1 rfl (by simp) fun H3 s3 h3 => ?_)
  refine C125 hp.1 hp.2 ⟨_, _, _, rfl, h H3 (s3.upd h1.1 |>.mono fun τ hτ => .inl hτ) ?_⟩
  refine ⟨_, n - 1, n - 1, h3, ?_⟩
  exact (SlT.set1 ht s3 (by rw [h1.1]; simp))

theorem C92 (τ : Tg) {i b : Nat} {most : Int} {l : List (Int × Int)} (hB : BufR r ow H i b most l) (hl : l.length ≤ 65536) (h : ∀ ow' H' q c, Upd Tno ow H ow' H' → SlT 1 ow' H' τ q l.length c (l.map cx) → K (.slice q l.length c) H') : CallsH Tryz.prog m 92 [Pt b] H K := by
  obtain ⟨q, n, c, h1, h2⟩ := hB
  have hn : l.length = n := by simpa using h2.len1
  subst hn
  refine S92 (br_f (nn_r (ldS_r h1.2 rfl (C122 τ h2 (by omega) ?_))))
  intro ow1 H1 q' c' u1 s1
  exact ⟨_, _, _, rfl, h ow1 H1 q' c' u1 s1⟩

theorem C60 (r' i' : Nat) {i b : Nat} {most : Int} {l : List (Int × Int)} (hB : BufR r ow H i b most l) (hl : l.length ≤ 65536) (h : ∀ ow' H' b', Upd Tno ow H ow' H' → BufR r' ow' H' i' b' most l → K (Pt b') H') : CallsH Tryz.prog m 60 [Pt b] H K := by
  have hB0 := hB
  obtain ⟨q, n, c, h1, h2⟩ := hB
  refine S60 (br_f (nn_r (ldI_r (x := most) h1.2 rfl (C92 (r', 6, i', 0) hB0 hl ?_))))
  intro ow1 H1 q' c' u1 s1
  refine ⟨_, _, _, rfl, must_r (cont_r (h1.upd u1 id).2 rfl) (nw_t (ow := ow1) (r', 5, i', 0) ?_)⟩
  intro ow2 H2 b' u2 hb h2
  exact h ow2 H2 b' (u1.trans u2) ⟨q', l.length, c', h2, s1.upd u2 id⟩

theorem C103 {i b : Nat} {most : Int} {l : List (Int × Int)} (hB : BufR r ow H i b most l) (h : ∀ H', Upd (TBuf r i) ow H ow H' → BufR r ow H' i b most [] → K (I l.length) H') : CallsH Tryz.prog m 103 [Pt b] H K := by
  have hB0 := hB
  refine S103 (C76 hB ⟨_, rfl, ?_⟩)
  obtain ⟨q, n, c, h1, h2⟩ := hB
  by_cases e : l = []
  · subst e
    exact br_no (by simp) (h H (Upd.refl _ _ _) hB0)
  · have : 0 < l.length := List.length_pos_iff.2 e
    refine br_yes (by simp; omega) (nn_r (st_t h1 rfl (by simp) fun H3 s3 h3 => ?_))
    exact h H3 ((s3.upd h1.1).mono fun τ hτ => .inl hτ) ⟨none, 0, 0, h3, SlT.nil⟩
end
end Go.Proofs.YtoddfageecbkcaaGreat

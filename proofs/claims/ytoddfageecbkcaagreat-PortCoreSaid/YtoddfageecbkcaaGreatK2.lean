/-
  CONTRACTS: the memory; a core's stores that wait; clones of slices.
-/
import Derived.Test.YtoddfageecbkcaaGreatK1
namespace Go.Proofs.YtoddfageecbkcaaGreat
open Go Go.Eng Sy
set_option linter.unusedVariables false
set_option linter.unusedSimpArgs false
set_option maxRecDepth 100000

def TRam (r : Nat) : Tg → Prop := fun τ => τ = (r, 3, 0, 0)
def TBuf (r i : Nat) : Tg → Prop := fun τ => τ = (r, 5, i, 0) ∨ τ = (r, 6, i, 0)

theorem get_int {l : List Int} {x : Int} (hx : 0 ≤ x ∧ x < l.length) : (l.map I)[x.toNat]? = some (I (l.getD x.toNat 0)) := by
  rw [List.getElem?_map, List.getElem?_eq_getElem (show x.toNat < l.length by omega)]
  simp [List.getD_eq_getElem?_getD, List.getElem?_eq_getElem (show x.toNat < l.length by omega)]

/-- A place of a slice of numbers is read. -/
theorem ld_sl {ow : Ow} {H : Hp} {τ : Tg} {q : Option Addr} {n c : Nat} {l : List Int} {x : Int} {k : Int → Prop} (h : SlT 1 ow H τ q n c (l.map I)) (hx : 0 ≤ x ∧ x < n) (hk : k (l.getD x.toNat 0)) :
    ixS q x n fun a => ldI .i64 H (a.add (x.toNat * 1)) k := by
  have hl : l.length = n := by simpa using h.len1
  obtain ⟨b, o, cs, rfl, h1, h2, h3, h4⟩ := h.place (by simp; omega)
  refine ⟨_, rfl, hx, ?_⟩
  show ldI .i64 H ((⟨b, o, none⟩ : Addr).add (x.toNat * 1)) k
  rw [add_mk, Nat.mul_one]
  refine ldI_r h1.2 ?_ hk
  rw [h2 x.toNat (by simp; omega)]
  exact get_int (by omega)

/-- A place of a slice of numbers is written. -/
theorem st_sl {ow : Ow} {H : Hp} {τ : Tg} {q : Option Addr} {n c : Nat} {l : List Int} {x w : Int} {k : Hp → Prop} (h : SlT 1 ow H τ q n c (l.map I)) (hx : 0 ≤ x ∧ x < n)
    (hk : ∀ H', Upd (· = τ) ow H ow H' → SlT 1 ow H' τ q n c ((l.set x.toNat w).map I) → k H') : ixS q x n fun a => st H (a.add (x.toNat * 1)) (I w) k := by
  have hl : l.length = n := by simpa using h.len1
  obtain ⟨b, o, cs, rfl, h1, h2, h3, h4⟩ := h.place (by simp; omega)
  refine ⟨_, rfl, hx, ?_⟩
  show st H ((⟨b, o, none⟩ : Addr).add (x.toNat * 1)) (I w) k
  rw [add_mk, Nat.mul_one]
  refine st_t h1 rfl (by simp at h3; omega) fun H' s h' => hk H' (s.upd h1.1) ?_
  have := h4 x.toNat (I w) H' (by simp; omega) h'
  rw [List.map_set]; exact this

section
variable {m : Amb} {r : Nat} {ow : Ow} {H : Hp} {K : Value → Hp → Prop}

theorem C111 {b : Nat} {ws : List Int} {a : Int} (hR : RamR r ow H b ws) (hl : ws.length ≤ 65536) (ha : i64 a) (h : K (I (if 0 ≤ a ∧ a < ws.length then 0 else 4)) H) : CallsH Tryz.prog m 111 [Pt b, I a, I 1] H K := by
  obtain ⟨q, n, c, h1, h2⟩ := hR
  have hn : ws.length = n := by simpa using h2.len1
  refine S111 (br_f (br_f ?_))
  by_cases e0 : a < 0
  · rw [if_neg (by omega)] at h
    exact br_yes (by simpa using e0) h
  · refine br_no (by simpa using e0) (nn_r (ldS_r h1.2 rfl ?_))
    by_cases e1 : a > n
    · rw [if_neg (by omega)] at h
      exact br_yes (by simpa using e1) h
    · refine br_no (by simpa using e1) (nn_r (ldS_r h1.2 rfl ?_))
      rw [wr_i64 (by omega) (by omega)]
      by_cases e2 : a < n
      · rw [if_pos (by omega)] at h
        exact br_no (by simp; omega) h
      · rw [if_neg (by omega)] at h
        exact br_yes (by simp; omega) h

theorem C65 {b : Nat} {ws : List Int} {a : Int} (hR : RamR r ow H b ws) (hl : ws.length ≤ 65536) (ha : 0 ≤ a ∧ a < ws.length) (h : K (.tuple #[I (ws.getD a.toNat 0), I 0]) H) : CallsH Tryz.prog m 65 [Pt b, I a] H K := by
  refine S65 (C111 hR hl ⟨by omega, by omega⟩ ?_)
  rw [if_pos ha]
  obtain ⟨q, n, c, h1, h2⟩ := hR
  have hn : ws.length = n := by simpa using h2.len1
  refine ⟨_, rfl, br_f (nn_r (ldS_r h1.2 rfl (ld_sl h2 (by omega) h)))⟩

theorem C65n {b : Nat} {ws : List Int} {a : Int} (hR : RamR r ow H b ws) (hl : ws.length ≤ 65536) (ha : i64 a) (hn : ¬ (0 ≤ a ∧ a < ws.length)) (h : K (.tuple #[I 0, I 4]) H) : CallsH Tryz.prog m 65 [Pt b, I a] H K := by
  refine S65 (C111 hR hl ha ?_)
  rw [if_neg hn]
  exact ⟨_, rfl, br_t h⟩

theorem C123 {b : Nat} {ws : List Int} {a w : Int} (hR : RamR r ow H b ws) (hl : ws.length ≤ 65536) (ha : 0 ≤ a ∧ a < ws.length) (hw : 0 ≤ w ∧ w < 65536)
    (h : ∀ H', Upd (TRam r) ow H ow H' → RamR r ow H' b (ws.set a.toNat w) → K (I 0) H') : CallsH Tryz.prog m 123 [Pt b, I a, I 1, I w] H K := by
  refine S123 (C111 hR hl ⟨by omega, by omega⟩ ?_)
  rw [if_pos ha]
  have hR0 := hR
  refine ⟨_, rfl, br_f (br_no (by simp; omega) (br_no (by simp; omega) ?_))⟩
  refine ⟨fun i A => (i = 0 ∧ A = H) ∨ (i = 1 ∧ Upd (TRam r) ow H ow A ∧ RamR r ow A b (ws.set a.toNat w)), fun i _ => (1 - i).toNat, .inl ⟨rfl, rfl⟩, ?_⟩
  rintro i A l _ hI hl2
  rcases hI with ⟨rfl, rfl⟩ | ⟨rfl, u, hR'⟩
  · obtain ⟨q, n, c, h1, h2⟩ := hR
    have hn : ws.length = n := by simpa using h2.len1
    refine br_yes (by simp) (nn_r (ldS_r h1.2 rfl ?_))
    have e : wr .i64 (a + 0) = a := by rw [Int.add_zero]; exact wr_i64 (by omega) (by omega)
    rw [e]
    refine st_sl h2 (by omega) fun H' u' s' => ⟨.inr ⟨by decide, u', ⟨q, n, c, h1.upd u' (by simp), s'⟩⟩, ?_⟩
    subst hl2; exact (by decide : Nat.succ (1 - wr .i64 (0 + 1)).toNat ≤ (1 - (0 : Int)).toNat)
  · exact br_no (by simp) (h A u hR')

theorem C100 {b : Nat} {ws : List Int} {a w : Int} (hR : RamR r ow H b ws) (hl : ws.length ≤ 65536) (ha : 0 ≤ a ∧ a < ws.length) (hw : 0 ≤ w ∧ w < 65536)
    (h : ∀ H', Upd (TRam r) ow H ow H' → RamR r ow H' b (ws.set a.toNat w) → K (I 0) H') : CallsH Tryz.prog m 100 [Pt b, I a, I w] H K := by
  refine S100 (C123 hR hl ha hw fun H' u hR' => ⟨_, rfl, h H' u hR'⟩)

theorem ncap {n c : Nat} (h : n ≤ c + 1) (hn : n ≤ 256) (hc : c < n) : Builtin.nextslicecap n c ≤ 1024 := by
  simp only [Builtin.nextslicecap]
  split
  · omega
  · split <;> omega

/-- A slice of one-cell values is cloned. -/
theorem clone_go {e bytes : Nat} {τ τ0 : Tg} {q : Option Addr} {n c : Nat} {vs : List Value} {K' : Option Addr → Nat → Nat → Hp → Prop} (hz : (zc Tryz.prog e).length = 1) (hb : bytes ≤ 16)
    (hs : SlT 1 ow H τ0 q n c vs) (h1 : oneCells vs) (hn : n ≤ 2 ^ 40) (h : ∀ ow' H' q' c', Upd Tno ow H ow' H' → SlT 1 ow' H' τ q' n c' vs → K' q' n c' H') :
    br q.isNone (K' none 0 0 H) (nw H [] e fun a0 H1 => rd H1 q (n * 1) fun cs => ap Tryz.prog e 1 bytes H1 (some a0) 0 0 cs n K') := by
  cases q with
  | none =>
    obtain ⟨rfl, rfl, rfl⟩ := hs.none_nil
    exact br_t (h ow H none 0 (Upd.refl _ _ _) SlT.nil)
  | some a =>
    refine br_f (nw_t (ow := ow) τ ?_)
    intro ow1 H1 b u1 hb1 g1
    have hs1 := hs.upd u1 id
    refine rd_t hs1 ?_
    refine ap_t (τ := τ) (vs := []) hz ⟨rfl, Nat.le_refl _, .inr ⟨b, [], [], [], rfl, g1, rfl⟩⟩ hs.1 h1 (by omega) ?_ ?_
    · intro _
      simp only [Builtin.nextslicecap]
      rw [if_pos (by omega)]
      have : (0 + n) * bytes ≤ 2 ^ 40 * 16 := Nat.mul_le_mul (by omega) hb
      omega
    · intro ow2 q' c' H2 u2 g2 _ s2
      rw [Nat.zero_add] at s2 ⊢
      refine h ow2 H2 q' c' ?_ s2
      refine ⟨Nat.le_trans u1.size u2.size, fun x hx => (u2.own x (Nat.lt_of_lt_of_le hx u1.size)).trans (u1.own x hx), fun x hx _ => ?_⟩
      rw [g2 x (Nat.lt_of_lt_of_le hx u1.size) (by rintro o ho; cases ho; omega)]
      exact u1.same x hx id

end
end Go.Proofs.YtoddfageecbkcaaGreat

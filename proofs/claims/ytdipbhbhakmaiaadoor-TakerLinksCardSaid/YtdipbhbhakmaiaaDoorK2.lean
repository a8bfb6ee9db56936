/-
  CONTRACTS: the plain port and the one that keeps what is touched.
-/
import Derived.Test.YtdipbhbhakmaiaaDoorK1
import Derived.Test.YtdipbhbhakmaiaaDoorT1
namespace Go.Proofs.YtdipbhbhakmaiaaDoor
open Go Go.Eng
set_option linter.unusedVariables false
set_option linter.unusedSimpArgs false
set_option maxRecDepth 100000

/-- A plain port of words and epochs. -/
structure Pln (N : Nat) (H : Hp) (b : Nat) (ws es : List Int) : Prop where
  ex : ∃ q n c q' n' c' k M, cells H b = some [.slice q n c, .slice q' n' c', k] ∧ Sl 1 N H q n c (ws.map I) ∧ Sl 1 M H q' n' c' (es.map I) ∧ N ≤ M ∧ M ≤ b ∧ (∀ x, q = at0 x → x < M) ∧ (∀ x, q' = at0 x → x < b)

theorem Pln.keep {N : Nat} {H H' : Hp} {b : Nat} {ws es : List Int} (h : Pln N H b ws es) (hk : ∀ b cs, N ≤ b → cells H b = some cs → cells H' b = some cs) : Pln N H' b ws es := by
  obtain ⟨q, n, c, q', n', c', k, M, h1, h2, h3, h4, h5, h6, h7⟩ := h.ex
  exact ⟨q, n, c, q', n', c', k, M, hk _ _ (Nat.le_trans h4 h5) h1, h2.keep hk, h3.keep (fun b cs hb => hk b cs (Nat.le_trans h4 hb)), h4, h5, h6, h7⟩
theorem Pln.ext {N : Nat} {H H' : Hp} {b : Nat} {ws es : List Int} (h : Pln N H b ws es) (he : Ext H H') : Pln N H' b ws es := h.keep fun _ _ _ hc => he.cells hc
theorem Pln.size {N : Nat} {H : Hp} {b : Nat} {ws es : List Int} (h : Pln N H b ws es) : N ≤ b ∧ b < H.size := by
  obtain ⟨q, n, c, q', n', c', k, M, h1, h2, h3, h4, h5, h6, h7⟩ := h.ex
  exact ⟨Nat.le_trans h4 h5, cells_lt h1⟩

theorem Sl.lt {esz N : Nat} {H : Hp} {q : Option Addr} {n c : Nat} {vs : List Value} (h : Sl esz N H q n c vs) : ∀ x, q = at0 x → x < H.size ∧ N ≤ x := by
  rintro x rfl
  rcases h.2 with ⟨h, _⟩ | ⟨b, rest, h1, h2, h3, h4⟩
  · cases h
  · cases h1; exact ⟨cells_lt h3, h2⟩

/-- The number at a place, or none. -/
def nth (l : List Int) (i : Int) : Int := if 0 ≤ i ∧ i < l.length then l.getD i.toNat 0 else 0

theorem ldI_i {kk : IntKind} {H : Hp} {b : Nat} {x v : Int} {cs : List Value} {k : Int → Prop} (h : cells H b = some cs) (hx : cs[x.toNat]? = some (.int kk v)) (hk : k v) : ldI kk H ((⟨b, 0, none⟩ : Addr).add (x.toNat * 1)) k := by
  rw [add_mk, Nat.zero_add, Nat.mul_one]; exact ldI_r h hx hk

section
variable {m : Amb} {H : Hp} {K : Value → Hp → Prop}

theorem C7 {N : Nat} {q : Option Addr} {n c : Nat} {l : List Int} {q' : Option Addr} {n' c' : Nat} {l' : List Int} (hs : Sl 1 N H q n c (l.map I)) (hs' : Sl 1 N H q' n' c' (l'.map I)) (hn : n ≤ 2 ^ 40) (hn' : n' ≤ 2 ^ 40)
    (h : ∀ b H', Ext H H' → Pln H.size H' b (wd l) (wd l') → K (.pointer (at0 b)) H') : CallsH Tryd.prog m 7 [.slice q n c, .slice q' n' c'] H K := by
  refine S7 ?_
  refine C47 hs hn ?_
  intro r k1 H1 e1 s1
  refine ⟨r, n, k1, rfl, C47 (hs'.ext e1) hn' ?_⟩
  intro r' k2 H2 e2 s2
  refine ⟨r', n', k2, rfl, nw_r ?_⟩
  rintro _ H3 e3 rfl hz hc
  refine h _ _ ((e1.trans e2).trans e3) ?_
  exact ⟨r, n, k1, r', n', k2, _, H1.size, hc, (s1.ext e2).ext e3, s2.ext e3, e1.size, e2.size, fun x hx => (s1.lt x hx).1, fun x hx => (s2.lt x hx).1⟩

theorem C25 {N b : Nat} {ws es : List Int} {x : Int} (hp : Pln N H b ws es) (h : K (I (nth ws x)) H) : CallsH Tryd.prog m 25 [.pointer (at0 b), I x] H K := by
  obtain ⟨q, n, c, q', n', c', k, M, h1, h2, h3, h4, h5, h6, h7⟩ := hp.ex
  have hl : ws.length = n := by simpa using h2.1
  refine S25 ?_
  refine br_f (nn_r (ldS_r h1 rfl (C56 ⟨_, rfl, ?_⟩)))
  by_cases hx : 0 ≤ x ∧ x < n
  · refine br_no (by simp [hx]) (nn_r (ldS_r h1 rfl ?_))
    rcases h2.2 with ⟨_, e2, _⟩ | ⟨bw, rest, e1, e2, e3, e4⟩
    · omega
    · refine ⟨_, e1, ⟨hx.1, hx.2⟩, ldI_i (v := ws.getD x.toNat 0) e3 ?_ ?_⟩
      · rw [List.getElem?_append_left (by simp; omega), List.getElem?_map]
        rw [List.getElem?_eq_getElem (show x.toNat < ws.length by omega)]
        simp [List.getD_eq_getElem?_getD, List.getElem?_eq_getElem (show x.toNat < ws.length by omega)]
      · rw [nth, if_pos (by omega)] at h; exact h
  · refine br_yes (by simp; omega) ?_
    rw [nth, if_neg (by omega)] at h; exact h

theorem C109 {N b : Nat} {ws es : List Int} {x : Int} (hp : Pln N H b ws es) (h : K (I (nth es x)) H) : CallsH Tryd.prog m 109 [.pointer (at0 b), I x] H K := by
  obtain ⟨q, n, c, q', n', c', k, M, h1, h2, h3, h4, h5, h6, h7⟩ := hp.ex
  have hl : es.length = n' := by simpa using h3.1
  refine S109 ?_
  refine br_f (nn_r (ldS_r h1 rfl (C56 ⟨_, rfl, ?_⟩)))
  by_cases hx : 0 ≤ x ∧ x < n'
  · refine br_no (by simp [hx]) (nn_r (ldS_r h1 rfl ?_))
    rcases h3.2 with ⟨_, e2, _⟩ | ⟨bw, rest, e1, e2, e3, e4⟩
    · omega
    · refine ⟨_, e1, ⟨hx.1, hx.2⟩, ldI_i (v := es.getD x.toNat 0) e3 ?_ ?_⟩
      · rw [List.getElem?_append_left (by simp; omega), List.getElem?_map]
        rw [List.getElem?_eq_getElem (show x.toNat < es.length by omega)]
        simp [List.getD_eq_getElem?_getD, List.getElem?_eq_getElem (show x.toNat < es.length by omega)]
      · rw [nth, if_pos (by omega)] at h; exact h
  · refine br_yes (by simp; omega) ?_
    rw [nth, if_neg (by omega)] at h; exact h

def flat (ts : List (Int × Int × Int)) : List Value := ts.flatMap fun t => [I t.1, I t.2.1, I t.2.2]
theorem flat_append (a b : List (Int × Int × Int)) : flat (a ++ b) = flat a ++ flat b := by simp [flat]

/-- A port that keeps what is touched. -/
def Trc (H : Hp) (b : Nat) (v : Value) (ts : List (Int × Int × Int)) : Prop := ∃ q n c, cells H b = some [v, .slice q n c] ∧ n = ts.length ∧ Sl 3 (b + 1) H q n c (flat ts)

theorem Trc.keep {H H' : Hp} {b : Nat} {v : Value} {ts : List (Int × Int × Int)} (h : Trc H b v ts) (hk : ∀ x cs, b ≤ x → cells H x = some cs → cells H' x = some cs) : Trc H' b v ts := by
  obtain ⟨q, n, c, h1, h2, h3⟩ := h
  exact ⟨q, n, c, hk _ _ (Nat.le_refl _) h1, h2, h3.keep fun x cs hx => hk x cs (by omega)⟩
theorem Trc.ext {H H' : Hp} {b : Nat} {v : Value} {ts : List (Int × Int × Int)} (h : Trc H b v ts) (he : Ext H H') : Trc H' b v ts := h.keep fun _ _ _ hc => he.cells hc

theorem C36 {t : TypeId} {x : Value} (h : ∀ b H', Ext H H' → b = H.size → Trc H' b (.iface t x) [] → K (.pointer (at0 b)) H') : CallsH Tryd.prog m 36 [.iface t x] H K := by
  refine S36 ?_
  refine .inr ⟨t, x, rfl, br_f (must_r rfl (nw_r ?_))⟩
  rintro b H1 e1 hb hz hc
  exact h b H1 e1 hb ⟨none, 0, 0, hc, rfl, rfl, .inl ⟨rfl, rfl, rfl⟩⟩

theorem C115 {b : Nat} {v : Value} {ts : List (Int × Int × Int)} {k a w : Int} (hT : Trc H b v ts) (hl : ts.length < 256) (h : ∀ H', But (b ≤ ·) H H' → Trc H' b v (ts ++ [(k, a, w)]) → K (.tuple #[]) H') : CallsH Tryd.prog m 115 [.pointer (at0 b), I k, I a, I w] H K := by
  obtain ⟨q, n, c, h1, h2, h3⟩ := hT
  refine S115 ?_
  refine nn_r (ldS_r h1 rfl (nw_r ?_))
  rintro _ H1 e1 rfl hz hc
  refine .inr ⟨_, rfl, rfl, _, hc, by simp, ?_⟩
  have hnc : n ≤ c := by
    rcases h3.2 with ⟨_, e2, _⟩ | ⟨_, rest, _, _, _, e4⟩
    · omega
    · have := h3.1; omega
  refine ap_sl (N := b + 1) (by rw [zc76]; rfl) (h3.ext e1) (by have := cells_lt h1; have := e1.size; omega) (by rfl) (by intro v hv; simp at hv; rcases hv with rfl | rfl | rfl <;> rfl) (by omega) ?_ ?_
  · intro hlt
    obtain rfl : c = n := by omega
    simp only [Builtin.nextslicecap]
    split
    · omega
    · rw [if_pos (by omega)]; omega
  · intro q' c' H2 hb2 s2
    have hc2 : cells H2 b = some [v, .slice q n c] := hb2.cells (by omega) (e1.cells h1)
    refine nn_r (st_r hc2 rfl (by simp) ?_)
    refine h _ ?_ ?_
    · refine But.set ?_ (.inl (Nat.le_refl b)) _
      refine (But.of_ext e1).trans (hb2.mono ?_)
      rintro x ⟨hx, _⟩
      exact Or.inl (by omega)
    · refine ⟨q', n + 1, c', cells_set hc2, by simp [h2], ?_⟩
      refine Sl.keep (H := H2) ?_ ?_
      · rw [flat_append]; exact s2
      · intro x cs hx hcx
        show cells (setBlk H2 b _) x = _
        rw [cells_set_ne (by omega)]; exact hcx

theorem inv_r {P : Program} {v x : Value} {t : TypeId} {name : String} {f : FuncId} {r : Value} {args : List Value} {k : Value → Hp → Prop} (hv : v = .iface t x) (hc : callable P f = true) (hm : ∀ d, (method (P.types.size + Made.depth) t x name).run P (mkW m H d) = .ok (f, r) (mkW m H d)) (h : CallsH P m f (r :: args) H k) : inv P m v name args H k := ⟨t, x, f, r, hv, hc, hm, h⟩

theorem IPload {q : Option Addr} {args : List Value} (h : CallsH Tryd.prog m 25 (.pointer q :: args) H K) : inv Tryd.prog m (.iface 26 (.pointer q)) "Load" args H K :=
  inv_r rfl (by kernel_rfl) (fun d => by kernel_rfl) h
theorem IPepoch {q : Option Addr} {args : List Value} (h : CallsH Tryd.prog m 109 (.pointer q :: args) H K) : inv Tryd.prog m (.iface 26 (.pointer q)) "Epoch" args H K :=
  inv_r rfl (by kernel_rfl) (fun d => by kernel_rfl) h
theorem ITload {q : Option Addr} {args : List Value} (h : CallsH Tryd.prog m 113 (.pointer q :: args) H K) : inv Tryd.prog m (.iface 72 (.pointer q)) "Load" args H K :=
  inv_r rfl (by kernel_rfl) (fun d => by kernel_rfl) h
theorem ITepoch {q : Option Addr} {args : List Value} (h : CallsH Tryd.prog m 111 (.pointer q :: args) H K) : inv Tryd.prog m (.iface 72 (.pointer q)) "Epoch" args H K :=
  inv_r rfl (by kernel_rfl) (fun d => by kernel_rfl) h
theorem NT {q : Option Addr} {name : String} {k : Prop} (hn : name = "Load" ∨ name = "Epoch" ∨ name = "Store" ∨ name = "Fence") (h : k) : nmv Tryd.prog (.iface 72 (.pointer q)) name k :=
  ⟨⟨_, _, rfl, by rcases hn with rfl | rfl | rfl | rfl <;> (intro w; kernel_rfl)⟩, h⟩

theorem C113 {N b bp : Nat} {ws es : List Int} {ts : List (Int × Int × Int)} {x : Int} (hT : Trc H b (.iface 26 (.pointer (at0 bp))) ts) (hp : Pln N H bp ws es) (hlt : bp < b) (hl : ts.length < 256)
    (h : ∀ H', But (b ≤ ·) H H' → Trc H' b (.iface 26 (.pointer (at0 bp))) (ts ++ [(1, x, nth ws x)]) → K (I (nth ws x)) H') : CallsH Tryd.prog m 113 [.pointer (at0 b), I x] H K := by
  refine S113 ?_
  obtain ⟨q, n, c, h1, h2, h3⟩ := hT
  refine br_f (nn_r (ldV_r h1 rfl rfl (IPload (C25 hp ⟨_, rfl, ?_⟩))))
  exact C115 ⟨q, n, c, h1, h2, h3⟩ hl fun H' hb ht => ⟨rfl, h H' hb ht⟩

theorem C111 {N b bp : Nat} {ws es : List Int} {ts : List (Int × Int × Int)} {x : Int} (hT : Trc H b (.iface 26 (.pointer (at0 bp))) ts) (hp : Pln N H bp ws es) (hlt : bp < b) (hl : ts.length < 256)
    (h : ∀ H', But (b ≤ ·) H H' → Trc H' b (.iface 26 (.pointer (at0 bp))) (ts ++ [(4, x, nth es x)]) → K (I (nth es x)) H') : CallsH Tryd.prog m 111 [.pointer (at0 b), I x] H K := by
  refine S111 ?_
  obtain ⟨q, n, c, h1, h2, h3⟩ := hT
  refine br_f (nn_r (ldV_r h1 rfl rfl (IPepoch (C109 hp ⟨_, rfl, ?_⟩))))
  exact C115 ⟨q, n, c, h1, h2, h3⟩ hl fun H' hb ht => ⟨rfl, h H' hb ht⟩

theorem C37 {b : Nat} {v : Value} {ts : List (Int × Int × Int)} (hT : Trc H b v ts) (hl : ts.length < 256) (h : ∀ q c H', Ext H H' → Sl 3 H.size H' q ts.length c (flat ts) → K (.slice q ts.length c) H') : CallsH Tryd.prog m 37 [.pointer (at0 b)] H K := by
  obtain ⟨q, n, c, h1, h2, h3⟩ := hT
  subst h2
  refine S37 ?_
  refine br_f (nn_r (ldS_r h1 rfl ?_))
  refine S67 ?_
  cases q with
  | none =>
    have h0 : ts = [] := by
      rcases h3.2 with ⟨_, e2, _⟩ | ⟨x, r, e, _⟩
      · exact List.length_eq_zero_iff.1 e2
      · cases e
    subst h0
    exact br_t ⟨none, 0, 0, rfl, h none 0 H (Ext.refl _) ⟨rfl, .inl ⟨rfl, rfl, rfl⟩⟩⟩
  | some a =>
    refine br_f (nw_r ?_)
    rintro _ H1 e1 rfl hz hc
    refine rd_sl (h3.ext e1) ?_
    refine ap_sl (N := H.size) (vs := []) (by rw [zc76]; rfl) ⟨rfl, .inr ⟨_, [], rfl, Nat.le_refl _, hc, rfl⟩⟩ (by omega) h3.1 (by intro v hv; simp [flat] at hv; obtain ⟨a, b, c, _, rfl | rfl | rfl⟩ := hv <;> rfl) (by omega) ?_ ?_
    · intro _
      simp only [Builtin.nextslicecap]
      rw [if_pos (by omega)]; omega
    · intro q' c' H' hb hsl
      rw [Nat.zero_add] at hsl
      refine ⟨_, _, _, by rw [Nat.zero_add], h q' c' H' ?_ hsl⟩
      exact ⟨Nat.le_trans e1.size hb.size, fun b hbl => by rw [hb.same b (Nat.lt_of_lt_of_le hbl e1.size) (by rintro ⟨h1, _⟩; omega)]; exact e1.same b hbl⟩
end
end Go.Proofs.YtdipbhbhakmaiaaDoor

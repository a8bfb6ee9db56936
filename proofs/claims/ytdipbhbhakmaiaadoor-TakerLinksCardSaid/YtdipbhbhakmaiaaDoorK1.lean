/-
  CONTRACTS: slices, the plain port and the one that keeps what is touched.
-/
import Derived.Test.YtdipbhbhakmaiaaDoorK0
namespace Go.Proofs.YtdipbhbhakmaiaaDoor
open Go Go.Eng
set_option linter.unusedVariables false
set_option linter.unusedSimpArgs false
set_option maxRecDepth 100000

/-- A slice whose places read so; its block is at 'N' or behind. -/
def Sl (esz N : Nat) (H : Hp) (q : Option Addr) (n c : Nat) (vs : List Value) : Prop :=
  vs.length = n * esz ∧ ((q = none ∧ n = 0 ∧ c = 0) ∨ ∃ b rest, q = at0 b ∧ N ≤ b ∧ cells H b = some (vs ++ rest) ∧ vs.length + rest.length = c * esz)

theorem Sl.keep {esz N : Nat} {H H' : Hp} {q : Option Addr} {n c : Nat} {vs : List Value} (h : Sl esz N H q n c vs) (hk : ∀ b cs, N ≤ b → cells H b = some cs → cells H' b = some cs) : Sl esz N H' q n c vs := by
  refine ⟨h.1, ?_⟩
  rcases h.2 with h | ⟨b, rest, h1, h2, h3, h4⟩
  · exact .inl h
  · exact .inr ⟨b, rest, h1, h2, hk _ _ h2 h3, h4⟩
theorem Sl.ext {esz N : Nat} {H H' : Hp} {q : Option Addr} {n c : Nat} {vs : List Value} (h : Sl esz N H q n c vs) (he : Ext H H') : Sl esz N H' q n c vs := h.keep fun _ _ _ hc => he.cells hc
theorem Sl.low {esz N N' : Nat} {H : Hp} {q : Option Addr} {n c : Nat} {vs : List Value} (h : Sl esz N H q n c vs) (he : N' ≤ N) : Sl esz N' H q n c vs := by
  refine ⟨h.1, ?_⟩
  rcases h.2 with h | ⟨b, rest, h1, h2, h3, h4⟩
  · exact .inl h
  · exact .inr ⟨b, rest, h1, Nat.le_trans he h2, h3, h4⟩

theorem zeroCells_size (z : Array Value) (n : Nat) : (Builtin.zeroCells z n).size = n * z.size := by simp [Builtin.zeroCells]

theorem zc3 : zc Tryd.prog 3 = [I 0] := by kernel_rfl
theorem zc76 : zc Tryd.prog 76 = [I 0, I 0, I 0] := by kernel_rfl

theorem rd_sl {esz N : Nat} {H : Hp} {q : Option Addr} {n c : Nat} {vs : List Value} {k : List Value → Prop} (h : Sl esz N H q n c vs) (hk : k vs) : rd H q (n * esz) k := by
  obtain ⟨hl, h⟩ := h
  rcases h with ⟨h1, h2, h3⟩ | ⟨b, rest, h1, h2, h3, h4⟩
  · left; subst h2; refine ⟨by simp, ?_⟩
    rw [Nat.zero_mul, List.length_eq_zero_iff] at hl; subst hl; exact hk
  · right; refine ⟨_, h1, rfl, _, h3, by simp [hl], ?_⟩
    show k ((List.drop 0 (vs ++ rest)).take (n * esz))
    rw [List.drop_zero, ← hl, List.take_left]; exact hk

/-- What is joined on. -/
theorem ap_sl {e esz bytes N : Nat} {H : Hp} {q : Option Addr} {n c : Nat} {vs new : List Value} {len : Nat} {k : Option Addr → Nat → Nat → Hp → Prop}
    (hz : (zc Tryd.prog e).length = esz) (h : Sl esz N H q n c vs) (hN : N ≤ H.size) (hnew : new.length = len * esz) (h1 : ∀ v ∈ new, v.oneCell' = true) (h62 : n + len < 2 ^ 62) (hb : c < n + len → Builtin.nextslicecap (n + len) c * bytes ≤ 2 ^ 48)
    (hk : ∀ q' c' H', But (fun b => N ≤ b ∧ ∃ o, q = some ⟨b, o, none⟩) H H' → Sl esz N H' q' (n + len) c' (vs ++ new) → k q' (n + len) c' H') : ap Tryd.prog e esz bytes H q n c new len k := by
  refine ⟨fun hle => ?_, fun hlt => ⟨h62, hb hlt, rd_sl h fun c' hc1 hc2 => ?_⟩⟩
  · by_cases hnil : new = []
    · left; refine ⟨hnil, ?_⟩
      have hl0 : len * esz = 0 := by rw [← hnew, hnil]; rfl
      subst hnil
      refine hk _ _ _ (But.refl _ _) ?_
      refine ⟨by rw [List.append_nil, h.1, Nat.add_mul, hl0, Nat.add_zero], ?_⟩
      rcases h.2 with ⟨e1, e2, e3⟩ | ⟨b, rest, e1, e2, e3, e4⟩
      · exact .inl ⟨e1, by omega, e3⟩
      · exact .inr ⟨b, rest, e1, e2, by rw [List.append_nil]; exact e3, by rw [List.append_nil]; exact e4⟩
    · right
      obtain ⟨hl, h⟩ := h
      rcases h with ⟨e1, e2, e3⟩ | ⟨b, rest, e1, e2, e3, e4⟩
      · exfalso; apply hnil; rw [← List.length_eq_zero_iff, hnew]; have : len = 0 := by omega
        rw [this, Nat.zero_mul]
      · have hsz : vs.length + new.length ≤ (vs ++ rest).length := by
          rw [List.length_append, e4, hl, hnew, ← Nat.add_mul]; exact Nat.mul_le_mul_right _ hle
        refine ⟨_, e1, rfl, h1, _, e3, ?_, ?_⟩
        · show 0 + n * esz + new.length ≤ _
          rw [Nat.zero_add, ← hl]; exact hsz
        · refine hk _ _ _ ((But.refl _ _).set (.inl ⟨e2, 0, e1⟩) _) ?_
          refine ⟨by rw [List.length_append, hl, hnew, Nat.add_mul], .inr ⟨b, rest.drop new.length, e1, e2, ?_, ?_⟩⟩
          · rw [cells_set e3]
            show some (over (vs ++ rest) (0 + n * esz) new) = _
            rw [Nat.zero_add, ← hl, over, List.take_left, List.drop_append]
            simp
          · rw [List.length_append] at hsz ⊢
            rw [List.length_drop]; omega
  · refine hk _ _ _ (But.of_ext (Ext.push _ _)) ?_
    refine ⟨by rw [List.length_append, h.1, hnew, Nat.add_mul], .inr ⟨_, (Builtin.zeroCells (zc Tryd.prog e).toArray (c' - (n + len))).toList, rfl, hN, ?_, ?_⟩⟩
    · rw [cells_push_new]; simp
    · rw [List.length_append, h.1, hnew, Array.length_toList, zeroCells_size, List.size_toArray, hz, ← Nat.add_mul, ← Nat.add_mul]
      congr 1; omega

section
variable {m : Amb} {H : Hp} {K : Value → Hp → Prop}

theorem C49 {N : Nat} {q : Option Addr} {n c : Nat} {vs : List Value} (hs : Sl 1 N H q n c vs) (h1 : ∀ v ∈ vs, v.oneCell' = true) (hn : n ≤ 2 ^ 40)
    (h : ∀ q' c' H', Ext H H' → Sl 1 H.size H' q' n c' vs → K (.slice q' n c') H') : CallsH Tryd.prog m 49 [.slice q n c] H K := by
  refine S49 ?_
  cases q with
  | none =>
    have h0 : n = 0 ∧ vs = [] := by
      obtain ⟨hl, hs⟩ := hs
      rcases hs with ⟨_, e2, _⟩ | ⟨b, r, e, _⟩
      · subst e2; exact ⟨rfl, by rw [Nat.zero_mul, List.length_eq_zero_iff] at hl; exact hl⟩
      · exact absurd e (by simp)
    obtain ⟨rfl, rfl⟩ := h0
    exact br_t (h none 0 H (Ext.refl _) ⟨rfl, .inl ⟨rfl, rfl, rfl⟩⟩)
  | some a =>
    refine br_f (nw_r ?_)
    rintro _ H1 e1 rfl hz hc
    refine rd_sl (hs.ext e1) ?_
    refine ap_sl (N := H.size) (vs := []) (by rw [zc3]; rfl) ⟨rfl, .inr ⟨_, [], rfl, Nat.le_refl _, hc, rfl⟩⟩ (by omega) hs.1 h1 (by omega) ?_ ?_
    · intro _
      simp only [Builtin.nextslicecap]
      rw [if_pos (by omega)]; omega
    · intro q' c' H' hb hsl
      rw [Nat.zero_add] at hsl
      refine (Nat.zero_add n).symm ▸ h q' c' H' ?_ hsl
      exact ⟨Nat.le_trans e1.size hb.size, fun b hbl => by rw [hb.same b (Nat.lt_of_lt_of_le hbl e1.size) (by rintro ⟨h1, _⟩; omega)]; exact e1.same b hbl⟩

/-- Numbers as words. -/
def wd (l : List Int) : List Int := l.map (· % 65536)

theorem wd_now (l : List Int) (j : Nat) (h : j < l.length) (rest : List Value) : (wd (l.take j) ++ l.drop j).map I ++ rest = (wd (l.take j)).map I ++ I l[j] :: ((l.drop (j + 1)).map I ++ rest) := by
  rw [List.drop_eq_getElem_cons h]
  simp only [List.map_append, List.map_cons, List.append_assoc, List.cons_append]
theorem wd_next (l : List Int) (j : Nat) (h : j < l.length) (rest : List Value) : (wd (l.take (j + 1)) ++ l.drop (j + 1)).map I ++ rest = (wd (l.take j)).map I ++ I (l[j] % 65536) :: ((l.drop (j + 1)).map I ++ rest) := by
  rw [List.take_succ_eq_append_getElem h]
  simp only [wd, List.map_append, List.map_cons, List.map_nil, List.append_assoc, List.cons_append, List.nil_append]

theorem C47 {N : Nat} {q : Option Addr} {n c : Nat} {l : List Int} (hs : Sl 1 N H q n c (l.map I)) (hn : n ≤ 2 ^ 40)
    (h : ∀ q' c' H', Ext H H' → Sl 1 H.size H' q' n c' ((wd l).map I) → K (.slice q' n c') H') : CallsH Tryd.prog m 47 [.slice q n c] H K := by
  refine S47 ?_
  refine C49 hs (by simp; intro a _; rfl) hn ?_
  intro q' c' H1 e1 hs1
  have hl : l.length = n := by have := hs.1; simpa using this
  refine ⟨q', n, c', rfl, ?_⟩
  refine ⟨fun i H' => ∃ j : Nat, i = (j : Int) ∧ j ≤ n ∧ Ext H H' ∧ Sl 1 H.size H' q' n c' (((wd (l.take j)) ++ l.drop j).map I), fun i _ => (n - i).toNat, ⟨0, rfl, by omega, e1, by simpa [wd] using hs1⟩, ?_⟩
  rintro _ H8 l9 _ ⟨j, rfl, hj, e8, hs8⟩ hl9
  by_cases hlt : j < n
  · refine br_yes (by simp; omega) ?_
    obtain ⟨hlen, hs8⟩ := hs8
    rcases hs8 with ⟨_, e2, _⟩ | ⟨b, rest, e1', e2', e3', e4'⟩
    · omega
    · have hsh : (wd (l.take j) ++ l.drop j).map I ++ rest = (wd (l.take j)).map I ++ I l[j] :: ((l.drop (j + 1)).map I ++ rest) := by
        exact wd_now l j (by omega) rest
      have hA : ((wd (l.take j)).map I).length = j := by simp [wd]; omega
      have hadd : (⟨b, 0, none⟩ : Addr).add ((j : Int).toNat * 1) = ⟨b, j, none⟩ := by rw [add_mk]; simp
      rw [hsh] at e3'
      refine ⟨_, e1', ⟨by omega, by omega⟩, ?_⟩
      show ldI _ _ ((⟨b, 0, none⟩ : Addr).add ((j : Int).toNat * 1)) _
      rw [hadd]
      refine ldI_r (x := l[j]) e3' (by rw [List.getElem?_append_right (by omega), hA]; simp) (C57 ⟨_, rfl, ⟨_, e1', ⟨by omega, by omega⟩, ?_⟩⟩)
      show st _ ((⟨b, 0, none⟩ : Addr).add ((j : Int).toNat * 1)) _ _
      rw [hadd]
      refine st_r e3' rfl (by rw [List.length_append, hA]; simp) ?_
      refine ⟨⟨j + 1, wr_i64 (by omega) (by omega), by omega, e8.set e2' _, ?_⟩, ?_⟩
      · refine ⟨by simp [wd]; omega, .inr ⟨b, rest, e1', e2', ?_, ?_⟩⟩
        · rw [cells_set e3', List.set_append_right _ _ (by omega), hA, Nat.sub_self, List.set_cons_zero]
          rw [wd_next l j (by omega)]
        · have h2 := e4'
          simp [wd] at h2 ⊢; omega
      · rw [wr_i64 (by omega) (by omega)]
        subst hl9
        show ((n : Int) - ((j : Int) + 1)).toNat + 1 ≤ ((n : Int) - (j : Int)).toNat
        omega
  · have : j = n := by omega
    subst this
    refine br_no (by simp) (h q' c' H8 e8 ?_)
    simpa [← hl] using hs8
end
end Go.Proofs.YtdipbhbhakmaiaaDoor

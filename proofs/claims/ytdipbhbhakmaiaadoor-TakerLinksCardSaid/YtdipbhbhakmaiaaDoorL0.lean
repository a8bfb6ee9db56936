/-
  THE WALK of the law of the new links, its parts.
-/
import Derived.Test.YtdipbhbhakmaiaaDoorK9
import Derived.Test.YtdipbhbhakmaiaaDoorK5
namespace Go.Proofs.YtdipbhbhakmaiaaDoor
open Go Go.Eng
set_option linter.unusedVariables false
set_option linter.unusedSimpArgs false
set_option maxRecDepth 100000

theorem nth_set {l : List Int} {j : Nat} (hj : j < l.length) (v i : Int) : nth (l.set j v) i = if i = (j : Int) then v else nth l i := by
  unfold nth
  rw [List.length_set]
  by_cases hi : 0 ≤ i ∧ i < l.length
  · rw [if_pos hi, if_pos hi]
    simp only [List.getD_eq_getElem?_getD, List.getElem?_set]
    by_cases hij : i = (j : Int)
    · rw [if_pos hij, if_pos (by omega), if_pos (by omega)]; rfl
    · rw [if_neg hij, if_neg (by omega)]
  · rw [if_neg hi, if_neg hi, if_neg (by omega)]

theorem nth_wd (l : List Int) (i : Int) : nth (wd l) i = nth l i % 65536 := by
  unfold nth wd
  rw [List.length_map]
  by_cases hi : 0 ≤ i ∧ i < l.length
  · rw [if_pos hi, if_pos hi]
    simp only [List.getD_eq_getElem?_getD, List.getElem?_map]
    rw [List.getElem?_eq_getElem (show i.toNat < l.length by omega)]; rfl
  · rw [if_neg hi, if_neg hi]; rfl

theorem nth_rep (n : Nat) (i : Int) : nth (List.replicate n (0 : Int)) i = 0 := by
  unfold nth; split
  · exact getD_rep n i.toNat (0 : Int)
  · rfl

theorem held_none {ring : Int} (hr : few4 ring) (gens : List Int) : (⟨ring, gens, List.replicate 64 false⟩ : Tb).heldL = [] := by
  rcases hr with rfl | rfl | rfl | rfl <;> rfl
theorem held_one {ring : Int} (hr : few4 ring) (gens : List Int) : (⟨ring, gens, (List.replicate 64 false).set 0 true⟩ : Tb).heldL = [0] := by
  rcases hr with rfl | rfl | rfl | rfl <;> rfl

section
variable {m : Amb} {H : Hp} {K : Value → Hp → Prop}

theorem C24 {N : Nat} {b n c : Nat} {q : Option Addr} {x y : Value} {l : List Int} (hc : cells H b = some [.slice q n c, x, y]) (hs : Sl 1 N H q n c (l.map I)) (hn : n ≤ 2 ^ 40) (h : ∀ q' c' H', Ext H H' → Sl 1 H.size H' q' n c' (l.map I) → K (.slice q' n c') H') : CallsH Tryd.prog m 24 [.pointer (at0 b)] H K := by
  refine S24 (br_f (nn_r (ldS_r hc rfl (C49 hs (by simp; intro a _; rfl) hn ?_))))
  intro q' c' H' e s
  exact ⟨_, _, _, rfl, h q' c' H' e s⟩

theorem C26 {N N' : Nat} {q q' : Option Addr} {n n' c c' : Nat} {l : List Int} (hs : Sl 1 N H q n c (l.map I)) (hs' : Sl 1 N' H q' n' c' (l.map I)) (hn : n ≤ 2 ^ 40) (h : K (B true) H) : CallsH Tryd.prog m 26 [.slice q n c, .slice q' n' c'] H K := by
  have hl : l.length = n := by simpa using hs.1
  have hl' : l.length = n' := by simpa using hs'.1
  obtain rfl : n = n' := by omega
  refine S26 (br_no (by simp) ?_)
  refine ⟨fun i A => ∃ j : Nat, i = (j : Int) ∧ j ≤ n ∧ A = H, fun i _ => (n - i).toNat, ⟨0, rfl, by omega, rfl⟩, ?_⟩
  rintro _ A ll _ ⟨j, rfl, hj, rfl⟩ hll
  by_cases hlt : j < n
  · refine br_yes (by simp; omega) ?_
    rcases hs.2 with ⟨_, e2, _⟩ | ⟨b, rest, e1, e2, e3, e4⟩
    · omega
    · rcases hs'.2 with ⟨_, f2, _⟩ | ⟨b', rest', f1, f2, f3, f4⟩
      · omega
      · refine ⟨_, e1, ⟨by omega, by omega⟩, ldI_i (v := l.getD (j : Int).toNat 0) e3 (get_int (by omega)) ⟨_, f1, ⟨by omega, by omega⟩, ldI_i (v := l.getD (j : Int).toNat 0) f3 (get_int (by omega)) (br_no (by simp) ⟨⟨j + 1, wr_i64 (by omega) (by omega), by omega, rfl⟩, ?_⟩)⟩⟩
        rw [wr_i64 (by omega) (by omega)]; subst hll
        show ((n : Int) - ((j : Int) + 1)).toNat + 1 ≤ ((n : Int) - (j : Int)).toNat
        omega
  · exact br_no (by simp; omega) h
end

theorem Lk.mk' {H0 A : Hp} {a0 bt bg bp N : Nat} {ring : Int} {t : Tk} {g : Tb} {ws es : List Int} (tb : t.tb = bg) (gok : g.ok) (ord : H0.size ≤ a0 ∧ a0 < bt ∧ a0 < bg ∧ bg ≠ bt ∧ bt < N ∧ bg < N) (gl : Gl H0) (but : But (fun b => H0.size ≤ b) H0 A)
    (ca : cells A a0 = some [I ring]) (ct : cells A bt = some t.cells) (cg : cells A bg = some g.cells) (hp : Pln N A bp ws es) (hws : ws ≠ []) (hes : es ≠ []) : ∃ bw be, Lk H0 a0 bt bg bp bw be ring t g ws es A := by
  obtain ⟨q, n, c, q', n', c', k, M, h1, h2, h3, h4, h5, h6, h7⟩ := hp.ex
  have hl : ws.length = n := by simpa using h2.1
  have hl' : es.length = n' := by simpa using h3.1
  rcases h2.2 with ⟨_, e2, _⟩ | ⟨bw, rest, e1, e2, e3, e4⟩
  · exact absurd (List.length_eq_zero_iff.1 (by omega)) hws
  rcases h3.2 with ⟨_, f2, _⟩ | ⟨be, rest', f1, f2, f3, f4⟩
  · exact absurd (List.length_eq_zero_iff.1 (by omega)) hes
  have := h6 bw e1
  have := h7 be f1
  subst e1; subst f1; subst hl; subst hl'
  exact ⟨bw, be, tb, gok, by omega, gl, but, ca, ct, cg, ⟨c, c', k, h1⟩, ⟨rest, e3⟩, ⟨rest', f3⟩⟩

section
variable {H0 : Hp} {a0 bt bg bp bw be : Nat} {ring : Int} {t : Tk} {g : Tb} {ws es : List Int} {A : Hp} {m : Amb} {K : Value → Hp → Prop}

theorem Lk.recv (h : Lk H0 a0 bt bg bp bw be ring t g ws es A) (hs : t.st = 0) (hK : ∀ B, Lk H0 a0 bt bg bp bw be ring (t.begin false) g ws es B → K (I 0) B) : CallsH Tryd.prog m 10 [.pointer (at0 bt)] A K :=
  C10 h.ct hs fun B e c => hK B (h.updT e rfl c)

theorem Lk.release (h : Lk H0 a0 bt bg bp bw be ring t g ws es A) {hd : Int} {i : Nat} (hs : t.st = 0) (hn : g.slotOf hd = some i) (hok : ({ g with held := g.held.set i false } : Tb).ok)
    (hK : ∀ B, Lk H0 a0 bt bg bp bw be ring { t.begin true with d := i } { g with held := g.held.set i false } ws es B → K (I 0) B) : CallsH Tryd.prog m 11 [.pointer (at0 bt), I hd] A K := by
  have o := h.ord
  refine C11_yes h.gok (by rw [h.tb]; omega) h.ct (by rw [h.tb]; exact h.cg) hs hn fun B e c cg => hK B ?_
  rw [h.tb] at e cg
  exact h.upd e h.tb hok c cg

theorem Lk.words (h : Lk H0 a0 bt bg bp bw be ring t g ws es A) (hn : ws.length ≤ 2 ^ 40) (hsz : True) (hK : ∀ q c B, Ext A B → Lk H0 a0 bt bg bp bw be ring t g ws es B → Sl 1 A.size B q ws.length c (ws.map I) → K (.slice q ws.length c) B) : CallsH Tryd.prog m 24 [.pointer (at0 bp)] A K := by
  obtain ⟨c, c', k, p1⟩ := h.cp
  obtain ⟨r, p2⟩ := h.cw
  refine S24 (br_f (nn_r (ldS_r p1 rfl ?_)))
  -- the clone reads no further than the length
  refine S49 (br_f (nw_r ?_))
  rintro _ B e rfl hz hc
  refine .inr ⟨_, rfl, rfl, _, e.cells p2, by simp, ?_⟩
  have htk : ((ws.map I ++ r).drop 0).take (ws.length * 1) = ws.map I := by
    rw [List.drop_zero, Nat.mul_one, show ws.length = (ws.map I).length by simp, List.take_left]
  show ap _ _ _ _ _ _ _ _ (((ws.map I ++ r).drop 0).take (ws.length * 1)) _ _
  rw [htk]
  refine ap_sl (N := A.size) (vs := []) (by rw [zc3]; rfl) ⟨rfl, .inr ⟨_, [], rfl, Nat.le_refl _, hc, rfl⟩⟩ (by omega) (by simp) (by simp; intro a _; rfl) (by omega) ?_ ?_
  · intro _
    simp only [Builtin.nextslicecap]
    rw [if_pos (by omega)]; omega
  · intro q' c'' B' hb hsl
    rw [Nat.zero_add] at hsl ⊢
    have hE : Ext A B' := ⟨Nat.le_trans e.size hb.size, fun b hbl => by rw [hb.same b (Nat.lt_of_lt_of_le hbl e.size) (by rintro ⟨h1, _⟩; omega)]; exact e.same b hbl⟩
    exact ⟨_, _, _, rfl, hK q' c'' B' hE (h.ext hE) (by simpa using hsl)⟩
end
end Go.Proofs.YtdipbhbhakmaiaaDoor

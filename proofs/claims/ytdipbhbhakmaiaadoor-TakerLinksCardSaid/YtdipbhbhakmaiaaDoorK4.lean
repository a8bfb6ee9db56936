/-
  THE WALKS of the chapter's example and of the taker that is nil.
-/
import Derived.Test.YtdipbhbhakmaiaaDoorK3
namespace Go.Proofs.YtdipbhbhakmaiaaDoor
open Go Go.Eng
set_option linter.unusedVariables false
set_option linter.unusedSimpArgs false
set_option maxRecDepth 100000

theorem mkS_sl {H : Hp} {n : Nat} {k : Option Addr → Nat → Nat → Hp → Prop} (hn : n ≤ 2 ^ 40) (h : ∀ q H', Ext H H' → Sl 1 H.size H' q n n ((List.replicate n (0 : Int)).map I) → k q n n H') : mkS Tryd.prog 3 1 8 H n n k := by
  refine ⟨⟨by omega, by omega, by omega, by omega⟩, ?_⟩
  rw [Int.toNat_natCast]
  refine h _ _ (Ext.push _ _) ⟨by simp, .inr ⟨_, [], rfl, Nat.le_refl _, ?_, by simp⟩⟩
  rw [cells_push_new, zc3]
  congr 1
  simp only [List.append_nil, Nat.mul_one]
  apply List.ext_getElem
  · simp
  · intro i h1 h2
    simp [Nat.mod_one]

/-- How the example stands: its taker, the port beneath and the one that keeps what was touched. -/
structure Al (H0 : Hp) (bt bp bq N : Nat) (ws es : List Int) (k : Nat) (t : Tk) (A : Hp) : Prop where
  lo : H0.size ≤ bt
  tN : bt < N
  pq : bp < bq
  Nq : N ≤ bq
  but : But (fun b => H0.size ≤ b) H0 A
  pln : Pln N A bp ws es
  trc : ∃ ts, Trc A bq (.iface 26 (.pointer (at0 bp))) ts ∧ ts.length = k
  tk : cells A bt = some t.cells

section
variable {H0 : Hp} {bt bp bq N : Nat} {ws es : List Int} {k : Nat} {t : Tk} {A : Hp} {m : Amb} {K : Value → Hp → Prop}

theorem Al.ext (h : Al H0 bt bp bq N ws es k t A) {B : Hp} (e : Ext A B) : Al H0 bt bp bq N ws es k t B := by
  obtain ⟨ts, h1, h2⟩ := h.trc
  exact ⟨h.lo, h.tN, h.pq, h.Nq, h.but.trans (But.of_ext e), h.pln.ext e, ⟨ts, h1.ext e, h2⟩, e.cells h.tk⟩

theorem Al.tkset (h : Al H0 bt bp bq N ws es k t A) {B : Hp} (e : But (fun x => x = bt) A B) {t' : Tk} (ht : cells B bt = some t'.cells) : Al H0 bt bp bq N ws es k t' B := by
  obtain ⟨ts, h1, h2⟩ := h.trc
  have hk : ∀ b cs, N ≤ b → cells A b = some cs → cells B b = some cs := fun b cs hb hc => e.cells (by have := h.tN; omega) hc
  exact ⟨h.lo, h.tN, h.pq, h.Nq, h.but.trans (e.mono fun b hb => .inl (by have := h.lo; omega)), h.pln.keep hk, ⟨ts, h1.keep (fun b cs hb => hk b cs (Nat.le_trans h.Nq hb)), h2⟩, ht⟩

theorem Al.kept (h : Al H0 bt bp bq N ws es k t A) {B : Hp} (e : But (fun x => bq ≤ x) A B) {ts : List (Int × Int × Int)} (hT : Trc B bq (.iface 26 (.pointer (at0 bp))) ts) (hl : ts.length = k + 1) : Al H0 bt bp bq N ws es (k + 1) t B := by
  obtain ⟨q, n, c, q', n', c', kk, M, h1, h2, h3, h4, h5, h6, h7⟩ := h.pln.ex
  have hpq := h.pq
  have hk : ∀ x cs, x < bq → cells A x = some cs → cells B x = some cs := fun x cs hb hc => e.cells (by omega) hc
  have hks : ∀ {esz N' : Nat} {q : Option Addr} {n c : Nat} {vs : List Value}, Sl esz N' A q n c vs → (∀ x, q = at0 x → x < bq) → Sl esz N' B q n c vs := by
    intro esz N' q n c vs hs hq
    refine ⟨hs.1, ?_⟩
    rcases hs.2 with h | ⟨b, rest, e1, e2, e3, e4⟩
    · exact .inl h
    · exact .inr ⟨b, rest, e1, e2, hk _ _ (hq b e1) e3, e4⟩
  refine ⟨h.lo, h.tN, h.pq, h.Nq, h.but.trans (e.mono fun b hb => .inl ?_), ⟨q, n, c, q', n', c', kk, M, hk _ _ hpq h1, hks h2 (fun x hx => by have := h6 x hx; omega), hks h3 (fun x hx => by have := h7 x hx; omega), h4, h5, h6, h7⟩, ⟨ts, hT, hl⟩, hk _ _ (by have := h.tN; have := h.Nq; omega) h.tk⟩
  have := h.lo; have := h.tN; have := h.Nq; omega

theorem Al.epoch (h : Al H0 bt bp bq N ws es k t A) (hk : k < 100) {x : Int} (hK : ∀ B, Al H0 bt bp bq N ws es (k + 1) t B → K (I (nth es x)) B) : inv Tryd.prog m (.iface 72 (.pointer (at0 bq))) "Epoch" [I x] A K := by
  obtain ⟨ts, h1, h2⟩ := h.trc
  exact ITepoch (C111 h1 h.pln h.pq (by omega) fun B e hT => hK B (h.kept e hT (by simp [h2])))
theorem Al.load (h : Al H0 bt bp bq N ws es k t A) (hk : k < 100) {x : Int} (hK : ∀ B, Al H0 bt bp bq N ws es (k + 1) t B → K (I (nth ws x)) B) : inv Tryd.prog m (.iface 72 (.pointer (at0 bq))) "Load" [I x] A K := by
  obtain ⟨ts, h1, h2⟩ := h.trc
  exact ITload (C113 h1 h.pln h.pq (by omega) fun B e hT => hK B (h.kept e hT (by simp [h2])))
end

section
variable {m : Amb} {H : Hp} {K : Value → Hp → Prop}

def ws26 : List Int := wd (List.replicate 26 0)
def es2 : List Int := wd [0, 0]
theorem nW (i : Int) : nth ws26 i = 0 := by
  unfold nth; split
  · rename_i h
    have h2 : i.toNat < 26 := by have : ws26.length = 26 := by decide
                                 omega
    revert h2; generalize i.toNat = j; intro h2
    have : ∀ j : Fin 26, ws26.getD j.1 0 = 0 := by decide
    exact this ⟨j, h2⟩
  · rfl
theorem nE : nth es2 0 = 0 := by decide

def tk1 (tb : Nat) : Tk := (Tk.new 0 2 1 0 0 tb).begin false
def tkAt (tb : Nat) (k : Nat) : Tk := match k with | 0 => tk1 tb | 1 => { tk1 tb with st := 5 } | 2 => { tk1 tb with linked := true, st := 6 } | 3 => { tk1 tb with linked := true, answer := 6, st := 14 } | _ => { tk1 tb with linked := true, answer := 6, st := 0 }

theorem step012 {H0 A : Hp} {bt bp bq N tb : Nat} {k : Nat} (hk : k < 3) (h : Al H0 bt bp bq N ws26 es2 k (tkAt tb k) A) (hK : ∀ B, Al H0 bt bp bq N ws26 es2 (k + 1) (tkAt tb (k + 1)) B → K (.tuple #[.bool false, I 0]) B) :
    CallsH Tryd.prog m 6 [.pointer (at0 bt), .iface 72 (.pointer (at0 bq))] A K := by
  have hv : ∃ q, Value.iface 72 (.pointer (at0 bq)) = .iface 72 (.pointer q) ∨ Value.iface 72 (.pointer (at0 bq)) = .iface 26 (.pointer q) := ⟨_, .inl rfl⟩
  have hk3 : k = 0 ∨ k = 1 ∨ k = 2 := by omega
  rcases hk3 with rfl | rfl | rfl
  · refine C6_ask h.tk rfl hv (h.epoch (by decide) fun B hB => ⟨_, rfl, hB.tk, fun C e hc => hK C (hB.tkset e ?_)⟩)
    rw [show (tkAt tb 0).peer = 0 by rfl, nE] at hc
    exact hc
  · refine C6_link h.tk (show (0 : Int) ≤ 0 ∧ (0 : Int) < 65536 from by decide) rfl hv fun A' e' => ((h.ext e').load (by decide) fun B hB => ⟨_, rfl, hB.tk, fun C e => ?_⟩)
    rw [if_pos (by rw [nW]; rfl)]
    intro hc
    exact hK C (hB.tkset e hc)
  · refine C6_look_none h.tk (show (0 : Int) ≤ 0 ∧ (0 : Int) < 65536 from by decide) rfl hv fun A' e' => ((h.ext e').load (by decide) fun B hB => ⟨_, rfl, by rw [nW]; rfl, hB.tk, fun C e hc => hK C (hB.tkset e hc)⟩)

theorem step3 {H0 A : Hp} {bt bp bq N tb : Nat} (h : Al H0 bt bp bq N ws26 es2 3 (tkAt tb 3) A) (hK : ∀ B, Al H0 bt bp bq N ws26 es2 4 (tkAt tb 4) B → K (.tuple #[.bool true, I 6]) B) :
    CallsH Tryd.prog m 6 [.pointer (at0 bt), .iface 72 (.pointer (at0 bq))] A K := by
  have hv : ∃ q, Value.iface 72 (.pointer (at0 bq)) = .iface 72 (.pointer q) ∨ Value.iface 72 (.pointer (at0 bq)) = .iface 26 (.pointer q) := ⟨_, .inl rfl⟩
  refine C6_over_bad h.tk rfl (show (6 : Int) ≠ 0 from by decide) hv (h.epoch (by decide) fun B hB => ⟨_, rfl, ?_, hB.tk, fun C e hc => hK C (hB.tkset e hc)⟩)
  rw [show (tkAt tb 3).peer = 0 by rfl, nE]; rfl

theorem C16 (g : Gl H) (h : ∀ H', But (fun b => H.size ≤ b) H H' → K (B true) H') : CallsH Tryd.prog m 16 [] H K := by
  refine S16 ?_
  refine C18 (base := 0) (ring := 2) (self := 1) (peer := 0) (own := 0) g (.inl rfl) (by decide) (by decide) (by decide) (by decide) (by decide) ?_
  intro bt tb H1 e1 hbt htb hne cT cG
  refine ⟨_, rfl, br_f (C10 cT rfl ?_)⟩
  intro H2 b2 c2
  refine ⟨_, rfl, br_f (mkS_sl (n := 26) (by decide) ?_)⟩
  intro q3 H3 e3 s3
  refine nw_r ?_
  rintro _ H4 e4 rfl hz4 c4
  refine C7 (l' := [0, 0]) (N := H2.size) (s3.ext e4) (q' := at0 H3.size) ⟨rfl, .inr ⟨_, [], rfl, e3.size, c4, rfl⟩⟩ (by decide) (by decide) ?_
  intro bp H5 e5 hp
  refine ⟨_, rfl, C36 ?_⟩
  rintro bq H6 e6 rfl hT
  refine ⟨_, rfl, ?_⟩
  have hsz := hp.size
  have hAl : Al H bt bp H5.size H4.size ws26 es2 0 (tkAt tb 0) H6 := ⟨hbt, Nat.lt_of_lt_of_le (cells_lt c2) (Nat.le_trans e3.size e4.size), hsz.2, e5.size,
    (But.of_ext e1).trans ((b2.mono fun b hb => .inl (by subst hb; exact hbt)).trans (But.of_ext (((e3.trans e4).trans e5).trans e6))), hp.ext e6, ⟨[], hT, rfl⟩, e6.cells (e5.cells (e4.cells (e3.cells c2)))⟩
  refine ⟨fun i A => ∃ k : Nat, i = (k : Int) + 1 ∧ k ≤ 3 ∧ Al H bt bp H5.size H4.size ws26 es2 k (tkAt tb k) A, fun i _ => (4 - i).toNat, ⟨0, rfl, by decide, hAl⟩, ?_⟩
  rintro _ A l _ ⟨k, rfl, hk, hA⟩ hl
  by_cases h3 : k < 3
  · refine br_yes (by simp; omega) (step012 h3 hA fun B hB => ⟨false, 0, rfl, br_f ⟨⟨k + 1, ?_, by omega, hB⟩, ?_⟩⟩)
    · rw [wr_i64 (by omega) (by omega)]; omega
    · rw [wr_i64 (by omega) (by omega)]
      subst hl
      show (4 - ((k : Int) + 1 + 1)).toNat + 1 ≤ (4 - ((k : Int) + 1)).toNat
      omega
  · obtain rfl : k = 3 := by omega
    refine br_no (by decide) (step3 hA fun B hB => ⟨true, 6, rfl, br_t (br_yes (by decide) ?_)⟩)
    obtain ⟨ts, hT, hts⟩ := hB.trc
    refine C37 hT (by omega) ?_
    intro q c B2 e2 _
    rw [hts]
    refine ⟨_, _, _, rfl, br_yes (by decide) (C12 (e2.cells hB.tk) ⟨_, rfl, br_t (C13 (e2.cells hB.tk) ⟨_, rfl, ?_⟩)⟩)⟩
    exact h B2 (hB.but.trans (But.of_ext e2))
end
end Go.Proofs.YtdipbhbhakmaiaaDoor

/-
  THE STATE of a taker at a plain port, its steps and its calls to their ends.
-/
import Derived.Test.YtdipbhbhakmaiaaDoorK8
namespace Go.Proofs.YtdipbhbhakmaiaaDoor
open Go Go.Eng
set_option linter.unusedVariables false
set_option linter.unusedSimpArgs false
set_option maxRecDepth 100000

section
variable {m : Amb} {H : Hp} {K : Value → Hp → Prop}
theorem IPstore {q : Option Addr} {args : List Value} (h : CallsH Tryd.prog m 22 (.pointer q :: args) H K) : inv Tryd.prog m (.iface 26 (.pointer q)) "Store" args H K :=
  inv_r rfl (by kernel_rfl) (fun d => by kernel_rfl) h
theorem IPfence {q : Option Addr} {args : List Value} (h : CallsH Tryd.prog m 110 (.pointer q :: args) H K) : inv Tryd.prog m (.iface 26 (.pointer q)) "Fence" args H K :=
  inv_r rfl (by kernel_rfl) (fun d => by kernel_rfl) h
end

/-- A taker, its table, and a plain port of words and epochs; and a ring's own cell. -/
structure Lk (H0 : Hp) (a0 bt bg bp bw be : Nat) (ring : Int) (t : Tk) (g : Tb) (ws es : List Int) (A : Hp) : Prop where
  tb : t.tb = bg
  gok : g.ok
  ord : H0.size ≤ a0 ∧ a0 < bt ∧ a0 < bg ∧ bg ≠ bt ∧ bt < bw ∧ bg < bw ∧ bw < be ∧ be < bp
  gl : Gl H0
  but : But (fun b => H0.size ≤ b) H0 A
  ca : cells A a0 = some [I ring]
  ct : cells A bt = some t.cells
  cg : cells A bg = some g.cells
  cp : ∃ c c' k, cells A bp = some [.slice (at0 bw) ws.length c, .slice (at0 be) es.length c', k]
  cw : ∃ rest, cells A bw = some (ws.map I ++ rest)
  ce : ∃ rest, cells A be = some (es.map I ++ rest)

section
variable {H0 : Hp} {a0 bt bg bp bw be : Nat} {ring : Int} {t : Tk} {g : Tb} {ws es : List Int} {A : Hp} {m : Amb} {K : Value → Hp → Prop}

theorem Lk.gla (h : Lk H0 a0 bt bg bp bw be ring t g ws es A) : Gl A := h.gl.but h.but (by have := h.gl.size; omega) (by have := h.gl.size; omega)

theorem Lk.ext (h : Lk H0 a0 bt bg bp bw be ring t g ws es A) {B : Hp} (e : Ext A B) : Lk H0 a0 bt bg bp bw be ring t g ws es B := by
  obtain ⟨c, c', k, h1⟩ := h.cp
  obtain ⟨r, h2⟩ := h.cw
  obtain ⟨r', h3⟩ := h.ce
  exact ⟨h.tb, h.gok, h.ord, h.gl, h.but.trans (But.of_ext e), e.cells h.ca, e.cells h.ct, e.cells h.cg, ⟨c, c', k, e.cells h1⟩, ⟨r, e.cells h2⟩, ⟨r', e.cells h3⟩⟩

theorem Lk.upd (h : Lk H0 a0 bt bg bp bw be ring t g ws es A) {B : Hp} {t' : Tk} {g' : Tb} (e : But (fun x => x = bt ∨ x = bg) A B) (htb : t'.tb = bg) (ho : g'.ok) (h1 : cells B bt = some t'.cells) (h2 : cells B bg = some g'.cells) : Lk H0 a0 bt bg bp bw be ring t' g' ws es B := by
  obtain ⟨c, c', k, p1⟩ := h.cp
  obtain ⟨r, p2⟩ := h.cw
  obtain ⟨r', p3⟩ := h.ce
  have o := h.ord
  exact ⟨htb, ho, o, h.gl, h.but.trans (e.mono fun b hb => .inl (by omega)), e.cells (by omega) h.ca, h1, h2, ⟨c, c', k, e.cells (by omega) p1⟩, ⟨r, e.cells (by omega) p2⟩, ⟨r', e.cells (by omega) p3⟩⟩

theorem Lk.updT (h : Lk H0 a0 bt bg bp bw be ring t g ws es A) {B : Hp} {t' : Tk} (e : But (fun x => x = bt) A B) (htb : t'.tb = t.tb) (h1 : cells B bt = some t'.cells) : Lk H0 a0 bt bg bp bw be ring t' g ws es B :=
  h.upd (e.mono fun x hx => .inl (.inl hx)) (htb.trans h.tb) h.gok h1 (e.cells (by have := h.ord; omega) h.cg)

theorem Lk.updW (h : Lk H0 a0 bt bg bp bw be ring t g ws es A) {B : Hp} {ws' : List Int} (e : But (fun x => x = bw) A B) (hl : ws'.length = ws.length) (h1 : ∃ rest, cells B bw = some (ws'.map I ++ rest)) : Lk H0 a0 bt bg bp bw be ring t g ws' es B := by
  obtain ⟨c, c', k, p1⟩ := h.cp
  obtain ⟨r', p3⟩ := h.ce
  have o := h.ord
  exact ⟨h.tb, h.gok, o, h.gl, h.but.trans (e.mono fun b hb => .inl (by omega)), e.cells (by omega) h.ca, e.cells (by omega) h.ct, e.cells (by omega) h.cg, ⟨c, c', k, by rw [hl]; exact e.cells (by omega) p1⟩, h1, ⟨r', e.cells (by omega) p3⟩⟩

theorem get_int {l : List Int} {r : List Value} {x : Int} (hx : 0 ≤ x ∧ x < l.length) : (l.map I ++ r)[x.toNat]? = some (I (l.getD x.toNat 0)) := by
  rw [List.getElem?_append_left (by simp; omega), List.getElem?_map, List.getElem?_eq_getElem (show x.toNat < l.length by omega)]
  simp [List.getD_eq_getElem?_getD, List.getElem?_eq_getElem (show x.toNat < l.length by omega)]

theorem Lk.load25 (h : Lk H0 a0 bt bg bp bw be ring t g ws es A) {x : Int} (hK : K (I (nth ws x)) A) : CallsH Tryd.prog m 25 [.pointer (at0 bp), I x] A K := by
  obtain ⟨c, c', k, p1⟩ := h.cp
  obtain ⟨r, p2⟩ := h.cw
  refine S25 (br_f (nn_r (ldS_r p1 rfl (C56 ⟨_, rfl, ?_⟩))))
  by_cases hx : 0 ≤ x ∧ x < ws.length
  · refine br_no (by simp [hx]) (nn_r (ldS_r p1 rfl ⟨_, rfl, ⟨hx.1, hx.2⟩, ldI_i (v := ws.getD x.toNat 0) p2 (get_int hx) ?_⟩))
    rw [nth, if_pos hx] at hK; exact hK
  · refine br_yes (by simp; omega) ?_
    rw [nth, if_neg hx] at hK; exact hK

theorem Lk.load (h : Lk H0 a0 bt bg bp bw be ring t g ws es A) {x : Int} (hK : K (I (nth ws x)) A) : inv Tryd.prog m (.iface 26 (.pointer (at0 bp))) "Load" [I x] A K := IPload (h.load25 hK)

theorem Lk.epoch (h : Lk H0 a0 bt bg bp bw be ring t g ws es A) {x : Int} (hK : K (I (nth es x)) A) : inv Tryd.prog m (.iface 26 (.pointer (at0 bp))) "Epoch" [I x] A K := by
  obtain ⟨c, c', k, p1⟩ := h.cp
  obtain ⟨r, p2⟩ := h.ce
  refine IPepoch (S109 (br_f (nn_r (ldS_r p1 rfl (C56 ⟨_, rfl, ?_⟩)))))
  by_cases hx : 0 ≤ x ∧ x < es.length
  · refine br_no (by simp [hx]) (nn_r (ldS_r p1 rfl ⟨_, rfl, ⟨hx.1, hx.2⟩, ldI_i (v := es.getD x.toNat 0) p2 (get_int hx) ?_⟩))
    rw [nth, if_pos hx] at hK; exact hK
  · refine br_yes (by simp; omega) ?_
    rw [nth, if_neg hx] at hK; exact hK

theorem Lk.fence (h : Lk H0 a0 bt bg bp bw be ring t g ws es A) (hK : K (.tuple #[]) A) : inv Tryd.prog m (.iface 26 (.pointer (at0 bp))) "Fence" [] A K := IPfence (S110 hK)

theorem st_i {H : Hp} {b : Nat} {x : Int} {cs : List Value} {v : Value} {k : Hp → Prop} (h : cells H b = some cs) (h1 : v.oneCell' = true) (ho : x.toNat < cs.length) (hk : ∀ H', But (fun x => x = b) H H' → H'.size = H.size → cells H' b = some (cs.set x.toNat v) → k H') : st H ((⟨b, 0, none⟩ : Addr).add (x.toNat * 1)) v k := by
  rw [add_mk, Nat.mul_one, Nat.zero_add]; exact st_s h h1 ho hk

theorem Lk.store22 (h : Lk H0 a0 bt bg bp bw be ring t g ws es A) {x w : Int} (hx : 0 ≤ x ∧ x < ws.length) (hK : ∀ B, Lk H0 a0 bt bg bp bw be ring t g (ws.set x.toNat (w % 65536)) es B → K (.tuple #[]) B) : CallsH Tryd.prog m 22 [.pointer (at0 bp), I x, I w] A K := by
  obtain ⟨c, c', k, p1⟩ := h.cp
  obtain ⟨r, p2⟩ := h.cw
  refine S22 (br_t (nn_r (ldS_r p1 rfl (C56 ⟨_, rfl, br_yes (by simp [hx]) (nn_r (ldS_r p1 rfl (C57 ⟨_, rfl, must_r (cont_r p1 rfl) ⟨_, rfl, ⟨hx.1, hx.2⟩, ?_⟩⟩)))⟩))))
  refine st_i p2 rfl (by simp; omega) fun B b1 _ c1 => hK B (h.updW b1 (by simp) ⟨r, ?_⟩)
  rw [c1, List.set_append_left _ _ (by simp; omega), List.map_set]

theorem Lk.store (h : Lk H0 a0 bt bg bp bw be ring t g ws es A) {x w : Int} (hx : 0 ≤ x ∧ x < ws.length) (hK : ∀ B, Lk H0 a0 bt bg bp bw be ring t g (ws.set x.toNat (w % 65536)) es B → K (.tuple #[]) B) : inv Tryd.prog m (.iface 26 (.pointer (at0 bp))) "Store" [I x, I w] A K := IPstore (h.store22 hx hK)

theorem isP26 {q : Option Addr} : IsP (.iface 26 (.pointer q)) := ⟨q, .inr rfl⟩

/-- A call to its end: of each step how things stand. -/
theorem run_r {p : Value} {q : Option Addr} {v : Value} (hp : p = .pointer q) (P : Nat → Hp → Prop) (Q : Hp → Prop) (e : Int) (n : Nat) (hn : n < 100) (h0 : P 0 A)
    (hstep : ∀ k, k < n → ∀ B, P k B → ∀ K : Value → Hp → Prop, (∀ C, P (k + 1) C → K (.tuple #[.bool false, I 0]) C) → CallsH Tryd.prog m 6 [p, v] B K)
    (hlast : ∀ B, P n B → ∀ K : Value → Hp → Prop, (∀ C, Q C → K (.tuple #[.bool true, I e]) C) → CallsH Tryd.prog m 6 [p, v] B K)
    (hK : ∀ B, Q B → K (I e) B) : CallsH Tryd.prog m 23 [p, v] A K := by
  subst hp
  refine S23 ?_
  refine ⟨fun i B => ∃ k : Nat, i = (k : Int) ∧ k ≤ n ∧ P k B, fun i _ => (n - i).toNat, ⟨0, rfl, by omega, h0⟩, ?_⟩
  rintro _ B l _ ⟨k, rfl, hk, hP⟩ hl
  refine br_yes (by simp; omega) ?_
  by_cases hkn : k < n
  · refine hstep k hkn B hP _ fun C hC => ⟨false, 0, rfl, br_f ⟨⟨k + 1, wr_i64 (by omega) (by omega), by omega, hC⟩, ?_⟩⟩
    rw [wr_i64 (by omega) (by omega)]; subst hl
    show ((n : Int) - ((k : Int) + 1)).toNat + 1 ≤ ((n : Int) - (k : Int)).toNat
    omega
  · obtain rfl : k = n := by omega
    exact hlast B hP _ fun C hC => ⟨true, e, rfl, br_t (hK C hC)⟩

/-- A call that receives slot 0, of no words. -/
theorem run_recv (h : Lk H0 a0 bt bg bp bw be ring t g ws es A) (hr : few4 ring) (hb : t.base = 0) (hrg : t.ring = ring) (hs : t.st = 1) (hh : t.head = 0) (hln : t.ln = 0) (hlk : t.linked = false) (hbk : t.back = false) (hpe : nth es t.peer = t.known)
    (hgn : g.n = ring) (hg0 : g.heldL = []) (hgh : g.held.getD 0 false = false)
    (w0 : nth ws 0 = (t.own + t.known) % 65536) (w2 : nth ws 2 = 1) (w4 : nth ws 4 = 0) (wl : nth ws (4 + 2 * ring) = 0)
    (hK : ∀ B, Lk H0 a0 bt bg bp bw be ring (({ t with st := 14, linked := true, answer := 0, d := 0, many := 0 } : Tk).took ((g.gens.getD 0 0 + 1) % 65536 * 64 + (0 : Nat))) (g.give 0) ws es B → K (I 0) B) : CallsH Tryd.prog m 23 [.pointer (at0 bt), .iface 26 (.pointer (at0 bp))] A K := by
  have hr1 : 1 ≤ ring ∧ ring ≤ 64 := by rcases hr with rfl | rfl | rfl | rfl <;> decide
  let P : Nat → Hp → Prop := fun k B => match k with
    | 0 => Lk H0 a0 bt bg bp bw be ring t g ws es B
    | 1 => Lk H0 a0 bt bg bp bw be ring { t with st := 5 } g ws es B
    | 2 => Lk H0 a0 bt bg bp bw be ring { t with linked := true, st := 6 } g ws es B
    | 3 => Lk H0 a0 bt bg bp bw be ring { t with linked := true, answer := 0, st := 7 } g ws es B
    | 4 => Lk H0 a0 bt bg bp bw be ring { t with linked := true, answer := 0, d := 0, st := 8 } g ws es B
    | _ => Lk H0 a0 bt bg bp bw be ring { t with st := 14, linked := true, answer := 0, d := 0, many := 0 } g ws es B
  refine run_r rfl P (fun B => Lk H0 a0 bt bg bp bw be ring (({ t with st := 14, linked := true, answer := 0, d := 0, many := 0 } : Tk).took ((g.gens.getD 0 0 + 1) % 65536 * 64 + (0 : Nat))) (g.give 0) ws es B) 0 5 (by decide) h ?_ ?_ hK
  · intro k hk B hP K hC
    have hk5 : k = 0 ∨ k = 1 ∨ k = 2 ∨ k = 3 ∨ k = 4 := by omega
    rcases hk5 with rfl | rfl | rfl | rfl | rfl
    · have hB : Lk H0 a0 bt bg bp bw be ring t g ws es B := hP
      refine C6_ask hB.ct hs isP26 (hB.epoch ⟨_, rfl, hB.ct, fun C e hc => hC C ?_⟩)
      rw [hpe] at hc
      refine hB.updT (t' := { t with st := 5 }) e rfl ?_
      rw [hc]; simp [Tk.asked, Tk.next, hlk]
    · have hB : Lk H0 a0 bt bg bp bw be ring { t with st := 5 } g ws es B := hP
      refine C6_link hB.ct (by show 0 ≤ t.base ∧ t.base < 65536; omega) rfl isP26 fun B' e' => (hB.ext e').load ?_
      refine ⟨_, rfl, (hB.ext e').ct, fun C e => ?_⟩
      rw [if_pos (by show nth ws t.base = _; rw [hb]; exact w0)]
      intro hc
      exact hC C ((hB.ext e').updT e rfl hc)
    · have hB : Lk H0 a0 bt bg bp bw be ring { t with linked := true, st := 6 } g ws es B := hP
      refine C6_look hB.gok (by show 1 ≤ t.ring ∧ t.ring ≤ 64; omega) hB.ct (by show 0 ≤ t.base ∧ t.base < 65536; omega) rfl isP26 fun B' e' => (hB.ext e').load ?_
      refine ⟨_, rfl, (hB.ext e').ct, by rw [hB.tb]; exact (hB.ext e').cg, fun C e hc => hC C ?_⟩
      have hw : waits { t with linked := true, st := 6 } g (nth ws (t.base + 2)) = 0 := by
        unfold waits
        show (if (nth ws (t.base + 2) - t.head) % 65536 = 0 then (6 : Int) else if (nth ws (t.base + 2) - t.head) % 65536 > t.ring - g.heldL.length then 10 else 0) = 0
        rw [hb, hh, hg0, hrg, show (0 : Int) + 2 = 2 by rfl, w2]
        rw [if_neg (by decide), if_neg (by simp; omega)]
      refine (hB.ext e').updT (t' := { t with linked := true, answer := 0, st := 7 }) e rfl ?_
      have hc' : cells C bt = some { t with linked := true, answer := waits { t with linked := true, st := 6 } g (nth ws (t.base + 2)), st := if waits { t with linked := true, st := 6 } g (nth ws (t.base + 2)) = 0 then 7 else 14 }.cells := hc
      rw [hw] at hc'; exact hc'
    · have hB : Lk H0 a0 bt bg bp bw be ring { t with linked := true, answer := 0, st := 7 } g ws es B := hP
      refine C6_slot hB.gla hB.gok (by show 1 ≤ t.ring ∧ t.ring ≤ 64; omega) (by show 0 ≤ t.head; omega) hB.ct (by show 0 ≤ t.base ∧ t.base < 65536; omega) rfl isP26 fun B' e' => (hB.ext e').load ?_
      refine ⟨_, rfl, (hB.ext e').ct, by rw [hB.tb]; exact (hB.ext e').cg, fun C e hc => hC C ?_⟩
      have hw : nth ws (t.base + 4 + t.head % t.ring) = 0 := by rw [hb, hh]; simpa using w4
      refine (hB.ext e').updT (t' := { t with linked := true, answer := 0, d := 0, st := 8 }) e rfl ?_
      have hc' : cells C bt = some (Tk.slotted { t with linked := true, answer := 0, st := 7 } g (nth ws (t.base + 4 + t.head % t.ring))).cells := hc
      rw [hw] at hc'
      unfold Tk.slotted at hc'
      rw [if_neg (by rw [hg0]; rintro (h1 | h1); (· have : (0 : Int) ≥ t.ring := h1; omega); cases h1)] at hc'
      exact hc'
    · have hB : Lk H0 a0 bt bg bp bw be ring { t with linked := true, answer := 0, d := 0, st := 8 } g ws es B := hP
      refine C6_size hB.gla (by show 1 ≤ t.ring ∧ t.ring ≤ 64; omega) (by show (0 : Int) ≤ 0 ∧ 0 < t.ring; omega) hB.ct (by show 0 ≤ t.base ∧ t.base < 65536; omega) rfl isP26 fun B' e' => (hB.ext e').load ?_
      refine ⟨_, rfl, (hB.ext e').ct, fun C e hc => hC C ?_⟩
      have hw : nth ws (t.base + 4 + 2 * t.ring + 0) = 0 := by rw [hb, hrg, show (0 : Int) + 4 + 2 * ring + 0 = 4 + 2 * ring by omega]; exact wl
      refine (hB.ext e').updT (t' := { t with st := 14, linked := true, answer := 0, d := 0, many := 0 }) e rfl ?_
      have hc' : cells C bt = some (Tk.sized { t with linked := true, answer := 0, d := 0, st := 8 } (nth ws (t.base + 4 + 2 * t.ring + 0))).cells := hc
      rw [hw] at hc'
      unfold Tk.sized at hc'
      rw [if_neg (by decide), if_neg (by show ¬ ((t.ln : Int) < 0); omega)] at hc'
      exact hc'
  · intro B hP K hC
    have hB : Lk H0 a0 bt bg bp bw be ring { t with st := 14, linked := true, answer := 0, d := 0, many := 0 } g ws es B := hP
    refine C6_over_ok (i := 0) hB.gok (by rw [hB.tb]; have := hB.ord; omega) hB.ct rfl rfl hbk rfl (by omega) hgh isP26 (hB.epoch ⟨_, rfl, hpe, hB.ct, by rw [hB.tb]; exact hB.cg, fun C e hc hcg => hC C ?_⟩)
    have hgive : (g.give 0).ok := by
      refine ⟨hB.gok.n1, hB.gok.n64, by simp [Tb.give, hB.gok.gl], by simp [Tb.give, hB.gok.hl], fun j => ?_⟩
      show 0 ≤ (g.gens.set 0 _).getD j 0 ∧ (g.gens.set 0 _).getD j 0 < 65536
      simp only [List.getD_eq_getElem?_getD, List.getElem?_set]
      have hj := hB.gok.gw j
      simp only [List.getD_eq_getElem?_getD] at hj
      split
      · split
        · simp only [Option.getD_some]; omega
        · simp
      · exact hj
    rw [hB.tb] at e hcg
    exact hB.upd e hB.tb hgive hc hcg

/-- A call that finds another epoch: a new link. -/
theorem run_reset (h : Lk H0 a0 bt bg bp bw be ring t g ws es A) (hb : t.base = 0) (hs : t.st = 1) (hl : 4 ≤ ws.length) {e : Int} (hpe : nth es t.peer = e) (hne : e ≠ t.known)
    (hK : ∀ B, Lk H0 a0 bt bg bp bw be ring ({ t with known := e } : Tk).first g.clear ((ws.set 3 0).set 1 ((t.own + e) % 65536 % 65536)) es B → K (I 8) B) : CallsH Tryd.prog m 23 [.pointer (at0 bt), .iface 26 (.pointer (at0 bp))] A K := by
  let P : Nat → Hp → Prop := fun k B => match k with
    | 0 => Lk H0 a0 bt bg bp bw be ring t g ws es B
    | 1 => Lk H0 a0 bt bg bp bw be ring { t with known := e, st := 2 } g ws es B
    | 2 => Lk H0 a0 bt bg bp bw be ring { t with known := e, st := 3 } g (ws.set 3 0) es B
    | _ => Lk H0 a0 bt bg bp bw be ring { t with known := e, st := 4 } g ((ws.set 3 0).set 1 ((t.own + e) % 65536 % 65536)) es B
  refine run_r rfl P (fun B => Lk H0 a0 bt bg bp bw be ring ({ t with known := e } : Tk).first g.clear ((ws.set 3 0).set 1 ((t.own + e) % 65536 % 65536)) es B) 8 3 (by decide) h ?_ ?_ hK
  · intro k hk B hP K hC
    have hk5 : k = 0 ∨ k = 1 ∨ k = 2 := by omega
    rcases hk5 with rfl | rfl | rfl
    · have hB : Lk H0 a0 bt bg bp bw be ring t g ws es B := hP
      refine C6_ask hB.ct hs isP26 (hB.epoch ⟨_, rfl, hB.ct, fun C e' hc => hC C ?_⟩)
      rw [hpe] at hc
      refine hB.updT (t' := { t with known := e, st := 2 }) e' rfl ?_
      rw [hc]; simp [Tk.asked, Tk.next, hne]
    · have hB : Lk H0 a0 bt bg bp bw be ring { t with known := e, st := 2 } g ws es B := hP
      refine C6_zero hB.ct (by show 0 ≤ t.base ∧ t.base < 65536; omega) rfl isP26 fun B' e' => (hB.ext e').store (by show 0 ≤ t.base + 3 ∧ t.base + 3 < _; omega) fun D hD => ?_
      refine ⟨rfl, hD.ct, fun C e'' hc => hC C ?_⟩
      have := hD.updT (t' := { t with known := e, st := 3 }) e'' rfl hc
      have hx : ((t.base + 3 : Int)).toNat = 3 := by omega
      simp only [hx] at this
      exact this
    · have hB : Lk H0 a0 bt bg bp bw be ring { t with known := e, st := 3 } g (ws.set 3 0) es B := hP
      refine C6_mark hB.ct (by show 0 ≤ t.base ∧ t.base < 65536; omega) rfl isP26 fun B' e' => (hB.ext e').store (by show 0 ≤ t.base + 1 ∧ t.base + 1 < _; rw [List.length_set]; omega) fun D hD => ?_
      refine ⟨rfl, hD.ct, fun C e'' hc => hC C ?_⟩
      have := hD.updT (t' := { t with known := e, st := 4 }) e'' rfl hc
      have hx : ((t.base + 1 : Int)).toNat = 1 := by omega
      simp only [hx] at this
      exact this
  · intro B hP K hC
    have hB : Lk H0 a0 bt bg bp bw be ring { t with known := e, st := 4 } g ((ws.set 3 0).set 1 ((t.own + e) % 65536 % 65536)) es B := hP
    refine C6_settle hB.gok (by rw [hB.tb]; have := hB.ord; omega) hB.ct rfl (hB.fence ⟨rfl, hB.ct, by rw [hB.tb]; exact hB.cg, fun C e' hc hcg => hC C ?_⟩)
    rw [hB.tb] at e' hcg
    exact hB.upd e' hB.tb (Tb.clear_ok hB.gok) hc hcg

/-- A call that finds another mark. -/
theorem run_down (h : Lk H0 a0 bt bg bp bw be ring t g ws es A) (hb : t.base = 0) (hs : t.st = 1) (hlk : t.linked = false) (hpe : nth es t.peer = t.known) (w0 : nth ws 0 ≠ (t.own + t.known) % 65536)
    (hK : ∀ B, Lk H0 a0 bt bg bp bw be ring { t with st := 0 } g ws es B → K (I 9) B) : CallsH Tryd.prog m 23 [.pointer (at0 bt), .iface 26 (.pointer (at0 bp))] A K := by
  let P : Nat → Hp → Prop := fun k B => match k with
    | 0 => Lk H0 a0 bt bg bp bw be ring t g ws es B
    | _ => Lk H0 a0 bt bg bp bw be ring { t with st := 5 } g ws es B
  refine run_r rfl P (fun B => Lk H0 a0 bt bg bp bw be ring { t with st := 0 } g ws es B) 9 1 (by decide) h ?_ ?_ hK
  · intro k hk B hP K hC
    obtain rfl : k = 0 := by omega
    have hB : Lk H0 a0 bt bg bp bw be ring t g ws es B := hP
    refine C6_ask hB.ct hs isP26 (hB.epoch ⟨_, rfl, hB.ct, fun C e hc => hC C ?_⟩)
    rw [hpe] at hc
    refine hB.updT (t' := { t with st := 5 }) e rfl ?_
    rw [hc]; simp [Tk.asked, Tk.next, hlk]
  · intro B hP K hC
    have hB : Lk H0 a0 bt bg bp bw be ring { t with st := 5 } g ws es B := hP
    refine C6_link hB.ct (by show 0 ≤ t.base ∧ t.base < 65536; omega) rfl isP26 fun B' e' => (hB.ext e').load ?_
    refine ⟨_, rfl, (hB.ext e').ct, fun C e => ?_⟩
    rw [if_neg (by show ¬ nth ws t.base = _; rw [hb]; exact w0)]
    intro hc
    exact hC C ((hB.ext e').updT e rfl hc)
end
end Go.Proofs.YtdipbhbhakmaiaaDoor

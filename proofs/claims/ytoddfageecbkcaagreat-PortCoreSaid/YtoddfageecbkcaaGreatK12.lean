/-
  CONTRACTS: a bus made and cloned; locks and gate made and cloned.
-/
import Derived.Test.YtoddfageecbkcaaGreatK11
namespace Go.Proofs.YtoddfageecbkcaaGreat
open Go Go.Eng Sy
set_option linter.unusedVariables false
set_option linter.unusedSimpArgs false
set_option maxRecDepth 100000

theorem zc93l : (zc Tryz.prog 93).length = 1 := by kernel_rfl
theorem zc108 : zc Tryz.prog 108 = I 0 :: I 0 :: (List.replicate 16 (0 : Int)).map I := by kernel_rfl
theorem zc112 : zc Tryz.prog 112 = I 0 :: ((List.replicate 8 (0 : Int)).map I ++ (List.replicate 8 false).map B) := by kernel_rfl

theorem BufsR.len {r : Nat} {ow : Ow} {H : Hp} {q : Option Addr} {n c : Nat} {most : Int} {l : List (List (Int × Int))} (h : BufsR r ow H q n c most l) : n = l.length := by
  obtain ⟨bs, h1, h2, h3⟩ := h
  have := h2.len1; simp at this; omega

section
variable {m : Amb} {r : Nat} {ow : Ow} {H : Hp} {K : Value → Hp → Prop} {b : Nat} {cores locks : Int} {owners epochs : List Int} {held : List Bool}

/-- A buffer is joined on to a bus that is being made. -/
theorem join_buf {T : Tg → Prop} {ow0 : Ow} {H0 : Hp} {rb bb : Nat} {ram : List Int} {q : Option Addr} {n c : Nat} {most : Int} {l : List (List (Int × Int))} {x : List (Int × Int)} {K' : Hp → Prop} (hr0 : 0 < r) (hl : l.length < 8)
    (u : Upd T ow0 H0 ow H) (hb : H0.size ≤ b) (f : Fresh H0.size q) (h1 : Has ow H (r, 1, 0, 0) b [Pt rb, .slice q n c]) (h2 : RamR r ow H rb ram) (h3 : BufsR r ow H q n c most l) (h4 : BufR r ow H l.length bb most x)
    (hk : ∀ ow' H' q' c', Upd T ow0 H0 ow' H' → Fresh H0.size q' → Has ow' H' (r, 1, 0, 0) b [Pt rb, .slice q' (n + 1) c'] → RamR r ow' H' rb ram → BufsR r ow' H' q' (n + 1) c' most (l ++ [x]) → K' H') :
    must (cont H ⟨b, 1, none⟩ (.slice q n c)) (nw H [Pt bb] 93 fun a21 H22 => must (cont H22 ⟨b, 1, none⟩ (.slice q n c)) (rd H22 (some a21) 1 fun cs23 => ap Tryz.prog 93 1 8 H22 q n c cs23 1 fun r24 l25 l26 H27 => st H27 ⟨b, 1, none⟩ (.slice r24 l25 l26) K')) := by
  refine must_r (cont_r h1.2 rfl) (nw_t (ow := ow) T0 ?_)
  intro ow1 H1 b1 u1 hb1 g1
  have h1 := h1.upd u1 id
  have h2 := h2.upd u1 Off.no
  have h3 := h3.upd u1 Off.no
  have h4 := h4.upd u1 id id
  refine must_r (cont_r h1.2 rfl) (.inr ⟨_, rfl, rfl, _, rcells_of g1.2, by simp, ?_⟩)
  obtain ⟨bs, a1, a2, a3⟩ := h3
  have hn : n = l.length := by have := a2.len1; simp at this; omega
  refine ap_f (u.trans (u1.mono fun _ h => h.elim)) f zc93l a2 (by rfl) (by intro v hv; simp at hv; subst hv; rfl) (by omega) ?_ ?_
  · intro hlt2
    have := ncap (n := n + 1) (c := c) (by have := a2.2.1; omega) (by omega) hlt2
    omega
  · intro ow2 q' c' H2 U2 u2 f2 s2
    have h1 := h1.upd u2 (by simp)
    have h2 := h2.upd u2 (by rintro τ h1 h2 h3 rfl; simp at h2 h3)
    have h4 := h4.upd u2 (by simp) (by simp)
    refine st_t h1 rfl (by simp) fun H3 s3 h3 => ?_
    have u3 := s3.upd h1.1
    refine hk ow2 H3 q' c' (U2.set s3 (.inr hb)) f2 h3 (h2.upd u3 (by rintro τ h1 h2 h3 rfl; simp at h2)) ?_
    refine ⟨bs ++ [bb], by simp [a1], ?_, fun i hi hi' => ?_⟩
    · have := s2.upd u3 (by simp)
      simpa using this
    · by_cases hil : i < l.length
      · have e1 : (bs ++ [bb])[i] = bs[i]'(by omega) := List.getElem_append_left (by omega)
        have e2 : (l ++ [x])[i] = l[i] := List.getElem_append_left hil
        rw [e1, e2]
        exact ((a3 i (by omega) hil).upd u2 (by simp) (by simp)).upd u3 (by simp) (by simp)
      · have e0 : i = l.length := by simp at hi'; omega
        subst e0
        have e1 : (bs ++ [bb])[l.length] = bb := by rw [List.getElem_append_right (by omega)]; simp
        have e2 : (l ++ [x])[l.length] = x := by simp
        rw [e1, e2]
        exact h4.upd u3 (by simp) (by simp)

theorem C14 (r' : Nat) (hr' : 0 < r') {words most : Int} (hc : 1 ≤ cores ∧ cores ≤ 8) (hw : 1 ≤ words ∧ words ≤ 65536) (hm : 1 ≤ most ∧ most ≤ 16)
    (h : ∀ ow' H' b', Upd Tno ow H ow' H' → BusR r' ow' H' b' (List.replicate words.toNat 0) most (List.replicate cores.toNat []) → K (.tuple #[Pt b', I 0]) H') : CallsH Tryz.prog m 14 [I cores, I words, I most] H K := by
  refine S14 (C46 (ow := ow) r' hw ?_)
  intro ow1 H1 rb u1 r1
  refine ⟨_, _, rfl, br_f (br_no (by simp; omega) (br_no (by simp; omega) (C47 (ow := ow1) (0, 0) hm ?_)))⟩
  intro ow2 H2 b2 u2 _
  refine ⟨_, rfl, br_f (nw_t (ow := ow2) (r', 1, 0, 0) ?_)⟩
  intro ow3 H3 b3 u3 hb3 g3
  have u13 := (u1.trans u2).trans u3
  have hsz : H.size ≤ b3 := by have := u1.size; have := u2.size; omega
  refine ⟨fun i A => ∃ k : Nat, i = (k : Int) ∧ k ≤ cores.toNat ∧ ∃ ow' q c, Upd Tno ow H ow' A ∧ Fresh H.size q ∧ Has ow' A (r', 1, 0, 0) b3 [Pt rb, .slice q k c] ∧ RamR r' ow' A rb (List.replicate words.toNat 0) ∧ BufsR r' ow' A q k c most (List.replicate k []), fun i _ => (cores - i).toNat, ⟨0, rfl, by omega, ow3, none, 0, u13, Fresh.none, g3, (r1.upd u2 Off.no).upd u3 Off.no, [], rfl, SlT.nil, fun i hi => by simp at hi⟩, ?_⟩
  rintro _ A w j ⟨k, rfl, hk, ow', q, c, u, f, a1, a2, a3⟩ hw2
  by_cases hlt : k < cores.toNat
  · refine br_yes (by simp; omega) (ldS_r a1.2 rfl (C47 (ow := ow') (r', k) hm ?_))
    intro ow4 H4 bb u4 b4
    refine ⟨_, rfl, ?_⟩
    refine join_buf (x := []) (l := List.replicate k []) (bb := bb) hr' (by simp; omega) (u.trans u4) hsz f (a1.upd u4 id) (a2.upd u4 Off.no) (a3.upd u4 Off.no) (by simpa using b4) ?_
    intro ow5 H5 q' c' U f' d1 d2 d3
    refine ⟨⟨k + 1, wr_i64 (by omega) (by omega), by omega, ow5, q', c', U, f', d1, d2, ?_⟩, ?_⟩
    · rw [List.replicate_succ']; exact d3
    · rw [wr_i64 (by omega) (by omega)]; subst hw2
      show (cores - ((k : Int) + 1)).toNat + 1 ≤ (cores - (k : Int)).toNat
      omega
  · obtain rfl : k = cores.toNat := by omega
    exact br_no (by simp; omega) (h ow' A b3 u ⟨rb, q, _, c, a1, a2, a3⟩)

theorem C14n {words most : Int} (hn : ¬ ((1 ≤ cores ∧ cores ≤ 8) ∧ (1 ≤ words ∧ words ≤ 65536) ∧ 1 ≤ most ∧ most ≤ 16))
    (h : ∀ ow' H', Upd Tno ow H ow' H' → K (.tuple #[.pointer none, I 2]) H') : CallsH Tryz.prog m 14 [I cores, I words, I most] H K := by
  refine S14 ?_
  by_cases hw : 1 ≤ words ∧ words ≤ 65536
  · refine C46 (ow := ow) 1 hw ?_
    intro ow1 H1 rb u1 r1
    refine ⟨_, _, rfl, br_f ?_⟩
    by_cases e1 : cores < 1
    · exact br_yes (by simpa using e1) (h ow1 H1 u1)
    · refine br_no (by simpa using e1) ?_
      by_cases e2 : cores > 8
      · exact br_yes (by simpa using e2) (h ow1 H1 u1)
      · refine br_no (by simpa using e2) (C47n (by omega) ⟨_, rfl, br_t (h ow1 H1 u1)⟩)
  · exact C46n hw ⟨_, _, rfl, br_t (h ow H (Upd.refl _ _ _))⟩

theorem C26 (hr0 : 0 < r) (r' : Nat) (hr' : 0 < r') {ram : List Int} {most : Int} {bufs : List (List (Int × Int))} (hB : BusR r ow H b ram most bufs) (ok : BOk ram most bufs) (h8 : bufs.length ≤ 8)
    (h : ∀ ow' H' b', Upd Tno ow H ow' H' → BusR r' ow' H' b' ram most bufs → K (Pt b') H') : CallsH Tryz.prog m 26 [Pt b] H K := by
  obtain ⟨rb0, q0, n0, c0, g1, g2, g3⟩ := hB
  have hn0 := BufsR.len g3
  subst hn0
  refine S26 (br_f (nn_r (ldP_r (x := at0 rb0) g1.2 rfl (C59 r' g2 ok.len ?_))))
  intro ow1 H1 rb u1 r1
  refine ⟨_, rfl, nw_t (ow := ow1) (r', 1, 0, 0) ?_⟩
  intro ow3 H3 b3 u3 hb3 k3
  have u13 := u1.trans u3
  have hsz : H.size ≤ b3 := by have := u1.size; omega
  refine nn_r (ldS_r (g1.upd u13 id).2 rfl ?_)
  refine ⟨fun i A => ∃ k : Nat, i = (k : Int) ∧ k ≤ bufs.length ∧ ∃ ow' q c, Upd Tno ow H ow' A ∧ Fresh H.size q ∧ Has ow' A (r', 1, 0, 0) b3 [Pt rb, .slice q k c] ∧ RamR r' ow' A rb ram ∧ BufsR r' ow' A q k c most (bufs.take k), fun i _ => (bufs.length - i).toNat, ⟨0, rfl, by omega, ow3, none, 0, u13, Fresh.none, k3, r1.upd u3 Off.no, [], rfl, SlT.nil, fun i hi => by simp at hi⟩, ?_⟩
  rintro _ A w j ⟨k, rfl, hk, ow', q, c, u, f, a1, a2, a3⟩ hw2
  by_cases hlt : k < bufs.length
  · refine br_yes (by simp; omega) ?_
    obtain ⟨bs, d1, d2, d3⟩ := g3.upd u Off.no
    obtain ⟨bb, o, cs, rfl, e1, e2, e3, e4⟩ := d2.place (by simp; omega)
    refine ⟨_, rfl, ⟨by omega, by omega⟩, ?_⟩
    show ldP A ((⟨bb, o, none⟩ : Addr).add ((k : Int).toNat * 1)) _
    rw [add_mk, Nat.mul_one, Int.toNat_natCast]
    refine ldP_r (x := at0 (bs[k]'(by omega))) e1.2 ?_ (ldS_r a1.2 rfl (C60 r' k (d3 k (by omega) hlt) (by have := ok.short hlt; have := ok.m16; omega) ?_))
    · rw [e2 k (by simp; omega), List.getElem?_map, List.getElem?_eq_getElem (by omega)]; rfl
    intro ow4 H4 bb4 u4 b4
    refine ⟨_, rfl, ?_⟩
    have hl : (bufs.take k).length = k := by simp; omega
    refine join_buf (x := bufs[k]) (l := bufs.take k) (bb := bb4) hr' (by rw [hl]; omega) (u.trans u4) hsz f (a1.upd u4 id) (a2.upd u4 Off.no) (a3.upd u4 Off.no) (by rw [hl]; exact b4) ?_
    intro ow5 H5 q' c' U f' d1 d2 d3
    refine ⟨⟨k + 1, wr_i64 (by omega) (by omega), by omega, ow5, q', c', U, f', d1, d2, ?_⟩, ?_⟩
    · rw [List.take_succ_eq_append_getElem hlt]; exact d3
    · rw [wr_i64 (by omega) (by omega)]; subst hw2
      show ((bufs.length : Int) - ((k : Int) + 1)).toNat + 1 ≤ ((bufs.length : Int) - (k : Int)).toNat
      omega
  · obtain rfl : k = bufs.length := by omega
    rw [List.take_length] at a3
    exact br_no (by simp) (h ow' A b3 u ⟨rb, q, _, c, a1, a2, a3⟩)

theorem C17 (r' : Nat) (hc : 1 ≤ cores ∧ cores ≤ 8) (hl : 1 ≤ locks ∧ locks ≤ 16) (h : ∀ ow' H' b', Upd Tno ow H ow' H' → LocksR r' ow' H' b' cores locks (List.replicate 16 0) → K (Pt b') H') : CallsH Tryz.prog m 17 [I cores, I locks] H K := by
  refine S17 (br_no (by simp; omega) (br_no (by simp; omega) (br_no (by simp; omega) (br_no (by simp; omega) (nw_t (ow := ow) (r', 11, 0, 0) ?_)))))
  intro ow1 H1 b1 u1 hb1 g1
  exact h ow1 H1 b1 u1 g1

theorem C18 (r' : Nat) (hc : 1 ≤ cores ∧ cores ≤ 8) (h : ∀ ow' H' b', Upd Tno ow H ow' H' → GateR r' ow' H' b' cores (List.replicate 8 0) (List.replicate 8 false) → K (Pt b') H') : CallsH Tryz.prog m 18 [I cores] H K := by
  refine S18 (br_no (by simp; omega) (br_no (by simp; omega) (nw_t (ow := ow) (r', 12, 0, 0) ?_)))
  intro ow1 H1 b1 u1 hb1 g1
  exact h ow1 H1 b1 u1 g1
end
end Go.Proofs.YtoddfageecbkcaaGreat

/-
  CONTRACTS: mailboxes made and cloned.
-/
import Derived.Test.YtoddfageecbkcaaGreatK13
namespace Go.Proofs.YtoddfageecbkcaaGreat
open Go Go.Eng Sy
set_option linter.unusedVariables false
set_option linter.unusedSimpArgs false
set_option maxRecDepth 100000

theorem zc105l : (zc Tryz.prog 105).length = 2 := by kernel_rfl
theorem zc105 : zc Tryz.prog 105 = [I 0, .pointer none] := by kernel_rfl

theorem boxCells_snoc (bs : List Nat) (box : List (Int × List Int)) (b : Nat) (x : Int × List Int) (h : bs.length = box.length) : boxCells (bs ++ [b]) (box ++ [x]) = boxCells bs box ++ [I x.1, Pt b] := by
  unfold boxCells
  rw [List.zip_append h, List.flatMap_append]
  simp

/-- Mailboxes' rows, for a box that is being made. -/
def BoxsR (r : Nat) (ow : Ow) (H : Hp) (q : Option Addr) (n c : Nat) (box : List (Int × List Int)) : Prop :=
  ∃ bs : List Nat, bs.length = box.length ∧ SlT 2 ow H (r, 8, 0, 0) q n c (boxCells bs box) ∧ ∀ i (h : i < bs.length) (h' : i < box.length), LaneR r ow H i bs[i] box[i].2
theorem BoxsR.upd {T : Tg → Prop} {r : Nat} {ow ow' : Ow} {H H' : Hp} {q : Option Addr} {n c : Nat} {box : List (Int × List Int)} (h : BoxsR r ow H q n c box) (u : Upd T ow H ow' H') (hn : Off r 8 10 T) : BoxsR r ow' H' q n c box := by
  obtain ⟨bs, h1, h2, h3⟩ := h
  exact ⟨bs, h1, h2.upd u (hn.at (by decide) (by decide)), fun i hi hi' => (h3 i hi hi').upd u (hn.at (by decide) (by decide)) (hn.at (by decide) (by decide))⟩

section
variable {m : Amb} {r : Nat} {ow : Ow} {H : Hp} {K : Value → Hp → Prop} {b : Nat} {cores : Int}

theorem join_box {T : Tg → Prop} {ow0 : Ow} {H0 : Hp} {bb : Nat} {q : Option Addr} {n c : Nat} {l : List (Int × List Int)} {x : Int × List Int} {K' : Hp → Prop} (hr0 : 0 < r) (hl : l.length < 8)
    (u : Upd T ow0 H0 ow H) (hb : H0.size ≤ b) (f : Fresh H0.size q) (h1 : Has ow H (r, 7, 0, 0) b [.slice q n c]) (h3 : BoxsR r ow H q n c l) (h4 : LaneR r ow H l.length bb x.2)
    (hk : ∀ ow' H' q' c', Upd T ow0 H0 ow' H' → Fresh H0.size q' → Has ow' H' (r, 7, 0, 0) b [.slice q' (n + 1) c'] → BoxsR r ow' H' q' (n + 1) c' (l ++ [x]) → K' H') :
    must (cont H ⟨b, 0, none⟩ (.slice q n c)) (nw H [I x.1, Pt bb] 105 fun a21 H22 => must (cont H22 ⟨b, 0, none⟩ (.slice q n c)) (rd H22 (some a21) 2 fun cs23 => ap Tryz.prog 105 2 16 H22 q n c cs23 1 fun r24 l25 l26 H27 => st H27 ⟨b, 0, none⟩ (.slice r24 l25 l26) K')) := by
  refine must_r (cont_r h1.2 rfl) (nw_t (ow := ow) T0 ?_)
  intro ow1 H1 b1 u1 hb1 g1
  have h1 := h1.upd u1 id
  have h3 := h3.upd u1 Off.no
  have h4 := h4.upd u1 id id
  refine must_r (cont_r h1.2 rfl) (.inr ⟨_, rfl, rfl, _, rcells_of g1.2, by simp, ?_⟩)
  obtain ⟨bs, a1, a2, a3⟩ := h3
  have hn : n = l.length := by have := a2.1; rw [box_len bs l a1] at this; omega
  refine ap_f (u.trans (u1.mono fun _ h => h.elim)) f zc105l a2 (by rfl) (by intro v hv; simp at hv; rcases hv with rfl | rfl <;> rfl) (by omega) ?_ ?_
  · intro hlt2
    have := ncap (n := n + 1) (c := c) (by have := a2.2.1; omega) (by omega) hlt2
    omega
  · intro ow2 q' c' H2 U2 u2 f2 s2
    have h1 := h1.upd u2 (by simp)
    have h4 := h4.upd u2 (by simp) (by simp)
    refine st_t h1 rfl (by simp) fun H3 s3 h3 => ?_
    have u3 := s3.upd h1.1
    refine hk ow2 H3 q' c' (U2.set s3 (.inr hb)) f2 h3 ?_
    refine ⟨bs ++ [bb], by simp [a1], ?_, fun i hi hi' => ?_⟩
    · have := s2.upd u3 (by simp)
      rw [boxCells_snoc _ _ _ _ a1]
      simpa using this
    · by_cases hil : i < l.length
      · have e1 : (bs ++ [bb])[i] = bs[i]'(by omega) := List.getElem_append_left (by omega)
        have e2 : (l ++ [x])[i] = l[i] := List.getElem_append_left hil
        rw [e1, e2]
        exact ((a3 i (by omega) hil).upd u2 (by simp) (by simp)).upd u3 (by simp) (by simp)
      · have e0 : i = l.length := by simp at hi'; omega
        subst e0
        have e1 : (bs ++ [bb])[l.length] = bb := by rw [List.getElem_append_right (by omega)]; simp
        have e2 : (l ++ [x])[l.length] = x := by simp
        rw [e1, e2]
        exact h4.upd u3 (by simp) (by simp)

theorem C16 (r' : Nat) (hr' : 0 < r') (hc : 1 ≤ cores ∧ cores ≤ 8) (h : ∀ ow' H' b', Upd Tno ow H ow' H' → BoxR r' ow' H' b' (List.replicate cores.toNat (0, [])) → K (Pt b') H') : CallsH Tryz.prog m 16 [I cores] H K := by
  refine S16 (br_no (by simp; omega) (br_no (by simp; omega) (nw_t (ow := ow) (r', 7, 0, 0) ?_)))
  intro ow3 H3 b3 u3 hb3 g3
  have hsz : H.size ≤ b3 := by omega
  refine ⟨fun i A => ∃ k : Nat, i = (k : Int) ∧ k ≤ cores.toNat ∧ ∃ ow' q c, Upd Tno ow H ow' A ∧ Fresh H.size q ∧ Has ow' A (r', 7, 0, 0) b3 [.slice q k c] ∧ BoxsR r' ow' A q k c (List.replicate k (0, [])), fun i _ => (cores - i).toNat, ⟨0, rfl, by omega, ow3, none, 0, u3, Fresh.none, g3, [], rfl, SlT.nil, fun i hi => by simp at hi⟩, ?_⟩
  rintro _ A w j ⟨k, rfl, hk, ow', q, c, u, f, a1, a3⟩ hw2
  by_cases hlt : k < cores.toNat
  · refine br_yes (by simp; omega) (ldS_r a1.2 rfl (C49 (ow := ow') r' k ?_))
    intro ow4 H4 bb u4 b4
    refine ⟨_, rfl, ?_⟩
    refine join_box (x := (0, [])) (l := List.replicate k (0, [])) (bb := bb) hr' (by simp; omega) (u.trans u4) hsz f (a1.upd u4 id) (a3.upd u4 Off.no) (by simpa using b4) ?_
    intro ow5 H5 q' c' U f' d1 d3
    refine ⟨⟨k + 1, wr_i64 (by omega) (by omega), by omega, ow5, q', c', U, f', d1, ?_⟩, ?_⟩
    · rw [List.replicate_succ']; exact d3
    · rw [wr_i64 (by omega) (by omega)]; subst hw2
      show (cores - ((k : Int) + 1)).toNat + 1 ≤ (cores - (k : Int)).toNat
      omega
  · obtain rfl : k = cores.toNat := by omega
    obtain ⟨bs, e1, e2, e3⟩ := a3
    exact br_no (by simp; omega) (h ow' A b3 u ⟨q, _, c, bs, a1, e1, e2, e3⟩)

theorem C27 (hr0 : 0 < r) (r' : Nat) (hr' : 0 < r') {box : List (Int × List Int)} (hB : BoxR r ow H b box) (h8 : box.length ≤ 8)
    (h : ∀ ow' H' b', Upd Tno ow H ow' H' → BoxR r' ow' H' b' box → K (Pt b') H') : CallsH Tryz.prog m 27 [Pt b] H K := by
  obtain ⟨q0, n0, c0, bs0, g1, g2, g3, g4⟩ := hB
  have hl0 := box_len bs0 box g2
  have hn0 : n0 = box.length := by have := g3.1; omega
  subst hn0
  refine S27 (br_f (nw_t (ow := ow) (r', 7, 0, 0) ?_))
  intro ow3 H3 b3 u3 hb3 k3
  have hsz : H.size ≤ b3 := by omega
  refine nn_r (ldS_r (g1.upd u3 id).2 rfl ?_)
  refine ⟨fun i A => ∃ k : Nat, i = (k : Int) ∧ k ≤ box.length ∧ ∃ ow' q c, Upd Tno ow H ow' A ∧ Fresh H.size q ∧ Has ow' A (r', 7, 0, 0) b3 [.slice q k c] ∧ BoxsR r' ow' A q k c (box.take k), fun i _ => (box.length - i).toNat, ⟨0, rfl, by omega, ow3, none, 0, u3, Fresh.none, k3, [], rfl, SlT.nil, fun i hi => by simp at hi⟩, ?_⟩
  rintro _ A w j ⟨k, rfl, hk, ow', q, c, u, f, a1, a3⟩ hw2
  by_cases hlt : k < box.length
  · refine br_yes (by simp; omega) ?_
    have g3' := g3.upd u id
    have hb := box_get bs0 box k (by omega) hlt
    obtain ⟨bb, o, cs, rfl, e1, e2, e3, e4⟩ := g3'.place (by omega)
    refine ⟨_, rfl, ⟨by omega, by omega⟩, ?_⟩
    have ead : (⟨bb, o, none⟩ : Addr).add ((k : Int).toNat * 2) = ⟨bb, o + 2 * k, none⟩ := by
      rw [add_mk, Int.toNat_natCast, Nat.mul_comm]
    have p0 : cs[o + 2 * k]? = some (I box[k].1) := by rw [e2 _ (by omega)]; exact hb.1
    have p1 : cs[o + 2 * k + 1]? = some (Pt (bs0[k]'(by omega))) := by rw [Nat.add_assoc, e2 _ (by omega)]; exact hb.2
    show ldI .i64 A (((⟨bb, o, none⟩ : Addr).add ((k : Int).toNat * 2)).add 0) fun i13 => ldP A (((⟨bb, o, none⟩ : Addr).add ((k : Int).toNat * 2)).add 1) _
    rw [ead, add_mk, add_mk]
    refine ldI_r (x := box[k].1) e1.2 p0 (ldP_r (x := at0 (bs0[k]'(by omega))) e1.2 p1 ?_)
    rw [zc105]
    refine nw_t (ow := ow') T0 ?_
    intro ow4 H4 b4 u4 hb4 g4'
    refine st_t g4' rfl (by decide) fun H5 s5 g5 => st_t g5 rfl (by simp) fun H6 s6 g6 => ?_
    have k4 : b3 ≠ b4 := by have := a1.lt; omega
    have hA : A.size ≤ b4 := Nat.le_of_eq hb4.symm
    have uA : Upd Tno ow' A ow4 H6 := (u4.set s5 (.inr hA)).set s6 (.inr hA)
    have a1' := a1.upd uA id
    refine ldS_r a1'.2 rfl (ldI_r (x := box[k].1) g6.2 rfl (ldP_r (x := at0 (bs0[k]'(by omega))) g6.2 rfl ?_))
    refine C61 hr0 r' k ((g4 k (by omega) hlt).upd (u.trans uA) id id) ?_
    intro ow7 H7 b7 u7 l7
    have g7 := g6.upd u7 id
    refine ⟨_, rfl, must_r (cont_r g7.2 rfl) ?_⟩
    have hl : (box.take k).length = k := by simp; omega
    refine join_box (x := box[k]) (l := box.take k) (bb := b7) hr' (by rw [hl]; omega) ((u.trans uA).trans u7) hsz f (a1'.upd u7 id) ((a3.upd uA Off.no).upd u7 Off.no) (by rw [hl]; exact l7) ?_
    intro ow5 H5 q' c' U f' d1 d3
    refine ⟨⟨k + 1, wr_i64 (by omega) (by omega), by omega, ow5, q', c', U, f', d1, ?_⟩, ?_⟩
    · rw [List.take_succ_eq_append_getElem hlt]; exact d3
    · rw [wr_i64 (by omega) (by omega)]; subst hw2
      show ((box.length : Int) - ((k : Int) + 1)).toNat + 1 ≤ ((box.length : Int) - (k : Int)).toNat
      omega
  · obtain rfl : k = box.length := by omega
    rw [List.take_length] at a3
    obtain ⟨bs, e1, e2, e3⟩ := a3
    exact br_no (by simp) (h ow' A b3 u ⟨q, _, c, bs, a1, e1, e2, e3⟩)
end
end Go.Proofs.YtoddfageecbkcaaGreat

/-
  CONTRACTS: two socs that are the same are told to be.
-/
import Derived.Test.YtoddfageecbkcaaGreatK21
import Derived.Test.YtoddfageecbkcaaGreatT1
namespace Go.Proofs.YtoddfageecbkcaaGreat
open Go Go.Eng Sy
set_option linter.unusedVariables false
set_option linter.unusedSimpArgs false
set_option maxRecDepth 100000

section
variable {m : Amb} {r r' : Nat} {ow : Ow} {H : Hp} {K : Value → Hp → Prop} {b b' : Nat} {s : Soc}

theorem C95 {τ τ' : Tg} {q q' : Option Addr} {n n' c c' : Nat} {l : List Int} (h1 : SlT 1 ow H τ q n c (l.map I)) (h2 : SlT 1 ow H τ' q' n' c' (l.map I)) (hl : l.length ≤ 2 ^ 40) (h : K (B true) H) : CallsH Tryz.prog m 95 [.slice q n c, .slice q' n' c'] H K := by
  have e1 : l.length = n := by simpa using h1.len1
  have e2 : l.length = n' := by simpa using h2.len1
  obtain rfl : n = n' := by omega
  refine S95 (br_no (by simp) ⟨fun i A => ∃ k : Nat, i = (k : Int) ∧ k ≤ n ∧ A = H, fun i _ => (n - i).toNat, ⟨0, rfl, by omega, rfl⟩, ?_⟩)
  rintro _ A w _ ⟨k, rfl, hk, rfl⟩ hw
  by_cases hlt : k < n
  · refine br_yes (by simp; omega) (ld_sl h1 (by omega) (ld_sl h2 (by omega) (br_no (by simp) ⟨⟨k + 1, wr_i64 (by omega) (by omega), by omega, rfl⟩, ?_⟩)))
    rw [wr_i64 (by omega) (by omega)]; subst hw
    show ((n : Int) - ((k : Int) + 1)).toNat + 1 ≤ ((n : Int) - (k : Int)).toNat
    omega
  · exact br_no (by simp; omega) h

theorem C88 {ws : List Int} (h1 : RamR r ow H b ws) (h2 : RamR r' ow H b' ws) (hl : ws.length ≤ 65536) (h : K (B true) H) : CallsH Tryz.prog m 88 [Pt b, Pt b'] H K := by
  obtain ⟨q, n, c, a1, a2⟩ := h1
  obtain ⟨q', n', c', d1, d2⟩ := h2
  exact S88 (br_f (br_f (nn_r (ldS_r a1.2 rfl (nn_r (ldS_r d1.2 rfl (C95 a2 d2 (by omega) ⟨_, rfl, h⟩)))))))

theorem cx_self {p : Int × Int} (hp : okP p) : FloatKind.f64.format.order (fl p.1) (fl p.1) = some .eq ∧ FloatKind.f64.format.order (fl p.2) (fl p.2) = some .eq := ⟨fl_self hp.1, fl_self hp.2⟩

theorem C121 {τ τ' : Tg} {q q' : Option Addr} {n n' c c' : Nat} {l : List (Int × Int)} (h1 : SlT 1 ow H τ q n c (l.map cx)) (h2 : SlT 1 ow H τ' q' n' c' (l.map cx)) (hp : ∀ p ∈ l, okP p) (hl : l.length ≤ 2 ^ 40) (h : K (B true) H) : CallsH Tryz.prog m 121 [.slice q n c, .slice q' n' c'] H K := by
  have e1 : l.length = n := by simpa using h1.len1
  have e2 : l.length = n' := by simpa using h2.len1
  obtain rfl : n = n' := by omega
  refine S121 (br_no (by simp) ⟨fun i A => ∃ k : Nat, i = (k : Int) ∧ k ≤ n ∧ A = H, fun i _ => (n - i).toNat, ⟨0, rfl, by omega, rfl⟩, ?_⟩)
  rintro _ A w j ⟨k, rfl, hk, rfl⟩ hw
  by_cases hlt : k < n
  · refine br_yes (by simp; omega) ?_
    obtain ⟨bb, o, cs, rfl, g1, g2, g3, g4⟩ := h1.place (by simp; omega)
    obtain ⟨bb', o', cs', rfl, f1, f2, f3, f4⟩ := h2.place (by simp; omega)
    have hkl : k < l.length := by omega
    have hget : (l.map cx)[k]? = some (cx l[k]) := by rw [List.getElem?_map, List.getElem?_eq_getElem hkl]; rfl
    refine ⟨_, rfl, ⟨by omega, by omega⟩, ?_⟩
    show ldV A ((⟨bb, o, none⟩ : Addr).add ((k : Int).toNat * 1)) _
    rw [add_mk, Nat.mul_one, Int.toNat_natCast]
    refine ldV_r (x := cx l[k]) g1.2 (by rw [g2 k (by simpa using hkl)]; exact hget) rfl ?_
    refine ⟨_, rfl, ⟨by omega, by omega⟩, ?_⟩
    show ldV A ((⟨bb', o', none⟩ : Addr).add k) _
    rw [add_mk]
    refine ldV_r (x := cx l[k]) f1.2 (by rw [f2 k (by simpa using hkl)]; exact hget) rfl ?_
    have ho := cx_self (hp l[k] (List.getElem_mem _))
    refine ⟨.bool (!((FloatKind.f64.format.order (fl l[k].1) (fl l[k].1) == some .eq) && (FloatKind.f64.format.order (fl l[k].2) (fl l[k].2) == some .eq))), fun w => by kernel_rfl, _, rfl, ?_⟩
    refine br_no (by rw [ho.1, ho.2]; rfl) ⟨⟨k + 1, wr_i64 (by omega) (by omega), by omega, rfl⟩, ?_⟩
    rw [wr_i64 (by omega) (by omega)]; subst hw
    show ((n : Int) - ((k : Int) + 1)).toNat + 1 ≤ ((n : Int) - (k : Int)).toNat
    omega
  · exact br_no (by simp; omega) h

theorem C90 {i i' : Nat} {most : Int} {l : List (Int × Int)} (h1 : BufR r ow H i b most l) (h2 : BufR r' ow H i' b' most l) (hp : ∀ p ∈ l, okP p) (hl : l.length ≤ 16) (h : ∀ ow' H', Upd Tno ow H ow' H' → K (B true) H') : CallsH Tryz.prog m 90 [Pt b, Pt b'] H K := by
  refine S90 (C77 h1 ⟨_, rfl, C77 h2 ⟨_, rfl, br_yes (by simp) (C92 T0 h1 (by omega) ?_)⟩⟩)
  intro ow1 H1 q c u1 s1
  refine ⟨_, _, _, rfl, C92 T0 (h2.upd u1 id id) (by omega) ?_⟩
  intro ow2 H2 q' c' u2 s2
  refine ⟨_, _, _, rfl, S91 (C121 (s1.upd u2 id) s2 hp (by omega) ⟨_, rfl, ⟨_, rfl, h ow2 H2 (u1.trans u2)⟩⟩)⟩

theorem C89 {q q' : Option Addr} {n n' c c' : Nat} {most : Int} {bufs : List (List (Int × Int))} (h1 : BufsR r ow H q n c most bufs) (h2 : BufsR r' ow H q' n' c' most bufs) (hp : ∀ l ∈ bufs, (∀ p ∈ l, okP p) ∧ l.length ≤ 16) (h8 : bufs.length ≤ 8)
    (h : ∀ ow' H', Upd Tno ow H ow' H' → K (B true) H') : CallsH Tryz.prog m 89 [.slice q n c, .slice q' n' c', .func (.func 90) #[] #[]] H K := by
  have e1 := BufsR.len h1
  have e2 := BufsR.len h2
  subst e1; subst e2
  refine S89 (br_no (by simp) ⟨fun i A => ∃ k : Nat, i = (k : Int) ∧ k ≤ bufs.length ∧ ∃ ow', Upd Tno ow H ow' A, fun i _ => (bufs.length - i).toNat, ⟨0, rfl, by omega, ow, Upd.refl _ _ _⟩, ?_⟩)
  rintro _ A w j ⟨k, rfl, hk, ow', u⟩ hw
  by_cases hlt : k < bufs.length
  · refine br_yes (by simp; omega) ?_
    obtain ⟨bs, a1, a2, a3⟩ := h1.upd u Off.no
    obtain ⟨bs', d1, d2, d3⟩ := h2.upd u Off.no
    obtain ⟨bb, o, cs, rfl, g1, g2, g3, g4⟩ := a2.place (by simp; omega)
    obtain ⟨bb', o', cs', rfl, f1, f2, f3, f4⟩ := d2.place (by simp; omega)
    refine ⟨_, rfl, ⟨by omega, by omega⟩, ?_⟩
    show ldP A ((⟨bb, o, none⟩ : Addr).add ((k : Int).toNat * 1)) _
    rw [add_mk, Nat.mul_one, Int.toNat_natCast]
    refine ldP_r (x := at0 (bs[k]'(by omega))) g1.2 (by rw [g2 k (by simp; omega), List.getElem?_map, List.getElem?_eq_getElem (by omega)]; rfl) ?_
    refine ⟨_, rfl, ⟨by omega, by omega⟩, ?_⟩
    show ldP A ((⟨bb', o', none⟩ : Addr).add k) _
    rw [add_mk]
    refine ldP_r (x := at0 (bs'[k]'(by omega))) f1.2 (by rw [f2 k (by simp; omega), List.getElem?_map, List.getElem?_eq_getElem (by omega)]; rfl) ?_
    have hpk := hp bufs[k] (List.getElem_mem _)
    refine ⟨90, #[], #[], rfl, by kernel_rfl, C90 (a3 k (by omega) hlt) (d3 k (by omega) hlt) hpk.1 hpk.2 ?_⟩
    intro ow2 H2 u2
    refine ⟨_, rfl, br_f ⟨⟨k + 1, wr_i64 (by omega) (by omega), by omega, ow2, u.trans u2⟩, ?_⟩⟩
    rw [wr_i64 (by omega) (by omega)]; subst hw
    show ((bufs.length : Int) - ((k : Int) + 1)).toNat + 1 ≤ ((bufs.length : Int) - (k : Int)).toNat
    omega
  · exact br_no (by simp; omega) (h ow' A u)

theorem C42 {ram : List Int} {most : Int} {bufs : List (List (Int × Int))} (h1 : BusR r ow H b ram most bufs) (h2 : BusR r' ow H b' ram most bufs) (ok : BOk ram most bufs) (h8 : bufs.length ≤ 8) (h : ∀ ow' H', Upd Tno ow H ow' H' → K (B true) H') : CallsH Tryz.prog m 42 [Pt b, Pt b'] H K := by
  obtain ⟨rb, q, n, c, a1, a2, a3⟩ := h1
  obtain ⟨rb', q', n', c', d1, d2, d3⟩ := h2
  refine S42 (br_f (br_f (nn_r (ldP_r (x := at0 rb) a1.2 rfl (nn_r (ldP_r (x := at0 rb') d1.2 rfl (C88 a2 d2 ok.len ⟨_, rfl, br_t ?_⟩)))))))
  refine nn_r (ldS_r a1.2 rfl (nn_r (ldS_r d1.2 rfl (C89 a3 d3 (fun l hl => ⟨fun p hp => (ok.pairs l hl p hp).1, by have := ok.room l hl; have := ok.m16; omega⟩) h8 ?_))))
  intro ow1 H1 u1
  exact ⟨_, rfl, h ow1 H1 u1⟩

theorem C94 (hr : 0 < r) (hr' : 0 < r') {i i' : Nat} {x : Int} {l : List Int} (h1 : LaneR r ow H i b l) (h2 : LaneR r' ow H i' b' l) (h : ∀ ow' H', Upd Tno ow H ow' H' → K (B true) H') : CallsH Tryz.prog m 94 [.agg #[I x, Pt b], .agg #[I x, Pt b']] H K := by
  have hl : l.length ≤ 16 := by obtain ⟨_, _, _, _, _, _, _, h, _⟩ := h1; exact h
  refine S94 ?_
  unfold t94
  refine nw_t (ow := ow) T0 ?_
  intro ow1 H1 b1 u1 hb1 g1
  refine nw_t (ow := ow1) T0 ?_
  intro ow2 H2 b2 u2 hb2 g2
  have g1 := g1.upd u2 id
  have u := u1.trans u2
  refine ldI_r (x := x) g1.2 rfl (ldI_r (x := x) g2.2 rfl (br_yes (by simp) (ldP_r (x := at0 b) g1.2 rfl (ldP_r (x := at0 b') g2.2 rfl (C96 hr (h1.upd u id id) ?_)))))
  intro ow3 H3 q c u3 s3
  have g2 := g2.upd u3 id
  refine ⟨_, _, _, rfl, must_r (cont_r g2.2 rfl) (C96 hr' (h2.upd (u.trans u3) id id) ?_)⟩
  intro ow4 H4 q' c' u4 s4
  exact ⟨_, _, _, rfl, C95 (s3.upd u4 id) s4 (by omega) ⟨_, rfl, h ow4 H4 ((u.trans u3).trans u4)⟩⟩

theorem C43 (hr : 0 < r) (hr' : 0 < r') {box : List (Int × List Int)} (h1 : BoxR r ow H b box) (h2 : BoxR r' ow H b' box) (h8 : box.length ≤ 8) (h : ∀ ow' H', Upd Tno ow H ow' H' → K (B true) H') : CallsH Tryz.prog m 43 [Pt b, Pt b'] H K := by
  obtain ⟨q, n, c, bs, a1, a2, a3, a4⟩ := h1
  obtain ⟨q', n', c', bs', d1, d2, d3, d4⟩ := h2
  have l1 := box_len bs box a2
  have l2 := box_len bs' box d2
  have e1 : n = box.length := by have := a3.1; omega
  have e2 : n' = box.length := by have := d3.1; omega
  subst e1; subst e2
  refine S43 (br_f (br_f (nn_r (ldS_r a1.2 rfl (nn_r (ldS_r d1.2 rfl ?_))))))
  refine S93 (br_no (by simp) ⟨fun i A => ∃ k : Nat, i = (k : Int) ∧ k ≤ box.length ∧ ∃ ow', Upd Tno ow H ow' A, fun i _ => (box.length - i).toNat, ⟨0, rfl, by omega, ow, Upd.refl _ _ _⟩, ?_⟩)
  rintro _ A w j ⟨k, rfl, hk, ow', u⟩ hw
  by_cases hlt : k < box.length
  · refine br_yes (by simp; omega) ?_
    have hb := box_get bs box k (by omega) hlt
    have hb' := box_get bs' box k (by omega) hlt
    obtain ⟨bb, o, cs, rfl, g1, g2, g3, g4⟩ := (a3.upd u id).place (by omega)
    obtain ⟨bb', o', cs', rfl, f1, f2, f3, f4⟩ := (d3.upd u id).place (by omega)
    have p0 : cs[o + 2 * k]? = some (I box[k].1) := by rw [g2 _ (by omega)]; exact hb.1
    have p1 : cs[o + 2 * k + 1]? = some (Pt (bs[k]'(by omega))) := by rw [Nat.add_assoc, g2 _ (by omega)]; exact hb.2
    have p0' : cs'[o' + 2 * k]? = some (I box[k].1) := by rw [f2 _ (by omega)]; exact hb'.1
    have p1' : cs'[o' + 2 * k + 1]? = some (Pt (bs'[k]'(by omega))) := by rw [Nat.add_assoc, f2 _ (by omega)]; exact hb'.2
    have ead : ∀ x y : Nat, (⟨x, y, none⟩ : Addr).add ((k : Int).toNat * 2) = ⟨x, y + 2 * k, none⟩ := by
      intro x y; rw [add_mk, Int.toNat_natCast, Nat.mul_comm]
    refine ⟨_, rfl, ⟨by omega, by omega⟩, ?_⟩
    show ldI .i64 A (((⟨bb, o, none⟩ : Addr).add ((k : Int).toNat * 2)).add 0) fun i13 => ldP A (((⟨bb, o, none⟩ : Addr).add ((k : Int).toNat * 2)).add 1) _
    rw [ead, add_mk, add_mk, zc105]
    refine ldI_r (x := box[k].1) g1.2 p0 (ldP_r (x := at0 (bs[k]'(by omega))) g1.2 p1 ?_)
    refine nw_t (ow := ow') T0 ?_
    intro ow4 H4 b4 u4 hb4 g4'
    have hA : A.size ≤ b4 := Nat.le_of_eq hb4.symm
    have k4 := g4'.lt
    refine st_t g4' rfl (by decide) fun H5 s5 g5 => st_t g5 rfl (by simp) fun H6 s6 g6 => ?_
    have uA : Upd Tno ow' A ow4 H6 := (u4.set s5 (.inr hA)).set s6 (.inr hA)
    have z6 : H6.size = H4.size := by rw [s6.size, s5.size]
    refine ⟨_, rfl, ⟨by omega, by omega⟩, ?_⟩
    show ldI .i64 H6 (((⟨bb', o', none⟩ : Addr).add ((k : Int).toNat * 2)).add 0) fun i13 => ldP H6 (((⟨bb', o', none⟩ : Addr).add ((k : Int).toNat * 2)).add 1) _
    rw [ead, add_mk, add_mk]
    have f1 := f1.upd uA id
    refine ldI_r (x := box[k].1) f1.2 p0' (ldP_r (x := at0 (bs'[k]'(by omega))) f1.2 p1' ?_)
    refine nw_t (ow := ow4) T0 ?_
    intro ow7 H7 b7 u7 hb7 g7
    have hne : b4 ≠ b7 := by omega
    have hB : H6.size ≤ b7 := Nat.le_of_eq hb7.symm
    have g6 := g6.upd u7 id
    refine st_t g7 rfl (by decide) fun H8 s8 g8 => st_t g8 rfl (by simp) fun H9 s9 g9 => ?_
    have g6 := (g6.set s8 hne).set s9 hne
    have uB : Upd Tno ow4 H6 ow7 H9 := (u7.set s8 (.inr hB)).set s9 (.inr hB)
    refine ldI_r (x := box[k].1) g6.2 rfl (ldP_r (x := at0 (bs[k]'(by omega))) g6.2 rfl (ldI_r (x := box[k].1) g9.2 rfl (ldP_r (x := at0 (bs'[k]'(by omega))) g9.2 rfl ?_)))
    have U := (u.trans uA).trans uB
    refine ⟨94, #[], #[], rfl, by kernel_rfl, C94 hr hr' ((a4 k (by omega) hlt).upd U id id) ((d4 k (by omega) hlt).upd U id id) ?_⟩
    intro ow2 H2 u2
    refine ⟨_, rfl, br_f ⟨⟨k + 1, wr_i64 (by omega) (by omega), by omega, ow2, U.trans u2⟩, ?_⟩⟩
    rw [wr_i64 (by omega) (by omega)]; subst hw
    show ((box.length : Int) - ((k : Int) + 1)).toNat + 1 ≤ ((box.length : Int) - (k : Int)).toNat
    omega
  · exact br_no (by simp; omega) ⟨_, rfl, h ow' A u⟩
end
end Go.Proofs.YtoddfageecbkcaaGreat

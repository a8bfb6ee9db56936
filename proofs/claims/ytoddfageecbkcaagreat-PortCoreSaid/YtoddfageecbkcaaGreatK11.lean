/-
  CONTRACTS: mailboxes.
-/
import Derived.Test.YtoddfageecbkcaaGreatK10
namespace Go.Proofs.YtoddfageecbkcaaGreat
open Go Go.Eng Sy
set_option linter.unusedVariables false
set_option linter.unusedSimpArgs false
set_option maxRecDepth 100000

theorem box_get : ∀ (bs : List Nat) (box : List (Int × List Int)) (i : Nat) (h : i < bs.length) (h' : i < box.length), (boxCells bs box)[2 * i]? = some (I box[i].1) ∧ (boxCells bs box)[2 * i + 1]? = some (Pt bs[i])
  | b :: bs, x :: box, 0, _, _ => ⟨rfl, rfl⟩
  | b :: bs, x :: box, i + 1, h, h' => by
    have := box_get bs box i (by simpa using h) (by simpa using h')
    have e : boxCells (b :: bs) (x :: box) = I x.1 :: Pt b :: boxCells bs box := rfl
    rw [e, show 2 * (i + 1) = (2 * i + 1) + 1 by omega, show 2 * i + 1 + 1 + 1 = (2 * i + 1) + 1 + 1 by omega]
    simp only [List.getElem?_cons_succ, List.getElem_cons_succ]
    exact this
theorem box_set : ∀ (bs : List Nat) (box : List (Int × List Int)) (i : Nat) (bits : Int) (l : List Int), i < bs.length → i < box.length → boxCells bs (box.set i (bits, l)) = (boxCells bs box).set (2 * i) (I bits)
  | b :: bs, x :: box, 0, _, _, _, _ => rfl
  | b :: bs, x :: box, i + 1, bits, l, h, h' => by
    have := box_set bs box i bits l (by simpa using h) (by simpa using h')
    have e : ∀ y, ∀ bx, boxCells (b :: bs) (y :: bx) = I y.1 :: Pt b :: boxCells bs bx := fun _ _ => rfl
    rw [List.set_cons_succ, e, e, show 2 * (i + 1) = (2 * i + 1) + 1 by omega, List.set_cons_succ, List.set_cons_succ, this]
theorem box_len : ∀ (bs : List Nat) (box : List (Int × List Int)), bs.length = box.length → (boxCells bs box).length = 2 * bs.length
  | [], [], _ => rfl
  | b :: bs, x :: box, h => by
    have := box_len bs box (by simpa using h)
    have e : boxCells (b :: bs) (x :: box) = I x.1 :: Pt b :: boxCells bs box := rfl
    rw [e]; simp [this]; omega

def TBx (r i : Nat) : Tg → Prop := fun τ => τ = (r, 8, 0, 0) ∨ τ = (r, 9, i, 0) ∨ τ = (r, 10, i, 0)
theorem TBx_lane {r i : Nat} : ∀ τ, TLane r i τ → TBx r i τ := fun τ h => .inr h
theorem TBx_box {r i : Nat} : ∀ τ, TBx r i τ → TBox r τ := by rintro τ (rfl | rfl | rfl) <;> simp [TBox]

/-- Mailboxes, opened at a core. -/
structure BoxAt (r : Nat) (ow : Ow) (H : Hp) (b : Nat) (box : List (Int × List Int)) (i : Nat) (bb o : Nat) (cs : List Value) (bits : Int) (bl : Nat) (l : List Int) : Prop where
  has : Has ow H (r, 8, 0, 0) bb cs
  bits_ : cs[o]? = some (I bits)
  ptr : cs[o + 1]? = some (Pt bl)
  lane : LaneR r ow H i bl l
  at_ : box[i]? = some (bits, l)
  close : ∀ T ow' H' bits' l', Upd T ow H ow' H' → (∀ τ, T τ → TBx r i τ ∨ τ.1 ≠ r) → Has ow' H' (r, 8, 0, 0) bb (cs.set o (I bits')) → LaneR r ow' H' i bl l' → BoxR r ow' H' b (box.set i (bits', l'))

section
variable {m : Amb} {r : Nat} {ow : Ow} {H : Hp} {K : Value → Hp → Prop} {b : Nat} {box : List (Int × List Int)}

theorem C82n {x : Int} {fv : Value} (hB : BoxR r ow H b box) (hx : ¬ (0 ≤ x ∧ x < box.length)) (h : K (I 3) H) : CallsH Tryz.prog m 82 [Pt b, I x, fv] H K := by
  obtain ⟨q, n, c, bs, h1, h2, h3, h4⟩ := hB
  have hn : n = box.length := by have := h3.1; rw [box_len bs box h2] at this; omega
  refine S82 (br_f ?_)
  by_cases e : x < 0
  · exact br_yes (by simpa using e) h
  · exact br_no (by simpa using e) (nn_r (ldS_r h1.2 rfl (br_yes (by simp; omega) h)))

theorem C82 {i : Nat} {f : FuncId} {cap : Array Value} (hB : BoxR r ow H b box) (hi : i < box.length) (hf : callable Tryz.prog f = true)
    (h : ∀ bb o cs bl, BoxAt r ow H b box i bb o cs box[i].1 bl box[i].2 → CallsH Tryz.prog m f (.pointer (some ⟨bb, o, none⟩) :: cap.toList) H fun w H' => ∃ j, w = I j ∧ K (I j) H') : CallsH Tryz.prog m 82 [Pt b, I i, .func (.func f) #[] cap] H K := by
  obtain ⟨q, n, c, bs, h1, h2, h3, h4⟩ := hB
  have hl := box_len bs box h2
  have hn : n = box.length := by have := h3.1; omega
  refine S82 (br_f (br_no (by simp) (nn_r (ldS_r h1.2 rfl (br_no (by simp; omega) (nn_r (ldS_r h1.2 rfl ?_)))))))
  obtain ⟨bb, o, cs, rfl, g1, g2, g3, g4⟩ := h3.place (by omega)
  refine ⟨_, rfl, ⟨by omega, by omega⟩, ?_⟩
  refine ⟨f, #[], cap, rfl, hf, ?_⟩
  have hb := box_get bs box i (by omega) hi
  have e : (⟨bb, o, none⟩ : Addr).add ((i : Int).toNat * 2) = ⟨bb, o + 2 * i, none⟩ := by
    rw [add_mk, Int.toNat_natCast, Nat.mul_comm]
  show CallsH _ m f (.pointer (some ((⟨bb, o, none⟩ : Addr).add ((i : Int).toNat * 2))) :: cap.toList) H _
  rw [e]
  refine (h bb (o + 2 * i) cs (bs[i]'(by omega)) ?_).mono fun w H' ⟨j, e, hk⟩ => ⟨j, e, hk⟩
  refine ⟨g1, by rw [g2 _ (by omega)]; exact hb.1, by rw [Nat.add_assoc, g2 _ (by omega)]; exact hb.2, h4 i (by omega) hi, by rw [List.getElem?_eq_getElem hi], ?_⟩
  intro T ow' H' bits' l' u hT hh hlane
  have nT : ∀ k i' j, ¬ TBx r i (r, k, i', j) → ¬ T (r, k, i', j) := fun k i' j hn hh => by rcases hT _ hh with h | h; exact hn h; exact h rfl
  refine ⟨_, n, c, bs, h1.upd u (nT _ _ _ (by simp [TBx])), by simp [h2], ?_, fun k hk hk' => ?_⟩
  · rw [box_set bs box i bits' l' (by omega) hi]
    have hs := g4 (2 * i) (I bits') H' (by omega)
    have ho : ow' bb = (r, 8, 0, 0) := hh.1
    -- the place is written in the new world
    have h5 : SlT 2 ow' H' (r, 8, 0, 0) (some ⟨bb, o, none⟩) n c ((boxCells bs box).set (2 * i) (I bits')) := by
      have h6 : SlT 2 ow H' (r, 8, 0, 0) (some ⟨bb, o, none⟩) n c ((boxCells bs box).set (2 * i) (I bits')) := hs ⟨g1.1, hh.2⟩
      obtain ⟨a1, a2, a3⟩ := h6
      refine ⟨a1, a2, ?_⟩
      rcases a3 with ⟨a3, _⟩ | ⟨b', pre, rest, post, e1, e2, e3⟩
      · cases a3
      · have : b' = bb := by cases e1; rfl
        subst this
        exact .inr ⟨b', pre, rest, post, e1, ⟨ho, e2.2⟩, e3⟩
    exact h5
  · by_cases hki : k = i
    · subst hki
      rw [List.getElem_set_self]; exact hlane
    · rw [List.getElem_set_ne (by omega)]
      exact (h4 k hk (by simpa using hk')).upd u (nT _ _ _ (by simp [TBx, hki])) (nT _ _ _ (by simp [TBx, hki]))

theorem TBx_T0 {i : Nat} (hr : 0 < r) : ¬ TBx r i T0 := by rintro (h | h | h) <;> (cases h; try omega)
theorem box_own {i : Nat} (hr : 0 < r) : ∀ τ, TL (TBx r i) τ → TBx r i τ ∨ τ.1 ≠ r := by
  rintro τ (h | rfl)
  · exact .inl h
  · exact .inr (by show 0 ≠ r; omega)

theorem set_same {cs : List Value} {o : Nat} {v : Value} (h : cs[o]? = some v) : cs.set o v = cs := by
  obtain ⟨h1, h2⟩ := List.getElem?_eq_some_iff.1 h
  rw [← h2, List.set_getElem_self]

theorem C39 (hr0 : 0 < r) {i : Nat} {w : Int} (hB : BoxR r ow H b box) (hi : i < box.length)
    (h : ∀ ow' H', Upd (TBx r i) ow H ow' H' → BoxR r ow' H' b (box.set i (bitsOf .andNot .i64 box[i].1 w, box[i].2)) → K (I 0) H') : CallsH Tryz.prog m 39 [Pt b, I i, I w] H K := by
  refine S39 ?_
  unfold t39
  refine nw_t (ow := ow) T0 ?_
  intro ow1 H1 b1 u1 hb1 g1
  refine C82 (hB.upd u1 Off.no) hi (by kernel_rfl) ?_
  intro bb o cs bl F
  refine S83 (nn_r ?_)
  have ho := (List.getElem?_eq_some_iff.1 F.bits_).1
  refine ldI_r (x := box[i].1) F.has.2 (by simpa using F.bits_) (ldI_r (x := w) g1.2 rfl (nn_r (st_t F.has rfl (by simpa using ho) fun H2 s2 g2 => ⟨0, rfl, 0, rfl, ?_⟩)))
  have u8 := s2.upd F.has.1
  have u2 := u8.mono (T' := TBx r i) fun τ hτ => .inl hτ
  exact h ow1 H2 ((u1.mono fun _ h => h.elim).trans u2) (F.close _ ow1 H2 _ _ u2 (fun τ hτ => .inl hτ) g2 (F.lane.upd u8 (by simp) (by simp)))

theorem C71 (hr0 : 0 < r) {i : Nat} (hB : BoxR r ow H b box) (hi : i < box.length) (h : ∀ ow' H', Upd Tno ow H ow' H' → K (.tuple #[I box[i].1, I 0]) H') : CallsH Tryz.prog m 71 [Pt b, I i] H K := by
  refine S71 ?_
  unfold t71; rw [zc3]
  refine nw_t (ow := ow) T0 ?_
  intro ow1 H1 b1 u1 hb1 g1
  refine C82 (hB.upd u1 Off.no) hi (by kernel_rfl) ?_
  intro bb o cs bl F
  refine S113 (nn_r (ldI_r (x := box[i].1) F.has.2 (by simpa using F.bits_) (st_t g1 rfl (by decide) fun H2 s2 g2 => ⟨0, rfl, 0, rfl, ?_⟩)))
  refine ldI_r (x := box[i].1) g2.2 rfl (st_t g2 rfl (by simp) fun H3 s3 g3 => ldI_r (x := box[i].1) g3.2 rfl ?_)
  exact h ow1 H3 ((u1.set s2 (.inr (by omega))).set s3 (.inr (by omega)))

theorem C73 (hr0 : 0 < r) {i : Nat} (hB : BoxR r ow H b box) (hi : i < box.length) (h : ∀ ow' H', Upd Tno ow H ow' H' → K (I box[i].2.length) H') : CallsH Tryz.prog m 73 [Pt b, I i] H K := by
  refine S73 ?_
  unfold t73; rw [zc3]
  refine nw_t (ow := ow) T0 ?_
  intro ow1 H1 b1 u1 hb1 g1
  refine C82 (hB.upd u1 Off.no) hi (by kernel_rfl) ?_
  intro bb o cs bl F
  refine S116 (nn_r ?_)
  show ldP H1 ((⟨bb, o, none⟩ : Addr).add 1) _
  rw [add_mk]
  refine ldP_r (x := at0 bl) F.has.2 F.ptr (C117 F.lane ⟨_, rfl, st_t g1 rfl (by decide) fun H2 s2 g2 => ⟨0, rfl, 0, rfl, ?_⟩⟩)
  refine ldI_r (x := box[i].2.length) g2.2 rfl (st_t g2 rfl (by simp) fun H3 s3 g3 => ldI_r (x := box[i].2.length) g3.2 rfl ?_)
  exact h ow1 H3 ((u1.set s2 (.inr (by omega))).set s3 (.inr (by omega)))

theorem C56 (hr0 : 0 < r) {i : Nat} (hB : BoxR r ow H b box) (hi : i < box.length) (h : ∀ ow' H' x, Upd (TBx r i) ow H ow' H' → BoxR r ow' H' b (box.set i (0, [])) → K (.tuple #[I x, I 0]) H') : CallsH Tryz.prog m 56 [Pt b, I i] H K := by
  refine S56 ?_
  unfold t56; rw [zc3]
  refine nw_t (ow := ow) T0 ?_
  intro ow1 H1 b1 u1 hb1 g1
  refine C82 (hB.upd u1 Off.no) hi (by kernel_rfl) ?_
  intro bb o cs bl F
  have ho := (List.getElem?_eq_some_iff.1 F.bits_).1
  have ho1 := (List.getElem?_eq_some_iff.1 F.ptr).1
  refine S104 (nn_r (st_t F.has rfl (by simpa using ho) fun H2 s2 g2 => nn_r ?_))
  have u8 := s2.upd F.has.1
  have g1 := g1.upd u8 (by intro h; cases h)
  show ldP H2 ((⟨bb, o, none⟩ : Addr).add 1) _
  rw [add_mk]
  refine ldP_r (x := at0 bl) g2.2 (by rw [List.getElem?_set_ne (by omega)]; exact F.ptr) (C105 (F.lane.upd u8 (by simp) (by simp)) ?_)
  intro H3 x u3 l3
  have g1 := g1.upd u3 (by rintro (h | h) <;> cases h)
  have g2 := g2.upd u3 (by rintro (h | h) <;> cases h)
  refine ⟨_, rfl, st_t g1 rfl (by decide) fun H4 s4 g4 => ⟨0, rfl, 0, rfl, ?_⟩⟩
  refine ldI_r (x := x) g4.2 rfl (st_t g4 rfl (by simp) fun H5 s5 g5 => ldI_r (x := x) g5.2 rfl ?_)
  have u23 : Upd (TBx r i) ow1 H1 ow1 H3 := (u8.mono fun τ hτ => .inl hτ).trans (u3.mono TBx_lane)
  have U3 : Upd (TBx r i) ow H ow1 H3 := (u1.mono fun _ h => h.elim).trans u23
  have V : Upd (TL Tno) ow1 H3 ow1 H5 := ((Upd.refl (TL Tno) _ _).loc s4 g1.1).loc s5 g1.1
  have U : Upd (TL (TBx r i)) ow1 H1 ow1 H5 := (u23.toL.loc s4 g1.1).loc s5 g1.1
  refine h ow1 H5 x ((U3.set s4 (.inr (by omega))).set s5 (.inr (by omega))) (F.close _ ow1 H5 _ _ U (box_own hr0) ?_ (l3.upd V (TL.no id hr0) (TL.no id hr0)))
  have := g2.upd V (TL.no id hr0)
  simpa using this

theorem C72 (hr0 : 0 < r) {i : Nat} (hB : BoxR r ow H b box) (hi : i < box.length) (hw : ∀ n ∈ box[i].2, 0 ≤ n ∧ n < 8 * 65536)
    (h : ∀ ow' H' x f, Upd (TBx r i) ow H ow' H' → BoxR r ow' H' b (box.set i (box[i].1, box[i].2.tail)) → K (.tuple #[I f, I (match box[i].2 with | [] => 0 | n :: _ => n % 65536), I x]) H') : CallsH Tryz.prog m 72 [Pt b, I i] H K := by
  refine S72 ?_
  unfold t72; rw [zc3]
  refine nw_t (ow := ow) T0 ?_
  intro ow1 H1 b1 u1 hb1 g1
  have k1 := g1.lt
  refine nw_t (ow := ow1) T0 ?_
  intro ow2 H2 b2 u2 hb2 g2
  have g1 := g1.upd u2 id
  have u12 := u1.trans u2
  have e1 := u1.size
  have hne : b1 ≠ b2 := by omega
  refine C82 (hB.upd u12 Off.no) hi (by kernel_rfl) ?_
  intro bb o cs bl F
  have ho := (List.getElem?_eq_some_iff.1 F.bits_).1
  refine S114 (nn_r ?_)
  show ldP H2 ((⟨bb, o, none⟩ : Addr).add 1) _
  rw [add_mk]
  refine ldP_r (x := at0 bl) F.has.2 F.ptr ?_
  have fin : ∀ (n e : Int) H3, 0 ≤ n ∧ n < 8 * 65536 → Upd (TLane r i) ow2 H2 ow2 H3 → LaneR r ow2 H3 i bl box[i].2.tail → n % 65536 = (match box[i].2 with | [] => 0 | n :: _ => n % 65536) →
      must ((65536 : Int) ≠ 0) (must ((65536 : Int) ≠ 0) (st H3 ⟨b1, 0, none⟩ (I (wr .i64 (n.tdiv 65536))) fun H6 => st H6 ⟨b2, 0, none⟩ (I (n.tmod 65536)) fun H7 => (fun w H' => ∃ j, w = I j ∧ ∃ i6 : Int, must (I j = I i6) (ldI .i64 H' ⟨b1, 0, none⟩ fun i7 => ldI .i64 H' ⟨b2, 0, none⟩ fun i8 => st H' ⟨b1, 0, none⟩ (I i7) fun H9 => must (cont H9 ⟨b2, 0, none⟩ (I i8)) (st H9 ⟨b2, 0, none⟩ (I i8) fun H10 => ldI .i64 H10 ⟨b1, 0, none⟩ fun i11 => ldI .i64 H10 ⟨b2, 0, none⟩ fun i12 => K (.tuple #[I i11, I i12, I i6]) H10))) (I e) H7)) := by
    intro n e H3 hn u3 l3 hv
    have g1 := g1.upd u3 (by rintro (h | h) <;> cases h)
    have g2 := g2.upd u3 (by rintro (h | h) <;> cases h)
    refine must_r (by decide) (must_r (by decide) (st_t g1 rfl (by decide) fun H4 s4 g1 => ?_))
    have g2 := g2.set s4 (Ne.symm hne)
    refine st_t g2 rfl (by decide) fun H5 s5 g2 => ⟨e, rfl, e, rfl, ?_⟩
    have g1 := g1.set s5 hne
    refine ldI_r (x := wr .i64 (n.tdiv 65536)) g1.2 rfl (ldI_r (x := n.tmod 65536) g2.2 rfl (st_t g1 rfl (by simp) fun H6 s6 g1 => ?_))
    have g2 := g2.set s6 (Ne.symm hne)
    refine must_r (cont_r g2.2 rfl) (st_t g2 rfl (by simp) fun H7 s7 g2 => ?_)
    have g1 := g1.set s7 hne
    refine ldI_r (x := wr .i64 (n.tdiv 65536)) g1.2 rfl (ldI_r (x := n.tmod 65536) g2.2 rfl ?_)
    rw [Int.tmod_eq_emod_of_nonneg hn.1, hv]
    have u23 : Upd (TBx r i) ow2 H2 ow2 H3 := u3.mono TBx_lane
    have U3 : Upd (TBx r i) ow H ow2 H3 := (u12.mono fun _ h => h.elim).trans u23
    have V : Upd (TL Tno) ow2 H3 ow2 H7 := ((((Upd.refl (TL Tno) _ _).loc s4 g1.1).loc s5 g2.1).loc s6 g1.1).loc s7 g2.1
    have U : Upd (TL (TBx r i)) ow2 H2 ow2 H7 := (((u23.toL.loc s4 g1.1).loc s5 g2.1).loc s6 g1.1).loc s7 g2.1
    refine h ow2 H7 e _ ((((U3.set s4 (.inr (by omega))).set s5 (.inr (by omega))).set s6 (.inr (by omega))).set s7 (.inr (by omega))) (F.close _ ow2 H7 _ _ U (box_own hr0) ?_ (l3.upd V (TL.no id hr0) (TL.no id hr0)))
    rw [set_same F.bits_]
    exact (F.has.upd u3 (by rintro (h | h) <;> cases h)).upd V (TL.no id hr0)
  cases hl : box[i].2 with
  | nil =>
    have fl := F.lane
    rw [hl] at fl
    refine C115e fl ⟨_, _, rfl, ?_⟩
    exact fin 0 6 H2 (by decide) (Upd.refl _ _ _) (by rw [hl]; exact fl) (by rw [hl]; rfl)
  | cons n l =>
    have fl := F.lane
    rw [hl] at fl hw
    refine C115 fl fun H3 u3 l3 => ⟨_, _, rfl, ?_⟩
    exact fin n 0 H3 (hw n List.mem_cons_self) u3 (by rw [hl]; exact l3) (by rw [hl])

theorem C40 (hr0 : 0 < r) {c i : Nat} {w : Int} (hB : BoxR r ow H b box) (hc : c < box.length) (hc8 : c < 8) (hi : i < box.length) (hw : 0 ≤ w ∧ w < 65536) (hl16 : box[i].2.length ≤ 16)
    (hfull : box[i].2.length = 16 → ∀ ow' H', Upd (TBx r i) ow H ow' H' → BoxR r ow' H' b (box.set i (bitsOf .or .i64 box[i].1 (shlOf .i64 1 c), box[i].2)) → K (I 5) H')
    (h : box[i].2.length < 16 → ∀ ow' H', Upd (TBx r i) ow H ow' H' → BoxR r ow' H' b (box.set i (bitsOf .or .i64 box[i].1 (shlOf .i64 1 c), box[i].2 ++ [(c : Int) * 65536 + w])) → K (I 0) H') : CallsH Tryz.prog m 40 [Pt b, I c, I i, I w] H K := by
  refine S40 ?_
  unfold t40
  refine nw_t (ow := ow) T0 ?_
  intro ow1 H1 b1 u1 hb1 g1
  refine nw_t (ow := ow1) T0 ?_
  intro ow2 H2 b2 u2 hb2 g2
  refine nw_t (ow := ow2) T0 ?_
  intro ow3 H3 b3 u3 hb3 g3
  refine nw_t (ow := ow3) T0 ?_
  intro ow4 H4 b4 u4 hb4 g4
  have g1 := ((g1.upd u2 id).upd u3 id).upd u4 id
  have g2 := (g2.upd u3 id).upd u4 id
  have g3 := g3.upd u4 id
  have u := ((u1.trans u2).trans u3).trans u4
  have hB := hB.upd u Off.no
  refine ldP_r (x := at0 b) g1.2 rfl (ldI_r (x := c) g2.2 rfl (C82 hB hc (by kernel_rfl) ?_))
  intro _ _ _ _ _
  refine S84 (ldP_r (x := at0 b) g1.2 rfl (ldI_r (x := i) g3.2 rfl (C82 hB hi (by kernel_rfl) ?_)))
  intro bb o cs bl F
  have ho := (List.getElem?_eq_some_iff.1 F.bits_).1
  refine S85 (ldI_r (x := w) g4.2 rfl (ldI_r (x := w) g4.2 rfl (C35 ⟨_, rfl, must_r (cont_r g4.2 rfl) (br_no (by simp; omega) (nn_r ?_))⟩)))
  refine ldI_r (x := box[i].1) F.has.2 (by simpa using F.bits_) (ldI_r (x := c) g2.2 rfl (must_r (by omega) (nn_r (st_t F.has rfl (by simpa using ho) fun H5 s5 g5 => nn_r ?_))))
  have u8 := s5.upd F.has.1
  have g2 := g2.upd u8 (by intro h; cases h)
  have g4 := g4.upd u8 (by intro h; cases h)
  show ldP H5 ((⟨bb, o, none⟩ : Addr).add 1) _
  rw [add_mk]
  have l5 := F.lane.upd u8 (by simp) (by simp)
  refine ldP_r (x := at0 bl) g5.2 (by rw [List.getElem?_set_ne (by omega)]; exact F.ptr) (ldI_r (x := c) g2.2 rfl (ldI_r (x := w) g4.2 rfl ?_))
  have e1 : wr .i64 ((c : Int) * 65536) = (c : Int) * 65536 := wr_i64 (by omega) (by omega)
  have e2 : wr .i64 ((c : Int) * 65536 + w) = (c : Int) * 65536 + w := wr_i64 (by omega) (by omega)
  rw [e1, e2]
  have U5 : Upd (TBx r i) ow4 H4 ow4 H5 := u8.mono fun τ hτ => .inl hτ
  have UU : Upd (TBx r i) ow H ow4 H4 := u.mono fun _ h => h.elim
  by_cases e : box[i].2.length = 16
  · refine C86f l5 e ⟨_, rfl, 5, rfl, 5, rfl, 5, rfl, 5, rfl, ?_⟩
    exact hfull e ow4 H5 (UU.trans U5) (F.close _ ow4 H5 _ _ U5 (fun τ hτ => .inl hτ) (by simpa using g5) l5)
  · refine C86 l5 (by omega) fun H6 u6 l6 => ⟨_, rfl, 0, rfl, 0, rfl, 0, rfl, 0, rfl, ?_⟩
    have U6 := U5.trans (u6.mono (TBx_lane (r := r) (i := i)))
    exact h (by omega) ow4 H6 (UU.trans U6) (F.close _ ow4 H6 _ _ U6 (fun τ hτ => .inl hτ) (by have := g5.upd u6 (by rintro (h | h) <;> cases h); simpa using this) l6)
end
end Go.Proofs.YtoddfageecbkcaaGreat

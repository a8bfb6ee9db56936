/-
  CONTRACTS: what stands at which address; the memory; a core's stores that wait.
-/
import Derived.Test.YtoddfageecbkcaaGreatK0
namespace Go.Proofs.YtoddfageecbkcaaGreat
open Go Go.Eng Sy
set_option linter.unusedVariables false
set_option linter.unusedSimpArgs false
set_option maxRecDepth 100000

abbrev i64 (x : Int) : Prop := -9223372036854775808 ≤ x ∧ x ≤ 9223372036854775807
abbrev T0 : Tg := (0, 0, 0, 0)

theorem below1 {x n : Int} (hx : i64 x) (hn : 0 ≤ n ∧ n ≤ 100000) : (decide (0 ≤ wr .i64 (x - 1)) && decide (wr .i64 (x - 1) < n)) = decide (1 ≤ x ∧ x ≤ n) := by
  by_cases h : x = -9223372036854775808
  · subst h
    rw [show wr .i64 (-9223372036854775808 - 1) = 9223372036854775807 by decide]
    simp; omega
  · rw [wr_i64 (by omega) (by omega)]
    rw [← Bool.decide_and]
    congr 1
    simp only [eq_iff_iff]; omega

theorem zc77 : zc Tryz.prog 77 = [I 0, I 0, I 0] := by kernel_rfl
theorem zc3 : zc Tryz.prog 3 = [I 0] := by kernel_rfl
theorem zc4 : zc Tryz.prog 4 = [B false] := by kernel_rfl
theorem zc160 : (zc Tryz.prog 160).length = 1 := by kernel_rfl

def enc (cores words locks k i r : Int) : Option Int :=
  if k = 1 then (if i = 0 ∧ 0 ≤ r ∧ r < words then some r else none)
  else if k = 2 then (if (0 ≤ i ∧ i < cores) ∧ 0 ≤ r ∧ r < 3 then some (65536 + 16 * i + r) else none)
  else if k = 3 then (if (0 ≤ i ∧ i < locks) ∧ r = 0 then some (65792 + i) else none)
  else (if (0 ≤ i ∧ i < cores) ∧ r = 0 then some (66048 + i) else none)
def encV : Option Int → Value
  | some a => .tuple #[I a, .bool true]
  | none => .tuple #[I 0, .bool false]

theorem right_imp {cores words locks : Int} (h : rightPlan cores words locks = true) : (1 ≤ cores ∧ cores ≤ 8) ∧ (1 ≤ words ∧ words ≤ 65536) ∧ (1 ≤ locks ∧ locks ≤ 16) := by
  unfold rightPlan at h
  simp only [Bool.and_eq_true, decide_eq_true_eq] at h
  omega

section
variable {m : Amb} {ow : Ow} {H : Hp} {K : Value → Hp → Prop}

theorem C15 {a b c : Int} (ha : i64 a) (hb : i64 b) (hc : i64 c) (h : ∀ ow' H', Upd Tno ow H ow' H' → K (B (rightPlan a b c)) H') : CallsH Tryz.prog m 15 [.agg #[I a, I b, I c]] H K := by
  refine S15 ?_
  unfold t15
  refine nw_t (ow := ow) T0 ?_
  intro ow1 H1 b1 u1 _ h1
  refine ldI_r (x := a) h1.2 rfl (C48 ?_)
  rw [below1 ha (by decide)]
  refine ⟨_, rfl, ?_⟩
  have h' := h ow1 H1 u1
  unfold rightPlan at h'
  by_cases e1 : 1 ≤ a ∧ a ≤ 8
  · refine br_yes (by simpa using e1) (ldI_r (x := b) h1.2 rfl (C48 ?_))
    rw [below1 hb (by decide)]
    refine ⟨_, rfl, ?_⟩
    by_cases e2 : 1 ≤ b ∧ b ≤ 65536
    · refine br_yes (by simpa using e2) (ldI_r (x := c) h1.2 rfl (C48 ?_))
      rw [below1 hc (by decide)]
      refine ⟨_, rfl, ?_⟩
      rw [decide_eq_true e1, decide_eq_true e2] at h'
      simpa using h'
    · refine br_no (by simpa using e2) ?_
      rw [decide_eq_true e1, decide_eq_false e2] at h'
      simpa using h'
  · refine br_no (by simpa using e1) ?_
    rw [decide_eq_false e1] at h'
    simpa using h'

theorem i64_of {x : Int} (h : 0 ≤ x ∧ x ≤ 100000) : i64 x := by constructor <;> omega

theorem C110 {cores words locks k i r : Int} (hp : rightPlan cores words locks = true) (hk : k = 1 ∨ k = 2 ∨ k = 3 ∨ k = 4)
    (h : ∀ ow' H', Upd Tno ow H ow' H' → K (encV (enc cores words locks k i r)) H') : CallsH Tryz.prog m 110 [.agg #[I cores, I words, I locks], .agg #[I k, I i, I r]] H K := by
  have hr := right_imp hp
  refine S110 ?_
  unfold t110
  refine nw_t (ow := ow) T0 ?_
  intro ow1 H1 b1 u1 _ h1
  refine nw_t (ow := ow1) T0 ?_
  intro ow2 H2 b2 u2 _ h2
  have h1 := h1.upd u2 id
  have right : ∀ (K' : Value → Hp → Prop), (∀ ow' H', Upd Tno ow H ow' H' → Has ow' H' T0 b1 [I cores, I words, I locks] → Has ow' H' T0 b2 [I k, I i, I r] → K' (B true) H') → CallsH Tryz.prog m 15 [.agg #[I cores, I words, I locks]] H2 K' := by
    intro K' hK
    refine C15 (ow := ow2) (i64_of (by omega)) (i64_of (by omega)) (i64_of (by omega)) ?_
    intro ow3 H3 u3
    rw [hp]
    exact hK ow3 H3 ((u1.trans u2).trans u3) (h1.upd u3 id) (h2.upd u3 id)
  have u12 := u1.trans u2
  refine ldI_r (x := k) h2.2 rfl ?_
  rcases hk with rfl | rfl | rfl | rfl
  · refine br_t (ldI_r (x := i) h2.2 rfl ?_)
    by_cases e1 : i = 0
    · refine br_yes (by simp [e1]) (ldI_r (x := r) h2.2 rfl (ldI_r (x := words) h1.2 rfl (ldI_r (x := r) h2.2 rfl (C48 ⟨_, rfl, cont_r h2.2 rfl, ?_⟩))))
      by_cases e2 : 0 ≤ r ∧ r < words
      · refine br_no (by simp; omega) (ldI_r (x := cores) h1.2 rfl (ldI_r (x := words) h1.2 rfl (ldI_r (x := locks) h1.2 rfl (right _ fun ow' H' u _ _ => ⟨_, rfl, br_f ?_⟩))))
        have := h ow' H' u
        rw [enc, if_pos rfl, if_pos ⟨e1, e2⟩] at this; exact this
      · refine br_yes (by simp; omega) ?_
        have := h _ _ u12
        rw [enc, if_pos rfl, if_neg (by omega)] at this; exact this
    · refine br_no (by simpa using e1) (ldI_r (x := r) h2.2 rfl ?_)
      have := h _ _ u12
      rw [enc, if_pos rfl, if_neg (by omega)] at this; exact this
  · refine br_f (br_t (ldI_r (x := i) h2.2 rfl (ldI_r (x := cores) h1.2 rfl (ldI_r (x := i) h2.2 rfl (ldI_r (x := r) h2.2 rfl (C48 ⟨_, rfl, cont_r h2.2 rfl, cont_r h2.2 rfl, ?_⟩))))))
    by_cases e1 : 0 ≤ i ∧ i < cores
    · refine br_yes (by simpa using e1) (ldI_r (x := r) h2.2 rfl (C48 ⟨_, rfl, cont_r h2.2 rfl, cont_r h2.2 rfl, ?_⟩))
      by_cases e2 : 0 ≤ r ∧ r < 3
      · refine br_no (by simp; omega) (ldI_r (x := cores) h1.2 rfl (ldI_r (x := words) h1.2 rfl (ldI_r (x := locks) h1.2 rfl (right _ fun ow' H' u _ _ => ⟨_, rfl, br_f ?_⟩))))
        have := h ow' H' u
        rw [enc, if_neg (by decide), if_pos rfl, if_pos ⟨e1, e2⟩] at this
        have e3 : wr .i64 (16 * i) = 16 * i := wr_i64 (by omega) (by omega)
        have e4 : wr .i64 (65536 + 16 * i) = 65536 + 16 * i := wr_i64 (by omega) (by omega)
        have e5 : wr .i64 (65536 + 16 * i + r) = 65536 + 16 * i + r := wr_i64 (by omega) (by omega)
        rw [e3, e4, e5]; exact this
      · refine br_yes (by simp; omega) ?_
        have := h _ _ u12
        rw [enc, if_neg (by decide), if_pos rfl, if_neg (by omega)] at this; exact this
    · refine br_no (by simp; omega) ?_
      have := h _ _ u12
      rw [enc, if_neg (by decide), if_pos rfl, if_neg (by omega)] at this; exact this
  · refine br_f (br_f (br_t (ldI_r (x := i) h2.2 rfl (ldI_r (x := locks) h1.2 rfl (ldI_r (x := i) h2.2 rfl (C48 ⟨_, rfl, cont_r h2.2 rfl, ?_⟩))))))
    by_cases e1 : 0 ≤ i ∧ i < locks
    · refine br_yes (by simpa using e1) (ldI_r (x := r) h2.2 rfl ?_)
      by_cases e2 : r = 0
      · refine br_no (by simp [e2]) (ldI_r (x := cores) h1.2 rfl (ldI_r (x := words) h1.2 rfl (ldI_r (x := locks) h1.2 rfl (right _ fun ow' H' u _ _ => ⟨_, rfl, br_f ?_⟩))))
        have := h ow' H' u
        rw [enc, if_neg (by decide), if_neg (by decide), if_pos rfl, if_pos ⟨e1, e2⟩] at this
        rw [wr_i64 (n := 65792 + i) (by omega) (by omega)]; exact this
      · refine br_yes (by simpa using e2) ?_
        have := h _ _ u12
        rw [enc, if_neg (by decide), if_neg (by decide), if_pos rfl, if_neg (by omega)] at this; exact this
    · refine br_no (by simp; omega) ?_
      have := h _ _ u12
      rw [enc, if_neg (by decide), if_neg (by decide), if_pos rfl, if_neg (by omega)] at this; exact this
  · refine br_f (br_f (br_f (br_t (ldI_r (x := i) h2.2 rfl (ldI_r (x := cores) h1.2 rfl (ldI_r (x := i) h2.2 rfl (C48 ⟨_, rfl, cont_r h2.2 rfl, ?_⟩)))))))
    by_cases e1 : 0 ≤ i ∧ i < cores
    · refine br_yes (by simpa using e1) (ldI_r (x := r) h2.2 rfl ?_)
      by_cases e2 : r = 0
      · refine br_no (by simp [e2]) (ldI_r (x := cores) h1.2 rfl (ldI_r (x := words) h1.2 rfl (ldI_r (x := locks) h1.2 rfl (right _ fun ow' H' u _ _ => ⟨_, rfl, br_f ?_⟩))))
        have := h ow' H' u
        rw [enc, if_neg (by decide), if_neg (by decide), if_neg (by decide), if_pos ⟨e1, e2⟩] at this
        rw [wr_i64 (n := 66048 + i) (by omega) (by omega)]; exact this
      · refine br_yes (by simpa using e2) ?_
        have := h _ _ u12
        rw [enc, if_neg (by decide), if_neg (by decide), if_neg (by decide), if_neg (by omega)] at this; exact this
    · refine br_no (by simp; omega) ?_
      have := h _ _ u12
      rw [enc, if_neg (by decide), if_neg (by decide), if_neg (by decide), if_neg (by omega)] at this; exact this

/-- The spot that may stand at an address. -/
def gs (a : Int) : Int × Int × Int :=
  if a < 65536 then (1, 0, a) else if a < 65792 then (2, (a - 65536) / 16, a % 16) else if a < 66048 then (3, a - 65792, 0) else (4, a - 66048, 0)

theorem C109 {a : Int} (ha : i64 a) (h : ∀ ow' H', Upd Tno ow H ow' H' → K (.agg #[I (gs a).1, I (gs a).2.1, I (gs a).2.2]) H') : CallsH Tryz.prog m 109 [I a] H K := by
  refine S109 ?_
  unfold t109; rw [zc77]
  refine nw_t (ow := ow) T0 ?_
  intro ow1 H1 b u1 hb h1
  have fin : ∀ (x y z : Int) (K' : Value → Hp → Prop), (∀ ow' H', Upd Tno ow H ow' H' → K' (.agg #[I x, I y, I z]) H') →
      st H1 ⟨b, 0, none⟩ (I x) fun H2 => st H2 ⟨b, 1, none⟩ (I y) fun H3 => st H3 ⟨b, 2, none⟩ (I z) fun H4 => ldI .i64 H4 ⟨b, 0, none⟩ fun i5 => ldI .i64 H4 ⟨b, 1, none⟩ fun i6 => ldI .i64 H4 ⟨b, 2, none⟩ fun i7 => K' (.agg #[I i5, I i6, I i7]) H4 := by
    intro x y z K' hK
    refine st_t h1 rfl (by decide) fun H2 s2 h2 => st_t h2 rfl (by simp) fun H3 s3 h3 => st_t h3 rfl (by simp) fun H4 s4 h4 => ?_
    refine ldI_r (x := x) h4.2 rfl (ldI_r (x := y) h4.2 rfl (ldI_r (x := z) h4.2 rfl (hK ow1 H4 ?_)))
    exact ((u1.set s2 (.inr (by omega))).set s3 (.inr (by omega))).set s4 (.inr (by omega))
  unfold gs at h
  by_cases e1 : a < 65536
  · rw [if_pos e1] at h
    exact br_yes (by simpa using e1) (fin 1 0 a _ h)
  · rw [if_neg e1] at h
    refine br_no (by simpa using e1) ?_
    by_cases e2 : a < 65792
    · rw [if_pos e2] at h
      refine br_yes (by simpa using e2) (must_r (by decide) (must_r (by decide) ?_))
      rw [wr_i64 (n := a - 65536) (by omega) (by omega), Int.tdiv_eq_ediv_of_nonneg (by omega), Int.tmod_eq_emod_of_nonneg (by omega), wr_i64 (n := (a - 65536) / 16) (by omega) (by omega)]
      exact fin 2 _ _ _ h
    · rw [if_neg e2] at h
      refine br_no (by simpa using e2) ?_
      by_cases e3 : a < 66048
      · rw [if_pos e3] at h
        refine br_yes (by simpa using e3) ?_
        rw [wr_i64 (n := a - 65792) (by omega) (by omega)]
        exact fin 3 _ 0 _ h
      · rw [if_neg e3] at h
        refine br_no (by simpa using e3) ?_
        rw [wr_i64 (n := a - 66048) (by have := ha.2; omega) (by have := ha.2; omega)]
        exact fin 4 _ 0 _ h

/-- What stands at an address. -/
def dec (cores words locks a : Int) : Option (Int × Int × Int) := if (enc cores words locks (gs a).1 (gs a).2.1 (gs a).2.2).isSome then some (gs a) else none
def decV : Option (Int × Int × Int) → Value
  | some t => .tuple #[.agg #[I t.1, I t.2.1, I t.2.2], .bool true]
  | none => .tuple #[.agg #[I 0, I 0, I 0], .bool false]

theorem gs_kind (a : Int) : (gs a).1 = 1 ∨ (gs a).1 = 2 ∨ (gs a).1 = 3 ∨ (gs a).1 = 4 := by
  unfold gs; split
  · simp
  · split
    · simp
    · split <;> simp

theorem C62 {cores words locks a : Int} (hp : rightPlan cores words locks = true) (ha : i64 a) (h : ∀ ow' H', Upd Tno ow H ow' H' → K (decV (dec cores words locks a)) H') : CallsH Tryz.prog m 62 [.agg #[I cores, I words, I locks], I a] H K := by
  refine S62 ?_
  unfold t62; rw [zc77]
  refine nw_t (ow := ow) T0 ?_
  intro ow1 H1 b1 u1 hb1 h1
  have k1 := h1.lt
  refine nw_t (ow := ow1) T0 ?_
  intro ow2 H2 b2 u2 hb2 h2
  have k2 := h2.lt
  have h1 := h1.upd u2 id
  refine C109 (ow := ow2) ha ?_
  intro ow3 H3 u3
  have h1 := h1.upd u3 id
  have h2 := h2.upd u3 id
  refine ⟨_, _, _, rfl, nw_t (ow := ow3) T0 ?_⟩
  intro ow4 H4 b4 u4 hb4 h4
  have h1 := h1.upd u4 id
  have h2 := h2.upd u4 id
  have U4 := ((u1.trans u2).trans u3).trans u4
  have hs2 := u2.size
  have hs1 := u1.size
  have hs3 := u3.size
  refine st_t h4 rfl (by decide) fun H5 s5 h5 => st_t h5 rfl (by simp) fun H6 s6 h6 => st_t h6 rfl (by simp) fun H7 s7 h7 => ?_
  have q1 : b1 ≠ b4 := by omega
  have q2 : b2 ≠ b4 := by omega
  have g4 : H.size ≤ b4 := by omega
  have g2 : H.size ≤ b2 := by omega
  have h1 := ((h1.set s5 q1).set s6 q1).set s7 q1
  have h2 := ((h2.set s5 q2).set s6 q2).set s7 q2
  have U7 := ((U4.set s5 (.inr g4)).set s6 (.inr g4)).set s7 (.inr g4)
  refine ldI_r (x := cores) h1.2 rfl (ldI_r (x := words) h1.2 rfl (ldI_r (x := locks) h1.2 rfl ?_))
  refine ldI_r (x := (gs a).1) h7.2 rfl (ldI_r (x := (gs a).2.1) h7.2 rfl (ldI_r (x := (gs a).2.2) h7.2 rfl ?_))
  refine C110 (ow := ow4) hp (gs_kind a) ?_
  intro ow8 H8 u8
  have h2 := h2.upd u8 id
  have h7 := h7.upd u8 id
  have U8 := U7.trans u8
  unfold dec at h
  have fin : ∀ (x y z : Int) (ok : Bool) (K' : Value → Hp → Prop), (∀ ow' H', Upd Tno ow H ow' H' → K' (.tuple #[.agg #[I x, I y, I z], .bool ok]) H') →
      st H8 ⟨b2, 0, none⟩ (I x) fun H2 => st H2 ⟨b2, 1, none⟩ (I y) fun H3 => st H3 ⟨b2, 2, none⟩ (I z) fun H4 => ldI .i64 H4 ⟨b2, 0, none⟩ fun i5 => ldI .i64 H4 ⟨b2, 1, none⟩ fun i6 => ldI .i64 H4 ⟨b2, 2, none⟩ fun i7 => K' (.tuple #[.agg #[I i5, I i6, I i7], .bool ok]) H4 := by
    intro x y z ok K' hK
    refine st_t h2 rfl (by decide) fun H2 s2 h2 => st_t h2 rfl (by simp) fun H3 s3 h3 => st_t h3 rfl (by simp) fun H4 s4 h4 => ?_
    refine ldI_r (x := x) h4.2 rfl (ldI_r (x := y) h4.2 rfl (ldI_r (x := z) h4.2 rfl (hK ow8 H4 ?_)))
    exact ((U8.set s2 (.inr g2)).set s3 (.inr g2)).set s4 (.inr g2)
  cases he : enc cores words locks (gs a).1 (gs a).2.1 (gs a).2.2 with
  | none =>
    rw [he] at h
    exact ⟨_, _, rfl, br_t (fin 0 0 0 false _ h)⟩
  | some w =>
    rw [he] at h
    refine ⟨_, _, rfl, br_f (ldI_r (x := (gs a).1) h7.2 rfl (ldI_r (x := (gs a).2.1) h7.2 rfl (ldI_r (x := (gs a).2.2) h7.2 rfl ?_)))⟩
    exact fin _ _ _ true _ h
end
end Go.Proofs.YtoddfageecbkcaaGreat

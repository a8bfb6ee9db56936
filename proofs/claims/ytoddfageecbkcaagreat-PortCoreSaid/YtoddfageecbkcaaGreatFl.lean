/-
  THE WORDS AS FLOATING NUMBERS: each of the numbers from 0 to 65535 is read back as itself. Nothing of the program stands here.
-/
import Derived.Test.YtoddfageecbkcaaGreatM
namespace Sy
open Go
set_option linter.unusedVariables false
set_option linter.unusedSimpArgs false

def fl (n : Int) : Nat := FloatKind.f64.nearest n

theorem log2_of {n l : Nat} (h1 : 2 ^ l ≤ n) (h2 : n < 2 ^ (l + 1)) : n.log2 = l := by
  have hn : n ≠ 0 := by have := Nat.two_pow_pos l; omega
  exact (Nat.log2_eq_iff hn).2 ⟨h1, h2⟩

theorem cut0 (n : Nat) : Ieee.Toward.cut .even false n 0 = n := by
  unfold Ieee.Toward.cut
  simp [Nat.mod_one]

theorem pos_k {n l : Nat} (hl : l ≤ 15) (h1 : 2 ^ l ≤ n) (h2 : n < 2 ^ (l + 1)) : 4503599627370496 ≤ n * 2 ^ (52 - l) ∧ n * 2 ^ (52 - l) < 9007199254740992 := by
  constructor
  · have : 2 ^ l * 2 ^ (52 - l) ≤ n * 2 ^ (52 - l) := Nat.mul_le_mul_right _ h1
    rw [← Nat.pow_add, show l + (52 - l) = 52 by omega] at this
    exact this
  · have : n * 2 ^ (52 - l) < 2 ^ (l + 1) * 2 ^ (52 - l) := Nat.mul_lt_mul_of_pos_right h2 (Nat.two_pow_pos _)
    rw [← Nat.pow_add, show l + 1 + (52 - l) = 53 by omega] at this
    exact this

theorem near_eq {n l k : Nat} (hl : l ≤ 15) (hn : n ≠ 0) (hlg : n.log2 = l) (hk : n * 2 ^ (52 - l) = k) (h1 : 4503599627370496 ≤ k) (h2 : k < 9007199254740992) : Ieee.Format.nearest Ieee.double false n 0 = (l + 1022) * 4503599627370496 + k := by
  unfold Ieee.Format.nearest
  rw [if_neg hn]
  rw [hlg]
  have a1 : Ieee.double.leastPlace = -1074 := rfl
  have a2 : (Ieee.double.fractionBits : Int) = 52 := rfl
  have e1 : max ((0 : Int) + (l : Int) - (Ieee.double.fractionBits : Int)) Ieee.double.leastPlace = (l : Int) - 52 := by
    rw [a1, a2]; omega
  rw [e1]
  have e2 : ((0 : Int) - ((l : Int) - 52)).toNat = 52 - l := by omega
  have e3 : ((l : Int) - 52 - 0).toNat = 0 := by omega
  have e4 : ((l : Int) - 52 - Ieee.double.leastPlace).toNat = l + 1022 := by
    rw [a1]; omega
  simp only [e2, e3, e4]
  rw [cut0, Nat.shiftLeft_eq, hk]
  have a3 : Ieee.double.binade = 4503599627370496 := rfl
  have a4 : Ieee.double.infRung = 9218868437227405312 := rfl
  rw [a3, a4]
  unfold Ieee.Format.word
  rw [if_neg (by decide)]
  rw [Nat.min_eq_left (by omega)]

theorem fl_pos {n l : Nat} (hl : l ≤ 15) (h1 : 2 ^ l ≤ n) (h2 : n < 2 ^ (l + 1)) : fl n = (l + 1022) * 4503599627370496 + n * 2 ^ (52 - l) := by
  have hn : n ≠ 0 := by have := Nat.two_pow_pos l; omega
  have hneg : decide ((n : Int) < 0) = false := by simp
  have h0 : fl n = Ieee.Format.nearest Ieee.double false n 0 := by
    simp only [fl, FloatKind.nearest, FloatKind.encode, FloatKind.format, Ieee.Format.write, hneg, Int.natAbs_natCast]
  rw [h0]
  exact near_eq hl hn (log2_of h1 h2) rfl (pos_k hl h1 h2).1 (pos_k hl h1 h2).2

theorem read_eq {l k : Nat} (hl : l ≤ 15) (hk2 : 4503599627370496 ≤ k) (hk : k < 9007199254740992) : Ieee.double.read ((l + 1022) * 4503599627370496 + k) = .number false k ((l : Int) - 52) := by
  unfold Ieee.Format.read
  have a1 : Ieee.double.leastPlace = -1074 := rfl
  have a2 : Ieee.double.signWeight = 9223372036854775808 := rfl
  have a3 : Ieee.double.binade = 4503599627370496 := rfl
  have a4 : Ieee.double.infRung = 9218868437227405312 := rfl
  simp only [a1, a2, a3, a4]
  have b1 : ((l + 1022) * 4503599627370496 + k) / 9223372036854775808 % 2 = 0 := by omega
  have b2 : ((l + 1022) * 4503599627370496 + k) % 9223372036854775808 = (l + 1022) * 4503599627370496 + k := by omega
  rw [b1, b2, if_neg (by omega), if_pos (by omega)]
  have b3 : 4503599627370496 + ((l + 1022) * 4503599627370496 + k) % 4503599627370496 = k := by omega
  have b4 : ((l + 1022) * 4503599627370496 + k) / 4503599627370496 = l + 1023 := by omega
  rw [b3, b4]
  have b5 : (-1074 : Int) + ((l + 1023 - 1 : Nat) : Int) = (l : Int) - 52 := by omega
  rw [b5]; rfl

theorem fl_read {n l : Nat} (hl : l ≤ 15) (h1 : 2 ^ l ≤ n) (h2 : n < 2 ^ (l + 1)) : Ieee.double.read (fl n) = .number false (n * 2 ^ (52 - l)) ((l : Int) - 52) := by
  rw [fl_pos hl h1 h2]
  exact read_eq hl (pos_k hl h1 h2).1 (pos_k hl h1 h2).2

theorem fl_read0 : Ieee.double.read (fl 0) = .number false 0 (-1074) := by decide

theorem lg16 {n : Nat} (h0 : n ≠ 0) (h : n < 65536) : ∃ l, l ≤ 15 ∧ 2 ^ l ≤ n ∧ n < 2 ^ (l + 1) := by
  refine ⟨n.log2, ?_, Nat.log2_self_le h0, Nat.lt_log2_self⟩
  have := (Nat.log2_lt h0 (k := 16)).2 h
  omega

theorem fl_int {x : Int} (h : 0 ≤ x ∧ x < 65536) : (FloatKind.f64.decode (fl x)).toInt .zero = some x := by
  obtain ⟨n, rfl⟩ := Int.eq_ofNat_of_zero_le h.1
  show (Ieee.double.read (fl (n : Int))).toInt .zero = some (n : Int)
  by_cases h0 : n = 0
  · subst h0; decide
  · obtain ⟨l, hl, h1, h2⟩ := lg16 h0 (by omega)
    rw [fl_read hl h1 h2]
    unfold Ieee.Datum.toInt Ieee.Datum.integral
    simp only
    have e1 : ((l : Int) - 52).toNat = 0 := by omega
    have e2 : (-((l : Int) - 52)).toNat = 52 - l := by omega
    rw [e1, e2]
    unfold Ieee.Toward.cut
    have hk2 := (pos_k hl h1 h2).1
    have e3 : (n * 2 ^ (52 - l)) <<< 0 = n * 2 ^ (52 - l) := by simp
    rw [e3]
    have hlg : 52 - l ≤ (n * 2 ^ (52 - l)).log2 + 2 := by
      have := (Nat.le_log2 (n := n * 2 ^ (52 - l)) (k := 52) (by omega)).2 hk2
      omega
    rw [Nat.min_eq_left hlg]
    have e4 : n * 2 ^ (52 - l) / (1 <<< (52 - l)) = n := by
      rw [Nat.shiftLeft_eq, Nat.one_mul, Nat.mul_div_cancel _ (Nat.two_pow_pos _)]
    simp only [e4]
    simp [Ieee.signed]

theorem cmp_lt {a b : Int} (h : a < b) : compare a b = .lt := by
  show compareOfLessAndEq a b = _
  unfold compareOfLessAndEq; rw [if_pos h]
theorem cmp_eq {a : Int} : compare a a = .eq := by
  show compareOfLessAndEq a a = _
  unfold compareOfLessAndEq; rw [if_neg (by omega), if_pos rfl]
theorem cmp_gt {a b : Int} (h : b < a) : compare a b = .gt := by
  show compareOfLessAndEq a b = _
  unfold compareOfLessAndEq; rw [if_neg (by omega), if_neg (by omega)]

theorem fl_self {x : Int} (h : 0 ≤ x ∧ x < 65536) : Ieee.double.order (fl x) (fl x) = some .eq := by
  obtain ⟨n, rfl⟩ := Int.eq_ofNat_of_zero_le h.1
  by_cases h0 : n = 0
  · subst h0; decide
  · obtain ⟨l, hl, h1, h2⟩ := lg16 h0 (by omega)
    unfold Ieee.Format.order
    rw [fl_read hl h1 h2]
    unfold Ieee.Datum.order
    simp only [cmp_eq]

/-- Not below nought. -/
theorem fl_geq {x : Int} (h : 0 ≤ x ∧ x < 65536) : Ieee.double.order (fl x) 0 = some .gt ∨ Ieee.double.order (fl x) 0 = some .eq := by
  obtain ⟨n, rfl⟩ := Int.eq_ofNat_of_zero_le h.1
  by_cases h0 : n = 0
  · subst h0; right; decide
  · left
    obtain ⟨l, hl, h1, h2⟩ := lg16 h0 (by omega)
    unfold Ieee.Format.order
    rw [fl_read hl h1 h2, show Ieee.double.read 0 = .number false 0 (-1074) by decide]
    unfold Ieee.Datum.order
    simp only
    have hk := (pos_k hl h1 h2).1
    generalize n * 2 ^ (52 - l) = k at hk
    congr 1
    refine cmp_gt ?_
    have e1 : min ((l : Int) - 52) (-1074) = -1074 := by omega
    rw [e1]
    have hp : 0 < k <<< ((l : Int) - 52 - -1074).toNat := by
      rw [Nat.shiftLeft_eq]; exact Nat.mul_pos (by omega) (Nat.two_pow_pos _)
    simp only [Ieee.signed, Bool.false_eq_true, if_false, Nat.zero_shiftLeft]
    exact Int.ofNat_lt.2 hp

/-- Not above the last word. -/
theorem fl_leq {x : Int} (h : 0 ≤ x ∧ x < 65536) : Ieee.double.order (fl x) 4679239875398991872 = some .lt ∨ Ieee.double.order (fl x) 4679239875398991872 = some .eq := by
  have e0 : (4679239875398991872 : Nat) = fl 65535 := by decide
  obtain ⟨n, rfl⟩ := Int.eq_ofNat_of_zero_le h.1
  by_cases h0 : n = 0
  · subst h0; left; decide
  · by_cases hE : n = 65535
    · subst hE; right; rw [e0]; exact fl_self (x := 65535) (by decide)
    · left
      obtain ⟨l, hl, h1, h2⟩ := lg16 h0 (by omega)
      unfold Ieee.Format.order
      rw [fl_read hl h1 h2, show Ieee.double.read 4679239875398991872 = .number false (65535 * 2 ^ 37) (-37) by decide]
      unfold Ieee.Datum.order
      simp only
      congr 1
      refine cmp_lt ?_
      have e1 : min ((l : Int) - 52) (-37) = (l : Int) - 52 := by omega
      rw [e1, show ((l : Int) - 52 - ((l : Int) - 52)).toNat = 0 by omega, show ((-37 : Int) - ((l : Int) - 52)).toNat = 15 - l by omega]
      have hp : n * 2 ^ (52 - l) < 65535 * 2 ^ 37 * 2 ^ (15 - l) := by
        rw [Nat.mul_assoc, ← Nat.pow_add, show 37 + (15 - l) = 52 - l by omega]
        exact Nat.mul_lt_mul_of_pos_right (by omega) (Nat.two_pow_pos _)
      simp only [Ieee.signed, Nat.shiftLeft_eq, Nat.pow_zero, Nat.mul_one, Bool.false_eq_true, if_false]
      exact Int.ofNat_lt.2 hp
end Sy

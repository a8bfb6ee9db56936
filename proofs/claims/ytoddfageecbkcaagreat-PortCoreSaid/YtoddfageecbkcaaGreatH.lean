/-
  Plain rules for the engine's primitives over heaps, and words for slices. Nothing of the program stands here.
-/
import Derived.Test.YtoddfageecbkcaaGreatEng
namespace Go.Eng
open Go
set_option linter.unusedVariables false

theorem add_mk (b o n : Nat) : (⟨b, o, none⟩ : Addr).add n = ⟨b, o + n, none⟩ := by
  unfold Addr.add; split
  · rename_i h; subst h; rfl
  · rfl

theorem cells_lt {H : Hp} {b : Nat} {cs : List Value} (h : cells H b = some cs) : b < H.size := by
  obtain ⟨c, t, hb, _⟩ := cells_imp h
  exact (Array.getElem?_eq_some_iff.1 hb).1

theorem cells_set {H : Hp} {b : Nat} {cs ds : List Value} (h : cells H b = some cs) : cells (setBlk H b ds) b = some ds := by
  rw [cells_setBlk_same, h]; rfl

theorem setBlk_get_ne {H : Hp} {b b' : Nat} {ds : List Value} (h : b ≠ b') : (setBlk H b ds)[b']? = H[b']? := by
  unfold setBlk; rw [Array.getElem?_modify, if_neg h]

theorem cells_congr {H H' : Hp} {b : Nat} (h : H'[b]? = H[b]?) : cells H' b = cells H b := by unfold cells; rw [h]

theorem cells_set_ne {H : Hp} {b b' : Nat} {ds : List Value} (h : b ≠ b') : cells (setBlk H b ds) b' = cells H b' := cells_congr (setBlk_get_ne h)

theorem size_setBlk {H : Hp} {b : Nat} {ds : List Value} : (setBlk H b ds).size = H.size := by simp [setBlk]

theorem cells_push_new {H : Hp} {c : Array Value} {t : TypeId} : cells (H.push (.cells c t)) H.size = some c.toList := by
  unfold cells; simp

theorem push_get {H : Hp} {o : Obj} {b : Nat} (h : b < H.size) : (H.push o)[b]? = H[b]? := by
  rw [Array.getElem?_push, if_neg (by omega)]

theorem cells_push {H : Hp} {o : Obj} {b : Nat} (h : b < H.size) : cells (H.push o) b = cells H b := cells_congr (push_get h)

theorem cells_push' {H : Hp} {o : Obj} {b : Nat} {cs : List Value} (h : cells H b = some cs) : cells (H.push o) b = some cs := by
  rw [cells_push (cells_lt h), h]

/-- All that was there is as it was; there may be more. -/
structure Ext (H H' : Hp) : Prop where
  size : H.size ≤ H'.size
  same : ∀ b, b < H.size → H'[b]? = H[b]?

theorem Ext.refl (H : Hp) : Ext H H := ⟨Nat.le_refl _, fun _ _ => rfl⟩
theorem Ext.trans {A B C : Hp} (h : Ext A B) (k : Ext B C) : Ext A C :=
  ⟨Nat.le_trans h.size k.size, fun b hb => (k.same b (Nat.lt_of_lt_of_le hb h.size)).trans (h.same b hb)⟩
theorem Ext.push (H : Hp) (o : Obj) : Ext H (H.push o) := ⟨by simp, fun b hb => push_get hb⟩
theorem Ext.cells {H H' : Hp} (h : Ext H H') {b : Nat} {cs : List Value} (hc : cells H b = some cs) : cells H' b = some cs := by
  rw [cells_congr (h.same b (cells_lt hc)), hc]
/-- A store into a block that is newer than 'H'. -/
theorem Ext.set {H H' : Hp} (h : Ext H H') {b : Nat} (hb : H.size ≤ b) (cs : List Value) : Ext H (setBlk H' b cs) :=
  ⟨by rw [size_setBlk]; exact h.size, fun c hc => by rw [setBlk_get_ne (by omega)]; exact h.same c hc⟩

/-- But for the blocks of 'S' all that was there is as it was. -/
structure But (S : Nat → Prop) (H H' : Hp) : Prop where
  size : H.size ≤ H'.size
  same : ∀ b, b < H.size → ¬ S b → H'[b]? = H[b]?

theorem But.refl (S : Nat → Prop) (H : Hp) : But S H H := ⟨Nat.le_refl _, fun _ _ _ => rfl⟩
theorem But.trans {S : Nat → Prop} {A B C : Hp} (h : But S A B) (k : But S B C) : But S A C :=
  ⟨Nat.le_trans h.size k.size, fun b hb hs => (k.same b (Nat.lt_of_lt_of_le hb h.size) hs).trans (h.same b hb hs)⟩
theorem But.of_ext {S : Nat → Prop} {A B : Hp} (h : Ext A B) : But S A B := ⟨h.size, fun b hb _ => h.same b hb⟩
theorem But.set {S : Nat → Prop} {A B : Hp} (h : But S A B) {b : Nat} (hb : S b ∨ A.size ≤ b) (cs : List Value) : But S A (setBlk B b cs) :=
  ⟨by rw [size_setBlk]; exact h.size, fun c hc hs => by
    rw [setBlk_get_ne (by rintro rfl; rcases hb with hb | hb; exact hs hb; omega)]; exact h.same c hc hs⟩
theorem But.push {S : Nat → Prop} {A B : Hp} (h : But S A B) (o : Obj) : But S A (B.push o) := h.trans (But.of_ext (Ext.push _ _))
theorem But.cells {S : Nat → Prop} {A B : Hp} (h : But S A B) {b : Nat} (hs : ¬ S b) {cs : List Value} (hc : Go.Eng.cells A b = some cs) : Go.Eng.cells B b = some cs := by
  rw [cells_congr (h.same b (cells_lt hc) hs), hc]
theorem But.mono {S S' : Nat → Prop} {A B : Hp} (h : But S A B) (hs : ∀ b, S b → S' b ∨ A.size ≤ b) : But S' A B :=
  ⟨h.size, fun b hb hn => h.same b hb (fun hh => by rcases hs b hh with h1 | h1; exact hn h1; omega)⟩

section
variable {H : Hp} {b o : Nat} {cs : List Value}
theorem ldI_rr {kk : IntKind} {x : Int} {k : Int → Prop} (h : rcells H b = some cs) (hx : cs[o]? = some (.int kk x)) (hk : k x) : ldI kk H ⟨b, o, none⟩ k := ⟨rfl, cs, h, x, hx, hk⟩
theorem ldI_r {kk : IntKind} {x : Int} {k : Int → Prop} (h : cells H b = some cs) (hx : cs[o]? = some (.int kk x)) (hk : k x) : ldI kk H ⟨b, o, none⟩ k := ⟨rfl, cs, rcells_of h, x, hx, hk⟩
theorem ldB_r {x : Bool} {k : Bool → Prop} (h : cells H b = some cs) (hx : cs[o]? = some (.bool x)) (hk : k x) : ldB H ⟨b, o, none⟩ k := ⟨rfl, cs, rcells_of h, x, hx, hk⟩
theorem ldP_r {x : Option Addr} {k : Option Addr → Prop} (h : cells H b = some cs) (hx : cs[o]? = some (.pointer x)) (hk : k x) : ldP H ⟨b, o, none⟩ k := ⟨rfl, cs, rcells_of h, x, hx, hk⟩
theorem ldS_r {q : Option Addr} {n c : Nat} {k : Option Addr → Nat → Nat → Prop} (h : cells H b = some cs) (hx : cs[o]? = some (.slice q n c)) (hk : k q n c) : ldS H ⟨b, o, none⟩ k := ⟨rfl, cs, rcells_of h, q, n, c, hx, hk⟩
theorem ldV_r {x : Value} {k : Value → Prop} (h : cells H b = some cs) (hx : cs[o]? = some x) (h1 : x.oneCell' = true) (hk : k x) : ldV H ⟨b, o, none⟩ k := ⟨rfl, cs, rcells_of h, x, hx, h1, hk⟩
theorem st_r {v : Value} {k : Hp → Prop} (h : cells H b = some cs) (h1 : v.oneCell' = true) (ho : o < cs.length) (hk : k (setBlk H b (cs.set o v))) : st H ⟨b, o, none⟩ v k := ⟨rfl, h1, cs, h, ho, hk⟩
theorem cont_r {v : Value} (h : cells H b = some cs) (hx : cs[o]? = some v) : cont H ⟨b, o, none⟩ v := ⟨rfl, cs, h, hx⟩
end
theorem nn_r {a : Addr} {k : Addr → Prop} (h : k a) : nn (some a) k := ⟨a, rfl, h⟩
theorem must_r {p k : Prop} (h1 : p) (h2 : k) : must p k := ⟨h1, h2⟩
theorem br_t {A B : Prop} (h : A) : br true A B := ⟨fun _ => h, fun e => Bool.noConfusion e⟩
theorem br_f {A B : Prop} (h : B) : br false A B := ⟨fun e => Bool.noConfusion e, fun _ => h⟩
theorem br_yes {c : Bool} {A B : Prop} (hc : c = true) (h : A) : br c A B := ⟨fun _ => h, fun e => absurd (hc.symm.trans e) (fun x => Bool.noConfusion x)⟩
theorem br_no {c : Bool} {A B : Prop} (hc : c = false) (h : B) : br c A B := ⟨fun e => absurd (hc.symm.trans e) (fun x => Bool.noConfusion x), fun _ => h⟩

theorem CallsH.mono {P : Program} {m : Amb} {f : FuncId} {args : List Value} {H : Hp} {K K' : Value → Hp → Prop} (h : CallsH P m f args H K) (hk : ∀ v H', K v H' → K' v H') : CallsH P m f args H K' :=
  fun d => (h d).mono fun e w' ⟨v, H', d', h1, h2, h3⟩ => ⟨v, H', d', h1, h2, hk _ _ h3⟩

theorem wr_i64 {n : Int} (h1 : -9223372036854775808 ≤ n) (h2 : n ≤ 9223372036854775807) : wr .i64 n = n := by
  simp [wr, IntKind.wrap, IntKind.bits, IntKind.signed]; omega

theorem wr_u64 {n : Int} (h1 : 0 ≤ n) (h2 : n < 18446744073709551616) : wr .u64 n = n := by
  simp [wr, IntKind.wrap, IntKind.bits, IntKind.signed]; omega

theorem and_65535 (x : Int) : bitsOf .and .i64 x 65535 = x % 65536 := by
  have h1 : (BitVec.ofInt 64 65535) = 65535#64 := by decide
  have h2 : (BitVec.ofInt 64 x &&& 65535#64).toNat = (x % 18446744073709551616).toNat % 65536 := by
    rw [BitVec.toNat_and, BitVec.toNat_ofInt]
    exact Nat.and_two_pow_sub_one_eq_mod _ 16
  show IntKind.i64.wrap ((BitVec.ofInt 64 x &&& BitVec.ofInt 64 65535).toNat : Nat) = _
  rw [h1, h2]
  simp [IntKind.wrap, IntKind.bits, IntKind.signed]
  omega

theorem and_63 (x : Int) : bitsOf .and .i64 x 63 = x % 64 := by
  have h1 : (BitVec.ofInt 64 63) = 63#64 := by decide
  have h2 : (BitVec.ofInt 64 x &&& 63#64).toNat = (x % 18446744073709551616).toNat % 64 := by
    rw [BitVec.toNat_and, BitVec.toNat_ofInt]
    exact Nat.and_two_pow_sub_one_eq_mod _ 6
  show IntKind.i64.wrap ((BitVec.ofInt 64 x &&& BitVec.ofInt 64 63).toNat : Nat) = _
  rw [h1, h2]
  simp [IntKind.wrap, IntKind.bits, IntKind.signed]
  omega

end Go.Eng

/-
  CONTRACTS: the gate and the locks.
-/
import Derived.Test.YtoddfageecbkcaaGreatK6
namespace Go.Proofs.YtoddfageecbkcaaGreat
open Go Go.Eng Sy
set_option linter.unusedVariables false
set_option linter.unusedSimpArgs false
set_option maxRecDepth 100000

def TGate (r : Nat) : Tg → Prop := fun τ => τ = (r, 12, 0, 0)
def TLock (r : Nat) : Tg → Prop := fun τ => τ = (r, 11, 0, 0)

/-- A place within an array of a block. -/
theorem ldI_o {kk : IntKind} {H : Hp} {b o : Nat} {x v : Int} {cs : List Value} {k : Int → Prop} (h : cells H b = some cs) (hx : cs[o + x.toNat]? = some (.int kk v)) (hk : k v) : ldI kk H ((⟨b, o, none⟩ : Addr).add (x.toNat * 1)) k := by
  rw [add_mk, Nat.mul_one]; exact ldI_r h hx hk
theorem ldB_o {H : Hp} {b o : Nat} {x : Int} {v : Bool} {cs : List Value} {k : Bool → Prop} (h : cells H b = some cs) (hx : cs[o + x.toNat]? = some (.bool v)) (hk : k v) : ldB H ((⟨b, o, none⟩ : Addr).add (x.toNat * 1)) k := by
  rw [add_mk, Nat.mul_one]; exact ldB_r h hx hk
theorem st_o {ow : Ow} {τ : Tg} {H : Hp} {b o : Nat} {x : Int} {cs : List Value} {v : Value} {k : Hp → Prop} (h : Has ow H τ b cs) (h1 : v.oneCell' = true) (ho : o + x.toNat < cs.length) (hk : ∀ H', Set1 b H H' → Has ow H' τ b (cs.set (o + x.toNat) v) → k H') : st H ((⟨b, o, none⟩ : Addr).add (x.toNat * 1)) v k := by
  rw [add_mk, Nat.mul_one]; exact st_t h h1 ho hk

section
variable {m : Amb} {r : Nat} {ow : Ow} {H : Hp} {K : Value → Hp → Prop} {b : Nat} {cores : Int} {epochs : List Int} {held : List Bool}

theorem gate_ep {i : Nat} (he : epochs.length = 8) (hi : i < 8) : (I cores :: (epochs.map I ++ held.map B))[1 + i]? = some (I (epochs.getD i 0)) := by
  rw [Nat.add_comm, List.getElem?_cons_succ, List.getElem?_append_left (by simp [he, hi]), List.getElem?_map, List.getElem?_eq_getElem (by rw [he]; exact hi)]
  simp [List.getD_eq_getElem?_getD, List.getElem?_eq_getElem (show i < epochs.length by rw [he]; exact hi)]
theorem gate_held {i : Nat} (he : epochs.length = 8) (hh : held.length = 8) (hi : i < 8) : (I cores :: (epochs.map I ++ held.map B))[9 + i]? = some (B (held.getD i false)) := by
  rw [show 9 + i = (8 + i) + 1 by omega, List.getElem?_cons_succ, List.getElem?_append_right (by simp [he]), List.getElem?_map]
  simp only [List.length_map, he, Nat.add_sub_cancel_left]
  rw [List.getElem?_eq_getElem (show i < held.length by rw [hh]; exact hi)]
  simp [List.getD_eq_getElem?_getD, List.getElem?_eq_getElem (show i < held.length by rw [hh]; exact hi)]
theorem gate_set_ep {i : Nat} {x : Int} (he : epochs.length = 8) (hi : i < 8) : (I cores :: (epochs.map I ++ held.map B)).set (1 + i) (I x) = I cores :: ((epochs.set i x).map I ++ held.map B) := by
  rw [Nat.add_comm, List.set_cons_succ, List.set_append_left _ _ (by simp [he, hi]), List.map_set]
theorem gate_set_held {i : Nat} {x : Bool} (he : epochs.length = 8) (hi : i < 8) : (I cores :: (epochs.map I ++ held.map B)).set (9 + i) (B x) = I cores :: (epochs.map I ++ (held.set i x).map B) := by
  rw [show 9 + i = (8 + i) + 1 by omega, List.set_cons_succ, List.set_append_right _ _ (by simp [he])]
  simp only [List.length_map, he, Nat.add_sub_cancel_left, List.map_set]

theorem C108 {x y : Int} (h : K (I ((x + y) % 65536)) H) : CallsH Tryz.prog m 108 [I x, I y] H K := by
  refine S108 (C35 ⟨_, rfl, C35 ⟨_, rfl, C35 ⟨_, rfl, ?_⟩⟩⟩)
  rw [wr_i64 (by omega) (by omega)]
  have : (x % 65536 + y % 65536) % 65536 = (x + y) % 65536 := by omega
  rw [this]; exact h

theorem C101 {x : Int} (hG : GateR r ow H b cores epochs held) (h : K (I (if 0 ≤ x ∧ x < cores then 0 else 3)) H) : CallsH Tryz.prog m 101 [Pt b, I x] H K := by
  refine S101 (br_f ?_)
  by_cases e : x < 0
  · rw [if_neg (by omega)] at h; exact br_yes (by simpa using e) h
  · refine br_no (by simpa using e) (nn_r (ldI_r (x := cores) hG.2 rfl ?_))
    by_cases e2 : x < cores
    · rw [if_pos (by omega)] at h; exact br_no (by simpa using e2) h
    · rw [if_neg (by omega)] at h; exact br_yes (by simpa using e2) h

theorem C70 {x : Int} (hG : GateR r ow H b cores epochs held) (he : epochs.length = 8) (h8 : cores ≤ 8) (hx : 0 ≤ x ∧ x < cores) (h : K (.tuple #[I (epochs.getD x.toNat 0), I 0]) H) : CallsH Tryz.prog m 70 [Pt b, I x] H K := by
  refine S70 (C101 hG ?_)
  rw [if_pos hx]
  refine ⟨_, rfl, br_f (nn_r ⟨⟨by omega, by omega⟩, ldI_o (o := 1) hG.2 (gate_ep he (by omega)) h⟩)⟩

theorem C70n {x : Int} (hG : GateR r ow H b cores epochs held) (hx : ¬ (0 ≤ x ∧ x < cores)) (h : K (.tuple #[I 0, I 3]) H) : CallsH Tryz.prog m 70 [Pt b, I x] H K := by
  refine S70 (C101 hG ?_)
  rw [if_neg hx]
  exact ⟨_, rfl, br_t h⟩

theorem C87 {x : Int} (hG : GateR r ow H b cores epochs held) (he : epochs.length = 8) (hh : held.length = 8) (h8 : cores ≤ 8) (hx : 0 ≤ x ∧ x < cores) (h : K (B (!held.getD x.toNat false)) H) : CallsH Tryz.prog m 87 [Pt b, I x] H K := by
  refine S87 (C101 hG ?_)
  rw [if_pos hx]
  refine ⟨_, rfl, br_t (nn_r ⟨⟨by omega, by omega⟩, ldB_o (o := 9) hG.2 (gate_held he hh (by omega)) h⟩)⟩

theorem C87n {x : Int} (hG : GateR r ow H b cores epochs held) (hx : ¬ (0 ≤ x ∧ x < cores)) (h : K (B false) H) : CallsH Tryz.prog m 87 [Pt b, I x] H K := by
  refine S87 (C101 hG ?_)
  rw [if_neg hx]
  exact ⟨_, rfl, br_f h⟩

theorem C54 {x : Int} (hG : GateR r ow H b cores epochs held) (he : epochs.length = 8) (hh : held.length = 8) (h8 : cores ≤ 8)
    (h3 : ¬ (0 ≤ x ∧ x < cores) → K (I 3) H) (h11 : (0 ≤ x ∧ x < cores) → held.getD x.toNat false = true → K (I 11) H)
    (h : (0 ≤ x ∧ x < cores) → held.getD x.toNat false = false → ∀ H', Upd (TGate r) ow H ow H' → GateR r ow H' b cores epochs (held.set x.toNat true) → K (I 0) H') : CallsH Tryz.prog m 54 [Pt b, I x] H K := by
  refine S54 (C101 hG ?_)
  by_cases hx : 0 ≤ x ∧ x < cores
  · rw [if_pos hx]
    refine ⟨_, rfl, br_f (nn_r ⟨⟨by omega, by omega⟩, ldB_o (o := 9) (v := held.getD x.toNat false) hG.2 (gate_held he hh (by omega)) ?_⟩)⟩
    cases hv : held.getD x.toNat false with
    | true => exact br_t (h11 hx hv)
    | false =>
      refine br_f (nn_r ⟨⟨by omega, by omega⟩, st_o (o := 9) hG rfl (by simp [he, hh]; omega) fun H' s g => ?_⟩)
      rw [gate_set_held he (by omega)] at g
      exact h hx hv H' (s.upd hG.1) g
  · rw [if_neg hx]
    exact ⟨_, rfl, br_t (h3 hx)⟩

theorem C58 {x : Int} (hG : GateR r ow H b cores epochs held) (he : epochs.length = 8) (hh : held.length = 8) (h8 : cores ≤ 8)
    (h3 : ¬ (0 ≤ x ∧ x < cores) → K (I 3) H) (h13 : (0 ≤ x ∧ x < cores) → held.getD x.toNat false = false → K (I 13) H)
    (h : (0 ≤ x ∧ x < cores) → held.getD x.toNat false = true → ∀ H', Upd (TGate r) ow H ow H' → GateR r ow H' b cores (epochs.set x.toNat ((epochs.getD x.toNat 0 + 1) % 65536)) (held.set x.toNat false) → K (I 0) H') : CallsH Tryz.prog m 58 [Pt b, I x] H K := by
  refine S58 (C101 hG ?_)
  by_cases hx : 0 ≤ x ∧ x < cores
  · rw [if_pos hx]
    refine ⟨_, rfl, br_f (nn_r ⟨⟨by omega, by omega⟩, ldB_o (o := 9) (v := held.getD x.toNat false) hG.2 (gate_held he hh (by omega)) ?_⟩)⟩
    cases hv : held.getD x.toNat false with
    | false => exact br_t (h13 hx hv)
    | true =>
      refine br_f (nn_r ⟨⟨by omega, by omega⟩, st_o (o := 9) hG rfl (by simp [he, hh]; omega) fun H1 s1 g1 => ?_⟩)
      rw [gate_set_held he (by omega)] at g1
      refine nn_r ⟨⟨by omega, by omega⟩, ldI_o (o := 1) g1.2 (gate_ep he (by omega)) (nn_r (C108 ⟨_, rfl, ⟨by omega, by omega⟩, st_o (o := 1) g1 rfl (by simp [he, hh]; omega) fun H2 s2 g2 => ?_⟩))⟩
      rw [gate_set_ep he (by omega)] at g2
      exact h hx hv H2 (((Upd.refl _ _ _).set s1 (.inl hG.1)).set s2 (.inl hG.1)) g2
  · rw [if_neg hx]
    exact ⟨_, rfl, br_t (h3 hx)⟩

variable {locks : Int} {owners : List Int}

theorem lock_get {i : Nat} (ho : owners.length = 16) (hi : i < 16) : (I cores :: I locks :: owners.map I)[2 + i]? = some (I (owners.getD i 0)) := by
  rw [Nat.add_comm, List.getElem?_cons_succ, List.getElem?_cons_succ, List.getElem?_map, List.getElem?_eq_getElem (by rw [ho]; exact hi)]
  simp [List.getD_eq_getElem?_getD, List.getElem?_eq_getElem (show i < owners.length by rw [ho]; exact hi)]
theorem lock_set {i : Nat} {x : Int} : (I cores :: I locks :: owners.map I).set (2 + i) (I x) = I cores :: I locks :: (owners.set i x).map I := by
  rw [Nat.add_comm, List.set_cons_succ, List.set_cons_succ, List.map_set]

theorem C80 {x : Int} (hL : LocksR r ow H b cores locks owners) (hx : 0 ≤ x ∧ x < locks) (h : K (I 0) H) : CallsH Tryz.prog m 80 [Pt b, I x] H K := by
  exact S80 (br_f (br_no (by simp; omega) (nn_r (ldI_r (x := locks) hL.2 rfl (br_no (by simp; omega) h)))))
theorem C106 {x : Int} (hL : LocksR r ow H b cores locks owners) (hx : 0 ≤ x ∧ x < cores) (h : K (I 0) H) : CallsH Tryz.prog m 106 [Pt b, I x] H K := by
  exact S106 (br_f (br_no (by simp; omega) (nn_r (ldI_r (x := cores) hL.2 rfl (br_no (by simp; omega) h)))))
theorem C81 {x y : Int} (hL : LocksR r ow H b cores locks owners) (hx : 0 ≤ x ∧ x < cores) (hy : 0 ≤ y ∧ y < locks) (h : K (I 0) H) : CallsH Tryz.prog m 81 [Pt b, I x, I y] H K := by
  exact S81 (C106 hL hx ⟨_, rfl, br_f (C80 hL hy ⟨_, rfl, h⟩)⟩)

theorem C37 {y : Int} (hL : LocksR r ow H b cores locks owners) (ho : owners.length = 16) (hw : ∀ x ∈ owners, 0 ≤ x ∧ x ≤ 8) (h16 : locks ≤ 16) (hy : 0 ≤ y ∧ y < locks) (h : K (.tuple #[I (owners.getD y.toNat 0 - 1), I 0]) H) : CallsH Tryz.prog m 37 [Pt b, I y] H K := by
  refine S37 (C80 hL hy ⟨_, rfl, br_f (nn_r ⟨⟨by omega, by omega⟩, ldI_o (o := 2) hL.2 (lock_get ho (by omega)) ?_⟩)⟩)
  have hm : owners.getD y.toNat 0 ∈ owners := by
    rw [List.getD_eq_getElem?_getD, List.getElem?_eq_getElem (show y.toNat < owners.length by omega)]
    exact List.getElem_mem _
  have := hw _ hm
  rw [wr_i64 (by omega) (by omega)]; exact h

theorem C38 {x y : Int} (hL : LocksR r ow H b cores locks owners) (ho : owners.length = 16) (h8 : cores ≤ 8) (h16 : locks ≤ 16) (hx : 0 ≤ x ∧ x < cores) (hy : 0 ≤ y ∧ y < locks) (hown : owners.getD y.toNat 0 = x + 1)
    (h : ∀ H', Upd (TLock r) ow H ow H' → LocksR r ow H' b cores locks (owners.set y.toNat 0) → K (I 0) H') : CallsH Tryz.prog m 38 [Pt b, I x, I y] H K := by
  refine S38 (C81 hL hx hy ⟨_, rfl, br_f (nn_r ⟨⟨by omega, by omega⟩, ldI_o (o := 2) hL.2 (lock_get ho (by omega)) ?_⟩)⟩)
  rw [wr_i64 (by omega) (by omega)]
  refine br_no (by rw [hown]; simp) (nn_r ⟨⟨by omega, by omega⟩, st_o (o := 2) hL rfl (by simp [ho]; omega) fun H' s g => ?_⟩)
  rw [lock_set] at g
  exact h H' (s.upd hL.1) g

theorem C69 {x y : Int} (hL : LocksR r ow H b cores locks owners) (ho : owners.length = 16) (h8 : cores ≤ 8) (h16 : locks ≤ 16) (hx : 0 ≤ x ∧ x < cores) (hy : 0 ≤ y ∧ y < locks)
    (hno : owners.getD y.toNat 0 ≠ 0 → K (.tuple #[.bool false, I 0]) H)
    (h : owners.getD y.toNat 0 = 0 → ∀ H', Upd (TLock r) ow H ow H' → LocksR r ow H' b cores locks (owners.set y.toNat (x + 1)) → K (.tuple #[.bool true, I 0]) H') : CallsH Tryz.prog m 69 [Pt b, I x, I y] H K := by
  refine S69 (C81 hL hx hy ⟨_, rfl, br_f (nn_r ⟨⟨by omega, by omega⟩, ldI_o (o := 2) hL.2 (lock_get ho (by omega)) ?_⟩)⟩)
  by_cases e : owners.getD y.toNat 0 = 0
  · refine br_no (by rw [e]; rfl) (nn_r ⟨⟨by omega, by omega⟩, ?_⟩)
    rw [wr_i64 (n := x + 1) (by omega) (by omega)]
    refine st_o (o := 2) hL rfl (by simp [ho]; omega) fun H' s g => ?_
    rw [lock_set] at g
    exact h e H' (s.upd hL.1) g
  · exact br_yes (by simpa using e) (hno e)
end
end Go.Proofs.YtoddfageecbkcaaGreat

/-
  CONTRACTS: all locks of a core let go; lanes.
-/
import Derived.Test.YtoddfageecbkcaaGreatK8
namespace Go.Proofs.YtoddfageecbkcaaGreat
open Go Go.Eng Sy
set_option linter.unusedVariables false
set_option linter.unusedSimpArgs false
set_option maxRecDepth 100000

theorem foldSet_len : ∀ {l : List Nat} {o : List Int}, (l.foldl (fun o i => o.set i 0) o).length = o.length
  | [], _ => rfl
  | p :: l, o => by rw [List.foldl_cons, foldSet_len, List.length_set]

theorem heldOf_lt {o : List Int} {c : Int} : ∀ i ∈ heldOf o c, i < 16 := by
  intro i hi; unfold heldOf at hi; rw [List.mem_filter] at hi; simpa using hi.1

section
variable {m : Amb} {r : Nat} {ow : Ow} {H : Hp} {K : Value → Hp → Prop} {b : Nat} {cores locks : Int} {owners : List Int}

theorem C57 (hr0 : 0 < r) {x : Int} (hL : LocksR r ow H b cores locks owners) (ho : owners.length = 16) (h8 : cores ≤ 8) (hx : 0 ≤ x ∧ x < cores)
    (h : ∀ ow' H' n, Upd (TLock r) ow H ow' H' → LocksR r ow' H' b cores locks (relLocks owners x) → K (.tuple #[I n, I 0]) H') : CallsH Tryz.prog m 57 [Pt b, I x] H K := by
  refine S57 (C106 hL hx ⟨_, rfl, br_f (C107 hL ho h8 hx ?_)⟩)
  intro ow1 H1 q c u1 s1
  have hL1 := hL.upd u1 id
  refine ⟨q, (heldOf owners x).length, c, rfl, ?_⟩
  generalize hl : heldOf owners x = l at s1 ⊢
  have hlt : ∀ i ∈ l, i < 16 := by rw [← hl]; exact heldOf_lt
  have hrel : relLocks owners x = l.foldl (fun o i => o.set i 0) owners := by rw [relLocks, hl]
  rw [hrel] at h
  have s1 : SlT 1 ow1 H1 T0 q l.length c ((l.map fun i : Nat => (i : Int)).map I) := by rw [List.map_map]; exact s1
  have hlen : l.length ≤ 16 := by rw [← hl]; exact heldN_len owners x 16
  refine ⟨fun i A => ∃ k : Nat, i = (k : Int) ∧ k ≤ l.length ∧ Upd (TLock r) ow1 H1 ow1 A ∧ LocksR r ow1 A b cores locks ((l.take k).foldl (fun o i => o.set i 0) owners), fun i _ => (l.length - i).toNat, ⟨0, rfl, by omega, Upd.refl _ _ _, by simpa using hL1⟩, ?_⟩
  rintro _ A w j ⟨k, rfl, hk, u, hLk⟩ hw
  by_cases hkl : k < l.length
  · refine br_yes (by simp; omega) ?_
    have s2 := s1.upd u (by intro hh; cases hh)
    refine ld_sl s2 (by omega) (nn_r ?_)
    have hget : (l.map fun i : Nat => (i : Int)).getD (k : Int).toNat 0 = (l[k] : Int) := by
      rw [Int.toNat_natCast, List.getD_eq_getElem?_getD, List.getElem?_map, List.getElem?_eq_getElem hkl]; rfl
    have hl16 := hlt l[k] (List.getElem_mem _)
    rw [hget]
    refine ⟨⟨by omega, by omega⟩, st_o (o := 2) hLk rfl (by simp [foldSet_len, ho]; omega) fun H' s g => ?_⟩
    rw [lock_set, Int.toNat_natCast] at g
    refine ⟨⟨k + 1, wr_i64 (by omega) (by omega), by omega, u.set s (.inl hLk.1), ?_⟩, ?_⟩
    · rw [List.take_succ_eq_append_getElem hkl, List.foldl_append]; exact g
    · rw [wr_i64 (by omega) (by omega)]; subst hw
      show ((l.length : Int) - ((k : Int) + 1)).toNat + 1 ≤ ((l.length : Int) - (k : Int)).toNat
      omega
  · obtain rfl : k = l.length := by omega
    rw [List.take_length] at hLk
    exact br_no (by simp) (h ow1 A _ ((u1.mono fun _ h => h.elim).trans u) hLk)

def TLane (r i : Nat) : Tg → Prop := fun τ => τ = (r, 9, i, 0) ∨ τ = (r, 10, i, 0)
variable {i bl : Nat} {l : List Int}

theorem C120 {q : Option Addr} {c : Nat} {first : Int} {y : Value} {x : Int} {τ : Tg} (h1 : Has ow H τ bl [.slice q 16 c, I first, y]) (hf : 0 ≤ first ∧ first < 16) (hx : 0 ≤ x ∧ x ≤ 16) (h : K (I ((first + x) % 16)) H) : CallsH Tryz.prog m 120 [Pt bl, I x] H K := by
  refine S120 (nn_r (ldI_r (x := first) h1.2 rfl (nn_r (ldS_r h1.2 rfl (must_r (by decide) ?_)))))
  rw [wr_i64 (by omega) (by omega), Int.tmod_eq_emod_of_nonneg (by omega)]; exact h

theorem C117 (hR : LaneR r ow H i bl l) (h : K (I l.length) H) : CallsH Tryz.prog m 117 [Pt bl] H K := by
  obtain ⟨q, c, first, room, h1, h2, h3, h4, h5, h6⟩ := hR
  exact S117 (br_f (nn_r (ldI_r (x := (l.length : Int)) h1.2 rfl h)))

theorem C105 (hR : LaneR r ow H i bl l) (h : ∀ H' x, Upd (TLane r i) ow H ow H' → LaneR r ow H' i bl [] → K (I x) H') : CallsH Tryz.prog m 105 [Pt bl] H K := by
  refine S105 (C117 hR ⟨_, rfl, ?_⟩)
  by_cases e : l = []
  · subst e; exact br_no (by simp) (h H _ (Upd.refl _ _ _) hR)
  · obtain ⟨q, c, first, room, h1, h2, h3, h4, h5, h6⟩ := hR
    have : 0 < l.length := List.length_pos_iff.2 e
    refine br_yes (by simp; omega) (nn_r (st_t h1 rfl (by simp) fun H' s g => ?_))
    have u := s.upd h1.1
    exact h H' _ (u.mono fun τ hτ => .inl hτ) ⟨q, c, first, room, g, h2.upd u (by simp), h3, by simp, h5, fun k hk => by simp at hk⟩

theorem C86f (hR : LaneR r ow H i bl l) (hl : l.length = 16) {x : Int} (h : K (I 5) H) : CallsH Tryz.prog m 86 [Pt bl, I x] H K := by
  obtain ⟨q, c, first, room, h1, h2, h3, h4, h5, h6⟩ := hR
  exact S86 (br_f (nn_r (ldI_r (x := (l.length : Int)) h1.2 rfl (nn_r (ldS_r h1.2 rfl (br_yes (by simp [hl]) h))))))

theorem C86 (hR : LaneR r ow H i bl l) (hl : l.length < 16) {x : Int} (h : ∀ H', Upd (TLane r i) ow H ow H' → LaneR r ow H' i bl (l ++ [x]) → K (I 0) H') : CallsH Tryz.prog m 86 [Pt bl, I x] H K := by
  obtain ⟨q, c, first, room, h1, h2, h3, h4, h5, h6⟩ := hR
  refine S86 (br_f (nn_r (ldI_r (x := (l.length : Int)) h1.2 rfl (nn_r (ldS_r h1.2 rfl (br_no (by simp; omega) ?_))))))
  refine nn_r (ldS_r h1.2 rfl (nn_r (ldI_r (x := (l.length : Int)) h1.2 rfl (C120 h1 (by omega) (by omega) ⟨_, rfl, must_r (cont_r h1.2 rfl) ?_⟩))))
  refine st_sl h2 (by omega) fun H1 u1 s1 => ?_
  have g1 := h1.upd u1 (by simp)
  refine nn_r (ldI_r (x := (l.length : Int)) g1.2 rfl (nn_r (st_t g1 rfl (by simp) fun H2 s2 g2 => ?_)))
  have u2 := s2.upd g1.1
  refine h H2 ((u1.mono fun τ hτ => .inr hτ).trans (u2.mono fun τ hτ => .inl hτ)) ?_
  rw [wr_i64 (by omega) (by omega)] at g2
  refine ⟨q, c, first, room.set ((first + l.length : Int) % 16).toNat x, by simpa using g2, s1.upd u2 (by simp), h3, by simp; omega, by simp [h5], fun k hk => ?_⟩
  have hidx : ((first + l.length : Int) % 16).toNat = (first + l.length) % 16 := by omega
  rw [hidx]
  simp only [List.length_append, List.length_singleton] at hk
  simp only [List.getD_eq_getElem?_getD, List.getElem?_set]
  by_cases hkl : k = l.length
  · subst hkl
    rw [if_pos rfl, if_pos (by rw [h5]; omega)]
    simp
  · have := h6 k (by omega)
    simp only [List.getD_eq_getElem?_getD] at this
    rw [if_neg (by omega), List.getElem?_append_left (by omega)]
    exact this

theorem C115e (hR : LaneR r ow H i bl []) (h : K (.tuple #[I 0, I 6]) H) : CallsH Tryz.prog m 115 [Pt bl] H K := by
  obtain ⟨q, c, first, room, h1, h2, h3, h4, h5, h6⟩ := hR
  exact S115 (br_f (nn_r (ldI_r (x := 0) h1.2 rfl (br_t h))))

theorem C115 {x : Int} (hR : LaneR r ow H i bl (x :: l)) (h : ∀ H', Upd (TLane r i) ow H ow H' → LaneR r ow H' i bl l → K (.tuple #[I x, I 0]) H') : CallsH Tryz.prog m 115 [Pt bl] H K := by
  obtain ⟨q, c, first, room, h1, h2, h3, h4, h5, h6⟩ := hR
  simp only [List.length_cons] at h1 h4
  refine S115 (br_f (nn_r (ldI_r (x := ((l.length + 1 : Nat) : Int)) h1.2 rfl (br_no (by simp; omega) ?_))))
  refine nn_r (ldS_r h1.2 rfl (nn_r (ldI_r (x := (first : Int)) h1.2 rfl (ld_sl h2 (by omega) ?_))))
  refine C120 h1 (by omega) (by omega) ⟨_, rfl, nn_r (st_t h1 rfl (by simp) fun H1 s1 g1 => ?_)⟩
  refine nn_r (ldI_r (x := ((l.length + 1 : Nat) : Int)) g1.2 rfl (nn_r (st_t g1 rfl (by simp) fun H2 s2 g2 => ?_)))
  have u := ((Upd.refl (· = (r, 9, i, 0)) ow H).set s1 (.inl h1.1)).set s2 (.inl h1.1)
  rw [wr_i64 (by omega) (by omega)] at g2
  have e0 := h6 0 (by simp)
  have e1 : room.getD (first : Int).toNat 0 = x := by
    rw [Int.toNat_natCast]
    rw [show (first + 0) % 16 = first by omega] at e0
    rw [e0]; rfl
  rw [e1]
  refine h H2 (u.mono fun τ hτ => .inl hτ) ⟨q, c, (first + 1) % 16, room, ?_, h2.upd u (by simp), by omega, by omega, h5, fun k hk => ?_⟩
  · have e2 : ((first : Int) + 1) % 16 = (((first + 1) % 16 : Nat) : Int) := by omega
    have e3 : ((l.length + 1 : Nat) : Int) - 1 = (l.length : Int) := by omega
    rw [e2, e3] at g2
    simpa using g2
  · have := h6 (k + 1) (by simp; omega)
    rw [show ((first + 1) % 16 + k) % 16 = (first + (k + 1)) % 16 by omega, this]
    rfl

theorem C49 (r' i' : Nat) (h : ∀ ow' H' b', Upd Tno ow H ow' H' → LaneR r' ow' H' i' b' [] → K (Pt b') H') : CallsH Tryz.prog m 49 [I 16] H K := by
  refine S49 (br_f (br_f ?_))
  refine mkS_t (ow := ow) (r', 10, i', 0) zc3 (by kernel_rfl) (by omega) ?_
  intro ow1 H1 q u1 _ s1
  refine nw_t (ow := ow1) (r', 9, i', 0) ?_
  intro ow2 H2 b u2 hb g2
  refine h ow2 H2 b (u1.trans u2) ⟨q, 16, 0, List.replicate 16 0, g2, ?_, by omega, by simp, by simp, fun k hk => by simp at hk⟩
  have := s1.upd u2 id
  simpa using this
end
end Go.Proofs.YtoddfageecbkcaaGreat

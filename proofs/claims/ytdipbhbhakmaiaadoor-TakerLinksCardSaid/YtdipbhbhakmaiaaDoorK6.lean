/-
  CONTRACTS: the table of handles; lists; the plot of the slots.
-/
import Derived.Test.YtdipbhbhakmaiaaDoorK3
namespace Go.Proofs.YtdipbhbhakmaiaaDoor
open Go Go.Eng
set_option linter.unusedVariables false
set_option linter.unusedSimpArgs false
set_option maxRecDepth 100000

/-- A store, its heap forgotten but for what it says. -/
theorem st_s {H : Hp} {b o : Nat} {cs : List Value} {v : Value} {k : Hp → Prop} (h : cells H b = some cs) (h1 : v.oneCell' = true) (ho : o < cs.length) (hk : ∀ H', But (fun x => x = b) H H' → H'.size = H.size → cells H' b = some (cs.set o v) → k H') : st H ⟨b, o, none⟩ v k :=
  st_r h h1 ho (hk _ (set1 (But.refl _ _) _) size_setBlk (cells_set h))

theorem ldB_i {H : Hp} {b o : Nat} {x : Int} {v : Bool} {cs : List Value} {k : Bool → Prop} (h : cells H b = some cs) (hx : cs[o + x.toNat]? = some (.bool v)) (hk : k v) : ldB H ((⟨b, o, none⟩ : Addr).add (x.toNat * 1)) k := by
  rw [add_mk, Nat.mul_one]; exact ldB_r h hx hk
theorem ldI_o {kk : IntKind} {H : Hp} {b o : Nat} {x v : Int} {cs : List Value} {k : Int → Prop} (h : cells H b = some cs) (hx : cs[o + x.toNat]? = some (.int kk v)) (hk : k v) : ldI kk H ((⟨b, o, none⟩ : Addr).add (x.toNat * 1)) k := by
  rw [add_mk, Nat.mul_one]; exact ldI_r h hx hk
theorem st_o {H : Hp} {b o : Nat} {x : Int} {cs : List Value} {v : Value} {k : Hp → Prop} (h : cells H b = some cs) (h1 : v.oneCell' = true) (ho : o + x.toNat < cs.length) (hk : ∀ H', But (fun x => x = b) H H' → H'.size = H.size → cells H' b = some (cs.set (o + x.toNat) v) → k H') : st H ((⟨b, o, none⟩ : Addr).add (x.toNat * 1)) v k := by
  rw [add_mk, Nat.mul_one]; exact st_s h h1 ho hk

structure Tb.ok (t : Tb) : Prop where
  n1 : 1 ≤ t.n
  n64 : t.n ≤ 64
  gl : t.gens.length = 64
  hl : t.held.length = 64
  gw : ∀ i, 0 ≤ t.gens.getD i 0 ∧ t.gens.getD i 0 < 65536

theorem getD_rep {α : Type} (n i : Nat) (x : α) : (List.replicate n x).getD i x = x := by
  rw [List.getD_eq_getElem?_getD, List.getElem?_replicate]; split <;> rfl

theorem Tb.new_ok {n : Int} (h1 : 1 ≤ n) (h2 : n ≤ 64) : (Tb.new n).ok := by
  refine ⟨h1, h2, List.length_replicate, List.length_replicate, fun i => ?_⟩
  have h : (Tb.new n).gens.getD i 0 = 0 := getD_rep 64 i (0 : Int)
  rw [h]; omega

theorem Tb.cells_len {t : Tb} (h : t.ok) : t.cells.length = 129 := by simp [Tb.cells, h.gl, h.hl]
theorem Tb.get_n {t : Tb} : t.cells[0]? = some (I t.n) := rfl
theorem Tb.get_gen {t : Tb} (h : t.ok) {i : Nat} (hi : i < 64) : t.cells[1 + i]? = some (I (t.gens.getD i 0)) := by
  rw [Tb.cells, Nat.add_comm, List.getElem?_cons_succ, List.getElem?_append_left (by simp [h.gl, hi]), List.getElem?_map, List.getElem?_eq_getElem (by rw [h.gl]; exact hi)]
  simp [List.getD_eq_getElem?_getD, List.getElem?_eq_getElem (show i < t.gens.length by rw [h.gl]; exact hi)]
theorem Tb.get_held {t : Tb} (h : t.ok) {i : Nat} (hi : i < 64) : t.cells[65 + i]? = some (B (t.held.getD i false)) := by
  rw [Tb.cells, show 65 + i = (64 + i) + 1 by omega, List.getElem?_cons_succ, List.getElem?_append_right (by simp [h.gl]), List.getElem?_map]
  simp only [List.length_map, h.gl, Nat.add_sub_cancel_left]
  rw [List.getElem?_eq_getElem (show i < t.held.length by rw [h.hl]; exact hi)]
  simp [List.getD_eq_getElem?_getD, List.getElem?_eq_getElem (show i < t.held.length by rw [h.hl]; exact hi)]
theorem Tb.set_gen {t : Tb} (h : t.ok) {i : Nat} (hi : i < 64) (x : Int) : t.cells.set (1 + i) (I x) = { t with gens := t.gens.set i x }.cells := by
  rw [Tb.cells, Tb.cells, Nat.add_comm, List.set_cons_succ, List.set_append_left _ _ (by simp [h.gl, hi]), List.map_set]
theorem Tb.set_held {t : Tb} (h : t.ok) {i : Nat} (hi : i < 64) (x : Bool) : t.cells.set (65 + i) (B x) = { t with held := t.held.set i x }.cells := by
  rw [Tb.cells, Tb.cells, show 65 + i = (64 + i) + 1 by omega, List.set_cons_succ, List.set_append_right _ _ (by simp [h.gl])]
  simp only [List.length_map, h.gl, Nat.add_sub_cancel_left, List.map_set]

/-- The slots that are held, among the first 'j'. -/
def Tb.upto (t : Tb) (j : Nat) : List Int := List.map (fun (i : Nat) => Int.ofNat i) ((List.range j).filter fun (i : Nat) => t.held.getD i false)
def Tb.heldL (t : Tb) : List Int := t.upto t.n.toNat
theorem Tb.upto_succ (t : Tb) (j : Nat) : t.upto (j + 1) = t.upto j ++ (if t.held.getD j false then [(j : Int)] else []) := by
  unfold Tb.upto
  rw [List.range_succ, List.filter_append, List.map_append]
  congr 1
  have h : ∀ bb : Bool, List.map (fun (i : Nat) => Int.ofNat i) (match bb with | true => [j] | false => []) = if bb then [(j : Int)] else [] := by intro bb; cases bb <;> rfl
  exact h _
theorem Tb.upto_len (t : Tb) (j : Nat) : (t.upto j).length ≤ j := by
  unfold Tb.upto
  rw [List.length_map]
  exact Nat.le_trans (List.length_filter_le _ _) (by simp)

section
variable {m : Amb} {H : Hp} {K : Value → Hp → Prop}

theorem C74 {b : Nat} {t : Tb} (hT : cells H b = some t.cells) (h : K (I t.n) H) : CallsH Tryd.prog m 74 [.pointer (at0 b)] H K := by
  refine S74 ?_
  exact br_f (nn_r (ldI_r (x := t.n) hT rfl h))

theorem C45 {b : Nat} {t : Tb} (ho : t.ok) (hT : cells H b = some t.cells) (h : ∀ q c H', Ext H H' → Sl 1 H.size H' q t.heldL.length c (t.heldL.map I) → K (.slice q t.heldL.length c) H') : CallsH Tryd.prog m 45 [.pointer (at0 b)] H K := by
  have n1 := ho.n1
  have n64 := ho.n64
  refine S45 ?_
  refine C74 hT ⟨_, rfl, ?_⟩
  refine ⟨fun r l c i A => ∃ j : Nat, i = (j : Int) ∧ j ≤ t.n.toNat ∧ Ext H A ∧ l = (t.upto j).length ∧ Sl 1 H.size A r l c ((t.upto j).map I), fun _ _ _ i _ => (t.n - i).toNat, ⟨0, rfl, by omega, Ext.refl _, rfl, rfl, .inl ⟨rfl, rfl, rfl⟩⟩, ?_⟩
  rintro r l c _ A ll _ ⟨j, rfl, hj, hE, rfl, hS⟩ hl
  by_cases hlt : j < t.n.toNat
  · refine br_yes (by simp; omega) (nn_r ⟨⟨by omega, by omega⟩, ?_⟩)
    refine ldB_i (v := t.held.getD j false) (o := 65) (hE.cells hT) (by rw [Int.toNat_natCast]; exact Tb.get_held ho (by omega)) ?_
    have hdec : ((t.n - ((j : Int) + 1)).toNat).succ ≤ ll := by subst hl; show (t.n - ((j : Int) + 1)).toNat + 1 ≤ (t.n - (j : Int)).toNat; omega
    cases hh : t.held.getD j false with
    | true =>
      refine br_t (nw_r ?_)
      rintro _ H1 e1 rfl hz hc
      refine .inr ⟨_, rfl, rfl, _, hc, by simp, ?_⟩
      refine ap_sl (N := H.size) (by rw [zc3]; rfl) (hS.ext e1) (Nat.le_trans hE.size e1.size) (by rfl) (by intro v hv; simp at hv; subst hv; rfl) (by have := Tb.upto_len t j; omega) ?_ ?_
      · intro hlt2
        have hlen := Tb.upto_len t j
        have hnc : (t.upto j).length ≤ c := by
          rcases hS.2 with ⟨_, e2, _⟩ | ⟨_, rest, _, _, _, e4⟩
          · omega
          · have := hS.1; omega
        obtain rfl : c = (t.upto j).length := by omega
        simp only [Builtin.nextslicecap]
        split
        · omega
        · rw [if_pos (by omega)]; omega
      · intro q' c' H2 hb2 s2
        have hE2 : Ext H H2 := by
          have hs2 := hb2.size
          have hs1 := e1.size
          have hs0 := hE.size
          refine ⟨by omega, fun x hx => ?_⟩
          rw [hb2.same x (by omega) (by rintro ⟨h1, _⟩; omega), e1.same x (by omega)]
          exact hE.same x hx
        have hup : t.upto (j + 1) = t.upto j ++ [(j : Int)] := by rw [Tb.upto_succ, hh]; rfl
        refine ⟨⟨j + 1, wr_i64 (by omega) (by omega), by omega, hE2, by rw [hup]; simp, ?_⟩, ?_⟩
        · rw [hup, List.map_append]; exact s2
        · rw [wr_i64 (by omega) (by omega)]; exact hdec
    | false =>
      have hup : t.upto (j + 1) = t.upto j := by rw [Tb.upto_succ, hh]; simp
      refine br_f ⟨⟨j + 1, wr_i64 (by omega) (by omega), by omega, hE, by rw [hup], by rw [hup]; exact hS⟩, ?_⟩
      rw [wr_i64 (by omega) (by omega)]; exact hdec
  · have hjn : j = t.n.toNat := by omega
    subst hjn
    exact br_no (by simp; omega) (h r c A hE hS)

theorem C73 {N : Nat} {q : Option Addr} {n c : Nat} {l : List Int} {x : Int} (hs : Sl 1 N H q n c (l.map I)) (hn : n ≤ 2 ^ 40) (h : ∀ i : Int, (0 ≤ i ↔ x ∈ l) → K (I i) H) : CallsH Tryd.prog m 73 [.slice q n c, I x] H K := by
  have hl : l.length = n := by simpa using hs.1
  refine S73 ?_
  refine ⟨fun i A => ∃ j : Nat, i = (j : Int) ∧ j ≤ n ∧ A = H ∧ x ∉ l.take j, fun i _ => (n - i).toNat, ⟨0, rfl, by omega, rfl, by simp⟩, ?_⟩
  rintro _ A ll _ ⟨j, rfl, hj, rfl, hnot⟩ hll
  by_cases hlt : j < n
  · refine br_yes (by simp; omega) ?_
    rcases hs.2 with ⟨_, e2, _⟩ | ⟨b, rest, e1, e2, e3, e4⟩
    · omega
    · refine ⟨_, e1, ⟨by omega, by omega⟩, ldI_i (v := l[j]) e3 ?_ ?_⟩
      · rw [List.getElem?_append_left (by simp; omega), List.getElem?_map, Int.toNat_natCast, List.getElem?_eq_getElem (show j < l.length by omega)]; rfl
      · by_cases hx : x = l[j]
        · refine br_yes (by simp [hx]) (h j ⟨fun _ => ?_, fun _ => by omega⟩)
          rw [hx]; exact List.getElem_mem _
        · refine br_no (by simp [hx]) ⟨⟨j + 1, wr_i64 (by omega) (by omega), by omega, rfl, ?_⟩, ?_⟩
          · rw [List.take_succ_eq_append_getElem (show j < l.length by omega)]
            rw [List.mem_append]
            rintro (h1 | h1)
            · exact hnot h1
            · exact hx (by simpa using h1)
          · rw [wr_i64 (by omega) (by omega)]; subst hll
            show ((n : Int) - ((j : Int) + 1)).toNat + 1 ≤ ((n : Int) - (j : Int)).toNat
            omega
  · have : j = n := by omega
    subst this
    refine br_no (by simp) (h (-1) ⟨fun h => by omega, fun hm => ?_⟩)
    rw [← hl, List.take_length] at hnot
    exact absurd hm hnot

theorem C44 {N : Nat} {q : Option Addr} {n c : Nat} {l : List Int} {x : Int} (hs : Sl 1 N H q n c (l.map I)) (hn : n ≤ 2 ^ 40) (h : K (B (decide (x ∈ l))) H) : CallsH Tryd.prog m 44 [.slice q n c, I x] H K := by
  refine S44 ?_
  refine C73 hs hn ?_
  intro i hi
  refine ⟨i, rfl, ?_⟩
  rw [show decide (i ≥ 0) = decide (x ∈ l) by simp [hi]]
  exact h

/-- A handle. -/
def Tb.slotOf (t : Tb) (h : Int) : Option Nat := if h % 64 < t.n ∧ t.held.getD (h % 64).toNat false = true ∧ t.gens.getD (h % 64).toNat 0 * 64 + h % 64 = h then some (h % 64).toNat else none

theorem C50 {b : Nat} {t : Tb} {hd : Int} (ho : t.ok) (hT : cells H b = some t.cells) (h : K (match t.slotOf hd with | some i => .tuple #[I i, .bool true] | none => .tuple #[I 0, .bool false]) H) : CallsH Tryd.prog m 50 [.pointer (at0 b), I hd] H K := by
  have n1 := ho.n1
  have n64 := ho.n64
  refine S50 ?_
  refine C74 hT ⟨_, rfl, ?_⟩
  rw [and_63]
  unfold Tb.slotOf at h
  have hm : 0 ≤ hd % 64 ∧ hd % 64 < 64 := by omega
  by_cases h1 : hd % 64 < t.n
  · refine br_no (by simp; omega) (nn_r ⟨⟨by omega, by omega⟩, ?_⟩)
    refine ldB_i (v := t.held.getD (hd % 64).toNat false) (o := 65) hT (Tb.get_held ho (by omega)) ?_
    cases h2 : t.held.getD (hd % 64).toNat false with
    | true =>
      refine br_f (nn_r ⟨⟨by omega, by omega⟩, ?_⟩)
      refine ldI_o (v := t.gens.getD (hd % 64).toNat 0) (o := 1) hT (Tb.get_gen ho (by omega)) ?_
      have hg := ho.gw (hd % 64).toNat
      have e1 : wr .i64 (t.gens.getD (hd % 64).toNat 0 * 64) = t.gens.getD (hd % 64).toNat 0 * 64 := wr_i64 (by omega) (by omega)
      have e2 : wr .i64 (t.gens.getD (hd % 64).toNat 0 * 64 + hd % 64) = t.gens.getD (hd % 64).toNat 0 * 64 + hd % 64 := wr_i64 (by omega) (by omega)
      rw [e1, e2]
      by_cases h3 : t.gens.getD (hd % 64).toNat 0 * 64 + hd % 64 = hd
      · rw [if_pos ⟨h1, h2, h3⟩] at h
        refine br_no (by simp only [h3, bne_self_eq_false]) ?_
        have e3 : (((hd % 64).toNat : Nat) : Int) = hd % 64 := by omega
        simp only [e3] at h
        exact h
      · rw [if_neg (fun hh => h3 hh.2.2)] at h
        exact br_yes (by simpa using h3) h
    | false =>
      rw [if_neg (fun hh => by rw [h2] at hh; exact absurd hh.2.1 (by simp))] at h
      exact br_t h
  · rw [if_neg (fun hh => h1 hh.1)] at h
    exact br_yes (by simp; omega) h

theorem C53 {b : Nat} {t : Tb} {hd : Int} (ho : t.ok) (hT : cells H b = some t.cells)
    (hno : t.slotOf hd = none → K (I 7) H)
    (hyes : ∀ i, t.slotOf hd = some i → ∀ H', But (fun x => x = b) H H' → H'.size = H.size → cells H' b = some { t with held := t.held.set i false }.cells → K (I 0) H') : CallsH Tryd.prog m 53 [.pointer (at0 b), I hd] H K := by
  refine S53 ?_
  refine br_f (C50 ho hT ?_)
  cases hs : t.slotOf hd with
  | none => exact ⟨0, false, rfl, br_t (hno hs)⟩
  | some i =>
    have hi : i < 64 := by
      unfold Tb.slotOf at hs
      split at hs
      · cases hs; omega
      · cases hs
    refine ⟨i, true, rfl, br_f (nn_r ⟨⟨by omega, by omega⟩, ?_⟩)⟩
    refine st_o (o := 65) hT rfl (by rw [Tb.cells_len ho]; omega) ?_
    intro H' hb hz hc
    rw [Int.toNat_natCast, Tb.set_held ho hi] at hc
    exact hyes i hs H' hb hz hc

theorem C75 {b : Nat} {t : Tb} {i : Nat} (ho : t.ok) (hT : cells H b = some t.cells) (hi : (i : Int) < t.n) (hh : t.held.getD i false = false)
    (h : ∀ H', But (fun x => x = b) H H' → H'.size = H.size → cells H' b = some { t with gens := t.gens.set i ((t.gens.getD i 0 + 1) % 65536), held := t.held.set i true }.cells → K (.tuple #[I ((t.gens.getD i 0 + 1) % 65536 * 64 + i), .bool true]) H') : CallsH Tryd.prog m 75 [.pointer (at0 b), I i] H K := by
  have n1 := ho.n1
  have n64 := ho.n64
  refine S75 ?_
  refine br_no (by simp) (C74 hT ⟨_, rfl, br_no (by simp; omega) (nn_r ⟨⟨by omega, by omega⟩, ?_⟩)⟩)
  refine ldB_i (v := t.held.getD i false) (o := 65) hT (by rw [Int.toNat_natCast]; exact Tb.get_held ho (by omega)) ?_
  rw [hh]
  refine br_f (nn_r ⟨⟨by omega, by omega⟩, ?_⟩)
  refine ldI_o (v := t.gens.getD i 0) (o := 1) hT (by rw [Int.toNat_natCast]; exact Tb.get_gen ho (by omega)) ?_
  refine nn_r (nn_r (C70 ⟨_, rfl, ⟨⟨by omega, by omega⟩, ?_⟩⟩))
  refine st_o (o := 1) hT rfl (by rw [Tb.cells_len ho]; omega) ?_
  intro H1 b1 z1 c1
  rw [Int.toNat_natCast, Tb.set_gen ho (by omega)] at c1
  have ho1 : ({ t with gens := t.gens.set i ((t.gens.getD i 0 + 1) % 65536) } : Tb).ok := by
    refine ⟨ho.n1, ho.n64, by simp [ho.gl], ho.hl, fun j => ?_⟩
    show 0 ≤ (t.gens.set i _).getD j 0 ∧ (t.gens.set i _).getD j 0 < 65536
    simp only [List.getD_eq_getElem?_getD, List.getElem?_set]
    have hj := ho.gw j
    simp only [List.getD_eq_getElem?_getD] at hj
    split
    · split
      · simp only [Option.getD_some]; omega
      · simp
    · exact hj
  refine ⟨⟨by omega, by omega⟩, ?_⟩
  refine st_o (o := 65) c1 rfl (by rw [Tb.cells_len ho1]; omega) ?_
  intro H2 b2 z2 c2
  rw [Int.toNat_natCast, Tb.set_held ho1 (by omega)] at c2
  refine nn_r ⟨⟨by omega, by omega⟩, ?_⟩
  have ho2 : ({ t with gens := t.gens.set i ((t.gens.getD i 0 + 1) % 65536), held := t.held.set i true } : Tb).ok := ⟨ho1.n1, ho1.n64, ho1.gl, by simp [ho.hl], ho1.gw⟩
  refine ldI_o (v := (t.gens.getD i 0 + 1) % 65536) (o := 1) c2 (by
    rw [Int.toNat_natCast, Tb.get_gen ho2 (by omega)]
    simp [List.getD_eq_getElem?_getD, List.getElem?_set, ho.gl, show i < 64 by omega]) ?_
  have e1 : wr .i64 ((t.gens.getD i 0 + 1) % 65536 * 64) = (t.gens.getD i 0 + 1) % 65536 * 64 := wr_i64 (by omega) (by omega)
  have e2 : wr .i64 ((t.gens.getD i 0 + 1) % 65536 * 64 + i) = (t.gens.getD i 0 + 1) % 65536 * 64 + i := wr_i64 (by omega) (by omega)
  rw [e1, e2]
  exact h H2 (b1.trans b2) (by omega) c2
end
end Go.Proofs.YtdipbhbhakmaiaaDoor

/-
  BLOCKS WITH NAMES: each block of the heap bears a tag; what is said of the blocks of one tag stands while blocks of other tags are written. Nothing of the program stands here.
-/
import Derived.Test.YtoddfageecbkcaaGreatH
namespace Go.Eng
open Go
set_option linter.unusedVariables false

abbrev Tg := Nat × Nat × Nat × Nat
abbrev Ow := Nat → Tg

/-- From (ow, H) on, blocks of the tags of 'T' may have been written, and new ones made; the others are as they were. -/
structure Upd (T : Tg → Prop) (ow : Ow) (H : Hp) (ow' : Ow) (H' : Hp) : Prop where
  size : H.size ≤ H'.size
  own : ∀ b, b < H.size → ow' b = ow b
  same : ∀ b, b < H.size → ¬ T (ow b) → H'[b]? = H[b]?

abbrev Tno : Tg → Prop := fun _ => False

theorem Upd.refl (T : Tg → Prop) (ow : Ow) (H : Hp) : Upd T ow H ow H := ⟨Nat.le_refl _, fun _ _ => rfl, fun _ _ _ => rfl⟩
theorem Upd.trans {T : Tg → Prop} {o1 o2 o3 : Ow} {A B C : Hp} (h : Upd T o1 A o2 B) (k : Upd T o2 B o3 C) : Upd T o1 A o3 C :=
  ⟨Nat.le_trans h.size k.size, fun b hb => (k.own b (Nat.lt_of_lt_of_le hb h.size)).trans (h.own b hb),
   fun b hb hn => (k.same b (Nat.lt_of_lt_of_le hb h.size) (by rw [h.own b hb]; exact hn)).trans (h.same b hb hn)⟩
theorem Upd.mono {T T' : Tg → Prop} {o1 o2 : Ow} {A B : Hp} (h : Upd T o1 A o2 B) (ht : ∀ τ, T τ → T' τ) : Upd T' o1 A o2 B :=
  ⟨h.size, h.own, fun b hb hn => h.same b hb fun hh => hn (ht _ hh)⟩
/-- Behind 'h' a step that may write what is named in 'T2'. -/
theorem Upd.then {T T2 : Tg → Prop} {o1 o2 o3 : Ow} {A B C : Hp} (h : Upd T o1 A o2 B) (k : Upd T2 o2 B o3 C) (ht : ∀ τ, T2 τ → T τ) : Upd T o1 A o3 C := h.trans (k.mono ht)
theorem Upd.cells {T : Tg → Prop} {o1 o2 : Ow} {A B : Hp} (h : Upd T o1 A o2 B) {b : Nat} {cs : List Value} (hn : ¬ T (o1 b)) (hc : Go.Eng.cells A b = some cs) : Go.Eng.cells B b = some cs := by
  rw [cells_congr (h.same b (cells_lt hc) hn), hc]

/-- A block of a tag, and its cells. -/
def Has (ow : Ow) (H : Hp) (τ : Tg) (b : Nat) (cs : List Value) : Prop := ow b = τ ∧ cells H b = some cs

theorem Has.lt {ow : Ow} {H : Hp} {τ : Tg} {b : Nat} {cs : List Value} (h : Has ow H τ b cs) : b < H.size := cells_lt h.2
theorem Has.upd {T : Tg → Prop} {ow ow' : Ow} {H H' : Hp} {τ : Tg} {b : Nat} {cs : List Value} (h : Has ow H τ b cs) (u : Upd T ow H ow' H') (hn : ¬ T τ) : Has ow' H' τ b cs :=
  ⟨(u.own b h.lt).trans h.1, u.cells (by rw [h.1]; exact hn) h.2⟩

/-- One block was written. -/
structure Set1 (b : Nat) (H H' : Hp) : Prop where
  size : H'.size = H.size
  same : ∀ b', b' ≠ b → H'[b']? = H[b']?

theorem Set1.of {b : Nat} {H : Hp} {ds : List Value} : Set1 b H (setBlk H b ds) := ⟨size_setBlk, fun _ h => setBlk_get_ne (fun e => h e.symm)⟩

theorem Upd.set {T : Tg → Prop} {ow ow1 : Ow} {A B C : Hp} {b : Nat} (u : Upd T ow A ow1 B) (s : Set1 b B C) (hb : T (ow1 b) ∨ A.size ≤ b) : Upd T ow A ow1 C := by
  refine ⟨by rw [s.size]; exact u.size, u.own, fun c hc hn => ?_⟩
  rw [s.same c ?_]
  · exact u.same c hc hn
  · rintro rfl
    rcases hb with hb | hb
    · rw [u.own c hc] at hb; exact hn hb
    · omega
theorem Set1.upd {ow : Ow} {B C : Hp} {b : Nat} {τ : Tg} (s : Set1 b B C) (h : ow b = τ) : Upd (· = τ) ow B ow C := (Upd.refl _ _ _).set s (.inl h)
theorem Has.set {ow : Ow} {H H' : Hp} {τ : Tg} {b b' : Nat} {cs : List Value} (h : Has ow H τ b cs) (s : Set1 b' H H') (hn : b ≠ b') : Has ow H' τ b cs :=
  ⟨h.1, by rw [cells_congr (s.same b hn)]; exact h.2⟩
theorem Has.set' {ow : Ow} {H H' : Hp} {τ : Tg} {b b' : Nat} {cs : List Value} (h : Has ow H τ b cs) (s : Set1 b' H H') (hn : ow b' ≠ τ) : Has ow H' τ b cs :=
  h.set s (by rintro rfl; exact hn h.1)

def tag1 (ow : Ow) (b : Nat) (τ : Tg) : Ow := fun x => if x = b then τ else ow x
theorem tag1_same (ow : Ow) (b : Nat) (τ : Tg) : tag1 ow b τ b = τ := by simp [tag1]
theorem tag1_ne (ow : Ow) {b x : Nat} (τ : Tg) (h : x ≠ b) : tag1 ow b τ x = ow x := by simp [tag1, h]

theorem Upd.push (ow : Ow) (H : Hp) (o : Obj) (τ : Tg) : Upd Tno ow H (tag1 ow H.size τ) (H.push o) :=
  ⟨by simp, fun b hb => tag1_ne _ _ (by omega), fun b hb _ => push_get hb⟩
theorem Upd.ofExt {ow : Ow} {H H' : Hp} (e : Ext H H') : Upd Tno ow H ow H' := ⟨e.size, fun _ _ => rfl, fun b hb _ => e.same b hb⟩

/-- A new block, of a tag that is chosen here. -/
theorem nw_t (τ : Tg) {ow : Ow} {H : Hp} {cs : List Value} {t : TypeId} {k : Addr → Hp → Prop} (h : ∀ ow' H' b, Upd Tno ow H ow' H' → b = H.size → Has ow' H' τ b cs → k ⟨b, 0, none⟩ H') : nw H cs t k :=
  h _ _ _ (Upd.push ow H _ τ) rfl ⟨tag1_same _ _ _, by rw [cells_push_new]⟩

theorem st_t {ow : Ow} {τ : Tg} {H : Hp} {b o : Nat} {cs : List Value} {v : Value} {k : Hp → Prop} (h : Has ow H τ b cs) (h1 : v.oneCell' = true) (ho : o < cs.length) (hk : ∀ H', Set1 b H H' → Has ow H' τ b (cs.set o v) → k H') : st H ⟨b, o, none⟩ v k :=
  st_r h.2 h1 ho (hk _ Set1.of ⟨h.1, cells_set h.2⟩)

theorem Set1.trans {b : Nat} {A B C : Hp} (h : Set1 b A B) (k : Set1 b B C) : Set1 b A C := ⟨k.size.trans h.size, fun x hx => (k.same x hx).trans (h.same x hx)⟩

/-- Stores of one block, one after another. -/
def stsP (b : Nat) : List Value → Nat → Hp → (Hp → Prop) → Prop
  | [], _, H, k => k H
  | v :: r, o, H, k => st H ⟨b, o, none⟩ v fun H' => stsP b r (o + 1) H' k

theorem st_seq {ow : Ow} {τ : Tg} {b : Nat} : ∀ (vs : List Value) {o : Nat} {cs : List Value} {H H0 : Hp} {k : Hp → Prop}, Has ow H τ b cs → Set1 b H0 H → o + vs.length = cs.length → (∀ v ∈ vs, v.oneCell' = true) →
    (∀ H', Set1 b H0 H' → Has ow H' τ b (cs.take o ++ vs) → k H') → stsP b vs o H k
  | [], o, cs, H, H0, k, h, s, hl, _, hk => by
    refine hk H s ?_
    rw [List.append_nil, List.take_of_length_le (by simp at hl; omega)]; exact h
  | v :: r, o, cs, H, H0, k, h, s, hl, h1, hk => by
    simp only [List.length_cons] at hl
    refine st_t h (h1 v List.mem_cons_self) (by omega) fun H' s' h' => ?_
    refine st_seq r h' (s.trans s') (by simp; omega) (fun x hx => h1 x (List.mem_cons_of_mem _ hx)) fun H'' s'' h'' => hk H'' s'' ?_
    have e : (cs.set o v).take (o + 1) ++ r = cs.take o ++ v :: r := by
      rw [List.take_succ_eq_append_getElem (by simp; omega), List.getElem_set_self, List.take_set_of_le (by omega)]
      simp
    rw [e] at h''; exact h''

/-- A slice whose block bears a tag, and what its places read as. -/
def SlT (esz : Nat) (ow : Ow) (H : Hp) (τ : Tg) (q : Option Addr) (n c : Nat) (vs : List Value) : Prop :=
  vs.length = n * esz ∧ n ≤ c ∧ ((q = none ∧ n = 0 ∧ c = 0) ∨ ∃ b pre rest post, q = some ⟨b, List.length pre, none⟩ ∧ Has ow H τ b (pre ++ (vs ++ (rest ++ post))) ∧ vs.length + rest.length = c * esz)

section
variable {esz : Nat} {ow : Ow} {H : Hp} {τ : Tg} {q : Option Addr} {n c : Nat} {vs : List Value}

theorem SlT.upd {T : Tg → Prop} {ow' : Ow} {H' : Hp} (h : SlT esz ow H τ q n c vs) (u : Upd T ow H ow' H') (hn : ¬ T τ) : SlT esz ow' H' τ q n c vs := by
  obtain ⟨h1, h2, h3⟩ := h
  refine ⟨h1, h2, ?_⟩
  rcases h3 with h3 | ⟨b, pre, rest, post, e1, e2, e3⟩
  · exact .inl h3
  · exact .inr ⟨b, pre, rest, post, e1, e2.upd u hn, e3⟩
theorem SlT.set1 {H' : Hp} {b' : Nat} (h : SlT esz ow H τ q n c vs) (s : Set1 b' H H') (hn : ow b' ≠ τ) : SlT esz ow H' τ q n c vs := by
  obtain ⟨h1, h2, h3⟩ := h
  refine ⟨h1, h2, ?_⟩
  rcases h3 with h3 | ⟨b, pre, rest, post, e1, e2, e3⟩
  · exact .inl h3
  · exact .inr ⟨b, pre, rest, post, e1, e2.set' s hn, e3⟩
theorem SlT.nil : SlT esz ow H τ none 0 0 [] := ⟨by simp, Nat.le_refl _, .inl ⟨rfl, rfl, rfl⟩⟩
theorem SlT.len (h : SlT esz ow H τ q n c vs) : vs.length = n * esz := h.1
theorem SlT.len1 {ow : Ow} (h : SlT 1 ow H τ q n c vs) : vs.length = n := by have := h.1; omega
theorem SlT.none_nil (h : SlT esz ow H τ none n c vs) : n = 0 ∧ c = 0 ∧ vs = [] := by
  obtain ⟨h1, h2, h3⟩ := h
  rcases h3 with ⟨_, rfl, rfl⟩ | ⟨b, pre, rest, post, e1, _⟩
  · exact ⟨rfl, rfl, List.length_eq_zero_iff.1 (by omega)⟩
  · cases e1

theorem rd_t {k : List Value → Prop} (h : SlT esz ow H τ q n c vs) (hk : k vs) : rd H q (n * esz) k := by
  obtain ⟨h1, h2, h3⟩ := h
  rcases h3 with ⟨rfl, rfl, rfl⟩ | ⟨b, pre, rest, post, rfl, e2, e3⟩
  · left
    have : vs = [] := List.length_eq_zero_iff.1 (by omega)
    subst this; exact ⟨by simp, hk⟩
  · right; refine ⟨_, rfl, rfl, _, rcells_of e2.2, by simp; omega, ?_⟩
    show k ((List.drop pre.length (pre ++ (vs ++ (rest ++ post)))).take (n * esz))
    rw [List.drop_left, ← h1, List.take_left]; exact hk

/-- A part of a slice is read. -/
theorem rd_take {k : List Value → Prop} {j : Nat} (h : SlT esz ow H τ q n c vs) (hj : j ≤ n * esz) (hk : k (vs.take j)) : rd H q j k := by
  obtain ⟨h1, h2, h3⟩ := h
  rcases h3 with ⟨rfl, rfl, rfl⟩ | ⟨b, pre, rest, post, rfl, e2, e3⟩
  · left
    have : j = 0 := by omega
    subst this; exact ⟨rfl, by simpa using hk⟩
  · right; refine ⟨_, rfl, rfl, _, rcells_of e2.2, by simp; omega, ?_⟩
    show k ((List.drop pre.length (pre ++ (vs ++ (rest ++ post)))).take j)
    rw [List.drop_left, List.take_append_of_le_length (by omega)]; exact hk

/-- A place of a slice. -/
theorem SlT.place (h : SlT esz ow H τ q n c vs) (hp : 0 < vs.length) : ∃ b o cs, q = some ⟨b, o, none⟩ ∧ Has ow H τ b cs ∧ (∀ j, j < vs.length → cs[o + j]? = vs[j]?) ∧ o + vs.length ≤ cs.length ∧
    (∀ j v H', j < vs.length → Has ow H' τ b (cs.set (o + j) v) → SlT esz ow H' τ q n c (vs.set j v)) := by
  obtain ⟨h1, h2, h3⟩ := h
  rcases h3 with ⟨rfl, rfl, rfl⟩ | ⟨b, pre, rest, post, rfl, e2, e3⟩
  · omega
  · refine ⟨b, pre.length, _, rfl, e2, fun j hj => ?_, by simp, fun j v H' hj h' => ?_⟩
    · rw [List.getElem?_append_right (by omega), Nat.add_sub_cancel_left, List.getElem?_append_left hj]
    · refine ⟨by simp [h1], h2, .inr ⟨b, pre, rest, post, rfl, ?_, by simp [e3]⟩⟩
      rw [List.set_append_right _ _ (by omega), Nat.add_sub_cancel_left, List.set_append_left _ _ hj] at h'
      exact h'
end

theorem cpy_t {esz : Nat} {ow : Ow} {H : Hp} {τ τ' : Tg} {q q' : Option Addr} {n c n' c' : Nat} {vs vs' : List Value} {k : Int → Hp → Prop}
    (h : SlT esz ow H τ q n c vs) (h' : SlT esz ow H τ' q' n' c' vs') (h1 : oneCells vs')
    (hk : ∀ H', ((∃ b o, q = some ⟨b, o, none⟩ ∧ ow b = τ ∧ Set1 b H H') ∨ H' = H) → SlT esz ow H' τ q n c (vs'.take (Nat.min n' n * esz) ++ vs.drop (Nat.min n' n * esz)) → k (Nat.min n' n) H') : cpy esz H q n q' n' k := by
  have hm1 : Nat.min n' n * esz ≤ n' * esz := Nat.mul_le_mul_right _ (Nat.min_le_left _ _)
  have hm2 : Nat.min n' n * esz ≤ n * esz := Nat.mul_le_mul_right _ (Nat.min_le_right _ _)
  refine rd_take h' hm1 ?_
  by_cases hz : Nat.min n' n * esz = 0
  · left
    refine ⟨by rw [hz]; rfl, hk H (.inr rfl) ?_⟩
    rw [hz]; exact h
  · obtain ⟨g1, g2, g3⟩ := h
    rcases g3 with ⟨rfl, rfl, rfl⟩ | ⟨b, pre, rest, post, rfl, e2, e3⟩
    · omega
    · right
      have hl : (vs'.take (Nat.min n' n * esz)).length = Nat.min n' n * esz := by rw [List.length_take, h'.1]; omega
      refine ⟨_, rfl, rfl, fun v hv => h1 v (List.mem_of_mem_take hv), _, e2.2, by rw [hl]; simp; omega, hk _ (.inl ⟨b, _, rfl, e2.1, Set1.of⟩) ?_⟩
      have hl2 : (vs'.take (Nat.min n' n * esz) ++ vs.drop (Nat.min n' n * esz)).length = n * esz := by
        rw [List.length_append, hl, List.length_drop]; omega
      refine ⟨hl2, g2, .inr ⟨b, pre, rest, post, rfl, ⟨e2.1, ?_⟩, by rw [hl2, ← e3, g1]⟩⟩
      rw [cells_set e2.2]
      show some (over _ (pre.length + 0) _) = _
      unfold over
      rw [hl, Nat.add_zero, List.take_left, List.append_assoc]
      congr 2
      rw [← List.drop_drop, List.drop_left, List.append_assoc, List.drop_append_of_le_length (by omega)]

/-- What is joined on. -/
theorem ap_t {P : Program} {e esz bytes : Nat} {ow : Ow} {H : Hp} {τ : Tg} {q : Option Addr} {n c : Nat} {vs new : List Value} {len : Nat} {k : Option Addr → Nat → Nat → Hp → Prop}
    (hz : (zc P e).length = esz) (h : SlT esz ow H τ q n c vs) (hnew : new.length = len * esz) (h1 : oneCells new) (h62 : n + len < 2 ^ 62) (hb : c < n + len → Builtin.nextslicecap (n + len) c * bytes ≤ 2 ^ 48)
    (hk : ∀ ow' q' c' H', Upd (· = τ) ow H ow' H' → (∀ x, x < H.size → (∀ o, q ≠ some ⟨x, o, none⟩) → H'[x]? = H[x]?) → (∀ x o, q' = some ⟨x, o, none⟩ → q = some ⟨x, o, none⟩ ∨ x = H.size) → SlT esz ow' H' τ q' (n + len) c' (vs ++ new) → k q' (n + len) c' H') : ap P e esz bytes H q n c new len k := by
  refine ⟨fun hle => ?_, fun hlt => ⟨h62, hb hlt, rd_t h fun c' hc1 hc2 => ?_⟩⟩
  · by_cases hnil : new = []
    · left; refine ⟨hnil, ?_⟩
      have hl0 : len * esz = 0 := by rw [← hnew, hnil]; rfl
      subst hnil
      refine hk ow _ _ _ (Upd.refl _ _ _) (fun _ _ _ => rfl) (fun _ _ h => .inl h) ?_
      obtain ⟨g1, g2, g3⟩ := h
      refine ⟨by rw [List.append_nil, g1, Nat.add_mul, hl0, Nat.add_zero], hle, ?_⟩
      rcases g3 with ⟨e1, e2, e3⟩ | ⟨b, pre, rest, post, e1, e2, e3⟩
      · exact .inl ⟨e1, by omega, e3⟩
      · exact .inr ⟨b, pre, rest, post, e1, by rw [List.append_nil]; exact e2, by rw [List.append_nil]; exact e3⟩
    · right
      obtain ⟨g1, g2, g3⟩ := h
      rcases g3 with ⟨rfl, rfl, rfl⟩ | ⟨b, pre, rest, post, rfl, e2, e3⟩
      · exfalso; apply hnil; rw [← List.length_eq_zero_iff, hnew]; have : len = 0 := by omega
        rw [this, Nat.zero_mul]
      · have hsz : vs.length + new.length ≤ vs.length + rest.length := by
          rw [e3, g1, hnew, ← Nat.add_mul]; exact Nat.mul_le_mul_right _ hle
        refine ⟨_, rfl, rfl, h1, _, e2.2, ?_, ?_⟩
        · show pre.length + n * esz + new.length ≤ _
          rw [← g1]; simp; omega
        · refine hk ow _ _ _ (Set1.upd Set1.of e2.1) (fun x _ hx => Set1.of.same x (by rintro rfl; exact hx _ rfl)) (fun _ _ h => .inl h) ?_
          refine ⟨by rw [List.length_append, g1, hnew, Nat.add_mul], hle, .inr ⟨b, pre, rest.drop new.length, post, rfl, ⟨e2.1, ?_⟩, ?_⟩⟩
          · rw [cells_set e2.2]
            show some (over _ (pre.length + n * esz) new) = _
            unfold over
            have e4 : (pre ++ (vs ++ (rest ++ post))).take (pre.length + n * esz) = pre ++ vs := by
              rw [← g1, ← List.append_assoc, ← List.length_append, List.take_left]
            have e5 : (pre ++ (vs ++ (rest ++ post))).drop (pre.length + n * esz + new.length) = rest.drop new.length ++ post := by
              rw [← g1, ← List.append_assoc, ← List.length_append, ← List.drop_drop, List.drop_left, List.drop_append_of_le_length (by omega)]
            rw [e4, e5]; simp
          · rw [List.length_append, List.length_drop]; omega
  · refine hk _ _ _ _ ((Upd.push ow H _ τ).mono fun _ h => h.elim) (fun x hx _ => push_get hx) (fun x o h => by cases h; exact .inr rfl) ?_
    refine ⟨by rw [List.length_append, h.1, hnew, Nat.add_mul], hc1, .inr ⟨_, [], (Builtin.zeroCells (zc P e).toArray (c' - (n + len))).toList, [], rfl, ⟨tag1_same _ _ _, ?_⟩, ?_⟩⟩
    · rw [cells_push_new]; simp
    · have hzs : (Builtin.zeroCells (zc P e).toArray (c' - (n + len))).size = (c' - (n + len)) * esz := by simp [Builtin.zeroCells, hz]
      rw [List.length_append, h.1, hnew, Array.length_toList, hzs, ← Nat.add_mul, ← Nat.add_mul]
      congr 1; omega

/-- No block of a slice is older. -/
def Fresh (N : Nat) (q : Option Addr) : Prop := ∀ x o, q = some ⟨x, o, none⟩ → N ≤ x
theorem Fresh.none {N : Nat} : Fresh N none := fun _ _ h => by cases h

/-- What is joined on to a slice that was made since. -/
theorem ap_f {P : Program} {T : Tg → Prop} {e esz bytes : Nat} {ow0 ow : Ow} {H0 H : Hp} {τ : Tg} {q : Option Addr} {n c : Nat} {vs new : List Value} {len : Nat} {k : Option Addr → Nat → Nat → Hp → Prop}
    (u : Upd T ow0 H0 ow H) (hf : Fresh H0.size q) (hz : (zc P e).length = esz) (h : SlT esz ow H τ q n c vs) (hnew : new.length = len * esz) (h1 : oneCells new) (h62 : n + len < 2 ^ 62) (hb : c < n + len → Builtin.nextslicecap (n + len) c * bytes ≤ 2 ^ 48)
    (hk : ∀ ow' q' c' H', Upd T ow0 H0 ow' H' → Upd (· = τ) ow H ow' H' → Fresh H0.size q' → SlT esz ow' H' τ q' (n + len) c' (vs ++ new) → k q' (n + len) c' H') : ap P e esz bytes H q n c new len k := by
  refine ap_t hz h hnew h1 h62 hb ?_
  intro ow' q' c' H' u' g1 g2 s
  refine hk ow' q' c' H' ?_ u' ?_ s
  · refine ⟨Nat.le_trans u.size u'.size, fun x hx => (u'.own x (Nat.lt_of_lt_of_le hx u.size)).trans (u.own x hx), fun x hx hn => ?_⟩
    rw [g1 x (Nat.lt_of_lt_of_le hx u.size) (fun o ho => by have := hf x o ho; omega)]
    exact u.same x hx hn
  · intro x o ho
    rcases g2 x o ho with h | h
    · exact hf x o h
    · have := u.size; omega

/-- A slice is made whole. -/
theorem mkS_t {P : Program} (τ : Tg) {e esz bytes : Nat} {ow : Ow} {H : Hp} {l c : Int} {z : Value} {k : Option Addr → Nat → Nat → Hp → Prop} (hz : zc P e = [z]) (he : esz = 1)
    (h : 0 ≤ l ∧ l ≤ c ∧ c ≤ 2 ^ 48 ∧ bytes * c ≤ 2 ^ 48) (hk : ∀ ow' H' q, Upd Tno ow H ow' H' → q = some ⟨H.size, 0, none⟩ → SlT 1 ow' H' τ q l.toNat c.toNat (List.replicate l.toNat z) → k q l.toNat c.toNat H') : mkS P e esz bytes H l c k := by
  refine ⟨h, hk _ _ _ (Upd.push ow H _ τ) rfl ?_⟩
  refine ⟨by simp, by omega, .inr ⟨_, [], List.replicate (c.toNat - l.toNat) z, [], rfl, ⟨tag1_same _ _ _, ?_⟩, by simp; omega⟩⟩
  rw [cells_push_new, hz, he]
  simp only [List.nil_append, List.append_nil, List.replicate_append_replicate]
  congr 1
  rw [show l.toNat + (c.toNat - l.toNat) = c.toNat by omega]
  apply List.ext_getElem
  · simp
  · intro i h1 h2
    simp [Nat.mod_one]

/-- A part of a slice, from a place on, to its end, with no more room than that. -/
theorem SlT.tail {esz : Nat} {ow : Ow} {H : Hp} {τ : Tg} {q : Option Addr} {n c : Nat} {v : Value} {vs : List Value} (h : SlT 1 ow H τ q n c (v :: vs)) :
    SlT 1 ow H τ (if n = 1 then q else q.map (·.add (1 * 1))) (n - 1) (n - 1) vs := by
  obtain ⟨g1, g2, g3⟩ := h
  have hn : n = vs.length + 1 := by simp at g1; omega
  refine ⟨by omega, Nat.le_refl _, ?_⟩
  rcases g3 with ⟨rfl, rfl, rfl⟩ | ⟨b, pre, rest, post, rfl, e2, e3⟩
  · omega
  · right
    by_cases h1 : n = 1
    · have : vs = [] := List.length_eq_zero_iff.1 (by omega)
      subst this
      refine ⟨b, pre, [], v :: (rest ++ post), by rw [if_pos h1], by simpa using e2, by simp; omega⟩
    · refine ⟨b, pre ++ [v], [], rest ++ post, ?_, by simpa using e2, by simp; omega⟩
      rw [if_neg h1]
      show some ((⟨b, pre.length, none⟩ : Addr).add 1) = _
      rw [add_mk]; simp

/-- A slice of an argument: it is only read (some other part of its block may be frozen). -/
def SlR (ow : Ow) (H : Hp) (τ : Tg) (q : Option Addr) (vs : List Value) : Prop :=
  vs = [] ∨ ∃ b o cs, q = some ⟨b, o, none⟩ ∧ ow b = τ ∧ rcells H b = some cs ∧ ∀ j, j < vs.length → cs[o + j]? = vs[j]?
theorem SlR.upd {T : Tg → Prop} {ow ow' : Ow} {H H' : Hp} {τ : Tg} {q : Option Addr} {vs : List Value} (h : SlR ow H τ q vs) (u : Upd T ow H ow' H') (hn : ¬ T τ) : SlR ow' H' τ q vs := by
  rcases h with h | ⟨b, o, cs, e1, e2, e3, e4⟩
  · exact .inl h
  · obtain ⟨c, t, f, hb, rfl⟩ := rcells_imp e3
    have hlt : b < H.size := (Array.getElem?_eq_some_iff.1 hb).1
    refine .inr ⟨b, o, _, e1, (u.own b hlt).trans e2, ?_, e4⟩
    have e5 := u.same b hlt (by rw [e2]; exact hn)
    unfold rcells; rw [e5, hb]
end Go.Eng

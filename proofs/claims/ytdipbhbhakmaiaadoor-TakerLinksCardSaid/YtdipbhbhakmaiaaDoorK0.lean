/-
  CONTRACTS: the words that go round, the plot of a channel, the table of handles: what each function gives its continuation.
-/
import Derived.Test.YtdipbhbhakmaiaaDoorT0
namespace Go.Proofs.YtdipbhbhakmaiaaDoor
open Go Go.Eng
set_option linter.unusedVariables false
set_option linter.unusedSimpArgs false
set_option maxRecDepth 100000

abbrev I (x : Int) : Value := .int .i64 x
abbrev B (x : Bool) : Value := .bool x
abbrev at0 (b : Nat) : Option Addr := some ⟨b, 0, none⟩

def aheadCells : List Value := [I 0, I 0, I 0, I 0, I 0, I 0, I 1, I 2, I 3]
def tabCells : List Value := ([0, 1, 56, 2, 57, 49, 28, 3, 61, 58, 42, 50, 38, 29, 17, 4, 62, 47, 59, 36, 45, 43, 51, 22, 53, 39, 33, 30, 24, 18, 12, 5, 63, 55, 48, 27, 60, 41, 37, 16, 46, 35, 44, 21, 52, 32, 23, 11, 54, 26, 40, 15, 34, 20, 31, 10, 25, 14, 19, 9, 13, 8, 7, 6] : List Int).map fun x => .int .u8 x

/-- What the two listed variables read as. -/
structure Gl (H : Hp) : Prop where
  ahead : cells H 0 = some aheadCells
  tab : cells H 1 = some tabCells

theorem Gl.but {S : Nat → Prop} {H H' : Hp} (g : Gl H) (h : But S H H') (h0 : ¬ S 0) (h1 : ¬ S 1) : Gl H' := ⟨h.cells h0 g.ahead, h.cells h1 g.tab⟩
theorem Gl.ext {H H' : Hp} (g : Gl H) (h : Ext H H') : Gl H' := ⟨h.cells g.ahead, h.cells g.tab⟩
theorem Gl.size {H : Hp} (g : Gl H) : 1 < H.size := cells_lt g.tab

theorem set1 {b : Nat} {H H' : Hp} (h : But (fun x => x = b) H H') (cs : List Value) : But (fun x => x = b) H (setBlk H' b cs) := h.set (.inl rfl) cs

/-- A new block. -/
theorem nw_r {H : Hp} {cs : List Value} {t : TypeId} {k : Addr → Hp → Prop} (h : ∀ b H', Ext H H' → b = H.size → H'.size = b + 1 → cells H' b = some cs → k ⟨b, 0, none⟩ H') : nw H cs t k :=
  h _ _ (Ext.push _ _) rfl (by simp) (by rw [cells_push_new])

section
variable {m : Amb} {H : Hp} {K : Value → Hp → Prop}

theorem C57 {x : Int} (h : K (I (x % 65536)) H) : CallsH Tryd.prog m 57 [I x] H K := by
  refine S57 ?_
  unfold t57; rw [and_65535]; exact h

theorem C70 {a b : Int} (h : K (I ((a + b) % 65536)) H) : CallsH Tryd.prog m 70 [I a, I b] H K := by
  refine S70 ?_
  refine C57 ⟨_, rfl, C57 ⟨_, rfl, C57 ⟨_, rfl, ?_⟩⟩⟩
  rw [wr_i64 (by omega) (by omega)]
  have : (a % 65536 + b % 65536) % 65536 = (a + b) % 65536 := by omega
  rw [this]; exact h

theorem C72 {a b : Int} (h : K (I ((a - b) % 65536)) H) : CallsH Tryd.prog m 72 [I a, I b] H K := by
  refine S72 ?_
  refine C57 ⟨_, rfl, C57 ⟨_, rfl, C57 ⟨_, rfl, ?_⟩⟩⟩
  rw [wr_i64 (by omega) (by omega)]
  have : (a % 65536 - b % 65536) % 65536 = (a - b) % 65536 := by omega
  rw [this]; exact h

theorem C93 {b : Bool} (h : K (I (if b then 1 else 0)) H) : CallsH Tryd.prog m 93 [B b] H K := by
  refine S93 ?_
  cases b
  · exact br_f h
  · exact br_t h

theorem C76 {a b : Int} (h : K (B (decide (0 ≤ a) && decide (a < b))) H) : CallsH Tryd.prog m 76 [I a, I b] H K := by
  refine S76 ?_
  unfold t76
  by_cases h0 : 0 ≤ a
  · rw [show (decide (0 ≤ a) && decide (a < b)) = decide (a < b) by simp [h0]] at h
    exact br_yes (by simp [h0]) h
  · rw [show (decide (0 ≤ a) && decide (a < b)) = false by simp [h0]] at h
    exact br_no (by simp; omega) h

theorem C56 {q : Option Addr} {n c : Nat} {x : Int} (h : K (B (decide (0 ≤ x) && decide (x < n))) H) : CallsH Tryd.prog m 56 [.slice q n c, I x] H K := by
  refine S56 ?_
  unfold t56
  by_cases h0 : 0 ≤ x
  · rw [show (decide (0 ≤ x) && decide (x < (n : Int))) = decide (x < (n : Int)) by simp [h0]] at h
    exact br_yes (by simp [h0]) h
  · rw [show (decide (0 ≤ x) && decide (x < (n : Int))) = false by simp [h0]] at h
    exact br_no (by simp; omega) h

/-- The rings of the small laws. -/
def few4 (n : Int) : Prop := n = 2 ∨ n = 4 ∨ n = 8 ∨ n = 16

theorem C55 (g : Gl H) {n : Int} (hn : few4 n) (h : K (B true) H) : CallsH Tryd.prog m 55 [I n] H K := by
  have go : ∀ (n : Int) (k : Nat) (j : Int), 1 ≤ n → n ≤ 64 → 0 < j → bitsOf .and .i64 n (wr .i64 (n - 1)) = 0 → wr .u64 n = n → shrOf .u64 (wr .u64 (bitsOf .and .u64 n (wr .u64 (0 - n)) * 285870213051353865)) 58 = (k : Int) → k < 64 → tabCells[k]? = some (.int .u8 j) → wr .i64 j = j →
      CallsH Tryd.prog m 55 [I n] H K := by
    intro n k j h1 h2 hj hb hw hk hk6 ht hwj
    refine S55 ?_
    refine S78 ?_
    refine br_no (by simp; omega) (br_no (by rw [hb]; rfl) ?_)
    rw [hw]
    refine S90 ?_
    refine br_no (by simp; omega) ⟨by decide, ?_⟩
    rw [hk]
    refine ⟨⟨by omega, by omega⟩, ?_⟩
    rw [add_mk]
    refine ldI_r (x := j) (g.tab) ?_ ?_
    · simpa using ht
    · refine ⟨_, rfl, ⟨_, _, rfl, br_t ?_⟩⟩
      rw [hwj]
      refine br_yes (by simp [hj]) ?_
      rw [show decide (n ≤ 64) = true by simp [h2]]; exact h
  rcases hn with rfl | rfl | rfl | rfl
  · exact go 2 1 1 (by decide) (by decide) (by decide) (by decide) (by decide) (by decide) (by decide) (by rfl) (by decide)
  · exact go 4 3 2 (by decide) (by decide) (by decide) (by decide) (by decide) (by decide) (by decide) (by rfl) (by decide)
  · exact go 8 7 3 (by decide) (by decide) (by decide) (by decide) (by decide) (by decide) (by decide) (by rfl) (by decide)
  · exact go 16 15 4 (by decide) (by decide) (by decide) (by decide) (by decide) (by decide) (by decide) (by rfl) (by decide)

theorem C21 (g : Gl H) {n : Int} (hn : few4 n) (h : K (I (4 + 11 * n)) H) : CallsH Tryd.prog m 21 [I n] H K := by
  refine S21 ?_
  refine C55 g hn ⟨_, rfl, br_f ⟨⟨by decide, by decide⟩, ldI_r (x := 3) g.ahead rfl ?_⟩⟩
  rcases hn with rfl | rfl | rfl | rfl <;> exact h

/-- A table: how many slots, their generations, and which are held. -/
structure Tb where
  n : Int
  gens : List Int
  held : List Bool
def Tb.cells (t : Tb) : List Value := I t.n :: (t.gens.map I ++ t.held.map B)
def Tb.new (n : Int) : Tb := ⟨n, List.replicate 64 0, List.replicate 64 false⟩

theorem C77 {n : Int} (h1 : 1 ≤ n) (h2 : n ≤ 64) (h : ∀ b H', Ext H H' → H.size ≤ b → H'.size = b + 1 → cells H' b = some (Tb.new n).cells → K (.pointer (at0 b)) H') : CallsH Tryd.prog m 77 [I n] H K := by
  refine S77 ?_
  refine br_no (by simp; omega) (br_no (by simp; omega) ?_)
  exact h _ _ (Ext.push _ _) (Nat.le_refl _) (by simp) (by rw [cells_push_new]; rfl)

/-- A taker. -/
structure Tk where
  base : Int
  ring : Int
  self : Int
  peer : Int
  own : Int
  known : Int
  linked : Bool
  head : Int
  used : Int
  tb : Nat
  st : Int
  d : Int
  many : Int
  answer : Int
  back : Bool
  lp : Option Addr
  ln : Nat
  lc : Nat
  got : Int
def Tk.cells (t : Tk) : List Value := [I t.base, I t.ring, I t.self, I t.peer, I t.own, I t.known, B t.linked, I t.head, I t.used, .pointer (at0 t.tb), I t.st, I t.d, I t.many, I t.answer, B t.back, .slice t.lp t.ln t.lc, I t.got]
def Tk.new (base ring self peer own : Int) (tb : Nat) : Tk := ⟨base, ring, self, peer, own, if own > 0 then -1 else 0, false, 0, 0, tb, 0, 0, 0, 0, false, none, 0, 0, 0⟩

theorem C54 (g : Gl H) {base ring self peer own : Int} (hr : few4 ring) (hb : 0 ≤ base ∧ base < 65536) (hs : 0 ≤ self ∧ self < 8) (hp : 0 ≤ peer ∧ peer < 8) (hne : self ≠ peer) (ho : 0 ≤ own ∧ own < 65536)
    (h : ∀ bt tb H', Ext H H' → H.size ≤ bt → H.size ≤ tb → tb ≠ bt → cells H' bt = some (Tk.new base ring self peer own tb).cells → cells H' tb = some (Tb.new ring).cells → K (.pointer (at0 bt)) H') :
    CallsH Tryd.prog m 54 [.agg #[I base, I ring], I self, I peer, I own] H K := by
  have hr64 : 1 ≤ ring ∧ ring ≤ 64 := by rcases hr with rfl | rfl | rfl | rfl <;> decide
  refine S54 ?_
  unfold t54
  refine nw_r ?_
  rintro _ H1 e1 rfl hz1 hc1
  have g1 := g.ext e1
  refine ldI_r (x := ring) hc1 rfl ?_
  refine C21 g1 hr ⟨_, rfl, br_no (by simp; omega) ?_⟩
  refine ldI_r (x := base) hc1 rfl ?_
  refine C76 ⟨_, rfl, br_no (by simp; omega) ?_⟩
  refine C76 ⟨_, rfl, br_no (by simp; omega) ?_⟩
  refine C76 ⟨_, rfl, br_no (by simp; omega) ?_⟩
  refine br_no (by simp [hne]) ?_
  refine C76 ⟨_, rfl, br_no (by simp; omega) ?_⟩
  refine ldI_r (x := base) hc1 rfl (ldI_r (x := ring) hc1 rfl (ldI_r (x := ring) hc1 rfl ?_))
  refine C77 hr64.1 hr64.2 ?_
  intro tb H2 e2 hb2 hs2 hc2
  have hc12 := e2.cells hc1
  refine ⟨_, rfl, cont_r hc12 rfl, cont_r hc12 rfl, ?_⟩
  have e02 := e1.trans e2
  by_cases h0 : own > 0
  · refine br_yes (by simp [h0]) ?_
    refine st_r cells_push_new rfl (by simp) ?_
    refine h _ tb _ (Ext.set (e02.trans (Ext.push _ _)) e02.size _) e02.size (Nat.le_trans e1.size hb2) (by omega) ?_ ?_
    · rw [cells_set cells_push_new]; simp [Tk.new, Tk.cells, h0]
    · show cells (setBlk _ H2.size _) tb = _
      rw [cells_set_ne (by omega)]; exact cells_push' hc2
  · refine br_no (by simp; omega) ?_
    refine h _ tb _ (e02.trans (Ext.push _ _)) e02.size (Nat.le_trans e1.size hb2) (by omega) ?_ ?_
    · rw [cells_push_new]; simp [Tk.new, Tk.cells, h0]
    · exact cells_push' hc2

theorem C18 (g : Gl H) {base ring self peer own : Int} (hr : few4 ring) (hb : 0 ≤ base ∧ base < 65536) (hs : 0 ≤ self ∧ self < 8) (hp : 0 ≤ peer ∧ peer < 8) (hne : self ≠ peer) (ho : 0 ≤ own ∧ own < 65536)
    (h : ∀ bt tb H', Ext H H' → H.size ≤ bt → H.size ≤ tb → tb ≠ bt → cells H' bt = some (Tk.new base ring self peer own tb).cells → cells H' tb = some (Tb.new ring).cells → K (.pointer (at0 bt)) H') :
    CallsH Tryd.prog m 18 [.agg #[I base, I ring, I self, I peer, I own]] H K := by
  refine S18 ?_
  unfold t18
  refine nw_r ?_
  rintro _ H1 e1 rfl hz1 hc1
  refine ldI_r (x := base) hc1 rfl (ldI_r (x := ring) hc1 rfl (ldI_r (x := self) hc1 rfl (ldI_r (x := peer) hc1 rfl (ldI_r (x := own) hc1 rfl ?_))))
  refine C54 (g.ext e1) hr hb hs hp hne ho ?_
  intro bt tb H2 e2 h1 h2 h3 h4 h5
  exact ⟨_, rfl, h bt tb H2 (e1.trans e2) (Nat.le_trans e1.size h1) (Nat.le_trans e1.size h2) h3 h4 h5⟩

theorem C51 {bt : Nat} {t : Tk} (hT : cells H bt = some t.cells) (h : K (I (if t.st = 0 then 0 else 11)) H) : CallsH Tryd.prog m 51 [.pointer (at0 bt)] H K := by
  refine S51 ?_
  refine br_f (nn_r (ldI_r (x := t.st) hT rfl ?_))
  by_cases h0 : t.st = 0
  · rw [if_pos h0] at h; exact br_no (by simp [h0]) h
  · rw [if_neg h0] at h; exact br_yes (by simp [h0]) h

def Tk.begin (t : Tk) (back : Bool) : Tk := { t with st := 1, back := back, lp := none, ln := 0, lc := 0, got := 0 }

theorem C52 {bt : Nat} {t : Tk} {back : Bool} (hT : cells H bt = some t.cells) (h : ∀ H', But (· = bt) H H' → cells H' bt = some (t.begin back).cells → K (.tuple #[]) H') : CallsH Tryd.prog m 52 [.pointer (at0 bt), B back] H K := by
  refine S52 ?_
  refine nn_r (st_r hT rfl (by simp [Tk.cells]) ?_)
  refine nn_r (st_r (cells_set hT) rfl (by simp [Tk.cells]) ?_)
  refine nn_r (st_r (cells_set (cells_set hT)) rfl (by simp [Tk.cells]) ?_)
  refine nn_r (st_r (cells_set (cells_set (cells_set hT))) rfl (by simp [Tk.cells]) ?_)
  refine h _ ?_ ?_
  · exact set1 (set1 (set1 (set1 (But.refl _ _) _) _) _) _
  · exact cells_set (cells_set (cells_set (cells_set hT)))

theorem C10 {bt : Nat} {t : Tk} (hT : cells H bt = some t.cells) (h0 : t.st = 0) (h : ∀ H', But (· = bt) H H' → cells H' bt = some (t.begin false).cells → K (I 0) H') : CallsH Tryd.prog m 10 [.pointer (at0 bt)] H K := by
  refine S10 ?_
  refine C51 hT ⟨_, rfl, ?_⟩
  rw [if_pos h0]
  refine br_t (C52 hT ?_)
  intro H' h1 h2
  exact ⟨rfl, h H' h1 h2⟩
end
end Go.Proofs.YtdipbhbhakmaiaaDoor

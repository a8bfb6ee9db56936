/-
  CONTRACT: the last store at an address (cell.Find, a range over the function slices.Backward).
-/
import Derived.Test.YtoddfageecbkcaaGreatKF1
namespace Go.Proofs.YtoddfageecbkcaaGreat
open Go Go.RowKit Go.Shelf Sy
set_option linter.unusedVariables false
set_option linter.unusedSimpArgs false

attribute [local go_sem] Oper.semAt_some

def findV (l : List (Int × Int)) (a : Int) : Value := match find l a with
  | some w => .tuple #[I w, .bool true]
  | none => .tuple #[I 0, .bool false]

/-- THE SLICE VALUE sv HOLDS THE CELLS ps, in a block below n₀; or it is nil and there are none. -/
def Cxs (n₀ : Nat) (W : World) (sv : Value) (ps : List (Int × Int)) : Prop :=
  (sv = .slice none 0 0 ∧ ps = []) ∨ ∃ b off cap, sv = .slice (some ⟨b, off, none⟩) ps.length cap ∧ b < n₀ ∧ ∀ j, j < ps.length → W.cell? ⟨b, off + j, none⟩ = some (.complex .f64 (Sy.fl (ps.getD j (0, 0)).1) (Sy.fl (ps.getD j (0, 0)).2))
theorem Cxs.below {n₀ : Nat} {A B : World} (h : Below n₀ A B) {sv : Value} {ps : List (Int × Int)} : Cxs n₀ A sv ps → Cxs n₀ B sv ps
  | .inl e => .inl e
  | .inr ⟨b, off, cap, e, hb, hc⟩ => .inr ⟨b, off, cap, e, hb, fun j hj => (h.cell (p := ⟨b, off + j, none⟩) hb).trans (hc j hj)⟩
theorem Cxs.mono {n₀ n₁ : Nat} (hn : n₀ ≤ n₁) {A : World} {sv : Value} {ps : List (Int × Int)} : Cxs n₀ A sv ps → Cxs n₁ A sv ps
  | .inl e => .inl e
  | .inr ⟨b, off, cap, e, hb, hc⟩ => .inr ⟨b, off, cap, e, Nat.lt_of_lt_of_le hb hn, hc⟩

set_option maxRecDepth 100000 in
set_option maxHeartbeats 1000000 in
theorem bk1_nil_in (F : Fence) (n : Nat) (h8 : F.fn 127) (hro : F.round = none) {α : Type} (l Bs : Nat) (J : List α → World → Prop) (W : World) (hBs : W.cell? ⟨Bs, 0, none⟩ = some (.slice none 0 0)) (h0 : J [] W) :
    CallsIn F n Tryz.prog 127 #[.func (.yield l) #[] #[], .pointer (some ⟨Bs, 0, none⟩)] W fun e W' => (∃ v, e = .returned v) ∧ J [] W' := by
  refine callsIn_of_wp Tryz.func127 rfl h8 ?_ hro
  simp only [Tryz.ntmps127, List.size_toArray, List.length_cons, List.length_nil, Nat.reduceAdd, Nat.reduceSub, Array.replicate_succ, Array.replicate_zero, List.push_toArray, List.append_toArray, List.nil_append, List.cons_append]
  gi_wp2
  gi_loopw [3] (fun i wr => i = .int .i64 (-1) ∧ J [] wr) (fun _ _ => 0)
  case atStart => exact ⟨rfl, h0⟩
  case round =>
    obtain ⟨rfl, hJs⟩ := hrel
    gi_wp2
    go_end0
    exact ⟨⟨_, rfl⟩, hJs⟩

set_option maxHeartbeats 1000000 in
theorem bk_in (F : Fence) (n : Nat) (h6 : F.fn 124) (hro : F.round = none) (a : Option Addr) (len cap : Nat) (w : World) :
    CallsIn F n Tryz.prog 124 #[.slice a len cap] w fun e w' => e = .returned (.func (.func 127) #[] #[.pointer (some ⟨w.heap.size, 0, none⟩)]) ∧ w' = w.alloc (.cells #[.slice a len cap] 139) := by
  refine callsIn_of_wp Tryz.func124 rfl h6 ?_ hro
  simp only [Tryz.ntmps124, List.size_toArray, List.length_cons, List.length_nil, Nat.reduceAdd, Nat.reduceSub, Array.replicate_succ, Array.replicate_zero, List.push_toArray, List.append_toArray, List.nil_append, List.cons_append]
  gi_wp2
  go_ret
  exact ⟨rfl, rfl⟩

theorem bk_stops (F : Fence) (n : Nat) (h8 : F.fn 127) (hro : F.round = none) (hn : 1 ≤ n) {α : Type} (e : α → Int × (Int × Int)) (f : Nat → α) (Bs n₀ : Nat) (sv : Value) (ps : List (Int × Int)) (hf : ∀ k, k < ps.length → e (f k) = bkF ps k) (hreach : ps.length ≤ 1000) (w : World) (hBs : Bs < n₀) (hn₀ : n₀ ≤ w.heap.size)
    (hc : w.cell? ⟨Bs, 0, none⟩ = some sv) (hI : Cxs n₀ w sv ps) :
    SeqStopsK F n Tryz.prog 127 #[.pointer (some ⟨Bs, 0, none⟩)] (fun x : α => #[Value.int .i64 (e x).1, .complex .f64 (Sy.fl (e x).2.1) (Sy.fl (e x).2.2)]) (Below n₀) (fun ys => ys = bkUpto f ps.length)
      (fun pre => ∃ k, k ≤ ps.length ∧ pre = bkUpto f k) ps.length w := fun l J Jx W hW _ _ hY h0 => by
  have hc' := (hW.cell (p := ⟨Bs, 0, none⟩) (Nat.lt_of_lt_of_le hBs hn₀)).trans hc
  rcases hI.below (hW.mono hn₀) with ⟨rfl, rfl⟩ | ⟨b, off, cap, rfl, hb, hcs⟩
  · exact (bk1_nil_in F n h8 hro l Bs J W hc' h0).mono fun e' W' ⟨he, hj⟩ => ⟨he, .inl ⟨_, rfl, hj⟩⟩
  · exact bk1_in F n h8 hro hn e f l Bs n₀ b off cap ps hf hreach hb hBs J Jx hY W hc' hcs h0

/-! What the last cell of an address is. -/
theorem find_app (a : Int) : ∀ (x y : List (Int × Int)), find (x ++ y) a = match find y a with | some w => some w | none => find x a
  | [], y => by cases h : find y a <;> simp [find, h]
  | (b, w) :: x, y => by
    show (match find (x ++ y) a with | some v => some v | none => if b = a then some w else none) = _
    rw [find_app a x y]
    cases h : find y a with
    | some v => rfl
    | none => rfl
theorem find_none {a : Int} : ∀ {x : List (Int × Int)}, (∀ p ∈ x, p.1 ≠ a) → find x a = none
  | [], _ => rfl
  | (b, w) :: x, h => by
    show (match find x a with | some v => some v | none => if b = a then some w else none) = _
    rw [find_none fun p hp => h p (List.mem_cons_of_mem _ hp)]
    exact if_neg (h (b, w) List.mem_cons_self)
theorem find_at {a : Int} {ps : List (Int × Int)} {k : Nat} (hk : k < ps.length) (h1 : (ps.getD (ps.length - 1 - k) (0, 0)).1 = a) (h2 : ∀ j, j < k → (ps.getD (ps.length - 1 - j) (0, 0)).1 ≠ a) : find ps a = some (ps.getD (ps.length - 1 - k) (0, 0)).2 := by
  have hm : ps.length - 1 - k < ps.length := by omega
  have e : ps = ps.take (ps.length - 1 - k) ++ (ps[ps.length - 1 - k] :: ps.drop (ps.length - 1 - k + 1)) := by
    rw [← List.drop_eq_getElem_cons hm, List.take_append_drop]
  have eg : ps.getD (ps.length - 1 - k) (0, 0) = ps[ps.length - 1 - k] := by
    rw [List.getD_eq_getElem?_getD, List.getElem?_eq_getElem hm]; rfl
  rw [eg] at h1 ⊢
  have hd : find (ps.drop (ps.length - 1 - k + 1)) a = none := by
    refine find_none fun p hp => ?_
    obtain ⟨i, hi, rfl⟩ := List.mem_iff_getElem.1 hp
    rw [List.length_drop] at hi
    have := h2 (k - 1 - i) (by omega)
    rw [show ps.length - 1 - (k - 1 - i) = ps.length - 1 - k + 1 + i by omega, List.getD_eq_getElem?_getD, List.getElem?_eq_getElem (by omega)] at this
    rw [List.getElem_drop]
    exact this
  have h4 : find (ps[ps.length - 1 - k] :: ps.drop (ps.length - 1 - k + 1)) a = some ps[ps.length - 1 - k].2 := by
    show (match find (ps.drop (ps.length - 1 - k + 1)) a with | some v => some v | none => if (ps[ps.length - 1 - k]).1 = a then some (ps[ps.length - 1 - k]).2 else none) = _
    rw [hd]; simp [h1]
  refine (congrArg (find · a) e).trans ?_
  show find (ps.take (ps.length - 1 - k) ++ (ps[ps.length - 1 - k] :: ps.drop (ps.length - 1 - k + 1))) a = _
  rw [find_app, h4]
theorem find_no {a : Int} {ps : List (Int × Int)} (h : ∀ j, j < ps.length → (ps.getD (ps.length - 1 - j) (0, 0)).1 ≠ a) : find ps a = none := by
  refine find_none fun p hp => ?_
  obtain ⟨i, hi, rfl⟩ := List.mem_iff_getElem.1 hp
  have := h (ps.length - 1 - i) (by omega)
  rw [show ps.length - 1 - (ps.length - 1 - i) = i by omega, List.getD_eq_getElem?_getD, List.getElem?_eq_getElem hi] at this
  exact this

/-- Parts, within a round: no block turns. -/
theorem parts_in (l n : Nat) {p : Int × Int} (hp : okP p) (W : World) : CallsIn (Fence.wide.inRound l) n Tryz.prog 125 #[.complex .f64 (Sy.fl p.1) (Sy.fl p.2)] W fun e W' => e = .returned (.tuple #[I p.1, I p.2, .bool true]) ∧
    KeepsOthers W W' ∧ (∀ n₀, Below n₀ W W') ∧ (∀ q, W'.frozen? q = W.frozen? q) ∧ (∀ q, W'.cell? q = W.cell? q) := by
  have h := C125 (m := ⟨W.tape, W.os, W.output⟩) (H := W.heap) (K := fun v H' => v = .tuple #[I p.1, I p.2, .bool true] ∧ H' = W.heap) hp.1 hp.2 ⟨rfl, rfl⟩ W.drawn
  have h2 : Calls Tryz.prog 125 #[.complex .f64 (Sy.fl p.1) (Sy.fl p.2)] W fun e W' => e = .returned (.tuple #[I p.1, I p.2, .bool true]) ∧
      KeepsOthers W W' ∧ (∀ n₀, Below n₀ W W') ∧ (∀ q, W'.frozen? q = W.frozen? q) ∧ (∀ q, W'.cell? q = W.cell? q) := by
    refine Calls.mono h fun e w' ⟨v, H', d', h1, h2, h3, h4⟩ => ?_
    subst h3; subst h4; subst h2
    exact ⟨h1, ⟨Nat.le_refl _, fun _ _ h _ => h⟩, fun _ => ⟨rfl, rfl, rfl, Nat.le_refl _, fun _ _ => rfl⟩, fun _ => rfl, fun _ => rfl⟩
  exact callsIn_wide.2 h2

theorem bkF_ok {ps : List (Int × Int)} (hok : ∀ p ∈ ps, okP p) (k : Nat) : okP (bkF ps k).2 := by
  show okP (ps.getD (ps.length - 1 - k) (0, 0))
  rw [List.getD_eq_getElem?_getD]
  cases h : ps[ps.length - 1 - k]? with
  | none => exact ⟨⟨by decide, by decide⟩, by decide, by decide⟩
  | some p => exact hok p (List.mem_of_getElem? h)

set_option maxRecDepth 100000 in
set_option maxHeartbeats 4000000 in
theorem Find_in (n : Nat) (hn : 3 ≤ n) (a : Int) (ao : Option Addr) (len cap : Nat) (ps : List (Int × Int)) (hreach : ps.length ≤ 1000) (hok : ∀ p ∈ ps, okP p) (w : World) (hI : Cxs w.heap.size w (.slice ao len cap) ps) :
    CallsIn Fence.wide n Tryz.prog 112 #[.slice ao len cap, .int .i64 a] w fun e W' => e = .returned (findV ps a) ∧ Below w.heap.size w W' := by
  have h1 : 1 ≤ n := by omega
  have hro : Fence.wide.round = none := rfl
  have f4 : Fence.wide.fn 124 := trivial
  refine callsIn_of_wp_marks Tryz.func112 rfl trivial ?_ hro
  simp only [Tryz.ntmps112, List.size_toArray, List.length_cons, List.length_nil, Nat.reduceAdd, Nat.reduceSub, Array.replicate_succ, Array.replicate_zero, List.push_toArray, List.append_toArray, List.nil_append, List.cons_append]
  gi_wp2_with (gi_at_call 124; refine (bk_in Fence.wide (n - 1) trivial hro _ _ _ _).mono ?_; rintro e w' ⟨rfl, rfl⟩)
  have b3 := Boxed.new w 3 (.int .i64 a)
  have bA := Boxed.new (w.alloc (.cells #[.int .i64 a] 3)) 3 (.int .i64 0)
  have bB := Boxed.new ((w.alloc (.cells #[.int .i64 a] 3)).alloc (.cells #[.int .i64 0] 3)) 4 (.bool false)
  have bN := Boxed.new (((w.alloc (.cells #[.int .i64 a] 3)).alloc (.cells #[.int .i64 0] 3)).alloc (.cells #[.bool false] 4)) 139 (.slice ao len cap)
  simp only [World.size_alloc] at bA bB bN
  have hB0 : Below w.heap.size w ((((w.alloc (.cells #[.int .i64 a] 3)).alloc (.cells #[.int .i64 0] 3)).alloc (.cells #[.bool false] 4)).alloc (.cells #[.slice ao len cap] 139)) := ((((Below.refl _ w).alloc (Nat.le_refl _) _).alloc (by simp) _).alloc (by simp; omega) _).alloc (by simp; omega) _
  refine wpIn_rangeFunc_ownG hro h1 (gf := 127) (lb := #[.pointer (some ⟨w.heap.size + 1 + 1 + 1, 0, none⟩)]) rfl trivial (enters_of Tryz.func127 (by kernel_rfl) rfl)
    (bk_stops Fence.wide (n - 1) trivial hro (by omega) (α := {x : Int × (Int × Int) // okP x.2}) (fun x => x.1) (fun k => ⟨bkF ps k, bkF_ok hok k⟩) (w.heap.size + 1 + 1 + 1) (w.heap.size + 4) _ ps (fun _ _ => rfl) hreach _ (by omega) (by simp) bN.cell ((hI.below hB0).mono (by omega))) belowK_t (belowK_b (by simp)) (Below.refl _ _) (fun _ => rfl)
    (fun pre W => ((∀ p ∈ pre, p.1.2.1 ≠ a) ∧ W.cell? ⟨w.heap.size, 0, none⟩ = some (.int .i64 a) ∧ W.frozen? ⟨w.heap.size, 0, none⟩ = false ∧ W.cell? ⟨w.heap.size + 1, 0, none⟩ = some (.int .i64 0) ∧ W.frozen? ⟨w.heap.size + 1, 0, none⟩ = false ∧ W.cell? ⟨w.heap.size + 1 + 1, 0, none⟩ = some (.bool false) ∧ W.frozen? ⟨w.heap.size + 1 + 1, 0, none⟩ = false) ∧ Below w.heap.size w W)
    (fun c pre W => (c = .ret ∧ ∃ ini last, pre = ini ++ [last] ∧ (∀ p ∈ ini, p.1.2.1 ≠ a) ∧ last.1.2.1 = a ∧ W.cell? ⟨w.heap.size + 1, 0, none⟩ = some (.int .i64 last.1.2.2) ∧ W.cell? ⟨w.heap.size + 1 + 1, 0, none⟩ = some (.bool true)) ∧ Below w.heap.size w W)
    (OwnFrom.and (Own.from (fun s A B row hs hg hr => ⟨hs.1, cell_kept hs.2.1 hg hr, (frozen_kept hs.2.1 hg hr).trans hs.2.2.1, cell_kept hs.2.2.2.1 hg hr, (frozen_kept hs.2.2.2.1 hg hr).trans hs.2.2.2.2.1, cell_kept hs.2.2.2.2.2.1 hg hr, (frozen_kept hs.2.2.2.2.2.1 hg hr).trans hs.2.2.2.2.2.2⟩) _) (ownFrom_below (Nat.le_refl _) (by simp; omega)))
    (fun c => OwnFrom.and (Own.from (fun s A B row hs hg hr => by obtain ⟨hc, ini, last, e1, e2, e3, e4, e5⟩ := hs; exact ⟨hc, ini, last, e1, e2, e3, cell_kept e4 hg hr, cell_kept e5 hg hr⟩) _) (ownFrom_below (Nat.le_refl _) (by simp; omega)))
    ⟨⟨by simp, (((b3.alloc _).alloc _).alloc _).cell, (((b3.alloc _).alloc _).alloc _).frozen, ((bA.alloc _).alloc _).cell, ((bA.alloc _).alloc _).frozen, (bB.alloc _).cell, (bB.alloc _).frozen⟩, hB0⟩
    (fun x => { tmps := #[.slice ao len cap, .int .i64 a, undef, .pointer (some ⟨w.heap.size, 0, none⟩), .pointer (some ⟨w.heap.size + 1, 0, none⟩), .pointer (some ⟨w.heap.size + 1 + 1, 0, none⟩), undef, .complex .f64 (Sy.fl x.1.2.1) (Sy.fl x.1.2.2), undef, undef, undef, .slice ao len cap, .func (.func 127) #[] #[.pointer (some ⟨w.heap.size + 1 + 1 + 1, 0, none⟩)], .int .i64 x.1.1, .complex .f64 (Sy.fl x.1.2.1) (Sy.fl x.1.2.2), undef, undef, undef, undef, undef, undef, undef, undef, undef, undef, undef, undef, undef], defers := [] }) ?assign ?body ?done ?stop
  case assign =>
    intro l x W K hK
    gi_wp2
    exact hK
  case body =>
    rintro l pre x W ⟨⟨hp, h3, h3f, hA, hAf, hBc, hBf⟩, hB⟩ _
    have f5 : Fence.wide.fn 125 := trivial
    gi_wp2_with (refine ⟨(fun h => absurd h (by decide)), (parts_in l _ x.2 _).mono ?_⟩; rintro e W3 ⟨rfl, hK3, hB3, hf, hc⟩; replace h3 := (hc ⟨w.heap.size, 0, none⟩).trans h3; replace hA := (hc ⟨w.heap.size + 1, 0, none⟩).trans hA; replace hBc := (hc ⟨w.heap.size + 1 + 1, 0, none⟩).trans hBc; replace h3f := (hf ⟨w.heap.size, 0, none⟩).trans h3f; replace hAf := (hf ⟨w.heap.size + 1, 0, none⟩).trans hAf; replace hBf := (hf ⟨w.heap.size + 1 + 1, 0, none⟩).trans hBf; clear hf hc)
    · rename_i hx
      have hx : x.1.2.1 = a := by simpa using hx
      have hA2 := World.cell?_setCell_same' W3 ⟨w.heap.size + 1, 0, none⟩ (.int .i64 x.1.2.2) (by rw [hA]; rfl)
      refine ⟨((hK3.trans (KeepsOthers.setCell _ _ _)).trans (KeepsOthers.setCell _ _ _)).from _, ⟨rfl, pre, x, rfl, hp, hx, ?_, ?_⟩, ((hB.trans (hB3 _)).setCell (p := ⟨w.heap.size + 1, 0, none⟩) (by simp) _).setCell (p := ⟨w.heap.size + 1 + 1, 0, none⟩) (by simp; omega) _⟩
      · rw [World.cell?_setCell_other]
        · exact hA2
        · simp
      · refine World.cell?_setCell_same' _ _ _ ?_
        rw [World.cell?_setCell_other, hBc]
        · rfl
        · simp
    · rename_i hx
      have hx : ¬ x.1.2.1 = a := by simpa using hx
      exact ⟨hK3.from _, hB3 _, ⟨fun p hp' => (List.mem_append.1 hp').elim (hp p) (fun e => by simp at e; subst e; exact hx), h3, h3f, hA, hAf, hBc, hBf⟩, hB.trans (hB3 _)⟩
  case done =>
    rintro D ys W hD rfl ⟨⟨hp, h3, h3f, hA, hAf, hBc, hBf⟩, hB⟩ hK
    gi_wp2
    have hK' := (KeepsOthers.setCell W ⟨w.heap.size + 1, 0, none⟩ (.int .i64 0)).same D _ hK rfl
    have hK2 := (KeepsOthers.setCell (W.setCell ⟨w.heap.size + 1, 0, none⟩ (.int .i64 0)) ⟨w.heap.size + 1 + 1, 0, none⟩ (.bool false)).same D _ hK' rfl
    refine ⟨by simp, .inl ⟨_, _, rfl, run_takeDeferred hK2, ?_⟩⟩
    have hA2 := World.cell?_setCell_same' W ⟨w.heap.size + 1, 0, none⟩ (.int .i64 0) (by rw [hA]; rfl)
    have hB2 := World.cell?_setCell_same' (W.setCell ⟨w.heap.size + 1, 0, none⟩ (.int .i64 0)) ⟨w.heap.size + 1 + 1, 0, none⟩ (.bool false) (by rw [World.cell?_setCell_other (w := W) (a := ⟨w.heap.size + 1, 0, none⟩) (v := .int .i64 0) (b := ⟨w.heap.size + 1 + 1, 0, none⟩) (by simp), hBc]; rfl)
    have hA3 := (World.cell?_setCell_other (w := W.setCell ⟨w.heap.size + 1, 0, none⟩ (.int .i64 0)) (a := ⟨w.heap.size + 1 + 1, 0, none⟩) (v := .bool false) (b := ⟨w.heap.size + 1, 0, none⟩) (by simp)).trans hA2
    have hA5 := cell_kept hA3 (grownBy_putObj' _ D (.deferred none)) (fun r e => by cases e; exact ⟨_, hK2, rfl⟩)
    have hB5 := cell_kept hB2 (grownBy_putObj' _ D (.deferred none)) (fun r e => by cases e; exact ⟨_, hK2, rfl⟩)
    have hno : find ps a = none := find_no fun j hj => hp ⟨bkF ps j, bkF_ok hok j⟩ (by simp only [bkUpto, List.mem_map, List.mem_range]; exact ⟨j, hj, rfl⟩)
    refine ⟨findV ps a, ?_, rfl, ((hB.setCell (p := ⟨w.heap.size + 1, 0, none⟩) (by simp) _).setCell (p := ⟨w.heap.size + 1 + 1, 0, none⟩) (by simp; omega) _).trans (belowK_b (w := w) (Nat.le_refl _) _ D _ _ (by simp at hD; omega) hK2 rfl rfl)⟩
    simp [results, Tryz.f112, go_sem, hA5, hB5, findV, hno]
  case stop =>
    rintro D c pre W hD ⟨k, hk, rfl⟩ ⟨⟨rfl, ini, last, e1, e2, e3, hA, hBc⟩, hB⟩ hK
    gi_wp2
    refine ⟨by simp, .inl ⟨_, _, rfl, run_takeDeferred hK, ?_⟩⟩
    have hA5 := cell_kept hA (grownBy_putObj' _ D (.deferred none)) (fun r e => by cases e; exact ⟨_, hK, rfl⟩)
    have hB5 := cell_kept hBc (grownBy_putObj' _ D (.deferred none)) (fun r e => by cases e; exact ⟨_, hK, rfl⟩)
    obtain ⟨k', rfl⟩ : ∃ k', k = k' + 1 := by
      cases k with
      | zero => simp [bkUpto] at e1
      | succ k' => exact ⟨k', rfl⟩
    rw [bkUpto_succ] at e1
    obtain ⟨rfl, e5⟩ := List.append_inj' e1 rfl
    obtain rfl : ⟨bkF ps k', bkF_ok hok k'⟩ = last := by simpa using e5
    have hfd : find ps a = some (bkF ps k').2.2 := find_at (by omega) e3 fun j hj => e2 ⟨bkF ps j, bkF_ok hok j⟩ (by simp only [bkUpto, List.mem_map, List.mem_range]; exact ⟨j, hj, rfl⟩)
    refine ⟨findV ps a, ?_, rfl, hB.trans (belowK_b (w := w) (Nat.le_refl _) W D _ _ (by simp at hD; omega) hK rfl rfl)⟩
    simp [results, Tryz.f112, go_sem, hA5, hB5, findV, hfd]

section
open Go.Eng
theorem cells_cell {m : Amb} {H : Hp} {d : Nat} {b i : Nat} {cs : List Value} (h : cells H b = some cs) (hi : i < cs.length) : (mkW m H d).cell? ⟨b, i, none⟩ = some cs[i] := by
  obtain ⟨c, t, hb, hc⟩ := cells_imp h
  subst hc
  unfold World.cell?
  show (match H[b]? with | some (.cells c _ _) => if (none : Option Nat).isSome then none else c[i]? | _ => none) = _
  rw [hb]
  simp at hi ⊢

theorem C112 {m : Amb} {ow : Ow} {H : Hp} {K : Value → Hp → Prop} {τ : Tg} {q : Option Addr} {n c : Nat} {l : List (Int × Int)} {a : Int} (hs : SlT 1 ow H τ q n c (l.map cx)) (hl : ∀ p ∈ l, okP p) (h16 : l.length ≤ 16)
    (h : ∀ ow' H', Upd Tno ow H ow' H' → K (findV l a) H') : CallsH Tryz.prog m 112 [.slice q n c, I a] H K := by
  intro d
  have hn : n = l.length := by have := hs.1; simpa using this.symm
  have hI : Cxs H.size (mkW m H d) (.slice q n c) l := by
    rcases hs.2.2 with ⟨rfl, rfl, rfl⟩ | ⟨b, pre, rest, post, rfl, hb, hrl⟩
    · left; refine ⟨rfl, ?_⟩; exact List.length_eq_zero_iff.1 hn.symm
    · right
      refine ⟨b, pre.length, c, by rw [hn], hb.lt, fun j hj => ?_⟩
      have hjl : j < (l.map cx).length := by simpa using hj
      rw [cells_cell hb.2 (i := pre.length + j) (by simp only [List.length_append]; omega)]
      rw [List.getElem_append_right (by omega), List.getElem_append_left (by omega), List.getElem_map, List.getD_eq_getElem?_getD, List.getElem?_eq_getElem hj]
      simp [cx]
  refine Calls.mono (callsIn_wide.1 (Find_in 3 (Nat.le_refl _) a q n c l (by omega) hl (mkW m H d) hI)) fun e W' ⟨h1, h2⟩ => ?_
  refine ⟨_, W'.heap, W'.drawn, h1, ?_, h ow W'.heap (Upd.ofExt ⟨h2.size, h2.block⟩)⟩
  obtain ⟨a1, a2, a3, a4, a5⟩ := W'
  obtain ⟨e1, e2, e3, _, _⟩ := h2
  simp only at e1 e2 e3
  subst e1; subst e2; subst e3
  rfl
end
end Go.Proofs.YtoddfageecbkcaaGreat

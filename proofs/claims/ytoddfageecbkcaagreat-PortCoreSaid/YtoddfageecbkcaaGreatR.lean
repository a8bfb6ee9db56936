/-
  HOW A PLAIN SOC LIES IN THE HEAP. Nothing of the program's text stands here but the order of the fields.
-/
import Derived.Test.YtoddfageecbkcaaGreatO
import Derived.Test.YtoddfageecbkcaaGreatFl
namespace Sy
open Go Go.Eng
set_option linter.unusedVariables false
set_option linter.unusedSimpArgs false

abbrev I (x : Int) : Value := .int .i64 x
abbrev B (x : Bool) : Value := .bool x
abbrev at0 (b : Nat) : Option Addr := some ⟨b, 0, none⟩
abbrev Pt (b : Nat) : Value := .pointer (at0 b)
def cx (p : Int × Int) : Value := .complex .f64 (fl p.1) (fl p.2)

/-- Nothing of the kinds from 'lo' to 'hi' of the root 'r' is named. -/
def Off (r lo hi : Nat) (T : Tg → Prop) : Prop := ∀ τ, τ.1 = r → lo ≤ τ.2.1 → τ.2.1 ≤ hi → ¬ T τ
theorem Off.at {r lo hi : Nat} {T : Tg → Prop} (h : Off r lo hi T) {k i j : Nat} (h1 : lo ≤ k) (h2 : k ≤ hi) : ¬ T (r, k, i, j) := h _ rfl h1 h2
theorem Off.sub {r lo hi lo' hi' : Nat} {T : Tg → Prop} (h : Off r lo hi T) (h1 : lo ≤ lo') (h2 : hi' ≤ hi) : Off r lo' hi' T := fun τ e a b => h τ e (Nat.le_trans h1 a) (Nat.le_trans b h2)

section
variable (r : Nat) (ow : Ow) (H : Hp)

def RamR (b : Nat) (ws : List Int) : Prop := ∃ q n c, Has ow H (r, 2, 0, 0) b [.slice q n c] ∧ SlT 1 ow H (r, 3, 0, 0) q n c (ws.map I)
def BufR (i b : Nat) (most : Int) (l : List (Int × Int)) : Prop := ∃ q n c, Has ow H (r, 5, i, 0) b [I most, .slice q n c] ∧ SlT 1 ow H (r, 6, i, 0) q n c (l.map cx)
def BufsR (q : Option Addr) (n c : Nat) (most : Int) (bufs : List (List (Int × Int))) : Prop :=
  ∃ bs : List Nat, bs.length = bufs.length ∧ SlT 1 ow H (r, 4, 0, 0) q n c (bs.map Pt) ∧ ∀ i (h : i < bs.length) (h' : i < bufs.length), BufR r ow H i bs[i] most bufs[i]
def BusR (b : Nat) (ram : List Int) (most : Int) (bufs : List (List (Int × Int))) : Prop :=
  ∃ rb q n c, Has ow H (r, 1, 0, 0) b [Pt rb, .slice q n c] ∧ RamR r ow H rb ram ∧ BufsR r ow H q n c most bufs
def LaneR (i b : Nat) (l : List Int) : Prop := ∃ (q : Option Addr) (c : Nat) (first : Nat) (room : List Int), Has ow H (r, 9, i, 0) b [.slice q 16 c, I first, I l.length] ∧ SlT 1 ow H (r, 10, i, 0) q 16 c (room.map I) ∧
  first < 16 ∧ l.length ≤ 16 ∧ room.length = 16 ∧ ∀ k, k < l.length → room.getD ((first + k) % 16) 0 = l.getD k 0
def boxCells (bs : List Nat) (box : List (Int × List Int)) : List Value := (List.zip bs box).flatMap fun p => [I p.2.1, Pt p.1]
def BoxR (b : Nat) (box : List (Int × List Int)) : Prop :=
  ∃ q n c, ∃ bs : List Nat, Has ow H (r, 7, 0, 0) b [.slice q n c] ∧ bs.length = box.length ∧ SlT 2 ow H (r, 8, 0, 0) q n c (boxCells bs box) ∧ ∀ i (h : i < bs.length) (h' : i < box.length), LaneR r ow H i bs[i] box[i].2
def LocksR (b : Nat) (cores n : Int) (owners : List Int) : Prop := Has ow H (r, 11, 0, 0) b (I cores :: I n :: owners.map I)
def GateR (b : Nat) (cores : Int) (epochs : List Int) (held : List Bool) : Prop := Has ow H (r, 12, 0, 0) b (I cores :: (epochs.map I ++ held.map B))
def SocR (b : Nat) (s : Soc) : Prop :=
  ∃ bb bx bl bg, Has ow H (r, 0, 0, 0) b [I s.cores, I s.words, I s.locks, Pt bb, Pt bx, Pt bl, Pt bg] ∧ BusR r ow H bb s.ram s.most s.bufs ∧ BoxR r ow H bx s.box ∧ LocksR r ow H bl s.cores s.locks s.owners ∧ GateR r ow H bg s.cores s.epochs s.held
end

section
variable {r : Nat} {ow ow' : Ow} {H H' : Hp} {T : Tg → Prop}

theorem RamR.upd {b : Nat} {ws : List Int} (h : RamR r ow H b ws) (u : Upd T ow H ow' H') (hn : Off r 2 3 T) : RamR r ow' H' b ws := by
  obtain ⟨q, n, c, h1, h2⟩ := h
  exact ⟨q, n, c, h1.upd u (hn.at (by decide) (by decide)), h2.upd u (hn.at (by decide) (by decide))⟩
theorem BufR.upd {i b : Nat} {most : Int} {l : List (Int × Int)} (h : BufR r ow H i b most l) (u : Upd T ow H ow' H') (h5 : ¬ T (r, 5, i, 0)) (h6 : ¬ T (r, 6, i, 0)) : BufR r ow' H' i b most l := by
  obtain ⟨q, n, c, h1, h2⟩ := h
  exact ⟨q, n, c, h1.upd u h5, h2.upd u h6⟩
theorem BufsR.upd {q : Option Addr} {n c : Nat} {most : Int} {bufs : List (List (Int × Int))} (h : BufsR r ow H q n c most bufs) (u : Upd T ow H ow' H') (hn : Off r 4 6 T) : BufsR r ow' H' q n c most bufs := by
  obtain ⟨bs, h1, h2, h3⟩ := h
  exact ⟨bs, h1, h2.upd u (hn.at (by decide) (by decide)), fun i hi hi' => (h3 i hi hi').upd u (hn.at (by decide) (by decide)) (hn.at (by decide) (by decide))⟩
theorem BusR.upd {b : Nat} {ram : List Int} {most : Int} {bufs : List (List (Int × Int))} (h : BusR r ow H b ram most bufs) (u : Upd T ow H ow' H') (hn : Off r 1 6 T) : BusR r ow' H' b ram most bufs := by
  obtain ⟨rb, q, n, c, h1, h2, h3⟩ := h
  exact ⟨rb, q, n, c, h1.upd u (hn.at (by decide) (by decide)), h2.upd u (hn.sub (by decide) (by decide)), h3.upd u (hn.sub (by decide) (by decide))⟩
theorem LaneR.upd {i b : Nat} {l : List Int} (h : LaneR r ow H i b l) (u : Upd T ow H ow' H') (h9 : ¬ T (r, 9, i, 0)) (h10 : ¬ T (r, 10, i, 0)) : LaneR r ow' H' i b l := by
  obtain ⟨q, c, first, room, h1, h2, h3⟩ := h
  exact ⟨q, c, first, room, h1.upd u h9, h2.upd u h10, h3⟩
theorem BoxR.upd {b : Nat} {box : List (Int × List Int)} (h : BoxR r ow H b box) (u : Upd T ow H ow' H') (hn : Off r 7 10 T) : BoxR r ow' H' b box := by
  obtain ⟨q, n, c, bs, h1, h2, h3, h4⟩ := h
  exact ⟨q, n, c, bs, h1.upd u (hn.at (by decide) (by decide)), h2, h3.upd u (hn.at (by decide) (by decide)), fun i hi hi' => (h4 i hi hi').upd u (hn.at (by decide) (by decide)) (hn.at (by decide) (by decide))⟩
theorem LocksR.upd {b : Nat} {cores n : Int} {owners : List Int} (h : LocksR r ow H b cores n owners) (u : Upd T ow H ow' H') (hn : ¬ T (r, 11, 0, 0)) : LocksR r ow' H' b cores n owners := Has.upd h u hn
theorem GateR.upd {b : Nat} {cores : Int} {epochs : List Int} {held : List Bool} (h : GateR r ow H b cores epochs held) (u : Upd T ow H ow' H') (hn : ¬ T (r, 12, 0, 0)) : GateR r ow' H' b cores epochs held := Has.upd h u hn
theorem SocR.upd {b : Nat} {s : Soc} (h : SocR r ow H b s) (u : Upd T ow H ow' H') (hn : Off r 0 12 T) : SocR r ow' H' b s := by
  obtain ⟨bb, bx, bl, bg, h1, h2, h3, h4, h5⟩ := h
  exact ⟨bb, bx, bl, bg, h1.upd u (hn.at (by decide) (by decide)), h2.upd u (hn.sub (by decide) (by decide)), h3.upd u (hn.sub (by decide) (by decide)), h4.upd u (hn.at (by decide) (by decide)), h5.upd u (hn.at (by decide) (by decide))⟩
theorem Off.no {r lo hi : Nat} : Off r lo hi Tno := fun _ _ _ _ h => h
end

/-- The blocks that a bus writes for a core; that a mailbox writes; all of a soc's. -/
def TBus (r c : Nat) : Tg → Prop := fun τ => τ.1 = r ∧ (τ.2.1 = 3 ∨ ((τ.2.1 = 5 ∨ τ.2.1 = 6) ∧ τ.2.2.1 = c))
def TBox (r : Nat) : Tg → Prop := fun τ => τ.1 = r ∧ (τ.2.1 = 8 ∨ τ.2.1 = 9 ∨ τ.2.1 = 10)
def TSoc (r : Nat) : Tg → Prop := fun τ => τ.1 = r ∧ τ.2.1 ≤ 12
end Sy

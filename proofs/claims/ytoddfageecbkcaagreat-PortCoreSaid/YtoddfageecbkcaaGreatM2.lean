/-
  THE PLAIN MACHINES AND THE PLAIN BOARD, in numbers and lists. Nothing of the program's text stands here.
-/
import Derived.Test.YtoddfageecbkcaaGreatM
namespace Sy
open Go Go.Eng
set_option linter.unusedVariables false

inductive Touch where
  | ep (p : Int)
  | ld (a : Int)
  | st (a w : Int)
  | fence
  | kick (p : Int)

def Soc.touch (s : Soc) (c : Int) : Touch → Soc × Int
  | .ep p => if 0 ≤ p ∧ p < s.cores then ((s.read c (66048 + p)).1, (s.read c (66048 + p)).2.1) else (s, 0)
  | .ld a => if 0 ≤ a ∧ a < s.words then ((s.read c a).1, (s.read c a).2.1) else (s, 0)
  | .st a w => if 0 ≤ a ∧ a < s.words then ((s.write c a w).1, 0) else (s, 0)
  | .fence => ((s.fence c).1, 0)
  | .kick p => if 0 ≤ p ∧ p < s.cores then ((s.write c (65536 + 16 * p + 2) c).1, 0) else (s, 0)

/-- A giver. -/
structure Gv where
  base : Int
  ring : Int
  self : Int
  peer : Int
  own : Int
  known : Int
  linked : Bool
  free : List Int
  out : List Int
  next : Int
  tail : Int
  st : Int
  i : Int
  left : Int
  d : Int
  answer : Int
  load : List Int

def upto (n : Int) : List Int := (List.range n.toNat).map Int.ofNat

def Gv.first (g : Gv) : Gv := { g with linked := false, out := [], next := 0, tail := 0, st := 0, free := upto g.ring }
def Gv.new (base ring self peer own : Int) : Gv := { base, ring, self, peer, own, known := if own > 0 then -1 else 0, linked := false, free := upto ring, out := [], next := 0, tail := 0, st := 0, i := 0, left := 0, d := 0, answer := 0, load := [] }

def Gv.send (g : Gv) (l : List Int) : Gv × Int :=
  if g.st ≠ 0 then (g, 11) else if l.length > 8 then (g, 18) else if l.any (fun w => w != Word w) then (g, 2) else ({ g with load := l, st := 1 }, 0)

def Gv.epoch (g : Gv) : Int := (g.own + g.known) % 65536

def Gv.touch (g : Gv) : Touch :=
  if g.st = 1 ∨ g.st = 15 then .ep g.peer
  else if g.st = 5 then .ld (g.base + 1)
  else if g.st = 6 then .ld (g.base + 3)
  else if g.st = 7 then .ld (g.base + 4 + g.ring + g.tail % g.ring)
  else if g.st = 14 then .kick g.peer
  else if g.st = 2 then .st (g.base + 2) 0
  else if g.st = 3 then .st g.base g.epoch
  else if g.st = 8 then .st (g.base + 4 + 3 * g.ring + 8 * g.d + g.i) (g.load.getD g.i.toNat 0)
  else if g.st = 9 then .st (g.base + 4 + 2 * g.ring + g.d) g.load.length
  else if g.st = 10 then .st (g.base + 4 + g.next % g.ring) g.d
  else if g.st = 12 then .st (g.base + 2) ((g.next + 1) % 65536)
  else .fence

def Gv.words (g : Gv) : Gv := { g with st := if g.i ≥ g.load.length then 9 else 8 }
def Gv.corrupt (g : Gv) : Gv := { g with st := 15, answer := 10 }
def Gv.roomy (g : Gv) : Gv :=
  let g := { g with st := 7, i := 0 }
  if g.left > 0 then g else match g.free with
    | [] => { g with st := 15, answer := 5 }
    | d :: r => { g with d := d, free := r, out := g.out ++ [d] }.words

/-- Behind a touch that told 'w': the giver, whether the call is over, and its answer. -/
def Gv.after (g : Gv) (w : Int) : Gv × Bool × Int :=
  if g.st = 1 then (if w ≠ g.known then { g with known := w, st := 2 } else if g.linked = false then { g with st := 5 } else { g with st := 6 }, false, 0)
  else if g.st = 4 then (g.first, true, 8)
  else if g.st = 5 then (if w ≠ g.epoch then ({ g with st := 0 }, true, 9) else ({ g with linked := true, st := 6 }, false, 0))
  else if g.st = 6 then
    let g := { g with left := (w - g.tail) % 65536 }
    (if g.left > g.out.length then g.corrupt else g.roomy, false, 0)
  else if g.st = 7 then
    (if w ∈ g.out then { g with out := g.out.erase w, free := g.free ++ [w], tail := (g.tail + 1) % 65536, left := g.left - 1 }.roomy else g.corrupt, false, 0)
  else if g.st = 8 then ({ g with i := g.i + 1 }.words, false, 0)
  else if g.st = 14 then ({ g with st := 15, answer := 0 }, false, 0)
  else if g.st = 15 then
    let g := { g with st := 0 }
    if w ≠ g.known then (g, true, 8) else if g.answer = 0 then ({ g with next := (g.next + 1) % 65536 }, true, 0) else (g, true, g.answer)
  else ({ g with st := g.st + 1 }, false, 0)

/-- A table of handles. -/
structure Tab where
  n : Int
  gens : List Int
  held : List Bool

def Tab.new (n : Int) : Tab := ⟨n, List.replicate 64 0, List.replicate 64 false⟩
def Tab.heldL (t : Tab) : List Int := ((List.range t.n.toNat).filter fun (i : Nat) => t.held.getD i false).map Int.ofNat
def Tab.slotOf (t : Tab) (h : Int) : Option Nat := if h % 64 < t.n ∧ t.held.getD (h % 64).toNat false = true ∧ t.gens.getD (h % 64).toNat 0 * 64 + h % 64 = h then some (h % 64).toNat else none
def Tab.clear (t : Tab) : Tab := { t with held := List.replicate 64 false }
def Tab.give (t : Tab) (i : Nat) : Tab := { t with gens := t.gens.set i ((t.gens.getD i 0 + 1) % 65536), held := t.held.set i true }
def Tab.handle (t : Tab) (i : Nat) : Int := t.gens.getD i 0 * 64 + i

/-- A taker. -/
structure Tk where
  base : Int
  ring : Int
  self : Int
  peer : Int
  own : Int
  known : Int
  linked : Bool
  head : Int
  used : Int
  tab : Tab
  st : Int
  d : Int
  many : Int
  answer : Int
  back : Bool
  load : List Int
  got : Int

def Tk.new (base ring self peer own : Int) : Tk := { base, ring, self, peer, own, known := if own > 0 then -1 else 0, linked := false, head := 0, used := 0, tab := Tab.new ring, st := 0, d := 0, many := 0, answer := 0, back := false, load := [], got := 0 }
def Tk.first (t : Tk) : Tk := { t with linked := false, head := 0, used := 0, st := 0, load := [], got := 0, tab := t.tab.clear }
def Tk.begin (t : Tk) (back : Bool) : Tk := { t with st := 1, back := back, load := [], got := 0 }
def Tk.recv (t : Tk) : Tk × Int := if t.st ≠ 0 then (t, 11) else (t.begin false, 0)
def Tk.release (t : Tk) (h : Int) : Tk × Int := if t.st ≠ 0 then (t, 11) else match t.tab.slotOf h with
  | none => (t, 7)
  | some i => ({ ({ t with tab := { t.tab with held := t.tab.held.set i false } } : Tk).begin true with d := i }, 0)
def Tk.epoch (t : Tk) : Int := (t.own + t.known) % 65536

def Tk.touch (t : Tk) : Touch :=
  if t.st = 1 ∨ t.st = 14 then .ep t.peer
  else if t.st = 5 then .ld t.base
  else if t.st = 6 then .ld (t.base + 2)
  else if t.st = 7 then .ld (t.base + 4 + t.head % t.ring)
  else if t.st = 8 then .ld (t.base + 4 + 2 * t.ring + t.d)
  else if t.st = 9 then .ld (t.base + 4 + 3 * t.ring + 8 * t.d + t.load.length)
  else if t.st = 2 then .st (t.base + 3) 0
  else if t.st = 3 then .st (t.base + 1) t.epoch
  else if t.st = 10 then .st (t.base + 4 + t.ring + t.used % t.ring) t.d
  else if t.st = 12 then .st (t.base + 3) ((t.used + 1) % 65536)
  else .fence

def Tk.waiting (t : Tk) (w : Int) : Int := if (w - t.head) % 65536 = 0 then 6 else if (w - t.head) % 65536 > t.ring - t.tab.heldL.length then 10 else 0
def Tk.corrupt (t : Tk) : Tk := { t with answer := 10, st := 14 }
def Tk.words (t : Tk) : Tk := if t.load.length < t.many then { t with answer := 0 } else { t with answer := 0, st := 14 }

def Tk.after (t : Tk) (w : Int) : Tk × Bool × Int :=
  if t.st = 1 then (if w ≠ t.known then { t with known := w, st := 2 } else if t.linked = false then { t with st := 5 } else if t.back then { t with st := 10 } else { t with st := 6 }, false, 0)
  else if t.st = 4 then (t.first, true, 8)
  else if t.st = 5 then (if w ≠ t.epoch then ({ t with st := 0 }, true, 9) else ({ t with linked := true, st := 6 }, false, 0))
  else if t.st = 6 then (if t.waiting w = 0 then { t with answer := 0, st := 7 } else { t with answer := t.waiting w, st := 14 }, false, 0)
  else if t.st = 7 then (if w ≥ t.ring ∨ w ∈ t.tab.heldL then t.corrupt else { t with d := w, st := 8 }, false, 0)
  else if t.st = 8 then (if w > 8 then t.corrupt else { t with many := w, st := 9 }.words, false, 0)
  else if t.st = 9 then ({ t with load := t.load ++ [w] }.words, false, 0)
  else if t.st = 13 then ({ t with answer := 0, st := 14 }, false, 0)
  else if t.st = 14 then
    let t := { t with st := 0 }
    if w ≠ t.known then ({ t with load := [] }, true, 8)
    else if t.answer ≠ 0 then ({ t with load := [] }, true, t.answer)
    else if t.back then ({ t with used := (t.used + 1) % 65536 }, true, 0)
    else ({ t with head := (t.head + 1) % 65536, got := (t.tab.give t.d.toNat).handle t.d.toNat, tab := t.tab.give t.d.toNat }, true, 0)
  else ({ t with st := t.st + 1 }, false, 0)

def Tk.told (t : Tk) : List Int × Int := if t.st = 0 ∧ t.got ≠ 0 then (t.load, t.got) else ([], 0)

/-! The board. -/

structure Entry where
  core : Int
  peer : Int
  kind : Int
  beg : Int
  fin : Int
  err : Int
  load : List Int
  handle : Int

/-- A core's machines, the call that runs (whether of a taker, and its peer), and its entry. -/
structure Cor where
  givers : List (Option Gv)
  takers : List (Option Tk)
  runs : Option (Bool × Nat)
  entry : Nat

structure Brd where
  cores : Int
  ring : Int
  most : Int
  soc : Soc
  cs : List Cor
  diary : List Entry
  now : Int

structure Ev where
  kind : Int
  core : Int
  peer : Int
  handle : Int
  load : List Int
  addr : Int
  word : Int

def sizeOf (ring : Int) : Int := 4 + 11 * ring
/-- Where a channel begins. -/
def baseOf (cores ring f t : Int) : Int := (f * (cores - 1) + t - (if t > f then 1 else 0)) * sizeOf ring

def freshG (cores ring id own : Int) : List (Option Gv) := (upto cores).map fun p => if p = id then none else some (Gv.new (baseOf cores ring id p) ring id p own)
def freshT (cores ring id own : Int) : List (Option Tk) := (upto cores).map fun p => if p = id then none else some (Tk.new (baseOf cores ring p id) ring id p own)
def fresh (cores ring id own : Int) : Cor := ⟨freshG cores ring id own, freshT cores ring id own, none, 0⟩

def Brd.new (cores ring most : Int) : Brd := ⟨cores, ring, most, Soc.new cores (cores * (cores - 1) * sizeOf ring) 1 most, (upto cores).map fun i => fresh cores ring i 0, [], 0⟩

def Brd.has (b : Brd) (id : Int) : Bool := decide (0 ≤ id ∧ id < b.cores)
def Brd.ready (b : Brd) (id : Int) : Int := if b.has id = false then 3 else if b.soc.up id = false then 19 else 0
def Brd.cor (b : Brd) (id : Int) : Cor := b.cs.getD id.toNat ⟨[], [], none, 0⟩
def Brd.setCor (b : Brd) (id : Int) (c : Cor) : Brd := { b with cs := b.cs.set id.toNat c }
def Brd.busy (b : Brd) (id : Int) : Bool := b.has id && (b.cor id).runs.isSome

def setFin (b : Brd) (k : Nat) (now err : Int) : List Entry := b.diary.modify k fun e => { e with fin := now, err := err }

def Brd.step (b : Brd) (id : Int) : Brd × Int :=
  if b.ready id ≠ 0 then (b, b.ready id) else
  let c := b.cor id
  match c.runs with
  | none => (b, 13)
  | some (false, p) => match c.givers.getD p none with
    | none => (b, 0)
    | some g =>
      let (s, w) := b.soc.touch id g.touch
      let (g, done, e) := g.after w
      let c := { c with givers := c.givers.set p (some g) }
      if done then ({ b with soc := s, diary := setFin b c.entry b.now e, cs := b.cs.set id.toNat { c with runs := none } }, 0)
      else ({ b with soc := s, cs := b.cs.set id.toNat c }, 0)
  | some (true, p) => match c.takers.getD p none with
    | none => (b, 0)
    | some t =>
      let (s, w) := b.soc.touch id t.touch
      let (t, done, e) := t.after w
      let c := { c with takers := c.takers.set p (some t) }
      if done then
        let l := setFin b c.entry b.now e
        let l := if e = 0 then l.modify c.entry (fun x => if x.kind = 2 then { x with load := t.told.1, handle := t.told.2 } else x) else l
        ({ b with soc := s, diary := l, cs := b.cs.set id.toNat { c with runs := none } }, 0)
      else ({ b with soc := s, cs := b.cs.set id.toNat c }, 0)

def Brd.begin (b : Brd) (x : Ev) (c : Cor) (t : Bool) (l : List Int) (h : Int) : Brd :=
  { b with cs := b.cs.set x.core.toNat { c with runs := some (t, x.peer.toNat), entry := b.diary.length }, diary := b.diary ++ [⟨x.core, x.peer, x.kind - 2, b.now, 0, 0, l, h⟩] }

def Brd.call (b : Brd) (x : Ev) : Brd × Int :=
  if (b.has x.core && b.has x.peer) = false then (b, 3) else
  if b.ready x.core ≠ 0 then (b, b.ready x.core) else
  if x.core = x.peer then (b, 2) else
  let c := b.cor x.core
  if c.runs.isSome then (b, 11) else
  match c.givers.getD x.peer.toNat none, c.takers.getD x.peer.toNat none with
  | some g, some t =>
    if x.kind = 3 then
      let (g, e) := g.send x.load
      if e ≠ 0 then (b, e) else (b.begin x { c with givers := c.givers.set x.peer.toNat (some g) } false x.load 0, 0)
    else if x.kind = 4 then
      let (t, e) := t.recv
      if e ≠ 0 then (b, e) else (b.begin x { c with takers := c.takers.set x.peer.toNat (some t) } true [] 0, 0)
    else
      let (t, e) := t.release x.handle
      if e ≠ 0 then (b, e) else (b.begin x { c with takers := c.takers.set x.peer.toNat (some t) } true [] x.handle, 0)
  | _, _ => (b, 0)

def Brd.do (b : Brd) (x : Ev) : Brd × Int :=
  let b := { b with now := b.now + 1 }
  if x.kind = 1 then b.step x.core
  else if x.kind = 2 then ({ b with soc := (b.soc.drain x.core).1 }, (b.soc.drain x.core).2.2)
  else if x.kind = 3 ∨ x.kind = 4 ∨ x.kind = 5 then b.call x
  else if x.kind = 6 then
    let (s, e) := b.soc.hold x.core
    if e = 0 then ({ b with soc := s, cs := b.cs.set x.core.toNat ⟨[], [], none, 0⟩ }, e) else ({ b with soc := s }, e)
  else if x.kind = 7 then
    let (s, e) := b.soc.start x.core
    if e = 0 then ({ b with soc := s, cs := b.cs.set x.core.toNat (fresh b.cores b.ring x.core (s.epoch x.core)) }, e) else ({ b with soc := s }, e)
  else if x.kind = 8 then
    let (s, e) := b.soc.write x.core x.addr x.word
    ({ b with soc := s }, e)
  else (b, 2)
end Sy

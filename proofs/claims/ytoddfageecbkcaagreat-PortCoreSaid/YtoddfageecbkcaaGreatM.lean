/-
  THE PLAIN SOC: what memory, buffers, mailboxes, locks and gate do, in plain numbers and lists. Nothing of the program's text stands here.
-/
import Derived.Test.YtoddfageecbkcaaGreatEng
namespace Sy
open Go Go.Eng
set_option linter.unusedVariables false

abbrev Word (n : Int) : Int := n % 65536

/-- The word of the last cell of an address. -/
def find : List (Int × Int) → Int → Option Int
  | [], _ => none
  | (a, w) :: r, x => match find r x with
    | some v => some v
    | none => if a = x then some w else none

structure Soc where
  cores : Int
  words : Int
  locks : Int
  most : Int
  ram : List Int
  bufs : List (List (Int × Int))
  box : List (Int × List Int)
  owners : List Int
  epochs : List Int
  held : List Bool

/-- May there be such a plan? -/
def rightPlan (cores words locks : Int) : Bool := decide (1 ≤ cores ∧ cores ≤ 8) && decide (1 ≤ words ∧ words ≤ 65536) && decide (1 ≤ locks ∧ locks ≤ 16)

def Soc.new (cores words locks most : Int) : Soc :=
  { cores, words, locks, most, ram := List.replicate words.toNat 0, bufs := List.replicate cores.toNat [], box := List.replicate cores.toNat (0, []), owners := List.replicate 16 0, epochs := List.replicate 8 0, held := List.replicate 8 false }

def Soc.has (s : Soc) (c : Int) : Bool := decide (0 ≤ c ∧ c < s.cores)
def Soc.buf (s : Soc) (c : Int) : List (Int × Int) := s.bufs.getD c.toNat []
def Soc.heldAt (s : Soc) (c : Int) : Bool := s.held.getD c.toNat false
def Soc.up (s : Soc) (c : Int) : Bool := s.has c && !s.heldAt c
def Soc.epoch (s : Soc) (c : Int) : Int := s.epochs.getD c.toNat 0
def Soc.owner (s : Soc) (i : Int) : Int := s.owners.getD i.toNat 0
def Soc.mail (s : Soc) (c : Int) : Int × List Int := s.box.getD c.toNat (0, [])

/-- Why a core can do nothing. -/
def Soc.wrong (s : Soc) (c : Int) : Int := if s.has c = false then 3 else if s.heldAt c then 19 else 0

/-- A store stands in the memory. -/
def setRam (ram : List Int) (p : Int × Int) : List Int := if 0 ≤ p.1 ∧ p.1 < ram.length then ram.set p.1.toNat p.2 else ram

def Soc.drain1 (s : Soc) (c : Int) : Soc := match s.buf c with
  | [] => s
  | p :: r => { s with ram := setRam s.ram p, bufs := s.bufs.set c.toNat r }

def Soc.flush (s : Soc) (c : Int) : Soc := { s with ram := (s.buf c).foldl setRam s.ram, bufs := s.bufs.set c.toNat [] }

inductive Spot where
  | ram
  | mail (i r : Int)
  | lock (i : Int)
  | gate (i : Int)
  | none

def Soc.spot (s : Soc) (a : Int) : Spot :=
  if a < 65536 then (if 0 ≤ a ∧ a < s.words then .ram else .none)
  else if a < 65792 then (if (a - 65536) / 16 < s.cores ∧ a % 16 < 3 then .mail ((a - 65536) / 16) (a % 16) else .none)
  else if a < 66048 then (if a - 65792 < s.locks then .lock (a - 65792) else .none)
  else (if a - 66048 < s.cores then .gate (a - 66048) else .none)

def Soc.load (s : Soc) (c a : Int) : Int := match find (s.buf c) a with
  | some w => w
  | none => s.ram.getD a.toNat 0

def Soc.setMail (s : Soc) (c : Int) (x : Int × List Int) : Soc := { s with box := s.box.set c.toNat x }

/-- What is read of what is no memory. -/
def Soc.register (s : Soc) (c : Int) : Spot → Soc × Int
  | .lock i => if s.owner i = 0 then ({ s with owners := s.owners.set i.toNat (c + 1) }, 1) else (s, 0)
  | .gate i => (s, s.epoch i)
  | .mail i r => if r = 0 then (s, (s.mail c).1) else if r = 1 then (match (s.mail c).2 with
      | [] => (s, 0)
      | n :: l => (s.setMail c ((s.mail c).1, l), n % 65536)) else (s, ((s.mail c).2.length : Int))
  | _ => (s, 0)

def Soc.read (s : Soc) (c a : Int) : Soc × Int × Int :=
  if s.wrong c ≠ 0 then (s, 0, s.wrong c) else
  match s.spot a with
  | .none => (s, 0, 4)
  | .ram => (s, s.load c a, 0)
  | .mail i r => if i ≠ c then (s, 0, 4) else let (s', n) := (s.flush c).register c (.mail i r); (s', n, 0)
  | x => let (s', n) := (s.flush c).register c x; (s', n, 0)

def Soc.store (s : Soc) (c a w : Int) : Soc :=
  let s := if ((s.buf c).length : Int) = s.most then s.drain1 c else s
  { s with bufs := s.bufs.set c.toNat (s.buf c ++ [(a, w)]) }

def Soc.ring (s : Soc) (c i w : Int) : Soc × Int :=
  let b := bitsOf .or .i64 (s.mail i).1 (shlOf .i64 1 c)
  if (s.mail i).2.length = 16 then (s.setMail i (b, (s.mail i).2), 5) else (s.setMail i (b, (s.mail i).2 ++ [c * 65536 + w]), 0)

def Soc.write (s : Soc) (c a w : Int) : Soc × Int :=
  if s.wrong c ≠ 0 then (s, s.wrong c) else
  match s.spot a with
  | .none => (s, 4)
  | .gate _ => (s, 4)
  | .ram => if w ≠ Word w then (s, 2) else (s.store c a w, 0)
  | .lock i => if w ≠ Word w then (s, 2) else if s.owner i - 1 ≠ c then (s, 12) else let s := s.flush c; ({ s with owners := s.owners.set i.toNat 0 }, 0)
  | .mail i r => if ¬ (r = 2 ∨ r = 0 ∧ i = c) then (s, 4) else if w ≠ Word w then (s, 2) else
      let s := s.flush c
      if r = 0 then (s.setMail c (bitsOf .andNot .i64 (s.mail c).1 w, (s.mail c).2), 0) else s.ring c i w

def Soc.fence (s : Soc) (c : Int) : Soc × Int × Int := if s.wrong c ≠ 0 then (s, 0, s.wrong c) else (s.flush c, (s.buf c).length, 0)

def Soc.drain (s : Soc) (c : Int) : Soc × Bool × Int := if s.has c = false then (s, false, 3) else (s.drain1 c, !(s.buf c).isEmpty, 0)

def Soc.swap (s : Soc) (c a w : Int) : Soc × Int × Int :=
  if s.wrong c ≠ 0 then (s, 0, s.wrong c) else
  match s.spot a with
  | .ram => if w < 0 ∨ w > 65535 then (s, 0, 2) else let s' := s.flush c; ({ s' with ram := s'.ram.set a.toNat w }, s'.ram.getD a.toNat 0, 0)
  | _ => (s, 0, 4)

/-- The locks that a core has; all of them let go. -/
def heldOf (owners : List Int) (c : Int) : List Nat := (List.range 16).filter fun i => owners.getD i 0 == c + 1
def relLocks (owners : List Int) (c : Int) : List Int := (heldOf owners c).foldl (fun o i => o.set i 0) owners

def Soc.hold (s : Soc) (c : Int) : Soc × Int :=
  if s.has c = false then (s, 3) else if s.heldAt c then (s, 11) else
  ({ s with held := s.held.set c.toNat true, bufs := s.bufs.set c.toNat [], box := s.box.set c.toNat (0, []), owners := relLocks s.owners c }, 0)

def Soc.start (s : Soc) (c : Int) : Soc × Int :=
  if s.has c = false then (s, 3) else if s.heldAt c = false then (s, 13) else
  ({ s with held := s.held.set c.toNat false, epochs := s.epochs.set c.toNat ((s.epoch c + 1) % 65536) }, 0)

/-- What always stands. -/
structure Soc.Ok (s : Soc) : Prop where
  right : rightPlan s.cores s.words s.locks = true
  most : 1 ≤ s.most ∧ s.most ≤ 16
  ram : s.ram.length = s.words.toNat
  ramw : ∀ w ∈ s.ram, 0 ≤ w ∧ w < 65536
  bufs : s.bufs.length = s.cores.toNat
  bufl : ∀ l ∈ s.bufs, (l.length : Int) ≤ s.most
  bufw : ∀ l ∈ s.bufs, ∀ p ∈ l, (0 ≤ p.1 ∧ p.1 < s.words) ∧ 0 ≤ p.2 ∧ p.2 < 65536
  box : s.box.length = s.cores.toNat
  boxl : ∀ x ∈ s.box, x.2.length ≤ 16
  owners : s.owners.length = 16
  ownersw : ∀ x ∈ s.owners, 0 ≤ x ∧ x ≤ 8
  epochs : s.epochs.length = 8
  epochsw : ∀ x ∈ s.epochs, 0 ≤ x ∧ x < 65536
  held : s.held.length = 8
  boxw : ∀ x ∈ s.box, ∀ n ∈ x.2, 0 ≤ n ∧ n < 8 * 65536
end Sy

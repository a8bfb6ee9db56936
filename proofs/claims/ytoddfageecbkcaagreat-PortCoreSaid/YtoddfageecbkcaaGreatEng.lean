/-
  THE ENGINE: an evaluator of the model's code over symbolic values: what a function's text asks of its continuation; it is proved sound for calls (callsH_of_W). Nothing of the program stands here.
  Conditions: the program follows mixedOrders (every program that is loaded wide does).
-/
import Derived.WalkKit
import Derived.OrdersHeld
import Derived.Scope
import Derived.ScopeJumps
/-! The primitives: what the shallow texts are made of. A heap is the world's array of blocks; the rest of the world stands still but for the count of draws. -/
namespace Go.Eng
open Go

abbrev Hp := Array Obj

structure Amb where
  tape : Nat → Question → Nat
  os : Os
  output : Array (Nat × ByteArray)

def mkW (m : Amb) (H : Hp) (d : Nat) : World := { heap := H, tape := m.tape, drawn := d, os := m.os, output := m.output }

def cellAt (H : Hp) (a : Addr) : Option Value :=
  match H[a.block]? with
  | some (.cells c _ _) => if a.spot.isSome then none else c[a.off]?
  | _ => none

def frozenAt (H : Hp) (a : Addr) : Bool :=
  match H[a.block]? with
  | some (.cells _ _ (lo, hi)) => lo ≤ a.off && a.off < hi
  | _ => false

def setAt (H : Hp) (a : Addr) (v : Value) : Hp :=
  H.modify a.block fun
      | .cells c elem frozen => .cells (if a.spot.isSome then c else c.setIfInBounds a.off v) elem frozen
      | o => o

def CallsH (P : Program) (m : Amb) (f : FuncId) (args : List Value) (H : Hp) (K : Value → Hp → Prop) : Prop :=
  ∀ d, Calls P f args.toArray (mkW m H d) fun e w' => ∃ v H' d', e = .returned v ∧ w' = mkW m H' d' ∧ K v H'

def callable (P : Program) (f : FuncId) : Bool :=
  match P.funcs[f]? with
  | some fn => fn.body.isSome && fn.name != "runtime.NumGoroutine"
  | none => false

/-- A block's cells (a block of which no part is frozen). -/
def cells (H : Hp) (b : Nat) : Option (List Value) :=
  match H[b]? with
  | some (.cells c _ (0, 0)) => some c.toList
  | _ => none

/-- A block's cells, for one who reads (some part may be frozen). -/
def rcells (H : Hp) (b : Nat) : Option (List Value) :=
  match H[b]? with
  | some (.cells c _ _) => some c.toList
  | _ => none

def setBlk (H : Hp) (b : Nat) (cs : List Value) : Hp :=
  H.modify b fun
      | .cells _ elem frozen => .cells cs.toArray elem frozen
      | o => o

/-- A list with others laid over it from a place on. -/
def over (cs : List Value) (o : Nat) (vs : List Value) : List Value := cs.take o ++ vs ++ cs.drop (o + vs.length)

def oneCells (vs : List Value) : Prop := ∀ v ∈ vs, v.oneCell' = true

abbrev ldI (kk : IntKind) (H : Hp) (p : Addr) (k : Int → Prop) : Prop := p.spot = none ∧ ∃ cs, rcells H p.block = some cs ∧ ∃ x : Int, cs[p.off]? = some (.int kk x) ∧ k x
abbrev ldB (H : Hp) (p : Addr) (k : Bool → Prop) : Prop := p.spot = none ∧ ∃ cs, rcells H p.block = some cs ∧ ∃ x : Bool, cs[p.off]? = some (.bool x) ∧ k x
abbrev ldP (H : Hp) (p : Addr) (k : Option Addr → Prop) : Prop := p.spot = none ∧ ∃ cs, rcells H p.block = some cs ∧ ∃ x : Option Addr, cs[p.off]? = some (.pointer x) ∧ k x
abbrev ldS (H : Hp) (p : Addr) (k : Option Addr → Nat → Nat → Prop) : Prop := p.spot = none ∧ ∃ cs, rcells H p.block = some cs ∧ ∃ (q : Option Addr) (n c : Nat), cs[p.off]? = some (.slice q n c) ∧ k q n c
abbrev ldT (H : Hp) (p : Addr) (k : ByteArray → Prop) : Prop := p.spot = none ∧ ∃ cs, rcells H p.block = some cs ∧ ∃ x : ByteArray, cs[p.off]? = some (.string x) ∧ k x
abbrev ldV (H : Hp) (p : Addr) (k : Value → Prop) : Prop := p.spot = none ∧ ∃ cs, rcells H p.block = some cs ∧ ∃ x : Value, cs[p.off]? = some x ∧ x.oneCell' = true ∧ k x
def st (H : Hp) (p : Addr) (v : Value) (k : Hp → Prop) : Prop := p.spot = none ∧ v.oneCell' = true ∧ ∃ cs, cells H p.block = some cs ∧ p.off < cs.length ∧ k (setBlk H p.block (cs.set p.off v))
abbrev nw (H : Hp) (cs : List Value) (t : TypeId) (k : Addr → Hp → Prop) : Prop := k ⟨H.size, 0, none⟩ (H.push (.cells cs.toArray t))
abbrev nn (q : Option Addr) (k : Addr → Prop) : Prop := ∃ a, q = some a ∧ k a
abbrev ixA (i : Int) (n : Nat) (k : Prop) : Prop := (0 ≤ i ∧ i < n) ∧ k
abbrev ixS (q : Option Addr) (i : Int) (n : Nat) (k : Addr → Prop) : Prop := ∃ a, q = some a ∧ (0 ≤ i ∧ i < n) ∧ k a
abbrev br (b : Bool) (x y : Prop) : Prop := (b = true → x) ∧ (b = false → y)
abbrev must (p k : Prop) : Prop := p ∧ k
def cl (P : Program) (m : Amb) (f : FuncId) (args : List Value) (H : Hp) (k : Value → Hp → Prop) : Prop := CallsH P m f args H k
def clV (P : Program) (m : Amb) (fv : Value) (args : List Value) (H : Hp) (k : Value → Hp → Prop) : Prop := ∃ f first cap, fv = .func (.func f) first cap ∧ callable P f = true ∧ CallsH P m f (first.toList ++ args ++ cap.toList) H k
def inv (P : Program) (m : Amb) (v : Value) (name : String) (args : List Value) (H : Hp) (k : Value → Hp → Prop) : Prop := ∃ t x f r, v = .iface t x ∧ callable P f = true ∧ (∀ d, (method (P.types.size + Made.depth) t x name).run P (mkW m H d) = .ok (f, r) (mkW m H d)) ∧ CallsH P m f (r :: args) H k
abbrev ifcNil (v : Value) (k : Bool → Prop) : Prop := (v = .nilIface ∧ k true) ∨ (∃ t x, v = .iface t x ∧ k false)
def zc (P : Program) (t : TypeId) : List Value := match P.info? t with | some i => (match i.zero with | some z => z.cells.toList | none => []) | none => []
def rawV (P : Program) (m : Amb) (H : Hp) (s : Sem Next) (k : Value → Hp → Prop) : Prop := ∀ d, ∃ v H' d', s.run P (mkW m H d) = .ok (.value v) (mkW m H' d') ∧ k v H'
def rawP (P : Program) (s : Sem Next) (k : Value → Prop) : Prop := ∃ v, (∀ w, s.run P w = .ok (.value v) w) ∧ k v
def cont (H : Hp) (p : Addr) (v : Value) : Prop := p.spot = none ∧ ∃ cs, cells H p.block = some cs ∧ cs[p.off]? = some v
def rd (H : Hp) (q : Option Addr) (n : Nat) (k : List Value → Prop) : Prop := (n = 0 ∧ k []) ∨ (∃ a, q = some a ∧ a.spot = none ∧ ∃ cs, rcells H a.block = some cs ∧ a.off + n ≤ cs.length ∧ k ((cs.drop a.off).take n))
def wrs (H : Hp) (q : Option Addr) (o : Nat) (vs : List Value) (k : Hp → Prop) : Prop := (vs = [] ∧ k H) ∨ (∃ a, q = some a ∧ a.spot = none ∧ oneCells vs ∧ ∃ cs, cells H a.block = some cs ∧ a.off + o + vs.length ≤ cs.length ∧ k (setBlk H a.block (over cs (a.off + o) vs)))
def ap (P : Program) (e : TypeId) (esz bytes : Nat) (H : Hp) (q : Option Addr) (n c : Nat) (new : List Value) (len : Nat) (k : Option Addr → Nat → Nat → Hp → Prop) : Prop := (n + len ≤ c → wrs H q (n * esz) new (fun H' => k q (n + len) c H')) ∧ (c < n + len → n + len < 2 ^ 62 ∧ Builtin.nextslicecap (n + len) c * bytes ≤ 2 ^ 48 ∧ rd H q (n * esz) (fun old => ∀ c', n + len ≤ c' → c' < 2 ^ 63 → k (some ⟨H.size, 0, none⟩) (n + len) c' (H.push (.cells (old.toArray ++ new.toArray ++ Builtin.zeroCells (zc P e).toArray (c' - (n + len))) e))))
def cpy (esz : Nat) (H : Hp) (q : Option Addr) (n : Nat) (q' : Option Addr) (n' : Nat) (k : Int → Hp → Prop) : Prop := rd H q' (Nat.min n' n * esz) (fun cs => wrs H q 0 cs (fun H' => k (Nat.min n' n) H'))
def mkS (P : Program) (e : TypeId) (esz bytes : Nat) (H : Hp) (l c : Int) (k : Option Addr → Nat → Nat → Hp → Prop) : Prop := (0 ≤ l ∧ l ≤ c ∧ c ≤ 2 ^ 48 ∧ bytes * c ≤ 2 ^ 48) ∧ k (some ⟨H.size, 0, none⟩) l.toNat c.toNat (H.push (.cells ((Array.range (c.toNat * esz)).map fun i => (zc P e).toArray[i % (zc P e).toArray.size]!) e))
def sli (q : Option Addr) (n c esz : Nat) (lo hi mx : Option Int) (k : Option Addr → Nat → Nat → Prop) : Prop := (0 ≤ lo.getD 0 ∧ lo.getD 0 ≤ hi.getD n ∧ hi.getD n ≤ mx.getD c ∧ mx.getD c ≤ c) ∧ k (if (mx.getD c).toNat = (lo.getD 0).toNat then q else q.map (·.add ((lo.getD 0).toNat * esz))) ((hi.getD n).toNat - (lo.getD 0).toNat) ((mx.getD c).toNat - (lo.getD 0).toNat)
def sliT (s : ByteArray) (lo hi : Option Int) (k : ByteArray → Prop) : Prop := (0 ≤ lo.getD 0 ∧ lo.getD 0 ≤ hi.getD s.size ∧ hi.getD s.size ≤ s.size) ∧ k (s.extract (lo.getD 0).toNat (hi.getD s.size).toNat)
def ixT (s : ByteArray) (i : Int) (k : Int → Prop) : Prop := ∃ b : UInt8, 0 ≤ i ∧ s[i.toNat]? = some b ∧ k b.toNat
def ixG (cs : List Value) (i : Int) (k : Value → Prop) : Prop := ∃ v, 0 ≤ i ∧ cs[i.toNat]? = some v ∧ k v
abbrev ptrEq (q r : Option Addr) (k : Bool → Prop) : Prop := (r = none ∧ k q.isNone) ∨ (q = none ∧ k r.isNone)
abbrev nmv (P : Program) (v : Value) (name : String) (k : Prop) : Prop := (∃ t x, v = .iface t x ∧ ∀ w, (nilAhead (P.types.size + Made.depth) t x name).run P w = .ok (some false) w) ∧ k
end Go.Eng

/-! The evaluator: what a function's code asks of its continuation, over symbolic values. -/
namespace Go.Eng
open Go

/-- One cell's value, as far as it is known. -/
inductive Sc where
  | i (k : IntKind) (x : Int)
  | b (x : Bool)
  | tt
  | ff
  | a (p : Addr)
  | p (q : Option Addr)
  | sl (q : Option Addr) (n c : Nat)
  | s (x : ByteArray)
  | v (x : Value)
  | fn (f : Fn) (first cap : List Value)
  | ifc (t : TypeId) (x : Value)
  | nili

def Sc.toV : Sc → Value
  | .i k x => .int k x
  | .b x => .bool x
  | .tt => .bool true
  | .ff => .bool false
  | .a x => .pointer (some x)
  | .p x => .pointer x
  | .sl x n c => .slice x n c
  | .s x => .string x
  | .v x => x
  | .fn f x y => .func f x.toArray y.toArray
  | .ifc t x => .iface t x
  | .nili => .nilIface

def toVs : List Sc → List Value
  | [] => []
  | x :: r => x.toV :: toVs r

inductive Tc where
  | c (x : Sc)
  | g (l : List Sc)

def Tc.toV : Tc → Value
  | .c x => x.toV
  | .g l => .agg (toVs l).toArray

def tcVs : List Tc → List Value
  | [] => []
  | x :: r => x.toV :: tcVs r

inductive SV where
  | c (x : Sc)
  | g (l : List Sc)
  | t (l : List Tc)

def SV.toV : SV → Value
  | .c x => x.toV
  | .g l => .agg (toVs l).toArray
  | .t l => .tuple (tcVs l).toArray

def SV.cells : SV → List Value
  | .c x => [x.toV]
  | .g l => toVs l
  | .t l => [.tuple (tcVs l).toArray]

abbrev Fr := List SV

def svs : Fr → List Value
  | [] => []
  | x :: r => x.toV :: svs r

def ofConst : Value → Sc
  | .bool true => .tt
  | .bool false => .ff
  | .int k n => .i k n
  | .pointer q => .p q
  | .slice q n c => .sl q n c
  | .string s => .s s
  | .nilIface => .nili
  | v => .v v

def ofConsts : List Value → List Sc
  | [] => []
  | x :: r => ofConst x :: ofConsts r

def ofConstV : Value → SV
  | .agg cs => .g (ofConsts cs.toList)
  | .tuple cs => if cs.isEmpty then .t [] else .c (.v (.tuple cs))
  | v => .c (ofConst v)

def nth : Fr → Nat → SV
  | [], _ => .t []
  | x :: _, 0 => x
  | _ :: r, n + 1 => nth r n

def upd : Fr → Nat → SV → Fr
  | [], _, _ => []
  | _ :: r, 0, v => v :: r
  | x :: r, n + 1, v => x :: upd r n v

def ev (F : Fr) : Operand → SV
  | .tmp t => nth F t
  | .const v => ofConstV v
  | .global g => .c (.a ⟨g, 0, none⟩)
  | .func f => .c (.fn (.func f) [] [])

def evV (F : Fr) (x : Operand) : Value := (ev F x).toV

def evVs (F : Fr) : List Operand → List Value
  | [] => []
  | x :: r => evV F x :: evVs F r

inductive Ty where
  | i (k : IntKind)
  | b
  | p
  | sl
  | s
  | o

def scTy (P : Program) (t : TypeId) : Ty :=
  match P.underlying t with
  | some (.int k) => .i k
  | some .bool => .b
  | some (.pointer _) => .p
  | some (.slice _) => .sl
  | some .string => .s
  | _ => .o

def rep (n : Nat) (l : List Ty) : List Ty :=
  match n with
  | 0 => []
  | n + 1 => l ++ rep n l

def cellTys (P : Program) : Nat → TypeId → List Ty
  | 0, _ => []
  | d + 1, t =>
    match P.underlying t with
    | some (.struct fs) => fs.toList.flatMap fun f => cellTys P d f.type
    | some (.array n e) => rep n (cellTys P d e)
    | _ => [scTy P t]

def isAggT (P : Program) (t : TypeId) : Bool :=
  match P.underlying t with
  | some (.struct _) | some (.array _ _) => true
  | _ => false

def hasT (P : Program) (t : TypeId) : Bool := (P.info? t).isSome

def undOk (P : Program) (t : TypeId) : Bool := (P.underlying t).isSome

def zeroOk (P : Program) (t : TypeId) : Bool :=
  match P.info? t with
  | some i => i.zero.isSome
  | none => false

/-- Some value of a cell of a type. -/
def exC (ty : Ty) (k : Sc → Prop) : Prop :=
  match ty with
  | .i kk => ∃ x : Int, k (.i kk x)
  | .b => ∃ x : Bool, k (.b x)
  | .p => ∃ q : Option Addr, k (.p q)
  | .sl => ∃ (q : Option Addr) (n c : Nat), k (.sl q n c)
  | .s => ∃ x : ByteArray, k (.s x)
  | .o => ∃ v : Value, k (.v v)

def exCs : List Ty → (List Sc → Prop) → Prop
  | [], k => k []
  | ty :: r, k => exC ty fun x => exCs r fun xs => k (x :: xs)

def exT (P : Program) (t : TypeId) (k : Tc → Prop) : Prop :=
  if isAggT P t then exCs (cellTys P 20 t) fun l => k (.g l) else exC (scTy P t) fun x => k (.c x)

def exTs (P : Program) : List TypeId → (List Tc → Prop) → Prop
  | [], k => k []
  | t :: r, k => exT P t fun x => exTs P r fun xs => k (x :: xs)

/-- Some value of a type (a call's result). -/
def exV (P : Program) (t : TypeId) (k : SV → Prop) : Prop :=
  match P.underlying t with
  | some (.tuple es) => exTs P es.toList fun l => k (.t l)
  | _ => if isAggT P t then exCs (cellTys P 20 t) fun l => k (.g l) else exC (scTy P t) fun x => k (.c x)

def ldC (ty : Ty) (H : Hp) (p : Addr) (k : Sc → Prop) : Prop :=
  match ty with
  | .i kk => ldI kk H p fun x => k (.i kk x)
  | .b => ldB H p fun x => k (.b x)
  | .p => ldP H p fun x => k (.p x)
  | .sl => ldS H p fun q n c => k (.sl q n c)
  | .s => ldT H p fun x => k (.s x)
  | .o => ldV H p fun x => k (.v x)

def ldCs : List Ty → Hp → Addr → Nat → (List Sc → Prop) → Prop
  | [], _, _, _, k => k []
  | ty :: r, H, p, i, k => ldC ty H (p.add i) fun x => ldCs r H p (i + 1) fun xs => k (x :: xs)

def ldW (P : Program) (t : TypeId) (H : Hp) (p : Addr) (k : SV → Prop) : Prop :=
  if isAggT P t then (if (cellTys P 20 t).length == P.cellsOf t && hasT P t then ldCs (cellTys P 20 t) H p 0 fun l => k (.g l) else False) else if undOk P t then ldC (scTy P t) H p fun x => k (.c x) else False

def stCs : List Value → Hp → Addr → Nat → (Hp → Prop) → Prop
  | [], H, _, _, k => k H
  | v :: r, H, p, i, k => st H (p.add i) v fun H' => stCs r H' p (i + 1) k

def zeroCs (P : Program) (t : TypeId) : List Sc := ofConsts (match P.info? t with | some i => (match i.zero with | some z => z.cells.toList | none => []) | none => [])

def splice : List Sc → Nat → List Sc → List Sc
  | l, 0, [] => l
  | [], _, _ => []
  | _ :: r, 0, y :: ys => y :: splice r 0 ys
  | x :: r, n + 1, ys => x :: splice r n ys

def SV.scs : SV → List Sc
  | .c x => [x]
  | .g l => l
  | .t _ => []

def fieldOff (P : Program) (t : TypeId) (i : Nat) : Option (Nat × TypeId) :=
  match P.underlying t with
  | some (.struct fs) => match fs.toList[i]? with
    | some f => some (f.offset, f.type)
    | none => none
  | _ => none

def structPlaces (P : Program) : List Field → Option (List (Nat × Nat))
  | [] => some []
  | f :: r => if hasT P f.type then (match structPlaces P r with
    | some l => some ((f.offset, P.cellsOf f.type) :: l)
    | none => none) else none

/-- The parts of a literal, laid over its zero value. -/
def fillW (place : Nat → Option (Nat × Nat)) (F : Fr) : List (Nat × Operand) → List Sc → Option (List Sc)
  | [], acc => some acc
  | (i, x) :: r, acc => match place i with
    | some (off, size) => match ev F x with
      | .t _ => none
      | sv => if sv.scs.length == size && decide (off + sv.scs.length ≤ acc.length) then fillW place F r (splice acc off sv.scs) else none
    | none => none

/-- A value of which nothing is known is to be one cell's. -/
def okSV (x : SV) (k : Prop) : Prop :=
  match x with
  | .c (.v x) => must (x.oneCell' = true) k
  | _ => k

def okParts (F : Fr) : List (Nat × Operand) → Prop → Prop
  | [], k => k
  | (_, x) :: r, k => okSV (ev F x) (okParts F r k)

def buildW (P : Program) (t : TypeId) (F : Fr) (parts : List (Nat × Operand)) : Option (List Sc) :=
  if zeroOk P t then (match P.underlying t with
  | some (.struct fs) => match structPlaces P fs.toList with
    | some l => fillW (fun i => l[i]?) F parts (zeroCs P t)
    | none => none
  | some (.array _ e) => if hasT P e then fillW (fun i => some (i * P.cellsOf e, P.cellsOf e)) F parts (zeroCs P t) else none
  | _ => none) else none

def repC (n : Nat) (l : List Sc) : List Sc :=
  match n with
  | 0 => []
  | n + 1 => l ++ repC n l

def elemOf' (P : Program) (t : TypeId) : Option TypeId :=
  match P.underlying t with
  | some (.slice e) => some e
  | _ => none

def boolSV (x : Bool) : SV := .c (.b x)

def wr (k : IntKind) (n : Int) : Int := k.wrap n

def bitsOf (op : BinOp) (k : IntKind) (x y : Int) : Int :=
  let a := BitVec.ofInt k.bits x
  let b := BitVec.ofInt k.bits y
  match op with
  | .and => k.wrap (a &&& b).toNat
  | .or => k.wrap (a ||| b).toNat
  | .xor => k.wrap (a ^^^ b).toNat
  | _ => k.wrap (a &&& ~~~b).toNat

def shlOf (k : IntKind) (x y : Int) : Int := k.wrap (x * 2 ^ (min y.toNat k.bits))
def shrOf (k : IntKind) (x y : Int) : Int := x.fdiv (2 ^ (min y.toNat k.bits))

def intOp (op : BinOp) (k : IntKind) (x y : Int) (K : SV → Prop) : Prop :=
  match op with
  | .add => K (.c (.i k (wr k (x + y))))
  | .sub => K (.c (.i k (wr k (x - y))))
  | .mul => K (.c (.i k (wr k (x * y))))
  | .quo => must (y ≠ 0) (K (.c (.i k (wr k (x.tdiv y)))))
  | .rem => must (y ≠ 0) (K (.c (.i k (x.tmod y))))
  | .and | .or | .xor | .andNot => K (.c (.i k (bitsOf op k x y)))
  | .shl => must (0 ≤ y) (K (.c (.i k (shlOf k x y))))
  | .shr => must (0 ≤ y) (K (.c (.i k (shrOf k x y))))
  | .eql => K (boolSV (x == y))
  | .neq => K (boolSV (x != y))
  | .lss => K (boolSV (decide (x < y)))
  | .leq => K (boolSV (decide (x ≤ y)))
  | .gtr => K (boolSV (decide (x > y)))
  | .geq => K (boolSV (decide (x ≥ y)))

def eqOnly (op : BinOp) (b : Bool) (K : SV → Prop) : Prop :=
  match op with
  | .eql => K (boolSV b)
  | .neq => K (boolSV (!b))
  | _ => False

def ofTc : Tc → SV
  | .c x => .c x
  | .g l => .g l

def takeC : Nat → List Sc → List Sc
  | 0, _ => []
  | _, [] => []
  | n + 1, x :: r => x :: takeC n r

def dropC : Nat → List Sc → List Sc
  | 0, l => l
  | _, [] => []
  | n + 1, _ :: r => dropC n r

def nthT : List Tc → Nat → Option Tc
  | [], _ => none
  | x :: _, 0 => some x
  | _ :: r, n + 1 => nthT r n

def intT (P : Program) (t : TypeId) : Bool :=
  match P.underlying t with
  | some (.int _) => true
  | _ => false

def actV (F : Fr) : Operand → Value := fun x => (ev F x).toV

def rawW (P : Program) (m : Amb) (F : Fr) (H : Hp) (o : Oper) (k : SV → Hp → Prop) : Prop :=
  rawV P m H (execOp (actV F) o) fun v H' => exV P o.type fun sv => must (v = sv.toV) (k sv H')

def rawPW (P : Program) (F : Fr) (H : Hp) (o : Oper) (k : SV → Hp → Prop) : Prop :=
  rawP P (execOp (actV F) o) fun v => exV P o.type fun sv => must (v = sv.toV) (k sv H)

def optI (F : Fr) : Option Operand → Option (Option Int)
  | none => some none
  | some x => match ev F x with
    | .c (.i _ n) => some (some n)
    | _ => none

def resW (P : Program) (t : TypeId) (k : SV → Hp → Prop) : Value → Hp → Prop :=
  fun v H' => exV P t fun sv => must (v = sv.toV) (k sv H')

def undB (P : Program) (t : TypeId) : Bool := match P.underlying t with | some .bool => true | _ => false
def undP (P : Program) (t : TypeId) : Bool := match P.underlying t with | some (.pointer _) => true | _ => false
def undS (P : Program) (t : TypeId) : Bool := match P.underlying t with | some (.slice _) => true | _ => false
def undI (P : Program) (t : TypeId) : Bool := match P.underlying t with | some (.interface _) => true | _ => false
def undStr (P : Program) (t : TypeId) : Bool := match P.underlying t with | some .string => true | _ => false

def callW (P : Program) (m : Amb) (F : Fr) (H : Hp) (o : Oper) (c : Call) (k : SV → Hp → Prop) : Prop :=
  match c.callee with
  | .value (.func f) => if callable P f then cl P m f (evVs F c.args.toList) H (resW P o.type k) else rawW P m F H o k
  | .value x => match ev F x with
    | .c (.fn (.func f) first cap) => if callable P f then cl P m f (first ++ evVs F c.args.toList ++ cap) H (resW P o.type k) else False
    | .c (.v fv) => clV P m fv (evVs F c.args.toList) H (resW P o.type k)
    | _ => False
  | .invoke x name => match ev F x with
    | .c (.v v) => inv P m v name (evVs F c.args.toList) H (resW P o.type k)
    | .c (.ifc t v) => inv P m (.iface t v) name (evVs F c.args.toList) H (resW P o.type k)
    | _ => False
  | .builtin .len => match c.args.toList with
    | [x] => match c.argTypes.toList, ev F x with
      | t :: _, .c (.sl _ n _) => if undS P t then k (.c (.i .i64 n)) H else False
      | t :: _, .c (.s s) => if undStr P t then k (.c (.i .i64 s.size)) H else False
      | _, _ => rawPW P F H o k
    | _ => False
  | .builtin .cap => match c.args.toList with
    | [x] => match c.argTypes.toList, ev F x with
      | t :: _, .c (.sl _ _ n) => if undS P t then k (.c (.i .i64 n)) H else False
      | _, _ => rawPW P F H o k
    | _ => False
  | .builtin .append => match c.argTypes.toList, c.args.toList with
    | t :: t1 :: _, [x, y] => match elemOf' P t, elemOf' P t1, ev F x, ev F y with
      | some e, some _, .c (.sl q n cp), .c (.sl q' n' _) => if hasT P e && zeroOk P e then rd H q' (n' * P.cellsOf e) fun cs => ap P e (P.cellsOf e) (P.bytesOf e) H q n cp cs n' fun r n2 c2 H' => k (.c (.sl r n2 c2)) H' else False
      | _, _, _, _ => rawW P m F H o k
    | _, _ => rawW P m F H o k
  | .builtin .copy => match c.argTypes.toList, c.args.toList with
    | t :: t1 :: _, [x, y] => match elemOf' P t, elemOf' P t1, ev F x, ev F y with
      | some e, some _, .c (.sl q n _), .c (.sl q' n' _) => if hasT P e then cpy (P.cellsOf e) H q n q' n' fun r H' => k (.c (.i .i64 r)) H' else False
      | _, _, _, _ => rawW P m F H o k
    | _, _ => rawW P m F H o k
  | .builtin .min | .builtin .max | .builtin .real | .builtin .imag | .builtin .complex => rawPW P F H o k
  | .builtin _ => rawW P m F H o k

def isShift (op : BinOp) : Bool :=
  match op with
  | .shl | .shr => true
  | _ => false

def isConstO (x : Operand) : Bool :=
  match x with
  | .const _ => true
  | _ => false

def isNilO (x : Operand) : Bool :=
  match x with
  | .const (.pointer none) => true
  | _ => false

theorem isNilO_imp {F : Fr} {x : Operand} {r : Option Addr} (h : isNilO x = true) (hx : ev F x = .c (.p r)) : r = none := by
  unfold isNilO at h
  split at h
  · simp only [ev, ofConstV, ofConst] at hx; cases hx; rfl
  · cases h

/-- What one operation asks, for its value to be handed on. -/
def opW (P : Program) (m : Amb) (F : Fr) (H : Hp) (o : Oper) (k : SV → Hp → Prop) : Prop :=
  match o.op with
  | .move x | .assign x => k (ev F x) H
  | .pick c a b => match ev F c with
    | .c .tt => k (ev F a) H
    | .c .ff => k (ev F b) H
    | _ => False
  | .alloc t => if zeroOk P t then nw H (zc P t) t fun p H' => k (.c (.a p)) H' else False
  | .box t x => okSV (ev F x) (nw H (ev F x).cells t fun p H' => k (.c (.a p)) H')
  | .build t parts => match buildW P t F parts.toList with
    | some l => okParts F parts.toList (k (.g l) H)
    | none => False
  | .buildSlice t len parts => match elemOf' P t with
    | some e => if hasT P e && zeroOk P e && decide (len * P.cellsOf e ≤ 2 ^ 24) && (zeroCs P e).length == P.cellsOf e then (match fillW (fun i => some (i * P.cellsOf e, P.cellsOf e)) F parts.toList (repC len (zeroCs P e)) with
      | some l => okParts F parts.toList (nw H (toVs l) e fun p H' => k (.c (.sl (some p) len len)) H')
      | none => False) else False
    | none => False
  | .load t x => match ev F x with
    | .c (.a p) => ldW P t H p fun v => k v H
    | _ => False
  | .store t x y => match ev F x with
    | .c (.a p) => if (ev F y).cells.length == P.cellsOf t && hasT P t then (if isAggT P t then stCs (ev F y).cells H p 0 fun H' => k (.t []) H' else st H p (ev F y).toV fun H' => k (.t []) H') else False
    | _ => False
  | .nilCheck x => match ev F x with
    | .c (.a p) => k (.c (.a p)) H
    | .c (.p q) => nn q fun p => k (.c (.a p)) H
    | .c (.fn (.method name) (v :: r) cap) => nmv P v name (k (.c (.fn (.method name) (v :: r) cap)) H)
    | .c (.fn (.func f) first cap) => k (.c (.fn (.func f) first cap)) H
    | _ => rawPW P F H o k
  | .binOp op t x y _ => match ev F x, ev F y with
    | .c (.i k1 a), .c (.i k2 b) => if isShift op || k1 == k2 then intOp op k1 a b fun v => k v H else False
    | .c (.b a), .c (.b b) => if undB P t then eqOnly op (a == b) fun v => k v H else False
    | .c (.b a), .c .tt => if undB P t then eqOnly op a fun v => k v H else False
    | .c (.b a), .c .ff => if undB P t then eqOnly op (!a) fun v => k v H else False
    | .c (.p q), .c (.p r) => if undP P t then (if isNilO y then eqOnly op q.isNone (fun v => k v H) else ptrEq q r fun b => eqOnly op b fun v => k v H) else False
    | .c (.a p), .c (.p r) => if undP P t then (if isNilO y then eqOnly op false (fun v => k v H) else ptrEq (some p) r fun b => eqOnly op b fun v => k v H) else False
    | .c (.sl q _ _), .c (.sl none _ _) => if undS P t then eqOnly op q.isNone fun v => k v H else False
    | .c (.v v), .c .nili => if undI P t && isConstO y then ifcNil v fun b => eqOnly op b fun v => k v H else False
    | .c (.ifc _ _), .c .nili => if undI P t then eqOnly op false fun v => k v H else False
    | .c (.s a), .c (.s b) => eqOnly op (a.toList == b.toList) fun v => k v H
    | _, _ => rawPW P F H o k
  | .unOp .not _ x => match ev F x with
    | .c .tt => k (.c .ff) H
    | .c .ff => k (.c .tt) H
    | .c (.b b) => k (boolSV (!b)) H
    | _ => False
  | .unOp .neg _ x => match ev F x with
    | .c (.i k1 n) => k (.c (.i k1 (wr k1 (0 - n)))) H
    | _ => rawPW P F H o k
  | .convert s d x => if intT P s && intT P d then (match P.underlying d, ev F x with
      | some (.int k1), .c (.i _ n) => k (.c (.i k1 (wr k1 n))) H
      | _, _ => False)
    else rawW P m F H o k
  | .makeInterface t x => match P.underlying t with
    | some (.interface _) => False
    | some _ => k (.c (.ifc t (ev F x).toV)) H
    | none => False
  | .makeFunc fn first cap => k (.c (.fn fn (evVs F first.toList) (evVs F cap.toList))) H
  | .makeSlice t l c => match elemOf' P t, ev F l, ev F c with
    | some e, .c (.i _ l), .c (.i _ c) => if hasT P e && zeroOk P e then mkS P e (P.cellsOf e) (P.bytesOf e) H l c fun q n cp H' => k (.c (.sl q n cp)) H' else False
    | _, _, _ => False
  | .slice t x lo hi mx => if mx.isSome && !hi.isSome then False else match ev F x, optI F lo, optI F hi, optI F mx with
    | .c (.sl q n c), some lo, some hi, some mx => match elemOf' P t with
      | some e => if hasT P e then sli q n c (P.cellsOf e) lo hi mx fun q n c => k (.c (.sl q n c)) H else False
      | none => False
    | .c (.s s), some lo, some hi, some none => if undStr P t then sliT s lo hi fun s => k (.c (.s s)) H else False
    | .c (.a p), some lo, some hi, some mx => match P.underlying t with
      | some (.array n e) => if hasT P e then sli (some p) n n (P.cellsOf e) lo hi mx fun q n c => k (.c (.sl q n c)) H else False
      | _ => False
    | _, _, _, _ => False
  | .fieldAddr t x i => match ev F x, fieldOff P t i with
    | .c (.a p), some (off, ft) => if P.cellsOf ft == 0 then False else k (.c (.a (p.add off))) H
    | _, _ => False
  | .field t x i => match ev F x, fieldOff P t i with
    | .g l, some (off, ft) => if undOk P ft then (if isAggT P ft then k (.g (takeC (P.cellsOf ft) (dropC off l))) H else match dropC off l with
      | y :: _ => k (.c y) H
      | [] => False) else False
    | _, _ => rawPW P F H o k
  | .indexAddr t x i => match P.underlying t, ev F x, ev F i with
    | some (.array n e), .c (.a p), .c (.i _ i) => if hasT P e then ixA i n (k (.c (.a (p.add (i.toNat * P.cellsOf e)))) H) else False
    | some (.slice e), .c (.sl q n _), .c (.i _ i) => if hasT P e then ixS q i n fun p => k (.c (.a (p.add (i.toNat * P.cellsOf e)))) H else False
    | _, _, _ => False
  | .index t x i => match P.underlying t, ev F x, ev F i with
    | some (.string), .c (.s s), .c (.i _ i) => ixT s i fun b => k (.c (.i .u8 b)) H
    | _, _, _ => rawPW P F H o k
  | .extract x i => match ev F x with
    | .t l => match nthT l i with
      | some y => k (ofTc y) H
      | none => False
    | _ => False
  | .call c => callW P m F H o c k
  | .typeAssert _ _ _ _ => rawPW P F H o k
  | .unOp _ _ _ => rawPW P F H o k
  | _ => rawW P m F H o k

end Go.Eng

/-! The evaluator, second part: regions, code, functions. -/
namespace Go.Eng
open Go

def isW (P : Program) (o : Oper) : Bool :=
  match o.op with
  | .move _ | .assign _ | .pick .. | .build .. | .nilCheck _ | .unOp .. | .makeInterface .. | .makeFunc .. | .slice .. | .fieldAddr ..
  | .field .. | .indexAddr .. | .index .. | .extract .. | .typeAssert .. | .load .. | .binOp .. => false
  | .convert s d _ => !(intT P s && intT P d)
  | .call c => match c.callee with
    | .builtin .len | .builtin .cap | .builtin .min | .builtin .max | .builtin .real | .builtin .imag | .builtin .complex => false
    | _ => true
  | _ => true

def isLoad (o : Oper) : Bool :=
  match o.op with
  | .load .. => true
  | _ => false

def putF (dst : Option Tmp) (v : SV) (F : Fr) : Fr :=
  match dst with
  | some d => upd F d v
  | none => F

def dstAt (ops : Array Oper) (j : Nat) : Option Tmp :=
  match ops[j]? with
  | some o => o.dst
  | none => none

/-- One operation of a region, under its guard. 'run': it is carried out; 'skip': it is not. -/
def guardW (ops : Array Oper) (o : Oper) (F : Fr) (run skip : Fr → Prop) : Prop :=
  match o.guard with
  | none => run F
  | some (j, want) => match dstAt ops j with
    | none => False
    | some d => match nth F d with
      | .c .tt => if want then run F else skip F
      | .c .ff => if want then skip F else run F
      | .c (.b x) => br x (if want then run (upd F d (.c .tt)) else skip (upd F d (.c .tt))) (if want then skip (upd F d (.c .ff)) else run (upd F d (.c .ff)))
      | .t [] => skip F
      | _ => False

/-- The value in its outermost form (it is reckoned here, once). -/
def forceC (x : SV) (k : SV → Prop) : Prop :=
  match x with
  | .c (.i a b) => k (.c (.i a b))
  | .c (.b a) => k (.c (.b a))
  | .c .tt => k (.c .tt)
  | .c .ff => k (.c .ff)
  | .c (.a p) => k (.c (.a p))
  | .c (.p q) => k (.c (.p q))
  | .c (.sl q n c) => k (.c (.sl q n c))
  | .c (.s x) => k (.c (.s x))
  | .c (.v x) => k (.c (.v x))
  | .c (.fn f a b) => k (.c (.fn f a b))
  | .c (.ifc t x) => k (.c (.ifc t x))
  | .c .nili => k (.c .nili)
  | .g l => k (.g l)
  | .t l => k (.t l)

def forceF : Fr → (Fr → Prop) → Prop
  | [], k => k []
  | x :: r, k => forceF r fun r' => k (x :: r')

/-- A value laid into the frame, the frame written out. -/
def layF (dst : Option Tmp) (v : SV) (F : Fr) (k : Fr → Prop) : Prop := forceC v fun v => forceF (putF dst v F) k

theorem forceC_eq (x : SV) (k : SV → Prop) : forceC x k = k x := by
  cases x with
  | c x => cases x <;> rfl
  | g l => rfl
  | t l => rfl

theorem forceF_eq (F : Fr) (k : Fr → Prop) : forceF F k = k F := by
  induction F generalizing k with
  | nil => rfl
  | cons x r ih => simp [forceF, ih]

theorem layF_eq (dst : Option Tmp) (v : SV) (F : Fr) (k : Fr → Prop) : layF dst v F k = k (putF dst v F) := by
  simp [layF, forceC_eq, forceF_eq]

def opsW (P : Program) (m : Amb) (ops : Array Oper) : List Nat → Fr → Hp → (Fr → Hp → Prop) → Prop
  | [], F, H, K => K F H
  | i :: r, F, H, K => match ops[i]? with
    | none => False
    | some o => guardW ops o F (fun F => opW P m F H o fun v H' => layF o.dst v F fun F => opsW P m ops r F H' K) (fun F => layF o.dst (.t []) F fun F => opsW P m ops r F H K)

abbrev Held := List (Addr × Value)

def cellsAt (p : Addr) : List Value → Nat → Held
  | [], _ => []
  | v :: r, i => (p.add i, v) :: cellsAt p r (i + 1)

/-- What a load holds on to. -/
def ldNeed (P : Program) (t : TypeId) (p : Addr) (v : SV) : Held := if isAggT P t then cellsAt p v.cells 0 else [(p, v.toV)]

/-- What an operation that leaves the world alone holds on to. -/
def opNeed (P : Program) (F : Fr) (o : Oper) (v : SV) : Held :=
  match o.op with
  | .load t x => match ev F x with
    | .c (.a p) => ldNeed P t p v
    | _ => []
  | _ => []

/-- The cells that loads which have been taken ahead hold on to, with the loads' numbers. -/
abbrev Holds := List (Nat × Addr × Value)

def withNo (i : Nat) : Held → Holds
  | [] => []
  | (p, v) :: r => (i, p, v) :: withNo i r

def mustAll (H : Hp) : Holds → Prop → Prop
  | [], k => k
  | (_, p, v) :: r, k => must (cont H p v) (mustAll H r k)

/-- Of the edges of an operation: all that it waits for, as bits ('acc': of the operations ahead of it). -/
def befM (acc : List Nat) : List Edge → Nat
  | [] => 0
  | e :: r => if Region.binds .any e then (befM acc r ||| 2 ^ e.on) ||| acc.getD e.on 0 else befM acc r

def befs : List Oper → List Nat → List Nat
  | [], acc => acc
  | o :: r, acc => befs r (acc ++ [befM acc o.after.toList])

/-- Some operation that turns the world, and waits for number 'i', has been carried out. -/
def dead (P : Program) (ops : Array Oper) (bm : List Nat) (listed : Array Bool) (i : Nat) : Bool :=
  (List.range ops.size).any fun j => listed.getD j false && (bm.getD j 0).testBit i && (match ops[j]? with | some o => isW P o | none => false)

def alive (P : Program) (ops : Array Oper) (bm : List Nat) (listed : Array Bool) : Holds → Holds
  | [] => []
  | c :: r => if dead P ops bm listed c.1 then alive P ops bm listed r else c :: alive P ops bm listed r

/-- One operation of a region that draws; 'listed': those that have come up, this one among them. -/
def stepD (P : Program) (m : Amb) (ops : Array Oper) (bm : List Nat) (listed : Array Bool) (i : Nat) (F : Fr) (H : Hp) (held : Holds) (K : Fr → Hp → Holds → Prop) : Prop :=
  match ops[i]? with
  | none => False
  | some o => guardW ops o F
    (fun F => opW P m F H o fun v H' => if isW P o then mustAll H' (alive P ops bm listed held) (layF o.dst v F fun F => K F H' (alive P ops bm listed held)) else layF o.dst v F fun F' => K F' H' (withNo i (opNeed P F o v) ++ held))
    (fun F => layF o.dst (.t []) F fun F => K F H held)

def allOf : List Nat → (Nat → Prop) → Prop
  | [], _ => True
  | [i], f => f i
  | i :: r, f => f i ∧ allOf r f

def takes (P : Program) (ops : Array Oper) (listed : Array Bool) (i : Nat) : Bool :=
  (match ops[i]? with | some o => !isW P o | none => false) && Region.free .any ops listed i

def drawW (P : Program) (m : Amb) (ops : Array Oper) (bm : List Nat) : Nat → Array Bool → Fr → Hp → Holds → (Fr → Hp → Prop) → Prop
  | 0, listed, F, H, _, K => if (Region.ready .any ops listed).isEmpty then K F H else False
  | n + 1, listed, F, H, held, K => match Region.ready .any ops listed with
    | [] => K F H
    | rs => match rs.find? (takes P ops listed) with
      | some i => stepD P m ops bm (listed.setIfInBounds i true) i F H held fun F' H' held' => drawW P m ops bm n (listed.setIfInBounds i true) F' H' held' K
      | none => allOf rs fun i => stepD P m ops bm (listed.setIfInBounds i true) i F H held fun F' H' held' => drawW P m ops bm n (listed.setIfInBounds i true) F' H' held' K

inductive Ex where
  | n
  | x (id : Nat)
  | g (l : Nat)
  | r

structure Hint where
  loop : Bool
  key : Nat
  st : List (Nat × Ty)

def findHint : List Hint → Bool → Nat → Option (List (Nat × Ty))
  | [], _, _ => none
  | h :: r, l, k => if h.loop == l && h.key == k then some h.st else findHint r l k

def firstReg : Code → Nat
  | .region id _ _ => id + 1
  | .seq a b => if firstReg a == 0 then firstReg b else firstReg a
  | .cond _ a b => if firstReg a == 0 then firstReg b else firstReg a
  | .block _ b | .loop b | .scope b => firstReg b
  | _ => 0

def regDsts : List Oper → List Nat
  | [] => []
  | o :: r => match o.dst with
    | some d => d :: regDsts r
    | none => regDsts r

def dsts : Code → List Nat
  | .region _ ops _ => regDsts ops.toList
  | .seq a b => dsts a ++ dsts b
  | .cond _ a b => dsts a ++ dsts b
  | .block _ b | .loop b | .scope b => dsts b
  | _ => []

/-- A loop's relation over its variables, curried. -/
def Pd (R : Type) : List Ty → Type
  | [] => Hp → R
  | .i _ :: r => Int → Pd R r
  | .b :: r => Bool → Pd R r
  | .p :: r => Option Addr → Pd R r
  | .sl :: r => Option Addr → Nat → Nat → Pd R r
  | .s :: r => ByteArray → Pd R r
  | .o :: r => Value → Pd R r

/-- The relation at the values that stand there, handed to 'k'. -/
def apPd {R : Type} (k : R → Prop) (H : Hp) : (tys : List Ty) → Pd R tys → List SV → Prop
  | [], I, [] => k (I H)
  | .i k1 :: r, I, .c (.i k2 x) :: vs => if k1 == k2 then apPd k H r (I x) vs else False
  | .b :: r, I, .c (.b x) :: vs => apPd k H r (I x) vs
  | .b :: r, I, .c .tt :: vs => apPd k H r (I true) vs
  | .b :: r, I, .c .ff :: vs => apPd k H r (I false) vs
  | .p :: r, I, .c (.p q) :: vs => apPd k H r (I q) vs
  | .p :: r, I, .c (.a q) :: vs => apPd k H r (I (some q)) vs
  | .sl :: r, I, .c (.sl q n c) :: vs => apPd k H r (I q n c) vs
  | .s :: r, I, .c (.s x) :: vs => apPd k H r (I x) vs
  | .o :: r, I, v :: vs => apPd k H r (I v.toV) vs
  | _, _, _ => False

/-- For all values of these types. -/
def allPd : (tys : List Ty) → (List SV → Prop) → Prop
  | [], k => k []
  | .i kk :: r, k => ∀ x : Int, allPd r fun vs => k (.c (.i kk x) :: vs)
  | .b :: r, k => ∀ x : Bool, allPd r fun vs => k (.c (.b x) :: vs)
  | .p :: r, k => ∀ q : Option Addr, allPd r fun vs => k (.c (.p q) :: vs)
  | .sl :: r, k => ∀ (q : Option Addr) (n c : Nat), allPd r fun vs => k (.c (.sl q n c) :: vs)
  | .s :: r, k => ∀ x : ByteArray, allPd r fun vs => k (.c (.s x) :: vs)
  | .o :: r, k => ∀ x : Value, allPd r fun vs => k (.c (.v x) :: vs)

def tysOf : List (Nat × Ty) → List Ty
  | [] => []
  | (_, t) :: r => t :: tysOf r

def valsAt (F : Fr) : List (Nat × Ty) → List SV
  | [] => []
  | (d, _) :: r => nth F d :: valsAt F r

def junkF (j : Nat → Value) : List Nat → Fr → Fr
  | [], F => F
  | d :: r, F => upd (junkF j r F) d (.c (.v (j d)))

def setF : List (Nat × Ty) → List SV → Fr → Fr
  | (d, _) :: r, v :: vs, F => upd (setF r vs F) d v
  | _, _, F => F

def keysIn (st : List (Nat × Ty)) (l : List Nat) : Bool :=
  match st with
  | [] => true
  | (d, _) :: r => l.contains d && keysIn r l

abbrev Post := Ex → Fr → Hp → Prop

def loopW (rec : Code → Post → Fr → Hp → Prop) (st : List (Nat × Ty)) (body : Code) (Q : Post) (F : Fr) (H : Hp) : Prop :=
  ∃ (I : Pd Prop (tysOf st)) (μ : Pd Nat (tysOf st)), apPd (fun p => p) H (tysOf st) I (valsAt F st) ∧
    allPd (tysOf st) fun vs => ∀ (H : Hp) (n : Nat) (j : Nat → Value), apPd (fun p => p) H (tysOf st) I vs → apPd (fun v => v = n) H (tysOf st) μ vs →
      rec body (fun e F' H' => match e with
        | .n => apPd (fun p => p) H' (tysOf st) I (valsAt F' st) ∧ apPd (fun v => v < n) H' (tysOf st) μ (valsAt F' st)
        | e => Q e F' H') (setF st vs (junkF j (dsts body) F)) H

def joinW (rec : Code → Post → Fr → Hp → Prop) (st : List (Nat × Ty)) (a b : Code) (Q : Post) (F : Fr) (H : Hp) : Prop :=
  ∃ J : Pd Prop (tysOf st),
    rec a (fun e F' H' => match e with
        | .n => apPd (fun p => p) H' (tysOf st) J (valsAt F' st)
        | e => Q e F' H') F H ∧
    allPd (tysOf st) fun vs => ∀ (H : Hp) (j : Nat → Value), apPd (fun p => p) H (tysOf st) J vs → rec b Q (setF st vs (junkF j (dsts a) F)) H

def scopeQ (rec : Code → Post → Fr → Hp → Prop) (c : Code) (Q : Post) : Nat → Post
  | 0 => fun e F H => match e with
    | .g _ => False
    | e => Q e F H
  | n + 1 => fun e F H => match e with
    | .g l => match findLabel c l with
      | some r => rec r (scopeQ rec c Q n) F H
      | none => Q (.g l) F H
    | e => Q e F H

def litF (F : Fr) (x : Operand) (v : SV) : Fr :=
  match x with
  | .tmp t => upd F t v
  | _ => F

def codeW (P : Program) (m : Amb) (hs : List Hint) : Nat → Code → Post → Fr → Hp → Prop
  | 0, _, _, _, _ => False
  | n + 1, c, Q, F, H => match c with
    | .skip => Q .n F H
    | .region _ ops draw => if draw then (if Region.noSelect ops then drawW P m ops (befs ops.toList []) ops.size (Array.replicate ops.size false) F H [] (Q .n) else False) else opsW P m ops (List.range ops.size) F H (Q .n)
    | .seq a b => match (if hs.isEmpty then none else findHint hs false (firstReg b)) with
      | some st => if keysIn st (dsts a) then joinW (codeW P m hs n) st a b Q F H else False
      | none => codeW P m hs n a (fun e F H => match e with
        | .n => codeW P m hs n b Q F H
        | e => Q e F H) F H
    | .cond c a b => match ev F c with
      | .c .tt => codeW P m hs n a Q F H
      | .c .ff => codeW P m hs n b Q F H
      | .c (.b x) => br x (codeW P m hs n a Q (litF F c (.c .tt)) H) (codeW P m hs n b Q (litF F c (.c .ff)) H)
      | _ => False
    | .block id c => codeW P m hs n c (fun e F H => match e with
        | .x j => if j == id then Q .n F H else Q (.x j) F H
        | e => Q e F H) F H
    | .loop c => match findHint hs true (firstReg c) with
      | some st => if keysIn st (dsts c) then loopW (codeW P m hs n) st c Q F H else False
      | none => False
    | .scope c => codeW P m hs n c (scopeQ (codeW P m hs n) c Q 6) F H
    | .exit id => Q (.x id) F H
    | .goto l => Q (.g l) F H
    | .ret => Q .r F H
    | .label _ => Q .n F H
    | .rangeFunc .. => False
    | .refuse _ => False

def retW (P : Program) (F : Fr) (H : Hp) : List ResultVar → (List SV → Prop) → Prop
  | [], k => k []
  | .tmp t :: r, k => retW P F H r fun vs => k (nth F t :: vs)
  | .cell a t :: r, k => match nth F a with
    | .c (.a p) => ldW P t H p fun v => retW P F H r fun vs => k (v :: vs)
    | _ => False

def retV : List SV → Value
  | [x] => x.toV
  | l => .tuple (svs l).toArray

def fresh : Nat → Fr
  | 0 => []
  | n + 1 => .t [] :: fresh n

def funcW (P : Program) (m : Amb) (hs : List Hint) (fn : Func) (args : Fr) (H : Hp) (K : Value → Hp → Prop) : Prop :=
  match fn.body with
  | none => False
  | some c => codeW P m hs 1000 c (fun e F H => match e with
    | .n | .r => retW P F H fn.results.toList fun vs => K (retV vs) H
    | _ => False) (args ++ fresh (fn.ntmps - args.length)) H

end Go.Eng

/-! Soundness, first part: values, frames, memory. -/
namespace Go.Eng
open Go
set_option linter.unusedSimpArgs false
set_option linter.unusedVariables false

def act (F : Fr) : Act := { tmps := (svs F).toArray, defers := [] }

theorem svs_length (F : Fr) : (svs F).length = F.length := by
  induction F with
  | nil => rfl
  | cons x r ih => simp [svs, ih]

theorem svs_nth (F : Fr) (t : Nat) : (svs F)[t]?.getD undef = (nth F t).toV := by
  induction F generalizing t with
  | nil => cases t <;> rfl
  | cons x r ih => cases t with
    | zero => rfl
    | succ t => simpa [svs, nth] using ih t

theorem svs_upd (F : Fr) (d : Nat) (v : SV) : svs (upd F d v) = (svs F).set d v.toV := by
  induction F generalizing d with
  | nil => cases d <;> rfl
  | cons x r ih => cases d with
    | zero => rfl
    | succ d => simp [svs, upd, ih d]

theorem ofConst_toV (v : Value) : (ofConst v).toV = v := by
  unfold ofConst
  split <;> rfl

theorem ofConsts_toVs (l : List Value) : toVs (ofConsts l) = l := by
  induction l with
  | nil => rfl
  | cons x r ih => simp [ofConsts, toVs, ofConst_toV, ih]

theorem ofConstV_toV (v : Value) : (ofConstV v).toV = v := by
  unfold ofConstV
  split
  · simp [SV.toV, ofConsts_toVs]
  · rename_i cs
    split
    · rename_i h
      have : cs = #[] := by simpa using h
      subst this
      rfl
    · rfl
  · simp [SV.toV, ofConst_toV]

theorem ev_toV (F : Fr) (x : Operand) : (ev F x).toV = (act F).eval x := by
  cases x with
  | tmp t => simp [ev, Act.eval, act, ← svs_nth]
  | const v => simp [ev, Act.eval, ofConstV_toV]
  | global g => rfl
  | func f => rfl

theorem actV_eq (F : Fr) : actV F = (act F).eval := funext fun x => ev_toV F x

theorem act_put (F : Fr) (dst : Option Tmp) (v : SV) : (act F).put dst v.toV = act (putF dst v F) := by
  cases dst with
  | none => rfl
  | some d => simp [Act.put, act, putF, svs_upd]

theorem evVs_eq (F : Fr) (l : List Operand) : evVs F l = l.map (act F).eval := by
  induction l with
  | nil => rfl
  | cons x r ih => simp [evVs, evV, ih, ev_toV]

theorem evVs_arr (F : Fr) (l : Array Operand) : (evVs F l.toList).toArray = l.map (act F).eval := by
  rw [evVs_eq]; apply Array.ext'; simp

theorem undef_toV : (SV.t []).toV = undef := rfl

theorem oneCell_cells {x : Value} (h : x.oneCell' = true) : x.cells = #[x] := by
  cases x <;> first | rfl | simp [Value.oneCell'] at h

theorem okSV_imp {x : SV} {k : Prop} (h : okSV x k) : k ∧ x.toV.cells = x.cells.toArray := by
  unfold okSV at h
  split at h
  · exact ⟨h.2, by simpa [SV.toV, SV.cells, Sc.toV] using oneCell_cells h.1⟩
  · rename_i hx
    refine ⟨h, ?_⟩
    cases x with
    | c x => cases x <;> first | rfl | exact absurd rfl (hx _)
    | g l => rfl
    | t l => rfl

theorem okParts_imp {F : Fr} {k : Prop} : ∀ {l : List (Nat × Operand)}, okParts F l k → k ∧ ∀ q ∈ l, (ev F q.2).toV.cells = (ev F q.2).cells.toArray
  | [], h => ⟨h, by simp⟩
  | (i, x) :: r, h => by
    obtain ⟨h1, h2⟩ := okSV_imp h
    obtain ⟨h3, h4⟩ := okParts_imp h1
    refine ⟨h3, ?_⟩
    intro q hq
    rcases List.mem_cons.1 hq with rfl | hq
    · exact h2
    · exact h4 q hq

/-! Memory. -/
theorem cells_imp {H : Hp} {b : Nat} {cs : List Value} (h : cells H b = some cs) : ∃ c t, H[b]? = some (.cells c t (0, 0)) ∧ c.toList = cs := by
  unfold cells at h
  split at h
  · rename_i c t hb
    simp at h
    exact ⟨c, t, hb, h⟩
  · cases h

theorem rcells_imp {H : Hp} {b : Nat} {cs : List Value} (h : rcells H b = some cs) : ∃ c t f, H[b]? = some (.cells c t f) ∧ c.toList = cs := by
  unfold rcells at h
  split at h
  · rename_i c t f hb
    simp at h
    exact ⟨c, t, f, hb, h⟩
  · cases h
theorem rcells_of {H : Hp} {b : Nat} {cs : List Value} (h : cells H b = some cs) : rcells H b = some cs := by
  obtain ⟨c, t, hb, rfl⟩ := cells_imp h
  unfold rcells; rw [hb]
theorem cellAt_of_rcells {H : Hp} {p : Addr} {cs : List Value} (hs : p.spot = none) (h : rcells H p.block = some cs) : cellAt H p = cs[p.off]? := by
  obtain ⟨c, t, f, hb, rfl⟩ := rcells_imp h
  simp [cellAt, hb, hs]

theorem cellAt_of_cells {H : Hp} {p : Addr} {cs : List Value} (hs : p.spot = none) (h : cells H p.block = some cs) : cellAt H p = cs[p.off]? := by
  obtain ⟨c, t, hb, rfl⟩ := cells_imp h
  simp [cellAt, hb, hs]

theorem frozenAt_of_cells {H : Hp} {p : Addr} {cs : List Value} (h : cells H p.block = some cs) : frozenAt H p = false := by
  obtain ⟨c, t, hb, rfl⟩ := cells_imp h
  simp [frozenAt, hb]

theorem modify_congr {H : Hp} {b : Nat} {f g : Obj → Obj} (h : ∀ o, H[b]? = some o → f o = g o) : H.modify b f = H.modify b g := by
  apply Array.ext_getElem?
  intro i
  simp only [Array.getElem?_modify]
  split
  · rename_i e
    subst e
    cases hb : H[b]? with
    | none => rfl
    | some o => simp [h o hb]
  · rfl

theorem setAt_eq {H : Hp} {p : Addr} {cs : List Value} {v : Value} (hs : p.spot = none) (h : cells H p.block = some cs) : setAt H p v = setBlk H p.block (cs.set p.off v) := by
  obtain ⟨c, t, hb, rfl⟩ := cells_imp h
  refine modify_congr fun o ho => ?_
  rw [hb] at ho
  cases ho
  simp only [hs, Option.isSome_none, Bool.false_eq_true, if_false, Obj.cells.injEq, and_self, and_true]
  apply Array.ext'
  simp

theorem st_old {H : Hp} {p : Addr} {v : Value} {k : Hp → Prop} (h : st H p v k) : v.oneCell' = true ∧ (∃ old, cellAt H p = some old) ∧ frozenAt H p = false ∧ k (setAt H p v) := by
  obtain ⟨h0, h1, cs, h2, h3, h4⟩ := h
  exact ⟨h1, ⟨_, by rw [cellAt_of_cells h0 h2]; exact List.getElem?_eq_getElem h3⟩, frozenAt_of_cells h2, by rw [setAt_eq h0 h2]; exact h4⟩

theorem cont_old {H : Hp} {p : Addr} {v : Value} (h : cont H p v) : cellAt H p = some v := by
  obtain ⟨h0, cs, h1, h2⟩ := h
  rw [cellAt_of_cells h0 h1, h2]

/-- A run of cells that can be read. -/
def rng (H : Hp) (q : Option Addr) (n : Nat) (cs : List Value) : Prop := cs.length = n ∧ (n = 0 ∨ ∃ a, q = some a ∧ ∀ j v, cs[j]? = some v → cellAt H (a.add j) = some v)

theorem add_spot {a : Addr} (h : a.spot = none) (n : Nat) : (a.add n).spot = none ∧ (a.add n).block = a.block ∧ (a.add n).off = a.off + n := by
  unfold Addr.add
  split
  · rename_i h0; subst h0; exact ⟨h, rfl, rfl⟩
  · exact ⟨rfl, rfl, rfl⟩

theorem rd_old {H : Hp} {q : Option Addr} {n : Nat} {k : List Value → Prop} (h : rd H q n k) : ∃ cs, rng H q n cs ∧ k cs := by
  rcases h with ⟨rfl, h⟩ | ⟨a, rfl, h0, cs, h1, h2, h⟩
  · exact ⟨[], ⟨rfl, .inl rfl⟩, h⟩
  · refine ⟨_, ⟨by simp; omega, .inr ⟨a, rfl, fun j v hj => ?_⟩⟩, h⟩
    obtain ⟨e0, e1, e2⟩ := add_spot h0 j
    rw [cellAt_of_rcells e0 (by rw [e1]; exact h1), e2]
    rw [List.getElem?_take] at hj
    split at hj
    · rwa [List.getElem?_drop] at hj
    · cases hj

def setMany (H : Hp) (a : Addr) : List Value → Nat → Hp
  | [], _ => H
  | v :: r, i => setMany (setAt H (a.add i) v) a r (i + 1)

def stOkAt (H : Hp) (a : Addr) (v : Value) : Prop := v.oneCell' = true ∧ (∃ old, cellAt H a = some old) ∧ frozenAt H a = false

def stOk (H : Hp) (a : Addr) (vs : List Value) : Prop := ∀ j v, vs[j]? = some v → stOkAt H (a.add j) v

theorem cells_setBlk_same {H : Hp} {b : Nat} {cs : List Value} : cells (setBlk H b cs) b = (cells H b).map fun _ => cs := by
  unfold cells setBlk
  rw [Array.getElem?_modify, if_pos rfl]
  cases H[b]? with
  | none => rfl
  | some o => cases o with
    | cells c t fz =>
      obtain ⟨lo, hi⟩ := fz
      by_cases h : lo = 0 ∧ hi = 0
      · obtain ⟨rfl, rfl⟩ := h; simp
      · simp only [Option.map_some]
        split
        · rename_i h1; simp at h1; exact absurd ⟨h1.2.2.1, h1.2.2.2⟩ h
        · split
          · rename_i h1; simp at h1; exact absurd ⟨h1.2.2.1, h1.2.2.2⟩ h
          · rfl
    | _ => rfl

theorem setBlk_setBlk {H : Hp} {b : Nat} {cs ds : List Value} : setBlk (setBlk H b cs) b ds = setBlk H b ds := by
  apply Array.ext_getElem?
  intro i
  simp only [setBlk, Array.getElem?_modify]
  split
  · cases H[i]? with
    | none => rfl
    | some o => cases o <;> rfl
  · rfl

theorem setBlk_self {H : Hp} {b : Nat} {cs : List Value} (h : cells H b = some cs) : setBlk H b cs = H := by
  obtain ⟨c, t, hb, rfl⟩ := cells_imp h
  apply Array.ext_getElem?
  intro i
  simp only [setBlk, Array.getElem?_modify]
  split
  · rename_i e
    subst e
    rw [hb]
    rfl
  · rfl

theorem setMany_eq {a : Addr} (ha : a.spot = none) : ∀ (vs : List Value) (i : Nat) (H : Hp) (cs : List Value), cells H a.block = some cs → a.off + i + vs.length ≤ cs.length →
    setMany H a vs i = setBlk H a.block (over cs (a.off + i) vs)
  | [], i, H, cs, h, _ => by
    simp [setMany, over, setBlk_self h]
  | v :: r, i, H, cs, h, hl => by
    obtain ⟨e0, e1, e2⟩ := add_spot ha i
    simp only [List.length_cons] at hl
    have h1 : setAt H (a.add i) v = setBlk H a.block (cs.set (a.off + i) v) := by
      have := setAt_eq (v := v) e0 (by rw [e1]; exact h)
      rwa [e1, e2] at this
    rw [setMany, h1]
    have h2 : cells (setBlk H a.block (cs.set (a.off + i) v)) a.block = some (cs.set (a.off + i) v) := by rw [cells_setBlk_same, h]; rfl
    rw [setMany_eq ha r (i + 1) _ _ h2 (by simp; omega), setBlk_setBlk]
    congr 1
    unfold over
    apply List.ext_getElem?
    intro j
    simp only [List.getElem?_append, List.length_append, List.length_take, List.length_set, List.getElem?_take, List.getElem?_drop, List.getElem?_set, List.length_cons]
    have m1 : min (a.off + (i + 1)) cs.length = a.off + i + 1 := by omega
    have m2 : min (a.off + i) cs.length = a.off + i := by omega
    rw [m1, m2]
    by_cases c1 : j < a.off + i
    · simp [c1, show j < a.off + i + 1 + r.length by omega, show j < a.off + i + 1 by omega, show j < a.off + (i + 1) by omega, show ¬ a.off + i = j by omega, show j < a.off + i + (r.length + 1) by omega]
    · by_cases c2 : j = a.off + i
      · subst c2
        simp [show a.off + i < a.off + i + 1 + r.length by omega, show a.off + i < a.off + (i + 1) by omega, show a.off + i < cs.length by omega]
      · by_cases c3 : j < a.off + i + 1 + r.length
        · have c4 : j - (a.off + i) = (j - (a.off + i + 1)) + 1 := by omega
          simp [c1, c3, show ¬ j < a.off + i + 1 by omega, show j < a.off + i + (r.length + 1) by omega, c4]
        · simp [c1, c3, show ¬ j < a.off + i + (r.length + 1) by omega]
          rw [if_neg (by omega)]
          congr 1
          omega

theorem wrs_old {H : Hp} {q : Option Addr} {o : Nat} {vs : List Value} {k : Hp → Prop} (h : wrs H q o vs k) :
    (vs = [] ∧ k H) ∨ (∃ a, q = some a ∧ stOk H (a.add o) vs ∧ k (setMany H (a.add o) vs 0)) := by
  rcases h with h | ⟨a, rfl, h0, h1, cs, h2, h3, h⟩
  · exact .inl h
  · obtain ⟨e0, e1, e2⟩ := add_spot h0 o
    refine .inr ⟨a, rfl, fun j v hj => ?_, ?_⟩
    · obtain ⟨f0, f1, f2⟩ := add_spot e0 j
      have hc : cells H ((a.add o).add j).block = some cs := by rw [f1, e1]; exact h2
      have hjl := (List.getElem?_eq_some_iff.1 hj).1
      refine ⟨h1 v (List.mem_of_getElem? hj), ⟨_, by rw [cellAt_of_cells f0 hc, f2, e2]; exact List.getElem?_eq_getElem (by omega)⟩, frozenAt_of_cells hc⟩
    · rw [setMany_eq e0 vs 0 H cs (by rw [e1]; exact h2) (by rw [e2]; omega), e1, e2]
      exact h

@[simp] theorem mkW_heap (m : Amb) (H : Hp) (d : Nat) : (mkW m H d).heap = H := rfl
theorem cell_mkW (m : Amb) (H : Hp) (d : Nat) (a : Addr) : (mkW m H d).cell? a = cellAt H a := rfl
theorem frozen_mkW (m : Amb) (H : Hp) (d : Nat) (a : Addr) : (mkW m H d).frozen? a = frozenAt H a := rfl
theorem set_mkW (m : Amb) (H : Hp) (d : Nat) (a : Addr) (v : Value) : (mkW m H d).setCell a v = mkW m (setAt H a v) d := rfl

theorem info_of_und {P : Program} {t : TypeId} {d : TypeDesc} (h : P.underlying t = some d) : ∃ i, P.info? t = some i := by
  unfold Program.underlying at h
  cases hi : P.info? t with
  | none => simp [hi] at h
  | some i => exact ⟨i, rfl⟩

theorem run_und {P : Program} {t : TypeId} {d : TypeDesc} (h : P.underlying t = some d) (w : World) : (underlying t).run P w = .ok d w := by
  simp [underlying, h]

theorem run_size {P : Program} {t : TypeId} (h : hasT P t = true) (w : World) : (sizeOf t).run P w = .ok (P.cellsOf t) w := by
  unfold hasT at h
  cases hi : P.info? t with
  | none => simp [hi] at h
  | some i => simp [sizeOf, typeInfo, hi, Program.cellsOf]

theorem run_isAgg {P : Program} {t : TypeId} (h : undOk P t = true) (w : World) : (isAgg t).run P w = .ok (isAggT P t) w := by
  unfold undOk at h
  cases hu : P.underlying t with
  | none => simp [hu] at h
  | some d => cases d <;> simp [isAgg, run_und hu, isAggT, hu]

theorem undOk_of_hasT_agg {P : Program} {t : TypeId} (h : isAggT P t = true) : undOk P t = true := by
  unfold isAggT at h
  unfold undOk
  cases hu : P.underlying t with
  | none => simp [hu] at h
  | some d => rfl

theorem run_ld {P : Program} {w : World} {a : Addr} {v : Value} (h : w.cell? a = some v) : (load a).run P w = .ok v w := by
  simp [h]

/-- The cells that an operation's outcome hangs on. -/
def HeldW (w : World) (l : Held) : Prop := ∀ c ∈ l, w.cell? c.1 = some c.2

def HeldH (H : Hp) (l : Held) : Prop := ∀ c ∈ l, cellAt H c.1 = some c.2

theorem HeldH_mkW {m : Amb} {H : Hp} {d : Nat} {l : Held} : HeldW (mkW m H d) l ↔ HeldH H l := Iff.rfl

theorem cellsAt_get (p : Addr) (l : List Value) (i j : Nat) (v : Value) (h : l[j]? = some v) : (p.add (i + j), v) ∈ cellsAt p l i := by
  induction l generalizing i j with
  | nil => simp at h
  | cons x r ih =>
    cases j with
    | zero => simp at h; subst h; simp [cellsAt]
    | succ j =>
      have := ih (i + 1) j (by simpa using h)
      rw [show i + 1 + j = i + (j + 1) by omega] at this
      simp [cellsAt, this]

theorem ldC_imp {ty : Ty} {H : Hp} {p : Addr} {k : Sc → Prop} (h : ldC ty H p k) : ∃ x, cellAt H p = some x.toV ∧ k x := by
  cases ty with
  | i kk => obtain ⟨h0, cs, hc, x, h1, h2⟩ := h; exact ⟨.i kk x, by rw [cellAt_of_rcells h0 hc, h1]; rfl, h2⟩
  | b => obtain ⟨h0, cs, hc, x, h1, h2⟩ := h; exact ⟨.b x, by rw [cellAt_of_rcells h0 hc, h1]; rfl, h2⟩
  | p => obtain ⟨h0, cs, hc, x, h1, h2⟩ := h; exact ⟨.p x, by rw [cellAt_of_rcells h0 hc, h1]; rfl, h2⟩
  | sl => obtain ⟨h0, cs, hc, q, n, c, h1, h2⟩ := h; exact ⟨.sl q n c, by rw [cellAt_of_rcells h0 hc, h1]; rfl, h2⟩
  | s => obtain ⟨h0, cs, hc, x, h1, h2⟩ := h; exact ⟨.s x, by rw [cellAt_of_rcells h0 hc, h1]; rfl, h2⟩
  | o => obtain ⟨h0, cs, hc, x, h1, h3, h2⟩ := h; exact ⟨.v x, by rw [cellAt_of_rcells h0 hc, h1]; rfl, h2⟩

theorem ldCs_imp {H : Hp} {p : Addr} : ∀ {tys : List Ty} {i : Nat} {k : List Sc → Prop}, ldCs tys H p i k → ∃ l, l.length = tys.length ∧ HeldH H (cellsAt p (toVs l) i) ∧ k l
  | [], i, k, h => ⟨[], rfl, by simp [HeldH, cellsAt, toVs], h⟩
  | ty :: r, i, k, h => by
    obtain ⟨x, h1, h2⟩ := ldC_imp h
    obtain ⟨l, h3, h4, h5⟩ := ldCs_imp h2
    refine ⟨x :: l, by simp [h3], ?_, h5⟩
    intro c hc
    simp only [toVs, cellsAt, List.mem_cons] at hc
    rcases hc with rfl | hc
    · exact h1
    · exact h4 c hc

theorem toVs_length (l : List Sc) : (toVs l).length = l.length := by
  induction l with
  | nil => rfl
  | cons x r ih => simp [toVs, ih]

theorem ldW_imp {P : Program} {t : TypeId} {H : Hp} {p : Addr} {k : SV → Prop} (h : ldW P t H p k) :
    ∃ v, HeldH H (ldNeed P t p v) ∧ (∀ w, HeldW w (ldNeed P t p v) → (Instr.loadAt t (.pointer (some p))).run P w = .ok v.toV w) ∧ k v := by
  unfold ldW at h
  split at h
  · rename_i hag
    split at h
    · rename_i hc
      simp only [Bool.and_eq_true, beq_iff_eq] at hc
      obtain ⟨l, hl, hh, hk⟩ := ldCs_imp h
      refine ⟨.g l, ?_, ?_, hk⟩
      · simpa [ldNeed, hag, SV.cells] using hh
      · intro w hw
        have hu := undOk_of_hasT_agg hag
        have hcells : (loadCells p (P.cellsOf t)).run P w = .ok (toVs l).toArray w := by
          rw [← hc.1, ← hl, ← toVs_length]
          refine run_loadCells_list w p (toVs l) (fun j v hv => ?_)
          have := hw (p.add (0 + j), v) (by simpa [ldNeed, hag, SV.cells] using cellsAt_get p (toVs l) 0 j v hv)
          simpa using this
        simp [Instr.loadAt, Instr.sureAddr, loadVar, run_isAgg hu, hag, run_size hc.2, hcells, SV.toV]
    · exact h.elim
  · rename_i hag
    split at h
    · rename_i hu
      obtain ⟨x, h1, h2⟩ := ldC_imp h
      refine ⟨.c x, ?_, ?_, h2⟩
      · intro c hc
        simp [ldNeed, hag] at hc
        subst hc
        exact h1
      · intro w hw
        have := hw (p, (SV.c x).toV) (by simp [ldNeed, hag])
        simp [Instr.loadAt, Instr.sureAddr, loadVar, run_isAgg hu, hag, this]
    · exact h.elim

end Go.Eng

/-! Soundness, second part: the operations that leave the world alone. -/
namespace Go.Eng
open Go
set_option linter.unusedSimpArgs false
set_option linter.unusedVariables false

theorem run_lift {P : Program} {w w' : World} {s : Sem Value} {v : Value} (h : s.run P w = .ok v w') : (do pure (Next.value (← s)) : Sem Next).run P w = .ok (.value v) w' := by
  simp [h]

theorem run_intOp {P : Program} {op : BinOp} {k k2 : IntKind} {x y : Int} {K : SV → Prop} {t : TypeId} (hk : (isShift op || k == k2) = true) (h : intOp op k x y K) :
    ∃ v, (∀ w, (binOp op t (.int k x) (.int k2 y)).run P w = .ok v.toV w) ∧ K v := by
  cases op <;> simp only [intOp] at h <;> simp only [isShift, Bool.true_or, Bool.false_or, beq_iff_eq] at hk <;> first
    | (subst hk; refine ⟨_, fun w => ?_, h⟩; simp [binOp, Op.intArith, Op.intCmp, Op.intBits, SV.toV, Sc.toV, wr, bitsOf, boolSV]; done)
    | (subst hk; have h1 := h.1; refine ⟨_, fun w => ?_, h.2⟩; simp [binOp, Op.intDiv, SV.toV, Sc.toV, wr, h1]; done)
    | (have h1 := Int.not_lt.2 h.1; refine ⟨_, fun w => ?_, h.2⟩; simp [binOp, Op.shift, SV.toV, Sc.toV, shlOf, shrOf, h1]; done)

theorem run_guard_plain {P : Program} {w : World} {op : BinOp} {t : TypeId} {x y : Operand} {a b : Value} (h1 : ∀ l, a ≠ .agg l) (h2 : a ≠ .nilIface ∨ b ≠ .nilIface ∨ isConstO y = true) :
    (eqGuard op t x y a b).run P w = .ok () w := by
  unfold eqGuard
  cases a with
  | agg l => exact absurd rfl (h1 l)
  | nilIface =>
    cases b with
    | nilIface =>
      have : isConstO y = true := by
        rcases h2 with h2 | h2 | h2
        · exact absurd rfl h2
        · exact absurd rfl h2
        · exact h2
      cases y with
      | const v => cases x <;> cases op <;> rfl
      | _ => simp [isConstO] at this
    | _ => cases op <;> rfl
  | _ => cases op <;> rfl

theorem run_eqOnly {P : Program} {w : World} {op : BinOp} {t : TypeId} {a b : Value} {r : Bool} {K : SV → Prop}
    (hni : ∀ k x k' y, a = .int k x → b = .int k' y → False) (hnf : ∀ k x k' y, a = .float k x → b = .float k' y → False)
    (hnc : ∀ k x1 x2 k' y1 y2, a = .complex k x1 x2 → b = .complex k' y1 y2 → False) (hns : ∀ x y, a = .string x → b = .string y → False)
    (he : ∀ w, (Op.equal t a b).run P w = .ok r w) (h : eqOnly op r K) :
    ∃ v, (∀ w, (binOp op t a b).run P w = .ok v.toV w) ∧ K v := by
  cases op <;> simp only [eqOnly] at h <;> first
    | exact h.elim
    | (refine ⟨_, fun w => ?_, h⟩
       unfold binOp
       split <;> first
         | (exfalso; exact hni _ _ _ _ rfl rfl)
         | (exfalso; exact hnf _ _ _ _ rfl rfl)
         | (exfalso; exact hnc _ _ _ _ _ _ rfl rfl)
         | (exfalso; exact hns _ _ rfl rfl)
         | (simp [he, SV.toV, Sc.toV, boolSV]; done)
         | (simp_all; done))

theorem und_of_undB {P : Program} {t : TypeId} (h : undB P t = true) : P.underlying t = some .bool := by
  unfold undB at h
  split at h
  · assumption
  · simp at h
theorem und_of_undP {P : Program} {t : TypeId} (h : undP P t = true) : ∃ e, P.underlying t = some (.pointer e) := by
  unfold undP at h
  split at h
  · exact ⟨_, by assumption⟩
  · simp at h
theorem und_of_undS {P : Program} {t : TypeId} (h : undS P t = true) : ∃ e, P.underlying t = some (.slice e) := by
  unfold undS at h
  split at h
  · exact ⟨_, by assumption⟩
  · simp at h
theorem und_of_undI {P : Program} {t : TypeId} (h : undI P t = true) : ∃ e, P.underlying t = some (.interface e) := by
  unfold undI at h
  split at h
  · exact ⟨_, by assumption⟩
  · simp at h
theorem und_of_undStr {P : Program} {t : TypeId} (h : undStr P t = true) : P.underlying t = some .string := by
  unfold undStr at h
  split at h
  · assumption
  · simp at h
theorem und_of_elem {P : Program} {t e : TypeId} (h : elemOf' P t = some e) : P.underlying t = some (.slice e) := by
  unfold elemOf' at h
  split at h
  · rename_i h1; simp at h; subst h; exact h1
  · simp at h

theorem equalIn_bool {P : Program} {t : TypeId} (h : P.underlying t = some .bool) (a b : Bool) (d : Nat) (w : World) : (Op.equalIn (d + 1) t (.bool a) (.bool b)).run P w = .ok (a == b) w := by
  simp [Op.equalIn, run_und h]
theorem equal_bool {P : Program} {t : TypeId} (h : P.underlying t = some .bool) (a b : Bool) (w : World) : (Op.equal t (.bool a) (.bool b)).run P w = .ok (a == b) w :=
  equalIn_bool h a b 9999 w
theorem equalIn_ptr {P : Program} {t e : TypeId} (h : P.underlying t = some (.pointer e)) (q r : Option Addr) (hh : r = none ∨ q = none) (d : Nat) (w : World) :
    (Op.equalIn (d + 1) t (.pointer q) (.pointer r)).run P w = .ok (if r = none then q.isNone else r.isNone) w := by
  cases q <;> cases r <;> first | (simp at hh; done) | simp [Op.equalIn, run_und h]
theorem equal_ptr {P : Program} {t e : TypeId} (h : P.underlying t = some (.pointer e)) (q r : Option Addr) (hh : r = none ∨ q = none) (w : World) :
    (Op.equal t (.pointer q) (.pointer r)).run P w = .ok (if r = none then q.isNone else r.isNone) w := equalIn_ptr h q r hh 9999 w
theorem equalIn_slice {P : Program} {t e : TypeId} (h : P.underlying t = some (.slice e)) (q : Option Addr) (n c n' c' : Nat) (d : Nat) (w : World) :
    (Op.equalIn (d + 1) t (.slice q n c) (.slice none n' c')).run P w = .ok q.isNone w := by
  cases q <;> simp [Op.equalIn, run_und h]
theorem equal_slice {P : Program} {t e : TypeId} (h : P.underlying t = some (.slice e)) (q : Option Addr) (n c n' c' : Nat) (w : World) :
    (Op.equal t (.slice q n c) (.slice none n' c')).run P w = .ok q.isNone w := equalIn_slice h q n c n' c' 9999 w
theorem equalIn_nil {P : Program} {t : TypeId} {e : Array (String × TypeId)} (h : P.underlying t = some (.interface e)) (d : Nat) (w : World) :
    (Op.equalIn (d + 1) t .nilIface .nilIface).run P w = .ok true w := by
  simp [Op.equalIn, run_und h]
theorem equal_nil {P : Program} {t : TypeId} {e : Array (String × TypeId)} (h : P.underlying t = some (.interface e)) (w : World) :
    (Op.equal t .nilIface .nilIface).run P w = .ok true w := equalIn_nil h 9999 w
theorem equalIn_ifc {P : Program} {t : TypeId} {e : Array (String × TypeId)} (h : P.underlying t = some (.interface e)) (u : TypeId) (x : Value) (d : Nat) (w : World) :
    (Op.equalIn (d + 1) t (.iface u x) .nilIface).run P w = .ok false w := by
  simp [Op.equalIn, run_und h]
theorem equal_ifc {P : Program} {t : TypeId} {e : Array (String × TypeId)} (h : P.underlying t = some (.interface e)) (u : TypeId) (x : Value) (w : World) :
    (Op.equal t (.iface u x) .nilIface).run P w = .ok false w := equalIn_ifc h u x 9999 w

theorem exC_imp {ty : Ty} {k : Sc → Prop} (h : exC ty k) : ∃ x, k x := by
  cases ty with
  | i kk => obtain ⟨x, h⟩ := h; exact ⟨_, h⟩
  | b => obtain ⟨x, h⟩ := h; exact ⟨_, h⟩
  | p => obtain ⟨x, h⟩ := h; exact ⟨_, h⟩
  | sl => obtain ⟨x, y, z, h⟩ := h; exact ⟨_, h⟩
  | s => obtain ⟨x, h⟩ := h; exact ⟨_, h⟩
  | o => obtain ⟨x, h⟩ := h; exact ⟨_, h⟩

theorem exCs_imp : ∀ {tys : List Ty} {k : List Sc → Prop}, exCs tys k → ∃ l, k l
  | [], k, h => ⟨_, h⟩
  | ty :: r, k, h => by
    obtain ⟨x, h⟩ := exC_imp h
    obtain ⟨l, h⟩ := exCs_imp h
    exact ⟨_, h⟩

theorem exT_imp {P : Program} {t : TypeId} {k : Tc → Prop} (h : exT P t k) : ∃ x, k x := by
  unfold exT at h
  split at h
  · obtain ⟨l, h⟩ := exCs_imp h; exact ⟨_, h⟩
  · obtain ⟨l, h⟩ := exC_imp h; exact ⟨_, h⟩

theorem exTs_imp {P : Program} : ∀ {ts : List TypeId} {k : List Tc → Prop}, exTs P ts k → ∃ l, k l
  | [], k, h => ⟨_, h⟩
  | t :: r, k, h => by
    obtain ⟨x, h⟩ := exT_imp h
    obtain ⟨l, h⟩ := exTs_imp h
    exact ⟨_, h⟩

theorem exV_imp {P : Program} {t : TypeId} {k : SV → Prop} (h : exV P t k) : ∃ x, k x := by
  unfold exV at h
  split at h
  · obtain ⟨l, h⟩ := exTs_imp h; exact ⟨_, h⟩
  · split at h
    · obtain ⟨l, h⟩ := exCs_imp h; exact ⟨_, h⟩
    · obtain ⟨l, h⟩ := exC_imp h; exact ⟨_, h⟩

/-- What is shown of an operation that leaves the world alone. -/
def PureOk (P : Program) (F : Fr) (H : Hp) (o : Oper) (need : SV → Held) (k : SV → Hp → Prop) : Prop :=
  ∃ v, HeldH H (need v) ∧ (∀ w, HeldW w (need v) → (execOp (act F).eval o).run P w = .ok (.value v.toV) w) ∧ k v H

theorem PureOk.mk' {P : Program} {F : Fr} {H : Hp} {o : Oper} {k : SV → Hp → Prop} (v : SV) (h : ∀ w, (execOp (act F).eval o).run P w = .ok (.value v.toV) w) (hk : k v H) : PureOk P F H o (fun _ => []) k :=
  ⟨v, (fun c hc => by simp at hc), fun w _ => h w, hk⟩

theorem rawPW_pure {P : Program} {F : Fr} {H : Hp} {o : Oper} {k : SV → Hp → Prop} (h : rawPW P F H o k) : PureOk P F H o (fun _ => []) k := by
  obtain ⟨v, h1, h2⟩ := h
  obtain ⟨sv, h3, h4⟩ := exV_imp h2
  rw [actV_eq] at h1
  exact .mk' sv (fun w => by rw [h1 w, h3]) h4

theorem ev_eq {F : Fr} {x : Operand} {v : SV} (h : ev F x = v) : (act F).eval x = v.toV := by rw [← ev_toV, h]

section
variable {P : Program} {m : Amb} {F : Fr} {H : Hp} {k : SV → Hp → Prop} {dst : Option Tmp} {ty : TypeId} {pos : String} {after : Array Edge} {guard : Option (Nat × Bool)}

theorem pure_move {x : Operand} (h : opW P m F H ⟨dst, .move x, ty, pos, after, guard⟩ k) : PureOk P F H ⟨dst, .move x, ty, pos, after, guard⟩ (fun _ => []) k :=
  .mk' (ev F x) (fun w => by simp [execOp, ev_toV]) h
theorem pure_assign {x : Operand} (h : opW P m F H ⟨dst, .assign x, ty, pos, after, guard⟩ k) : PureOk P F H ⟨dst, .assign x, ty, pos, after, guard⟩ (fun _ => []) k :=
  .mk' (ev F x) (fun w => by simp [execOp, ev_toV]) h
theorem pure_pick {c x y : Operand} (h : opW P m F H ⟨dst, .pick c x y, ty, pos, after, guard⟩ k) : PureOk P F H ⟨dst, .pick c x y, ty, pos, after, guard⟩ (fun _ => []) k := by
  simp only [opW] at h
  split at h
  · rename_i hc
    have e : (act F).eval c = .bool true := ev_eq hc
    exact .mk' (ev F x) (fun w => by simp [execOp, ev_toV, e, asBool]) h
  · rename_i hc
    have e : (act F).eval c = .bool false := ev_eq hc
    exact .mk' (ev F y) (fun w => by simp [execOp, ev_toV, e, asBool]) h
  · exact h.elim
theorem pure_load {t : TypeId} {x : Operand} (h : opW P m F H ⟨dst, .load t x, ty, pos, after, guard⟩ k) :
    ∃ p, ev F x = .c (.a p) ∧ PureOk P F H ⟨dst, .load t x, ty, pos, after, guard⟩ (ldNeed P t p) k := by
  simp only [opW] at h
  split at h
  · rename_i p hp
    obtain ⟨v, h1, h2, h3⟩ := ldW_imp h
    refine ⟨p, hp, v, h1, fun w hw => ?_, h3⟩
    simp only [execOp, ev_eq hp, SV.toV, Sc.toV]
    exact run_lift (h2 w hw)
  · exact h.elim
theorem pure_nilCheck {x : Operand} (h : opW P m F H ⟨dst, .nilCheck x, ty, pos, after, guard⟩ k) : PureOk P F H ⟨dst, .nilCheck x, ty, pos, after, guard⟩ (fun _ => []) k := by
  simp only [opW] at h
  split at h
  · rename_i p hp
    exact .mk' (.c (.a p)) (fun w => by simp [execOp, ev_eq hp, SV.toV, Sc.toV]) h
  · rename_i q hp
    obtain ⟨p, rfl, h⟩ := h
    exact .mk' (.c (.a p)) (fun w => by simp [execOp, ev_eq hp, SV.toV, Sc.toV]) h
  · rename_i name v r cap hp
    obtain ⟨⟨t, y, rfl, hn⟩, h⟩ := h
    refine .mk' _ (fun w => ?_) h
    have e1 : (act F).eval x = .func (.method name) (Value.iface t y :: r).toArray cap.toArray := ev_eq hp
    simp only [execOp, e1]
    have ha : ((Value.iface t y :: r).toArray[0]? : Option Value) = some (.iface t y) := by simp
    simp only [ha, Sem.run_bind, run_program, Result.andThen_ok, hn]
    simp [SV.toV, Sc.toV]
  · rename_i f first cap hp
    refine .mk' _ (fun w => ?_) h
    have e1 : (act F).eval x = .func (.func f) first.toArray cap.toArray := ev_eq hp
    simp [execOp, e1, SV.toV, Sc.toV]
  · exact rawPW_pure h
theorem pure_binOp {op : BinOp} {t : TypeId} {x y : Operand} {yt : TypeId} (h : opW P m F H ⟨dst, .binOp op t x y yt, ty, pos, after, guard⟩ k) :
    PureOk P F H ⟨dst, .binOp op t x y yt, ty, pos, after, guard⟩ (fun _ => []) k := by
  have fin : ∀ {a b : Value} {K : SV → Prop}, (act F).eval x = a → (act F).eval y = b → (∀ l, a ≠ .agg l) → (a ≠ .nilIface ∨ b ≠ .nilIface ∨ isConstO y = true) →
      (∃ v, (∀ w, (binOp op t a b).run P w = .ok v.toV w) ∧ K v) → (∀ v, K v → k v H) → PureOk P F H ⟨dst, .binOp op t x y yt, ty, pos, after, guard⟩ (fun _ => []) k := by
    intro a b K ha hb h1 h2 ⟨v, h3, h4⟩ h5
    refine .mk' v (fun w => ?_) (h5 v h4)
    simp only [execOp, ha, hb]
    exact run_lift (by simp [run_guard_plain h1 h2, h3])
  simp only [opW] at h
  split at h
  · rename_i k1 a k2 b hx hy
    split at h
    · rename_i hk
      exact fin (ev_eq hx) (ev_eq hy) (by simp [SV.toV, Sc.toV]) (.inl (by simp [SV.toV, Sc.toV])) (run_intOp hk h) (fun v hv => hv)
    · exact h.elim
  · rename_i a b hx hy
    split at h
    · rename_i hu
      exact fin (ev_eq hx) (ev_eq hy) (by simp [SV.toV, Sc.toV]) (.inl (by simp [SV.toV, Sc.toV])) (run_eqOnly (w := default) (by simp [SV.toV, Sc.toV]) (by simp [SV.toV, Sc.toV]) (by simp [SV.toV, Sc.toV]) (by simp [SV.toV, Sc.toV]) (fun w => equal_bool (und_of_undB hu) a b w) h) (fun v hv => hv)
    · exact h.elim
  · rename_i a hx hy
    split at h
    · rename_i hu
      exact fin (ev_eq hx) (ev_eq hy) (by simp [SV.toV, Sc.toV]) (.inl (by simp [SV.toV, Sc.toV])) (run_eqOnly (w := default) (by simp [SV.toV, Sc.toV]) (by simp [SV.toV, Sc.toV]) (by simp [SV.toV, Sc.toV]) (by simp [SV.toV, Sc.toV]) (fun w => by rw [show (SV.c Sc.tt).toV = .bool true from rfl, show (SV.c (Sc.b a)).toV = .bool a from rfl, equal_bool (und_of_undB hu)]; cases a <;> rfl) h) (fun v hv => hv)
    · exact h.elim
  · rename_i a hx hy
    split at h
    · rename_i hu
      exact fin (ev_eq hx) (ev_eq hy) (by simp [SV.toV, Sc.toV]) (.inl (by simp [SV.toV, Sc.toV])) (run_eqOnly (w := default) (by simp [SV.toV, Sc.toV]) (by simp [SV.toV, Sc.toV]) (by simp [SV.toV, Sc.toV]) (by simp [SV.toV, Sc.toV]) (fun w => by rw [show (SV.c Sc.ff).toV = .bool false from rfl, show (SV.c (Sc.b a)).toV = .bool a from rfl, equal_bool (und_of_undB hu)]; cases a <;> rfl) h) (fun v hv => hv)
    · exact h.elim
  · rename_i q r hx hy
    split at h
    · rename_i hu
      obtain ⟨e, he⟩ := und_of_undP hu
      split at h
      · rename_i hn
        obtain rfl := isNilO_imp hn hy
        exact fin (ev_eq hx) (ev_eq hy) (by simp [SV.toV, Sc.toV]) (.inl (by simp [SV.toV, Sc.toV])) (run_eqOnly (w := default) (by simp [SV.toV, Sc.toV]) (by simp [SV.toV, Sc.toV]) (by simp [SV.toV, Sc.toV]) (by simp [SV.toV, Sc.toV]) (fun w => by rw [show (SV.c (Sc.p none)).toV = .pointer none from rfl, show (SV.c (Sc.p q)).toV = .pointer q from rfl, equal_ptr he _ _ (.inl rfl)]; simp) h) (fun v hv => hv)
      · rcases h with ⟨rfl, h⟩ | ⟨rfl, h⟩
        · exact fin (ev_eq hx) (ev_eq hy) (by simp [SV.toV, Sc.toV]) (.inl (by simp [SV.toV, Sc.toV])) (run_eqOnly (w := default) (by simp [SV.toV, Sc.toV]) (by simp [SV.toV, Sc.toV]) (by simp [SV.toV, Sc.toV]) (by simp [SV.toV, Sc.toV]) (fun w => by rw [show (SV.c (Sc.p none)).toV = .pointer none from rfl, show (SV.c (Sc.p q)).toV = .pointer q from rfl, equal_ptr he _ _ (.inl rfl)]; simp) h) (fun v hv => hv)
        · exact fin (ev_eq hx) (ev_eq hy) (by simp [SV.toV, Sc.toV]) (.inl (by simp [SV.toV, Sc.toV])) (run_eqOnly (w := default) (by simp [SV.toV, Sc.toV]) (by simp [SV.toV, Sc.toV]) (by simp [SV.toV, Sc.toV]) (by simp [SV.toV, Sc.toV]) (fun w => by rw [show (SV.c (Sc.p none)).toV = .pointer none from rfl, show (SV.c (Sc.p r)).toV = .pointer r from rfl, equal_ptr he _ _ (.inr rfl)]; cases r <;> simp) h) (fun v hv => hv)
    · exact h.elim
  · rename_i p r hx hy
    split at h
    · rename_i hu
      obtain ⟨e, he⟩ := und_of_undP hu
      split at h
      · rename_i hn
        obtain rfl := isNilO_imp hn hy
        exact fin (ev_eq hx) (ev_eq hy) (by simp [SV.toV, Sc.toV]) (.inl (by simp [SV.toV, Sc.toV])) (run_eqOnly (w := default) (by simp [SV.toV, Sc.toV]) (by simp [SV.toV, Sc.toV]) (by simp [SV.toV, Sc.toV]) (by simp [SV.toV, Sc.toV]) (fun w => by rw [show (SV.c (Sc.p none)).toV = .pointer none from rfl, show (SV.c (Sc.a p)).toV = .pointer (some p) from rfl, equal_ptr he _ _ (.inl rfl)]; simp) h) (fun v hv => hv)
      · rcases h with ⟨rfl, h⟩ | ⟨h', h⟩
        · exact fin (ev_eq hx) (ev_eq hy) (by simp [SV.toV, Sc.toV]) (.inl (by simp [SV.toV, Sc.toV])) (run_eqOnly (w := default) (by simp [SV.toV, Sc.toV]) (by simp [SV.toV, Sc.toV]) (by simp [SV.toV, Sc.toV]) (by simp [SV.toV, Sc.toV]) (fun w => by rw [show (SV.c (Sc.p none)).toV = .pointer none from rfl, show (SV.c (Sc.a p)).toV = .pointer (some p) from rfl, equal_ptr he _ _ (.inl rfl)]; simp) h) (fun v hv => hv)
        · cases h'
    · exact h.elim
  · rename_i q n c n' c' hx hy
    split at h
    · rename_i hu
      obtain ⟨e, hu⟩ := und_of_undS hu
      exact fin (ev_eq hx) (ev_eq hy) (by simp [SV.toV, Sc.toV]) (.inl (by simp [SV.toV, Sc.toV])) (run_eqOnly (w := default) (by simp [SV.toV, Sc.toV]) (by simp [SV.toV, Sc.toV]) (by simp [SV.toV, Sc.toV]) (by simp [SV.toV, Sc.toV]) (fun w => equal_slice hu _ _ _ _ _ w) h) (fun v hv => hv)
    · exact h.elim
  · rename_i v hx hy
    split at h
    · rename_i hu
      simp only [Bool.and_eq_true] at hu
      obtain ⟨e, he⟩ := und_of_undI hu.1
      rcases h with ⟨rfl, h⟩ | ⟨t1, x1, rfl, h⟩
      · exact fin (ev_eq hx) (ev_eq hy) (by simp [SV.toV, Sc.toV]) (.inr (.inr hu.2)) (run_eqOnly (w := default) (by simp [SV.toV, Sc.toV]) (by simp [SV.toV, Sc.toV]) (by simp [SV.toV, Sc.toV]) (by simp [SV.toV, Sc.toV]) (fun w => equal_nil he w) h) (fun v hv => hv)
      · exact fin (ev_eq hx) (ev_eq hy) (by simp [SV.toV, Sc.toV]) (.inl (by simp [SV.toV, Sc.toV])) (run_eqOnly (w := default) (by simp [SV.toV, Sc.toV]) (by simp [SV.toV, Sc.toV]) (by simp [SV.toV, Sc.toV]) (by simp [SV.toV, Sc.toV]) (fun w => equal_ifc he _ _ w) h) (fun v hv => hv)
    · exact h.elim
  · rename_i t1 x1 hx hy
    split at h
    · rename_i hu
      obtain ⟨e, he⟩ := und_of_undI hu
      exact fin (ev_eq hx) (ev_eq hy) (by simp [SV.toV, Sc.toV]) (.inl (by simp [SV.toV, Sc.toV])) (run_eqOnly (w := default) (by simp [SV.toV, Sc.toV]) (by simp [SV.toV, Sc.toV]) (by simp [SV.toV, Sc.toV]) (by simp [SV.toV, Sc.toV]) (fun w => equal_ifc he _ _ w) h) (fun v hv => hv)
    · exact h.elim
  · rename_i a b hx hy
    refine fin (K := fun v => k v H) (ev_eq hx) (ev_eq hy) (by simp [SV.toV, Sc.toV]) (.inl (by simp [SV.toV, Sc.toV])) ?_ (fun v hv => hv)
    cases op <;> simp only [eqOnly] at h <;> first
      | exact h.elim
      | (refine ⟨_, fun w => ?_, h⟩; simp [binOp, Op.stringOp, SV.toV, Sc.toV, boolSV]; done)
      | (refine ⟨_, fun w => ?_, h⟩; simp [binOp, Op.stringOp, SV.toV, Sc.toV, boolSV, bne]; done)
  · exact rawPW_pure h
end
end Go.Eng

/-! Soundness, third part: more operations that leave the world alone. -/
namespace Go.Eng
open Go
set_option linter.unusedSimpArgs false
set_option linter.unusedVariables false

theorem takeC_eq (n : Nat) (l : List Sc) : takeC n l = l.take n := by
  induction n generalizing l with
  | zero => rfl
  | succ n ih => cases l <;> simp [takeC, ih]
theorem dropC_eq (n : Nat) (l : List Sc) : dropC n l = l.drop n := by
  induction n generalizing l with
  | zero => cases l <;> rfl
  | succ n ih => cases l <;> simp [dropC, ih]
theorem toVs_map (l : List Sc) : toVs l = l.map Sc.toV := by
  induction l with
  | nil => rfl
  | cons x r ih => simp [toVs, ih]
theorem tcVs_map (l : List Tc) : tcVs l = l.map Tc.toV := by
  induction l with
  | nil => rfl
  | cons x r ih => simp [tcVs, ih]
theorem nthT_eq (l : List Tc) (i : Nat) : nthT l i = l[i]? := by
  induction l generalizing i with
  | nil => rfl
  | cons x r ih => cases i <;> simp [nthT, ih]
theorem splice_spec (l : List Sc) (off : Nat) (ys : List Sc) (h : off + ys.length ≤ l.length) :
    toVs (splice l off ys) = (toVs l).take off ++ toVs ys ++ (toVs l).drop (off + ys.length) := by
  induction l generalizing off ys with
  | nil =>
    simp at h
    obtain ⟨rfl, rfl⟩ := h
    rfl
  | cons x r ih =>
    cases off with
    | zero =>
      cases ys with
      | nil => simp [splice, toVs]
      | cons y ys =>
        have := ih 0 ys (by simp at h ⊢; omega)
        simp [splice, toVs, this]
    | succ off =>
      have := ih off ys (by simp at h ⊢; omega)
      simp [splice, toVs, this, Nat.add_right_comm]

theorem splice_length (l : List Sc) (off : Nat) (ys : List Sc) (h : off + ys.length ≤ l.length) : (splice l off ys).length = l.length := by
  have := congrArg List.length (splice_spec l off ys h)
  simp [toVs_length] at this
  omega

theorem foldl_set (vs : List Value) (off i : Nat) (cs : Array Value) (h : off + i + vs.length ≤ cs.size) :
    ((vs.zipIdx i).foldl (fun cs (c, j) => cs.setIfInBounds (off + j) c) cs).toList = cs.toList.take (off + i) ++ vs ++ cs.toList.drop (off + i + vs.length) := by
  induction vs generalizing i cs with
  | nil => simp
  | cons v r ih =>
    simp only [List.zipIdx_cons, List.foldl_cons, List.length_cons] at h ⊢
    rw [ih (i + 1) _ (by simp; omega)]
    apply List.ext_getElem?
    intro j
    simp only [Array.toList_setIfInBounds, List.getElem?_append, List.length_take, List.length_set, Array.length_toList, List.getElem?_take, List.getElem?_drop, List.getElem?_set, List.length_append, List.length_cons]
    have e1 : min (off + (i + 1)) cs.size = off + i + 1 := by omega
    have e2 : min (off + i) cs.size = off + i := by omega
    rw [e1, e2]
    by_cases h1 : j < off + i
    · simp [h1, show j < off + i + 1 + r.length by omega, show j < off + i + 1 by omega, show j < off + (i + 1) by omega, show ¬ off + i = j by omega, show j < off + i + (r.length + 1) by omega]
    · by_cases h2 : j = off + i
      · subst h2
        simp [show off + i < off + i + 1 + r.length by omega, show off + i < off + (i + 1) by omega, show off + i < cs.size by omega]
      · by_cases h3 : j < off + i + 1 + r.length
        · have h4 : j - (off + i) = (j - (off + i + 1)) + 1 := by omega
          simp [h1, h3, show ¬ j < off + i + 1 by omega, show j < off + i + (r.length + 1) by omega, h4]
        · simp [h1, h3, show ¬ j < off + i + (r.length + 1) by omega]
          rw [if_neg (by omega)]
          congr 1
          omega

theorem fill_sound {F : Fr} {place : Nat → Option (Nat × Nat)} : ∀ (parts : List (Nat × Operand)) (acc l : List Sc),
    (∀ q ∈ parts, (ev F q.2).toV.cells = (ev F q.2).cells.toArray) → fillW place F parts acc = some l →
    Instr.fill place (toVs acc).toArray (parts.map fun q => (q.1, (act F).eval q.2)) = some (toVs l).toArray
  | [], acc, l, _, h => by
    simp [fillW] at h
    subst h
    rfl
  | (i, x) :: r, acc, l, hc, h => by
    simp only [fillW] at h
    split at h
    · rename_i off size hp
      split at h
      · cases h
      · rename_i hnt
        split at h
        · rename_i hs
          simp only [Bool.and_eq_true, beq_iff_eq, decide_eq_true_eq] at hs
          have hcx := hc (i, x) (by simp)
          have ih := fill_sound r _ l (fun q hq => hc q (by simp [hq])) h
          have hsc : (ev F x).cells = toVs (ev F x).scs := by
            cases he : ev F x with
            | c y => rfl
            | g y => rfl
            | t y => exact absurd he (hnt y)
          simp only [List.map_cons, Instr.fill, hp, ← ev_toV, hcx, hsc]
          simp only [List.size_toArray, toVs_length]
          rw [if_neg (by simp [hs.1]; omega)]
          rw [← ih]
          simp only [ev_toV]
          refine congrArg (fun a => Instr.fill place a _) ?_
          apply Array.ext'
          rw [splice_spec _ _ _ hs.2]
          rw [← Array.foldl_toList]
          have := foldl_set (toVs (ev F x).scs) off 0 (toVs acc).toArray (by simp [toVs_length]; omega)
          simp only [Nat.add_zero] at this
          simpa [toVs_length] using this
        · cases h
    · cases h

theorem places_sound {P : Program} (w : World) : ∀ (fs : List Field) (l : List (Nat × Nat)), structPlaces P fs = some l →
    (fs.mapM (m := Sem) fun f => do pure (f.offset, ← sizeOf f.type)).run P w = .ok l w
  | [], l, h => by
    simp [structPlaces] at h
    subst h
    rfl
  | f :: r, l, h => by
    simp only [structPlaces] at h
    split at h
    · rename_i hf
      split at h
      · rename_i l' hl
        simp at h
        subst h
        simp only [List.mapM_cons, Sem.run_bind, run_size hf, Result.andThen_ok, Sem.run_pure, places_sound w r l' hl]
      · cases h
    · cases h

theorem zeroCs_eq {P : Program} {t : TypeId} (h : zeroOk P t = true) : ∃ z, (∀ w, (zeroValue t).run P w = .ok z w) ∧ zeroCs P t = ofConsts z.cells.toList ∧ zc P t = z.cells.toList := by
  unfold zeroOk at h
  split at h
  · rename_i i hi
    obtain ⟨z, hz⟩ := Option.isSome_iff_exists.1 h
    exact ⟨z, fun w => by simp [zeroValue, typeInfo, hi, hz], by simp [zeroCs, hi, hz], by simp [zc, hi, hz]⟩
  · cases h

section
variable {P : Program} {m : Amb} {F : Fr} {H : Hp} {k : SV → Hp → Prop} {dst : Option Tmp} {ty : TypeId} {pos : String} {after : Array Edge} {guard : Option (Nat × Bool)}

theorem pure_build {t : TypeId} {parts : Array (Nat × Operand)} (h : opW P m F H ⟨dst, .build t parts, ty, pos, after, guard⟩ k) :
    PureOk P F H ⟨dst, .build t parts, ty, pos, after, guard⟩ (fun _ => []) k := by
  simp only [opW] at h
  split at h
  · rename_i l hl
    obtain ⟨hk, hcells⟩ := okParts_imp h
    refine .mk' (.g l) (fun w => ?_) hk
    simp only [execOp]
    refine run_lift ?_
    unfold buildW at hl
    split at hl
    · rename_i hz
      obtain ⟨z, hz1, hz2, hz3⟩ := zeroCs_eq hz
      have hparts : (parts.map fun (i, x) => (i, (act F).eval x)).toList = parts.toList.map fun q => (q.1, (act F).eval q.2) := by simp
      split at hl
      · rename_i fs hu
        split at hl
        · rename_i pl hpl
          have h1 := places_sound (P := P) w _ _ hpl
          have h2 := fill_sound _ _ _ hcells hl
          rw [hz2, ofConsts_toVs] at h2
          have h3 : (fs.mapM (m := Sem) fun f => do pure (f.offset, ← sizeOf f.type)).run P w = .ok pl.toArray w := by
            rw [Array.mapM_eq_mapM_toList]
            simp only [Sem.run_map, h1, Result.andThen_ok]
          simp only [Instr.build, Sem.run_bind, hz1, Result.andThen_ok, run_und hu, h3, hparts]
          have h4 : (fun i : Nat => pl.toArray[i]?) = fun i : Nat => pl[i]? := by funext i; simp
          rw [h4, h2]
          rfl
        · cases hl
      · rename_i n e hu
        split at hl
        · rename_i he
          have h2 := fill_sound _ _ _ hcells hl
          rw [hz2, ofConsts_toVs] at h2
          simp only [Instr.build, Sem.run_bind, hz1, Result.andThen_ok, run_und hu, run_size he, hparts]
          rw [h2]
          rfl
        · cases hl
      · cases hl
    · cases hl
  · exact h.elim
theorem pure_not {t : TypeId} {x : Operand} (h : opW P m F H ⟨dst, .unOp .not t x, ty, pos, after, guard⟩ k) : PureOk P F H ⟨dst, .unOp .not t x, ty, pos, after, guard⟩ (fun _ => []) k := by
  simp only [opW] at h
  split at h
  · rename_i hx
    exact .mk' (.c .ff) (fun w => by simp [execOp, ev_eq hx, SV.toV, Sc.toV, Op.unary]) h
  · rename_i hx
    exact .mk' (.c .tt) (fun w => by simp [execOp, ev_eq hx, SV.toV, Sc.toV, Op.unary]) h
  · rename_i b hx
    exact .mk' (boolSV (!b)) (fun w => by simp [execOp, ev_eq hx, boolSV, SV.toV, Sc.toV, Op.unary]) h
  · exact h.elim
theorem pure_neg {t : TypeId} {x : Operand} (h : opW P m F H ⟨dst, .unOp .neg t x, ty, pos, after, guard⟩ k) : PureOk P F H ⟨dst, .unOp .neg t x, ty, pos, after, guard⟩ (fun _ => []) k := by
  simp only [opW] at h
  split at h
  · rename_i k1 n hx
    exact .mk' (.c (.i k1 (wr k1 (0 - n)))) (fun w => by simp [execOp, ev_eq hx, SV.toV, Sc.toV, Op.unary, Op.intArith, wr]) h
  · exact rawPW_pure h
theorem und_of_intT {P : Program} {t : TypeId} (h : intT P t = true) : ∃ k, P.underlying t = some (.int k) := by
  unfold intT at h
  split at h
  · exact ⟨_, by assumption⟩
  · cases h
theorem pure_convert {s d : TypeId} {x : Operand} (hw : (intT P s && intT P d) = true) (h : opW P m F H ⟨dst, .convert s d x, ty, pos, after, guard⟩ k) :
    PureOk P F H ⟨dst, .convert s d x, ty, pos, after, guard⟩ (fun _ => []) k := by
  simp only [opW, hw, if_true] at h
  simp only [Bool.and_eq_true] at hw
  obtain ⟨k1, h1⟩ := und_of_intT hw.1
  split at h
  · rename_i k2 k3 n hd hx
    refine .mk' (.c (.i k2 (wr k2 n))) (fun w => ?_) h
    simp [execOp, ev_eq hx, SV.toV, Sc.toV, convert, run_und h1, run_und hd, Conv.intToInt, wr]
  · exact h.elim
theorem pure_makeInterface {t : TypeId} {x : Operand} (h : opW P m F H ⟨dst, .makeInterface t x, ty, pos, after, guard⟩ k) :
    PureOk P F H ⟨dst, .makeInterface t x, ty, pos, after, guard⟩ (fun _ => []) k := by
  simp only [opW] at h
  split at h
  · exact h.elim
  · rename_i d hd hu
    refine .mk' (.c (.ifc t (ev F x).toV)) (fun w => ?_) h
    simp only [execOp]
    refine run_lift ?_
    simp only [Instr.makeInterface, Sem.run_bind, run_und hu, Result.andThen_ok]
    cases d <;> first | exact absurd hu (hd _) | (rw [ev_toV]; rfl)
  · exact h.elim
theorem pure_makeFunc {fn : Fn} {first cap : Array Operand} (h : opW P m F H ⟨dst, .makeFunc fn first cap, ty, pos, after, guard⟩ k) :
    PureOk P F H ⟨dst, .makeFunc fn first cap, ty, pos, after, guard⟩ (fun _ => []) k := by
  refine .mk' _ (fun w => ?_) h
  simp [execOp, Instr.makeFunc, SV.toV, Sc.toV, evVs_arr]

theorem run_bound {P : Program} (w : World) (k : IntKind) (i : Int) (y : Nat) (c : BoundsCode) (h0 : 0 ≤ i) (h1 : i ≤ y) : (Instr.sliceBound (.int k i) y c).run P w = .ok i.toNat w := by
  simp [Instr.sliceBound, asIntOf, h0, h1]

theorem optI_imp {F : Fr} {x : Option Operand} {i : Option Int} (h : optI F x = some i) : (x = none ∧ i = none) ∨ ∃ k n, x.map (act F).eval = some (.int k n) ∧ i = some n := by
  cases x with
  | none => simp [optI] at h; exact .inl ⟨rfl, h.symm⟩
  | some x =>
    simp only [optI] at h
    split at h
    · rename_i k n hx
      simp at h
      exact .inr ⟨k, n, by simp [ev_eq hx, SV.toV, Sc.toV], h.symm⟩
    · cases h

theorem run_bounds {P : Program} {F : Fr} (w : World) (isS : Bool) (n c : Nat) {lo hi mx : Option Operand} {l h mm : Option Int} (hl : optI F lo = some l) (hh : optI F hi = some h) (hm : optI F mx = some mm)
    (hb : 0 ≤ l.getD 0 ∧ l.getD 0 ≤ h.getD n ∧ h.getD n ≤ mm.getD c ∧ mm.getD c ≤ c) (hmh : mx.isSome = true → hi.isSome = true) :
    (Instr.sliceBounds isS n c (lo.map (act F).eval) (hi.map (act F).eval) (mx.map (act F).eval)).run P w = .ok ((l.getD 0).toNat, (h.getD n).toNat, (mm.getD c).toNat) w := by
  obtain ⟨hb0, hb1, hb2, hb3⟩ := hb
  rcases optI_imp hl with ⟨rfl, rfl⟩ | ⟨k1, n1, e1, rfl⟩ <;> rcases optI_imp hh with ⟨rfl, rfl⟩ | ⟨k2, n2, e2, rfl⟩ <;> rcases optI_imp hm with ⟨rfl, rfl⟩ | ⟨k3, n3, e3, rfl⟩ <;>
    simp only [Option.getD_some, Option.getD_none] at hb0 hb1 hb2 hb3 <;> simp only [Instr.sliceBounds, Option.map_none, Sem.run_bind, Sem.run_pure, Result.andThen_ok, Option.getD_some, Option.getD_none, Option.isSome_none, Option.isSome_some, *] <;> first
    | (simp; done)
    | (rw [run_bound w _ _ _ _ (by omega) (by omega)]; simp; done)
    | (rw [run_bound w _ _ _ _ (by omega) (by omega)]; simp only [Result.andThen_ok, Sem.run_bind, Sem.run_pure]; rw [run_bound w _ _ _ _ (by omega) (by omega)]; simp; done)
    | (rw [run_bound w _ _ _ _ (by omega) (by omega)]; simp only [Result.andThen_ok, Sem.run_bind, Sem.run_pure]; rw [run_bound w _ _ _ _ (by omega) (by omega)]; simp only [Result.andThen_ok, Sem.run_bind, Sem.run_pure]; rw [run_bound w _ _ _ _ (by omega) (by omega)]; simp; done)
    | (exfalso; cases mx <;> simp at e3; simp at hmh; done)


theorem pure_slice {t : TypeId} {x : Operand} {lo hi mx : Option Operand} (h : opW P m F H ⟨dst, .slice t x lo hi mx, ty, pos, after, guard⟩ k) :
    PureOk P F H ⟨dst, .slice t x lo hi mx, ty, pos, after, guard⟩ (fun _ => []) k := by
  simp only [opW] at h
  split at h
  · exact h.elim
  rename_i hmh0
  have hmh : mx.isSome = true → hi.isSome = true := by
    intro h1
    cases hi with
    | some x => rfl
    | none => simp [h1] at hmh0
  clear hmh0
  split at h
  · rename_i q n c l hh mm hx hl hhi hmx
    split at h
    · rename_i e he
      split at h
      · rename_i hs
        obtain ⟨hb, h⟩ := h
        refine .mk' _ (fun w => ?_) h
        have e1 : (act F).eval x = .slice q n c := ev_eq hx
        simp only [execOp, e1]
        refine run_lift ?_
        simp only [Instr.sliceAt, Sem.run_bind, run_und (und_of_elem he), Result.andThen_ok, Instr.slice, run_bounds w true n c hl hhi hmx hb hmh, run_size hs, Sem.run_pure, SV.toV, Sc.toV]
      · exact h.elim
    · exact h.elim
  · rename_i s l hh hx hl hhi hmx
    split at h
    · rename_i hu
      obtain ⟨hb, h⟩ := h
      refine .mk' _ (fun w => ?_) h
      have e1 : (act F).eval x = .string s := ev_eq hx
      have hmn : mx = none := by
        rcases optI_imp hmx with ⟨h, _⟩ | ⟨_, _, _, h⟩
        · exact h
        · cases h
      subst hmn
      simp only [execOp, e1]
      refine run_lift ?_
      have hbb := run_bounds (P := P) (F := F) w false s.size s.size (mx := none) hl hhi (mm := none) rfl ⟨hb.1, hb.2.1, by simpa using hb.2.2, by simp⟩ (by simp)
      simp only [Option.map_none] at hbb
      simp [Instr.sliceAt, run_und (und_of_undStr hu), Instr.slice, hbb, SV.toV, Sc.toV]
    · exact h.elim
  · rename_i p l hh mm hx hl hhi hmx
    split at h
    · rename_i n e hu
      split at h
      · rename_i hs
        obtain ⟨hb, h⟩ := h
        refine .mk' _ (fun w => ?_) h
        have e1 : (act F).eval x = .pointer (some p) := ev_eq hx
        simp only [execOp, e1]
        refine run_lift ?_
        simp only [Instr.sliceAt, Sem.run_bind, run_und hu, Result.andThen_ok, Instr.sureAddr, run_bounds w false n n hl hhi hmx hb hmh, run_size hs, Sem.run_pure, SV.toV, Sc.toV]
        congr 2
        split <;> simp
      · exact h.elim
    · exact h.elim
  · exact h.elim

theorem fieldOff_imp {t : TypeId} {i off ft : Nat} (h : fieldOff P t i = some (off, ft)) : ∃ fs f, P.underlying t = some (.struct fs) ∧ fs[i]? = some f ∧ f.offset = off ∧ f.type = ft := by
  unfold fieldOff at h
  split at h
  · rename_i fs hu
    split at h
    · rename_i f hf
      simp at h
      exact ⟨fs, f, hu, by simpa using hf, h.1, h.2⟩
    · cases h
  · cases h

theorem hasT_of_cells {t : TypeId} (h : P.cellsOf t ≠ 0) : hasT P t = true := by
  unfold Program.cellsOf at h
  unfold hasT
  cases hi : P.info? t with
  | none => simp [hi] at h
  | some i => rfl

theorem pure_fieldAddr {t : TypeId} {x : Operand} {i : Nat} (h : opW P m F H ⟨dst, .fieldAddr t x i, ty, pos, after, guard⟩ k) :
    PureOk P F H ⟨dst, .fieldAddr t x i, ty, pos, after, guard⟩ (fun _ => []) k := by
  simp only [opW] at h
  split at h
  · rename_i p off ft hx hf
    split at h
    · exact h.elim
    · rename_i hc
      obtain ⟨fs, f, hu, hfs, rfl, rfl⟩ := fieldOff_imp hf
      have hc' : P.cellsOf f.type ≠ 0 := by simpa using hc
      refine .mk' _ (fun w => ?_) h
      have e1 : (act F).eval x = .pointer (some p) := ev_eq hx
      simp only [execOp, e1]
      refine run_lift ?_
      simp [Instr.fieldAt, run_und hu, hfs, Instr.sureAddr, fieldPlace, run_size (hasT_of_cells hc'), hc', SV.toV, Sc.toV]
  · exact h.elim

theorem pure_field {t : TypeId} {x : Operand} {i : Nat} (h : opW P m F H ⟨dst, .field t x i, ty, pos, after, guard⟩ k) :
    PureOk P F H ⟨dst, .field t x i, ty, pos, after, guard⟩ (fun _ => []) k := by
  simp only [opW] at h
  split at h
  · rename_i l off ft hx hf
    obtain ⟨fs, f, hu, hfs, rfl, rfl⟩ := fieldOff_imp hf
    have e1 : (act F).eval x = .agg (toVs l).toArray := ev_eq hx
    split at h
    · rename_i huo
      have hT : hasT P f.type = true := by
        unfold undOk at huo
        obtain ⟨d, hd⟩ := Option.isSome_iff_exists.1 huo
        obtain ⟨j, hj⟩ := info_of_und hd
        simp [hasT, hj]
      split at h
      · rename_i hag
        refine .mk' _ (fun w => ?_) h
        simp only [execOp, e1]
        refine run_lift ?_
        simp [Instr.field, run_und hu, hfs, asAgg, part, run_isAgg huo, hag, run_size hT, SV.toV, takeC_eq, dropC_eq, toVs_map, List.map_take, List.map_drop]
      · rename_i hag
        split at h
        · rename_i y r hy
          refine .mk' _ (fun w => ?_) h
          simp only [execOp, e1]
          refine run_lift ?_
          have : (toVs l)[f.offset]? = some y.toV := by
            rw [dropC_eq] at hy
            have : l[f.offset]? = some y := by
              have := congrArg (fun z => z[0]?) hy
              simpa using this
            simp [toVs_map, this]
          simp [Instr.field, run_und hu, hfs, asAgg, part, run_isAgg huo, hag, this, SV.toV]
        · exact h.elim
    · exact h.elim
  · exact rawPW_pure h

theorem pure_indexAddr {t : TypeId} {x i : Operand} (h : opW P m F H ⟨dst, .indexAddr t x i, ty, pos, after, guard⟩ k) :
    PureOk P F H ⟨dst, .indexAddr t x i, ty, pos, after, guard⟩ (fun _ => []) k := by
  simp only [opW] at h
  split at h
  · rename_i n e p k1 j hu hx hi
    split at h
    · rename_i hs
      obtain ⟨hb, h⟩ := h
      refine .mk' _ (fun w => ?_) h
      have e1 : (act F).eval x = .pointer (some p) := ev_eq hx
      have e2 : (act F).eval i = .int k1 j := ev_eq hi
      simp only [execOp, e1, e2]
      refine run_lift ?_
      simp [Instr.indexAt, run_und hu, asIntOf, Instr.sureAddr, hb, run_size hs, SV.toV, Sc.toV]
    · exact h.elim
  · rename_i e q n c k1 j hu hx hi
    split at h
    · rename_i hs
      obtain ⟨p, rfl, hb, h⟩ := h
      refine .mk' _ (fun w => ?_) h
      have e1 : (act F).eval x = .slice (some p) n c := ev_eq hx
      have e2 : (act F).eval i = .int k1 j := ev_eq hi
      simp only [execOp, e1, e2]
      refine run_lift ?_
      simp [Instr.indexAt, run_und hu, asIntOf, hb, run_size hs, SV.toV, Sc.toV]
    · exact h.elim
  · exact h.elim

theorem pure_index {t : TypeId} {x i : Operand} (h : opW P m F H ⟨dst, .index t x i, ty, pos, after, guard⟩ k) :
    PureOk P F H ⟨dst, .index t x i, ty, pos, after, guard⟩ (fun _ => []) k := by
  simp only [opW] at h
  split at h
  · rename_i s k1 j hu hx hi
    obtain ⟨b, h0, hb, h⟩ := h
    refine .mk' _ (fun w => ?_) h
    have e1 : (act F).eval x = .string s := ev_eq hx
    have e2 : (act F).eval i = .int k1 j := ev_eq hi
    simp only [execOp, e1, e2]
    refine run_lift ?_
    simp [Instr.index, run_und hu, asIntOf, h0, hb, SV.toV, Sc.toV]
  · exact rawPW_pure h

theorem pure_extract {x : Operand} {i : Nat} (h : opW P m F H ⟨dst, .extract x i, ty, pos, after, guard⟩ k) :
    PureOk P F H ⟨dst, .extract x i, ty, pos, after, guard⟩ (fun _ => []) k := by
  simp only [opW] at h
  split at h
  · rename_i l hx
    split at h
    · rename_i y hy
      refine .mk' _ (fun w => ?_) h
      have e1 : (act F).eval x = .tuple (tcVs l).toArray := ev_eq hx
      have e2 : (ofTc y).toV = y.toV := by cases y <;> rfl
      rw [nthT_eq] at hy
      simp [execOp, e1, Instr.extract, tcVs_map, hy, e2]
    · exact h.elim
  · exact h.elim

end
end Go.Eng

/-! Soundness, fourth part: calls that leave the world alone; all such operations together; the operations that turn the world. -/
namespace Go.Eng
open Go
set_option linter.unusedSimpArgs false
set_option linter.unusedVariables false

section
variable {P : Program} {m : Amb} {F : Fr} {H : Hp} {k : SV → Hp → Prop} {dst : Option Tmp} {ty : TypeId} {pos : String} {after : Array Edge} {guard : Option (Nat × Bool)}

theorem arr_of_list1 {α : Type} {a : Array α} {x : α} (h : a.toList = [x]) : a = #[x] := by
  apply Array.ext'; simpa using h

theorem pure_call {c : Call} (hw : isW P ⟨dst, .call c, ty, pos, after, guard⟩ = false) (h : opW P m F H ⟨dst, .call c, ty, pos, after, guard⟩ k) :
    PureOk P F H ⟨dst, .call c, ty, pos, after, guard⟩ (fun _ => []) k := by
  obtain ⟨callee, args, argTypes⟩ := c
  cases callee with
  | value f => cases f <;> simp [isW] at hw
  | invoke r n => simp [isW] at hw
  | builtin b =>
    cases b <;> simp [isW] at hw <;> simp only [opW, callW] at h
    case len =>
      split at h
      · rename_i x hx
        have hx' := arr_of_list1 hx
        subst hx'
        split at h
        · rename_i t r q n c ht hev
          split at h
          · rename_i hu
            obtain ⟨e, hu⟩ := und_of_undS hu
            refine .mk' _ (fun w => ?_) h
            have e1 : (act F).eval x = .slice q n c := ev_eq hev
            have e2 : argTypes[0]? = some t := by rw [← Array.getElem?_toList, ht]; rfl
            simp [execOp, resolve, invoke, builtin, Builtin.len_, e1, e2, run_und hu, SV.toV, Sc.toV, goInt]
          · exact h.elim
        · rename_i t r s ht hev
          split at h
          · rename_i hu
            refine .mk' _ (fun w => ?_) h
            have e1 : (act F).eval x = .string s := ev_eq hev
            have e2 : argTypes[0]? = some t := by rw [← Array.getElem?_toList, ht]; rfl
            simp [execOp, resolve, invoke, builtin, Builtin.len_, e1, e2, run_und (und_of_undStr hu), SV.toV, Sc.toV, goInt]
          · exact h.elim
        · exact rawPW_pure h
      · exact h.elim
    case cap =>
      split at h
      · rename_i x hx
        have hx' := arr_of_list1 hx
        subst hx'
        split at h
        · rename_i t r q n c ht hev
          split at h
          · rename_i hu
            obtain ⟨e, hu⟩ := und_of_undS hu
            refine .mk' _ (fun w => ?_) h
            have e1 : (act F).eval x = .slice q n c := ev_eq hev
            have e2 : argTypes[0]? = some t := by rw [← Array.getElem?_toList, ht]; rfl
            simp [execOp, resolve, invoke, builtin, Builtin.cap_, e1, e2, run_und hu, SV.toV, Sc.toV, goInt]
          · exact h.elim
        · exact rawPW_pure h
      · exact h.elim
    all_goals exact rawPW_pure h

theorem opW_pure {o : Oper} (hw : isW P o = false) (h : opW P m F H o k) : PureOk P F H o (opNeed P F o) k := by
  obtain ⟨dst, op, ty, pos, after, guard⟩ := o
  cases op with
  | move x => exact pure_move h
  | assign x => exact pure_assign h
  | pick c x y => exact pure_pick h
  | build t parts => exact pure_build h
  | load t x =>
    obtain ⟨p, hp, h⟩ := pure_load h
    have : opNeed P F ⟨dst, .load t x, ty, pos, after, guard⟩ = ldNeed P t p := by funext v; simp [opNeed, hp]
    rw [this]; exact h
  | nilCheck x => exact pure_nilCheck h
  | binOp op t x y yt => exact pure_binOp h
  | unOp op t x => cases op with
    | not => exact pure_not h
    | neg => exact pure_neg h
    | _ => exact rawPW_pure h
  | convert s d x => exact pure_convert (by simpa [isW] using hw) h
  | makeInterface t x => exact pure_makeInterface h
  | makeFunc fn a b => exact pure_makeFunc h
  | slice t x lo hi mx => exact pure_slice h
  | fieldAddr t x i => exact pure_fieldAddr h
  | field t x i => exact pure_field h
  | indexAddr t x i => exact pure_indexAddr h
  | index t x i => exact pure_index h
  | extract x i => exact pure_extract h
  | typeAssert x a b c => exact rawPW_pure h
  | call c => exact pure_call hw h
  | _ => simp [isW] at hw

end
end Go.Eng

/-! Soundness, fifth part: the operations that turn the world. -/
namespace Go.Eng
open Go
set_option linter.unusedSimpArgs false
set_option linter.unusedVariables false

def WOk (P : Program) (m : Amb) (F : Fr) (H : Hp) (o : Oper) (k : SV → Hp → Prop) : Prop :=
  ∀ (d : Nat) (Q : Exit → Act → World → Prop), o.wp P (act F) (mkW m H d) (fun a' w' => ∃ v H' d', a' = act (putF o.dst v F) ∧ w' = mkW m H' d' ∧ k v H') Q

theorem WOk.run {P : Program} {m : Amb} {F : Fr} {H : Hp} {o : Oper} {k : SV → Hp → Prop}
    (h : ∀ d, ∃ v H' d', (execOp (act F).eval o).run P (mkW m H d) = .ok (.value v.toV) (mkW m H' d') ∧ k v H') : WOk P m F H o k := by
  intro d Q
  obtain ⟨v, H', d', h1, h2⟩ := h d
  unfold Oper.wp
  rw [h1]
  exact ⟨v, H', d', act_put F o.dst v, rfl, h2⟩

theorem WOk.skip {P : Program} {m : Amb} {F : Fr} {H : Hp} {o : Oper} {k : SV → Hp → Prop} (H' : Hp)
    (h : ∀ d, (execOp (act F).eval o).run P (mkW m H d) = .ok .skip (mkW m H' d)) (hk : k (.t []) H') : WOk P m F H o k := by
  intro d Q
  unfold Oper.wp
  rw [h d]
  exact ⟨.t [], H', d, act_put F o.dst (.t []), rfl, hk⟩

theorem WOk.enter {P : Program} {m : Amb} {F : Fr} {H : Hp} {o : Oper} {k : SV → Hp → Prop} {f : FuncId} {args : List Value} {K : Value → Hp → Prop}
    (h : ∀ d, (execOp (act F).eval o).run P (mkW m H d) = .ok (.enter f args.toArray) (mkW m H d)) (hc : CallsH P m f args H K)
    (hK : ∀ v H', K v H' → ∃ sv, v = sv.toV ∧ k sv H') : WOk P m F H o k := by
  intro d Q
  unfold Oper.wp
  rw [h d]
  refine Calls.mono (hc d) fun e w' he => ?_
  obtain ⟨v, H', d', rfl, rfl, hk⟩ := he
  obtain ⟨sv, rfl, hk'⟩ := hK _ _ hk
  exact ⟨sv, H', d', act_put F o.dst sv, rfl, hk'⟩

theorem rawW_ok {P : Program} {m : Amb} {F : Fr} {H : Hp} {o : Oper} {k : SV → Hp → Prop} (h : rawW P m F H o k) : WOk P m F H o k := by
  refine .run fun d => ?_
  obtain ⟨v, H', d', h1, h2⟩ := h d
  obtain ⟨sv, h3, h4⟩ := exV_imp h2
  rw [actV_eq] at h1
  exact ⟨sv, H', d', by rw [h1, h3], h4⟩

theorem rawPW_ok {P : Program} {m : Amb} {F : Fr} {H : Hp} {o : Oper} {k : SV → Hp → Prop} (h : rawPW P F H o k) : WOk P m F H o k := by
  refine .run fun d => ?_
  obtain ⟨sv, _, h1, h2⟩ := rawPW_pure h
  exact ⟨sv, H, d, h1 _ (fun c hc => by cases hc), h2⟩

theorem run_newRow {P : Program} {m : Amb} {H : Hp} {d : Nat} (e : TypeId) (cs : Array Value) :
    (newRow e cs).run P (mkW m H d) = .ok ⟨H.size, 0, none⟩ (mkW m (H.push (.cells cs e)) d) := by
  simp [newRow]; rfl

theorem callable_imp {P : Program} {f : FuncId} (h : callable P f = true) (args : Array Value) (w : World) : (callFunc f args).run P w = .ok (.enter f args) w := by
  unfold callable at h
  split at h
  · rename_i fn hf
    simp only [Bool.and_eq_true, bne_iff_ne, ne_eq] at h
    have hb : fn.body ≠ none := by
      cases hb : fn.body with
      | none => simp [hb] at h
      | some c => simp
    simp [callFunc, hf, hb, h.2]
  · cases h

theorem run_st1 {P : Program} {m : Amb} {H : Hp} {d : Nat} {a : Addr} {v : Value} (h1 : v.oneCell' = true) (h2 : ∃ old, cellAt H a = some old) (h3 : frozenAt H a = false) :
    (store a v).run P (mkW m H d) = .ok () (mkW m (setAt H a v) d) := by
  obtain ⟨old, h2⟩ := h2
  rw [run_store P _ a v .plain h1]
  rw [cell_mkW, h2, frozen_mkW, h3]
  rfl

theorem run_stCs {P : Program} {m : Amb} {d : Nat} {a : Addr} : ∀ {vs : List Value} {H : Hp} {i : Nat} {k : Hp → Prop}, stCs vs H a i k →
    ∃ H', (storeCells a vs i).run P (mkW m H d) = .ok () (mkW m H' d) ∧ k H'
  | [], H, i, k, h => ⟨H, rfl, h⟩
  | v :: r, H, i, k, h => by
    obtain ⟨h1, h2, h3, h4⟩ := st_old h
    obtain ⟨H', h5, h6⟩ := run_stCs (P := P) (m := m) (d := d) h4
    refine ⟨H', ?_, h6⟩
    simp [storeCells, run_st1 h1 h2 h3, h5]

theorem frozen_setAt (H : Hp) (a b : Addr) (v : Value) : frozenAt (setAt H a v) b = frozenAt H b := by
  unfold frozenAt setAt
  rw [Array.getElem?_modify]
  by_cases hab : a.block = b.block
  · rw [if_pos hab]
    cases hb : H[b.block]? with
    | none => rfl
    | some o => cases o <;> rfl
  · rw [if_neg hab]

theorem cell_setAt_some (H : Hp) (a b : Addr) (v : Value) (h : ∃ old, cellAt H b = some old) : ∃ old, cellAt (setAt H a v) b = some old := by
  obtain ⟨old, h⟩ := h
  unfold cellAt setAt at *
  rw [Array.getElem?_modify]
  by_cases hab : a.block = b.block
  · rw [if_pos hab]
    cases hb : H[b.block]? with
    | none => simp [hb] at h
    | some o =>
      cases o <;> simp [hb] at h ⊢
      rename_i c e fz
      obtain ⟨h0, h1⟩ := h
      have hlt := (Array.getElem?_eq_some_iff.1 h1).1
      refine ⟨h0, ?_⟩
      split <;> exact ⟨_, Array.getElem?_eq_getElem (by simpa using hlt)⟩
  · rw [if_neg hab]; exact ⟨old, h⟩

theorem stOk_setAt {H : Hp} {a b : Addr} {v u : Value} (h : stOkAt H b u) : stOkAt (setAt H a v) b u :=
  ⟨h.1, cell_setAt_some H a b v h.2.1, by rw [frozen_setAt]; exact h.2.2⟩

theorem run_setMany {P : Program} {m : Amb} {d : Nat} {a : Addr} : ∀ (vs : List Value) (H : Hp) (i : Nat), (∀ j v, vs[j]? = some v → stOkAt H (a.add (i + j)) v) →
    (storeCells a vs i).run P (mkW m H d) = .ok () (mkW m (setMany H a vs i) d)
  | [], H, i, h => rfl
  | v :: r, H, i, h => by
    obtain ⟨h1, h2, h3⟩ := h 0 v rfl
    simp only [Nat.add_zero] at h2 h3
    have ih := run_setMany (P := P) (m := m) (d := d) r (setAt H (a.add i) v) (i + 1) (fun j u hu => by
      have := h (j + 1) u (by simpa using hu)
      rw [show i + (j + 1) = i + 1 + j by omega] at this
      exact stOk_setAt this)
    simp [storeCells, run_st1 h1 h2 h3, ih, setMany]

theorem rng_run {P : Program} {m : Amb} {H : Hp} {d : Nat} {q : Option Addr} {n : Nat} {cs : List Value} (h : rng H q n cs) (esz k c : Nat) (hn : n = k * esz) (hq : q = none → n = 0) :
    (Builtin.firstCells esz k (.slice q k c)).run P (mkW m H d) = .ok cs.toArray (mkW m H d) := by
  obtain ⟨hl, h⟩ := h
  cases q with
  | none =>
    have h0 := hq rfl
    have : cs = [] := List.eq_nil_of_length_eq_zero (by omega)
    subst this
    rfl
  | some a =>
    simp only [Builtin.firstCells]
    rw [← hn, ← hl]
    refine run_loadCells_list _ a cs (fun j v hv => ?_)
    rcases h with h | ⟨a', ha, h⟩
    · exfalso
      have : cs = [] := List.eq_nil_of_length_eq_zero (by omega)
      subst this; simp at hv
    · cases ha
      exact h j v hv

theorem rng_nil {H : Hp} {n : Nat} {cs : List Value} (h : rng H none n cs) : n = 0 := by
  rcases h.2 with h | ⟨a, ha, _⟩
  · exact h
  · cases ha

section
variable {P : Program} {m : Amb} {F : Fr} {H : Hp} {k : SV → Hp → Prop} {dst : Option Tmp} {ty : TypeId} {pos : String} {after : Array Edge} {guard : Option (Nat × Bool)}

theorem w_alloc {t : TypeId} (h : opW P m F H ⟨dst, .alloc t, ty, pos, after, guard⟩ k) : WOk P m F H ⟨dst, .alloc t, ty, pos, after, guard⟩ k := by
  simp only [opW] at h
  split at h
  · rename_i hz
    obtain ⟨z, hz1, _, hz3⟩ := zeroCs_eq hz
    refine .run fun d => ⟨_, _, d, ?_, h⟩
    simp only [execOp]
    refine run_lift ?_
    simp only [Instr.alloc, Sem.run_bind, hz1, Result.andThen_ok, newVar]
    have : (zc P t).toArray = z.cells := by rw [hz3]
    rw [this]
    simp [run_newRow, SV.toV, Sc.toV]
  · exact h.elim

theorem w_box {t : TypeId} {x : Operand} (h : opW P m F H ⟨dst, .box t x, ty, pos, after, guard⟩ k) : WOk P m F H ⟨dst, .box t x, ty, pos, after, guard⟩ k := by
  simp only [opW] at h
  obtain ⟨h, hc⟩ := okSV_imp h
  refine .run fun d => ⟨_, _, d, ?_, h⟩
  simp only [execOp]
  refine run_lift ?_
  simp only [Instr.box, newVar, ← ev_toV, hc, Sem.run_bind, run_newRow, Result.andThen_ok]
  rfl

theorem w_store {t : TypeId} {x y : Operand} (h : opW P m F H ⟨dst, .store t x y, ty, pos, after, guard⟩ k) : WOk P m F H ⟨dst, .store t x y, ty, pos, after, guard⟩ k := by
  simp only [opW] at h
  split at h
  · rename_i p hx
    have e1 : (act F).eval x = .pointer (some p) := ev_eq hx
    split at h
    · rename_i hs
      simp only [Bool.and_eq_true, beq_iff_eq] at hs
      split at h
      · rename_i hag
        cases hy : ev F y with
        | g l =>
          rw [hy] at h hs
          have e2 : (act F).eval y = .agg (toVs l).toArray := ev_eq hy
          simp only [SV.cells] at h hs
          have key : ∀ d, ∃ H', (storeCells p (toVs l) 0).run P (mkW m H d) = .ok () (mkW m H' d) ∧ k (.t []) H' := fun d => run_stCs h
          intro d Q
          obtain ⟨H', h1, h2⟩ := key d
          unfold Oper.wp
          have : (execOp (act F).eval ⟨dst, .store t x y, ty, pos, after, guard⟩).run P (mkW m H d) = .ok .skip (mkW m H' d) := by
            simp only [execOp, e1, e2]
            have : (Instr.storeAt t (.pointer (some p)) (.agg (toVs l).toArray)).run P (mkW m H d) = .ok () (mkW m H' d) := by
              simp [Instr.storeAt, Instr.sureAddr, storeVar, run_size hs.2, Value.cells, hs.1, h1]
            simp [this]
          rw [this]
          exact ⟨.t [], H', d, act_put F dst (.t []), rfl, h2⟩
        | c z =>
          rw [hy] at h hs
          simp only [SV.cells, stCs] at h hs
          obtain ⟨h1, h2, h3, h4⟩ := st_old h
          have ha : p.add 0 = p := by simp [Addr.add]
          rw [ha] at h2 h3 h4
          refine .skip _ (fun d => ?_) h4
          have hc : ((act F).eval y).cells = #[z.toV] := by rw [ev_eq hy]; exact oneCell_cells h1
          have e2 : (act F).eval y = z.toV := ev_eq hy
          simp only [execOp, e1]
          have : (Instr.storeAt t (.pointer (some p)) ((act F).eval y)).run P (mkW m H d) = .ok () (mkW m (setAt H p z.toV) d) := by
            simp only [Instr.storeAt, Instr.sureAddr, storeVar, Sem.run_bind, Sem.run_pure, Result.andThen_ok, run_size hs.2, hc, ← hs.1]
            simp [storeCells, ha, run_st1 h1 h2 h3]
          simp [this]
        | t l =>
          rw [hy] at h
          simp only [SV.cells, stCs] at h
          exact absurd (st_old h).1 (by simp [Value.oneCell'])
      · obtain ⟨h1, h2, h3, h4⟩ := st_old h
        refine .skip _ (fun d => ?_) h4
        have hc : (ev F y).toV.cells = #[(ev F y).toV] := oneCell_cells h1
        have hsz : P.cellsOf t = 1 := by
          rw [← hs.1]
          cases hy : ev F y with
          | c z => rfl
          | g l => rw [hy] at h1; simp [SV.toV, Value.oneCell'] at h1
          | t l => rfl
        simp only [execOp, e1]
        have : (Instr.storeAt t (.pointer (some p)) ((act F).eval y)).run P (mkW m H d) = .ok () (mkW m (setAt H p (ev F y).toV) d) := by
          simp only [Instr.storeAt, Instr.sureAddr, storeVar, Sem.run_bind, Sem.run_pure, Result.andThen_ok, run_size hs.2, ← ev_toV, hc, hsz]
          have ha : p.add 0 = p := by simp [Addr.add]
          simp [storeCells, ha, run_st1 h1 h2 h3]
        simp [this]
    · exact h.elim
  · exact h.elim
end
end Go.Eng

/-! Soundness, sixth part: slices that are made, append, copy; calls; all operations together. -/
namespace Go.Eng
open Go
set_option linter.unusedSimpArgs false
set_option linter.unusedVariables false

section
variable {P : Program} {m : Amb} {F : Fr} {H : Hp} {k : SV → Hp → Prop} {dst : Option Tmp} {ty : TypeId} {pos : String} {after : Array Edge} {guard : Option (Nat × Bool)}

theorem repC_toVs (n : Nat) (l : List Sc) : toVs (repC n l) = (List.replicate n (toVs l)).flatten := by
  induction n with
  | zero => rfl
  | succ n ih => simp [repC, toVs_map, List.replicate_succ] at ih ⊢; exact ih

theorem flatten_get (l : List Value) (hl : l ≠ []) (n j : Nat) : ((List.replicate n l).flatten)[j]? = if j < n * l.length then l[j % l.length]? else none := by
  induction n generalizing j with
  | zero => simp
  | succ n ih =>
    simp only [List.replicate_succ, List.flatten_cons, List.getElem?_append]
    have h0 : 0 < l.length := List.length_pos_iff.2 hl
    have e : (n + 1) * l.length = n * l.length + l.length := Nat.succ_mul n l.length
    by_cases h : j < l.length
    · rw [if_pos h, if_pos (by rw [e]; omega), Nat.mod_eq_of_lt h]
    · rw [if_neg h, ih]
      by_cases h2 : j - l.length < n * l.length
      · rw [if_pos h2, if_pos (by rw [e]; omega)]
        congr 1
        exact (Nat.mod_eq_sub_mod (by omega)).symm
      · rw [if_neg h2, if_neg (by rw [e]; omega)]

theorem zeros_list (z : Array Value) (n : Nat) (hz : z.size ≠ 0) : ((Array.range (n * z.size)).map (z[· % z.size]!)).toList = (List.replicate n z.toList).flatten := by
  apply List.ext_getElem?
  intro j
  rw [flatten_get z.toList (by intro h; apply hz; simp [← Array.length_toList, h])]
  simp only [Array.toList_map, Array.toList_range, List.getElem?_map, Array.length_toList]
  by_cases h : j < n * z.size
  · have hlt : j % z.size < z.size := Nat.mod_lt _ (by omega)
    simp [h, List.getElem?_range, hlt, getElem!_pos]
  · simp [h, List.getElem?_range]

theorem w_buildSlice {t : TypeId} {len : Nat} {parts : Array (Nat × Operand)} (h : opW P m F H ⟨dst, .buildSlice t len parts, ty, pos, after, guard⟩ k) :
    WOk P m F H ⟨dst, .buildSlice t len parts, ty, pos, after, guard⟩ k := by
  simp only [opW] at h
  split at h
  · rename_i e he
    split at h
    · rename_i hs
      simp only [Bool.and_eq_true, beq_iff_eq, decide_eq_true_eq] at hs
      obtain ⟨⟨⟨hT, hz⟩, hlen⟩, hzl⟩ := hs
      obtain ⟨z, hz1, hz2, hz3⟩ := zeroCs_eq hz
      split at h
      · rename_i l hl
        obtain ⟨h, hcells⟩ := okParts_imp h
        refine .run fun d => ⟨_, _, d, ?_, h⟩
        simp only [execOp]
        refine run_lift ?_
        have hsz : z.cells.size = P.cellsOf e := by
          have := congrArg List.length hz2
          rw [hzl, ← toVs_length (ofConsts z.cells.toList), ofConsts_toVs] at this
          simpa using this.symm
        have hparts : (parts.map fun (i, x) => (i, (act F).eval x)).toList = parts.toList.map fun q => (q.1, (act F).eval q.2) := by simp
        have h2 := fill_sound _ _ _ hcells hl
        rw [repC_toVs, hz2, ofConsts_toVs] at h2
        simp only [Instr.buildSlice, Sem.run_bind, run_und (und_of_elem he), Result.andThen_ok, run_size hT]
        rw [if_neg (by omega)]
        by_cases h0 : len * P.cellsOf e = 0
        · have h4 : ((Array.range (len * P.cellsOf e)).map fun x => (#[] : Array Value)[x % (#[] : Array Value).size]!) = ((List.replicate len z.cells.toList).flatten).toArray := by
            rw [h0]
            have : (List.replicate len z.cells.toList).flatten = [] := by
              apply List.eq_nil_of_length_eq_zero
              simp [hsz, h0]
            rw [this]
            simp
          rw [if_pos h0]
          simp only [Sem.run_bind, Sem.run_pure, Result.andThen_ok, h4, hparts, h2, run_newRow, SV.toV, Sc.toV]
        · have h4 : ((Array.range (len * P.cellsOf e)).map fun x => z.cells[x % z.cells.size]!) = ((List.replicate len z.cells.toList).flatten).toArray := by
            apply Array.ext'
            rw [← hsz]
            exact zeros_list z.cells len (by rw [hsz]; intro h; simp [h] at h0)
          rw [if_neg h0]
          simp only [Sem.run_bind, hz1, Sem.run_pure, Result.andThen_ok, h4, hparts, h2, run_newRow, SV.toV, Sc.toV]
      · exact h.elim
    · exact h.elim
  · exact h.elim

theorem bytes_eq {t : TypeId} {i : TypeInfo} (h : P.info? t = some i) : P.bytesOf t = i.bytes := by simp [Program.bytesOf, h]

theorem w_makeSlice {t : TypeId} {l c : Operand} (h : opW P m F H ⟨dst, .makeSlice t l c, ty, pos, after, guard⟩ k) :
    WOk P m F H ⟨dst, .makeSlice t l c, ty, pos, after, guard⟩ k := by
  simp only [opW] at h
  split at h
  · rename_i e k1 l1 k2 c1 he hl hc
    split at h
    · rename_i hs
      simp only [Bool.and_eq_true] at hs
      obtain ⟨hT, hz⟩ := hs
      obtain ⟨z, hz1, hz2, hz3⟩ := zeroCs_eq hz
      obtain ⟨⟨h0, h1, h2, h3⟩, h⟩ := h
      refine .run fun d => ⟨_, _, d, ?_, h⟩
      have e1 : (act F).eval l = .int k1 l1 := ev_eq hl
      have e2 : (act F).eval c = .int k2 c1 := ev_eq hc
      simp only [execOp, e1, e2]
      refine run_lift ?_
      obtain ⟨i, hi⟩ := Option.isSome_iff_exists.1 (show (P.info? e).isSome = true from hT)
      have hw1 : IntKind.i64.wrap l1 = l1 := by simp [IntKind.wrap, IntKind.bits, IntKind.signed]; omega
      have hw2 : IntKind.i64.wrap c1 = c1 := by simp [IntKind.wrap, IntKind.bits, IntKind.signed]; omega
      have hb : ¬ (i.bytes : Int) * c1 > 2 ^ 48 := by rw [bytes_eq hi] at h3; omega
      have hti : (typeInfo e).run P (mkW m H d) = .ok i (mkW m H d) := by simp [typeInfo, hi]
      simp only [Instr.makeSlice, Sem.run_bind, run_und (und_of_elem he), Result.andThen_ok, asInt, asIntOf, Sem.run_pure, hti, hw1, hw2]
      rw [if_neg (by simp only [Bool.or_eq_true, decide_eq_true_eq, gt_iff_lt] at *; omega)]
      simp only [Sem.run_bind, run_askRoom, Result.andThen_ok, run_size hT]
      by_cases hz0 : c1.toNat * P.cellsOf e = 0
      · have h5 : ((Array.range (c1.toNat * P.cellsOf e)).map fun x => (#[] : Array Value)[x % (#[] : Array Value).size]!) = (Array.range (c1.toNat * P.cellsOf e)).map fun i => (zc P e).toArray[i % (zc P e).toArray.size]! := by
          rw [hz0]; simp
        rw [if_pos hz0]
        simp only [Sem.run_bind, Sem.run_pure, Result.andThen_ok, h5, run_newRow, SV.toV, Sc.toV]
      · have h5 : ((Array.range (c1.toNat * P.cellsOf e)).map fun x => z.cells[x % z.cells.size]!) = (Array.range (c1.toNat * P.cellsOf e)).map fun i => (zc P e).toArray[i % (zc P e).toArray.size]! := by
          rw [hz3]
        rw [if_neg hz0]
        simp only [Sem.run_bind, hz1, Sem.run_pure, Result.andThen_ok, h5, run_newRow, SV.toV, Sc.toV]
    · exact h.elim
  · exact h.elim

theorem w_call {c : Call} (hb : ∀ b, c.callee ≠ .builtin b) (h : opW P m F H ⟨dst, .call c, ty, pos, after, guard⟩ k) : WOk P m F H ⟨dst, .call c, ty, pos, after, guard⟩ k := by
  obtain ⟨callee, args, argTypes⟩ := c
  have hres : ∀ v H', resW P ty k v H' → ∃ sv, v = sv.toV ∧ k sv H' := by
    intro v H' hv
    obtain ⟨sv, h1, h2⟩ := exV_imp hv
    exact ⟨sv, h1, h2⟩
  simp only [opW, callW] at h
  cases callee with
  | builtin b => exact absurd rfl (hb b)
  | value f =>
    cases f with
    | func f =>
      simp only at h
      split at h
      · rename_i hc
        refine .enter (fun d => ?_) h hres
        simp [execOp, resolve, Deferred.ofValue, invoke, Act.eval, callable_imp hc, evVs_arr]
      · exact rawW_ok h
    | _ =>
      simp only at h
      split at h
      · rename_i f first cap hx
        have e1 := ev_eq hx
        simp only [SV.toV, Sc.toV] at e1
        split at h
        · rename_i hc
          refine .enter (fun d => ?_) h hres
          simp only [execOp, resolve, e1, Deferred.ofValue, Sem.run_bind, Sem.run_pure, Result.andThen_ok, invoke]
          rw [callable_imp hc]
          congr 2
          rw [← evVs_arr]
          simp
        · exact h.elim
      · rename_i fv hx
        have e1 := ev_eq hx
        simp only [SV.toV, Sc.toV] at e1
        obtain ⟨f, first, cap, rfl, hc, h⟩ := h
        refine .enter (fun d => ?_) h hres
        simp only [execOp, resolve, e1, Deferred.ofValue, Sem.run_bind, Sem.run_pure, Result.andThen_ok, invoke]
        rw [callable_imp hc]
        congr 2
        rw [← evVs_arr]
        simp
      · exact h.elim
  | invoke x name =>
    simp only at h
    have hinv : ∀ v, (act F).eval x = v → inv P m v name (evVs F args.toList) H (resW P ty k) → WOk P m F H ⟨dst, .call { callee := .invoke x name, args := args, argTypes := argTypes }, ty, pos, after, guard⟩ k := by
      rintro v e1 ⟨t, y, f, r, rfl, hc, hm, h⟩
      refine .enter (fun d => ?_) h hres
      simp only [execOp, resolve, e1, Sem.run_bind, Sem.run_pure, Result.andThen_ok, invoke]
      have ha : (#[Value.iface t y] ++ Array.map (act F).eval args)[0]? = some (.iface t y) := by rw [Array.getElem?_append_left (by simp)]; rfl
      have hb : (#[Value.iface t y] ++ Array.map (act F).eval args).extract 1 (#[Value.iface t y] ++ Array.map (act F).eval args).size = Array.map (act F).eval args := by
        apply Array.ext'; simp [List.take_of_length_le]
      simp only [ha, hb, callMethod, Sem.run_bind, run_program, Result.andThen_ok, hm]
      rw [callable_imp hc]
      congr 2
      rw [← evVs_arr]
      simp
    split at h
    · rename_i v hx
      exact hinv v (ev_eq hx) h
    · rename_i t v hx
      exact hinv _ (ev_eq hx) h
    · exact h.elim

end
end Go.Eng

/-! Soundness, seventh part: append, copy; all operations together. -/
namespace Go.Eng
open Go
set_option linter.unusedSimpArgs false
set_option linter.unusedVariables false

section
variable {P : Program} {m : Amb} {F : Fr} {H : Hp} {k : SV → Hp → Prop} {dst : Option Tmp} {ty : TypeId} {pos : String} {after : Array Edge} {guard : Option (Nat × Bool)}

theorem arr_of_list2 {α : Type} {a : Array α} {x y : α} (h : a.toList = [x, y]) : a = #[x, y] := by
  apply Array.ext'; simpa using h

theorem cut_append (need old e t : Nat) (h : need < 2 ^ 62) : need ≤ (Question.appendCap need old e).cut t ∧ (Question.appendCap need old e).cut t < 2 ^ 63 := by
  simp only [Question.cut]
  have : t % (2 ^ 63 - need) < 2 ^ 63 - need := Nat.mod_lt _ (by omega)
  omega

theorem run_append {t t1 e e1 rt : TypeId} {q q' : Option Addr} {n cp n' c' : Nat} {cs : List Value} {K : Option Addr → Nat → Nat → Hp → Prop} {at_ : Array TypeId}
    (h0 : at_[0]? = some t) (h1 : at_[1]? = some t1) (he : elemOf' P t = some e) (he1 : elemOf' P t1 = some e1) (hT : hasT P e = true) (hz : zeroOk P e = true)
    (hr : rng H q' (n' * P.cellsOf e) cs) (h : ap P e (P.cellsOf e) (P.bytesOf e) H q n cp cs n' K) (d : Nat) :
    ∃ r n2 c2 H' d', (Builtin.append_ at_ rt #[.slice q n cp, .slice q' n' c']).run P (mkW m H d) = .ok (.slice r n2 c2) (mkW m H' d') ∧ K r n2 c2 H' := by
  obtain ⟨z, hz1, hz2, hz3⟩ := zeroCs_eq hz
  obtain ⟨i, hi⟩ := Option.isSome_iff_exists.1 (show (P.info? e).isSome = true from hT)
  have hti : ∀ w, (typeInfo e).run P w = .ok i w := fun w => by simp [typeInfo, hi]
  have hnew : ∀ d, (Builtin.firstCells (P.cellsOf e) n' (.slice q' n' c')).run P (mkW m H d) = .ok cs.toArray (mkW m H d) :=
    fun d => rng_run hr (P.cellsOf e) n' c' rfl (fun hq => rng_nil (hq ▸ hr))
  obtain ⟨hA, hB⟩ := h
  have hstart : ∀ (x : Sem Value), True := fun _ => trivial
  by_cases hcap : n + n' ≤ cp
  · rcases wrs_old (hA hcap) with ⟨hnil, hk⟩ | ⟨a, rfl, hst, hk⟩
    · refine ⟨q, n + n', cp, H, d, ?_, hk⟩
      subst hnil
      unfold Builtin.append_
      simp only [h0, h1, List.getElem?_toArray, List.getElem?_cons_zero, List.getElem?_cons_succ, Sem.run_bind, run_und (und_of_elem he), run_und (und_of_elem he1), Result.andThen_ok, run_size hT, Sem.run_pure, Builtin.lenOf, Bool.false_eq_true, if_false]
      rw [if_pos hcap]
      simp only [Bool.not_false, if_true, Sem.run_bind, hnew, Result.andThen_ok]
      cases q <;> simp [storeCells]
    · refine ⟨some a, n + n', cp, _, d, ?_, hk⟩
      have hs : (storeCells (a.add (n * P.cellsOf e)) cs).run P (mkW m H d) = .ok () (mkW m (setMany H (a.add (n * P.cellsOf e)) cs 0) d) :=
        run_setMany cs H 0 (fun j v hv => by simpa using hst j v hv)
      unfold Builtin.append_
      simp only [h0, h1, List.getElem?_toArray, List.getElem?_cons_zero, List.getElem?_cons_succ, Sem.run_bind, run_und (und_of_elem he), run_und (und_of_elem he1), Result.andThen_ok, run_size hT, Sem.run_pure, Builtin.lenOf, Bool.false_eq_true, if_false]
      rw [if_pos hcap]
      simp only [Bool.not_false, if_true, Sem.run_bind, hnew, Result.andThen_ok, hs, Sem.run_pure]
  · obtain ⟨hlt, hnx, hB'⟩ := hB (by omega)
    obtain ⟨old, hold, hk⟩ := rd_old hB'
    obtain ⟨hc1, hc2⟩ := cut_append (n + n') cp e (m.tape d (.appendCap (n + n') cp e)) hlt
    refine ⟨_, _, _, _, d + 1, ?_, hk _ hc1 hc2⟩
    have ho : ∀ d, (Builtin.firstCells (P.cellsOf e) n (.slice q n cp)).run P (mkW m H d) = .ok old.toArray (mkW m H d) :=
      fun d => rng_run hold (P.cellsOf e) n cp rfl (fun hq => rng_nil (hq ▸ hold))
    have hch : (choose (.appendCap (n + n') cp e)).run P (mkW m H d) = .ok ((Question.appendCap (n + n') cp e).cut (m.tape d (.appendCap (n + n') cp e))) (mkW m H (d + 1)) := by
      simp [Question.forced]; exact ⟨rfl, rfl⟩
    unfold Builtin.append_
    simp only [h0, h1, List.getElem?_toArray, List.getElem?_cons_zero, List.getElem?_cons_succ, Sem.run_bind, run_und (und_of_elem he), run_und (und_of_elem he1), Result.andThen_ok, run_size hT, Sem.run_pure, Builtin.lenOf, Bool.false_eq_true, if_false]
    rw [if_neg hcap]
    simp only [Sem.run_bind, hti, Result.andThen_ok]
    rw [if_neg (by
      have : IntKind.i64.max = 9223372036854775807 := by decide
      rw [this]; omega)]
    rw [bytes_eq hi] at hnx
    simp only [Sem.run_bind, hti, Result.andThen_ok]
    rw [if_neg (by omega)]
    simp only [Bool.not_false, if_true, Sem.run_bind, hch, Result.andThen_ok, hti, run_askRoom, ho, hnew, hz1, run_newRow, Sem.run_pure]
    rw [hz3]

theorem w_append {args : Array Operand} {argTypes : Array TypeId} (h : opW P m F H ⟨dst, .call { callee := .builtin .append, args := args, argTypes := argTypes }, ty, pos, after, guard⟩ k) :
    WOk P m F H ⟨dst, .call { callee := .builtin .append, args := args, argTypes := argTypes }, ty, pos, after, guard⟩ k := by
  simp only [opW, callW] at h
  split at h
  · rename_i t t1 rest x y ht hxy
    have ha := arr_of_list2 hxy
    subst ha
    split at h
    · rename_i e e1 q n cp q' n' c' he he1 hx hy
      split at h
      · rename_i hs
        simp only [Bool.and_eq_true] at hs
        obtain ⟨cs, hr, h⟩ := rd_old h
        have h0 : argTypes[0]? = some t := by rw [← Array.getElem?_toList, ht]; rfl
        have h1 : argTypes[1]? = some t1 := by rw [← Array.getElem?_toList, ht]; rfl
        have e1 : (act F).eval x = .slice q n cp := ev_eq hx
        have e2 : (act F).eval y = .slice q' n' c' := ev_eq hy
        refine .run fun d => ?_
        obtain ⟨r, n2, c2, H', d', h2, h3⟩ := run_append (m := m) (rt := ty) (c' := c') h0 h1 he he1 hs.1 hs.2 hr h d
        refine ⟨_, H', d', ?_, h3⟩
        simp [execOp, resolve, invoke, builtin, e1, e2, h2, SV.toV, Sc.toV]
      · exact h.elim
    · exact rawW_ok h
  · exact rawW_ok h

theorem w_copy {args : Array Operand} {argTypes : Array TypeId} (h : opW P m F H ⟨dst, .call { callee := .builtin .copy, args := args, argTypes := argTypes }, ty, pos, after, guard⟩ k) :
    WOk P m F H ⟨dst, .call { callee := .builtin .copy, args := args, argTypes := argTypes }, ty, pos, after, guard⟩ k := by
  simp only [opW, callW] at h
  split at h
  · rename_i t t1 rest x y ht hxy
    have ha := arr_of_list2 hxy
    subst ha
    split at h
    · rename_i e e1 q n cp q' n' c' he he1 hx hy
      split at h
      · rename_i hT
        obtain ⟨cs, hr, h⟩ := rd_old h
        have h0 : argTypes[0]? = some t := by rw [← Array.getElem?_toList, ht]; rfl
        have e1 : (act F).eval x = .slice q n cp := ev_eq hx
        have e2 : (act F).eval y = .slice q' n' c' := ev_eq hy
        have hnew : ∀ d, (Builtin.firstCells (P.cellsOf e) (Nat.min n' n) (.slice q' n' c')).run P (mkW m H d) = .ok cs.toArray (mkW m H d) := by
          intro d
          have := rng_run (P := P) (m := m) (d := d) hr (P.cellsOf e) (Nat.min n' n) c' rfl (fun hq => rng_nil (hq ▸ hr))
          cases q' <;> exact this
        refine .run fun d => ?_
        rcases wrs_old h with ⟨hnil, hk⟩ | ⟨a, rfl, hst, hk⟩
        · refine ⟨_, H, d, ?_, hk⟩
          have : (Builtin.copy_ argTypes ty #[.slice q n cp, .slice q' n' c']).run P (mkW m H d) = .ok (.int .i64 (Nat.min n' n)) (mkW m H d) := by
            subst hnil
            unfold Builtin.copy_
            simp only [h0, List.getElem?_toArray, List.getElem?_cons_zero, List.getElem?_cons_succ, Sem.run_bind, run_und (und_of_elem he), Result.andThen_ok, run_size hT, Sem.run_pure, Builtin.lenOf, hnew]
            cases q <;> simp [storeCells, goInt]
          simp [execOp, resolve, invoke, builtin, e1, e2, this, SV.toV, Sc.toV]
        · have ha0 : a.add 0 = a := by simp [Addr.add]
          rw [ha0] at hst hk
          refine ⟨_, _, d, ?_, hk⟩
          have hs : (storeCells a cs).run P (mkW m H d) = .ok () (mkW m (setMany H a cs 0) d) :=
            run_setMany cs H 0 (fun j v hv => by simpa using hst j v hv)
          have : (Builtin.copy_ argTypes ty #[.slice (some a) n cp, .slice q' n' c']).run P (mkW m H d) = .ok (.int .i64 (Nat.min n' n)) (mkW m (setMany H a cs 0) d) := by
            unfold Builtin.copy_
            simp only [h0, List.getElem?_toArray, List.getElem?_cons_zero, List.getElem?_cons_succ, Sem.run_bind, run_und (und_of_elem he), Result.andThen_ok, run_size hT, Sem.run_pure, Builtin.lenOf, hnew, hs, goInt]
          simp [execOp, resolve, invoke, builtin, e1, e2, this, SV.toV, Sc.toV]
      · exact h.elim
    · exact rawW_ok h
  · exact rawW_ok h

theorem opW_wok {o : Oper} (h : opW P m F H o k) : WOk P m F H o k := by
  by_cases hw : isW P o = true
  · obtain ⟨dst, op, ty, pos, after, guard⟩ := o
    cases op with
    | alloc t => exact w_alloc h
    | box t x => exact w_box h
    | buildSlice t n parts => exact w_buildSlice h
    | store t x y => exact w_store h
    | makeSlice t l c => exact w_makeSlice h
    | convert s d x =>
      simp only [opW] at h
      split at h
      · rename_i hh
        simp [isW, hh] at hw
      · exact rawW_ok h
    | call c =>
      obtain ⟨callee, args, argTypes⟩ := c
      cases callee with
      | builtin b =>
        cases b <;> first
          | exact w_append h
          | exact w_copy h
          | exact rawW_ok h
          | (exfalso; simp [isW] at hw; done)
      | value f => exact w_call (by simp) h
      | invoke r n => exact w_call (by simp) h
    | _ => first
      | (exfalso; simp [isW] at hw; done)
      | exact rawW_ok h
  · obtain ⟨v, hn, hr, hk⟩ := opW_pure (by simpa using hw) h
    exact .run fun d => ⟨v, H, d, hr _ hn, hk⟩

end
end Go.Eng

/-! Soundness, eighth part: regions. -/
namespace Go.Eng
open Go
set_option linter.unusedSimpArgs false
set_option linter.unusedVariables false

section
variable {P : Program} {m : Amb} {ops : Array Oper}

theorem svs_get (F : Fr) (d : Nat) (h : d < F.length) : (svs F)[d]? = some (nth F d).toV := by
  induction F generalizing d with
  | nil => simp at h
  | cons x r ih => cases d with
    | zero => rfl
    | succ d => simpa [svs, nth] using ih d (by simpa using h)

theorem nth_out (F : Fr) (d : Nat) (h : F.length ≤ d) : nth F d = .t [] := by
  induction F generalizing d with
  | nil => cases d <;> rfl
  | cons x r ih => cases d with
    | zero => simp at h
    | succ d => simpa [nth] using ih d (by simpa using h)

theorem act_upd_same (F : Fr) (d : Nat) (v : SV) (h : v.toV = (nth F d).toV) : act (upd F d v) = act F := by
  unfold act
  rw [svs_upd, h]
  congr 2
  by_cases hd : d < F.length
  · apply List.ext_getElem?
    intro j
    rw [List.getElem?_set]
    by_cases hj : d = j
    · subst hj
      simp [svs_length, hd]
      exact ((List.getElem?_eq_some_iff.1 (svs_get F d hd)).2).symm
    · rw [if_neg hj]
  · rw [List.set_eq_of_length_le (by rw [svs_length]; omega)]

theorem yielded_eq {F : Fr} {j d : Nat} (h : dstAt ops j = some d) : yielded ops (act F).tmps j = match (nth F d).toV with | .bool b => some b | _ => none := by
  unfold dstAt at h
  unfold yielded
  split at h
  · rename_i o ho
    rw [ho]
    simp only [Option.bind_some, h, act]
    by_cases hd : d < F.length
    · have : (svs F).toArray[d]? = some (nth F d).toV := by simpa using svs_get F d hd
      rw [this]
      cases (nth F d).toV <;> rfl
    · have : (svs F).toArray[d]? = none := by simp [svs_length]; omega
      rw [this, nth_out F d (by omega)]
      rfl
  · cases h

theorem guardW_imp {o : Oper} {F : Fr} {run skip : Fr → Prop} (h : guardW ops o F run skip) :
    (Region.wanted o (yielded ops (act F).tmps) = true ∧ ∃ F', act F' = act F ∧ run F') ∨ (Region.wanted o (yielded ops (act F).tmps) = false ∧ ∃ F', act F' = act F ∧ skip F') := by
  unfold guardW at h
  split at h
  · rename_i hg
    exact .inl ⟨by simp [Region.wanted, hg], F, rfl, h⟩
  · rename_i j want hg
    split at h
    · exact h.elim
    · rename_i d hd
      have hy := yielded_eq (F := F) hd
      split at h
      · rename_i hn
        rw [hn] at hy
        simp only [SV.toV, Sc.toV] at hy
        cases want
        · exact .inr ⟨by simp [Region.wanted, hg, hy], F, rfl, by simpa using h⟩
        · exact .inl ⟨by simp [Region.wanted, hg, hy], F, rfl, by simpa using h⟩
      · rename_i hn
        rw [hn] at hy
        simp only [SV.toV, Sc.toV] at hy
        cases want
        · exact .inl ⟨by simp [Region.wanted, hg, hy], F, rfl, by simpa using h⟩
        · exact .inr ⟨by simp [Region.wanted, hg, hy], F, rfl, by simpa using h⟩
      · rename_i x hn
        rw [hn] at hy
        simp only [SV.toV, Sc.toV] at hy
        cases x with
        | true =>
          have e : act (upd F d (.c .tt)) = act F := act_upd_same F d _ (by rw [hn]; rfl)
          have h1 := h.1 rfl
          cases want
          · exact .inr ⟨by simp [Region.wanted, hg, hy], _, e, by simpa using h1⟩
          · exact .inl ⟨by simp [Region.wanted, hg, hy], _, e, by simpa using h1⟩
        | false =>
          have e : act (upd F d (.c .ff)) = act F := act_upd_same F d _ (by rw [hn]; rfl)
          have h1 := h.2 rfl
          cases want
          · exact .inl ⟨by simp [Region.wanted, hg, hy], _, e, by simpa using h1⟩
          · exact .inr ⟨by simp [Region.wanted, hg, hy], _, e, by simpa using h1⟩
      · rename_i hn
        rw [hn] at hy
        have hy' : yielded ops (act F).tmps j = none := hy
        exact .inr ⟨by simp [Region.wanted, hg, hy'], F, rfl, h⟩
      · exact h.elim

/-- The evaluator's postcondition, said of the model's frames and worlds. -/
def lift (m : Amb) (Q : Ex → Fr → Hp → Prop) : Exit → Act → World → Prop
  | .normal, a, w => ∃ F H d, a = act F ∧ w = mkW m H d ∧ Q .n F H
  | .exit id, a, w => ∃ F H d, a = act F ∧ w = mkW m H d ∧ Q (.x id) F H
  | .goto l, a, w => ∃ F H d, a = act F ∧ w = mkW m H d ∧ Q (.g l) F H
  | .ret, a, w => ∃ F H d, a = act F ∧ w = mkW m H d ∧ Q .r F H
  | .panic _, _, _ => False
  | .outgrown, _, _ => False

/-- Two frames that differ at most in these temporaries. -/
def Agree (D : List Nat) (F F' : Fr) : Prop := F'.length = F.length ∧ ∀ t, t ∉ D → (nth F' t).toV = (nth F t).toV

theorem Agree.refl (D : List Nat) (F : Fr) : Agree D F F := ⟨rfl, fun _ _ => rfl⟩
theorem Agree.trans {D : List Nat} {F G K : Fr} (h : Agree D F G) (k : Agree D G K) : Agree D F K :=
  ⟨k.1.trans h.1, fun t ht => (k.2 t ht).trans (h.2 t ht)⟩
theorem Agree.mono {D D' : List Nat} {F G : Fr} (h : Agree D F G) (hd : ∀ t, t ∈ D → t ∈ D') : Agree D' F G :=
  ⟨h.1, fun t ht => h.2 t (fun hh => ht (hd t hh))⟩

theorem upd_length (F : Fr) (d : Nat) (v : SV) : (upd F d v).length = F.length := by
  induction F generalizing d with
  | nil => cases d <;> rfl
  | cons x r ih => cases d <;> simp [upd, ih]

theorem nth_upd (F : Fr) (d t : Nat) (v : SV) : nth (upd F d v) t = if t = d ∧ d < F.length then v else nth F t := by
  induction F generalizing d t with
  | nil => cases d <;> cases t <;> simp [upd, nth]
  | cons x r ih =>
    cases d with
    | zero => cases t <;> simp [upd, nth]
    | succ d =>
      cases t with
      | zero => simp [upd, nth]
      | succ t => simp [upd, nth, ih]

theorem svs_inj {F G : Fr} (h : act F = act G) : svs F = svs G := by
  have := congrArg Act.tmps h
  simpa [act] using this

theorem Agree.of_act {D : List Nat} {F G : Fr} (h : act G = act F) : Agree D F G := by
  have h1 := svs_inj h
  refine ⟨by simpa [svs_length] using congrArg List.length h1, fun t _ => ?_⟩
  rw [← svs_nth, ← svs_nth, h1]

theorem act_of_agree {F G : Fr} (h : Agree [] F G) : act G = act F := by
  unfold act
  congr 2
  apply List.ext_getElem?
  intro j
  by_cases hj : j < F.length
  · rw [svs_get F j hj, svs_get G j (by rw [h.1]; exact hj), h.2 j (by simp)]
  · rw [List.getElem?_eq_none (by rw [svs_length, h.1]; omega), List.getElem?_eq_none (by rw [svs_length]; omega)]

theorem Agree.put {D : List Nat} {F G : Fr} (h : Agree D F G) (dst : Option Tmp) (hd : ∀ t, dst = some t → t ∈ D) (v : SV) : Agree D F (putF dst v G) := by
  cases dst with
  | none => exact h
  | some d =>
    refine ⟨by simp [putF, upd_length, h.1], fun t ht => ?_⟩
    simp only [putF, nth_upd]
    rw [if_neg]
    · exact h.2 t ht
    · rintro ⟨rfl, _⟩
      exact ht (hd _ rfl)

theorem opsW_sound {D : List Nat} {F0 : Fr} {K : Fr → Hp → Prop} {Q : Ex → Fr → Hp → Prop} (hK : ∀ F H, K F H → Agree D F0 F → Q .n F H) (hD : ∀ (i : Nat) (o : Oper) (t : Tmp), ops[i]? = some o → o.dst = some t → t ∈ D) :
    ∀ (l : List Nat) (F : Fr) (H : Hp) (d : Nat), Agree D F0 F → opsW P m ops l F H K → wpOps P ops (lift m Q) l (act F) (mkW m H d)
  | [], F, H, d, ha, h => ⟨F, H, d, rfl, rfl, hK F H h ha⟩
  | i :: r, F, H, d, ha, h => by
    simp only [opsW, layF_eq] at h
    split at h
    · exact h.elim
    · rename_i o ho
      simp only [wpOps, ho]
      rcases guardW_imp h with ⟨hw, F', e, h⟩ | ⟨hw, F', e, h⟩
      · have ha' : Agree D F0 F' := ha.trans (.of_act e)
        rw [hw, if_pos rfl, ← e]
        refine .inl (Oper.wp_mono (fun a w => ?_) (opW_wok h d _))
        rintro ⟨v, H', d', rfl, rfl, hk⟩
        exact opsW_sound hK hD r _ _ _ (ha'.put _ (fun t ht => hD i o t ho ht) v) hk
      · have ha' : Agree D F0 F' := ha.trans (.of_act e)
        rw [hw, if_neg (by simp), ← e]
        have := opsW_sound hK hD r _ H d (ha'.put _ (fun t ht => hD i o t ho ht) _) h
        rwa [← act_put] at this

/-! A region that draws its order. -/
def Tk (P : Program) (ops : Array Oper) (bm : List Nat) (held : Holds) (listed : Array Bool) (w : World) : Prop :=
  ∀ c ∈ held, dead P ops bm listed c.1 = false → w.cell? c.2.1 = some c.2.2

def wpAnyT (P : Program) (ops : Array Oper) (Q : Exit → Act → World → Prop) (bm : List Nat) (held : Holds) : Nat → Array Bool → Act → World → Prop
  | 0, listed, a, w => Region.ready .any ops listed = [] ∧ Q .normal a w
  | fuel + 1, listed, a, w =>
    (Region.ready .any ops listed = [] → Q .normal a w) ∧
    ∀ i ∈ Region.ready .any ops listed, wpOp P ops Q i (fun a' w' => Tk P ops bm held (listed.setIfInBounds i true) w' ∧ wpAnyT P ops Q bm held fuel (listed.setIfInBounds i true) a' w') a w

theorem wpAny_of_T {Q : Exit → Act → World → Prop} {bm : List Nat} {held : Holds} : ∀ (fuel : Nat) (listed : Array Bool) (a : Act) (w : World), wpAnyT P ops Q bm held fuel listed a w → wpAny P .any ops Q fuel listed a w
  | 0, _, _, _, h => h
  | fuel + 1, _, _, _, h => ⟨h.1, fun i hi => wpOp_mono (fun a' w' h' => wpAny_of_T fuel _ a' w' h'.2) (h.2 i hi)⟩

def Sub (a b : Array Bool) : Prop := ∀ j, a.getD j false = true → b.getD j false = true

theorem Sub.set {a b : Array Bool} (h : Sub a b) (i : Nat) : Sub (a.setIfInBounds i true) (b.setIfInBounds i true) → True := fun _ => trivial

theorem dead_mono {bm : List Nat} {l1 l2 : Array Bool} (h : Sub l1 l2) {i : Nat} (hd : dead P ops bm l1 i = true) : dead P ops bm l2 i = true := by
  unfold dead at *
  rw [List.any_eq_true] at *
  obtain ⟨j, hj, h1⟩ := hd
  simp only [Bool.and_eq_true] at h1
  exact ⟨j, hj, by simp only [Bool.and_eq_true]; exact ⟨⟨h j h1.1.1, h1.1.2⟩, h1.2⟩⟩

theorem Sub.refl (a : Array Bool) : Sub a a := fun _ h => h
theorem Sub.trans {a b c : Array Bool} (h : Sub a b) (k : Sub b c) : Sub a c := fun j hj => k j (h j hj)
theorem Sub.step (a : Array Bool) (i : Nat) : Sub a (a.setIfInBounds i true) := fun j hj => getD_set_true hj

theorem wpAnyT_mono {Q : Exit → Act → World → Prop} {bm : List Nat} {held1 held2 : Holds} : ∀ (fuel : Nat) (l0 listed : Array Bool) (a : Act) (w : World), Sub l0 listed →
    (∀ l w, Sub l0 l → Tk P ops bm held1 l w → Tk P ops bm held2 l w) → wpAnyT P ops Q bm held1 fuel listed a w → wpAnyT P ops Q bm held2 fuel listed a w
  | 0, _, _, _, _, _, _, h => h
  | fuel + 1, l0, listed, a, w, hs, ht, h => ⟨h.1, fun i hi => wpOp_mono (fun a' w' h' =>
      have hs' := hs.trans (Sub.step listed i)
      ⟨ht _ _ hs' h'.1, wpAnyT_mono fuel l0 _ a' w' hs' ht h'.2⟩) (h.2 i hi)⟩

/-- What has come up is closed downward. -/
def Closed (ops : Array Oper) (listed : Array Bool) : Prop :=
  ∀ j o, ops[j]? = some o → listed.getD j false = true → ∀ e ∈ o.after, Region.binds .any e = true → listed.getD e.on false = true

theorem Closed.step {listed : Array Bool} (h : Closed ops listed) {i : Nat} (hi : i ∈ Region.ready .any ops listed) : Closed ops (listed.setIfInBounds i true) := by
  intro j o ho hj e he hb
  by_cases hij : i = j
  · subst hij
    obtain ⟨_, o', ho', hall⟩ := mem_ready.1 hi
    rw [ho] at ho'
    cases ho'
    exact getD_set_true (hall e he hb)
  · rw [getD_set_ne false hij] at hj
    exact getD_set_true (h j o ho hj e he hb)

theorem befM_spec {acc : List Nat} {i : Nat} : ∀ (es : List Edge), (befM acc es).testBit i = true → ∃ e ∈ es, Region.binds .any e = true ∧ (e.on = i ∨ (acc.getD e.on 0).testBit i = true)
  | [], h => by simp [befM] at h
  | e :: r, h => by
    simp only [befM] at h
    split at h
    · rename_i hb
      rw [Nat.testBit_or, Nat.testBit_or, Bool.or_eq_true, Bool.or_eq_true] at h
      rcases h with (h | h) | h
      · obtain ⟨e', he', h'⟩ := befM_spec r h
        exact ⟨e', by simp [he'], h'⟩
      · refine ⟨e, by simp, hb, .inl ?_⟩
        rw [Nat.testBit_two_pow] at h
        simpa using h
      · exact ⟨e, by simp, hb, .inr h⟩
    · obtain ⟨e', he', h'⟩ := befM_spec r h
      exact ⟨e', by simp [he'], h'⟩

/-- Each entry: some edge of the operation leads there, at once or through an earlier one. -/
theorem befs_spec : ∀ (os : List Oper) (acc : List Nat) (all : List Oper) (_ : ∀ j, os[j]? = all[acc.length + j]?)
    (_ : ∀ j x i, acc[j]? = some x → x.testBit i = true → ∃ o, all[j]? = some o ∧ ∃ e ∈ o.after, Region.binds .any e = true ∧ (e.on = i ∨ (e.on < j ∧ ∃ y, acc[e.on]? = some y ∧ y.testBit i = true))),
    ∀ j x i, (befs os acc)[j]? = some x → x.testBit i = true → ∃ o, all[j]? = some o ∧ ∃ e ∈ o.after, Region.binds .any e = true ∧ (e.on = i ∨ (e.on < j ∧ ∃ y, (befs os acc)[e.on]? = some y ∧ y.testBit i = true))
  | [], acc, all, _, h2, j, x, i, hx, hb => h2 j x i hx hb
  | o :: r, acc, all, h1, h2, j, x, i, hx, hb => by
    simp only [befs] at hx ⊢
    refine befs_spec r (acc ++ [befM acc o.after.toList]) all (fun j => ?_) (fun j x i hx hb => ?_) j x i hx hb
    · have := h1 (j + 1)
      simp only [List.getElem?_cons_succ] at this
      rw [this]
      simp only [List.length_append, List.length_cons, List.length_nil]
      congr 1
      omega
    · by_cases hj : j < acc.length
      · rw [List.getElem?_append_left hj] at hx
        obtain ⟨o', ho', e, he, hbi, h3⟩ := h2 j x i hx hb
        refine ⟨o', ho', e, he, hbi, h3.imp id ?_⟩
        rintro ⟨hlt, y, hy, hyb⟩
        exact ⟨hlt, y, by rw [List.getElem?_append_left (by omega)]; exact hy, hyb⟩
      · rw [List.getElem?_append_right (by omega)] at hx
        have hj' : j = acc.length := by
          by_cases h0 : j - acc.length = 0
          · omega
          · rw [List.getElem?_eq_none (by simp; omega)] at hx
            cases hx
        subst hj'
        simp at hx
        subst hx
        obtain ⟨e, he, hbi, h3⟩ := befM_spec o.after.toList hb
        have ho := h1 0
        simp at ho
        refine ⟨o, ho.symm, e, by simpa using he, hbi, h3.imp id ?_⟩
        intro h4
        have hlt : e.on < acc.length := by
          rcases Nat.lt_or_ge e.on acc.length with h | h
          · exact h
          · rw [List.getD_eq_getElem?_getD, List.getElem?_eq_none h] at h4
            simp at h4
        refine ⟨hlt, acc[e.on], by rw [List.getElem?_append_left hlt]; simp [hlt], ?_⟩
        simpa [List.getD_eq_getElem?_getD, hlt] using h4

theorem listed_of_bit {listed : Array Bool} (hc : Closed ops listed) : ∀ (j i : Nat), ((befs ops.toList []).getD j 0).testBit i = true → listed.getD j false = true → listed.getD i false = true := by
  intro j
  induction j using Nat.strongRecOn with
  | _ j ih =>
    intro i hb hj
    rw [List.getD_eq_getElem?_getD] at hb
    cases hx : (befs ops.toList [])[j]? with
    | none => simp [hx] at hb
    | some x =>
      simp [hx] at hb
      obtain ⟨o, ho, e, he, hbi, h3⟩ := befs_spec ops.toList [] ops.toList (by simp) (by simp) j x i hx hb
      have h4 := hc j o (by simpa using ho) hj e he hbi
      rcases h3 with rfl | ⟨hlt, y, hy, hyb⟩
      · exact h4
      · exact ih e.on hlt i (by simp [List.getD_eq_getElem?_getD, hy, hyb]) h4

theorem not_dead {listed : Array Bool} (hc : Closed ops listed) {i : Nat} (hi : listed.getD i false = false) : dead P ops (befs ops.toList []) listed i = false := by
  cases h : dead P ops (befs ops.toList []) listed i with
  | false => rfl
  | true =>
    unfold dead at h
    rw [List.any_eq_true] at h
    obtain ⟨j, _, h1⟩ := h
    simp only [Bool.and_eq_true] at h1
    have := listed_of_bit hc j i h1.1.2 h1.1.1
    rw [hi] at this
    cases this

/-- An operation that does not turn the world kills no hold. -/
theorem dead_set {bm : List Nat} {listed : Array Bool} {i : Nat} {oi : Oper} (ho : ops[i]? = some oi) (hw : isW P oi = false) (c : Nat) :
    dead P ops bm (listed.setIfInBounds i true) c = dead P ops bm listed c := by
  unfold dead
  congr 1
  funext j
  by_cases hij : i = j
  · subst hij
    simp [ho, hw]
  · rw [getD_set_ne false hij]

theorem wpAnyT_first {Q : Exit → Act → World → Prop} {held : Holds} {S : World → Prop} {i : Nat} {oi : Oper} {v : Value} (hi : ops[i]? = some oi) (hiw : isW P oi = false)
    (hsel : ∀ (j : Nat) (o : Oper) cs b, ops[j]? = some o → o.op ≠ .select cs b)
    (hQ : ∀ c a w, Q (.panic c) (a.put oi.dst v) w → Q (.panic c) a w)
    (hT : ∀ listed w, Closed ops listed → listed.getD i false = false → Tk P ops (befs ops.toList []) held listed w → S w) :
    ∀ (fuel : Nat) (listed : Array Bool) (a : Act) (w : World), Closed ops listed →
      (∀ j oj, ops[j]? = some oj → j ≠ i → listed.getD j true = false → (∀ e ∈ oj.after, Region.binds .any e = true → e.on ≠ i) → oi.apart ops oj = true) →
      i ∈ Region.ready .any ops listed → YieldsIf P ops S oi v a → S w → Tk P ops (befs ops.toList []) held listed w →
      wpAnyT P ops Q (befs ops.toList []) held fuel (listed.setIfInBounds i true) (a.put oi.dst v) w → wpAnyT P ops Q (befs ops.toList []) held (fuel + 1) listed a w := by
  intro fuel
  induction fuel with
  | zero =>
    intro listed a w hcl _ hr hy hS hTk H
    refine ⟨fun h => (by rw [h] at hr; cases hr), fun j hj => ?_⟩
    by_cases hji : j = i
    · subst hji
      exact hy.wpOp hi hS ⟨fun c hc hd => hTk c hc (by rwa [dead_set hi hiw] at hd), H⟩
    · have := ready_mono hj hji
      rw [H.1] at this
      cases this
  | succ fuel ih =>
    intro listed a w hcl hfree hr hy hS hTk H
    refine ⟨fun h => (by rw [h] at hr; cases hr), fun j hj => ?_⟩
    by_cases hji : j = i
    · subst hji
      exact hy.wpOp hi hS ⟨fun c hc hd => hTk c hc (by rwa [dead_set hi hiw] at hd), H⟩
    · have h1 := H.2 j (ready_mono hj hji)
      obtain ⟨hjun, oj, hoj, hall⟩ := mem_ready.1 hj
      have hnot : ∀ e ∈ oj.after, Region.binds .any e = true → e.on ≠ i := fun e he hb heq => by
        have h1 := hall e he hb
        have h0 := (mem_ready.1 hr).1
        rw [heq] at h1
        rcases Nat.lt_or_ge i listed.size with h' | h'
        · simp [h'] at h0 h1; rw [h0] at h1; cases h1
        · simp [Array.getElem?_eq_none h'] at h1
      have h2 := wpOp_putIf hoj (hfree j oj hoj hji hjun hnot) (fun cs b => hsel i oi cs b hi) (fun cs b => hsel j oj cs b hoj) hQ hy h1
      have hfree' : ∀ k ok, ops[k]? = some ok → k ≠ i → (listed.setIfInBounds j true).getD k true = false →
          (∀ e ∈ ok.after, Region.binds .any e = true → e.on ≠ i) → oi.apart ops ok = true := fun k ok hk hki hun hno => by
        refine hfree k ok hk hki ?_ hno
        by_cases hjk : j = k
        · subst hjk; exact hjun
        · rw [getD_set_ne true hjk] at hun; exact hun
      have hcl' := hcl.step hj
      have hi0 : (listed.setIfInBounds j true).getD i false = false := by
        rw [getD_set_ne false hji]
        have h0 := (mem_ready.1 hr).1
        rcases Nat.lt_or_ge i listed.size with h' | h'
        · simp [h'] at h0 ⊢; exact h0
        · simp [Array.getElem?_eq_none h']
      refine wpOp_mono (fun a' w' h3 => ?_) h2
      have hTk' : Tk P ops (befs ops.toList []) held (listed.setIfInBounds j true) w' := fun c hc hd => h3.2.1 c hc (by
        rw [Array.setIfInBounds_comm _ _ (Ne.symm hji), dead_set hi hiw]
        exact hd)
      have hS' := hT _ w' hcl' hi0 hTk'
      refine ⟨hTk', ih (listed.setIfInBounds j true) a' w' hcl' hfree' (ready_mono hr (Ne.symm hji)) h3.1 hS' hTk' ?_⟩
      rw [Array.setIfInBounds_comm _ _ hji]
      exact h3.2.2

theorem mustAll_imp {H : Hp} : ∀ {l : Holds} {k : Prop}, mustAll H l k → (∀ c ∈ l, cellAt H c.2.1 = some c.2.2) ∧ k
  | [], k, h => ⟨by simp, h⟩
  | (i, p, v) :: r, k, h => by
    obtain ⟨h1, h2⟩ := h
    obtain ⟨h3, h4⟩ := mustAll_imp h2
    refine ⟨?_, h4⟩
    intro c hc
    rcases List.mem_cons.1 hc with rfl | hc
    · exact cont_old h1
    · exact h3 c hc

theorem mem_alive {bm : List Nat} {listed : Array Bool} {c : Nat × Addr × Value} : ∀ {l : Holds}, c ∈ alive P ops bm listed l ↔ c ∈ l ∧ dead P ops bm listed c.1 = false
  | [] => by simp [alive]
  | x :: r => by
    simp only [alive]
    split
    · rename_i hd
      rw [mem_alive (l := r), List.mem_cons]
      constructor
      · rintro ⟨h1, h2⟩; exact ⟨.inr h1, h2⟩
      · rintro ⟨h1 | h1, h2⟩
        · subst h1; rw [hd] at h2; cases h2
        · exact ⟨h1, h2⟩
    · rename_i hd
      rw [List.mem_cons, mem_alive (l := r), List.mem_cons]
      constructor
      · rintro (h1 | ⟨h1, h2⟩)
        · subst h1; exact ⟨.inl rfl, by simpa using hd⟩
        · exact ⟨.inr h1, h2⟩
      · rintro ⟨h1 | h1, h2⟩
        · exact .inl h1
        · exact .inr ⟨h1, h2⟩

theorem mem_withNo {i : Nat} {c : Nat × Addr × Value} : ∀ {l : Held}, c ∈ withNo i l ↔ c.1 = i ∧ c.2 ∈ l
  | [] => by simp [withNo]
  | (p, v) :: r => by
    obtain ⟨n, q, u⟩ := c
    simp only [withNo, List.mem_cons, mem_withNo (l := r), Prod.mk.injEq]
    constructor
    · rintro (⟨rfl, rfl, rfl⟩ | ⟨h1, h2⟩)
      · exact ⟨rfl, .inl ⟨rfl, rfl⟩⟩
      · exact ⟨h1, .inr h2⟩
    · rintro ⟨h1, ⟨h2, h3⟩ | h2⟩
      · exact .inl ⟨h1, h2, h3⟩
      · exact .inr ⟨h1, h2⟩

theorem allOf_imp {f : Nat → Prop} : ∀ {l : List Nat}, allOf l f → ∀ i ∈ l, f i
  | [], _, i, hi => by cases hi
  | [x], h, i, hi => by simp at hi; subst hi; exact h
  | x :: y :: r, h, i, hi => by
    rcases List.mem_cons.1 hi with rfl | hi
    · exact h.1
    · exact allOf_imp h.2 i hi

def Inv (P : Program) (ops : Array Oper) (held : Holds) (listed : Array Bool) (H : Hp) : Prop :=
  ∀ c ∈ held, dead P ops (befs ops.toList []) listed c.1 = false → cellAt H c.2.1 = some c.2.2

theorem drawW_sound (hsel : Region.noSelect ops = true) {D : List Nat} {F0 : Fr} {K : Fr → Hp → Prop} {Q : Ex → Fr → Hp → Prop} (hK : ∀ F H, K F H → Agree D F0 F → Q .n F H) (hD : ∀ (i : Nat) (o : Oper) (t : Tmp), ops[i]? = some o → o.dst = some t → t ∈ D) :
    ∀ (n : Nat) (listed : Array Bool) (F : Fr) (H : Hp) (d : Nat) (held : Holds), Agree D F0 F → Closed ops listed → Inv P ops held listed H →
    drawW P m ops (befs ops.toList []) n listed F H held K → wpAnyT P ops (lift m Q) (befs ops.toList []) held n listed (act F) (mkW m H d)
  | 0, listed, F, H, d, held, ha, hc, hinv, h => by
    simp only [drawW] at h
    split at h
    · rename_i hr
      exact ⟨by simpa using hr, F, H, d, rfl, rfl, hK F H h ha⟩
    · exact h.elim
  | n + 1, listed, F, H, d, held, ha, hc, hinv, h => by
    simp only [drawW] at h
    -- one step, whatever it is
    have step : ∀ i, i ∈ Region.ready .any ops listed → stepD P m ops (befs ops.toList []) (listed.setIfInBounds i true) i F H held (fun F' H' held' => drawW P m ops (befs ops.toList []) n (listed.setIfInBounds i true) F' H' held' K) →
        (∀ oi, ops[i]? = some oi → isW P oi = false → Region.free .any ops listed i = true → wpAnyT P ops (lift m Q) (befs ops.toList []) held (n + 1) listed (act F) (mkW m H d)) ∧
        wpOp P ops (lift m Q) i (fun a' w' => Tk P ops (befs ops.toList []) held (listed.setIfInBounds i true) w' ∧ wpAnyT P ops (lift m Q) (befs ops.toList []) held n (listed.setIfInBounds i true) a' w') (act F) (mkW m H d) := by
      intro i hi hs
      have hc' := hc.step hi
      unfold stepD at hs
      simp only [layF_eq] at hs
      split at hs
      · exact hs.elim
      · rename_i o ho
        have hQ : ∀ c a w v, lift m Q (.panic c) (Act.put a o.dst v) w → lift m Q (.panic c) a w := fun _ _ _ _ h => h
        have hfr : Region.free .any ops listed i = true → ∀ j oj, ops[j]? = some oj → j ≠ i → listed.getD j true = false → (∀ e ∈ oj.after, Region.binds .any e = true → e.on ≠ i) → o.apart ops oj = true :=
          fun hf => Region.free_spec ho hf
        rcases guardW_imp hs with ⟨hw, F', e, hs⟩ | ⟨hw, F', e, hs⟩
        · have ha' : Agree D F0 F' := ha.trans (.of_act e)
          by_cases hW : isW P o = true
          · -- it may turn the world
            refine ⟨fun oi h1 h2 => absurd h2 (by rw [ho] at h1; cases h1; rw [hW]; simp), ?_⟩
            simp only [hW, if_true] at hs
            unfold wpOp
            simp only [ho, hw, if_true]
            rw [← e]
            refine .inl (Oper.wp_mono (fun a w => ?_) (opW_wok hs d _))
            rintro ⟨v, H', d', rfl, rfl, hk⟩
            obtain ⟨hk1, hk2⟩ := mustAll_imp hk
            have hTk : Tk P ops (befs ops.toList []) held (listed.setIfInBounds i true) (mkW m H' d') := fun c hcm hd => hk1 c (mem_alive.2 ⟨hcm, hd⟩)
            refine ⟨hTk, ?_⟩
            refine wpAnyT_mono n (listed.setIfInBounds i true) _ _ _ (Sub.refl _) (fun l w hsub ht c hcm hd => ?_) (drawW_sound hsel hK hD n _ _ _ d' _ (ha'.put _ (fun t ht => hD i o t ho ht) v) hc' (fun c hcm hd => hk1 c hcm) hk2)
            refine ht c (mem_alive.2 ⟨hcm, ?_⟩) hd
            cases hdd : dead P ops (befs ops.toList []) (listed.setIfInBounds i true) c.1 with
            | false => rfl
            | true => rw [dead_mono hsub hdd] at hd; cases hd
          · -- it leaves it alone
            have hW' : isW P o = false := by simpa using hW
            simp only [hW', Bool.false_eq_true, if_false] at hs
            obtain ⟨v, hn, hrun, hk⟩ := opW_pure hW' hs
            have hinv' : Inv P ops (withNo i (opNeed P F' o v) ++ held) (listed.setIfInBounds i true) H := by
              intro c hcm hd
              rcases List.mem_append.1 hcm with h1 | h1
              · exact hn c.2 (mem_withNo.1 h1).2
              · exact hinv c h1 (by rwa [dead_set ho hW'] at hd)
            have ih := drawW_sound hsel hK hD n _ _ _ d _ (ha'.put _ (fun t ht => hD i o t ho ht) v) hc' hinv' hk
            rw [← act_put, e] at ih
            have hy : YieldsIf P ops (fun w => HeldW w (opNeed P F' o v)) o v.toV (act F) := .inl ⟨hw, fun w hw' => by rw [← e]; exact hrun w hw'⟩
            have hSw : HeldW (mkW m H d) (opNeed P F' o v) := hn
            have hTkH : ∀ l, (∀ c, dead P ops (befs ops.toList []) l c = dead P ops (befs ops.toList []) listed c) → Tk P ops (befs ops.toList []) (withNo i (opNeed P F' o v) ++ held) l (mkW m H d) := by
              intro l hl c hcm hd
              rcases List.mem_append.1 hcm with h1 | h1
              · exact hn c.2 (mem_withNo.1 h1).2
              · exact hinv c h1 (by rw [← hl]; exact hd)
            have mono : ∀ l w, Tk P ops (befs ops.toList []) (withNo i (opNeed P F' o v) ++ held) l w → Tk P ops (befs ops.toList []) held l w :=
              fun l w ht c hcm hd => ht c (List.mem_append.2 (.inr hcm)) hd
            refine ⟨fun _ _ _ hf => ?_, ?_⟩
            · refine wpAnyT_mono (n + 1) listed _ _ _ (Sub.refl _) (fun l w _ ht => mono l w ht) ?_
              refine wpAnyT_first ho hW' (Region.noSelect_spec hsel) (fun c a w h => h) (fun l w hcl hl ht => ?_) n listed (act F) (mkW m H d) hc (hfr hf) hi hy hSw (hTkH _ (fun _ => rfl)) ih
              intro c hcm
              exact ht (i, c) (List.mem_append.2 (.inl (mem_withNo.2 ⟨rfl, hcm⟩))) (not_dead hcl hl)
            · refine hy.wpOp ho hSw ⟨mono _ _ (hTkH _ (fun c => dead_set ho hW' c)), ?_⟩
              exact wpAnyT_mono n (listed.setIfInBounds i true) _ _ _ (Sub.refl _) (fun l w _ ht => mono l w ht) ih
        · -- it is not wanted
          have hinv' : ∀ l, Sub listed l → Inv P ops held l H := by
            intro l hl c hcm hd
            refine hinv c hcm ?_
            cases hdd : dead P ops (befs ops.toList []) listed c.1 with
            | false => rfl
            | true => rw [dead_mono hl hdd] at hd; cases hd
          have ha' : Agree D F0 F' := ha.trans (.of_act e)
          have ih := drawW_sound hsel hK hD n _ _ _ d _ (ha'.put _ (fun t ht => hD i o t ho ht) _) hc' (hinv' _ (Sub.step _ _)) hs
          have e2 : act (putF o.dst (.t []) F') = (act F).put o.dst undef := by rw [← act_put, e]; rfl
          rw [e2] at ih
          have hy : YieldsIf P ops (fun _ => True) o undef (act F) := .inr ⟨hw, rfl⟩
          refine ⟨fun oi h1 hW' hf => ?_, ?_⟩
          · have hoo : o = oi := by rw [ho] at h1; cases h1; rfl
            subst hoo
            exact wpAnyT_first ho hW' (Region.noSelect_spec hsel) (fun c a w h => h) (fun l w hcl hl ht => trivial) n listed (act F) (mkW m H d) hc (hfr hf) hi hy trivial (fun c hcm hd => hinv c hcm hd) ih
          · exact hy.wpOp ho trivial ⟨fun c hcm hd => hinv' _ (Sub.step _ _) c hcm hd, ih⟩
    split at h
    · rename_i hr
      exact ⟨fun _ => ⟨F, H, d, rfl, rfl, hK F H h ha⟩, by rw [hr]; simp⟩
    · rename_i rs hrs
      split at h
      · rename_i i hfi
        have hmem := List.mem_of_find?_eq_some hfi
        have htk := List.find?_some hfi
        obtain ⟨hstep, _⟩ := step i hmem h
        unfold takes at htk
        simp only [Bool.and_eq_true] at htk
        cases ho : ops[i]? with
        | none => rw [ho] at htk; simp at htk
        | some o =>
          rw [ho] at htk
          exact hstep o ho (by simpa using htk.1) htk.2
      · rename_i hnone
        refine ⟨fun h0 => ?_, fun i hi => (step i hi (allOf_imp h i hi)).2⟩
        exact absurd h0 (by intro h0; exact hrs h0)

end
end Go.Eng

/-! Soundness, ninth part: code and functions. -/
namespace Go.Eng
open Go
set_option linter.unusedSimpArgs false
set_option linter.unusedVariables false

section
variable {P : Program} {m : Amb}

theorem mem_regDsts {d : Nat} : ∀ {l : List Oper} {i : Nat} {o : Oper}, l[i]? = some o → o.dst = some d → d ∈ regDsts l
  | [], i, o, h, _ => by simp at h
  | x :: r, 0, o, h, hd => by
    simp at h; subst h
    simp [regDsts, hd]
  | x :: r, i + 1, o, h, hd => by
    have := mem_regDsts (l := r) (i := i) (by simpa using h) hd
    unfold regDsts
    split
    · simp [this]
    · exact this

theorem closed_start (ops : Array Oper) (n : Nat) : Closed ops (Array.replicate n false) := by
  intro j o _ hj
  simp only [Array.getD_eq_getD_getElem?, Array.getElem?_replicate] at hj
  split at hj <;> simp at hj

theorem region_sound {id : Nat} {ops : Array Oper} {draw : Bool} (hm : P.follows .mixedOrders = true) {D : List Nat} {K : Fr → Hp → Prop} {Q : Ex → Fr → Hp → Prop} {F : Fr} {H : Hp} (d : Nat)
    (hK : ∀ F' H', K F' H' → Agree D F F' → Q .n F' H') (hD : ∀ t, t ∈ regDsts ops.toList → t ∈ D)
    (h : if draw then (if Region.noSelect ops then drawW P m ops (befs ops.toList []) ops.size (Array.replicate ops.size false) F H [] K else False) else opsW P m ops (List.range ops.size) F H K) :
    (Code.region id ops draw).wp P (lift m Q) (act F) (mkW m H d) := by
  have hD' : ∀ (i : Nat) (o : Oper) (t : Tmp), ops[i]? = some o → o.dst = some t → t ∈ D := fun i o t ho ht => hD t (mem_regDsts (l := ops.toList) (i := i) (by simpa using ho) ht)
  cases draw with
  | false => exact wp_region (opsW_sound hK hD' _ _ _ _ (Agree.refl _ _) (by simpa using h))
  | true =>
    simp only [if_true] at h
    split at h
    · rename_i hsel
      refine wp_region_any hm (wpAny_of_T (bm := befs ops.toList []) (held := []) _ _ _ _ ?_)
      exact drawW_sound hsel hK hD' _ _ _ _ (d + 1) [] (Agree.refl _ _) (closed_start _ _) (fun c hc => by cases hc) h
    · exact h.elim

/-- The values at a loop's head, in their plain forms. -/
inductive Canon : List Ty → List SV → Prop
  | nil : Canon [] []
  | i (k : IntKind) (x : Int) {r vs} : Canon r vs → Canon (.i k :: r) (.c (.i k x) :: vs)
  | b (x : Bool) {r vs} : Canon r vs → Canon (.b :: r) (.c (.b x) :: vs)
  | p (q : Option Addr) {r vs} : Canon r vs → Canon (.p :: r) (.c (.p q) :: vs)
  | sl (q : Option Addr) (n c : Nat) {r vs} : Canon r vs → Canon (.sl :: r) (.c (.sl q n c) :: vs)
  | s (x : ByteArray) {r vs} : Canon r vs → Canon (.s :: r) (.c (.s x) :: vs)
  | o (x : Value) {r vs} : Canon r vs → Canon (.o :: r) (.c (.v x) :: vs)

theorem allPd_imp {tys : List Ty} {vs : List SV} (hc : Canon tys vs) : ∀ {k : List SV → Prop}, allPd tys k → k vs := by
  induction hc with
  | nil => intro k h; exact h
  | i kk x _ ih => intro k h; exact ih (h x)
  | b x _ ih => intro k h; exact ih (h x)
  | p x _ ih => intro k h; exact ih (h x)
  | sl x n c _ ih => intro k h; exact ih (h x n c)
  | s x _ ih => intro k h; exact ih (h x)
  | o x _ ih => intro k h; exact ih (h x)

/-- What a relation says of values it says of their plain forms. -/
theorem apPd_canon {R : Type} {H : Hp} : ∀ {tys : List Ty} {vs : List SV} {k : R → Prop} {I : Pd R tys}, apPd k H tys I vs →
    ∃ ws, Canon tys ws ∧ ws.map SV.toV = vs.map SV.toV ∧ ∀ {R' : Type} (k' : R' → Prop) (J : Pd R' tys), apPd k' H tys J ws ↔ apPd k' H tys J vs := by
  intro tys
  induction tys with
  | nil =>
    intro vs k I h
    cases vs with
    | nil => exact ⟨[], .nil, rfl, fun k' J => Iff.rfl⟩
    | cons x r => simp [apPd] at h
  | cons ty r ih =>
    intro vs k I h
    cases vs with
    | nil => cases ty <;> simp [apPd] at h
    | cons v vs =>
      cases ty with
      | i kk =>
        cases v with
        | c x =>
          cases x <;> simp only [apPd] at h <;> first | exact h.elim | skip
          rename_i k2 y
          split at h
          · rename_i hkk
            simp only [beq_iff_eq] at hkk
            subst hkk
            obtain ⟨ws, h1, h2, h3⟩ := ih h
            exact ⟨_, .i _ y h1, by simp [h2], fun k' J => by simp only [apPd, BEq.rfl, if_true]; exact h3 k' _⟩
          · exact h.elim
        | g l => simp [apPd] at h
        | t l => simp [apPd] at h
      | b =>
        cases v with
        | c x =>
          cases x <;> simp only [apPd] at h <;> first | exact h.elim | skip
          · obtain ⟨ws, h1, h2, h3⟩ := ih h
            exact ⟨_, .b _ h1, by simp [h2], fun k' J => h3 k' _⟩
          · obtain ⟨ws, h1, h2, h3⟩ := ih h
            exact ⟨_, .b true h1, by simp [h2, SV.toV, Sc.toV], fun k' J => h3 k' _⟩
          · obtain ⟨ws, h1, h2, h3⟩ := ih h
            exact ⟨_, .b false h1, by simp [h2, SV.toV, Sc.toV], fun k' J => h3 k' _⟩
        | g l => simp [apPd] at h
        | t l => simp [apPd] at h
      | p =>
        cases v with
        | c x =>
          cases x <;> simp only [apPd] at h <;> first | exact h.elim | skip
          · obtain ⟨ws, h1, h2, h3⟩ := ih h
            exact ⟨_, .p (some _) h1, by simp [h2, SV.toV, Sc.toV], fun k' J => h3 k' _⟩
          · obtain ⟨ws, h1, h2, h3⟩ := ih h
            exact ⟨_, .p _ h1, by simp [h2], fun k' J => h3 k' _⟩
        | g l => simp [apPd] at h
        | t l => simp [apPd] at h
      | sl =>
        cases v with
        | c x =>
          cases x <;> simp only [apPd] at h <;> first | exact h.elim | skip
          obtain ⟨ws, h1, h2, h3⟩ := ih h
          exact ⟨_, .sl _ _ _ h1, by simp [h2], fun k' J => h3 k' _⟩
        | g l => simp [apPd] at h
        | t l => simp [apPd] at h
      | s =>
        cases v with
        | c x =>
          cases x <;> simp only [apPd] at h <;> first | exact h.elim | skip
          obtain ⟨ws, h1, h2, h3⟩ := ih h
          exact ⟨_, .s _ h1, by simp [h2], fun k' J => h3 k' _⟩
        | g l => simp [apPd] at h
        | t l => simp [apPd] at h
      | o =>
        simp only [apPd] at h
        obtain ⟨ws, h1, h2, h3⟩ := ih h
        exact ⟨_, .o v.toV h1, by simp [h2, SV.toV, Sc.toV], fun k' J => h3 k' _⟩


theorem keysIn_imp : ∀ {st : List (Nat × Ty)} {l : List Nat}, keysIn st l = true → ∀ q ∈ st, q.1 ∈ l
  | [], l, _, q, hq => by cases hq
  | (d, t) :: r, l, h, q, hq => by
    simp only [keysIn, Bool.and_eq_true] at h
    rcases List.mem_cons.1 hq with rfl | hq
    · simpa using h.1
    · exact keysIn_imp h.2 q hq

theorem junkF_length (j : Nat → Value) (D : List Nat) (F : Fr) : (junkF j D F).length = F.length := by
  induction D with
  | nil => rfl
  | cons d r ih => simp [junkF, upd_length, ih]

theorem junkF_nth (j : Nat → Value) (D : List Nat) (F : Fr) (t : Nat) (ht : t < F.length) : (nth (junkF j D F) t).toV = if t ∈ D then j t else (nth F t).toV := by
  induction D with
  | nil => simp [junkF]
  | cons d r ih =>
    simp only [junkF, nth_upd, junkF_length]
    by_cases h : t = d ∧ d < F.length
    · rw [if_pos h]
      obtain ⟨rfl, _⟩ := h
      simp [SV.toV, Sc.toV]
    · rw [if_neg h, ih]
      have hne : t ≠ d := fun e => h ⟨e, e ▸ ht⟩
      simp [hne]

theorem setF_length : ∀ (st : List (Nat × Ty)) (vs : List SV) (F : Fr), (setF st vs F).length = F.length
  | [], _, F => by simp [setF]
  | (d, t) :: r, [], F => by simp [setF]
  | (d, t) :: r, v :: vs, F => by simp [setF, upd_length, setF_length r vs F]

/-- Frames laid anew from the values that stand there. -/
theorem setF_nth {G F : Fr} {t : Nat} (hlt : t < F.length) : ∀ (st : List (Nat × Ty)) (ws : List SV), ws.map SV.toV = (valsAt G st).map SV.toV →
    (nth (setF st ws F) t).toV = if t ∈ st.map Prod.fst then (nth G t).toV else (nth F t).toV
  | [], ws, h => by cases ws <;> simp [setF]
  | (d, ty) :: r, [], h => by simp [valsAt] at h
  | (d, ty) :: r, w :: ws, h => by
    simp only [valsAt, List.map_cons, List.cons.injEq] at h
    have ih := setF_nth (G := G) hlt r ws h.2
    simp only [setF, nth_upd, setF_length]
    by_cases hh : t = d ∧ d < F.length
    · rw [if_pos hh]
      obtain ⟨rfl, _⟩ := hh
      simp [h.1]
    · rw [if_neg hh, ih]
      have hne : t ≠ d := fun e => hh ⟨e, e ▸ hlt⟩
      simp only [List.map_cons, List.mem_cons, hne, false_or]

/-- A frame that differs from 'F' at most in 'D' is 'F' with its own values laid there. -/
theorem relay {D : List Nat} {F G : Fr} {st : List (Nat × Ty)} {ws : List SV} (hk : ∀ q ∈ st, q.1 ∈ D) (ha : Agree D F G) (hw : ws.map SV.toV = (valsAt G st).map SV.toV) :
    act G = act (setF st ws (junkF (fun t => (nth G t).toV) D F)) := by
  symm
  refine act_of_agree ⟨by rw [setF_length, junkF_length, ha.1], fun t _ => ?_⟩
  by_cases hlt : t < F.length
  · rw [setF_nth (G := G) (by rw [junkF_length]; exact hlt) st ws hw, junkF_nth _ _ _ _ hlt]
    split
    · rfl
    · split
      · rfl
      · rename_i h
        exact (ha.2 t h).symm
  · rw [nth_out _ _ (by rw [setF_length, junkF_length]; omega), nth_out G t (by rw [ha.1]; omega)]

theorem Agree.laid {D : List Nat} {F : Fr} {st : List (Nat × Ty)} {ws : List SV} {j : Nat → Value} (hk : ∀ q ∈ st, q.1 ∈ D) : Agree D F (setF st ws (junkF j D F)) := by
  refine ⟨by rw [setF_length, junkF_length], fun t ht => ?_⟩
  have h1 : ∀ (st : List (Nat × Ty)) (ws : List SV) (G : Fr), (∀ q ∈ st, q.1 ≠ t) → nth (setF st ws G) t = nth G t := by
    intro st
    induction st with
    | nil => intro ws G _; simp [setF]
    | cons q r ih =>
      obtain ⟨d, ty⟩ := q
      intro ws G hq
      cases ws with
      | nil => simp [setF]
      | cons w ws =>
        simp only [setF, nth_upd]
        rw [if_neg (fun e => hq (d, ty) (by simp) e.1.symm)]
        exact ih ws G (fun q hq' => hq q (by simp [hq']))
  rw [h1 st ws _ (fun q hq e => ht (e ▸ hk q hq))]
  by_cases hlt : t < F.length
  · rw [junkF_nth _ _ _ _ hlt, if_neg ht]
  · rw [nth_out _ _ (by rw [junkF_length]; omega), nth_out F t (by omega)]

theorem findLabel_dsts : ∀ {c r : Code} {l : Nat}, findLabel c l = some r → ∀ t, t ∈ dsts r → t ∈ dsts c
  | .seq a b, r, l, h, t, ht => by
    simp only [findLabel] at h
    split at h
    · rename_i rest hr
      cases h
      simp only [dsts, List.mem_append] at ht ⊢
      exact ht.imp (findLabel_dsts hr t) id
    · simp only [dsts, List.mem_append]
      exact .inr (findLabel_dsts h t ht)
  | .label l', r, l, h, t, ht => by
    simp only [findLabel] at h
    split at h
    · cases h; simp [dsts] at ht
    · cases h
  | .skip, r, l, h, t, ht => by simp [findLabel] at h
  | .region .., r, l, h, t, ht => by simp [findLabel] at h
  | .cond .., r, l, h, t, ht => by simp [findLabel] at h
  | .block .., r, l, h, t, ht => by simp [findLabel] at h
  | .loop .., r, l, h, t, ht => by simp [findLabel] at h
  | .rangeFunc .., r, l, h, t, ht => by simp [findLabel] at h
  | .exit .., r, l, h, t, ht => by simp [findLabel] at h
  | .scope .., r, l, h, t, ht => by simp [findLabel] at h
  | .goto .., r, l, h, t, ht => by simp [findLabel] at h
  | .ret, r, l, h, t, ht => by simp [findLabel] at h
  | .refuse .., r, l, h, t, ht => by simp [findLabel] at h

def withA (D : List Nat) (F : Fr) (Q : Post) : Post := fun e F' H' => Q e F' H' ∧ Agree D F F'

theorem lift_mono {Q Q' : Post} (h : ∀ e F H, Q e F H → Q' e F H) : ∀ e a w, lift m Q e a w → lift m Q' e a w
  | .normal, a, w, ⟨F, H, d, e1, e2, hq⟩ => ⟨F, H, d, e1, e2, h _ _ _ hq⟩
  | .exit id, a, w, ⟨F, H, d, e1, e2, hq⟩ => ⟨F, H, d, e1, e2, h _ _ _ hq⟩
  | .goto l, a, w, ⟨F, H, d, e1, e2, hq⟩ => ⟨F, H, d, e1, e2, h _ _ _ hq⟩
  | .ret, a, w, ⟨F, H, d, e1, e2, hq⟩ => ⟨F, H, d, e1, e2, h _ _ _ hq⟩
  | .panic _, a, w, h => h.elim
  | .outgrown, a, w, h => h.elim

/-- What is asked of a recursive call. -/
def Sound (P : Program) (m : Amb) (rec : Code → Post → Fr → Hp → Prop) : Prop :=
  ∀ c Q F H d, rec c Q F H → c.wp P (lift m (withA (dsts c) F Q)) (act F) (mkW m H d)

theorem wp_loop_ghost {c : Code} {Q : Exit → Act → World → Prop} (Rel : Nat → Act → World → Prop)
    (round : ∀ n a w, Rel n a w → c.wp P (Exit.then (fun a' w' => ∃ n', n' < n ∧ Rel n' a' w') Q) a w) : ∀ n a w, Rel n a w → (Code.loop c).wp P Q a w := by
  intro n a w h0 b k cs
  have key : ∀ n a w, Rel n a w → ∃ e a' w', Q e a' w' ∧ Arrives P (lone (b.at a (.code c :: .inLoop c :: k)) cs w) b k cs e a' w' := by
    intro n
    induction n using Nat.strongRecOn with
    | _ n ih =>
      intro a w hI
      obtain ⟨e, a₁, w₁, hq, harr⟩ := round n a w hI b (.inLoop c :: k) cs
      cases e with
      | normal =>
        obtain ⟨n', hlt, hI₁⟩ := hq
        obtain ⟨e₂, a₂, w₂, hq₂, harr₂⟩ := ih n' hlt a₁ w₁ hI₁
        exact ⟨e₂, a₂, w₂, hq₂, .of_steps (Steps.trans harr (.one step_inLoop)) harr₂⟩
      | exit id => exact ⟨_, a₁, w₁, hq, .pass (x := .inLoop c) rfl (fun _ _ => .inl (by simp)) harr⟩
      | goto l => exact ⟨_, a₁, w₁, hq, .pass (x := .inLoop c) rfl (fun _ _ => .inl (by simp)) harr⟩
      | ret => exact ⟨_, a₁, w₁, hq, .pass (x := .inLoop c) rfl (fun _ _ => .inl (by simp)) harr⟩
      | panic ch => exact ⟨_, a₁, w₁, hq, .pass (x := .inLoop c) rfl (fun _ _ => .inl (by simp)) harr⟩
      | outgrown => exact ⟨_, a₁, w₁, hq, .pass (x := .inLoop c) rfl (fun _ _ => .inl (by simp)) harr⟩
  obtain ⟨e, a', w', hq, harr⟩ := key n a w h0
  exact ⟨e, a', w', hq, .of_steps (.one step_loop) harr⟩

theorem apPd_both {H : Hp} : ∀ {tys : List Ty} {μ : Pd Nat tys} {ws : List SV} {n n' : Nat}, apPd (fun v => v < n) H tys μ ws → apPd (fun v => v = n') H tys μ ws → n' < n := by
  intro tys
  induction tys with
  | nil =>
    intro μ ws n n' h1 h2
    cases ws with
    | nil => simp only [apPd] at h1 h2; omega
    | cons x r => simp [apPd] at h1
  | cons ty r ih =>
    intro μ ws n n' h1 h2
    cases ws with
    | nil => cases ty <;> simp [apPd] at h1
    | cons v vs =>
      cases ty <;> cases v <;> try (simp [apPd] at h1; done)
      all_goals first
        | (rename_i x; cases x <;> first | (simp [apPd] at h1; done) | (simp only [apPd] at h1 h2; exact ih h1 h2) | (simp only [apPd] at h1 h2; split at h1 <;> first | exact h1.elim | (simp only [*, if_true] at h2; exact ih h1 h2)))
        | (simp only [apPd] at h1 h2; exact ih h1 h2)

theorem loop_sound {rec : Code → Post → Fr → Hp → Prop} (hrec : Sound P m rec) {st : List (Nat × Ty)} {body : Code} {Q : Post} {F : Fr} {H : Hp} (d : Nat)
    (hk : keysIn st (dsts body) = true) (h : loopW rec st body Q F H) : (Code.loop body).wp P (lift m (withA (dsts body) F Q)) (act F) (mkW m H d) := by
  have hk' := keysIn_imp hk
  obtain ⟨I, μ, h0, hstep⟩ := h
  have canonμ : ∀ (tys : List Ty) (μ : Pd Nat tys) ws H, Canon tys ws → ∃ n, apPd (fun v => v = n) H tys μ ws := by
    intro tys μ ws H hc
    induction hc with
    | nil => exact ⟨_, rfl⟩
    | i k x _ ih => obtain ⟨n, hn⟩ := ih (μ x); exact ⟨n, by simpa [apPd] using hn⟩
    | b x _ ih => exact ih (μ x)
    | p x _ ih => exact ih (μ x)
    | sl x n c _ ih => exact ih (μ x n c)
    | s x _ ih => exact ih (μ x)
    | o x _ ih => exact ih (μ x)
  let Rel : Nat → Act → World → Prop := fun n a w => ∃ ws j H d, Canon (tysOf st) ws ∧ apPd (fun p => p) H (tysOf st) I ws ∧ apPd (fun v => v = n) H (tysOf st) μ ws ∧ a = act (setF st ws (junkF j (dsts body) F)) ∧ w = mkW m H d
  have start : ∃ n, Rel n (act F) (mkW m H d) := by
    obtain ⟨ws, h1, h2, h3⟩ := apPd_canon h0
    obtain ⟨n, hn⟩ := canonμ _ μ ws H h1
    exact ⟨n, ws, _, H, d, h1, (h3 _ _).2 h0, hn, relay hk' (Agree.refl _ _) h2, rfl⟩
  obtain ⟨n, hn⟩ := start
  refine wp_loop_ghost Rel (fun n a w hr => ?_) n _ _ hn
  obtain ⟨ws, j, H, d, h1, h2, h3, rfl, rfl⟩ := hr
  have hb := allPd_imp h1 hstep H n j h2 h3
  refine wp_mono (hrec _ _ _ _ d hb) ?_
  have hag : Agree (dsts body) F (setF st ws (junkF j (dsts body) F)) := Agree.laid hk'
  intro e a w hq
  cases e with
  | normal =>
    obtain ⟨F', H', d', rfl, rfl, ⟨hI, hμ⟩, hA⟩ := hq
    obtain ⟨ws', h1', h2', h3'⟩ := apPd_canon hI
    obtain ⟨n', hn'⟩ := canonμ _ μ ws' H' h1'
    refine ⟨n', ?_, ws', _, H', d', h1', (h3' _ _).2 hI, hn', relay hk' (hag.trans hA) h2', rfl⟩
    exact apPd_both ((h3' _ _).2 hμ) hn'
  | exit id => obtain ⟨F', H', d', rfl, rfl, hq, hA⟩ := hq; exact ⟨F', H', d', rfl, rfl, hq, hag.trans hA⟩
  | goto l => obtain ⟨F', H', d', rfl, rfl, hq, hA⟩ := hq; exact ⟨F', H', d', rfl, rfl, hq, hag.trans hA⟩
  | ret => obtain ⟨F', H', d', rfl, rfl, hq, hA⟩ := hq; exact ⟨F', H', d', rfl, rfl, hq, hag.trans hA⟩
  | panic c => exact hq.elim
  | outgrown => exact hq.elim

theorem join_sound {rec : Code → Post → Fr → Hp → Prop} (hrec : Sound P m rec) {st : List (Nat × Ty)} {a b : Code} {Q : Post} {F : Fr} {H : Hp} (d : Nat)
    (hk : keysIn st (dsts a) = true) (h : joinW rec st a b Q F H) : (Code.seq a b).wp P (lift m (withA (dsts (.seq a b)) F Q)) (act F) (mkW m H d) := by
  have hk' := keysIn_imp hk
  obtain ⟨J, ha, hb⟩ := h
  have hsub1 : ∀ t, t ∈ dsts a → t ∈ dsts (.seq a b) := fun t ht => by simp [dsts, ht]
  have hsub2 : ∀ t, t ∈ dsts b → t ∈ dsts (.seq a b) := fun t ht => by simp [dsts, ht]
  refine wp_seq (wp_mono (hrec _ _ _ _ d ha) ?_)
  intro e a' w hq
  cases e with
  | normal =>
    obtain ⟨F', H', d', rfl, rfl, hJ, hA⟩ := hq
    obtain ⟨ws, h1, h2, h3⟩ := apPd_canon hJ
    have := allPd_imp h1 hb H' (fun t => (nth F' t).toV) ((h3 _ _).2 hJ)
    have hw := hrec _ _ _ _ d' this
    rw [← relay hk' hA h2] at hw
    refine wp_mono hw (lift_mono fun e F2 H2 hq => ⟨hq.1, ?_⟩)
    exact ((Agree.laid hk').mono hsub1).trans (hq.2.mono hsub2)
  | exit id => obtain ⟨F', H', d', rfl, rfl, hq, hA⟩ := hq; exact ⟨F', H', d', rfl, rfl, hq, hA.mono hsub1⟩
  | goto l => obtain ⟨F', H', d', rfl, rfl, hq, hA⟩ := hq; exact ⟨F', H', d', rfl, rfl, hq, hA.mono hsub1⟩
  | ret => obtain ⟨F', H', d', rfl, rfl, hq, hA⟩ := hq; exact ⟨F', H', d', rfl, rfl, hq, hA.mono hsub1⟩
  | panic c => exact hq.elim
  | outgrown => exact hq.elim

/-- Within a scope: whatever is run next, jumps are followed. -/
theorem scope_in {rec : Code → Post → Fr → Hp → Prop} (hrec : Sound P m rec) {c : Code} {Q : Post} {F0 : Fr} : ∀ (k : Nat) (c0 : Code) (a : Act) (w : World),
    c0.wp P (lift m (withA (dsts c) F0 (scopeQ rec c Q k))) a w → ∀ (b : Frame) (kk : List Item) (cs : List Frame),
      ∃ e a' w', lift m (withA (dsts c) F0 Q) e a' w' ∧ Arrives P (lone (b.at a (.code c0 :: .inScope c :: kk)) cs w) b kk cs e a' w' := by
  intro k
  induction k with
  | zero =>
    intro c0 a w h b kk cs
    obtain ⟨e, a₁, w₁, hq, harr⟩ := h b (.inScope c :: kk) cs
    cases e with
    | normal => obtain ⟨F', H', d', rfl, rfl, hq, hA⟩ := hq; exact ⟨.normal, _, _, ⟨F', H', d', rfl, rfl, hq, hA⟩, Steps.trans harr (.one step_inScope)⟩
    | exit id => obtain ⟨F', H', d', rfl, rfl, hq, hA⟩ := hq; exact ⟨.exit id, _, _, ⟨F', H', d', rfl, rfl, hq, hA⟩, fun k' hk => harr k' (by simp [exitTo, hk])⟩
    | goto l => obtain ⟨F', H', d', rfl, rfl, hq, hA⟩ := hq; exact hq.elim
    | ret => obtain ⟨F', H', d', rfl, rfl, hq, hA⟩ := hq; exact ⟨.ret, _, _, ⟨F', H', d', rfl, rfl, hq, hA⟩, harr⟩
    | panic ch => exact hq.elim
    | outgrown => exact hq.elim
  | succ k ih =>
    intro c0 a w h b kk cs
    obtain ⟨e, a₁, w₁, hq, harr⟩ := h b (.inScope c :: kk) cs
    cases e with
    | normal => obtain ⟨F', H', d', rfl, rfl, hq, hA⟩ := hq; exact ⟨.normal, _, _, ⟨F', H', d', rfl, rfl, hq, hA⟩, Steps.trans harr (.one step_inScope)⟩
    | exit id => obtain ⟨F', H', d', rfl, rfl, hq, hA⟩ := hq; exact ⟨.exit id, _, _, ⟨F', H', d', rfl, rfl, hq, hA⟩, fun k' hk => harr k' (by simp [exitTo, hk])⟩
    | goto l =>
      obtain ⟨F', H', d', rfl, rfl, hq, hA⟩ := hq
      simp only [scopeQ] at hq
      split at hq
      · rename_i r hr
        have hw := hrec _ _ _ _ d' hq
        have hw' : r.wp P (lift m (withA (dsts c) F0 (scopeQ rec c Q k))) (act F') (mkW m H' d') :=
          wp_mono hw (lift_mono fun e F2 H2 hq => ⟨hq.1, hA.trans (hq.2.mono (fun t ht => findLabel_dsts hr t ht))⟩)
        obtain ⟨e2, a2, w2, hq2, harr2⟩ := ih r _ _ hw' b kk cs
        have hg : gotoIn l (.inScope c :: kk) = some (.code r :: .inScope c :: kk) := by simp [gotoIn, hr]
        exact ⟨e2, a2, w2, hq2, .of_steps (harr _ hg) harr2⟩
      · rename_i hr
        exact ⟨.goto l, _, _, ⟨F', H', d', rfl, rfl, hq, hA⟩, fun k' hk => harr k' (by simp [gotoIn, hr, hk])⟩
    | ret => obtain ⟨F', H', d', rfl, rfl, hq, hA⟩ := hq; exact ⟨.ret, _, _, ⟨F', H', d', rfl, rfl, hq, hA⟩, harr⟩
    | panic ch => exact hq.elim
    | outgrown => exact hq.elim

theorem scope_sound {rec : Code → Post → Fr → Hp → Prop} (hrec : Sound P m rec) {c : Code} {Q : Post} {F : Fr} {H : Hp} (d : Nat) (k : Nat)
    (h : rec c (scopeQ rec c Q k) F H) : (Code.scope c).wp P (lift m (withA (dsts c) F Q)) (act F) (mkW m H d) := by
  intro b kk cs
  obtain ⟨e, a', w', hq, harr⟩ := scope_in hrec k c _ _ (hrec _ _ _ _ d h) b kk cs
  exact ⟨e, a', w', hq, .of_steps (.one step_scope) harr⟩

theorem litF_act {F : Fr} {x : Operand} {b : Bool} {v : SV} (h : ev F x = .c (.b b)) (hv : v.toV = .bool b) : act (litF F x v) = act F := by
  unfold litF
  split
  · rename_i t
    refine act_upd_same F t v ?_
    have : nth F t = .c (.b b) := h
    rw [this, hv]
    rfl
  · rfl

theorem codeW_sound (hm : P.follows .mixedOrders = true) (hs : List Hint) : ∀ n, Sound P m (codeW P m hs n)
  | 0 => fun c Q F H d h => h.elim
  | n + 1 => by
    have ih := codeW_sound hm hs n
    intro c Q F H d h
    cases c with
    | skip => exact wp_skip ⟨F, H, d, rfl, rfl, h, Agree.refl _ _⟩
    | region id ops draw => exact region_sound hm d (fun F' H' h1 h2 => ⟨h1, h2⟩) (fun t ht => ht) h
    | seq a b =>
      simp only [codeW] at h
      split at h
      · split at h
        · rename_i hk
          exact join_sound ih d hk h
        · exact h.elim
      · have hsub1 : ∀ t, t ∈ dsts a → t ∈ dsts (.seq a b) := fun t ht => by simp [dsts, ht]
        have hsub2 : ∀ t, t ∈ dsts b → t ∈ dsts (.seq a b) := fun t ht => by simp [dsts, ht]
        refine wp_seq (wp_mono (ih _ _ _ _ d h) ?_)
        intro e a' w hq
        cases e with
        | normal =>
          obtain ⟨F', H', d', rfl, rfl, hq, hA⟩ := hq
          exact wp_mono (ih _ _ _ _ d' hq) (lift_mono fun e F2 H2 hq => ⟨hq.1, (hA.mono hsub1).trans (hq.2.mono hsub2)⟩)
        | exit id => obtain ⟨F', H', d', rfl, rfl, hq, hA⟩ := hq; exact ⟨F', H', d', rfl, rfl, hq, hA.mono hsub1⟩
        | goto l => obtain ⟨F', H', d', rfl, rfl, hq, hA⟩ := hq; exact ⟨F', H', d', rfl, rfl, hq, hA.mono hsub1⟩
        | ret => obtain ⟨F', H', d', rfl, rfl, hq, hA⟩ := hq; exact ⟨F', H', d', rfl, rfl, hq, hA.mono hsub1⟩
        | panic c => exact hq.elim
        | outgrown => exact hq.elim
    | cond x a b =>
      have hsub1 : ∀ t, t ∈ dsts a → t ∈ dsts (.cond x a b) := fun t ht => by simp [dsts, ht]
      have hsub2 : ∀ t, t ∈ dsts b → t ∈ dsts (.cond x a b) := fun t ht => by simp [dsts, ht]
      simp only [codeW] at h
      split at h
      · rename_i hx
        exact wp_cond_true (ev_eq hx) (wp_mono (ih _ _ _ _ d h) (lift_mono fun e F2 H2 hq => ⟨hq.1, hq.2.mono hsub1⟩))
      · rename_i hx
        exact wp_cond_false (ev_eq hx) (wp_mono (ih _ _ _ _ d h) (lift_mono fun e F2 H2 hq => ⟨hq.1, hq.2.mono hsub2⟩))
      · rename_i v hx
        cases v with
        | true =>
          have e1 := litF_act (v := .c .tt) hx rfl
          have h1 := ih _ _ _ _ d (h.1 rfl)
          rw [e1] at h1
          exact wp_cond_true (ev_eq hx) (wp_mono h1 (lift_mono fun e F2 H2 hq => ⟨hq.1, (Agree.of_act e1).trans (hq.2.mono hsub1)⟩))
        | false =>
          have e1 := litF_act (v := .c .ff) hx rfl
          have h1 := ih _ _ _ _ d (h.2 rfl)
          rw [e1] at h1
          exact wp_cond_false (ev_eq hx) (wp_mono h1 (lift_mono fun e F2 H2 hq => ⟨hq.1, (Agree.of_act e1).trans (hq.2.mono hsub2)⟩))
      · exact h.elim
    | block id c =>
      simp only [codeW] at h
      refine wp_block (wp_mono (ih _ _ _ _ d h) ?_)
      intro e a' w hq
      cases e with
      | normal => exact hq
      | exit j =>
        obtain ⟨F', H', d', rfl, rfl, hq, hA⟩ := hq
        simp only [Exit.inBlock]
        simp only at hq
        split at hq
        · rename_i hj
          rw [if_pos (by simpa using hj)]
          exact ⟨F', H', d', rfl, rfl, hq, hA⟩
        · rename_i hj
          rw [if_neg (by simpa using hj)]
          exact ⟨F', H', d', rfl, rfl, hq, hA⟩
      | goto l => exact hq
      | ret => exact hq
      | panic c => exact hq.elim
      | outgrown => exact hq.elim
    | loop c =>
      simp only [codeW] at h
      split at h
      · split at h
        · rename_i hk
          exact loop_sound ih d hk h
        · exact h.elim
      · exact h.elim
    | scope c => exact scope_sound ih d 6 h
    | exit id => exact wp_exit ⟨F, H, d, rfl, rfl, h, Agree.refl _ _⟩
    | goto l => exact wp_goto ⟨F, H, d, rfl, rfl, h, Agree.refl _ _⟩
    | ret => exact wp_ret ⟨F, H, d, rfl, rfl, h, Agree.refl _ _⟩
    | label l => exact wp_label ⟨F, H, d, rfl, rfl, h, Agree.refl _ _⟩
    | rangeFunc f ps a b => exact h.elim
    | refuse w => exact h.elim

theorem fresh_svs (n : Nat) : svs (fresh n) = List.replicate n undef := by
  induction n with
  | zero => rfl
  | succ n ih => simp [fresh, svs, ih, List.replicate_succ]; rfl

theorem svs_append (F G : Fr) : svs (F ++ G) = svs F ++ svs G := by
  induction F with
  | nil => rfl
  | cons x r ih => simp [svs, ih]

theorem retW_imp {F : Fr} {H : Hp} (d : Nat) : ∀ {rs : List ResultVar} {k : List SV → Prop}, retW P F H rs k →
    ∃ vs, (rs.mapM (m := Sem) fun x => match x with
      | .tmp t => pure ((act F).tmps.getD t undef)
      | .cell a t => do loadVar t (← asAddr ((act F).tmps.getD a undef))).run P (mkW m H d) = .ok (svs vs) (mkW m H d) ∧ k vs
  | [], k, h => ⟨[], rfl, h⟩
  | .tmp t :: r, k, h => by
    obtain ⟨vs, h1, h2⟩ := retW_imp d (rs := r) h
    refine ⟨nth F t :: vs, ?_, h2⟩
    have e : (act F).tmps.getD t undef = (nth F t).toV := ev_eq (F := F) (x := .tmp t) rfl
    simp only [List.mapM_cons, Sem.run_bind, Sem.run_pure, Result.andThen_ok, h1, e, svs]
  | .cell a t :: r, k, h => by
    simp only [retW] at h
    split at h
    · rename_i p hp
      obtain ⟨v, hn, hrun, hk⟩ := ldW_imp h
      obtain ⟨vs, h1, h2⟩ := retW_imp d (rs := r) hk
      refine ⟨v :: vs, ?_, h2⟩
      have e : (act F).tmps.getD a undef = .pointer (some p) := by
        have := ev_eq (F := F) (x := .tmp a) (v := nth F a) rfl
        rw [hp] at this
        exact this
      have hl : (loadVar t p).run P (mkW m H d) = .ok v.toV (mkW m H d) := by
        have := hrun (mkW m H d) hn
        simpa [Instr.loadAt, Instr.sureAddr] using this
      have hA : (asAddr (.pointer (some p))).run P (mkW m H d) = .ok p (mkW m H d) := rfl
      simp only [List.mapM_cons, Sem.run_bind, Sem.run_pure, Result.andThen_ok, h1, e, svs, hA, hl]
    · exact h.elim

theorem svs_length' (vs : List SV) : (svs vs).length = vs.length := svs_length vs

/-- **The evaluator is sound**: what it asks of a function's text suffices for a call of the function. -/
theorem callsH_of_W {f : FuncId} {fn : Func} {hs : List Hint} {args : Fr} {H : Hp} {K : Value → Hp → Prop} (hm : P.follows .mixedOrders = true) (hf : P.funcs[f]? = some fn)
    (h : funcW P m hs fn args H K) : CallsH P m f (svs args) H K := by
  intro d
  unfold funcW at h
  split at h
  · exact h.elim
  · rename_i c hc
    refine calls_of_wp hf hc ?_
    have hw := codeW_sound (m := m) hm hs 1000 _ _ _ _ d h
    have ha : act (args ++ fresh (fn.ntmps - args.length)) = { tmps := (svs args).toArray ++ Array.replicate (fn.ntmps - (svs args).toArray.size) undef, defers := [] } := by
      unfold act
      congr 1
      apply Array.ext'
      simp [svs_append, fresh_svs, svs_length]
    rw [← ha]
    refine wp_mono hw ?_
    have fin : ∀ F' H' d', retW P F' H' fn.results.toList (fun vs => K (retV vs) H') →
        bodyPost P fn (fun e w' => ∃ v H' d', e = .returned v ∧ w' = mkW m H' d' ∧ K v H') .ret (act F') (mkW m H' d') := by
      intro F' H' d' hr
      obtain ⟨vs, h1, h2⟩ := retW_imp (m := m) d' hr
      refine ⟨rfl, retV vs, ?_, retV vs, H', d', rfl, rfl, h2⟩
      unfold results
      have h3 : (fn.results.mapM (m := Sem) fun x => match x with
          | .tmp t => pure ((act F').tmps.getD t undef)
          | .cell a t => do loadVar t (← asAddr ((act F').tmps.getD a undef))).run P (mkW m H' d') = .ok (svs vs).toArray (mkW m H' d') := by
        rw [Array.mapM_eq_mapM_toList]
        simp only [Sem.run_map, h1, Result.andThen_ok]
      rw [Sem.run_bind]
      have h4 : ∀ (s : Sem (Array Value)), s.run P (mkW m H' d') = .ok (svs vs).toArray (mkW m H' d') → ((s.run P (mkW m H' d')).andThen fun a w' => (pure (if h : a.size = 1 then a[0] else .tuple a) : Sem Value).run P w') = .ok (retV vs) (mkW m H' d') := by
        intro s hs
        rw [hs]
        simp only [Result.andThen_ok, Sem.run_pure]
        congr 1
        match vs with
        | [] => rfl
        | [x] => rfl
        | x :: y :: r => simp [svs, retV]
      exact h4 _ h3
    intro e a w hq
    cases e with
    | normal => obtain ⟨F', H', d', rfl, rfl, hq, hA⟩ := hq; exact fin _ _ _ hq
    | ret => obtain ⟨F', H', d', rfl, rfl, hq, hA⟩ := hq; exact fin _ _ _ hq
    | exit id => obtain ⟨F', H', d', rfl, rfl, hq, hA⟩ := hq; exact hq.elim
    | goto l => obtain ⟨F', H', d', rfl, rfl, hq, hA⟩ := hq; exact hq.elim
    | panic c => exact hq.elim
    | outgrown => exact hq.elim

end
end Go.Eng


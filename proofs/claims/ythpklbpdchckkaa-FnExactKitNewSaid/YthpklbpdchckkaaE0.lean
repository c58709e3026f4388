/- The evaluator's library, part 0: abstract values, the operations and calls on them, and that the machine does the same. It states nothing of the program by itself. -/
import Derived.Below
import Derived.Calls
import Derived.Deep.AppendSrc
import Derived.Deep.MidRow
import Derived.Deep.Upon
import Derived.KernelRfl
import Derived.Laws.BytesArg
import Derived.Laws.IdiomStrings
import Derived.Laws.MakeOwn
import Derived.Laws.StructEq
import Derived.Lib.ConvBytes
import Derived.LoopN
import Derived.Orders
import Derived.Scope
import Derived.Tactics
namespace Go.Proofs.YthpklbpdchckkaaEv
set_option linter.unusedVariables false

/-! ### 1. Types and their values -/
inductive Ty where
  | int (k : IntKind) | bool | str | unit | pr (a b : Ty) | sl (e : TypeId) (t : Ty)

@[reducible] def Ty.D : Ty → Type
  | .int _ => Int
  | .bool => Bool
  | .str => ByteArray
  | .unit => Unit
  | .pr a b => a.D × b.D
  | .sl _ t => List t.D

def Ty.z : (t : Ty) → t.D
  | .int _ => (0 : Int)
  | .bool => false
  | .str => ByteArray.empty
  | .unit => ()
  | .pr a b => (a.z, b.z)
  | .sl _ _ => []

def Ty.n : Ty → Nat
  | .unit => 0
  | .pr a b => a.n + b.n
  | _ => 1

def kbeq : IntKind → IntKind → Bool
  | .i8, .i8 | .i16, .i16 | .i32, .i32 | .i64, .i64 | .u8, .u8 | .u16, .u16 | .u32, .u32 | .u64, .u64 => true
  | _, _ => false

def Ty.beq : Ty → Ty → Bool
  | .int k, .int l => kbeq k l
  | .bool, .bool => true
  | .str, .str => true
  | .unit, .unit => true
  | .pr a b, .pr c d => a.beq c && b.beq d
  | .sl e t, .sl f u => Nat.beq e f && t.beq u
  | _, _ => false

theorem kbeq_eq {k l : IntKind} (h : kbeq k l = true) : k = l := by cases k <;> cases l <;> first | rfl | cases h

theorem Ty.beq_eq : ∀ {t u : Ty}, t.beq u = true → t = u
  | .int _, .int _, h => by rw [kbeq_eq h]
  | .bool, .bool, _ => rfl
  | .str, .str, _ => rfl
  | .unit, .unit, _ => rfl
  | .pr a b, .pr c d, h => by
    have h := (Bool.and_eq_true _ _).mp h
    rw [Ty.beq_eq h.1, Ty.beq_eq h.2]
  | .sl e t, .sl f u, h => by
    have h := (Bool.and_eq_true _ _).mp h
    rw [Nat.eq_of_beq_eq_true h.1, Ty.beq_eq h.2]
  | .int _, .bool, h | .int _, .str, h | .int _, .unit, h | .int _, .pr .., h | .int _, .sl .., h => nomatch h
  | .bool, .int _, h | .bool, .str, h | .bool, .unit, h | .bool, .pr .., h | .bool, .sl .., h => nomatch h
  | .str, .int _, h | .str, .bool, h | .str, .unit, h | .str, .pr .., h | .str, .sl .., h => nomatch h
  | .unit, .int _, h | .unit, .bool, h | .unit, .str, h | .unit, .pr .., h | .unit, .sl .., h => nomatch h
  | .pr .., .int _, h | .pr .., .bool, h | .pr .., .str, h | .pr .., .unit, h | .pr .., .sl .., h => nomatch h
  | .sl .., .int _, h | .sl .., .bool, h | .sl .., .str, h | .sl .., .unit, h | .sl .., .pr .., h => nomatch h

/-- a typed list at another spelling of its type -/
def castL (t u : Ty) (xs : List t.D) : Option (List u.D) :=
  if h : t.beq u = true then some (Ty.beq_eq h ▸ xs) else none

/-- the slice at cell j of a value -/
def leafGet : (t : Ty) → t.D → Nat → (u : Ty) → Option (List u.D)
  | .pr a b, x, j, u => cond (Nat.blt j a.n) (leafGet a x.1 j u) (leafGet b x.2 (j - a.n) u)
  | .sl _ t, xs, j, u => cond (Nat.beq j 0) (castL t u xs) none
  | _, _, _, _ => none
def leafSet : (t : Ty) → t.D → Nat → (u : Ty) → List u.D → t.D
  | .pr a b, x, j, u, ys => cond (Nat.blt j a.n) (leafSet a x.1 j u ys, x.2) (x.1, leafSet b x.2 (j - a.n) u ys)
  | .sl _ t, xs, _, u, ys => match castL u t ys with | some zs => zs | none => xs
  | _, x, _, _, _ => x
/-- the type of the slice at cell j -/
def leafTy : Ty → Nat → Option (TypeId × Ty)
  | .pr a b, j => cond (Nat.blt j a.n) (leafTy a j) (leafTy b (j - a.n))
  | .sl e t, j => cond (Nat.beq j 0) (some (e, t)) none
  | _, _ => none

/-! ### 2. Values -/
inductive Cell : Type where
  | bo (x : Bool) | nu (k : IntKind) (n : Int) | sr (x : ByteArray) | kv (v : Value) | nil | dead
  | ptr (c j : Nat) | ep (c i j : Nat) | sl (c off len : Nat) | slw (c : Nat)
  | ro (z : Nat) (t : Ty) (e : TypeId) (xs : List t.D) | rn (z : Nat) (t : Ty) (e : TypeId) (xs : List t.D) | rp (z : Nat) (t : Ty) (x : t.D) (j : Nat)
  | own (t : Ty) (e : TypeId) (xs : List t.D) | mov (t : Ty) (e : TypeId) (xs : List t.D)
  | fn (f : FuncId) (caps : List Nat) | ifc

inductive Val : Type where
  | c (x : Cell) | agg (xs : List Cell) | bx (ty : TypeId) (xs : List Cell) | tup (xs : List Val)

inductive Chunk : Type where
  | box (ty : TypeId) (xs : List Cell)
  | rows (t : Ty) (e : TypeId) (xs : List t.D)
  | hol (t : Ty) (e : TypeId) (xs : List t.D) (i j n : Nat)   -- a row, but for the slice at cell j of element i: chunk n

structure St where
  tm : List (Nat × Val)
  hp : List (Nat × Option Chunk)
  nx : Nat
  pin : List Val

def look {α : Type} : List (Nat × α) → Nat → Option α
  | [], _ => none
  | (m, v) :: r, n => cond (Nat.beq m n) (some v) (look r n)

def St.get (st : St) (t : Nat) : Val := match look st.tm t with | some v => v | none => .c .dead
def St.chunk (st : St) (c : Nat) : Option Chunk := match look st.hp c with | some (some x) => some x | _ => none
def St.put (st : St) (d : Option Nat) (v : Val) : St := match d with | some d => { st with tm := (d, v) :: st.tm } | none => st

def Cell.ofV : Value → Cell
  | .bool x => .bo x
  | .int q n => .nu q n
  | .string x => .sr x
  | .slice none 0 0 => .nil
  | .nilFunc => .kv .nilFunc
  | .nilIface => .kv .nilIface
  | .pointer none => .kv (.pointer none)
  | _ => .dead
def Val.ofV : Value → Val
  | .agg cs => .agg (cs.toList.map Cell.ofV)
  | v => .c (Cell.ofV v)

def St.ev (st : St) : Operand → Val
  | .tmp t => st.get t
  | .const v => Val.ofV v
  | .func f => .c (.fn f [])
  | .global _ => .c .dead

/-! ### 3. Types of the program -/
structure TI where
  agg : Bool
  fs : List (Nat × Nat × Bool)      -- a struct's fields: offset, cells, is it a struct or an array
  el : TypeId                       -- a slice's, an array's or a pointer's element type
  len : Nat
  sz : Nat
  by_ : Nat
  zero : List Cell
  knd : Nat                         -- 0 other, 1 int, 2 string, 3 slice, 4 array, 5 pointer, 6 struct, 7 bool, 8 interface
  ik : IntKind

def aggB : TypeDesc → Bool
  | .struct _ => true
  | .array _ _ => true
  | _ => false

def szAg (P : Program) (t : TypeId) : Nat × Bool :=
  match P.info? t, P.underlying t with
  | some j, some d => (j.size, aggB d)
  | _, _ => (0, false)

def ti (P : Program) (t : TypeId) : Option TI :=
  match P.info? t, P.underlying t with
  | some i, some d =>
    let z : List Cell := match i.zero with | some v => (v.cells.toList.map Cell.ofV) | none => []
    match d with
    | .int k => some ⟨false, [], 0, 0, i.size, i.bytes, z, 1, k⟩
    | .bool => some ⟨false, [], 0, 0, i.size, i.bytes, z, 7, .i64⟩
    | .string => some ⟨false, [], 0, 0, i.size, i.bytes, z, 2, .i64⟩
    | .slice e => some ⟨false, [], e, 0, i.size, i.bytes, z, 3, .i64⟩
    | .array n e => some ⟨true, [], e, n, i.size, i.bytes, z, 4, .i64⟩
    | .pointer e => some ⟨false, [], e, 0, i.size, i.bytes, z, 5, .i64⟩
    | .interface _ => some ⟨false, [], 0, 0, i.size, i.bytes, z, 8, .i64⟩
    | .struct fs => some ⟨true, fs.toList.map fun f => (f.offset, (szAg P f.type).1, (szAg P f.type).2), 0, 0, i.size, i.bytes, z, 6, .i64⟩
    | _ => some ⟨false, [], 0, 0, i.size, i.bytes, z, 0, .i64⟩
  | _, _ => none

def tyGo (f : TypeId → Option Ty) : List Field → Option Ty
  | [] => some .unit
  | x :: r => match r with
    | [] => f x.type
    | _ :: _ => match f x.type, tyGo f r with | some a, some b => some (.pr a b) | _, _ => none
def tyOf (P : Program) : Nat → TypeId → Option Ty
  | 0, _ => none
  | d + 1, t =>
    match P.underlying t with
    | some (.int k) => some (.int k)
    | some .bool => some .bool
    | some .string => some .str
    | some (.slice e) => (tyOf P d e).map (.sl e)
    | some (.struct fs) => tyGo (tyOf P d) fs.toList
    | _ => none


/-! ### 4. Reading and making typed values -/
def cellsR (z : Nat) : (t : Ty) → t.D → List Cell
  | .int k, x => [.nu k x]
  | .bool, x => [.bo x]
  | .str, x => [.sr x]
  | .unit, _ => []
  | .pr a b, x => cellsR z a x.1 ++ cellsR z b x.2
  | .sl e t, xs => [.ro z t e xs]

def cellsO : (t : Ty) → t.D → List Cell
  | .int k, x => [.nu k x]
  | .bool, x => [.bo x]
  | .str, x => [.sr x]
  | .unit, _ => []
  | .pr a b, x => cellsO a x.1 ++ cellsO b x.2
  | .sl e t, xs => [.own t e xs]

def one : List Cell → Cell
  | [x] => x
  | _ => .dead

/-- typed values out of cells; a nested slice must be owned -/
def decO : (t : Ty) → List Cell → Option t.D
  | .int k, cs => match one cs with | .nu q n => cond (kbeq k q) (some n) none | _ => none
  | .bool, cs => match one cs with | .bo x => some x | _ => none
  | .str, cs => match one cs with | .sr x => some x | _ => none
  | .unit, cs => match cs with | [] => some () | _ => none
  | .pr a b, cs => match decO a (cs.take a.n), decO b (cs.drop a.n) with | some x, some y => some (x, y) | _, _ => none
  | .sl e t, cs => match one cs with | .own u f xs => cond (Nat.beq e f) (castL u t xs) none | .nil => some [] | _ => none

def flat : Ty → Bool
  | .sl _ _ => false
  | .pr a b => flat a && flat b
  | _ => true

def bytesOf (s : ByteArray) : List Int := s.data.toList.map fun b => (b.toNat : Int)
def ofBytes (xs : List Int) : ByteArray := ⟨(xs.map fun n => UInt8.ofNat n.toNat).toArray⟩
def bAt (s : ByteArray) (i : Nat) : Int := (s.data.getD i 0).toNat

/-! ### 5. One operation -/
inductive Res (α : Type) where
  | no
  | ret (a : α)
  | chk (c : Bool) (r : Res α)

def Res.k {α R : Type} : Res α → (α → Option R) → Option R
  | .no, _ => none
  | .ret a, f => f a
  | .chk c r, f => cond c (r.k f) none

abbrev Upd := Val × List (Nat × Option Chunk)
def pure1 (x : Cell) : Res Upd := .ret (.c x, [])

def mergeV (q : Bool) : Val → Val → Val
  | .c (.bo x), .c (.bo y) => .c (.bo (cond q x y))
  | .c (.nu k x), .c (.nu l y) => cond (kbeq k l) (.c (.nu k (cond q x y))) (cond q (.c (.nu k x)) (.c (.nu l y)))
  | .c (.sr x), .c (.sr y) => .c (.sr (cond q x y))
  | a, b => cond q a b

def ibits (op : BinOp) (k : IntKind) (x y : Int) : Int :=
  let a := BitVec.ofInt k.bits x
  let b := BitVec.ofInt k.bits y
  k.wrap (match op with | .and => a &&& b | .or => a ||| b | .xor => a ^^^ b | _ => a &&& ~~~b).toNat
def ishl (k : IntKind) (x y : Int) : Int := k.wrap (x * 2 ^ (min y.toNat k.bits))
def ishr (k : IntKind) (x y : Int) : Int := x.fdiv (2 ^ (min y.toNat k.bits))

def binInt (op : BinOp) (k : IntKind) (a b : Int) : Res Upd :=
  match op with
  | .add => pure1 (.nu k (k.wrap (a + b)))
  | .sub => pure1 (.nu k (k.wrap (a - b)))
  | .mul => pure1 (.nu k (k.wrap (a * b)))
  | .quo => .chk (!decide (b = 0)) (pure1 (.nu k (k.wrap (a.tdiv b))))
  | .rem => .chk (!decide (b = 0)) (pure1 (.nu k (a.tmod b)))
  | .and | .or | .xor | .andNot => pure1 (.nu k (ibits op k a b))
  | .eql => pure1 (.bo (decide (a = b)))
  | .neq => pure1 (.bo (!decide (a = b)))
  | .lss => pure1 (.bo (decide (a < b)))
  | .leq => pure1 (.bo (decide (a ≤ b)))
  | .gtr => pure1 (.bo (decide (b < a)))
  | .geq => pure1 (.bo (decide (b ≤ a)))
  | _ => .no

def binStr (op : BinOp) (a b : ByteArray) : Res Upd :=
  match op with
  | .add => .chk (decide (a.size + b.size ≤ 1152921504606846976)) (pure1 (.sr (a ++ b)))
  | .eql => pure1 (.bo (decide (a = b)))
  | .neq => pure1 (.bo (!decide (a = b)))
  | _ => .no

def binOpE (q : Nat) (op : BinOp) (x y : Val) : Res Upd :=
  match x, y with
  | .c (.nu k a), .c (.nu l b) =>
    match op with
    | .shl => .chk (decide (0 ≤ b)) (pure1 (.nu k (ishl k a b)))
    | .shr => .chk (decide (0 ≤ b)) (pure1 (.nu k (ishr k a b)))
    | _ => cond (kbeq k l) (binInt op k a b) .no
  | .c (.sr a), .c (.sr b) => binStr op a b
  | .c (.rn _ _ _ _), .c .nil => cond (Nat.beq q 3) (match op with | .eql => pure1 (.bo false) | .neq => pure1 (.bo true) | _ => .no) .no
  | .c .nil, .c .nil => cond (Nat.beq q 3) (match op with | .eql => pure1 (.bo true) | .neq => pure1 (.bo false) | _ => .no) .no
  | .c (.bo a), .c (.bo b) => cond (Nat.beq q 7) (match op with | .eql => pure1 (.bo (a == b)) | .neq => pure1 (.bo (!(a == b))) | _ => .no) .no
  | _, _ => .no

/-- are two values equal? -/
def partOf (P : Program) (fd : Field) (cs : List Cell) (f : Nat → Bool → Option Val) : Option Val :=
  match P.info? fd.type, P.underlying fd.type with
  | some j, some d => f j.size (aggB d)
  | _, _ => none
def eqF (P : Program) (g : TypeId → Val → Val → Option Bool) (pt : Field → List Cell → Option Val) (xs ys : List Cell) : List Field → Option Bool
  | [] => some true
  | fd :: r => cond (fd.name == "_") none (match pt fd xs, pt fd ys with
    | some a, some b => (match g fd.type a b, eqF P g pt xs ys r with | some p, some q => some (p && q) | _, _ => none)
    | _, _ => none)
def eqE (P : Program) (pt : Field → List Cell → Option Val) : Nat → TypeId → Val → Val → Option Bool
  | 0, _, _, _ => none
  | d + 1, t, x, y =>
    match P.underlying t with
    | some (.int _) => (match x, y with | .c (.nu k a), .c (.nu l b) => cond (kbeq k l) (some (decide (a = b))) none | _, _ => none)
    | some .bool => (match x, y with | .c (.bo a), .c (.bo b) => some (a == b) | _, _ => none)
    | some .string => (match x, y with | .c (.sr a), .c (.sr b) => some (decide (a = b)) | _, _ => none)
    | some (.struct fs) => (match x, y with | .agg xs, .agg ys => cond (P.stoodInHeld t) none (eqF P (eqE P pt d) pt xs ys fs.toList) | _, _ => none)
    | _ => none

def unOpE (op : UnOp) (x : Val) : Res Upd :=
  match op, x with
  | .neg, .c (.nu k n) => pure1 (.nu k (k.wrap (0 - n)))
  | .xor, .c (.nu k n) => pure1 (.nu k (ibits .xor k (if k.signed then -1 else k.max) n))
  | .not, .c (.bo a) => pure1 (.bo (!a))
  | _, _ => .no

/-- the cells of one element, or of one variable, from cell j on -/
def partV (agg : Bool) (sz j : Nat) (cs : List Cell) : Option Val :=
  cond agg (cond (Nat.ble (j + sz) cs.length) (some (.agg ((cs.drop j).take sz))) none) (match cs[j]? with | some x => some (.c x) | none => none)

def fieldV (P : Program) (fd : Field) (cs : List Cell) : Option Val := partOf P fd cs fun sz ag => partV ag sz fd.offset cs
def Val.cells : Val → List Cell
  | .agg cs => cs
  | .c x => [x]
  | _ => []

def leafOf : Cell → (u : Ty) → Option (List u.D)
  | .own t _ ys, u => castL t u ys
  | .nil, _ => some []
  | _, _ => none
def isRo : Cell → Bool
  | .ro .. => true
  | _ => false
def isDeadC : Cell → Bool
  | .dead => true
  | _ => false

def setAt (j : Nat) (new : List Cell) (cs : List Cell) : List Cell := cs.take j ++ new ++ cs.drop (j + new.length)

/-- what a slice cell reads as -/
structure View where
  t : Ty
  e : TypeId
  xs : List t.D
def viewC (H : Nat → Option Chunk) : Cell → Option View
  | .ro _ t e xs => some ⟨t, e, xs⟩
  | .rn _ t e xs => some ⟨t, e, xs⟩
  | .slw c => match H c with | some (.rows t e xs) => some ⟨t, e, xs⟩ | _ => none
  | .sl c off len => match H c with | some (.rows t e xs) => some ⟨t, e, (xs.drop off).take len⟩ | _ => none
  | _ => none

/-- nested slices that are handed into a row: resolved, and the chunks that are used up -/
def ownC (H : Nat → Option Chunk) : Cell → Option (Cell × List Nat)
  | .slw c => match H c with | some (.rows t e xs) => some (.own t e xs, [c]) | _ => none
  | .sl c off len => match H c with | some (.rows t e xs) => some (.own t e ((xs.drop off).take len), [c]) | _ => none
  | .ro _ _ _ _ => none
  | .rn _ _ _ _ => none
  | .ptr _ _ => none
  | .ep _ _ _ => none
  | .rp _ _ _ _ => none
  | .fn _ _ => none
  | .own _ _ _ => none
  | .mov _ _ _ => none
  | x => some (x, [])
def ownCs (H : Nat → Option Chunk) : List Cell → Option (List Cell × List Nat)
  | [] => some ([], [])
  | x :: xs => match ownC H x, ownCs H xs with | some (y, a), some (ys, b) => some (y :: ys, a ++ b) | _, _ => none
def nodupB : List Nat → Bool
  | [] => true
  | x :: xs => !(xs.any (Nat.beq x)) && nodupB xs
def gone (cs : List Nat) : List (Nat × Option Chunk) := cs.map fun c => (c, none)

def decVals (H : Nat → Option Chunk) (t : Ty) : List Val → Option (List t.D × List Nat)
  | [] => some ([], [])
  | v :: r =>
    cond (Nat.beq v.cells.length t.n && (!Nat.beq t.n 0 && !v.cells.any isDeadC))
    (match ownCs H v.cells with
    | some (cs, a) => match decO t cs, decVals H t r with | some x, some (xs, b) => some (x :: xs, a ++ b) | _, _ => none
    | none => none) none

def eqNats : List Nat → List Nat → Bool
  | [], [] => true
  | x :: xs, y :: ys => Nat.beq x y && eqNats xs ys
  | _, _ => false

def range' : Nat → Nat → List Nat
  | _, 0 => []
  | i, n + 1 => i :: range' (i + 1) n

/-- the size of the elements of a slice type -/
def elSz (P : Program) (t : TypeId) : Option Nat :=
  match ti P t with
  | some i => cond (Nat.beq i.knd 3) (match ti P i.el with | some j => some j.sz | none => none) none
  | none => none
def kndIs (P : Program) (t : TypeId) (q : Nat) : Bool := match ti P t with | some i => Nat.beq i.knd q | none => false
def fldOf (P : Program) (t : TypeId) (f : Nat) : Option (Nat × Nat × Bool) :=
  match ti P t with
  | some i => cond (Nat.beq i.knd 6) i.fs[f]? none
  | none => none

/-- what is appended to: nothing yet, or a row of ours (it is used up) -/
def baseC (H : Nat → Option Chunk) (u : Ty) (e : TypeId) : Cell → Option (View × List Nat)
  | .nil => some (⟨u, e, []⟩, [])
  | .slw c => match viewC H (.slw c) with | some v => some (v, [c]) | none => none
  | .sl c off len => match viewC H (.sl c off len) with | some v => some (v, [c]) | none => none
  | _ => none
/-- what is appended: elements in which slices are nested are used up -/
def moreC (H : Nat → Option Chunk) (u : Ty) (e : TypeId) : Cell → Option (View × List Nat)
  | .nil => some (⟨u, e, []⟩, [])
  | .sr q => some (⟨.int .u8, e, bytesOf q⟩, [])
  | .slw c => match viewC H (.slw c) with | some v => some (v, cond (flat u) [] [c]) | none => none
  | .sl c off len => cond (flat u) (match viewC H (.sl c off len) with | some v => some (v, []) | none => none) none
  | .ro _ t f xs => cond (flat u) (some (⟨t, f, xs⟩, [])) none
  | .rn _ t f xs => cond (flat u) (some (⟨t, f, xs⟩, [])) none
  | _ => none
def appendE (P : Program) (nm : Nat) (H : Nat → Option Chunk) (t0 t1 : TypeId) (s x : Cell) : Res Upd :=
  match ti P t0 with
  | some i =>
    match ti P i.el, tyOf P 5 i.el with
    | some j, some u =>
      match baseC H u i.el s, moreC H u i.el x with
      | some (v, a), some (w, b) =>
        (match castL v.t u v.xs, castL w.t u w.xs with
        | some xs, some ys =>
          cond (nodupB (a ++ b) && (Nat.beq u.n j.sz && (Nat.beq i.knd 3 && (Nat.beq j.zero.length j.sz && (!Nat.beq j.by_ 0 && (!Nat.beq j.sz 0 && cond (match x with | .sr _ => true | _ => false) (kndIs P t1 2) (kndIs P t1 3)))))))
            (.chk (decide ((xs.length + ys.length) * j.by_ ≤ 140737488355328)) (.ret (.c (.slw nm), (nm, some (.rows u i.el (xs ++ ys))) :: gone (a ++ b)))) .no
        | _, _ => .no)
      | _, _ => .no
    | _, _ => .no
  | none => .no

/-- a slice of bytes? -/
def isBytes (P : Program) (t : TypeId) : Bool :=
  match ti P t with
  | some i => Nat.beq i.knd 3 && (match ti P i.el with | some j => Nat.beq j.knd 1 && kbeq j.ik .u8 | none => false)
  | none => false
def idxE (n : Nat) (i : Int) : Bool := decide (0 ≤ i ∧ i < (n : Int))

def minmax (mn : Bool) (k : IntKind) (x : Int) : List Val → Res Upd
    | [] => pure1 (.nu k x)
    | .c (.nu _ y) :: r => minmax mn k (cond mn (if y < x then y else x) (if x < y then y else x)) r
    | _ => .no
def builtinE (P : Program) (nm : Nat) (H : Nat → Option Chunk) (b : Builtin) (vs : List Val) (ts : List TypeId) : Res Upd :=
  match b with
  | .len => (match vs, ts with
    | [.c x], [t] => (match x with
      | .sr s => cond (kndIs P t 2) (pure1 (.nu .i64 (s.size : Int))) .no
      | .nil => cond (kndIs P t 3) (pure1 (.nu .i64 0)) .no
      | .sl _ _ n => cond (kndIs P t 3) (pure1 (.nu .i64 (n : Int))) .no
      | x => (match viewC H x with | some v => cond (kndIs P t 3) (pure1 (.nu .i64 (v.xs.length : Int))) .no | none => .no))
    | _, _ => .no)
  | .min => (match vs with | .c (.nu k x) :: r => minmax true k x r | _ => .no)
  | .max => (match vs with | .c (.nu k x) :: r => minmax false k x r | _ => .no)
  | .append => (match vs, ts with | [.c s, .c x], [t0, t1] => appendE P nm H t0 t1 s x | _, _ => .no)
  | _ => .no

def prim (P : Program) (nm : Nat) (ρ : Operand → Val) (H : Nat → Option Chunk) (op : Op) : Res Upd :=
  match op with
  | .move x | .assign x => .ret (ρ x, [])
  | .pick c a b => match ρ c with | .c (.bo q) => .ret (mergeV q (ρ a) (ρ b), []) | _ => .no
  | .binOp op t x y _ =>
    (match ρ x, ρ y with
    | .agg xs, .agg ys => (match eqE P (fieldV P) 12 t (.agg xs) (.agg ys) with
      | some b => cond (P.eqGuardType P.depth t) .no (match op with | .eql => pure1 (.bo b) | .neq => pure1 (.bo (!b)) | _ => .no)
      | none => .no)
    | u, v => binOpE (match ti P t with | some i => i.knd | none => 0) op u v)
  | .unOp op _ x => unOpE op (ρ x)
  | .nilCheck x => match ρ x with | .c (.ptr c j) => pure1 (.ptr c j) | .c (.rp z t x j) => pure1 (.rp z t x j) | .c (.ep c i j) => pure1 (.ep c i j) | .c (.fn f c) => pure1 (.fn f c) | _ => .no
  | .extract t i => match ρ t with | .tup vs => (match vs[i]? with | some v => .ret (v, []) | none => .no) | _ => .no
  | .field t x f =>
    match fldOf P t f, ρ x with
    | some (off, sz, ag), .agg cs => cond (Nat.beq sz 0) .no (match partV ag sz off cs with | some v => .ret (v, []) | none => .no)
    | _, _ => .no
  | .fieldAddr t x f =>
    match fldOf P t f with
    | some (off, sz, _) =>
      cond (Nat.beq sz 0) .no (match ρ x with
      | .c (.ptr c j) => pure1 (.ptr c (j + off))
      | .c (.ep c q j) => pure1 (.ep c q (j + off))
      | .c (.rp z t x j) => pure1 (.rp z t x (j + off))
      | _ => .no)
    | none => .no
  | .indexAddr t x ix =>
    match elSz P t, ρ x, ρ ix with
    | some m, .c x, .c (.nu _ n) =>
      (match x with
        | .ro z u _ xs => cond (Nat.beq m u.n) (.chk (idxE xs.length n) (pure1 (.rp z u (xs.getD n.toNat u.z) 0))) .no
        | .slw c => (match H c with
          | some (.rows u _ xs) => cond (Nat.beq m u.n) (.chk (idxE xs.length n) (pure1 (.ep c n.toNat 0))) .no
          | some (.hol u _ xs _ _ _) => cond (Nat.beq m u.n) (.chk (idxE xs.length n) (pure1 (.ep c n.toNat 0))) .no
          | _ => .no)
        | .sl c off len => (match H c with | some (.rows u _ _) => cond (Nat.beq m u.n) (.chk (idxE len n) (pure1 (.ep c (off + n.toNat) 0))) .no | _ => .no)
        | _ => .no)
    | _, _, _ => .no
  | .index t x ix =>
    match ρ x, ρ ix with
    | .c (.sr s), .c (.nu _ n) => cond (kndIs P t 2) (.chk (idxE s.size n) (pure1 (.nu .u8 (bAt s n.toNat)))) .no
    | .agg cs, .c (.nu _ n) =>
      match ti P t with
      | some i =>
        match ti P i.el with
        | some j => cond (Nat.beq j.sz 1 && !j.agg && Nat.beq i.len cs.length && Nat.beq i.knd 4) (.chk (idxE cs.length n) (match sel n.toNat 0 cs with | some x => .ret (x, []) | none => .no)) .no
        | none => .no
      | none => .no
    | _, _ => .no
  | .slice t x lo hi mx =>
    match mx with
    | some _ => .no
    | none =>
      match ρ x with
      | .c (.sr s) => cond (kndIs P t 2) (bnd lo hi s.size fun l h => pure1 (.sr (s.extract l h))) .no
      | .c (.ro z u e xs) => (match elSz P t with | some m => cond (Nat.beq m u.n) (bnd lo hi xs.length fun l h => pure1 (.ro z u e ((xs.take h).drop l))) .no | none => .no)
      | .c (.slw c) =>
        (match H c, elSz P t with
          | some (.rows u _ xs), some m => cond (Nat.beq m u.n)
            (match lo, hi with | none, none => pure1 (.slw c) | _, _ => bnd lo hi xs.length fun l h => pure1 (.sl c l (h - l))) .no
          | _, _ => .no)
      | .c (.sl c off len) => (match H c, elSz P t with
        | some (.rows u _ _), some m => cond (Nat.beq m u.n) (bnd lo hi len fun l h => pure1 (.sl c (off + l) (h - l))) .no
        | _, _ => .no)
      | .c .nil => (match elSz P t with | some _ => bnd lo hi 0 fun _ _ => pure1 .nil | none => .no)
      | _ => .no
  | .convert src dst x =>
    match ti P src, ti P dst, ρ x with
    | some _, some d, .c (.nu _ n) => cond (Nat.beq d.knd 1) (pure1 (.nu d.ik (d.ik.wrap n))) .no
    | some _, some d, .c (.sr s) =>
      cond (Nat.beq d.knd 2) (pure1 (.sr s)) (cond (Nat.beq d.knd 3)
        (cond (isBytes P dst) (.ret (.c (.slw nm), [(nm, some (.rows (.int .u8) d.el (bytesOf s)))])) .no) .no)
    | some _, some d, .c x =>
      cond (Nat.beq d.knd 2 && isBytes P src) (match viewC H x with
        | some ⟨.int .u8, _, xs⟩ => pure1 (.sr (ofBytes xs))
        | none => (match x with | .nil => pure1 (.sr ByteArray.empty) | _ => .no)
        | _ => .no) .no
    | _, _, _ => .no
  | .makeFunc (.func f) first captured =>
    match first.toList, caps (captured.toList.map ρ) with
    | [], some cs => pure1 (.fn f cs)
    | _, _ => .no
  | .alloc t => match ti P t with | some i => cond i.zero.isEmpty .no (.ret (.c (.ptr nm 0), [(nm, some (.box t i.zero))])) | none => .no
  | .box t x =>
    match ti P t, ρ x with
    | some i, .agg cs => cond (i.agg && Nat.beq cs.length i.sz) (.ret (.c (.ptr nm 0), [(nm, some (.box t cs))])) .no
    | some i, .c x => cond (i.agg || isDeadC x) .no (.ret (.c (.ptr nm 0), [(nm, some (.box t [x]))]))
    | _, _ => .no
  | .build t parts =>
    match ti P t with
    | some i =>
      cond (Nat.beq i.knd 6 && ((i.fs.all fun x => !Nat.beq x.2.1 0) && !i.zero.isEmpty)) (match fillS i.fs (parts.toList.map fun (j, x) => (j, ρ x)) i.zero with | some cs => .ret (.agg cs, []) | none => .no)
      .no
    | none => .no
  | .buildSlice t len parts =>
    match ti P t with
    | some i =>
      match ti P i.el, tyOf P 5 i.el with
      | some j, some u =>
        cond (eqNats (parts.toList.map (·.1)) (range' 0 len) && (Nat.ble (len * j.sz) 1000000 && (Nat.beq u.n j.sz && (Nat.beq i.knd 3 && !j.zero.isEmpty))))
        (match decVals H u (parts.toList.map fun x => ρ x.2) with
        | some (xs, used) => cond (nodupB used) (.ret (.c (.slw nm), (nm, some (.rows u i.el xs)) :: gone used)) .no
        | none => .no) .no
      | _, _ => .no
    | none => .no
  | .makeSlice t l c =>
    match ti P t, ρ l, ρ c with
    | some i, .c (.nu .i64 n), .c (.nu .i64 m) =>
      match ti P i.el, tyOf P 5 i.el with
      | some j, some u =>
        match decO u j.zero with
        | some z => cond (Nat.beq u.n j.sz && (Nat.beq i.knd 3 && !j.zero.isEmpty)) (.chk (decide (0 ≤ n ∧ n ≤ m ∧ m ≤ 4611686018427387904 ∧ (j.by_ : Int) * m ≤ 140737488355328)) (.ret (.c (.slw nm), [(nm, some (.rows u i.el (List.replicate n.toNat z)))]))) .no
        | none => .no
      | _, _ => .no
    | _, _, _ => .no
  | .load t a =>
    match ti P t with
    | some i =>
      match ρ a with
      | .c (.ptr c j) => (match H c with | some (.box _ cs) => (match partV i.agg i.sz j cs with | some v => .ret (v, []) | none => .no) | _ => .no)
      | .c (.rp z t x j) => (match partV i.agg i.sz j (cellsR z t x) with | some v => .ret (v, []) | none => .no)
      | .c (.ep c q j) => (match H c with
        | some (.rows t _ xs) => (match partV i.agg i.sz j (cellsR 0 t (xs.getD q t.z)) with | some v => cond (flat t || !v.cells.any isRo) (.ret (v, [])) .no | none => .no)
        | _ => .no)
      | _ => .no
    | none => .no
  | .store t a x =>
    match ti P t with
    | some i =>
      let v := (ρ x).cells
      cond (Nat.beq v.length i.sz && (!Nat.beq i.sz 0 && !v.any isDeadC)) (match ρ a with
        | .c (.ptr c j) => (match H c with | some (.box ty cs) => cond (Nat.ble (j + v.length) cs.length) (.ret (.tup [], [(c, some (.box ty (setAt j v cs)))])) .no | _ => .no)
        | .c (.ep c q j) => (match H c with
          | some (.rows t e xs) =>
            (match ownCs H v with
            | some (v', used) => (match decO t (setAt j v' (cellsO t (xs.getD q t.z))) with
              | some y => cond (nodupB (c :: used) && Nat.ble (j + v.length) t.n) (.ret (.tup [], (c, some (.rows t e (xs.set q y))) :: gone used)) .no
              | none => .no)
            | none => .no)
          | some (.hol t e xs i j2 n) =>
            (match ownCs H v, leafTy t j2 with
            | some ([y'], used), some (_, u) => (match leafOf y' u with
              | some ys => cond (Nat.beq j j2 && nodupB (c :: used)) (.chk (Nat.beq q i) (.ret (.tup [], (c, some (.rows t e (xs.set i (leafSet t (xs.getD i t.z) j2 u ys)))) :: gone used))) .no
              | none => .no)
            | _, _ => .no)
          | _ => .no)
        | _ => .no) .no
    | none => .no
  | .call c => (match c.callee with | .builtin b => builtinE P nm H b (c.args.toList.map ρ) c.argTypes.toList | _ => .no)
  | _ => .no
where
  sel (n i : Nat) : List Cell → Option Val
    | [] => none
    | [x] => some (.c x)
    | x :: r => match sel n (i + 1) r with | some y => some (mergeV (Nat.beq n i) (.c x) y) | none => none
  bnd (lo hi : Option Operand) (n : Nat) (f : Nat → Nat → Res Upd) : Res Upd :=
    match (match hi with | some o => (match ρ o with | .c (.nu _ h) => some (some h) | _ => none) | none => some none : Option (Option Int)),
          (match lo with | some o => (match ρ o with | .c (.nu _ l) => some (some l) | _ => none) | none => some none : Option (Option Int)) with
    | some none, some none => f 0 n
    | some (some h), some none => .chk (decide (0 ≤ h ∧ h ≤ (n : Int))) (f 0 h.toNat)
    | some none, some (some l) => .chk (decide (0 ≤ l ∧ l ≤ (n : Int))) (f l.toNat n)
    | some (some h), some (some l) => .chk (decide (0 ≤ l ∧ l ≤ h ∧ h ≤ (n : Int))) (f l.toNat h.toNat)
    | _, _ => .no
  caps : List Val → Option (List Nat)
    | [] => some []
    | .c (.ptr c 0) :: r => (match caps r with | some cs => some (c :: cs) | none => none)
    | _ => none
  fillS (fs : List (Nat × Nat × Bool)) : List (Nat × Val) → List Cell → Option (List Cell)
    | [], cs => some cs
    | (f, v) :: r, cs => match fs[f]? with
      | some (off, sz, _) => cond (Nat.beq v.cells.length sz && (Nat.ble (off + sz) cs.length && (!Nat.beq sz 0 && !v.cells.any isDeadC))) (fillS fs r (setAt off v.cells cs)) none
      | none => none


/-! ### 6. Calls: what is handed over, what comes back -/
/-- how a slice is handed over: to be read, to be written, for good -/
inductive Md where
  | rd | bk | mv
structure Con (R : Type) where
  modes : List Md         -- for each argument: how a slice is handed over
  run : List Val → (List Val → List Val → Option R) → Option R

/-- handed over to be read -/
def lendC (H : Nat → Option Chunk) : Cell → Option Cell
  | .slw c => match H c with | some (.rows t e xs) => some (.ro 0 t e xs) | _ => none
  | .sl c off len => match H c with | some (.rows t e xs) => some (.ro 0 t e ((xs.drop off).take len)) | _ => none
  | .ro z t e xs => some (.ro (z + 1) t e xs)
  | .rp z t x j => some (.rp (z + 1) t x j)
  | .rn _ _ _ _ => none
  | .ptr _ _ => none
  | .ep _ _ _ => none
  | .own _ _ _ => none
  | .mov _ _ _ => none
  | .fn f cs => match cs with | [] => some (.fn f []) | _ :: _ => none
  | x => some x
def lendCs (H : Nat → Option Chunk) : List Cell → Option (List Cell)
  | [] => some []
  | x :: xs => match lendC H x, lendCs H xs with | some y, some ys => some (y :: ys) | _, _ => none
/-- handed over to be written -/
def lendW (H : Nat → Option Chunk) : Cell → Option (Cell × List Nat)
  | .ro z t e xs => some (.ro (z + 1) t e xs, [])
  | .rp z t x j => some (.rp (z + 1) t x j, [])
  | x => ownC H x
def lendWs (H : Nat → Option Chunk) : List Cell → Option (List Cell × List Nat)
  | [] => some ([], [])
  | x :: xs => match lendW H x, lendWs H xs with | some (y, a), some (ys, b) => some (y :: ys, a ++ b) | _, _ => none

/-- one argument: what is handed over, the chunks that go with it, is it one that comes back -/
structure Lent where
  v : Val
  ids : List Nat
  rd : List Nat
  back : Bool
def refC : Cell → List Nat
  | .ptr c _ => [c]
  | .ep c _ _ => [c]
  | .sl c _ _ => [c]
  | .slw c => [c]
  | .fn _ cs => cs
  | _ => []
def movC : Cell → Cell
  | .own t e xs => .mov t e xs
  | x => x
def isOwn : Cell → Bool
  | .own _ _ _ => true
  | _ => false
/-- a whole row is handed over to be written; all else to be read -/
def lendB (H : Nat → Option Chunk) : Cell → Option (Cell × List Nat)
  | .sl _ _ _ => none
  | x => lendW H x
def lendBs (H : Nat → Option Chunk) : List Cell → Option (List Cell × List Nat)
  | [] => some ([], [])
  | x :: xs => match lendB H x, lendBs H xs with | some (y, a), some (ys, b) => some (y :: ys, a ++ b) | _, _ => none
def lend1 (H : Nat → Option Chunk) (m : Md) : Val → Option Lent
  | .c x =>
    match x with
    | .ptr c 0 => (match H c with
      | some (.box ty cs) => (match lendWs H cs with | some (ys, ids) => some ⟨.bx ty ys, c :: ids, [], true⟩ | none => none)
      | _ => none)
    | x =>
      match m with
      | .rd => (match lendC H x with | some y => some ⟨.c y, [], refC x, false⟩ | none => none)
      | .bk => (match lendB H x with | some (y, ids) => some ⟨.c y, ids, [], isOwn y⟩ | none => none)
      | .mv => (match lendW H x with | some (y, ids) => some ⟨.c (movC y), ids, [], false⟩ | none => none)
  | .agg xs =>
    match m with
    | .rd => (match lendCs H xs with | some ys => some ⟨.agg ys, [], xs.flatMap refC, false⟩ | none => none)
    | .bk => (match lendBs H xs with | some (ys, ids) => some ⟨.agg ys, ids, [], ys.any isOwn⟩ | none => none)
    | .mv => (match lendWs H xs with | some (ys, ids) => some ⟨.agg (ys.map movC), ids, [], false⟩ | none => none)
  | _ => none
def lend (H : Nat → Option Chunk) : List Md → List Val → Option (List Lent)
  | _, [] => some []
  | [], v :: vs => match lend1 H .rd v, lend H [] vs with | some x, some xs => some (x :: xs) | _, _ => none
  | m :: ms, v :: vs => match lend1 H m v, lend H ms vs with | some x, some xs => some (x :: xs) | _, _ => none

/-- owned things become chunks -/
def instC (nm : Nat) : Cell → Cell × List (Nat × Option Chunk) × Nat
  | .own t e xs => (.slw nm, [(nm, some (.rows t e xs))], nm + 1)
  | .mov t e xs => (.slw nm, [(nm, some (.rows t e xs))], nm + 1)
  | x => (x, [], nm)
def instCs (nm : Nat) : List Cell → List Cell × List (Nat × Option Chunk) × Nat
  | [] => ([], [], nm)
  | x :: xs =>
    let a := instC nm x
    let b := instCs a.2.2 xs
    (a.1 :: b.1, a.2.1 ++ b.2.1, b.2.2)
def inst1 (nm : Nat) : Val → Val × List (Nat × Option Chunk) × Nat
  | .c x => let a := instC nm x; (.c a.1, a.2.1, a.2.2)
  | .agg xs => let a := instCs nm xs; (.agg a.1, a.2.1, a.2.2)
  | .bx ty xs => let a := instCs (nm + 1) xs; (.c (.ptr nm 0), (nm, some (.box ty a.1)) :: a.2.1, a.2.2)
  | .tup vs => (.c .dead, [], nm)
def insts (nm : Nat) : List Val → List Val × List (Nat × Option Chunk) × Nat
  | [] => ([], [], nm)
  | x :: xs =>
    let a := inst1 nm x
    let b := insts a.2.2 xs
    (a.1 :: b.1, a.2.1 ++ b.2.1, b.2.2)

/-- what came from the callee, as the caller knows it -/
def unC : Cell → Option Cell
  | .ro z t e xs => match z with | 0 => none | y + 1 => some (.ro y t e xs)
  | .rp z t x j => match z with | 0 => none | y + 1 => some (.rp y t x j)
  | .ptr _ _ => none
  | .ep _ _ _ => none
  | .sl _ _ _ => none
  | .slw _ => none
  | .rn _ _ _ _ => none
  | .mov _ _ _ => none
  | .fn _ _ => none
  | x => some x
def unCs : List Cell → Option (List Cell)
  | [] => some []
  | x :: xs => match unC x, unCs xs with | some y, some ys => some (y :: ys) | _, _ => none
def unV : Val → Option Val
  | .c x => match unC x with | some y => some (.c y) | none => none
  | .agg xs => match unCs xs with | some ys => some (.agg ys) | none => none
  | .bx ty xs => match unCs xs with | some ys => some (.bx ty ys) | none => none
  | .tup _ => none
def unVs : List Val → Option (List Val)
  | [] => some []
  | x :: xs => match unV x, unVs xs with | some y, some ys => some (y :: ys) | _, _ => none

/-- rows that come back -/
def backCs : List Cell → List Nat → List Cell → Option (List (Nat × Option Chunk))
  | [], ids, ys => (match ids, ys with | [], [] => some [] | _, _ => none)
  | x :: xs, ids, ys =>
    match ys with
    | [] => none
    | y :: ys =>
      match x with
      | .own t0 _ _ => (match y, ids with
        | .own t e zs, c :: ids => (match backCs xs ids ys with | some r => cond (Nat.beq t.n t0.n) (some ((c, some (.rows t e zs)) :: r)) none | none => none)
        | _, _ => none)
      | _ => backCs xs ids ys
/-- what comes back in an argument's place: its chunks anew -/
def back1 (nm : Nat) (l : Lent) (o : Val) : Option (List (Nat × Option Chunk) × Nat) :=
  match o with
  | .bx ty xs => (match l.v, l.ids with
    | .bx _ _, c :: rest => (match unCs xs with | some ys => let a := instCs nm ys; some ((c, some (.box ty a.1)) :: (gone rest ++ a.2.1), a.2.2) | none => none)
    | _, _ => none)
  | .c x => (match l.v with
    | .c x0 => (match backCs [x0] l.ids [x] with | some r => some (r, nm) | none => none)
    | _ => none)
  | .agg xs => (match l.v with
    | .agg xs0 => (match backCs xs0 l.ids xs with | some r => some (r, nm) | none => none)
    | _ => none)
  | .tup _ => none
def backs (nm : Nat) : List Lent → List Val → Option (List (Nat × Option Chunk) × Nat)
  | [], [] => some ([], nm)
  | l :: ls, outs =>
    cond l.back (match outs with
      | o :: os => (match back1 nm l o with
        | some a => (match backs a.2 ls os with | some b => some (a.1 ++ b.1, b.2) | none => none)
        | none => none)
      | [] => none) (match backs nm ls outs with | some b => some (gone l.ids ++ b.1, b.2) | none => none)
  | [], _ :: _ => none

def isBack : Val → Bool
  | .bx _ _ => true
  | .c x => isOwn x
  | .agg xs => xs.any isOwn
  | .tup _ => false
def packRes : List Val → Val
  | [] => .tup []
  | v :: vs => match vs with | [] => v | w :: ws => .tup (v :: w :: ws)

def disj (xs ys : List Nat) : Bool := xs.all fun x => !ys.any (Nat.beq x)
def callE {R : Type} (c : Con R) (nm : Nat) (H : Nat → Option Chunk) (args : List Val) (k : Upd → Nat → Option R) : Option R :=
  match lend H c.modes args with
  | none => none
  | some ls =>
    cond (nodupB (ls.flatMap (·.ids)) && (disj (ls.flatMap (·.rd)) (ls.flatMap (·.ids)) && (ls.flatMap (·.ids)).all fun c => Nat.blt c nm)) (c.run (ls.map (·.v)) fun res outs =>
      match backs nm ls outs with
      | none => none
      | some (b, nm') =>
        match unVs res with
        | none => none
        | some rs =>
          let a := insts nm' rs
          k (packRes a.1, b ++ a.2.1) a.2.2) none

/-! ### 7. Code -/
inductive Ex where
  | normal | ret | exit (id : Nat)

def maskOf (l : List Nat) : Nat := l.foldl (fun m t => m ||| (1 <<< t)) 0
def opUses (o : Op) : List Nat := o.operands.toList.filterMap fun | .tmp t => some t | _ => none
def liveOps (all : Array Oper) : List Oper → Nat → Nat
  | [], out => out
  | o :: r, out =>
    let l := liveOps all r out
    let l := match o.dst with | some d => cond (l.testBit d) (l - 1 <<< d) l | none => l
    let g := match o.guard with | some (j, _) => (match (all[j]?).bind (·.dst) with | some d => 1 <<< d | none => 0) | none => 0
    l ||| maskOf (opUses o.op) ||| g
def liveC (ret : Nat) : Code → Nat → List (Nat × Nat) → Nat
  | .region _ ops _, out, _ => liveOps ops ops.toList out
  | .seq a b, out, ex => liveC ret a (liveC ret b out ex) ex
  | .cond c x y, out, ex => maskOf (match c with | .tmp t => [t] | _ => []) ||| liveC ret x out ex ||| liveC ret y out ex
  | .block id b, out, ex => liveC ret b out ((id, out) :: ex)
  | .loop b, _, ex => liveC ret b (liveC ret b (liveC ret b 0 ex) ex) ex
  | .exit id, _, ex => match look ex id with | some m => m | none => 0
  | .scope b, out, ex => liveC ret b out ex
  | .ret, _, _ => ret
  | .skip, out, _ => out
  | .label _, out, _ => out
  | _, _, _ => 0

def bits : Nat → Nat → Nat → List Nat
  | 0, _, _ => []
  | f + 1, i, m => cond (Nat.beq (m % 2) 1) (i :: bits f (i + 1) (m / 2)) (bits f (i + 1) (m / 2))

def refV : Val → List Nat
  | .c x => refC x
  | .agg xs => xs.flatMap refC
  | .bx _ xs => xs.flatMap refC
  | .tup _ => []
def refK : Option Chunk → List Nat
  | some (.box _ xs) => xs.flatMap refC
  | some (.hol _ _ _ _ _ n) => [n]
  | _ => []
def reach (st : St) : Nat → List Nat → List Nat → List Nat
  | 0, _, acc => acc
  | _, [], acc => acc
  | f + 1, c :: r, acc => cond (acc.any (Nat.beq c)) (reach st f r acc) (match st.chunk c with
    | some k => reach st f (refK (some k) ++ r) (acc ++ [c])
    | none => reach st f r acc)
def posOf (order : List Nat) (c : Nat) : Option Nat := go 0 order
where
  go (i : Nat) : List Nat → Option Nat
    | [] => none
    | x :: r => cond (Nat.beq x c) (some i) (go (i + 1) r)
def renC (o : List Nat) : Cell → Cell
  | .ptr c j => match posOf o c with | some d => .ptr d j | none => .dead
  | .ep c i j => match posOf o c with | some d => .ep d i j | none => .dead
  | .sl c a l => match posOf o c with | some d => .sl d a l | none => .dead
  | .slw c => match posOf o c with | some d => .slw d | none => .dead
  | .fn f cs => match renL o cs with | some ds => .fn f ds | none => .dead
  | x => x
where
  renL (o : List Nat) : List Nat → Option (List Nat)
    | [] => some []
    | c :: r => match posOf o c, renL o r with | some d, some ds => some (d :: ds) | _, _ => none
def renV (o : List Nat) : Val → Val
  | .c x => .c (renC o x)
  | .agg xs => .agg (xs.map (renC o))
  | .bx ty xs => .bx ty (xs.map (renC o))
  | .tup _ => .c .dead
def renK (o : List Nat) : Option Chunk → Option Chunk
  | some (.box ty xs) => some (.box ty (xs.map (renC o)))
  | some (.hol t e xs i j n) => (match posOf o n with | some d => some (.hol t e xs i j d) | none => none)
  | x => x
def canonHp (st : St) (o : List Nat) : Nat → List Nat → List (Nat × Option Chunk)
  | _, [] => []
  | i, c :: r => (i, renK o (st.chunk c)) :: canonHp st o (i + 1) r
def isDead : Val → Bool
  | .c .dead => true
  | .tup _ => true
  | _ => false
def keepT (st : St) : List Nat → List (Nat × Val)
  | [] => []
  | t :: r => let v := st.get t; cond (isDead v) (keepT st r) ((t, v) :: keepT st r)
/-- what is live, spelled in one way -/
def canon0 (mask : Nat) (st : St) : St :=
  let ks := keepT st (bits 400 0 mask)
  let o := reach st 400 ((ks.flatMap fun x => refV x.2) ++ st.pin.flatMap refV) []
  ⟨ks.map fun x => (x.1, renV o x.2), canonHp st o 0 o, o.length, st.pin.map (renV o)⟩
/-- the slice is put back -/
def close1 (st : St) (c : Nat) : St :=
  match st.chunk c with
  | some (.hol t e xs i j n) =>
    (match st.chunk n, leafTy t j with
    | some (.rows u _ ys), some (_, u') => (match castL u u' ys with
      | some zs => cond (Nat.beq c n) st { st with hp := (c, some (.rows t e (xs.set i (leafSet t (xs.getD i t.z) j u' zs)))) :: (n, none) :: st.hp }
      | none => st)
    | _, _ => st)
  | _ => st
def refSt (st : St) (n : Nat) : Bool := (st.tm.any fun x => (refV x.2).any (Nat.beq n)) || ((st.pin.any fun x => (refV x).any (Nat.beq n)) || st.hp.any fun x => match x.2 with | some (.box _ xs) => (xs.flatMap refC).any (Nat.beq n) | _ => false)
def holesOf (st : St) : List (Nat × Option Chunk) → List Nat
  | [] => []
  | (c, k) :: r => match k with
    | some (.hol _ _ _ _ _ n) => cond (refSt st n) (holesOf st r) (c :: holesOf st r)
    | _ => holesOf st r
def canon (mask : Nat) (st : St) : St :=
  let s := canon0 mask st
  match holesOf s s.hp with
  | [] => s
  | c :: r => canon0 mask ((c :: r).foldl close1 s)
def hasHol (st : St) : Bool := st.hp.any fun x => match x.2 with | some (.hol ..) => true | _ => false

section
variable {R : Type} (P : Program) (Γ : Nat → Option (Con R))

def upd (st : St) (d : Option Nat) (n : Nat) (u : Upd) : St :=
  { tm := match d with | some d => (d, u.1) :: st.tm | none => st.tm, hp := u.2 ++ st.hp, nx := n, pin := st.pin }

def memB : Op → Bool
  | .store .. => true
  | .alloc .. => true
  | .box .. => true
  | .buildSlice .. => true
  | .makeSlice .. => true
  | .call c => (match c.callee with | .builtin b => (match b with | .append => true | _ => false) | _ => true)
  | .convert _ d _ => kndIs P d 3
  | _ => false

def callVals (st : St) (c : Call) (cs : List Nat) : List Val := c.args.toList.map st.ev ++ cs.map fun c => .c (.ptr c 0)

def evOp (o : Oper) (st : St) (k : Upd → Nat → Option R) : Option R :=
  match o.op with
  | .call c =>
    (match c.callee with
    | .value f =>
      (match st.ev f with
      | .c (.fn g cs) => (match Γ g with
        | some cn => callE cn st.nx st.chunk (callVals st c cs) k
        | none => none)
      | _ => none)
    | .builtin b => (prim P st.nx st.ev st.chunk (.call c)).k fun u => k u (cond (memB P (.call c)) (st.nx + 1) st.nx)
    | .invoke _ _ => none)
  | op => (prim P st.nx st.ev st.chunk op).k fun u => k u (cond (memB P op) (st.nx + 1) st.nx)

/-- an operation under its guard; what is not wanted leaves 'nothing' -/
def evG (all : Array Oper) (o : Oper) (st : St) (k : Bool → Upd → Nat → Option R) : Option R :=
  match o.guard with
  | none => evOp P Γ o st (k true)
  | some (j, want) =>
    match (all[j]?).bind (·.dst) with
    | some d =>
      (match st.get d with
      | .c (.bo g) => cond g (cond want (evOp P Γ o (st.put (some d) (.c (.bo true))) (k true)) (k false (.tup [], []) st.nx))
          (cond want (k false (.tup [], []) st.nx) (evOp P Γ o (st.put (some d) (.c (.bo false))) (k true)))
      | .tup [] => k false (.tup [], []) st.nx
      | _ => none)
    | none => none
/-- the guard's answer is known from here on -/
def settle (all : Array Oper) (o : Oper) (want : Bool) (st : St) : St :=
  match o.guard with
  | none => st
  | some (j, w) =>
    match (all[j]?).bind (·.dst) with
    | some d => (match st.get d with | .c (.bo _) => st.put (some d) (.c (.bo (cond want w (!w)))) | _ => st)
    | none => st

/-- a slice is taken out of a row's element -/
def holeE (o : Oper) (st : St) : Option Upd :=
  match o.guard, o.op with
  | none, .load t a => cond (kndIs P t 3) (match st.ev a with
    | .c (.ep c q j) => (match st.chunk c with
      | some (.rows t' e xs) => cond (flat t') none (match leafTy t' j with
        | some (e', u) => (match leafGet t' (xs.getD q t'.z) j u with
          | some ys => some (.c (.slw st.nx), [(st.nx, some (.rows u e' ys)), (c, some (.hol t' e xs q j st.nx))])
          | none => none)
        | none => none)
      | _ => none)
    | _ => none) none
  | _, _ => none
def evOps (all : Array Oper) : List Oper → St → (St → Option R) → Option R
  | [], st, k => k st
  | o :: r, st, k => match holeE P o st with
    | some u => evOps all r (upd st o.dst (st.nx + 1) u) k
    | none => evG P Γ all o st fun b u n => evOps all r (upd (settle all o b st) o.dst n u) k

/-! #### any order -/
structure Itm where
  o : Oper
  t : List Nat
  w : List Nat
  m : Bool
/-- which operations come before: bits -/
def ancs : List Nat → List Oper → List Nat
  | tab, [] => tab
  | tab, o :: r => ancs (tab ++ [ancOf tab o.after.toList]) r
where
  ancOf (tab : List Nat) : List Edge → Nat
    | [] => 0
    | e :: es => ancOf tab es ||| cond (Region.binds .any e) (1 <<< e.on ||| tab.getD e.on 0) 0
def indep (ops : Array Oper) (x y : Itm) : Bool :=
  x.o.apart ops y.o && (disj x.t y.w && (disj x.w y.t && (disj x.w y.w && !(x.m && y.m))))
/-- may an operation look into memory? -/
def looksB : Op → Bool
  | .move _ => false
  | .assign _ => false
  | .pick _ _ _ => false
  | .binOp _ _ _ _ _ => false
  | .unOp _ _ _ => false
  | .nilCheck _ => false
  | .extract _ _ => false
  | .field _ _ _ => false
  | .fieldAddr _ _ _ => false
  | _ => true
/-- the chunks that an operation looks at -/
def touches (st : St) (o : Oper) : List Nat :=
  match o.op with
  | .call c =>
    (match c.callee with
    | .value f =>
      (match st.ev f with
      | .c (.fn g cs) => (callVals st c cs).flatMap fun v => refs2 st v
      | _ => [])
    | _ => o.op.operands.toList.flatMap fun x => refV (st.ev x))
  | op => cond (looksB op) (op.operands.toList.flatMap fun x => refV (st.ev x)) []
where
  refs2 (st : St) (v : Val) : List Nat := refV v ++ (match v with | .c (.ptr c 0) => (match st.chunk c with | some k => refK (some k) | none => []) | _ => [])
def okItm (ops : Array Oper) (an : Nat) (y : Itm) : Nat → List Itm → Bool
  | _, [] => true
  | i, x :: r => (an.testBit i || indep ops x y) && okItm ops an y (i + 1) r
def evAny (all : Array Oper) (tab : List Nat) : Nat → List Oper → List Itm → St → (St → Option R) → Option R
  | _, [], _, st, k => k st
  | i, o :: r, done, st, k =>
    evG P Γ all o st fun b u n =>
      let y : Itm := cond b ⟨o, touches st o, u.2.map (·.1), memB P o.op⟩ ⟨o, [], [], false⟩
      cond (okItm all (tab.getD i 0) y 0 done && o.after.toList.all fun e => !Region.binds .any e || Nat.blt e.on i) (evAny all tab (i + 1) r (done ++ [y]) (upd (settle all o b st) o.dst n u) k) none

/-- what stands for a loop -/
inductive Loc where
  | t (n : Nat) | a (n j : Nat) | b (c j : Nat)
structure Wd where
  l : Loc
  t : Ty
  e : TypeId
structure LCon (R : Type) where
  wid : List Wd
  peel : Bool
  run : Nat → St → (Ex → St → Option R) → Option R

def isNil : Cell → Bool
  | .nil => true
  | _ => false
def cellAt (xs : List Cell) (j : Nat) : Cell := match xs[j]? with | some x => x | none => .dead
/-- a nil slice as a row without elements; a part of a row as a row -/
def reown (st : St) (w : Wd) : Cell → Option (Cell × List (Nat × Option Chunk))
  | .nil => some (.slw st.nx, [(st.nx, some (.rows w.t w.e []))])
  | .sl c off len => (match st.chunk c with
    | some (.rows t e xs) => some (.slw st.nx, [(st.nx, some (.rows t e ((xs.drop off).take len))), (c, none)])
    | _ => none)
  | _ => none
def widen1 (st : St) (w : Wd) : St :=
  match w.l with
  | .t n => (match st.get n with
    | .c x => (match reown st w x with | some (y, u) => ⟨(n, .c y) :: st.tm, u ++ st.hp, st.nx + 1, st.pin⟩ | none => st)
    | _ => st)
  | .a n j => (match st.get n with
    | .agg xs => (match reown st w (cellAt xs j) with | some (y, u) => ⟨(n, .agg (setAt j [y] xs)) :: st.tm, u ++ st.hp, st.nx + 1, st.pin⟩ | none => st)
    | _ => st)
  | .b c j => (match st.chunk c with
    | some (.box ty xs) => (match reown st w (cellAt xs j) with | some (y, u) => ⟨st.tm, (c, some (.box ty (setAt j [y] xs))) :: (u ++ st.hp), st.nx + 1, st.pin⟩ | none => st)
    | _ => st)
def head (m : Nat) (ws : List Wd) (st : St) : St :=
  match ws with
  | [] => canon m st
  | _ :: _ => canon m (ws.foldl widen1 (canon m st))

def plain : Code → Bool
  | .region _ ops _ => ops.all fun o => o.guard.isNone
  | .skip => true
  | .label _ => true
  | _ => false

def exM (ex : List (Nat × Nat)) (j : Nat) : Nat := match look ex j with | some m => m | none => 0

def evC (N : Nat) (Λ : List (Nat × LCon R)) (ret : Nat) : Code → Nat → Nat → List (Nat × Nat) → St → (Ex → St → Option R) → Option R
  | .skip, _, _, _, st, k => k .normal st
  | .label _, _, _, _, st, k => k .normal st
  | .ret, _, _, _, st, k => k .ret st
  | .exit id, _, _, _, st, k => k (.exit id) st
  | .region _ ops draw, _, _, _, st, k => cond draw (evAny P Γ ops (ancs [] ops.toList) 0 ops.toList [] st fun st' => k .normal st') (evOps P Γ ops ops.toList st fun st' => k .normal st')
  | .seq a b, p, out, ex, st, k =>
    evC N Λ ret a (2 * p) (liveC ret b out ex) ex st fun
      | .normal, st' => evC N Λ ret b (2 * p + 1) out ex (cond (plain a && !hasHol st') st' (canon (liveC ret b out ex) st')) k
      | e, st' => k e st'
  | .cond c x y, p, out, ex, st, k =>
    match st.ev c with
    | .c (.bo q) =>
      cond q (evC N Λ ret x (2 * p) out ex (match c with | .tmp t => st.put (some t) (.c (.bo true)) | _ => st) k)
        (evC N Λ ret y (2 * p + 1) out ex (match c with | .tmp t => st.put (some t) (.c (.bo false)) | _ => st) k)
    | _ => none
  | .block id b, p, out, ex, st, k =>
    evC N Λ ret b (2 * p) out ((id, out) :: ex) st fun
      | .exit j, st' => cond (Nat.beq id j) (k .normal st') (k (.exit j) st')
      | e, st' => k e st'
  | .loop b, p, _, ex, st, k =>
    match look Λ p with
    | some L =>
      cond L.peel
        (evC N Λ ret b (2 * p) (liveC ret b (liveC ret b (liveC ret b 0 ex) ex) ex) ex (canon (liveC ret b (liveC ret b (liveC ret b 0 ex) ex) ex) st) fun
          | .normal, st' => L.run N (head (liveC ret b (liveC ret b (liveC ret b 0 ex) ex) ex) L.wid st') k
          | .ret, st' => k .ret (canon ret st')
          | .exit j, st' => k (.exit j) (canon (exM ex j) st'))
        (L.run N (head (liveC ret b (liveC ret b (liveC ret b 0 ex) ex) ex) L.wid st) k)
    | none => none
  | .scope b, p, out, ex, st, k => evC N Λ ret b (2 * p) out ex st k
  | _, _, _, _, _, _ => none

/-- what a loop's stand-in owes: its rounds are the body's -/
def LSpec (N : Nat) (Λ : List (Nat × LCon R)) (ret : Nat) (b : Code) (p m : Nat) (ex : List (Nat × Nat)) (L : LCon R) : Prop :=
  ∀ n st K r, L.run n st K = some r → ∃ n', n = n' + 1 ∧
    evC P Γ N Λ ret b (2 * p) m ex st (fun | .normal, st' => L.run n' (head m L.wid st') K | .ret, st' => K .ret (canon ret st') | .exit j, st' => K (.exit j) (canon (exM ex j) st')) = some r
def LOk (N : Nat) (Λ : List (Nat × LCon R)) (ret : Nat) : Code → Nat → Nat → List (Nat × Nat) → Prop
  | .seq a b, p, out, ex => LOk N Λ ret a (2 * p) (liveC ret b out ex) ex ∧ LOk N Λ ret b (2 * p + 1) out ex
  | .cond _ x y, p, out, ex => LOk N Λ ret x (2 * p) out ex ∧ LOk N Λ ret y (2 * p + 1) out ex
  | .block id b, p, out, ex => LOk N Λ ret b (2 * p) out ((id, out) :: ex)
  | .loop b, p, _, ex => LOk N Λ ret b (2 * p) (liveC ret b (liveC ret b (liveC ret b 0 ex) ex) ex) ex ∧
      ∀ L, look Λ p = some L → LSpec P Γ N Λ ret b p (liveC ret b (liveC ret b (liveC ret b 0 ex) ex) ex) ex L
  | .scope b, p, out, ex => LOk N Λ ret b (2 * p) out ex
  | _, _, _, _ => True

/-! ### 8. A function -/
def retMask (fn : Func) : Nat := maskOf (fn.results.toList.map fun | .tmp t => t | .cell t _ => t)

def resOf (st : St) : List ResultVar → Option (List Val)
  | [] => some []
  | .tmp t :: r => match resOf st r with | some vs => some (st.get t :: vs) | none => none
  | .cell a t :: r =>
    match ti P t, st.get a, resOf st r with
    | some i, .c (.ptr c j), some vs => (match st.chunk c with
      | some (.box _ cs) => (match partV i.agg i.sz j cs with | some v => some (v :: vs) | none => none)
      | _ => none)
    | _, _, _ => none

/-- a result (or what is left in an argument) as it is handed back -/
def outC (H : Nat → Option Chunk) : Cell → Option (Cell × List Nat)
  | .ro z t e xs => some (.ro z t e xs, [])
  | .rp z t x j => some (.rp z t x j, [])
  | x => ownC H x
def outCs (H : Nat → Option Chunk) : List Cell → Option (List Cell × List Nat)
  | [] => some ([], [])
  | x :: xs => match outC H x, outCs H xs with | some (y, a), some (ys, b) => some (y :: ys, a ++ b) | _, _ => none
def outV (H : Nat → Option Chunk) : Val → Option (Val × List Nat)
  | .c x =>
    (match x with
    | .ptr c j => (match j with
      | 0 => (match H c with
        | some (.box ty cs) => (match outCs H cs with | some (ys, ids) => some (.bx ty ys, c :: ids) | none => none)
        | _ => none)
      | _ + 1 => none)
    | x => match outC H x with | some (y, ids) => some (.c y, ids) | none => none)
  | .agg xs => match outCs H xs with | some (ys, ids) => some (.agg ys, ids) | none => none
  | _ => none
def outVs (H : Nat → Option Chunk) : List Val → Option (List Val × List Nat)
  | [] => some ([], [])
  | x :: xs => match outV H x, outVs H xs with | some (y, a), some (ys, b) => some (y :: ys, a ++ b) | _, _ => none

/-- the arguments that are handed back, as they were instantiated -/
def backArgs : List Val → List Val → List Val
  | a :: as, v :: vs => cond (isBack a) (v :: backArgs as vs) (backArgs as vs)
  | _, _ => []
def numT : Nat → List Val → List (Nat × Val)
  | _, [] => []
  | i, v :: vs => (i, v) :: numT (i + 1) vs

/-- nil slices among results are rows without elements -/
def nzCs : Ty → List Cell → List Cell
  | .pr a b, cs => nzCs a (cs.take a.n) ++ nzCs b (cs.drop a.n)
  | .sl e t, cs => (match cs with
    | [x] => cond (isNil x) [.own t e []] cs
    | _ => cs)
  | _, cs => cs
def nzV (P : Program) (t : TypeId) : Val → Val
  | .c x => (match tyOf P 12 t with
    | some y => (match nzCs y [x] with | [z] => .c z | _ => .c x)
    | none => .c x)
  | .agg xs => (match tyOf P 12 t with | some y => .agg (nzCs y xs) | none => .agg xs)
  | v => v
def nzVs (P : Program) : List TypeId → List Val → List Val
  | t :: ts, v :: vs => nzV P t v :: nzVs P ts vs
  | _, vs => vs
def nzO (P : Program) : Val → Val
  | .bx t xs => (match tyOf P 12 t with | some y => .bx t (nzCs y xs) | none => .bx t xs)
  | v => v

def evF (N : Nat) (Λ : List (Nat × LCon R)) (fn : Func) (args : List Val) (k : List Val → List Val → Option R) : Option R :=
  let a := insts 0 args
  match fn.body with
  | none => none
  | some c =>
    evC P Γ N Λ (retMask fn) c 1 (retMask fn) [] ⟨numT 0 a.1, a.2.1, a.2.2, backArgs args a.1⟩ fun
      | .exit _, _ => none
      | _, st =>
        match resOf P st fn.results.toList with
        | none => none
        | some rs =>
          match outVs st.chunk rs, outVs st.chunk st.pin with
          | some (r, x), some (o, y) => cond (nodupB (x ++ y)) (k (nzVs P fn.resultTypes.toList r) (o.map (nzO P))) none
          | _, _ => none
end

end Go.Proofs.YthpklbpdchckkaaEv

namespace Go.Proofs.YthpklbpdchckkaaEv
open Go.RowKit (Below)
set_option linter.unusedVariables false

/-! ### 1. What stays -/
structure Fr (F : Nat → Prop) (w w' : World) : Prop where
  os : w'.os = w.os
  tape : w'.tape = w.tape
  output : w'.output = w.output
  size : w.heap.size ≤ w'.heap.size
  block : ∀ b, b < w.heap.size → ¬ F b → w'.heap[b]? = w.heap[b]?
  th : ∀ b o n, b < w.heap.size → w.there b o n → w'.there b o n

theorem there_of_block {w w' : World} {b : Nat} (h : w'.heap[b]? = w.heap[b]?) {o n : Nat} (ht : w.there b o n) : w'.there b o n := fun j hj => by
  have := ht j hj
  simp only [World.cell?, World.frozen?] at this ⊢
  rw [h]; exact this
theorem Fr.clean {F : Nat → Prop} {w w' : World} (h1 : w'.os = w.os) (h2 : w'.tape = w.tape) (h3 : w'.output = w.output) (h4 : w.heap.size ≤ w'.heap.size) (h5 : ∀ b, b < w.heap.size → w'.heap[b]? = w.heap[b]?) : Fr F w w' :=
  ⟨h1, h2, h3, h4, fun b hb _ => h5 b hb, fun b o n hb ht => there_of_block (h5 b hb) ht⟩
theorem Fr.refl (F : Nat → Prop) (w : World) : Fr F w w := Fr.clean rfl rfl rfl (Nat.le_refl _) fun _ _ => rfl
theorem Fr.mono {F G : Nat → Prop} {w w' : World} (h : Fr F w w') (hFG : ∀ b, b < w.heap.size → F b → G b) : Fr G w w' :=
  ⟨h.os, h.tape, h.output, h.size, fun b hb hg => h.block b hb fun hf => hg (hFG b hb hf), h.th⟩
theorem Fr.trans {F : Nat → Prop} {w w1 w2 : World} (h : Fr F w w1) {G : Nat → Prop} (k : Fr G w1 w2) (hG : ∀ b, b < w.heap.size → G b → F b) : Fr F w w2 :=
  ⟨k.os.trans h.os, k.tape.trans h.tape, k.output.trans h.output, Nat.le_trans h.size k.size,
   fun b hb hf => (k.block b (Nat.lt_of_lt_of_le hb h.size) fun hg => hf (hG b hb hg)).trans (h.block b hb hf),
   fun b o n hb ht => k.th b o n (Nat.lt_of_lt_of_le hb h.size) (h.th b o n hb ht)⟩
theorem Fr.drew (F : Nat → Prop) (w : World) : Fr F w w.drew := Fr.clean rfl rfl rfl (Nat.le_refl _) fun _ _ => rfl
theorem Fr.alloc (F : Nat → Prop) (w : World) (o : Obj) : Fr F w (w.alloc o) :=
  Fr.clean rfl rfl rfl (by rw [World.size_alloc]; omega) fun b hb => by simp only [World.alloc, Array.getElem?_push, if_neg (Nat.ne_of_lt hb)]
theorem setCell_block (w : World) (a : Addr) (v : Value) (b : Nat) (hb : b ≠ a.block) : (w.setCell a v).heap[b]? = w.heap[b]? := by
  simp only [World.setCell]
  rw [Array.getElem?_modify, if_neg (fun e => hb e.symm)]
theorem setCell_size (w : World) (a : Addr) (v : Value) : (w.setCell a v).heap.size = w.heap.size := by simp [World.setCell]
theorem Fr.setCells (g : Nat) : ∀ (vs : List Value) (o : Nat) (w : World), Fr (· = g) w (w.setCells g o vs)
  | [], _, w => Fr.refl _ w
  | v :: r, o, w => by
    have h : Fr (· = g) w (w.setCell ⟨g, o, none⟩ v) := ⟨rfl, rfl, rfl, by rw [setCell_size]; exact Nat.le_refl _, fun b _ hb => setCell_block w _ v b hb, fun b q n _ ht => World.there_setCells (vs := [v]) ht g o⟩
    exact h.trans (Fr.setCells g r (o + 1) (w.setCell ⟨g, o, none⟩ v)) fun b _ h => h
theorem Fr.cell {F : Nat → Prop} {w w' : World} (h : Fr F w w') {b : Nat} (hb : b < w.heap.size) (hf : ¬ F b) (o : Nat) : w'.cell? ⟨b, o, none⟩ = w.cell? ⟨b, o, none⟩ := by
  simp only [World.cell?, h.block b hb hf]
theorem Fr.frozen {F : Nat → Prop} {w w' : World} (h : Fr F w w') {b : Nat} (hb : b < w.heap.size) (hf : ¬ F b) (o : Nat) : w'.frozen? ⟨b, o, none⟩ = w.frozen? ⟨b, o, none⟩ := by
  simp only [World.frozen?, h.block b hb hf]
theorem Fr.rangeAt {F : Nat → Prop} {w w' : World} (h : Fr F w w') {b o : Nat} (hb : b < w.heap.size) (hf : ¬ F b) {vs : List Value} (hr : w.rangeAt b o vs) : w'.rangeAt b o vs :=
  fun j v hv => by rw [h.cell hb hf]; exact hr j v hv
theorem Fr.there {F : Nat → Prop} {w w' : World} (h : Fr F w w') {b o n : Nat} (hb : b < w.heap.size) (hf : ¬ F b) (hr : w.there b o n) : w'.there b o n :=
  fun j hj => by rw [h.cell hb hf, h.frozen hb hf]; exact hr j hj
theorem Fr.below {w w' : World} (h : Fr (fun _ => False) w w') : Below w.heap.size w w' :=
  ⟨h.os, h.tape, h.output, h.size, fun b hb => h.block b hb id⟩

/-! ### 2. Typed values in memory -/
def OwR {α : Type} (rel : α → List Value → List Nat → Prop) : List α → List Value → List Nat → Prop
  | [], us, fp => us = [] ∧ fp = []
  | x :: xs, us, fp => ∃ a b f g, us = a ++ b ∧ fp = f ++ g ∧ rel x a f ∧ OwR rel xs b g

/-- a slice value that owns its row -/
def OwS {α : Type} (w : World) (e : TypeId) (sz : Nat) (rel : α → List Value → List Nat → Prop) (xs : List α) (v : Value) (fp : List Nat) : Prop :=
  (v = .slice none 0 0 ∧ xs = [] ∧ fp = []) ∨
  ∃ g o cap top us f, v = .slice (some ⟨g, o, none⟩) xs.length cap ∧ xs.length ≤ cap ∧ o + cap * sz ≤ top ∧ w.there g 0 top ∧ g < w.heap.size ∧
    w.rangeAt g o us ∧ OwR rel xs us f ∧ fp = g :: f

def OwC (w : World) : (t : Ty) → t.D → List Value → List Nat → Prop
  | .int k, x, us, fp => us = [.int k x] ∧ fp = []
  | .bool, x, us, fp => us = [.bool x] ∧ fp = []
  | .str, x, us, fp => us = [.string x] ∧ fp = []
  | .unit, _, us, fp => us = [] ∧ fp = []
  | .pr a b, x, us, fp => ∃ p q f g, us = p ++ q ∧ fp = f ++ g ∧ OwC w a x.1 p f ∧ OwC w b x.2 q g
  | .sl e t, xs, us, fp => ∃ v, us = [v] ∧ OwS w e t.n (OwC w t) xs v fp

/-- a slice value that is read, in blocks of Z -/
def RdS {α : Type} (w : World) (Z : Nat → Prop) (sz : Nat) (rel : α → List Value → Prop) (xs : List α) (v : Value) : Prop :=
  (v = .slice none 0 0 ∧ xs = []) ∨
  ∃ a cap, v = .slice (some a) xs.length cap ∧ xs.length ≤ cap ∧ (xs ≠ [] → a.spot = none ∧ Z a.block) ∧ ∀ i x, xs[i]? = some x → ∃ us, rel x us ∧ w.rangeAt a.block (a.off + i * sz) us

def RdC (w : World) (Z : Nat → Prop) : (t : Ty) → t.D → List Value → Prop
  | .int k, x, us => us = [.int k x]
  | .bool, x, us => us = [.bool x]
  | .str, x, us => us = [.string x]
  | .unit, _, us => us = []
  | .pr a b, x, us => ∃ p q, us = p ++ q ∧ RdC w Z a x.1 p ∧ RdC w Z b x.2 q
  | .sl _ t, xs, us => ∃ v, us = [v] ∧ RdS w Z t.n (RdC w Z t) xs v

theorem OwC.len {w : World} : ∀ {t : Ty} {x : t.D} {us : List Value} {fp : List Nat}, OwC w t x us fp → us.length = t.n
  | .int _, _, _, _, h | .bool, _, _, _, h | .str, _, _, _, h | .unit, _, _, _, h => by rw [h.1]; rfl
  | .pr _ _, _, _, _, ⟨_, _, _, _, rfl, _, h1, h2⟩ => by rw [List.length_append, OwC.len h1, OwC.len h2]; rfl
  | .sl _ _, _, _, _, ⟨_, rfl, _⟩ => rfl
theorem RdC.len {w : World} {Z : Nat → Prop} : ∀ {t : Ty} {x : t.D} {us : List Value}, RdC w Z t x us → us.length = t.n
  | .int _, _, _, h | .bool, _, _, h | .str, _, _, h | .unit, _, _, h => by rw [show _ = _ from h]; rfl
  | .pr _ _, _, _, ⟨_, _, rfl, h1, h2⟩ => by rw [List.length_append, RdC.len h1, RdC.len h2]; rfl
  | .sl _ _, _, _, ⟨_, rfl, _⟩ => rfl

theorem RdC.mono {w w' : World} {Z Z' : Nat → Prop} (hZ : ∀ b, Z b → Z' b) (hw : ∀ b o us, Z b → w.rangeAt b o us → w'.rangeAt b o us) :
    ∀ {t : Ty} {x : t.D} {us : List Value}, RdC w Z t x us → RdC w' Z' t x us
  | .int _, _, _, h | .bool, _, _, h | .str, _, _, h | .unit, _, _, h => h
  | .pr _ _, _, _, ⟨p, q, e, h1, h2⟩ => ⟨p, q, e, RdC.mono hZ hw h1, RdC.mono hZ hw h2⟩
  | .sl _ t, xs, _, ⟨v, e, h⟩ => ⟨v, e, h.imp id fun ⟨a, cap, e, hl, hs, hr⟩ => ⟨a, cap, e, hl, fun hn => ⟨(hs hn).1, hZ _ (hs hn).2⟩, fun i x hx =>
      have ⟨us, h1, h2⟩ := hr i x hx
      ⟨us, RdC.mono hZ hw h1, hw _ _ _ (hs (by rintro rfl; simp at hx)).2 h2⟩⟩⟩

theorem OwR.mono {α : Type} {rel rel' : α → List Value → List Nat → Prop} : ∀ {xs : List α} {us : List Value} {fp : List Nat},
    (∀ x a f, (∀ b ∈ f, b ∈ fp) → rel x a f → rel' x a f) → OwR rel xs us fp → OwR rel' xs us fp
  | [], _, _, _, h => h
  | _ :: _, _, _, hr, ⟨a, b, f, g, e1, e2, h1, h2⟩ => ⟨a, b, f, g, e1, e2, hr _ _ _ (fun x hx => by rw [e2]; exact List.mem_append.2 (.inl hx)) h1,
      OwR.mono (fun x p q hq h => hr x p q (fun y hy => by rw [e2]; exact List.mem_append.2 (.inr (hq y hy))) h) h2⟩

theorem OwC.mono {w w' : World} {fp0 : List Nat} (hw : ∀ b ∈ fp0, (∀ o us, w.rangeAt b o us → w'.rangeAt b o us) ∧ (∀ o n, w.there b o n → w'.there b o n) ∧ (b < w.heap.size → b < w'.heap.size)) :
    ∀ {t : Ty} {x : t.D} {us : List Value} {fp : List Nat}, (∀ b ∈ fp, b ∈ fp0) → OwC w t x us fp → OwC w' t x us fp
  | .int _, _, _, _, _, h | .bool, _, _, _, _, h | .str, _, _, _, _, h | .unit, _, _, _, _, h => h
  | .pr _ _, _, _, _, hs, ⟨p, q, f, g, e1, e2, h1, h2⟩ =>
    ⟨p, q, f, g, e1, e2, OwC.mono hw (fun b hb => hs b (by rw [e2]; exact List.mem_append.2 (.inl hb))) h1, OwC.mono hw (fun b hb => hs b (by rw [e2]; exact List.mem_append.2 (.inr hb))) h2⟩
  | .sl _ t, xs, _, fp, hs, ⟨v, e, h⟩ => by
    refine ⟨v, e, h.imp id ?_⟩
    rintro ⟨g, o, cap, top, us, f, e1, e2, e3, h1, h2, h3, h4, rfl⟩
    have hg := hw g (hs g (List.mem_cons_self ..))
    exact ⟨g, o, cap, top, us, f, e1, e2, e3, hg.2.1 _ _ h1, hg.2.2 h2, hg.1 _ _ h3,
      OwR.mono (fun x a q hq hx => OwC.mono hw (fun b hb => hs b (List.mem_cons_of_mem _ (hq b hb))) hx) h4, rfl⟩

theorem OwR.append {α : Type} {rel : α → List Value → List Nat → Prop} : ∀ {xs ys : List α} {us vs : List Value} {f g : List Nat},
    OwR rel xs us f → OwR rel ys vs g → OwR rel (xs ++ ys) (us ++ vs) (f ++ g)
  | [], _, _, _, _, _, ⟨rfl, rfl⟩, h => h
  | _ :: _, _, _, _, _, _, ⟨a, b, p, q, e1, e2, h1, h2⟩, h => ⟨a, b ++ _, p, q ++ _, by rw [e1, List.append_assoc], by rw [e2, List.append_assoc], h1, OwR.append h2 h⟩

theorem OwR.len {w : World} {t : Ty} : ∀ {xs : List t.D} {us : List Value} {fp : List Nat}, OwR (OwC w t) xs us fp → us.length = xs.length * t.n
  | [], _, _, ⟨rfl, _⟩ => by simp
  | _ :: xs, _, _, ⟨_, _, _, _, rfl, _, h1, h2⟩ => by rw [List.length_append, OwC.len h1, OwR.len h2, List.length_cons, Nat.succ_mul, Nat.add_comm]

end Go.Proofs.YthpklbpdchckkaaEv

namespace Go.Proofs.YthpklbpdchckkaaEv
set_option linter.unusedVariables false

/-- a value's cells, where the slice at cell j is only said to be v -/
def OwH (w : World) : (t : Ty) → t.D → Nat → Value → List Value → List Nat → Prop
  | .pr a b, x, j, v, us, fp => ∃ p q f g, us = p ++ q ∧ fp = f ++ g ∧
      ((j < a.n ∧ OwH w a x.1 j v p f ∧ OwC w b x.2 q g) ∨ (a.n ≤ j ∧ OwC w a x.1 p f ∧ OwH w b x.2 (j - a.n) v q g))
  | .sl _ _, _, j, v, us, fp => j = 0 ∧ us = [v] ∧ fp = []
  | _, _, _, _, _, _ => False

theorem kbeq_self (k : IntKind) : kbeq k k = true := by cases k <;> rfl
theorem Ty.beq_self : ∀ t : Ty, t.beq t = true
  | .int k => kbeq_self k
  | .bool | .str | .unit => rfl
  | .pr a b => by simp only [Ty.beq, Ty.beq_self a, Ty.beq_self b]; rfl
  | .sl e t => by simp only [Ty.beq, Ty.beq_self t, Nat.beq_refl]; rfl
theorem castL_self {t : Ty} {xs ys : List t.D} (h : castL t t xs = some ys) : ys = xs := by
  simp only [castL] at h
  split at h
  · injection h with h; exact h.symm
  · cases h
theorem castL_ty {t u : Ty} {xs : List t.D} {ys : List u.D} (h : castL t u xs = some ys) : t = u := by
  simp only [castL] at h
  split at h
  · rename_i hb; exact Ty.beq_eq hb
  · cases h

/-- the slice is taken out -/
theorem OwC.out {w : World} {u : Ty} : ∀ {t : Ty} {x : t.D} {j : Nat} {e : TypeId} {us : List Value} {fp : List Nat} {ys : List u.D}, leafTy t j = some (e, u) → leafGet t x j u = some ys → OwC w t x us fp →
    ∃ v f1 f f2, fp = f1 ++ f ++ f2 ∧ us[j]? = some v ∧ OwH w t x j v us (f1 ++ f2) ∧ OwS w e u.n (OwC w u) ys v f
  | .int _, _, _, _, _, _, _, h, _, _ | .bool, _, _, _, _, _, _, h, _, _ | .str, _, _, _, _, _, _, h, _, _ | .unit, _, _, _, _, _, _, h, _, _ => by cases h
  | .pr a b, x, j, e, us, fp, ys, ht, hg, ⟨p, q, f, g, e1, e2, h1, h2⟩ => by
    simp only [leafTy, leafGet] at ht hg
    have hp := h1.len
    cases hb : Nat.blt j a.n
    · rw [hb] at ht hg
      have hj : a.n ≤ j := Nat.le_of_not_lt fun hh => by rw [show Nat.blt j a.n = true from Nat.ble_eq.mpr hh] at hb; cases hb
      obtain ⟨v, f1, m, f2, k1, k2, k3, k4⟩ := OwC.out (t := b) ht hg h2
      refine ⟨v, f ++ f1, m, f2, by rw [e2, k1]; simp only [List.append_assoc], ?_, ⟨p, q, f, f1 ++ f2, e1, by simp only [List.append_assoc], .inr ⟨hj, h1, k3⟩⟩, k4⟩
      rw [e1, List.getElem?_append_right (by omega), hp]; exact k2
    · rw [hb] at ht hg
      have hj : j < a.n := Nat.ble_eq.mp hb
      obtain ⟨v, f1, m, f2, k1, k2, k3, k4⟩ := OwC.out (t := a) ht hg h1
      refine ⟨v, f1, m, f2 ++ g, by rw [e2, k1]; simp only [List.append_assoc], ?_, ⟨p, q, f1 ++ f2, g, e1, by simp only [List.append_assoc], .inl ⟨hj, k3, h2⟩⟩, k4⟩
      rw [e1, List.getElem?_append_left (by omega)]; exact k2
  | .sl e' t, xs, j, e, us, fp, ys, ht, hg, ⟨v, e1, h⟩ => by
    simp only [leafTy, leafGet] at ht hg
    cases hb : Nat.beq j 0
    · rw [hb] at ht; cases ht
    · rw [hb] at ht hg
      have hj : j = 0 := Nat.eq_of_beq_eq_true hb
      injection ht with ht; injection ht with h1 h2; subst h1; subst h2
      have := castL_self hg; subst this; subst hj
      exact ⟨v, [], fp, [], by simp, by rw [e1]; rfl, ⟨rfl, e1, rfl⟩, h⟩

/-- a slice is put in -/
theorem OwH.put {w : World} {u : Ty} : ∀ {t : Ty} {x : t.D} {j : Nat} {e : TypeId} {v : Value} {us : List Value} {fp f : List Nat} {ys : List u.D}, leafTy t j = some (e, u) → OwH w t x j v us fp → OwS w e u.n (OwC w u) ys v f →
    ∃ f1 f2, fp = f1 ++ f2 ∧ OwC w t (leafSet t x j u ys) us (f1 ++ f ++ f2)
  | .int _, _, _, _, _, _, _, _, _, h, _, _ | .bool, _, _, _, _, _, _, _, _, h, _, _ | .str, _, _, _, _, _, _, _, _, h, _, _ | .unit, _, _, _, _, _, _, _, _, h, _, _ => by cases h
  | .pr a b, x, j, e, v, us, fp, f, ys, ht, ⟨p, q, g, g', e1, e2, h⟩, hs => by
    simp only [leafTy] at ht
    simp only [leafSet]
    rcases h with ⟨hj, h1, h2⟩ | ⟨hj, h1, h2⟩
    · have hb : Nat.blt j a.n = true := Nat.ble_eq.mpr hj
      rw [hb] at ht ⊢
      obtain ⟨f1, f2, k1, k2⟩ := OwH.put (t := a) ht h1 hs
      exact ⟨f1, f2 ++ g', by rw [e2, k1]; simp only [List.append_assoc], p, q, f1 ++ f ++ f2, g', e1, by simp only [List.append_assoc], k2, h2⟩
    · have hb : Nat.blt j a.n = false := Bool.eq_false_iff.mpr fun hh => by have := Nat.ble_eq.mp hh; omega
      rw [hb] at ht ⊢
      obtain ⟨f1, f2, k1, k2⟩ := OwH.put (t := b) ht h2 hs
      exact ⟨g ++ f1, f2, by rw [e2, k1]; simp only [List.append_assoc], p, q, g, f1 ++ f ++ f2, e1, by simp only [List.append_assoc], h1, k2⟩
  | .sl e' t, xs, j, e, v, us, fp, f, ys, ht, ⟨hj, e1, e2⟩, hs => by
    subst hj
    simp only [leafTy] at ht
    injection ht with ht; injection ht with h1 h2; subst h1; subst h2
    refine ⟨[], [], by rw [e2]; rfl, v, e1, ?_⟩
    have : castL t t ys = some ys := by simp only [castL]; rw [dif_pos (Ty.beq_self t)]
    simp only [leafSet, this]
    simpa using hs

theorem OwH.len {w : World} : ∀ {t : Ty} {x : t.D} {j : Nat} {v : Value} {us : List Value} {fp : List Nat}, OwH w t x j v us fp → us.length = t.n ∧ j < t.n
  | .int _, _, _, _, _, _, h | .bool, _, _, _, _, _, h | .str, _, _, _, _, _, h | .unit, _, _, _, _, _, h => nomatch h
  | .pr a b, _, _, _, _, _, ⟨_, _, _, _, rfl, _, h⟩ => by
    rw [List.length_append]
    show _ = a.n + b.n ∧ _ < a.n + b.n
    rcases h with ⟨hj, h1, h2⟩ | ⟨hj, h1, h2⟩
    · rw [h1.len.1, h2.len]; exact ⟨rfl, by omega⟩
    · have := h2.len.2
      rw [h1.len, h2.len.1]; exact ⟨rfl, by omega⟩
  | .sl _ _, _, _, _, _, _, ⟨hj, rfl, _⟩ => by subst hj; exact ⟨rfl, Nat.one_pos⟩
/-- another slice value at the place -/
theorem OwH.turn {w : World} : ∀ {t : Ty} {x : t.D} {j : Nat} {v v' : Value} {us : List Value} {fp : List Nat}, OwH w t x j v us fp → OwH w t x j v' (us.set j v') fp
  | .int _, _, _, _, _, _, _, h | .bool, _, _, _, _, _, _, h | .str, _, _, _, _, _, _, h | .unit, _, _, _, _, _, _, h => nomatch h
  | .pr a b, x, j, v, v', us, fp, ⟨p, q, f, g, e1, e2, h⟩ => by
    rcases h with ⟨hj, h1, h2⟩ | ⟨hj, h1, h2⟩
    · refine ⟨p.set j v', q, f, g, ?_, e2, .inl ⟨hj, h1.turn, h2⟩⟩
      rw [e1, List.set_append_left _ _ (by rw [h1.len.1]; exact hj)]
    · refine ⟨p, q.set (j - a.n) v', f, g, ?_, e2, .inr ⟨hj, h1, h2.turn⟩⟩
      rw [e1, List.set_append_right _ _ (by rw [h1.len]; exact hj), h1.len]
  | .sl _ _, _, j, v, v', us, fp, ⟨hj, e1, e2⟩ => by
    subst hj; subst e1; exact ⟨rfl, rfl, e2⟩

/-- rows: one element apart -/
theorem OwR.apart {α : Type} {rel : α → List Value → List Nat → Prop} : ∀ {xs : List α} {us : List Value} {fp : List Nat} (i : Nat) {x : α}, xs[i]? = some x → OwR rel xs us fp →
    ∃ a u b fa fm fb, us = a ++ u ++ b ∧ fp = fa ++ fm ++ fb ∧ OwR rel (xs.take i) a fa ∧ rel x u fm ∧ OwR rel (xs.drop (i + 1)) b fb
  | [], _, _, i, x, h, _ => by simp at h
  | y :: ys, us, fp, 0, x, h, ⟨a, b, f, g, e1, e2, h1, h2⟩ => by
    simp at h; subst h
    exact ⟨[], a, b, [], f, g, by rw [e1]; rfl, by rw [e2]; rfl, ⟨rfl, rfl⟩, h1, h2⟩
  | y :: ys, us, fp, i + 1, x, h, ⟨a, b, f, g, e1, e2, h1, h2⟩ => by
    obtain ⟨a', u, b', fa, fm, fb, k1, k2, k3, k4, k5⟩ := OwR.apart i (by simpa using h) h2
    exact ⟨a ++ a', u, b', f ++ fa, fm, fb, by rw [e1, k1]; simp only [List.append_assoc], by rw [e2, k2]; simp only [List.append_assoc], ⟨a, a', f, fa, rfl, rfl, h1, k3⟩, k4, k5⟩
theorem OwR.join {α : Type} {rel : α → List Value → List Nat → Prop} : ∀ {xs : List α} {a u b : List Value} {fa fm fb : List Nat} (i : Nat) {x : α}, i < xs.length → OwR rel (xs.take i) a fa → rel x u fm → OwR rel (xs.drop (i + 1)) b fb →
    OwR rel (xs.set i x) (a ++ u ++ b) (fa ++ fm ++ fb)
  | [], _, _, _, _, _, _, i, _, h, _, _, _ => by simp at h
  | y :: ys, a, u, b, fa, fm, fb, 0, x, _, h0, h1, h2 => by
    obtain ⟨e1, e2⟩ : a = [] ∧ fa = [] := h0
    subst e1; subst e2
    exact ⟨u, b, fm, fb, rfl, rfl, h1, h2⟩
  | y :: ys, a, u, b, fa, fm, fb, i + 1, x, h, ⟨a1, a2, f1, f2, e1, e2, h1, h2⟩, k1, k2 => by
    have ih := OwR.join (xs := ys) i (by simpa using h) h2 k1 k2
    exact ⟨a1, a2 ++ u ++ b, f1, f2 ++ fm ++ fb, by rw [e1]; simp only [List.append_assoc], by rw [e2]; simp only [List.append_assoc], h1, ih⟩
theorem OwH.mono {w w' : World} {fp0 : List Nat} (hw : ∀ b ∈ fp0, (∀ o us, w.rangeAt b o us → w'.rangeAt b o us) ∧ (∀ o n, w.there b o n → w'.there b o n) ∧ (b < w.heap.size → b < w'.heap.size)) :
    ∀ {t : Ty} {x : t.D} {j : Nat} {v : Value} {us : List Value} {fp : List Nat}, (∀ b ∈ fp, b ∈ fp0) → OwH w t x j v us fp → OwH w' t x j v us fp
  | .int _, _, _, _, _, _, _, h | .bool, _, _, _, _, _, _, h | .str, _, _, _, _, _, _, h | .unit, _, _, _, _, _, _, h => nomatch h
  | .pr a b, x, j, v, us, fp, hs, ⟨p, q, f, g, e1, e2, h⟩ => by
    have hf : ∀ b ∈ f, b ∈ fp0 := fun b hb => hs b (by rw [e2]; exact List.mem_append.2 (.inl hb))
    have hg : ∀ b ∈ g, b ∈ fp0 := fun b hb => hs b (by rw [e2]; exact List.mem_append.2 (.inr hb))
    exact ⟨p, q, f, g, e1, e2, h.imp (fun ⟨hj, h1, h2⟩ => ⟨hj, OwH.mono hw hf h1, OwC.mono hw hg h2⟩) (fun ⟨hj, h1, h2⟩ => ⟨hj, OwC.mono hw hf h1, OwH.mono hw hg h2⟩)⟩
  | .sl _ _, _, _, _, _, _, _, h => h
end Go.Proofs.YthpklbpdchckkaaEv

namespace Go.Proofs.YthpklbpdchckkaaEv
open Go.RowKit (Below)
set_option linter.unusedVariables false

structure Pl where
  g : Nat
  o : Nat
  top : Nat
  len : Nat
  sz : Nat
  rl : Bool

structure Cx where
  w0 : World
  F0 : Nat → Prop
  Z : Nat → Nat → Prop
  hZ : ∀ z b, Z z b → b < w0.heap.size ∧ ¬ F0 b
  pv : List Value

abbrev PlM := Nat → Option Pl

def SlV (p : Pl) (off len : Nat) (v : Value) : Prop :=
  (v = .slice none 0 0 ∧ len = 0 ∧ p.rl = false) ∨
  ∃ o cap, v = .slice (some ⟨p.g, o, none⟩) len cap ∧ len ≤ cap ∧ o + cap * p.sz ≤ p.top ∧ (0 < len → o = p.o + off * p.sz ∧ off + len ≤ p.len) ∧ p.rl = true

inductive All2 {α β : Type} (r : α → β → Prop) : List α → List β → Prop where
  | nil : All2 r [] []
  | cons {x y xs ys} (h : r x y) (t : All2 r xs ys) : All2 r (x :: xs) (y :: ys)

def CR (X : Cx) (pl : PlM) : Cell → Value → Prop
  | .bo x, v => v = .bool x
  | .nu k n, v => v = .int k n
  | .sr x, v => v = .string x
  | .kv u, v => v = u ∧ u.oneCell' = true
  | .nil, v => v = .slice none 0 0
  | .dead, _ => True
  | .ptr c j, v => ∃ p, pl c = some p ∧ v = .pointer (some ⟨p.g, j, none⟩)
  | .ep c i j, v => ∃ p, pl c = some p ∧ i < p.len ∧ v = .pointer (some ⟨p.g, p.o + i * p.sz + j, none⟩)
  | .sl c off len, v => ∃ p, pl c = some p ∧ SlV p off len v
  | .slw c, v => ∃ p, pl c = some p ∧ SlV p 0 p.len v
  | .ro z t _ xs, v => RdS X.w0 (X.Z z) t.n (RdC X.w0 (X.Z z) t) xs v
  | .rn z t _ xs, v => ∃ a cap, v = .slice (some a) xs.length cap ∧ RdS X.w0 (X.Z z) t.n (RdC X.w0 (X.Z z) t) xs v
  | .rp z t x j, v => ∃ g o us, v = .pointer (some ⟨g, o + j, none⟩) ∧ X.Z z g ∧ X.w0.rangeAt g o us ∧ RdC X.w0 (X.Z z) t x us
  | .own _ _ _, _ => False
  | .mov _ _ _, _ => False
  | .fn f cs, v => ∃ us : Array Value, v = .func (.func f) #[] us ∧ All2 (fun c u => ∃ p, pl c = some p ∧ u = .pointer (some ⟨p.g, 0, none⟩)) cs us.toList
  | .ifc, v => ∃ t u, v = .iface t u

def VR1 (X : Cx) (pl : PlM) : Val → Value → Prop
  | .c x, v => CR X pl x v
  | .agg xs, v => ∃ us : Array Value, v = .agg us ∧ All2 (CR X pl) xs us.toList
  | _, _ => False
def VR (X : Cx) (pl : PlM) : Val → Value → Prop
  | .tup vs, v => ∃ us : Array Value, v = .tuple us ∧ All2 (VR1 X pl) vs us.toList
  | x, v => VR1 X pl x v

abbrev FpM := Nat → List Nat

def KR (X : Cx) (pl : PlM) (fp : FpM) (w : World) (c : Nat) : Chunk → Prop
  | .box _ xs => ∃ p us, pl c = some p ∧ fp c = [p.g] ∧ w.rangeAt p.g 0 us ∧ w.there p.g 0 us.length ∧ All2 (CR X pl) xs us
  | .rows t _ xs => ∃ p us f, pl c = some p ∧ p.len = xs.length ∧ p.sz = t.n ∧
      ((xs = [] ∧ fp c = [] ∧ f = [] ∧ p.rl = false) ∨ (fp c = p.g :: f ∧ p.o + xs.length * t.n ≤ p.top ∧ w.there p.g 0 p.top ∧ w.rangeAt p.g p.o us ∧ p.rl = true)) ∧ OwR (OwC w t) xs us f

  | .hol t _ xs i j n => ∃ p q v f a u b fa fm fb, pl c = some p ∧ p.len = xs.length ∧ p.sz = t.n ∧ i < xs.length ∧ fp c = p.g :: f ∧ p.o + xs.length * t.n ≤ p.top ∧ w.there p.g 0 p.top ∧ w.rangeAt p.g p.o (a ++ u ++ b) ∧ p.rl = true ∧
      f = fa ++ fm ++ fb ∧ OwR (OwC w t) (xs.take i) a fa ∧ OwH w t (xs.getD i t.z) j v u fm ∧ OwR (OwC w t) (xs.drop (i + 1)) b fb ∧ pl n = some q ∧ SlV q 0 q.len v

def OwnB (st : St) (fp : FpM) (b c : Nat) : Prop := (∃ k, st.chunk c = some k) ∧ b ∈ fp c

structure Inv (X : Cx) (T : Nat) (st : St) (a : Act) (w : World) (pl : PlM) (fp : FpM) : Prop where
  fr : Fr X.F0 X.w0 w
  df : a.defers = []
  sz : a.tmps.size = T
  tm : ∀ t, VR X pl (st.get t) (a.tmps.getD t undef)
  ch : ∀ c k, st.chunk c = some k → KR X pl fp w c k
  lt : ∀ b c, OwnB st fp b c → b < w.heap.size ∧ (b < X.w0.heap.size → X.F0 b)
  nd : ∀ c k, st.chunk c = some k → (fp c).Nodup
  dj : ∀ b c d, OwnB st fp b c → OwnB st fp b d → c = d
  nx : ∀ c, st.nx ≤ c → pl c = none
  pn : All2 (VR X pl) st.pin X.pv

def Rel (X : Cx) (T : Nat) (st : St) (a : Act) (w : World) : Prop := ∃ pl fp, Inv X T st a w pl fp

/-! ### the relations last -/
theorem All2.imp {α β : Type} {r s : α → β → Prop} (h : ∀ x y, r x y → s x y) : ∀ {xs ys}, All2 r xs ys → All2 s xs ys
  | _, _, .nil => .nil
  | _, _, .cons a t => .cons (h _ _ a) (t.imp h)
theorem All2.len {α β : Type} {r : α → β → Prop} : ∀ {xs : List α} {ys : List β}, All2 r xs ys → xs.length = ys.length
  | _, _, .nil => rfl
  | _, _, .cons _ t => by simp [t.len]
theorem All2.get {α β : Type} {r : α → β → Prop} : ∀ {xs : List α} {ys : List β}, All2 r xs ys → ∀ {i : Nat} {x}, xs[i]? = some x → ∃ y, ys[i]? = some y ∧ r x y
  | _, _, .nil, _, _, h => by simp at h
  | _, _, .cons a t, 0, _, h => by simp at h; subst h; exact ⟨_, rfl, a⟩
  | _, _, .cons a t, i + 1, _, h => by simp at h; obtain ⟨y, hy, hr⟩ := t.get h; exact ⟨y, by simpa using hy, hr⟩
theorem All2.append {α β : Type} {r : α → β → Prop} : ∀ {xs : List α} {ys : List β} {xs' ys'}, All2 r xs ys → All2 r xs' ys' → All2 r (xs ++ xs') (ys ++ ys')
  | _, _, _, _, .nil, h => h
  | _, _, _, _, .cons a t, h => .cons a (t.append h)
theorem All2.take {α β : Type} {r : α → β → Prop} : ∀ {xs : List α} {ys : List β} (n : Nat), All2 r xs ys → All2 r (xs.take n) (ys.take n)
  | _, _, 0, _ => by simp; exact .nil
  | _, _, n + 1, .nil => by simp; exact .nil
  | _, _, n + 1, .cons a t => by simp only [List.take_succ_cons]; exact .cons a (t.take n)
theorem All2.drop {α β : Type} {r : α → β → Prop} : ∀ {xs : List α} {ys : List β} (n : Nat), All2 r xs ys → All2 r (xs.drop n) (ys.drop n)
  | _, _, 0, h => h
  | _, _, n + 1, .nil => by simp; exact .nil
  | _, _, n + 1, .cons a t => t.drop n

theorem CR.mono {X : Cx} {pl pl' : PlM} (h : ∀ c p, pl c = some p → pl' c = some p) : ∀ {x : Cell} {v : Value}, CR X pl x v → CR X pl' x v
  | .bo _, _, r | .nu _ _, _, r | .sr _, _, r | .kv _, _, r | .nil, _, r | .dead, _, r | .ro _ _ _ _, _, r | .rn _ _ _ _, _, r | .rp _ _ _ _, _, r | .ifc, _, r => r
  | .ptr _ _, _, ⟨p, e, r⟩ => ⟨p, h _ _ e, r⟩
  | .ep _ _ _, _, ⟨p, e, r⟩ => ⟨p, h _ _ e, r⟩
  | .sl _ _ _, _, ⟨p, e, r⟩ => ⟨p, h _ _ e, r⟩
  | .slw _, _, ⟨p, e, r⟩ => ⟨p, h _ _ e, r⟩
  | .fn _ _, _, ⟨us, e, r⟩ => ⟨us, e, r.imp fun _ _ ⟨p, e, q⟩ => ⟨p, h _ _ e, q⟩⟩
theorem VR1.mono {X : Cx} {pl pl' : PlM} (h : ∀ c p, pl c = some p → pl' c = some p) : ∀ {x : Val} {v : Value}, VR1 X pl x v → VR1 X pl' x v
  | .c _, _, r => CR.mono h r
  | .agg _, _, ⟨us, e, r⟩ => ⟨us, e, r.imp fun _ _ => CR.mono h⟩
theorem VR.mono {X : Cx} {pl pl' : PlM} (h : ∀ c p, pl c = some p → pl' c = some p) : ∀ {x : Val} {v : Value}, VR X pl x v → VR X pl' x v
  | .c _, _, r => CR.mono h r
  | .agg _, _, r => VR1.mono h (x := .agg _) r
  | .tup _, _, ⟨us, e, r⟩ => ⟨us, e, r.imp fun _ _ => VR1.mono h⟩

theorem KR.mono {X : Cx} {pl pl' : PlM} {fp fp' : FpM} {w w' : World} {G : Nat → Prop} (h : ∀ c p, pl c = some p → pl' c = some p) (hw : Fr G w w') {c : Nat} (he : fp' c = fp c) {k : Chunk} (r : KR X pl fp w c k)
    (hfp : ∀ b ∈ fp c, b < w.heap.size ∧ ¬ G b) : KR X pl' fp' w' c k := by
  cases k with
  | box ty xs =>
    obtain ⟨p, us, e, ef, hr, ht, hc⟩ := r
    have hb := hfp p.g (by rw [ef]; exact List.mem_singleton.2 rfl)
    exact ⟨p, us, h _ _ e, he.trans ef, hw.rangeAt hb.1 hb.2 hr, hw.there hb.1 hb.2 ht, hc.imp fun _ _ => CR.mono h⟩
  | rows t e xs =>
    obtain ⟨p, us, f, e1, e2, e3, hh, ho⟩ := r
    have hf : ∀ b ∈ f, b ∈ fp c := by
      rcases hh with ⟨_, _, rfl, _⟩ | ⟨e4, _⟩
      · simp
      · intro b hb; rw [e4]; exact List.mem_cons_of_mem _ hb
    refine ⟨p, us, f, h _ _ e1, e2, e3, ?_, OwR.mono (fun x a q hq hx => OwC.mono (fp0 := fp c) ?_ (fun b hb => hf b (hq b hb)) hx) ho⟩
    · rw [he]
      refine hh.imp id ?_
      rintro ⟨e4, e5, ht, hr, hl⟩
      have hb := hfp p.g (by rw [e4]; exact List.mem_cons_self ..)
      exact ⟨e4, e5, hw.there hb.1 hb.2 ht, hw.rangeAt hb.1 hb.2 hr, hl⟩
    · intro b hb
      have hb := hfp b hb
      exact ⟨fun o us => hw.rangeAt hb.1 hb.2, fun o n => hw.there hb.1 hb.2, fun h => Nat.lt_of_lt_of_le h hw.size⟩
  | hol t e xs i j n =>
    obtain ⟨p, q, v, f, a, u, b, fa, fm, fb, e1, e2, e3, e4, e5, e6, ht, hr, hl, e7, h1, h2, h3, hq, hv⟩ := r
    have hf : ∀ x ∈ f, x ∈ fp c := fun x hx => by rw [e5]; exact List.mem_cons_of_mem _ hx
    have hb := hfp p.g (by rw [e5]; exact List.mem_cons_self ..)
    have hm : ∀ x ∈ fp c, (∀ o us, w.rangeAt x o us → w'.rangeAt x o us) ∧ (∀ o n, w.there x o n → w'.there x o n) ∧ (x < w.heap.size → x < w'.heap.size) := fun x hx => by
      have hb := hfp x hx
      exact ⟨fun o us => hw.rangeAt hb.1 hb.2, fun o n => hw.there hb.1 hb.2, fun h => Nat.lt_of_lt_of_le h hw.size⟩
    have ha : ∀ x ∈ fa, x ∈ fp c := fun x hx => hf x (by rw [e7]; exact List.mem_append.2 (.inl (List.mem_append.2 (.inl hx))))
    have hn : ∀ x ∈ fm, x ∈ fp c := fun x hx => hf x (by rw [e7]; exact List.mem_append.2 (.inl (List.mem_append.2 (.inr hx))))
    have hc : ∀ x ∈ fb, x ∈ fp c := fun x hx => hf x (by rw [e7]; exact List.mem_append.2 (.inr hx))
    exact ⟨p, q, v, f, a, u, b, fa, fm, fb, h _ _ e1, e2, e3, e4, he.trans e5, e6, hw.there hb.1 hb.2 ht, hw.rangeAt hb.1 hb.2 hr, hl, e7,
      OwR.mono (fun x a q hq hx => OwC.mono (fp0 := fp c) hm (fun b hb => ha b (hq b hb)) hx) h1, OwH.mono hm hn h2, OwR.mono (fun x a q hq hx => OwC.mono (fp0 := fp c) hm (fun b hb => hc b (hq b hb)) hx) h3, h _ _ hq, hv⟩

/-! ### looking up -/
theorem look_append {α : Type} (us hs : List (Nat × α)) (c : Nat) : look (us ++ hs) c = (match look us c with | some x => some x | none => look hs c) := by
  induction us with
  | nil => rfl
  | cons x r ih =>
    obtain ⟨m, v⟩ := x
    simp only [List.cons_append, look]
    cases Nat.beq m c <;> simp [ih]
theorem chunk_upd (st : St) (d : Option Nat) (n : Nat) (u : Upd) (c : Nat) : (upd st d n u).chunk c = (match look u.2 c with | some x => x | none => st.chunk c) := by
  simp only [upd, St.chunk, look_append]
  cases h : look u.2 c with
  | none => rfl
  | some x => cases x <;> rfl
theorem get_upd (st : St) (d : Option Nat) (n : Nat) (u : Upd) (t : Nat) : (upd st d n u).get t = (match d with | some e => cond (Nat.beq e t) u.1 (st.get t) | none => st.get t) := by
  cases d with
  | none => rfl
  | some e =>
    simp only [upd, St.get, look]
    cases Nat.beq e t <;> rfl

theorem VR.dead {X : Cx} {pl : PlM} (v : Value) : VR X pl (.c .dead) v := trivial

theorem getD_put (a : Act) (d t : Nat) (u : Value) (h : d < a.tmps.size) : (a.put (some d) u).tmps.getD t undef = if d = t then u else a.tmps.getD t undef := by
  simp only [Act.put, Array.getD_eq_getD_getElem?, Array.getElem?_setIfInBounds]
  by_cases e : d = t
  · subst e; simp [h]
  · simp [e]
theorem size_put (a : Act) (d : Option Nat) (u : Value) : (a.put d u).tmps.size = a.tmps.size := by cases d <;> simp [Act.put]
theorem defers_put (a : Act) (d : Option Nat) (u : Value) : (a.put d u).defers = a.defers := by cases d <;> rfl

/-- One step: what is written to a temporary, the chunks that are new, gone or turned, and the blocks that were written. -/
theorem Inv.step {X : Cx} {T : Nat} {st : St} {a : Act} {w w' : World} {pl pl' : PlM} {fp fp' : FpM} {G : Nat → Prop} (h : Inv X T st a w pl fp) (d : Option Nat) (n : Nat) (u : Upd) (v : Value)
    (hd : ∀ e, d = some e → e < T) (hn : st.nx ≤ n) (hpl : ∀ c p, pl c = some p → pl' c = some p) (hnew : ∀ c, n ≤ c → pl' c = none) (hfp : ∀ c, look u.2 c = none → fp' c = fp c)
    (hw : Fr G w w') (hG : ∀ b, b < w.heap.size → G b → ∃ c, OwnB st fp b c ∧ look u.2 c ≠ none)
    (hv : VR X pl' u.1 v)
    (hch : ∀ c k, look u.2 c = some (some k) → KR X pl' fp' w' c k ∧ (fp' c).Nodup ∧ ∀ b ∈ fp' c, b < w'.heap.size ∧ (w.heap.size ≤ b ∨ ∃ c', OwnB st fp b c' ∧ look u.2 c' ≠ none))
    (hdj : ∀ b c e k l, look u.2 c = some (some k) → look u.2 e = some (some l) → b ∈ fp' c → b ∈ fp' e → c = e) :
    Inv X T (upd st d n u) (a.put d v) w' pl' fp' := by
  have hold : ∀ c k, look u.2 c = none → st.chunk c = some k → ∀ b ∈ fp c, b < w.heap.size ∧ ¬ G b := by
    intro c k hc hk b hb
    have hlt := h.lt b c ⟨⟨k, hk⟩, hb⟩
    refine ⟨hlt.1, fun hg => ?_⟩
    obtain ⟨c', ho, hne⟩ := hG b hlt.1 hg
    have := h.dj b c c' ⟨⟨k, hk⟩, hb⟩ ho
    subst this
    exact hne hc
  have own : ∀ b c, OwnB (upd st d n u) fp' b c → (∃ k, look u.2 c = some (some k) ∧ b ∈ fp' c) ∨ (look u.2 c = none ∧ OwnB st fp b c) := by
    rintro b c ⟨⟨k, hk⟩, hb⟩
    rw [chunk_upd] at hk
    cases hl : look u.2 c with
    | none => rw [hl] at hk; exact .inr ⟨rfl, ⟨k, hk⟩, by rw [← hfp c hl]; exact hb⟩
    | some x => rw [hl] at hk; subst hk; exact .inl ⟨k, rfl, hb⟩
  refine ⟨h.fr.trans hw fun b hb hg => ?_, by rw [defers_put]; exact h.df, by rw [size_put]; exact h.sz, ?_, ?_, ?_, ?_, ?_, hnew, h.pn.imp fun _ _ => VR.mono hpl⟩
  · obtain ⟨c, ho, _⟩ := hG b (Nat.lt_of_lt_of_le hb h.fr.size) hg
    exact (h.lt b c ho).2 hb
  · intro t
    rw [get_upd]
    cases d with
    | none => exact VR.mono hpl (h.tm t)
    | some e =>
      rw [getD_put _ _ _ _ (by rw [h.sz]; exact hd e rfl)]
      by_cases he : e = t
      · subst he; simpa using hv
      · rw [if_neg he]
        have : Nat.beq e t = false := Bool.eq_false_iff.mpr fun hh => he (Nat.eq_of_beq_eq_true hh)
        simp only [this]
        exact VR.mono hpl (h.tm t)
  · intro c k hk
    rw [chunk_upd] at hk
    cases hl : look u.2 c with
    | none => rw [hl] at hk; exact (h.ch c k hk).mono hpl hw (hfp c hl) (hold c k hl hk)
    | some x => rw [hl] at hk; subst hk; exact (hch c k hl).1
  · intro b c ho
    rcases own b c ho with ⟨k, hl, hb⟩ | ⟨_, ho⟩
    · have hx := (hch c k hl).2.2 b hb
      refine ⟨hx.1, fun hlt => ?_⟩
      rcases hx.2 with hge | ⟨c', ho', _⟩
      · exact absurd hlt (Nat.not_lt.2 (Nat.le_trans h.fr.size hge))
      · exact (h.lt b c' ho').2 hlt
    · have := h.lt b c ho
      exact ⟨Nat.lt_of_lt_of_le this.1 hw.size, this.2⟩
  · intro c k hk
    rw [chunk_upd] at hk
    cases hl : look u.2 c with
    | none => rw [hl] at hk; rw [hfp c hl]; exact h.nd c k hk
    | some x => rw [hl] at hk; subst hk; exact (hch c k hl).2.1
  · intro b c e hc he
    rcases own b c hc with ⟨k, hl, hb⟩ | ⟨hl, ho⟩
    · rcases own b e he with ⟨k', hl', hb'⟩ | ⟨hl', ho'⟩
      · exact hdj b c e k k' hl hl' hb hb'
      · have hx := (hch c k hl).2.2 b hb
        rcases hx.2 with hge | ⟨c', ho2, hne⟩
        · exact absurd (h.lt b e ho').1 (Nat.not_lt.2 hge)
        · have := h.dj b e c' ho' ho2
          subst this
          exact absurd hl' hne
    · rcases own b e he with ⟨k', hl', hb'⟩ | ⟨hl', ho'⟩
      · have hx := (hch e k' hl').2.2 b hb'
        rcases hx.2 with hge | ⟨c', ho2, hne⟩
        · exact absurd (h.lt b c ho).1 (Nat.not_lt.2 hge)
        · have := h.dj b c c' ho ho2
          subst this
          exact absurd hl hne
      · exact h.dj b c e ho ho'

/-- A step that touches no memory. -/
theorem Inv.quiet {X : Cx} {T : Nat} {st : St} {a : Act} {w : World} {pl : PlM} {fp : FpM} (h : Inv X T st a w pl fp) (d : Option Nat) (n : Nat) (x : Val) (v : Value)
    (hd : ∀ e, d = some e → e < T) (hn : st.nx ≤ n) (hv : VR X pl x v) : Inv X T (upd st d n (x, [])) (a.put d v) w pl fp :=
  h.step (G := fun _ => False) d n (x, []) v hd hn (fun _ _ e => e) (fun c hc => h.nx c (Nat.le_trans hn hc)) (fun _ _ => rfl) (Fr.refl _ _) (fun _ _ hg => hg.elim) hv
    (fun c k hk => by simp [look] at hk) (fun b c e k l hk => by simp [look] at hk)

end Go.Proofs.YthpklbpdchckkaaEv

namespace Go.Proofs.YthpklbpdchckkaaEv
open Go.RowKit (Below)
set_option linter.unusedVariables false

def Res.run {α : Type} : Res α → Option α
  | .no => none
  | .ret a => some a
  | .chk c r => match c with | true => r.run | false => none
theorem Res.k_run {α R : Type} : ∀ {r : Res α} {f : α → Option R} {y : R}, r.k f = some y → ∃ u, r.run = some u ∧ f u = some y
  | .no, _, _, h => by cases h
  | .ret a, _, _, h => ⟨a, rfl, h⟩
  | .chk true r, f, y, h => Res.k_run (r := r) h
  | .chk false _, _, _, h => by cases h
theorem Res.run_chk {α : Type} {c : Bool} {r : Res α} {u : α} (h : (Res.chk c r).run = some u) : c = true ∧ r.run = some u := by
  cases c with
  | true => exact ⟨rfl, h⟩
  | false => cases h
theorem Res.run_cond {α : Type} {c : Bool} {r : Res α} {u : α} (h : (cond c r Res.no).run = some u) : c = true ∧ r.run = some u := by
  cases c with
  | true => exact ⟨rfl, h⟩
  | false => cases h
theorem run_pure1 {x : Cell} {u : Upd} (h : (pure1 x).run = some u) : u = (.c x, []) := by
  simp only [pure1, Res.run, Option.some.injEq] at h; exact h.symm

section
variable {X : Cx} {T : Nat} {st : St} {a : Act} {w : World} {pl : PlM} {fp : FpM} {P : Program}

theorem wp_value {o : Oper} {K : Act → World → Prop} {Q : Exit → Act → World → Prop} {v : Value} {w' : World} (h : (execOp a.eval o).run P w = .ok (.value v) w') (hk : K (a.put o.dst v) w') : o.wp P a w K Q := by
  unfold Oper.wp; rw [h]; exact hk
theorem wp_skip1 {o : Oper} {K : Act → World → Prop} {Q : Exit → Act → World → Prop} {w' : World} (h : (execOp a.eval o).run P w = .ok .skip w') (hk : K (a.put o.dst undef) w') : o.wp P a w K Q := by
  unfold Oper.wp; rw [h]; exact hk

theorem ofV_ok (X : Cx) (pl : PlM) : ∀ v : Value, CR X pl (Cell.ofV v) v
  | .bool _ | .int _ _ | .string _ | .slice none 0 0 => rfl
  | .nilFunc | .nilIface | .pointer none => ⟨rfl, rfl⟩
  | .pointer (some _) | .float _ _ | .complex _ _ _ | .slice (some _) _ _ | .slice none (_ + 1) _ | .slice none 0 (_ + 1) | .map _ | .chan _ | .func _ _ _ | .iface _ _ | .agg _ | .tuple _ => trivial
theorem ofVs_ok (X : Cx) (pl : PlM) : ∀ vs : List Value, All2 (CR X pl) (vs.map Cell.ofV) vs
  | [] => .nil
  | v :: r => .cons (ofV_ok X pl v) (ofVs_ok X pl r)
theorem ofVal_ok (X : Cx) (pl : PlM) (v : Value) : VR X pl (Val.ofV v) v := by
  have h := ofV_ok X pl v
  cases v with
  | agg cs => exact ⟨cs, rfl, ofVs_ok X pl cs.toList⟩
  | _ => exact h
theorem ev_ok (h : Inv X T st a w pl fp) : ∀ x : Operand, VR X pl (st.ev x) (a.eval x)
  | .tmp t => h.tm t
  | .const v => ofVal_ok X pl v
  | .func f => ⟨#[], rfl, .nil⟩
  | .global _ => trivial

theorem VR.bo {x : Bool} {v : Value} (h : VR X pl (.c (.bo x)) v) : v = .bool x := h
theorem VR.nu {k : IntKind} {n : Int} {v : Value} (h : VR X pl (.c (.nu k n)) v) : v = .int k n := h
theorem VR.sr {x : ByteArray} {v : Value} (h : VR X pl (.c (.sr x)) v) : v = .string x := h

theorem mergeV_ok {q : Bool} : ∀ {x y : Val} {u v : Value}, VR X pl x u → VR X pl y v → VR X pl (mergeV q x y) (if q then u else v) := by
  have base : ∀ {x y : Val} {u v : Value}, VR X pl x u → VR X pl y v → VR X pl (cond q x y) (if q then u else v) := by
    intro x y u v hx hy; cases q <;> simpa
  intro x y u v hx hy
  unfold mergeV
  split
  · rw [show u = _ from hx, show v = _ from hy]; cases q <;> rfl
  · rename_i k x l y
    cases hk : kbeq k l
    · exact base hx hy
    · have := kbeq_eq hk; subst this
      rw [show u = _ from hx, show v = _ from hy]; cases q <;> rfl
  · rw [show u = _ from hx, show v = _ from hy]; cases q <;> rfl
  · exact base hx hy

/-! ### types -/
theorem ti_spec {t : TypeId} {i : TI} (h : ti P t = some i) : ∃ inf d, P.info? t = some inf ∧ P.underlying t = some d ∧ i.sz = inf.size ∧ i.by_ = inf.bytes ∧
    i.zero = (match inf.zero with | some v => v.cells.toList.map Cell.ofV | none => []) ∧ i.agg = aggB d ∧
    (match d with
      | .int k => i.knd = 1 ∧ i.ik = k
      | .bool => i.knd = 7
      | .string => i.knd = 2
      | .slice e => i.knd = 3 ∧ i.el = e
      | .array n e => i.knd = 4 ∧ i.el = e ∧ i.len = n
      | .pointer e => i.knd = 5 ∧ i.el = e
      | .interface _ => i.knd = 8
      | .struct fs => i.knd = 6 ∧ i.fs = fs.toList.map (fun f => (f.offset, (szAg P f.type).1, (szAg P f.type).2))
      | _ => i.knd = 0) := by
  unfold ti at h
  split at h
  case h_2 => cases h
  rename_i inf d h1 h2
  refine ⟨inf, d, h1, h2, ?_⟩
  cases d <;> (simp only [Option.some.injEq] at h; subst h; first | exact ⟨rfl, rfl, rfl, rfl, rfl⟩ | exact ⟨rfl, rfl, rfl, rfl, rfl, rfl⟩ | exact ⟨rfl, rfl, rfl, rfl, rfl, rfl, rfl⟩ | exact ⟨h1, h2, rfl, rfl, rfl, rfl, rfl⟩ | exact ⟨h1, h2, rfl, rfl, rfl, rfl, rfl, rfl⟩ | exact ⟨h1, h2, rfl, rfl, rfl, rfl, rfl, rfl, rfl⟩)

theorem run_underlying' {t : TypeId} {d : TypeDesc} (h : P.underlying t = some d) (w : World) : (underlying t).run P w = .ok d w := by simp [underlying, program, Sem.run, h]
theorem run_typeInfo' {t : TypeId} {i : TypeInfo} (h : P.info? t = some i) (w : World) : (typeInfo t).run P w = .ok i w := by simp [typeInfo, program, Sem.run, h]
theorem run_sizeOf' {t : TypeId} {i : TypeInfo} (h : P.info? t = some i) (w : World) : (sizeOf t).run P w = .ok i.size w := by simp [sizeOf, run_typeInfo' h]
theorem run_isAgg' {t : TypeId} {d : TypeDesc} (h : P.underlying t = some d) (w : World) : (isAgg t).run P w = .ok (aggB d) w := by
  cases d <;> simp [isAgg, run_underlying' h, aggB]
end

end Go.Proofs.YthpklbpdchckkaaEv

namespace Go.Proofs.YthpklbpdchckkaaEv
open Go.RowKit (Below)
set_option linter.unusedVariables false
set_option linter.unusedSectionVars false

section
variable {X : Cx} {T : Nat} {st : St} {a : Act} {w : World} {pl : PlM} {fp : FpM} {P : Program}

theorem beq_bytes (x y : ByteArray) : (x.toList == y.toList) = decide (x = y) := by
  rw [ByteArray.toList_eq, ByteArray.toList_eq]
  by_cases h : x = y
  · subst h; simp
  · simp [h]; exact fun e => h (ByteArray.ext e)

/-- a value, and nothing else -/
def Gives (X : Cx) (pl : PlM) (P : Program) (w : World) (u : Upd) (s : Sem Value) : Prop := ∃ v, s.run P w = .ok v w ∧ VR X pl u.1 v ∧ u.2 = []

theorem gives1 {x : Cell} {u : Upd} {s : Sem Value} (h : (pure1 x).run = some u) {v : Value} (hs : s.run P w = .ok v w) (hv : CR X pl x v) : Gives X pl P w u s := by
  rw [run_pure1 h]; exact ⟨v, hs, hv, rfl⟩

theorem binInt_ok {op : BinOp} {k : IntKind} {x y : Int} {u : Upd} {t : TypeId} (h : (binInt op k x y).run = some u) (ho : op ≠ .shl) (ho' : op ≠ .shr) :
    Gives X pl P w u (binOp op t (.int k x) (.int k y)) := by
  cases op <;> simp only [binInt] at h <;> first
    | (exact absurd rfl ho)
    | (exact absurd rfl ho')
    | (exact gives1 h (by simp [binOp, Op.intArith, Op.intBits, Op.intCmp, ibits, pure, Pure.pure] <;> rfl) rfl)
    | (obtain ⟨hc, h⟩ := Res.run_chk h
       have hy : ¬ y = 0 := by simpa using hc
       exact gives1 h (by simp only [binOp, Op.intDiv, if_neg hy, ne_eq, not_true_eq_false, if_false]; rfl) rfl)
    | (cases h)

theorem binStr_ok {op : BinOp} {x y : ByteArray} {u : Upd} {t : TypeId} (h : (binStr op x y).run = some u) :
    Gives X pl P w u (binOp op t (.string x) (.string y)) := by
  cases op <;> simp only [binStr] at h <;> first
    | (cases h; done)
    | (obtain ⟨hc, h⟩ := Res.run_chk h
       have hc : x.size + y.size ≤ 1152921504606846976 := of_decide_eq_true hc
       have hn : ¬ (((x.size + y.size : Nat) : Int) > IntKind.i64.max) := by
         have : IntKind.i64.max = 9223372036854775807 := by decide
         omega
       exact gives1 h (by simp only [binOp, Op.stringOp, if_neg hn]; rfl) rfl)
    | (refine gives1 h (v := .bool (decide (x = y))) ?_ rfl
       simp only [binOp, Op.stringOp, beq_bytes]; rfl)
    | (refine gives1 h (v := .bool (!decide (x = y))) ?_ rfl
       simp only [binOp, Op.stringOp, beq_bytes]; rfl)

theorem guard_int (op : BinOp) (t : TypeId) (x y : Operand) (k l : IntKind) (m n : Int) : (eqGuard op t x y (.int k m) (.int l n)).run P w = .ok () w := by cases op <;> rfl
theorem guard_str (op : BinOp) (t : TypeId) (x y : Operand) (m n : ByteArray) : (eqGuard op t x y (.string m) (.string n)).run P w = .ok () w := by cases op <;> rfl
theorem guard_bool (op : BinOp) (t : TypeId) (x y : Operand) (m n : Bool) : (eqGuard op t x y (.bool m) (.bool n)).run P w = .ok () w := by cases op <;> rfl

theorem run_seq_unit {α : Type} {s : Sem Unit} {r : Sem α} {w : World} (h : s.run P w = .ok () w) : (do s; r : Sem α).run P w = r.run P w := by
  rw [Sem.run_bind, h]; rfl

theorem unOp_ok {op : UnOp} {x : Val} {v : Value} {u : Upd} (h : (unOpE op x).run = some u) (hx : VR X pl x v) : Gives X pl P w u (Op.unary op v) := by
  unfold unOpE at h
  split at h
  · rw [show v = _ from hx]; exact gives1 h rfl rfl
  · rw [show v = _ from hx]; exact gives1 h rfl rfl
  · rw [show v = _ from hx]; exact gives1 h rfl rfl
  · cases h

theorem addr_add (g o n : Nat) : (⟨g, o, none⟩ : Addr).add n = ⟨g, o + n, none⟩ := by unfold Addr.add; split <;> simp_all

theorem elSz_spec {t : TypeId} {n : Nat} (h : elSz P t = some n) : ∃ e inf, P.underlying t = some (.slice e) ∧ P.info? e = some inf ∧ inf.size = n ∧ ∃ i, ti P t = some i ∧ i.el = e := by
  unfold elSz at h
  split at h
  case h_2 => cases h
  rename_i i hi
  obtain ⟨inf, d, h1, h2, h3, h4, h5, h6, h7⟩ := ti_spec hi
  cases hk : Nat.beq i.knd 3
  · rw [hk] at h; cases h
  rw [hk] at h
  have hk := Nat.eq_of_beq_eq_true hk
  cases d <;> simp only [hk] at h7 <;> first
    | (exact absurd h7 (by decide))
    | (exact absurd h7.1 (by decide))
    | skip
  rename_i e
  simp only [cond_true] at h
  split at h
  case h_2 => cases h
  rename_i j hj
  obtain ⟨inf', _, g1, _, g3, _⟩ := ti_spec hj
  injection h with h
  exact ⟨e, inf', h2, by rw [← h7.2]; exact g1, by rw [← g3]; exact h, i, hi, h7.2⟩

theorem kndIs_spec {t : TypeId} {q : Nat} (h : kndIs P t q = true) : ∃ i, ti P t = some i ∧ i.knd = q := by
  unfold kndIs at h
  split at h
  · rename_i i hi; exact ⟨i, hi, Nat.eq_of_beq_eq_true h⟩
  · cases h
theorem knd_string {t : TypeId} (h : kndIs P t 2 = true) : P.underlying t = some .string := by
  obtain ⟨i, hi, hk⟩ := kndIs_spec h
  obtain ⟨inf, d, h1, h2, h3, h4, h5, h6, h7⟩ := ti_spec hi
  cases d <;> simp only [hk] at h7 <;> first | exact h2 | (exact absurd h7 (by decide)) | (exact absurd h7.1 (by decide))
theorem knd_slice {t : TypeId} (h : kndIs P t 3 = true) : ∃ e, P.underlying t = some (.slice e) := by
  obtain ⟨i, hi, hk⟩ := kndIs_spec h
  obtain ⟨inf, d, h1, h2, h3, h4, h5, h6, h7⟩ := ti_spec hi
  cases d <;> simp only [hk] at h7 <;> first | exact ⟨_, h2⟩ | (exact absurd h7 (by decide)) | (exact absurd h7.1 (by decide))
theorem knd_bool {t : TypeId} {i : TI} (hi : ti P t = some i) (hk : i.knd = 7) : P.underlying t = some .bool := by
  obtain ⟨inf, d, h1, h2, h3, h4, h5, h6, h7⟩ := ti_spec hi
  cases d <;> simp only [hk] at h7 <;> first | exact h2 | (exact absurd h7 (by decide)) | (exact absurd h7.1 (by decide))
theorem knd_int {t : TypeId} {i : TI} (hi : ti P t = some i) (hk : i.knd = 1) : P.underlying t = some (.int i.ik) := by
  obtain ⟨inf, d, h1, h2, h3, h4, h5, h6, h7⟩ := ti_spec hi
  cases d <;> simp only [hk] at h7 <;> first | (rw [h7.2]; exact h2) | (exact absurd h7 (by decide)) | (exact absurd h7.1 (by decide))

/-! ### how a slice cell's value looks -/
theorem SlV.shape {p : Pl} {off len : Nat} {v : Value} (h : SlV p off len v) : ∃ A cap, v = .slice A len cap := by
  rcases h with ⟨rfl, rfl, _⟩ | ⟨o, cap, rfl, _⟩
  · exact ⟨_, _, rfl⟩
  · exact ⟨_, _, rfl⟩
theorem RdS.shape {α : Type} {w : World} {Z : Nat → Prop} {sz : Nat} {rel : α → List Value → Prop} {xs : List α} {v : Value} (h : RdS w Z sz rel xs v) : ∃ A cap, v = .slice A xs.length cap := by
  rcases h with ⟨rfl, rfl⟩ | ⟨a, cap, rfl, _⟩
  · exact ⟨_, _, rfl⟩
  · exact ⟨_, _, rfl⟩
theorem rows_pl (h : Inv X T st a w pl fp) {c : Nat} {t : Ty} {e : TypeId} {xs : List t.D} (hc : st.chunk c = some (.rows t e xs)) : ∃ p, pl c = some p ∧ p.len = xs.length ∧ p.sz = t.n := by
  obtain ⟨p, us, f, e1, e2, e3, _⟩ := h.ch c _ hc
  exact ⟨p, e1, e2, e3⟩
theorem view_shape (h : Inv X T st a w pl fp) {x : Cell} {v : Value} {s : View} (hv : CR X pl x v) (hs : viewC st.chunk x = some s) : ∃ A cap, v = .slice A s.xs.length cap := by
  cases x <;> simp only [viewC] at hs <;> try (cases hs; done)
  case ro t e xs => injection hs with hs; subst hs; exact RdS.shape hv
  case rn t e xs => injection hs with hs; subst hs; obtain ⟨A, c, e, _⟩ := hv; exact ⟨_, _, e⟩
  case slw c =>
    split at hs
    case h_2 => cases hs
    rename_i t e xs hc
    injection hs with hs; subst hs
    obtain ⟨p, e1, e2, e3⟩ := rows_pl h hc
    obtain ⟨q, hq, hv⟩ := hv
    rw [e1] at hq; injection hq with hq; subst hq
    rw [e2] at hv
    exact hv.shape
  case sl c off len =>
    split at hs
    case h_2 => cases hs
    rename_i t e xs hc
    injection hs with hs; subst hs
    obtain ⟨p, e1, e2, e3⟩ := rows_pl h hc
    obtain ⟨q, hq, hv⟩ := hv
    rw [e1] at hq; injection hq with hq; subst hq
    have hl : ((xs.drop off).take len).length = len := by
      rw [List.length_take, List.length_drop]
      rcases hv with ⟨_, rfl, _⟩ | ⟨o, cap, _, _, _, h4⟩
      · simp
      · rcases Nat.eq_zero_or_pos len with h0 | h0
        · simp [h0]
        · have := (h4.1 h0).2; omega
    simp only [hl]
    exact hv.shape

theorem run_len_slice {t : TypeId} {e : TypeId} (h : P.underlying t = some (.slice e)) (ty : TypeId) (A : Option Addr) (n c : Nat) : (Builtin.len_ #[t] ty #[.slice A n c]).run P w = .ok (.int .i64 n) w := by
  simp [Builtin.len_, run_underlying' h, goInt]
theorem run_len_string {t : TypeId} (h : P.underlying t = some .string) (ty : TypeId) (s : ByteArray) : (Builtin.len_ #[t] ty #[.string s]).run P w = .ok (.int .i64 s.size) w := by
  simp [Builtin.len_, run_underlying' h, goInt]
end

end Go.Proofs.YthpklbpdchckkaaEv

namespace Go.Proofs.YthpklbpdchckkaaEv
open Go.RowKit (Below)
set_option linter.unusedVariables false
set_option linter.unusedSectionVars false
set_option linter.unusedSimpArgs false

section
variable {X : Cx} {T : Nat} {st : St} {a : Act} {w : World} {pl : PlM} {fp : FpM} {P : Program} {o : Oper} {u : Upd} {nm : Nat}

def Quiet1 (X : Cx) (pl : PlM) (P : Program) (w : World) (a : Act) (o : Oper) (u : Upd) : Prop :=
  ∃ v, (execOp a.eval o).run P w = .ok (.value v) w ∧ VR X pl u.1 v ∧ u.2 = []

theorem run_v {s : Sem Value} {v : Value} {w w' : World} (h : s.run P w = .ok v w') : (do pure (.value (← s)) : Sem Next).run P w = .ok (.value v) w' := by
  rw [Sem.run_bind, h]; rfl

theorem quiet_of {s : Sem Value} (he : execOp a.eval o = (do pure (.value (← s)))) (h : Gives X pl P w u s) : Quiet1 X pl P w a o u := by
  obtain ⟨v, hs, hv, hu⟩ := h
  exact ⟨v, by rw [he]; exact run_v hs, hv, hu⟩

theorem q_move (h : Inv X T st a w pl fp) {x : Operand} (ho : o.op = .move x) (hr : (prim P nm st.ev st.chunk (.move x)).run = some u) : Quiet1 X pl P w a o u := by
  simp only [prim, Res.run, Option.some.injEq] at hr; subst hr
  exact ⟨a.eval x, by unfold execOp; rw [ho]; rfl, ev_ok h x, rfl⟩
theorem q_assign (h : Inv X T st a w pl fp) {x : Operand} (ho : o.op = .assign x) (hr : (prim P nm st.ev st.chunk (.assign x)).run = some u) : Quiet1 X pl P w a o u := by
  simp only [prim, Res.run, Option.some.injEq] at hr; subst hr
  exact ⟨a.eval x, by unfold execOp; rw [ho]; rfl, ev_ok h x, rfl⟩

theorem q_pick (h : Inv X T st a w pl fp) {c x y : Operand} (ho : o.op = .pick c x y) (hr : (prim P nm st.ev st.chunk (.pick c x y)).run = some u) : Quiet1 X pl P w a o u := by
  simp only [prim] at hr
  split at hr
  case h_2 => cases hr
  rename_i q hq
  simp only [Res.run, Option.some.injEq] at hr; subst hr
  have hc : a.eval c = .bool q := by have := ev_ok h c; rw [hq] at this; exact this
  refine ⟨if q then a.eval x else a.eval y, ?_, mergeV_ok (ev_ok h x) (ev_ok h y), rfl⟩
  unfold execOp; rw [ho]; simp [hc, asBool]

theorem knd3_el' {t : TypeId} {i : TI} (hi : ti P t = some i) (hk : i.knd = 3) : P.underlying t = some (.slice i.el) := by
  obtain ⟨inf, d, h1, h2, h3, h4, h5, h6, h7⟩ := ti_spec hi
  cases d <;> simp only [hk] at h7 <;> first | (exact absurd h7 (by decide)) | (exact absurd h7.1 (by decide)) | skip
  rename_i e; rw [h2, h7.2]
theorem guard_slice (w : World) (op : BinOp) (t : TypeId) (x y : Operand) (A B : Option Addr) (l c m d : Nat) : (eqGuard op t x y (.slice A l c) (.slice B m d)).run P w = .ok () w := by
  cases op <;> simp [eqGuard]
theorem run_eqIn_slice (w : World) (t : TypeId) {e : TypeId} (d : Nat) (ht : P.underlying t = some (.slice e)) {A : Option Addr} {l c : Nat} {b : Bool} (h : (A.isSome = true ∧ b = false) ∨ (A = none ∧ b = true)) : (Op.equalIn (d + 1) t (.slice A l c) (.slice none 0 0)).run P w = .ok b w := by
  simp only [Op.equalIn, Sem.run_bind, run_underlying ht, Result.andThen_ok]
  rcases h with ⟨hA, rfl⟩ | ⟨rfl, rfl⟩
  · obtain ⟨A, rfl⟩ := Option.isSome_iff_exists.1 hA; rfl
  · rfl
theorem run_eq_slice (w : World) (t : TypeId) {e : TypeId} (ht : P.underlying t = some (.slice e)) {A : Option Addr} {l c : Nat} {b : Bool} (h : (A.isSome = true ∧ b = false) ∨ (A = none ∧ b = true)) : (Op.equal t (.slice A l c) (.slice none 0 0)).run P w = .ok b w :=
  run_eqIn_slice w t 9999 ht h
theorem part_ok {t : TypeId} {inf : TypeInfo} {d : TypeDesc} {ag : Bool} (hi : P.info? t = some inf) (hd : P.underlying t = some d) (hag : ag = aggB d)
    {xs : List Cell} {us : Array Value} (hall : All2 (CR X pl) xs us.toList) {off : Nat} {v : Val} (hv : partV ag inf.size off xs = some v) : ∃ y, (part t us off).run P w = .ok y w ∧ VR X pl v y := by
  have ha := run_isAgg' hd w
  rw [← hag] at ha
  cases ag with
  | true =>
    unfold partV at hv
    cases hb : Nat.ble (off + inf.size) xs.length
    · rw [hb] at hv; cases hv
    · rw [hb] at hv
      simp only [cond_true, Option.some.injEq] at hv
      subst hv
      refine ⟨.agg (us.extract off (off + inf.size)), by simp [part, ha, run_sizeOf' hi], ⟨_, rfl, ?_⟩⟩
      have : (us.extract off (off + inf.size)).toList = (us.toList.drop off).take inf.size := by
        rw [Array.toList_extract]; simp [List.extract, Nat.add_sub_cancel_left]
      rw [this]
      exact (hall.drop off).take inf.size
  | false =>
    unfold partV at hv
    simp only [cond_false] at hv
    split at hv
    case h_2 => cases hv
    rename_i x hx
    injection hv with hv; subst hv
    obtain ⟨y, hy, hr⟩ := hall.get hx
    rw [Array.getElem?_toList] at hy
    exact ⟨y, by simp [part, ha, hy], hr⟩

theorem eqF_ok {pl : PlM} {g : TypeId → Val → Val → Option Bool} {d : Nat} (hg : ∀ t x y b u v, g t x y = some b → VR X pl x u → VR X pl y v → (Op.equalIn d t u v).run P w = .ok b w) {xs ys : List Cell} {us vs : Array Value} (hx : All2 (CR X pl) xs us.toList) (hy : All2 (CR X pl) ys vs.toList) :
    ∀ {fs : List Field} {b : Bool}, eqF P g (fieldV P) xs ys fs = some b → (Op.eqFields d us vs fs).run P w = .ok b w
  | [], b, h => by simp only [eqF, Option.some.injEq] at h; subst h; rfl
  | fd :: r, b, h => by
    simp only [eqF] at h
    cases hn : (fd.name == "_")
    case true => rw [hn] at h; cases h
    rw [hn] at h
    simp only [cond_false] at h
    split at h
    case h_2 => cases h
    rename_i a1 b1 h1 h2
    split at h
    case h_2 => cases h
    rename_i p q h3 h4
    injection h with h; subst h
    have hpt : ∀ {cs : List Cell} {ws : Array Value} {z : Val}, All2 (CR X pl) cs ws.toList → fieldV P fd cs = some z → ∃ y, (part fd.type ws fd.offset).run P w = .ok y w ∧ VR X pl z y := fun {cs ws z} hc hz => by
      unfold fieldV partOf at hz
      split at hz
      case h_2 => cases hz
      rename_i j dd hj hd
      exact part_ok hj hd rfl hc hz
    obtain ⟨u, e1, r1⟩ := hpt hx h1
    obtain ⟨v, e2, r2⟩ := hpt hy h2
    have e3 := hg _ _ _ _ _ _ h3 r1 r2
    have ih := eqF_ok hg hx hy h4
    have hne : fd.name ≠ "_" := fun e => by rw [e] at hn; simp at hn
    simp only [Op.eqFields, if_pos hne, Sem.run_bind, e1, e2, e3, Result.andThen_ok]
    cases p
    · rfl
    · simp only [Bool.not_true, Bool.false_eq_true, if_false, Bool.true_and]; exact ih
theorem eqE_ok {pl : PlM} : ∀ (d n : Nat) {t : TypeId} {x y : Val} {b : Bool} {u v : Value}, eqE P (fieldV P) d t x y = some b → VR X pl x u → VR X pl y v → (Op.equalIn (n + d) t u v).run P w = .ok b w
  | 0, n, t, x, y, b, u, v, h, _, _ => by cases h
  | d + 1, n, t, x, y, b, u, v, h, hx, hy => by
    simp only [eqE] at h
    split at h
    · rename_i k' hu
      split at h
      case h_2 => cases h
      rename_i k a l c
      cases hk : kbeq k l
      · rw [hk] at h; cases h
      rw [hk] at h
      injection h with h; subst h
      have := kbeq_eq hk; subst this
      rw [show u = .int k a from hx, show v = .int k c from hy]
      exact run_equalIn_int w (n + d) t k k' a c hu
    · rename_i hu
      split at h
      case h_2 => cases h
      injection h with h; subst h
      rw [show u = .bool _ from hx, show v = .bool _ from hy]
      exact run_equalIn_bool' w (n + d) t _ _ hu
    · rename_i hu
      split at h
      case h_2 => cases h
      rename_i a c
      injection h with h; subst h
      rw [show u = .string a from hx, show v = .string c from hy]
      rw [show n + (d + 1) = (n + d) + 1 from rfl, run_equalIn_string w (n + d) t a c hu]
      congr 1
      refine Bool.eq_iff_iff.2 ?_
      rw [beq_iff_eq, decide_eq_true_eq, ByteArray.toList_eq, ByteArray.toList_eq]
      constructor
      · intro h
        obtain ⟨⟨x⟩⟩ := a
        obtain ⟨⟨y⟩⟩ := c
        simpa using h
      · intro h; rw [h]
    · rename_i fs hu
      split at h
      case h_2 => cases h
      rename_i xs ys
      cases hs : P.stoodInHeld t
      case true => rw [hs] at h; cases h
      rw [hs] at h
      simp only [cond_false] at h
      obtain ⟨us, e1, hx⟩ := hx
      obtain ⟨vs, e2, hy⟩ := hy
      subst e1; subst e2
      have hf : P.fieldsOf t = fs := by unfold Program.fieldsOf; rw [hu]
      rw [show n + (d + 1) = (n + d) + 1 from rfl, run_equalIn_agg w (n + d) t us vs (by rw [hf]; exact hu) hs, hf]
      exact eqF_ok (fun t x y b u v h hx hy => eqE_ok d n h hx hy) hx hy h
    · cases h

theorem q_binOp (h : Inv X T st a w pl fp) {op : BinOp} {t t' : TypeId} {x y : Operand} (ho : o.op = .binOp op t x y t')
    (hr : (prim P nm st.ev st.chunk (.binOp op t x y t')).run = some u) : Quiet1 X pl P w a o u := by
  have he : execOp a.eval o = (do pure (.value (← (do eqGuard op t x y (a.eval x) (a.eval y); binOp op t (a.eval x) (a.eval y))))) := by unfold execOp; rw [ho]
  refine quiet_of he ?_
  simp only [prim] at hr
  have hx := ev_ok h x
  have hy := ev_ok h y
  split at hr
  · rename_i xs ys h1 h2
    rw [h1] at hx; rw [h2] at hy
    split at hr
    case h_2 => cases hr
    rename_i b hb
    cases hg : P.eqGuardType P.depth t
    case true => rw [hg] at hr; cases hr
    rw [hg] at hr
    simp only [cond_false] at hr
    have he2 := eqE_ok (X := X) (pl := pl) (P := P) (w := w) 12 9988 hb hx hy
    obtain ⟨us, e1, _⟩ := hx
    obtain ⟨vs, e2, _⟩ := hy
    rw [e1, e2] at he2 ⊢
    split at hr
    · exact gives1 hr (v := .bool b) (by
        rw [run_seq_unit (run_eqGuard_agg w _ t x y us vs hg), run_eql_struct, show (10000 : Nat) = 9988 + 12 from rfl, he2]; rfl) rfl
    · exact gives1 hr (v := .bool (!b)) (by
        rw [run_seq_unit (run_eqGuard_agg w _ t x y us vs hg), run_neq_struct, show (10000 : Nat) = 9988 + 12 from rfl, he2]; rfl) rfl
    · cases hr
  · unfold binOpE at hr
    split at hr
    · rename_i k m l n h1 h2
      rw [h1] at hx; rw [h2] at hy
      rw [hx.nu, hy.nu]
      obtain ⟨v, hs, hv, hu⟩ : Gives X pl P w u (binOp op t (.int k m) (.int l n)) := by
        split at hr
        · obtain ⟨hc, hr⟩ := Res.run_chk hr
          have hn : ¬ n < 0 := by have := of_decide_eq_true hc; omega
          exact gives1 hr (by simp only [binOp, Op.shift, if_neg hn, ishl]; rfl) rfl
        · obtain ⟨hc, hr⟩ := Res.run_chk hr
          have hn : ¬ n < 0 := by have := of_decide_eq_true hc; omega
          exact gives1 hr (by simp only [binOp, Op.shift, if_neg hn, ishr]; rfl) rfl
        · rename_i hn1 hn2
          obtain ⟨hk, hr2⟩ := Res.run_cond hr
          clear hr
          have := kbeq_eq hk; subst this
          exact binInt_ok hr2 hn1 hn2
      exact ⟨v, by rw [run_seq_unit (guard_int ..)]; exact hs, hv, hu⟩
    · rename_i m n h1 h2
      rw [h1] at hx; rw [h2] at hy
      rw [hx.sr, hy.sr]
      obtain ⟨v, hs, hv, hu⟩ := binStr_ok (X := X) (pl := pl) (P := P) (w := w) (t := t) hr
      exact ⟨v, by rw [run_seq_unit (guard_str ..)]; exact hs, hv, hu⟩
    · rename_i z0 t0 e0 xs0 h1 h2
      rw [h1] at hx; rw [h2] at hy
      obtain ⟨hk, hr⟩ := Res.run_cond hr
      split at hk
      case h_2 => cases hk
      rename_i i hi
      have hb := knd3_el' hi (Nat.eq_of_beq_eq_true hk)
      obtain ⟨A, cap, ex, _⟩ := hx
      have ey : a.eval y = .slice none 0 0 := hy
      rw [ex, ey]
      have hq : (Op.equal t (.slice (some A) xs0.length cap) (.slice none 0 0)).run P w = .ok false w := run_eq_slice w t hb (.inl ⟨rfl, rfl⟩)
      split at hr
      · exact gives1 hr (v := .bool false) (by
          rw [run_seq_unit (guard_slice ..)]
          show (do pure (.bool (← Op.equal t (.slice (some A) xs0.length cap) (.slice none 0 0))) : Sem Value).run P w = _
          rw [Sem.run_bind, hq]; rfl) rfl
      · exact gives1 hr (v := .bool true) (by
          rw [run_seq_unit (guard_slice ..)]
          show (do pure (.bool (!(← Op.equal t (.slice (some A) xs0.length cap) (.slice none 0 0)))) : Sem Value).run P w = _
          rw [Sem.run_bind, hq]; rfl) rfl
      · cases hr
    · rename_i h1 h2
      rw [h1] at hx; rw [h2] at hy
      obtain ⟨hk, hr⟩ := Res.run_cond hr
      split at hk
      case h_2 => cases hk
      rename_i i hi
      have hb := knd3_el' hi (Nat.eq_of_beq_eq_true hk)
      have ex : a.eval x = .slice none 0 0 := hx
      have ey : a.eval y = .slice none 0 0 := hy
      rw [ex, ey]
      have hq : (Op.equal t (.slice none 0 0) (.slice none 0 0)).run P w = .ok true w := run_eq_slice w t hb (.inr ⟨rfl, rfl⟩)
      split at hr
      · exact gives1 hr (v := .bool true) (by
          rw [run_seq_unit (guard_slice ..)]
          show (do pure (.bool (← Op.equal t (.slice none 0 0) (.slice none 0 0))) : Sem Value).run P w = _
          rw [Sem.run_bind, hq]; rfl) rfl
      · exact gives1 hr (v := .bool false) (by
          rw [run_seq_unit (guard_slice ..)]
          show (do pure (.bool (!(← Op.equal t (.slice none 0 0) (.slice none 0 0)))) : Sem Value).run P w = _
          rw [Sem.run_bind, hq]; rfl) rfl
      · cases hr
    · rename_i m n h1 h2
      rw [h1] at hx; rw [h2] at hy
      rw [hx.bo, hy.bo]
      obtain ⟨hk, hr⟩ := Res.run_cond hr
      split at hk
      case h_2 => cases hk
      rename_i i hi
      have hb := knd_bool hi (Nat.eq_of_beq_eq_true hk)
      have hq : (Op.equal t (.bool m) (.bool n)).run P w = .ok (m == n) w := run_equalIn_bool' w 9999 t m n hb
      split at hr
      · exact gives1 hr (v := .bool (m == n)) (by
          rw [run_seq_unit (guard_bool ..)]
          show (do pure (.bool (← Op.equal t (.bool m) (.bool n))) : Sem Value).run P w = _
          rw [Sem.run_bind, hq]; rfl) rfl
      · exact gives1 hr (v := .bool (!(m == n))) (by
          rw [run_seq_unit (guard_bool ..)]
          show (do pure (.bool (!(← Op.equal t (.bool m) (.bool n)))) : Sem Value).run P w = _
          rw [Sem.run_bind, hq]; rfl) rfl
      · cases hr
    · cases hr

theorem q_unOp (h : Inv X T st a w pl fp) {op : UnOp} {t : TypeId} {x : Operand} (ho : o.op = .unOp op t x) (hr : (prim P nm st.ev st.chunk (.unOp op t x)).run = some u) : Quiet1 X pl P w a o u :=
  quiet_of (s := Op.unary op (a.eval x)) (by unfold execOp; rw [ho]) (unOp_ok (by simpa only [prim] using hr) (ev_ok h x))

theorem q_nilCheck (h : Inv X T st a w pl fp) {x : Operand} (ho : o.op = .nilCheck x) (hr : (prim P nm st.ev st.chunk (.nilCheck x)).run = some u) : Quiet1 X pl P w a o u := by
  simp only [prim] at hr
  have hx := ev_ok h x
  split at hr
  · rename_i hq; rw [hq] at hx; rw [run_pure1 hr]; have hy := hx
    obtain ⟨p, _, e⟩ := hy
    exact ⟨a.eval x, by unfold execOp; rw [ho]; simp only [e]; rfl, hx, rfl⟩
  · rename_i hq; rw [hq] at hx; rw [run_pure1 hr]; have hy := hx
    obtain ⟨p, _, _, e, _⟩ := hy
    exact ⟨a.eval x, by unfold execOp; rw [ho]; simp only [e]; rfl, hx, rfl⟩
  · rename_i hq; rw [hq] at hx; rw [run_pure1 hr]; have hy := hx
    obtain ⟨p, _, _, e⟩ := hy
    exact ⟨a.eval x, by unfold execOp; rw [ho]; simp only [e]; rfl, hx, rfl⟩
  · rename_i hq; rw [hq] at hx; rw [run_pure1 hr]; have hy := hx
    obtain ⟨us, e, _⟩ := hy
    exact ⟨a.eval x, by unfold execOp; rw [ho]; simp only [e]; rfl, hx, rfl⟩
  · cases hr

theorem q_extract (h : Inv X T st a w pl fp) {x : Operand} {i : Nat} (ho : o.op = .extract x i) (hr : (prim P nm st.ev st.chunk (.extract x i)).run = some u) : Quiet1 X pl P w a o u := by
  simp only [prim] at hr
  have hx := ev_ok h x
  split at hr
  case h_2 => cases hr
  rename_i vs hq
  rw [hq] at hx
  obtain ⟨us, e, hall⟩ := hx
  split at hr
  case h_2 => cases hr
  rename_i v hv
  simp only [Res.run, Option.some.injEq] at hr; subst hr
  obtain ⟨y, hy, hvy⟩ := hall.get hv
  refine ⟨y, by unfold execOp; rw [ho]; simp [e, Instr.extract, ← Array.getElem?_toList, hy], ?_, rfl⟩
  cases v <;> first | exact hvy | exact hvy.elim

theorem fldOf_spec {t : TypeId} {f off sz : Nat} {ag : Bool} (h : fldOf P t f = some (off, sz, ag)) (h0 : Nat.beq sz 0 = false) :
    ∃ fs fd inf d, P.underlying t = some (.struct fs) ∧ fs[f]? = some fd ∧ fd.offset = off ∧ P.info? fd.type = some inf ∧ inf.size = sz ∧ P.underlying fd.type = some d ∧ ag = aggB d := by
  unfold fldOf at h
  split at h
  case h_2 => cases h
  rename_i i hi
  obtain ⟨inf, d, h1, h2, h3, h4, h5, h6, h7⟩ := ti_spec hi
  cases hk : Nat.beq i.knd 6
  · rw [hk] at h; cases h
  rw [hk] at h
  have hk := Nat.eq_of_beq_eq_true hk
  simp only [cond_true] at h
  cases d <;> simp only [hk] at h7 <;> first
    | (exact absurd h7 (by decide))
    | (exact absurd h7.1 (by decide))
    | skip
  rename_i fs
  rw [h7.2, List.getElem?_map] at h
  cases hf : fs.toList[f]? with
  | none => rw [hf] at h; cases h
  | some fd =>
    rw [hf] at h
    simp only [Option.map_some, Option.some.injEq, Prod.mk.injEq] at h
    obtain ⟨e1, e2, e3⟩ := h
    have hne : sz ≠ 0 := by intro e; subst e; cases h0
    unfold szAg at e2 e3
    split at e2
    case h_2 => exact absurd e2.symm hne
    rename_i j d' hj hd
    rw [hj, hd] at e3
    exact ⟨fs, fd, j, d', h2, by rw [← Array.getElem?_toList]; exact hf, e1, hj, e2, hd, e3.symm⟩

theorem q_field (h : Inv X T st a w pl fp) {t : TypeId} {x : Operand} {f : Nat} (ho : o.op = .field t x f) (hr : (prim P nm st.ev st.chunk (.field t x f)).run = some u) : Quiet1 X pl P w a o u := by
  simp only [prim] at hr
  have hx := ev_ok h x
  split at hr
  case h_2 => cases hr
  rename_i off sz ag cs hf hq
  rw [hq] at hx
  obtain ⟨us, e, hall⟩ := hx
  cases h0 : Nat.beq sz 0
  case true => rw [h0] at hr; cases hr
  rw [h0] at hr
  simp only [cond_false] at hr
  split at hr
  case h_2 => cases hr
  rename_i v hv
  simp only [Res.run, Option.some.injEq] at hr; subst hr
  obtain ⟨fs, fd, inf, d, h1, h2, h3, h4, h5, h6, h7⟩ := fldOf_spec hf h0
  rw [← h5] at hv
  obtain ⟨y, hy, hvy⟩ := part_ok (P := P) (w := w) h4 h6 h7 hall hv
  refine ⟨y, ?_, hvy, rfl⟩
  unfold execOp; rw [ho]
  refine run_v ?_
  simp [Instr.field, run_underlying' h1, h2, e, asAgg, h3, hy]

theorem q_fieldAddr (h : Inv X T st a w pl fp) {t : TypeId} {x : Operand} {f : Nat} (ho : o.op = .fieldAddr t x f) (hr : (prim P nm st.ev st.chunk (.fieldAddr t x f)).run = some u) : Quiet1 X pl P w a o u := by
  simp only [prim] at hr
  have hx := ev_ok h x
  split at hr
  case h_2 => cases hr
  rename_i off sz ag hf
  cases h0 : Nat.beq sz 0
  case true => rw [h0] at hr; cases hr
  rw [h0] at hr
  simp only [cond_false] at hr
  obtain ⟨fs, fd, inf, d, h1, h2, h3, h4, h5, h6, h7⟩ := fldOf_spec hf h0
  have hne : inf.size ≠ 0 := by rw [h5]; intro e; rw [e] at h0; cases h0
  have key : ∀ g k, a.eval x = .pointer (some ⟨g, k, none⟩) → (execOp a.eval o).run P w = .ok (.value (.pointer (some ⟨g, k + off, none⟩))) w := by
    intro g k e
    unfold execOp; rw [ho]
    refine run_v ?_
    simp [Instr.fieldAt, run_underlying' h1, h2, e, Instr.sureAddr, fieldPlace, run_sizeOf' h4, hne, addr_add, h3]
  split at hr
  · rename_i c j hq
    rw [hq] at hx
    obtain ⟨p, e1, e2⟩ := hx
    rw [run_pure1 hr]
    exact ⟨_, key _ _ e2, ⟨p, e1, rfl⟩, rfl⟩
  · rename_i c q j hq
    rw [hq] at hx
    obtain ⟨p, e1, e2, e3⟩ := hx
    rw [run_pure1 hr]
    exact ⟨_, key _ _ e3, ⟨p, e1, e2, by rw [Nat.add_assoc]⟩, rfl⟩
  · rename_i t' y j hq
    rw [hq] at hx
    obtain ⟨g, k, us, e1, e2, e3, e4⟩ := hx
    rw [run_pure1 hr]
    exact ⟨_, key _ _ e1, ⟨g, k, us, by rw [Nat.add_assoc], e2, e3, e4⟩, rfl⟩
  · cases hr
end

end Go.Proofs.YthpklbpdchckkaaEv

namespace Go.Proofs.YthpklbpdchckkaaEv
open Go.RowKit (Below)
set_option linter.unusedVariables false
set_option linter.unusedSectionVars false
set_option linter.unusedSimpArgs false

section
variable {X : Cx} {T : Nat} {st : St} {a : Act} {w : World} {pl : PlM} {fp : FpM} {P : Program} {o : Oper} {u : Upd} {nm : Nat}

theorem run_indexAt {t e : TypeId} {inf : TypeInfo} (h : P.underlying t = some (.slice e)) (hi : P.info? e = some inf) (b q len cap : Nat) (k : IntKind) (n : Int) (h0 : 0 ≤ n) (h1 : n < len) :
    (Instr.indexAt t (.slice (some ⟨b, q, none⟩) len cap) (.int k n)).run P w = .ok (.pointer (some ⟨b, q + n.toNat * inf.size, none⟩)) w := by
  simp [Instr.indexAt, asIntOf, run_underlying' h, run_sizeOf' hi, h0, h1, addr_add]

theorem idxE_spec {n : Nat} {i : Int} (h : idxE n i = true) : 0 ≤ i ∧ i < (n : Int) := of_decide_eq_true h

theorem getD_of_lt {α : Type} {xs : List α} {i : Nat} (d : α) (h : i < xs.length) : xs[i]? = some (xs.getD i d) := by
  simp [List.getD_eq_getElem?_getD, List.getElem?_eq_getElem h]

theorem q_indexAddr (h : Inv X T st a w pl fp) {t : TypeId} {x ix : Operand} (ho : o.op = .indexAddr t x ix) (hr : (prim P nm st.ev st.chunk (.indexAddr t x ix)).run = some u) : Quiet1 X pl P w a o u := by
  simp only [prim] at hr
  have hx := ev_ok h x
  have hix := ev_ok h ix
  split at hr
  case h_2 => cases hr
  rename_i m c k n hm hq hn
  rw [hn] at hix; rw [hq] at hx
  have hix := hix.nu
  obtain ⟨e, inf, h1, h2, h3, _⟩ := elSz_spec hm
  have he : ∀ b q len cap, a.eval x = .slice (some ⟨b, q, none⟩) len cap → 0 ≤ n → n < (len : Int) → (execOp a.eval o).run P w = .ok (.value (.pointer (some ⟨b, q + n.toNat * m, none⟩))) w := by
    intro b q len cap ex h0 hlt
    unfold execOp; rw [ho]
    refine run_v ?_
    rw [ex, hix, run_indexAt h1 h2 b q len cap k n h0 hlt, h3]
  split at hr
  · rename_i y e' xs
    obtain ⟨hk, hr⟩ := Res.run_cond hr
    have hk := Nat.eq_of_beq_eq_true hk
    obtain ⟨hc, hr⟩ := Res.run_chk hr
    obtain ⟨h0, hlt⟩ := idxE_spec hc
    rw [run_pure1 hr]
    rcases (show RdS _ _ _ _ _ _ from hx) with ⟨_, e0⟩ | ⟨ad, cap, e1, _, hsp, hall⟩
    · subst e0; simp at hlt; omega
    · have hne : xs ≠ [] := by rintro rfl; simp at hlt; omega
      obtain ⟨hs, hz⟩ := hsp hne
      obtain ⟨us, r1, r2⟩ := hall n.toNat _ (getD_of_lt y.z (by omega))
      obtain ⟨blk, off, spot⟩ := ad
      simp only at hs; subst hs
      exact ⟨_, he _ _ _ _ e1 h0 hlt, ⟨blk, off + n.toNat * m, us, rfl, hz, by rw [hk]; exact r2, r1⟩, rfl⟩
  · rename_i c
    have fin : ∀ {y : Ty} {len : Nat} {p : Pl}, pl c = some p → p.len = len → p.sz = y.n → (cond (Nat.beq m y.n) (Res.chk (idxE len n) (pure1 (.ep c n.toNat 0))) .no).run = some u → Quiet1 X pl P w a o u := by
      intro y len p e1 e2 e3 hr
      obtain ⟨hk, hr⟩ := Res.run_cond hr
      have hk := Nat.eq_of_beq_eq_true hk
      obtain ⟨hc, hr⟩ := Res.run_chk hr
      obtain ⟨h0, hlt⟩ := idxE_spec hc
      rw [run_pure1 hr]
      obtain ⟨q, hq', hv⟩ := hx
      rw [e1] at hq'; injection hq' with hq'; subst hq'
      rcases hv with ⟨_, e0, _⟩ | ⟨oo, cap, e4, _, _, h4⟩
      · omega
      · have h5 := h4.1 (by omega)
        refine ⟨_, he _ _ _ _ e4 h0 (by omega), ⟨p, e1, by omega, ?_⟩, rfl⟩
        rw [h5.1, hk, ← e3, Nat.zero_mul]; rfl
    split at hr
    · rename_i y e' xs hch
      obtain ⟨p, e1, e2, e3⟩ := rows_pl h hch
      exact fin e1 e2 e3 hr
    · rename_i y e' xs _ _ _ hch
      obtain ⟨p, _, _, _, _, _, _, _, _, _, e1, e2, e3, _⟩ := h.ch c _ hch
      exact fin e1 e2 e3 hr
    · cases hr
  · rename_i c off len
    split at hr
    case h_2 => cases hr
    rename_i y e' xs hch
    obtain ⟨hk, hr⟩ := Res.run_cond hr
    have hk := Nat.eq_of_beq_eq_true hk
    obtain ⟨hc, hr⟩ := Res.run_chk hr
    obtain ⟨h0, hlt⟩ := idxE_spec hc
    rw [run_pure1 hr]
    obtain ⟨p, e1, e2, e3⟩ := rows_pl h hch
    obtain ⟨q, hq', hv⟩ := hx
    rw [e1] at hq'; injection hq' with hq'; subst hq'
    rcases hv with ⟨_, e0, _⟩ | ⟨oo, cap, e4, _, _, h4⟩
    · omega
    · have h5 := h4.1 (by omega)
      refine ⟨_, he _ _ _ _ e4 h0 (by omega), ⟨p, e1, by omega, ?_⟩, rfl⟩
      rw [h5.1, hk, ← e3, Nat.add_mul, Nat.add_assoc]; rfl
  · cases hr

/-! ### cutting -/
theorem run_sliceBound (k : IntKind) (i : Int) (y : Nat) (code : BoundsCode) (h0 : 0 ≤ i) (h1 : i ≤ y) : (Instr.sliceBound (.int k i) y code).run P w = .ok i.toNat w := by
  simp [Instr.sliceBound, asIntOf, h0, h1]

/-- what the bounds come to -/
theorem bnd_ok (h : Inv X T st a w pl fp) {lo hi : Option Operand} {n : Nat} {f : Nat → Nat → Res Upd} (hr : (prim.bnd st.ev lo hi n f).run = some u) (isS : Bool) (cap : Nat) (hcap : n ≤ cap) :
    ∃ l r, l ≤ r ∧ r ≤ n ∧ (f l r).run = some u ∧ (Instr.sliceBounds isS n cap (lo.map a.eval) (hi.map a.eval) none).run P w = .ok (l, r, cap) w := by
  unfold prim.bnd at hr
  have get : ∀ (q : Option Operand) (r : Option Int), (match q with | some o => (match st.ev o with | .c (.nu _ h) => some (some h) | _ => none) | none => some none : Option (Option Int)) = some r →
      (q = none ∧ r = none) ∨ ∃ o k m, q = some o ∧ r = some m ∧ a.eval o = .int k m := by
    intro q r hq
    cases q with
    | none => simp at hq; exact .inl ⟨rfl, hq.symm⟩
    | some o =>
      simp only at hq
      split at hq
      case h_2 => cases hq
      rename_i k m he
      injection hq with hq
      have := ev_ok h o
      rw [he] at this
      exact .inr ⟨o, k, m, rfl, hq.symm, this.nu⟩
  split at hr
  · rename_i e1 e2
    rcases get hi _ e1 with ⟨rfl, _⟩ | ⟨_, _, _, _, e, _⟩
    case inr => cases e
    rcases get lo _ e2 with ⟨rfl, _⟩ | ⟨_, _, _, _, e, _⟩
    case inr => cases e
    exact ⟨0, n, Nat.zero_le _, Nat.le_refl _, hr, by simp [Instr.sliceBounds]⟩
  · rename_i q e1 e2
    rcases get hi _ e1 with ⟨_, e⟩ | ⟨oo, k, m, rfl, e, ev⟩
    case inl => cases e
    injection e with e; subst e
    rcases get lo _ e2 with ⟨rfl, _⟩ | ⟨_, _, _, _, e, _⟩
    case inr => cases e
    obtain ⟨hc, hr⟩ := Res.run_chk hr
    obtain ⟨g0, g1⟩ : 0 ≤ q ∧ q ≤ (n : Int) := of_decide_eq_true hc
    refine ⟨0, q.toNat, Nat.zero_le _, by omega, hr, ?_⟩
    simp only [Instr.sliceBounds, Option.map_some, Option.map_none, ev]
    cases isS <;> simp [run_sliceBound k q cap _ g0 (by omega)]
  · rename_i q e1 e2
    rcases get hi _ e1 with ⟨rfl, _⟩ | ⟨_, _, _, _, e, _⟩
    case inr => cases e
    rcases get lo _ e2 with ⟨_, e⟩ | ⟨oo, k, m, rfl, e, ev⟩
    case inl => cases e
    injection e with e; subst e
    obtain ⟨hc, hr⟩ := Res.run_chk hr
    obtain ⟨g0, g1⟩ : 0 ≤ q ∧ q ≤ (n : Int) := of_decide_eq_true hc
    refine ⟨q.toNat, n, by omega, Nat.le_refl _, hr, ?_⟩
    simp [Instr.sliceBounds, ev, run_sliceBound k q n _ g0 g1]
  · rename_i q q' e1 e2
    rcases get hi _ e1 with ⟨_, e⟩ | ⟨oo, k, m, rfl, e, ev⟩
    case inl => cases e
    injection e with e; subst e
    rcases get lo _ e2 with ⟨_, e⟩ | ⟨oo', k', m', rfl, e, ev'⟩
    case inl => cases e
    injection e with e; subst e
    obtain ⟨hc, hr⟩ := Res.run_chk hr
    obtain ⟨g0, g1, g2⟩ : 0 ≤ q' ∧ q' ≤ q ∧ q ≤ (n : Int) := of_decide_eq_true hc
    refine ⟨q'.toNat, q.toNat, by omega, by omega, hr, ?_⟩
    simp only [Instr.sliceBounds, Option.map_some, ev, ev']
    cases isS <;> simp [run_sliceBound k q cap _ (by omega) (by omega), run_sliceBound k' q' q.toNat _ g0 (by omega)]
  · cases hr

theorem run_sliceAt_slice {t e : TypeId} {inf : TypeInfo} (h : P.underlying t = some (.slice e)) (hi : P.info? e = some inf) {A : Option Addr} {len cap l r : Nat} {lo hi' : Option Value}
    (hb : (Instr.sliceBounds true len cap lo hi' none).run P w = .ok (l, r, cap) w) :
    (Instr.sliceAt t (.slice A len cap) lo hi' none).run P w = .ok (.slice (if cap = l then A else A.map (·.add (l * inf.size))) (r - l) (cap - l)) w := by
  simp [Instr.sliceAt, Instr.slice, run_underlying' h, hb, run_sizeOf' hi]
theorem run_sliceAt_string {t : TypeId} (h : P.underlying t = some .string) {s : ByteArray} {l r : Nat} {lo hi' : Option Value}
    (hb : (Instr.sliceBounds false s.size s.size lo hi' none).run P w = .ok (l, r, s.size) w) :
    (Instr.sliceAt t (.string s) lo hi' none).run P w = .ok (.string (s.extract l r)) w := by
  simp [Instr.sliceAt, Instr.slice, run_underlying' h, hb]

theorem SlV.cut {p : Pl} {off len l r : Nat} {v : Value} (hv : SlV p off len v) (hl : l ≤ r) (hr : r ≤ len) {A : Option Addr} {cap : Nat} (e : v = .slice A len cap) :
    len ≤ cap ∧ SlV p (off + l) (r - l) (.slice (if cap = l then A else A.map (·.add (l * p.sz))) (r - l) (cap - l)) := by
  rcases hv with ⟨rfl, rfl, hnl⟩ | ⟨o, cap', rfl, h1, h2, h3, hl'⟩
  · injection e with e1 e2 e3
    subst e1; subst e3
    have : l = 0 := by omega
    subst this
    have : r = 0 := by omega
    subst this
    exact ⟨Nat.le_refl _, .inl ⟨rfl, rfl, hnl⟩⟩
  · injection e with e1 e2 e3
    subst e1; subst e3
    refine ⟨h1, .inr ?_⟩
    by_cases hc : cap' = l
    · rw [if_pos hc]
      subst hc
      have : r = cap' := by omega
      subst this
      exact ⟨o, 0, by simp, by omega, by simp only [Nat.zero_mul]; exact Nat.le_trans (Nat.le_add_right _ _) h2, fun h => by omega, hl'⟩
    · rw [if_neg hc]
      refine ⟨o + l * p.sz, cap' - l, by simp [addr_add], by omega, ?_, fun h => ?_, hl'⟩
      · have : (cap' - l) * p.sz = cap' * p.sz - l * p.sz := Nat.sub_mul _ _ _
        have h4 : l * p.sz ≤ cap' * p.sz := Nat.mul_le_mul_right _ (by omega)
        omega
      · have := h3 (by omega)
        exact ⟨by rw [this.1, Nat.add_mul, Nat.add_assoc], by omega⟩

theorem RdS.cut {α : Type} {w : World} {Z : Nat → Prop} {sz l r : Nat} {rel : α → List Value → Prop} {xs : List α} {v : Value} (hv : RdS w Z sz rel xs v) (hl : l ≤ r) (hr : r ≤ xs.length)
    {A : Option Addr} {cap : Nat} (e : v = .slice A xs.length cap) : RdS w Z sz rel ((xs.take r).drop l) (.slice (if cap = l then A else A.map (·.add (l * sz))) (r - l) (cap - l)) := by
  have hlen : ((xs.take r).drop l).length = r - l := by rw [List.length_drop, List.length_take]; omega
  rcases hv with ⟨rfl, rfl⟩ | ⟨a, cap', rfl, h1, h2, h3⟩
  · injection e with e1 e2 e3
    subst e1; subst e3
    have : r = 0 := by simpa using hr
    subst this
    have : l = 0 := by omega
    subst this
    exact .inl ⟨rfl, rfl⟩
  · injection e with e1 e2 e3
    subst e1; subst e3
    by_cases hc : cap' = l
    · rw [if_pos hc]
      have h0 : (xs.take r).drop l = [] := List.eq_nil_of_length_eq_zero (by rw [hlen]; omega)
      have : r - l = 0 := by omega
      rw [h0, this]
      exact .inr ⟨a, cap' - l, rfl, Nat.zero_le _, fun h => absurd rfl h, fun i x hx => by simp at hx⟩
    · rw [if_neg hc]
      refine .inr ⟨a.add (l * sz), cap' - l, by rw [hlen]; rfl, by rw [hlen]; omega, fun hne => ?_, fun i x hx => ?_⟩
      · have hx : xs ≠ [] := by rintro rfl; simp at hne
        obtain ⟨hs, hz⟩ := h2 hx
        obtain ⟨b, q, s⟩ := a
        simp only at hs; subst hs
        rw [addr_add]; exact ⟨rfl, hz⟩
      · rw [List.getElem?_drop, List.getElem?_take] at hx
        split at hx
        case isFalse => cases hx
        have hne : xs ≠ [] := by rintro rfl; simp at hx
        obtain ⟨hs, hz⟩ := h2 hne
        obtain ⟨b, q, s⟩ := a
        simp only at hs; subst hs
        obtain ⟨us, r1, r2⟩ := h3 _ _ hx
        refine ⟨us, r1, ?_⟩
        rw [addr_add]
        rw [show q + l * sz + i * sz = q + (l + i) * sz by rw [Nat.add_mul]; omega]
        exact r2

theorem q_slice (h : Inv X T st a w pl fp) {t : TypeId} {x : Operand} {lo hi mx : Option Operand} (ho : o.op = .slice t x lo hi mx) (hr : (prim P nm st.ev st.chunk (.slice t x lo hi mx)).run = some u) : Quiet1 X pl P w a o u := by
  simp only [prim] at hr
  have hx := ev_ok h x
  split at hr
  · cases hr
  have he : execOp a.eval o = (do pure (.value (← Instr.sliceAt t (a.eval x) (lo.map a.eval) (hi.map a.eval) none))) := by unfold execOp; rw [ho]; rfl
  split at hr
  · rename_i s hq
    rw [hq] at hx
    obtain ⟨hk, hr⟩ := Res.run_cond hr
    have ht := knd_string hk
    obtain ⟨l, r, h1, h2, h3, h4⟩ := bnd_ok (P := P) (w := w) h hr false s.size (Nat.le_refl _)
    rw [run_pure1 h3]
    exact ⟨_, by rw [he, hx.sr]; exact run_v (run_sliceAt_string ht h4), rfl, rfl⟩
  · rename_i y e' xs hq
    rw [hq] at hx
    split at hr
    case h_2 => cases hr
    rename_i m hm
    obtain ⟨hk, hr⟩ := Res.run_cond hr
    have hk := Nat.eq_of_beq_eq_true hk
    obtain ⟨e, inf, g1, g2, g3, _⟩ := elSz_spec hm
    obtain ⟨A, cap, ev⟩ := RdS.shape hx
    have hcap : xs.length ≤ cap := by
      rcases (show RdS _ _ _ _ _ _ from hx) with ⟨e1, e0⟩ | ⟨ad, cap', e1, hl, _⟩
      · subst e0; exact Nat.zero_le _
      · rw [ev] at e1; injection e1 with _ _ e1; subst e1; exact hl
    obtain ⟨l, r, h1, h2, h3, h4⟩ := bnd_ok (P := P) (w := w) h hr true cap hcap
    rw [run_pure1 h3]
    refine ⟨_, by rw [he, ev]; exact run_v (run_sliceAt_slice g1 g2 h4), ?_, rfl⟩
    have := RdS.cut hx h1 h2 ev
    rw [g3, hk]
    exact this
  · rename_i c hq
    rw [hq] at hx
    split at hr
    case h_2 => cases hr
    rename_i y e' xs m hch hm
    obtain ⟨hk, hr⟩ := Res.run_cond hr
    have hk := Nat.eq_of_beq_eq_true hk
    obtain ⟨e, inf, g1, g2, g3, _⟩ := elSz_spec hm
    obtain ⟨p, e1, e2, e3⟩ := rows_pl h hch
    obtain ⟨q, hq', hv⟩ := hx
    rw [e1] at hq'; injection hq' with hq'; subst hq'
    obtain ⟨A, cap, ev⟩ := hv.shape
    have key : ∀ f : Nat → Nat → Res Upd, (prim.bnd st.ev lo hi xs.length f).run = some u → ∃ l r, l ≤ r ∧ r ≤ xs.length ∧ (f l r).run = some u ∧
        ∃ v, (execOp a.eval o).run P w = .ok (.value v) w ∧ SlV p l (r - l) v := by
      intro f hf
      have hcap := (hv.cut (Nat.le_refl 0) (Nat.zero_le _) ev).1
      obtain ⟨l, r, h1, h2, h3, h4⟩ := bnd_ok (P := P) (w := w) h hf true cap (by omega)
      refine ⟨l, r, h1, h2, h3, _, by rw [he, ev, e2]; exact run_v (run_sliceAt_slice g1 g2 h4), ?_⟩
      have := (hv.cut h1 (by omega) ev).2
      rw [g3, hk, ← e3]
      simpa using this
    split at hr
    · obtain ⟨l, r, h1, h2, h3, v, hv1, hv2⟩ := key (fun _ _ => pure1 (.slw c)) (by simpa [prim.bnd] using hr)
      rw [run_pure1 h3]
      have hb : (Instr.sliceBounds true xs.length cap none none none).run P w = .ok (0, xs.length, cap) w := by simp [Instr.sliceBounds]
      refine ⟨_, by rw [he, ev, e2]; exact run_v (run_sliceAt_slice g1 g2 hb), ⟨p, e1, ?_⟩, rfl⟩
      have := (hv.cut (Nat.zero_le _) (Nat.le_refl p.len) ev).2
      rw [g3, hk, ← e3, ← e2]
      simpa using this
    · obtain ⟨l, r, h1, h2, h3, v, hv1, hv2⟩ := key _ hr
      rw [run_pure1 h3]
      exact ⟨v, hv1, ⟨p, e1, hv2⟩, rfl⟩
  · rename_i c off len hq
    rw [hq] at hx
    split at hr
    case h_2 => cases hr
    rename_i y e' xs m hch hm
    obtain ⟨hk, hr⟩ := Res.run_cond hr
    have hk := Nat.eq_of_beq_eq_true hk
    obtain ⟨e, inf, g1, g2, g3, _⟩ := elSz_spec hm
    obtain ⟨p, e1, e2, e3⟩ := rows_pl h hch
    obtain ⟨q, hq', hv⟩ := hx
    rw [e1] at hq'; injection hq' with hq'; subst hq'
    obtain ⟨A, cap, ev⟩ := hv.shape
    have hcap := (hv.cut (Nat.le_refl 0) (Nat.zero_le _) ev).1
    obtain ⟨l, r, h1, h2, h3, h4⟩ := bnd_ok (P := P) (w := w) h hr true cap hcap
    rw [run_pure1 h3]
    refine ⟨_, by rw [he, ev]; exact run_v (run_sliceAt_slice g1 g2 h4), ⟨p, e1, ?_⟩, rfl⟩
    have := (hv.cut h1 h2 ev).2
    rw [g3, hk, ← e3]
    exact this
  · rename_i hq
    rw [hq] at hx
    have hx : a.eval x = .slice none 0 0 := hx
    split at hr
    case h_2 => cases hr
    rename_i m hm
    obtain ⟨e, inf, g1, g2, g3, _⟩ := elSz_spec hm
    obtain ⟨l, r, h1, h2, h3, h4⟩ := bnd_ok (P := P) (w := w) h hr true 0 (Nat.le_refl _)
    rw [run_pure1 h3]
    have hl : l = 0 := by omega
    have hr0 : r = 0 := by omega
    subst hl; subst hr0
    exact ⟨_, by rw [he, hx]; exact run_v (run_sliceAt_slice g1 g2 h4), rfl, rfl⟩
  · cases hr
end

end Go.Proofs.YthpklbpdchckkaaEv

namespace Go.Proofs.YthpklbpdchckkaaEv
open Go.RowKit (Below)
set_option linter.unusedVariables false
set_option linter.unusedSectionVars false
set_option linter.unusedSimpArgs false

section
variable {X : Cx} {T : Nat} {st : St} {a : Act} {w : World} {pl : PlM} {fp : FpM} {P : Program} {o : Oper} {u : Upd} {nm : Nat}

theorem bAt_get (s : ByteArray) (i : Nat) (h : i < s.size) : s[i]? = some (s.data.getD i 0) := by
  have h2 : i < s.data.size := h
  rw [getElem?_pos s i h]
  simp only [Array.getD, h2, dite_true]
  rfl

theorem sel_ok {n : Nat} : ∀ {xs : List Cell} {us : List Value} {i : Nat} {v : Val}, All2 (CR X pl) xs us → prim.sel n i xs = some v → i ≤ n → n < i + xs.length → ∃ y, us[n - i]? = some y ∧ VR X pl v y
  | [], _, _, _, _, hs, _, _ => by simp [prim.sel] at hs
  | [x], _, i, v, .cons hx .nil, hs, h1, h2 => by
    simp only [prim.sel, Option.some.injEq] at hs; subst hs
    simp at h2
    exact ⟨_, by rw [show n - i = 0 by omega]; rfl, hx⟩
  | x :: x' :: r, _, i, v, .cons (y := y0) hx ht, hs, h1, h2 => by
    simp only [prim.sel] at hs
    split at hs
    case h_2 => cases hs
    rename_i v' hv'
    injection hs with hs; subst hs
    by_cases hn : n = i
    · subst hn
      have hb : Nat.beq n n = true := Nat.beq_refl n
      rw [hb]
      refine ⟨y0, by simp, ?_⟩
      have : ∀ p q : Val, VR X pl p y0 → VR X pl (mergeV true p q) y0 := by
        intro p q hp
        unfold mergeV
        split
        · exact hp
        · rename_i k x l y
          cases kbeq k l <;> exact hp
        · exact hp
        · exact hp
      exact this _ _ hx
    · have hb : Nat.beq n i = false := Bool.eq_false_iff.mpr fun hh => hn (Nat.eq_of_beq_eq_true hh)
      rw [hb]
      obtain ⟨y, hy, hvy⟩ := sel_ok (i := i + 1) ht hv' (by omega) (by simp at h2 ⊢; omega)
      refine ⟨y, ?_, ?_⟩
      · rw [show n - i = (n - (i + 1)) + 1 by omega]; simpa using hy
      · have : ∀ p q : Val, VR X pl q y → VR X pl (mergeV false p q) y := by
          intro p q hp
          unfold mergeV
          split
          · exact hp
          · rename_i k x l y
            cases hk : kbeq k l
            · exact hp
            · have := kbeq_eq hk; subst this; exact hp
          · exact hp
          · exact hp
        exact this _ _ hvy

theorem q_index (h : Inv X T st a w pl fp) {t : TypeId} {x ix : Operand} (ho : o.op = .index t x ix) (hr : (prim P nm st.ev st.chunk (.index t x ix)).run = some u) : Quiet1 X pl P w a o u := by
  simp only [prim] at hr
  have hx := ev_ok h x
  have hix := ev_ok h ix
  have he : execOp a.eval o = (do pure (.value (← Instr.index t (a.eval x) (a.eval ix)))) := by unfold execOp; rw [ho]
  split at hr
  · rename_i s k n hq hn
    rw [hq] at hx; rw [hn] at hix
    obtain ⟨hk, hr⟩ := Res.run_cond hr
    have ht := knd_string hk
    obtain ⟨hc, hr⟩ := Res.run_chk hr
    obtain ⟨h0, hlt⟩ := idxE_spec hc
    rw [run_pure1 hr]
    refine ⟨.int .u8 (bAt s n.toNat), ?_, rfl, rfl⟩
    rw [he, hx.sr, hix.nu]
    refine run_v ?_
    have hg : s[n.toNat]? = some (s.data.getD n.toNat 0) := bAt_get s _ (by omega)
    simp [Instr.index, asIntOf, run_underlying' ht, h0, hg, bAt]
  · rename_i cs k n hq hn
    rw [hq] at hx; rw [hn] at hix
    obtain ⟨us, e, hall⟩ := hx
    split at hr
    case h_2 => cases hr
    rename_i i hi
    split at hr
    case h_2 => cases hr
    rename_i j hj
    obtain ⟨hk, hr⟩ := Res.run_cond hr
    simp only [Bool.and_eq_true, Bool.not_eq_true'] at hk
    obtain ⟨⟨⟨hk1, hk2⟩, hk3⟩, hk4⟩ := hk
    have hk1 := Nat.eq_of_beq_eq_true hk1
    have hk3 := Nat.eq_of_beq_eq_true hk3
    have hk4 := Nat.eq_of_beq_eq_true hk4
    obtain ⟨hc, hr⟩ := Res.run_chk hr
    obtain ⟨h0, hlt⟩ := idxE_spec hc
    split at hr
    case h_2 => cases hr
    rename_i v hv
    simp only [Res.run, Option.some.injEq] at hr; subst hr
    obtain ⟨inf, d, g1, g2, g3, g4, g5, g6, g7⟩ := ti_spec hi
    obtain ⟨inf', d', f1, f2, f3, f4, f5, f6, f7⟩ := ti_spec hj
    cases d <;> simp only [hk4] at g7 <;> first
      | (exact absurd g7 (by decide))
      | (exact absurd g7.1 (by decide))
      | skip
    rename_i len elem
    obtain ⟨_, g8, g9⟩ := g7
    obtain ⟨y, hy, hvy⟩ := sel_ok (i := 0) hall hv (Nat.zero_le _) (by omega)
    refine ⟨y, ?_, hvy, rfl⟩
    rw [he, e, hix.nu]
    refine run_v ?_
    have hsz : (sizeOf elem).run P w = .ok 1 w := by rw [← g8, run_sizeOf' f1, ← f3, hk1]
    have hag : (isAgg elem).run P w = .ok false w := by rw [← g8, run_isAgg' f2, ← f6, hk2]
    have hy' : us[n.toNat]? = some y := by rw [← Array.getElem?_toList]; simpa using hy
    have hlt' : n < (len : Int) := by rw [← g9, hk3]; exact hlt
    simp [Instr.index, asIntOf, run_underlying' g2, h0, hlt', hsz, part, hag, hy']
  · cases hr

theorem q_makeFunc (h : Inv X T st a w pl fp) {f : Fn} {first captured : Array Operand} (ho : o.op = .makeFunc f first captured) (hr : (prim P nm st.ev st.chunk (.makeFunc f first captured)).run = some u) : Quiet1 X pl P w a o u := by
  cases f <;> simp only [prim] at hr <;> try (cases hr; done)
  rename_i f
  split at hr
  case h_2 => cases hr
  rename_i cs h1 h2
  rw [run_pure1 hr]
  have hcaps : ∀ (l : List Operand) cs, prim.caps (l.map st.ev) = some cs → All2 (fun c u => ∃ p, pl c = some p ∧ u = Value.pointer (some ⟨p.g, 0, none⟩)) cs (l.map a.eval) := by
    intro l
    induction l with
    | nil => intro cs hc; simp [prim.caps] at hc; subst hc; exact .nil
    | cons x r ih =>
      intro cs hc
      simp only [List.map_cons] at hc
      unfold prim.caps at hc
      split at hc <;> first | (cases hc; done) | skip
      · rename_i heq; simp at heq
      · rename_i c r' heq
        injection heq with e1 e2
        subst e2
        split at hc
        case h_2 => cases hc
        rename_i cs' hcs'
        injection hc with hc; subst hc
        have hx := ev_ok h x
        rw [e1] at hx
        exact .cons hx (ih _ hcs')
  refine ⟨.func (.func f) #[] (captured.map a.eval), ?_, ⟨_, rfl, by rw [Array.toList_map]; exact hcaps _ _ h2⟩, rfl⟩
  have hf : first.map a.eval = #[] := by
    apply Array.ext'
    rw [Array.toList_map, h1]; rfl
  unfold execOp; rw [ho]
  refine run_v ?_
  simp only [hf]; rfl

theorem q_convert (h : Inv X T st a w pl fp) {src dst : TypeId} {x : Operand} (ho : o.op = .convert src dst x) {k : IntKind} {n : Int} {s : ByteArray}
    (hq : st.ev x = .c (.nu k n) ∨ (st.ev x = .c (.sr s) ∧ kndIs P dst 2 = true)) (hr : (prim P nm st.ev st.chunk (.convert src dst x)).run = some u) : Quiet1 X pl P w a o u := by
  simp only [prim] at hr
  have hx := ev_ok h x
  have he : execOp a.eval o = (do pure (.value (← convert src dst (a.eval x)))) := by unfold execOp; rw [ho]
  rcases hq with hq | ⟨hq, hd2⟩
  · rw [hq] at hx hr
    split at hr <;> rename_i heq <;> first | (cases heq; done) | skip
    · rename_i i d _ _ hi hd
      injection heq with heq
      injection heq with e1 e2
      subst e1; subst e2
      obtain ⟨hk, hr⟩ := Res.run_cond hr
      have ht := knd_int hd (Nat.eq_of_beq_eq_true hk)
      obtain ⟨inf, ds, g1, g2, _⟩ := ti_spec hi
      rw [run_pure1 hr]
      refine ⟨_, ?_, rfl, rfl⟩
      rw [he, hx.nu]
      refine run_v ?_
      simp [convert, run_underlying' g2, run_underlying' ht, Conv.intToInt]
    · exfalso; injection heq with heq; subst heq; exact (by assumption : ∀ (k' : IntKind) (n' : Int), Cell.nu k n = Cell.nu k' n' → False) k n rfl
    · cases hr
  · rw [hq] at hx hr
    split at hr <;> rename_i heq <;> first | (cases heq; done) | skip
    · rename_i i d _ hi hd
      injection heq with heq
      injection heq with e1
      subst e1
      have hk : Nat.beq d.knd 2 = true := by unfold kndIs at hd2; rw [hd] at hd2; exact hd2
      rw [hk] at hr
      simp only [cond_true] at hr
      have ht := knd_string hd2
      obtain ⟨inf, ds, g1, g2, _⟩ := ti_spec hi
      rw [run_pure1 hr]
      refine ⟨_, ?_, rfl, rfl⟩
      rw [he, hx.sr]
      refine run_v ?_
      simp [convert, run_underlying' g2, run_underlying' ht]
    · exfalso; injection heq with heq; subst heq; exact (by assumption : ∀ (s' : ByteArray), Cell.sr s = Cell.sr s' → False) s rfl
    · cases hr
end

end Go.Proofs.YthpklbpdchckkaaEv

namespace Go.Proofs.YthpklbpdchckkaaEv
open Go.RowKit (Below)
set_option linter.unusedVariables false
set_option linter.unusedSectionVars false
set_option linter.unusedSimpArgs false

section
variable {X : Cx} {T : Nat} {st : St} {a : Act} {w : World} {pl : PlM} {fp : FpM} {P : Program}

theorem rangeAt_append {w : World} {b o : Nat} {us vs : List Value} (h : w.rangeAt b o (us ++ vs)) : w.rangeAt b o us ∧ w.rangeAt b (o + us.length) vs := by
  refine ⟨fun j v hv => h j v ?_, fun j v hv => ?_⟩
  · rw [List.getElem?_append_left (List.getElem?_eq_some_iff.1 hv).1]; exact hv
  · have := h (us.length + j) v (by rw [List.getElem?_append_right (by omega), Nat.add_sub_cancel_left]; exact hv)
    rwa [← Nat.add_assoc] at this
theorem rangeAt_join {w : World} {b o : Nat} {us vs : List Value} (h : w.rangeAt b o us) (k : w.rangeAt b (o + us.length) vs) : w.rangeAt b o (us ++ vs) := by
  intro j v hv
  by_cases hj : j < us.length
  · rw [List.getElem?_append_left hj] at hv; exact h j v hv
  · rw [List.getElem?_append_right (by omega)] at hv
    have := k _ v hv
    rwa [Nat.add_assoc, Nat.add_sub_cancel' (by omega)] at this
theorem rangeAt_nil (w : World) (b o : Nat) : w.rangeAt b o [] := fun j v h => by simp at h
theorem rangeAt_drop {w : World} {b o : Nat} {us : List Value} (h : w.rangeAt b o us) (j : Nat) : w.rangeAt b (o + j) (us.drop j) := fun i v hv => by
  rw [List.getElem?_drop] at hv
  have := h _ v hv
  rwa [← Nat.add_assoc] at this
theorem rangeAt_take {w : World} {b o : Nat} {us : List Value} (h : w.rangeAt b o us) (n : Nat) : w.rangeAt b o (us.take n) := fun i v hv => by
  rw [List.getElem?_take] at hv
  split at hv
  · exact h _ v hv
  · cases hv

/-- a part of a row of elements -/
theorem OwR.split {w : World} {t : Ty} : ∀ {xs : List t.D} {us : List Value} {f : List Nat} (n : Nat), OwR (OwC w t) xs us f → ∃ u1 u2 f1 f2, us = u1 ++ u2 ∧ f = f1 ++ f2 ∧ OwR (OwC w t) (xs.take n) u1 f1 ∧ OwR (OwC w t) (xs.drop n) u2 f2
  | xs, us, f, 0, h => ⟨[], us, [], f, rfl, rfl, by simp [OwR], by simpa using h⟩
  | [], us, f, n + 1, h => ⟨[], us, [], f, rfl, rfl, by simp [OwR], by simpa using h⟩
  | x :: xs, us, f, n + 1, ⟨p, q, g, k, e1, e2, h1, h2⟩ => by
    obtain ⟨u1, u2, f1, f2, e3, e4, h3, h4⟩ := OwR.split n h2
    exact ⟨p ++ u1, u2, g ++ f1, f2, by rw [e1, e3, List.append_assoc], by rw [e2, e4, List.append_assoc], ⟨p, u1, g, f1, rfl, rfl, h1, h3⟩, h4⟩

theorem OwR.at_ {w : World} {t : Ty} {xs : List t.D} {us : List Value} {f : List Nat} (h : OwR (OwC w t) xs us f) {i : Nat} {x : t.D} (hx : xs[i]? = some x) :
    ∃ u1 b u2 f1 g f2, us = u1 ++ b ++ u2 ∧ f = f1 ++ g ++ f2 ∧ u1.length = i * t.n ∧ OwC w t x b g ∧ OwR (OwC w t) (xs.take i) u1 f1 ∧ OwR (OwC w t) (xs.drop (i + 1)) u2 f2 := by
  obtain ⟨u1, u2, f1, f2, e1, e2, h1, h2⟩ := h.split i
  have hi : i < xs.length := (List.getElem?_eq_some_iff.1 hx).1
  have hd : xs.drop i = x :: xs.drop (i + 1) := by
    rw [List.drop_eq_getElem_cons hi, (List.getElem?_eq_some_iff.1 hx).2]
  rw [hd] at h2
  obtain ⟨p, q, g, k, e3, e4, h3, h4⟩ := h2
  refine ⟨u1, p, q, f1, g, k, by rw [e1, e3, List.append_assoc], by rw [e2, e4, List.append_assoc], ?_, h3, h1, h4⟩
  rw [OwR.len h1, List.length_take]
  rw [Nat.min_eq_left (by omega)]

/-! ### cells that hold on to what they own -/
def OC (X : Cx) (w : World) : Cell → Value → List Nat → Prop
  | .own t e xs, v, f => OwS w e t.n (OwC w t) xs v f
  | .mov t e xs, v, f => OwS w e t.n (OwC w t) xs v f
  | x, v, f => f = [] ∧ CR X (fun _ => none) x v

inductive OCs (X : Cx) (w : World) : List Cell → List Value → List Nat → Prop where
  | nil : OCs X w [] [] []
  | cons {x v f xs vs g} (h : OC X w x v f) (t : OCs X w xs vs g) : OCs X w (x :: xs) (v :: vs) (f ++ g)

theorem OCs.len {xs : List Cell} {vs : List Value} {f : List Nat} (h : OCs X w xs vs f) : xs.length = vs.length := by
  induction h with
  | nil => rfl
  | cons _ _ ih => simp [ih]
theorem OCs.split {xs : List Cell} {vs : List Value} {f : List Nat} (h : OCs X w xs vs f) (n : Nat) : ∃ f1 f2, f = f1 ++ f2 ∧ OCs X w (xs.take n) (vs.take n) f1 ∧ OCs X w (xs.drop n) (vs.drop n) f2 := by
  induction h generalizing n with
  | nil => exact ⟨[], [], rfl, by simp; exact .nil, by simp; exact .nil⟩
  | @cons x v f xs vs g hx ht ih =>
    cases n with
    | zero => exact ⟨[], f ++ g, rfl, by simp; exact .nil, .cons hx ht⟩
    | succ n =>
      obtain ⟨f1, f2, e, h1, h2⟩ := ih n
      exact ⟨f ++ f1, f2, by rw [e, List.append_assoc], .cons hx h1, h2⟩

theorem one_OC {t : List Cell} {vs : List Value} {f : List Nat} (h : OCs X w t vs f) (hx : one t ≠ .dead) : ∃ v, vs = [v] ∧ OC X w (one t) v f ∧ t = [one t] := by
  cases h with
  | nil => exact absurd rfl hx
  | cons hx' ht =>
    cases ht with
    | nil => exact ⟨_, rfl, by simpa [one] using hx', rfl⟩
    | cons _ _ => exact absurd rfl hx

theorem decO_ok {vs : List Value} : ∀ {t : Ty} {cs : List Cell} {y : t.D} {vs : List Value} {f : List Nat}, decO t cs = some y → OCs X w cs vs f → OwC w t y vs f
  | .int k, cs, y, vs, f, hd, h => by
    simp only [decO] at hd
    split at hd
    case h_2 => cases hd
    rename_i q n e
    obtain ⟨v, rfl, ho, _⟩ := one_OC h (by rw [e]; intro h; cases h)
    rw [e] at ho
    cases hk : kbeq k q
    · rw [hk] at hd; cases hd
    · rw [hk] at hd
      injection hd with hd; subst hd
      have := kbeq_eq hk; subst this
      exact ⟨by rw [show v = _ from ho.2], ho.1⟩
  | .bool, cs, y, vs, f, hd, h => by
    simp only [decO] at hd
    split at hd
    case h_2 => cases hd
    rename_i x e
    obtain ⟨v, rfl, ho, _⟩ := one_OC h (by rw [e]; intro h; cases h)
    rw [e] at ho
    injection hd with hd; subst hd
    exact ⟨by rw [show v = _ from ho.2], ho.1⟩
  | .str, cs, y, vs, f, hd, h => by
    simp only [decO] at hd
    split at hd
    case h_2 => cases hd
    rename_i x e
    obtain ⟨v, rfl, ho, _⟩ := one_OC h (by rw [e]; intro h; cases h)
    rw [e] at ho
    injection hd with hd; subst hd
    exact ⟨by rw [show v = _ from ho.2], ho.1⟩
  | .unit, cs, y, vs, f, hd, h => by
    simp only [decO] at hd
    split at hd
    case h_2 => cases hd
    cases h
    exact ⟨rfl, rfl⟩
  | .pr p q, cs, y, vs, f, hd, h => by
    simp only [decO] at hd
    split at hd
    case h_2 => cases hd
    rename_i x z h1 h2
    injection hd with hd; subst hd
    obtain ⟨f1, f2, e, g1, g2⟩ := h.split p.n
    exact ⟨_, _, f1, f2, (List.take_append_drop p.n vs).symm, e, decO_ok (vs := vs) h1 g1, decO_ok (vs := vs) h2 g2⟩
  | .sl e t, cs, y, vs, f, hd, h => by
    simp only [decO] at hd
    split at hd
    · rename_i t' e' xs hq
      obtain ⟨v, rfl, ho, _⟩ := one_OC h (by rw [hq]; intro h; cases h)
      rw [hq] at ho
      cases hk : Nat.beq e e'
      · rw [hk] at hd; cases hd
      · rw [hk] at hd
        have := Nat.eq_of_beq_eq_true hk; subst this
        simp only [cond_true, castL] at hd
        split at hd
        case isFalse => cases hd
        rename_i hb
        have hb' := Ty.beq_eq hb
        subst hb'
        injection hd with hd; subst hd
        exact ⟨v, rfl, ho⟩
    · rename_i hq
      obtain ⟨v, rfl, ho, _⟩ := one_OC h (by rw [hq]; intro h; cases h)
      rw [hq] at ho
      injection hd with hd; subst hd
      exact ⟨v, rfl, .inl ⟨ho.2, rfl, ho.1⟩⟩
    · cases hd

/-- a chunk, as a slice value that owns it -/
theorem chunk_own (h : Inv X T st a w pl fp) {c : Nat} {t : Ty} {e : TypeId} {xs : List t.D} (hc : st.chunk c = some (.rows t e xs)) {off len : Nat} {v : Value} {p : Pl} (hp : pl c = some p) (hv : SlV p off len v) :
    ∃ f, OwS w e t.n (OwC w t) ((xs.drop off).take len) v f ∧ (∀ b ∈ f, b ∈ fp c) ∧ f.Nodup := by
  obtain ⟨q, us, f, e1, e2, e3, hh, ho⟩ := h.ch c _ hc
  rw [hp] at e1; injection e1 with e1; subst e1
  rcases hv with ⟨rfl, rfl, _⟩ | ⟨o, cap, rfl, h1, h2, h3, hl⟩
  · exact ⟨[], .inl ⟨rfl, by simp, rfl⟩, by simp, List.nodup_nil⟩
  · rcases hh with ⟨_, _, _, hl'⟩ | ⟨e4, e5, ht, hr, _⟩
    · rw [hl] at hl'; cases hl'
    · have hnd := h.nd c _ hc
      have hgl := (h.lt p.g c ⟨⟨_, hc⟩, by rw [e4]; exact List.mem_cons_self ..⟩).1
      obtain ⟨u1, u2, f1, f2, g1, g2, k1, k2⟩ := ho.split off
      obtain ⟨u3, u4, f3, f4, g3, g4, k3, k4⟩ := k2.split len
      have hlen : ((xs.drop off).take len).length = len := by
        rw [List.length_take, List.length_drop]
        rcases Nat.eq_zero_or_pos len with h0 | h0
        · simp [h0]
        · have := (h3 h0).2; omega
      refine ⟨p.g :: f3, .inr ⟨p.g, o, cap, p.top, u3, f3, by rw [hlen], by rw [hlen]; exact h1, by rw [← e3]; exact h2, ht, hgl, ?_, k3, rfl⟩, ?_, ?_⟩
      · rcases Nat.eq_zero_or_pos len with h0 | h0
        · have : u3 = [] := by
            have := OwR.len k3
            rw [hlen, h0] at this
            exact List.eq_nil_of_length_eq_zero (by simpa using this)
          rw [this]; exact rangeAt_nil _ _ _
        · obtain ⟨h4, h5⟩ := h3 h0
          have hu1 : u1.length = off * t.n := by rw [OwR.len k1, List.length_take, Nat.min_eq_left (by omega)]
          rw [g1] at hr
          have := (rangeAt_append hr).2
          rw [g3] at this
          have := (rangeAt_append this).1
          rw [hu1] at this
          rw [h4, e3]; exact this
      · intro b hb
        rw [e4]
        rcases List.mem_cons.1 hb with rfl | hb
        · exact List.mem_cons_self ..
        · refine List.mem_cons_of_mem _ ?_
          rw [g2, g4]
          exact List.mem_append.2 (.inr (List.mem_append.2 (.inl hb)))
      · rw [e4, g2, g4] at hnd
        refine List.nodup_cons.2 ⟨fun hb => (List.nodup_cons.1 hnd).1 (List.mem_append.2 (.inr (List.mem_append.2 (.inl hb)))), ?_⟩
        have := (List.nodup_cons.1 hnd).2
        exact (List.nodup_append.1 (List.nodup_append.1 this).2.1).1

theorem ownC_ok (h : Inv X T st a w pl fp) {x y : Cell} {ids : List Nat} {v : Value} (ho : ownC st.chunk x = some (y, ids)) (hv : CR X pl x v) :
    ∃ f, OC X w y v f ∧ (∀ b ∈ f, ∃ c ∈ ids, OwnB st fp b c) ∧ f.Nodup := by
  cases x <;> simp only [ownC] at ho <;> first
    | (cases ho; done)
    | skip
  case slw c =>
    split at ho
    case h_2 => cases ho
    rename_i t e xs hc
    injection ho with ho; injection ho with e1 e2; subst e1; subst e2
    obtain ⟨p, hp, hv⟩ := hv
    obtain ⟨p', g1, g2, g3⟩ := rows_pl h hc
    rw [hp] at g1; injection g1 with g1; subst g1
    obtain ⟨f, k1, k2, k3⟩ := chunk_own h hc hp hv
    refine ⟨f, ?_, fun b hb => ⟨c, List.mem_singleton.2 rfl, ⟨_, hc⟩, k2 b hb⟩, k3⟩
    rw [g2] at k1; exact (by simpa using k1 : OwS w e t.n (OwC w t) xs v f)
  case sl c off len =>
    split at ho
    case h_2 => cases ho
    rename_i t e xs hc
    injection ho with ho; injection ho with e1 e2; subst e1; subst e2
    obtain ⟨p, hp, hv⟩ := hv
    obtain ⟨f, k1, k2, k3⟩ := chunk_own h hc hp hv
    exact ⟨f, k1, fun b hb => ⟨c, List.mem_singleton.2 rfl, ⟨_, hc⟩, k2 b hb⟩, k3⟩
  all_goals
    injection ho with ho; injection ho with e1 e2; subst e1; subst e2
    exact ⟨[], ⟨rfl, hv⟩, by simp, List.nodup_nil⟩

theorem nodupB_spec : ∀ {l : List Nat}, nodupB l = true → l.Nodup
  | [], _ => List.nodup_nil
  | x :: xs, h => by
    simp only [nodupB, Bool.and_eq_true, Bool.not_eq_true'] at h
    refine List.nodup_cons.2 ⟨fun hx => ?_, nodupB_spec h.2⟩
    have := List.any_eq_false.1 h.1 x hx
    simp at this

theorem ownCs_ok (h : Inv X T st a w pl fp) : ∀ {xs ys : List Cell} {ids : List Nat} {vs : List Value}, ownCs st.chunk xs = some (ys, ids) → All2 (CR X pl) xs vs →
    ∃ f, OCs X w ys vs f ∧ (∀ b ∈ f, ∃ c ∈ ids, OwnB st fp b c) ∧ (ids.Nodup → f.Nodup)
  | [], ys, ids, _, ho, .nil => by
    simp [ownCs] at ho
    obtain ⟨rfl, rfl⟩ := ho
    exact ⟨[], .nil, by simp, fun _ => List.nodup_nil⟩
  | x :: xs, ys, ids, _, ho, .cons hx ht => by
    simp only [ownCs] at ho
    split at ho
    case h_2 => cases ho
    rename_i y i1 ys' i2 h1 h2
    injection ho with ho; injection ho with e1 e2; subst e1; subst e2
    obtain ⟨f, k1, k2, k3⟩ := ownC_ok h h1 hx
    obtain ⟨g, m1, m2, m3⟩ := ownCs_ok h h2 ht
    refine ⟨f ++ g, .cons k1 m1, fun b hb => ?_, fun hn => ?_⟩
    · rcases List.mem_append.1 hb with hb | hb
      · obtain ⟨c, hc, ho⟩ := k2 b hb; exact ⟨c, List.mem_append.2 (.inl hc), ho⟩
      · obtain ⟨c, hc, ho⟩ := m2 b hb; exact ⟨c, List.mem_append.2 (.inr hc), ho⟩
    · have hn := List.nodup_append.1 hn
      refine List.nodup_append.2 ⟨k3, m3 hn.2.1, fun b hb b' hb' e => ?_⟩
      subst e
      obtain ⟨c, hc, ho⟩ := k2 b hb
      obtain ⟨c', hc', ho'⟩ := m2 b hb'
      exact hn.2.2 c hc c' hc' (h.dj b c c' ho ho')

/-- what a row's cells are, where no slice is nested -/
theorem cellsR_flat {w : World} : ∀ {t : Ty} {x : t.D} {us : List Value} {f : List Nat}, flat t = true → OwC w t x us f → All2 (CR X pl) (cellsR 0 t x) us ∧ f = []
  | .int _, _, _, _, _, ⟨rfl, rfl⟩ | .bool, _, _, _, _, ⟨rfl, rfl⟩ | .str, _, _, _, _, ⟨rfl, rfl⟩ => ⟨.cons rfl .nil, rfl⟩
  | .unit, _, _, _, _, ⟨rfl, rfl⟩ => ⟨.nil, rfl⟩
  | .pr p q, _, _, _, hf, ⟨u1, u2, f1, f2, rfl, rfl, h1, h2⟩ => by
    have hf := (Bool.and_eq_true _ _).mp hf
    obtain ⟨k1, rfl⟩ := cellsR_flat hf.1 h1
    obtain ⟨k2, rfl⟩ := cellsR_flat hf.2 h2
    exact ⟨k1.append k2, rfl⟩
  | .sl _ _, _, _, _, hf, _ => nomatch hf
theorem cellsR_read {z : Nat} : ∀ {t : Ty} {x : t.D} {us : List Value}, RdC X.w0 (X.Z z) t x us → All2 (CR X pl) (cellsR z t x) us
  | .int _, _, _, h | .bool, _, _, h | .str, _, _, h => by rw [show _ = _ from h]; exact .cons rfl .nil
  | .unit, _, us, h => by have h : us = [] := h; subst h; exact .nil
  | .pr p q, _, _, ⟨u1, u2, rfl, h1, h2⟩ => (cellsR_read h1).append (cellsR_read h2)
  | .sl _ _, _, _, ⟨v, rfl, h⟩ => .cons h .nil
theorem cellsO_ok {w : World} : ∀ {t : Ty} {x : t.D} {us : List Value} {f : List Nat}, OwC w t x us f → OCs X w (cellsO t x) us f
  | .int _, _, _, _, ⟨rfl, rfl⟩ | .bool, _, _, _, ⟨rfl, rfl⟩ | .str, _, _, _, ⟨rfl, rfl⟩ => .cons (f := []) ⟨rfl, rfl⟩ .nil
  | .unit, _, _, _, ⟨rfl, rfl⟩ => .nil
  | .pr p q, _, _, _, ⟨u1, u2, f1, f2, rfl, rfl, h1, h2⟩ => app (cellsO_ok h1) (cellsO_ok h2)
  | .sl e t, x, _, f, ⟨v, rfl, h⟩ => by
    have := OCs.cons (X := X) (w := w) (x := .own t e x) (f := f) h .nil
    rw [List.append_nil] at this; exact this
where
  app {w : World} {xs ys : List Cell} {us vs : List Value} {f g : List Nat} (h : OCs X w xs us f) (k : OCs X w ys vs g) : OCs X w (xs ++ ys) (us ++ vs) (f ++ g) := by
    induction h with
    | nil => exact k
    | cons hx _ ih => rw [List.append_assoc]; exact .cons hx ih
end

end Go.Proofs.YthpklbpdchckkaaEv

namespace Go.Proofs.YthpklbpdchckkaaEv
open Go.RowKit (Below)
set_option linter.unusedVariables false
set_option linter.unusedSectionVars false
set_option linter.unusedSimpArgs false

section
variable {X : Cx} {T : Nat} {st : St} {a : Act} {w w' : World} {pl : PlM} {fp : FpM} {P : Program}

def setPl (pl : PlM) (nm : Nat) (p : Pl) : PlM := fun c => if c = nm then some p else pl c
theorem setPl_old {pl : PlM} {nm : Nat} {p : Pl} (h : pl nm = none) : ∀ c q, pl c = some q → setPl pl nm p c = some q := by
  intro c q hc
  unfold setPl
  split
  · rename_i e; subst e; rw [h] at hc; cases hc
  · exact hc
theorem setPl_new (pl : PlM) (nm : Nat) (p : Pl) : setPl pl nm p nm = some p := by simp [setPl]
theorem setPl_fresh {pl : PlM} {nm n : Nat} {p : Pl} (h : ∀ c, n ≤ c → pl c = none) (hn : nm < n) : ∀ c, n ≤ c → setPl pl nm p c = none := by
  intro c hc
  unfold setPl
  rw [if_neg (by omega)]
  exact h c hc

theorem look_gone : ∀ {ids : List Nat} {c : Nat} {x : Option Chunk}, look (gone ids) c = some x → x = none ∧ c ∈ ids
  | [], _, _, h => by simp [gone, look] at h
  | i :: r, c, x, h => by
    simp only [gone, List.map_cons, look] at h
    cases hb : Nat.beq i c
    · rw [hb] at h
      simp only [cond_false] at h
      have := look_gone (ids := r) h
      exact ⟨this.1, List.mem_cons_of_mem _ this.2⟩
    · rw [hb] at h
      injection h with h
      exact ⟨h.symm, by rw [Nat.eq_of_beq_eq_true hb]; exact List.mem_cons_self ..⟩
theorem gone_look : ∀ {ids : List Nat} {c : Nat}, c ∈ ids → look (gone ids) c ≠ none
  | i :: r, c, h => by
    simp only [gone, List.map_cons, look]
    cases hb : Nat.beq i c
    · rcases List.mem_cons.1 h with rfl | h
      · rw [Nat.beq_refl] at hb; cases hb
      · exact gone_look h
    · simp
theorem look_one {nm c : Nat} {k : Option Chunk} {r : List (Nat × Option Chunk)} {x : Option Chunk} (h : look ((nm, k) :: r) c = some x) : (c = nm ∧ x = k) ∨ look r c = some x := by
  simp only [look] at h
  cases hb : Nat.beq nm c
  · rw [hb] at h; exact .inr h
  · rw [hb] at h; injection h with h; exact .inl ⟨(Nat.eq_of_beq_eq_true hb).symm, h.symm⟩
theorem look_hd {nm c : Nat} {k : Option Chunk} {r : List (Nat × Option Chunk)} (h : look r c ≠ none) : look ((nm, k) :: r) c ≠ none := by
  simp only [look]; cases Nat.beq nm c
  · exact h
  · simp
theorem look_self (nm : Nat) (k : Option Chunk) (r : List (Nat × Option Chunk)) : look ((nm, k) :: r) nm = some k := by
  simp [look, Nat.beq_refl]

theorem CR.one {x : Cell} {v : Value} (h : CR X pl x v) (hd : isDeadC x = false) : v.oneCell' = true := by
  cases x <;> simp only [CR] at h <;> first
    | (subst h; rfl)
    | (cases hd; done)
    | (exact h.elim)
    | skip
  case kv u => rw [h.1]; exact h.2
  case ptr => obtain ⟨p, _, rfl⟩ := h; rfl
  case ep => obtain ⟨p, _, _, rfl⟩ := h; rfl
  case sl => obtain ⟨p, _, h⟩ := h; obtain ⟨A, c, rfl⟩ := h.shape; rfl
  case slw => obtain ⟨p, _, h⟩ := h; obtain ⟨A, c, rfl⟩ := h.shape; rfl
  case ro => obtain ⟨A, c, rfl⟩ := RdS.shape h; rfl
  case rn => obtain ⟨A, c, rfl, _⟩ := h; rfl
  case rp => obtain ⟨g, o, us, rfl, _⟩ := h; rfl
  case fn => obtain ⟨us, rfl, _⟩ := h; rfl
  case ifc => obtain ⟨t, u, rfl⟩ := h; rfl
theorem cells_one {v : Value} (h : v.oneCell' = true) : v.cells = #[v] := by cases v <;> first | rfl | cases h

theorem new_block (w : World) (o : Obj) : (w.alloc o).heap[w.heap.size]? = some o := by simp only [World.alloc, Array.getElem?_push_size]
theorem there_alloc_new (w : World) (us : Array Value) (t : TypeId) : (w.alloc (.cells us t)).there w.heap.size 0 us.size := by
  intro j hj
  have hb := new_block w (.cells us t)
  simp only [World.cell?, World.frozen?, hb, Nat.zero_add]
  simp [hj]
theorem rangeAt_alloc_new (w : World) (us : Array Value) (t : TypeId) : (w.alloc (.cells us t)).rangeAt w.heap.size 0 us.toList := by
  intro j v hv
  have hb := new_block w (.cells us t)
  simp only [World.cell?, hb, Nat.zero_add]
  simpa using hv

def setFp (fp : FpM) (nm : Nat) (l : List Nat) : FpM := fun c => if c = nm then l else fp c
theorem setFp_new (fp : FpM) (nm : Nat) (l : List Nat) : setFp fp nm l nm = l := by simp [setFp]
theorem setFp_look {fp : FpM} {nm c : Nat} {l : List Nat} {k : Option Chunk} {r : List (Nat × Option Chunk)} (h : look ((nm, k) :: r) c = none) : setFp fp nm l c = fp c := by
  unfold setFp
  rw [if_neg]
  rintro rfl
  rw [look_self] at h; cases h

/-- a new variable -/
theorem Inv.newBox (h : Inv X T st a w pl fp) (d : Option Nat) {nm n : Nat} (ty : TypeId) (xs : List Cell) (us : Array Value) (hd : ∀ e, d = some e → e < T) (hn : st.nx ≤ n) (hnm : pl nm = none) (hlt : nm < n)
    (hall : All2 (CR X pl) xs us.toList) : ∃ pl' fp', Inv X T (upd st d n (.c (.ptr nm 0), [(nm, some (.box ty xs))])) (a.put d (.pointer (some ⟨w.heap.size, 0, none⟩))) (w.alloc (.cells us ty)) pl' fp' := by
  refine ⟨setPl pl nm ⟨w.heap.size, 0, 0, 0, 0, true⟩, setFp fp nm [w.heap.size], h.step (G := fun _ => False) d n _ _ hd hn (setPl_old hnm) (setPl_fresh (fun c hc => h.nx c (Nat.le_trans hn hc)) hlt) (fun c hc => setFp_look hc) (Fr.alloc _ _ _) (fun _ _ hg => hg.elim)
    ⟨_, setPl_new .., rfl⟩ ?_ ?_⟩
  · intro c k hk
    rcases look_one hk with ⟨rfl, e⟩ | hk
    · injection e with e; subst e
      refine ⟨⟨_, us.toList, setPl_new .., setFp_new .., rangeAt_alloc_new _ _ _, by simpa using there_alloc_new w us ty, hall.imp fun _ _ => CR.mono (setPl_old hnm)⟩, ?_⟩
      rw [setFp_new]
      refine ⟨by simp, fun b hb => ?_⟩
      have : b = w.heap.size := by simpa using hb
      subst this
      exact ⟨by rw [World.size_alloc]; omega, .inl (Nat.le_refl _)⟩
    · simp [look] at hk
  · intro b c e k l h1 h2 _ _
    rcases look_one h1 with ⟨rfl, _⟩ | h1
    · rcases look_one h2 with ⟨rfl, _⟩ | h2
      · rfl
      · simp [look] at h2
    · simp [look] at h1

/-- a row: new, or an old one that has grown -/
theorem Inv.rows (h : Inv X T st a w pl fp) (d : Option Nat) {nm n : Nat} {t : Ty} {e : TypeId} {xs : List t.D} {ids : List Nat} (hd : ∀ e, d = some e → e < T) (hn : st.nx ≤ n) (hnm : pl nm = none) (hlt : nm < n)
    {G : Nat → Prop} (hw : Fr G w w') (hG : ∀ b, b < w.heap.size → G b → ∃ c ∈ ids, OwnB st fp b c) (p : Pl) {us : List Value} {f : List Nat} (hnd : (p.g :: f).Nodup)
    (hown : ∀ b ∈ p.g :: f, b < w'.heap.size ∧ (w.heap.size ≤ b ∨ ∃ c ∈ ids, OwnB st fp b c)) (hlen : p.len = xs.length) (hsz : p.sz = t.n) (htop : p.o + xs.length * t.n ≤ p.top) (hrl : p.rl = true)
    (ht : w'.there p.g 0 p.top) (hr : w'.rangeAt p.g p.o us) (ho : OwR (OwC w' t) xs us f) {v : Value} (hv : SlV p 0 p.len v) :
    ∃ pl' fp', Inv X T (upd st d n (.c (.slw nm), (nm, some (.rows t e xs)) :: gone ids)) (a.put d v) w' pl' fp' := by
  refine ⟨setPl pl nm p, setFp fp nm (p.g :: f), h.step (G := G) d n _ _ hd hn (setPl_old hnm) (setPl_fresh (fun c hc => h.nx c (Nat.le_trans hn hc)) hlt) (fun c hc => setFp_look hc) hw ?_ ⟨p, setPl_new .., hv⟩ ?_ ?_⟩
  · intro b hb hg
    obtain ⟨c, hc, ho⟩ := hG b hb hg
    exact ⟨c, ho, look_hd (gone_look hc)⟩
  · intro c k hk
    rcases look_one hk with ⟨rfl, e'⟩ | hk
    · injection e' with e'; subst e'
      refine ⟨⟨p, us, f, setPl_new .., hlen, hsz, .inr ⟨setFp_new .., htop, ht, hr, hrl⟩, ho⟩, ?_⟩
      rw [setFp_new]
      refine ⟨hnd, fun b hb => ⟨(hown b hb).1, ?_⟩⟩
      rcases (hown b hb).2 with hge | ⟨c, hc, ho⟩
      · exact .inl hge
      · exact .inr ⟨c, ho, look_hd (gone_look hc)⟩
    · cases (look_gone hk).1
  · intro b c e k l h1 h2 _ _
    rcases look_one h1 with ⟨rfl, _⟩ | h1
    · rcases look_one h2 with ⟨rfl, _⟩ | h2
      · rfl
      · cases (look_gone h2).1
    · cases (look_gone h1).1

theorem OwR.world {w w' : World} {t : Ty} {xs : List t.D} {us : List Value} {f : List Nat} {G : Nat → Prop} (hw : Fr G w w') (h : OwR (OwC w t) xs us f) (hf : ∀ b ∈ f, b < w.heap.size ∧ ¬ G b) : OwR (OwC w' t) xs us f :=
  OwR.mono (fun x a q hq hx => OwC.mono (fp0 := f) (fun b hb => ⟨fun o us => hw.rangeAt (hf b hb).1 (hf b hb).2, fun o n => hw.there (hf b hb).1 (hf b hb).2, fun hlt => Nat.lt_of_lt_of_le hlt hw.size⟩) (fun b hb => hq b hb) hx) h

/-- a row in a block that is new -/
theorem Inv.newRows (h : Inv X T st a w pl fp) (d : Option Nat) {nm n : Nat} {t : Ty} {e : TypeId} {xs : List t.D} {ids : List Nat} (hd : ∀ e, d = some e → e < T) (hn : st.nx ≤ n) (hnm : pl nm = none) (hlt : nm < n)
    (hw : Fr (fun _ => False) w w') {g top cap : Nat} (hg : w.heap.size ≤ g) (hg' : g < w'.heap.size) (ht : w'.there g 0 top) {us : List Value} {f : List Nat} (hr : w'.rangeAt g 0 us) (ho : OwR (OwC w t) xs us f)
    (hf : ∀ b ∈ f, ∃ c ∈ ids, OwnB st fp b c) (hnd : f.Nodup) (hc : xs.length ≤ cap) (hcap : cap * t.n ≤ top) :
    ∃ pl' fp', Inv X T (upd st d n (.c (.slw nm), (nm, some (.rows t e xs)) :: gone ids)) (a.put d (.slice (some ⟨g, 0, none⟩) xs.length cap)) w' pl' fp' := by
  have hold : ∀ b ∈ f, b < w.heap.size := fun b hb => by obtain ⟨c, _, ho⟩ := hf b hb; exact (h.lt b c ho).1
  refine h.rows d hd hn hnm hlt hw (fun _ _ hg => hg.elim) ⟨g, 0, top, xs.length, t.n, true⟩ ?_ ?_ rfl rfl ?_ rfl ht hr (ho.world hw fun b hb => ⟨hold b hb, id⟩) (.inr ⟨0, cap, rfl, hc, by simpa using hcap, fun _ => ⟨by simp, by simp⟩, rfl⟩)
  · exact List.nodup_cons.2 ⟨fun hb => absurd (hold g hb) (Nat.not_lt.2 hg), hnd⟩
  · intro b hb
    rcases List.mem_cons.1 hb with rfl | hb
    · exact ⟨hg', .inl hg⟩
    · exact ⟨Nat.lt_of_lt_of_le (hold b hb) hw.size, .inr (hf b hb)⟩
  · have : xs.length * t.n ≤ cap * t.n := Nat.mul_le_mul_right _ hc
    simp only; omega
end

end Go.Proofs.YthpklbpdchckkaaEv

namespace Go.Proofs.YthpklbpdchckkaaEv
open Go.RowKit (Below)
set_option linter.unusedVariables false
set_option linter.unusedSectionVars false
set_option linter.unusedSimpArgs false

section
variable {X : Cx} {T : Nat} {st : St} {a : Act} {w w' : World} {pl : PlM} {fp : FpM} {P : Program} {o : Oper} {u : Upd} {nm n : Nat}

def Mem (X : Cx) (T : Nat) (st : St) (a : Act) (w : World) (P : Program) (o : Oper) (n : Nat) (u : Upd) : Prop :=
  ∃ r v w' pl' fp', (execOp a.eval o).run P w = .ok r w' ∧ (r = .value v ∨ (r = .skip ∧ v = undef)) ∧ Inv X T (upd st o.dst n u) (a.put o.dst v) w' pl' fp'

theorem Mem.of_quiet (h : Inv X T st a w pl fp) (hd : ∀ e, o.dst = some e → e < T) (hn : st.nx ≤ n) (hq : Quiet1 X pl P w a o u) : Mem X T st a w P o n u := by
  obtain ⟨v, h1, h2, h3⟩ := hq
  obtain ⟨x, us⟩ := u
  simp only at h2 h3; subst h3
  exact ⟨_, v, w, pl, fp, h1, .inl rfl, h.quiet o.dst n x v hd hn h2⟩

/-! ### loads -/
theorem load_ok {t : TypeId} {i : TI} (hi : ti P t = some i) {b k j : Nat} {us : List Value} {cs : List Cell} (hr : w.rangeAt b k us) (hall : All2 (CR X pl) cs us) {v : Val}
    (hv : partV i.agg i.sz j cs = some v) : ∃ y, (Instr.loadAt t (.pointer (some ⟨b, k + j, none⟩))).run P w = .ok y w ∧ VR X pl v y := by
  obtain ⟨inf, d, g1, g2, g3, g4, g5, g6, g7⟩ := ti_spec hi
  unfold partV at hv
  cases hag : i.agg
  · rw [hag] at hv
    simp only [cond_false] at hv
    split at hv
    case h_2 => cases hv
    rename_i x hx
    injection hv with hv; subst hv
    obtain ⟨y, hy, hxy⟩ := hall.get hx
    have hc := hr j y hy
    have ha := run_isAgg' g2 w
    rw [← g6, hag] at ha
    refine ⟨y, ?_, hxy⟩
    simp [Instr.loadAt, Instr.sureAddr, loadVar, ha, load, Sem.run, hc]
  · rw [hag] at hv
    simp only [cond_true] at hv
    cases hb : Nat.ble (j + i.sz) cs.length
    · rw [hb] at hv; cases hv
    · rw [hb] at hv
      simp only [cond_true, Option.some.injEq] at hv
      subst hv
      have hle := Nat.le_of_ble_eq_true hb
      have hl := hall.len
      have hlen : ((us.drop j).take i.sz).length = i.sz := by rw [List.length_take, List.length_drop]; omega
      refine ⟨.agg ((us.drop j).take i.sz).toArray, ?_, ⟨_, rfl, ?_⟩⟩
      · refine run_loadAt_mid w b (k + j) t ((us.drop j).take i.sz) d (rangeAt_take (rangeAt_drop hr j) _) g2 ?_ ?_
        · rw [hag] at g6
          cases d <;> first | rfl | cases g6
        · rw [g1, hlen, g3]; rfl
      · exact (hall.drop j).take i.sz

theorem box_kr (h : Inv X T st a w pl fp) {c : Nat} {ty : TypeId} {cs : List Cell} (hc : st.chunk c = some (.box ty cs)) {p : Pl} (hp : pl c = some p) : ∃ us, fp c = [p.g] ∧ w.rangeAt p.g 0 us ∧ w.there p.g 0 us.length ∧ All2 (CR X pl) cs us := by
  obtain ⟨q, us, e1, e2, e3, e4, e5⟩ := h.ch c _ hc
  rw [hp] at e1; injection e1 with e1; subst e1
  exact ⟨us, e2, e3, e4, e5⟩
theorem rows_kr (h : Inv X T st a w pl fp) {c : Nat} {t : Ty} {e : TypeId} {xs : List t.D} (hc : st.chunk c = some (.rows t e xs)) {p : Pl} (hp : pl c = some p) : ∃ us f, p.len = xs.length ∧ p.sz = t.n ∧
      ((xs = [] ∧ fp c = [] ∧ f = [] ∧ p.rl = false) ∨ (fp c = p.g :: f ∧ p.o + xs.length * t.n ≤ p.top ∧ w.there p.g 0 p.top ∧ w.rangeAt p.g p.o us ∧ p.rl = true)) ∧ OwR (OwC w t) xs us f := by
  obtain ⟨q, us, f, e1, e2, e3, e4, e5⟩ := h.ch c _ hc
  rw [hp] at e1; injection e1 with e1; subst e1
  exact ⟨us, f, e2, e3, e4, e5⟩

def noRo (c : Cell) : Cell := cond (isRo c) .dead c
theorem cellsR_noRo : ∀ {t : Ty} {x : t.D} {us : List Value} {f : List Nat}, OwC w t x us f → All2 (CR X pl) ((cellsR 0 t x).map noRo) us
  | .int _, _, _, _, ⟨rfl, _⟩ | .bool, _, _, _, ⟨rfl, _⟩ | .str, _, _, _, ⟨rfl, _⟩ => .cons rfl .nil
  | .unit, _, _, _, ⟨rfl, _⟩ => .nil
  | .pr a b, _, _, _, ⟨p, q, f, g, rfl, _, h1, h2⟩ => by
    simp only [cellsR, List.map_append]
    exact (cellsR_noRo h1).append (cellsR_noRo h2)
  | .sl _ _, _, _, _, ⟨v, rfl, _⟩ => .cons trivial .nil
theorem noRo_id : ∀ {cs : List Cell}, cs.any isRo = false → cs.map noRo = cs
  | [], _ => rfl
  | c :: r, h => by
    simp only [List.any_cons, Bool.or_eq_false_iff] at h
    rw [List.map_cons, noRo_id h.2, noRo, h.1]; rfl
theorem partV_noRo {ag : Bool} {sz j : Nat} {cs : List Cell} {v : Val} (h : partV ag sz j cs = some v) (hn : v.cells.any isRo = false) : partV ag sz j (cs.map noRo) = some v := by
  unfold partV at h ⊢
  cases ag
  · simp only [cond_false, List.getElem?_map] at h ⊢
    cases hc : cs[j]? with
    | none => rw [hc] at h; cases h
    | some c =>
      rw [hc] at h
      simp only [Option.map_some] at h ⊢
      injection h with h; subst h
      have hn : isRo c = false := by simpa [Val.cells] using hn
      rw [noRo, hn]; rfl
  · simp only [cond_true, List.length_map] at h ⊢
    cases hb : Nat.ble (j + sz) cs.length
    · rw [hb] at h; cases h
    · rw [hb] at h
      simp only [cond_true] at h ⊢
      injection h with h; subst h
      rw [← List.map_drop, ← List.map_take, noRo_id (show ((cs.drop j).take sz).any isRo = false from hn)]
theorem q_load (h : Inv X T st a w pl fp) {t : TypeId} {x : Operand} (ho : o.op = .load t x) (hr : (prim P nm st.ev st.chunk (.load t x)).run = some u) : Quiet1 X pl P w a o u := by
  simp only [prim] at hr
  have hx := ev_ok h x
  split at hr
  case h_2 => cases hr
  rename_i i hi
  have fin : ∀ {b k j : Nat} {us : List Value} {cs : List Cell} {v : Val}, a.eval x = .pointer (some ⟨b, k + j, none⟩) → w.rangeAt b k us → All2 (CR X pl) cs us → partV i.agg i.sz j cs = some v →
      (Res.ret (v, [])).run = some u → Quiet1 X pl P w a o u := by
    intro b k j us cs v ex hra hall hv hu
    simp only [Res.run, Option.some.injEq] at hu; subst hu
    obtain ⟨y, hy, hvy⟩ := load_ok hi hra hall hv
    exact ⟨y, by unfold execOp; rw [ho]; exact run_v (by rw [ex]; exact hy), hvy, rfl⟩
  split at hr
  · rename_i c j hq
    rw [hq] at hx
    obtain ⟨p, hp, ev⟩ := hx
    split at hr
    case h_2 => cases hr
    rename_i ty cs hc
    split at hr
    case h_2 => cases hr
    rename_i v hv
    obtain ⟨us, _, hra, _, hall⟩ := box_kr h hc hp
    exact fin (by rw [ev, Nat.zero_add]) hra hall hv hr
  · rename_i t' y j hq
    rw [hq] at hx
    obtain ⟨g, k, us, ev, hz, hra, hrd⟩ := hx
    split at hr
    case h_2 => cases hr
    rename_i v hv
    have hb := X.hZ _ g hz
    exact fin ev (h.fr.rangeAt hb.1 hb.2 hra) (cellsR_read hrd) hv hr
  · rename_i c q j hq
    rw [hq] at hx
    obtain ⟨p, hp, hlt, ev⟩ := hx
    split at hr
    case h_2 => cases hr
    rename_i t' e' xs hc
    split at hr
    case h_2 => cases hr
    rename_i v hv
    obtain ⟨hfl, hr⟩ := Res.run_cond hr
    obtain ⟨us, f, e1, e2, hh, hw⟩ := rows_kr h hc hp
    have hlt' : q < xs.length := by omega
    rcases hh with ⟨e0, _⟩ | ⟨_, _, _, hra, _⟩
    · subst e0; simp at hlt'
    · obtain ⟨u1, b, u2, f1, g, f2, k1, k2, k3, k4, _, _⟩ := hw.at_ (getD_of_lt t'.z hlt')
      rw [k1, List.append_assoc] at hra
      have hra := (rangeAt_append (rangeAt_append hra).2).1
      rw [k3, ← e2] at hra
      rcases (Bool.or_eq_true _ _).mp hfl with hfl | hro
      · exact fin ev hra (cellsR_flat (X := X) (pl := pl) hfl k4).1 hv hr
      · exact fin ev hra (cellsR_noRo k4) (partV_noRo hv (by simpa using hro)) hr
  · cases hr

/-! ### new variables -/
theorem m_alloc (h : Inv X T st a w pl fp) {t : TypeId} (ho : o.op = .alloc t) (hd : ∀ e, o.dst = some e → e < T) (hn : st.nx ≤ n) (hnm : pl nm = none) (hlt : nm < n)
    (hr : (prim P nm st.ev st.chunk (.alloc t)).run = some u) : Mem X T st a w P o n u := by
  simp only [prim] at hr
  split at hr
  case h_2 => cases hr
  rename_i i hi
  obtain ⟨inf, d, g1, g2, g3, g4, g5, g6, g7⟩ := ti_spec hi
  cases he : i.zero.isEmpty
  case true => rw [he] at hr; cases hr
  rw [he] at hr
  simp only [cond_false, Res.run, Option.some.injEq] at hr; subst hr
  cases hz : inf.zero with
  | none => rw [hz] at g5; rw [g5] at he; simp at he
  | some z =>
    rw [hz] at g5
    simp only at g5
    obtain ⟨pl', fp', hi'⟩ := h.newBox o.dst t i.zero z.cells hd hn hnm hlt (by rw [g5]; exact ofVs_ok X pl _)
    refine ⟨_, _, _, pl', fp', ?_, .inl rfl, hi'⟩
    unfold execOp; rw [ho]
    refine run_v ?_
    simp [Instr.alloc, zeroValue, run_typeInfo' g1, hz, newVar, newRow, newObj, Sem.run]

theorem m_box (h : Inv X T st a w pl fp) {t : TypeId} {x : Operand} (ho : o.op = .box t x) (hd : ∀ e, o.dst = some e → e < T) (hn : st.nx ≤ n) (hnm : pl nm = none) (hlt : nm < n)
    (hr : (prim P nm st.ev st.chunk (.box t x)).run = some u) : Mem X T st a w P o n u := by
  simp only [prim] at hr
  have hx := ev_ok h x
  have fin : ∀ (xs : List Cell) (us : Array Value), (a.eval x).cells = us → All2 (CR X pl) xs us.toList → (Res.ret ((.c (.ptr nm 0), [(nm, some (.box t xs))]) : Upd)).run = some u → Mem X T st a w P o n u := by
    intro xs us e hall hu
    simp only [Res.run, Option.some.injEq] at hu; subst hu
    obtain ⟨pl', fp', hi'⟩ := h.newBox o.dst t xs us hd hn hnm hlt hall
    refine ⟨_, _, _, pl', fp', ?_, .inl rfl, hi'⟩
    unfold execOp; rw [ho]
    refine run_v ?_
    simp [Instr.box, newVar, newRow, newObj, e, Sem.run]
  split at hr
  · rename_i i cs hi hq
    obtain ⟨_, hr⟩ := Res.run_cond hr
    rw [hq] at hx
    obtain ⟨us, e, hall⟩ := hx
    exact fin cs us (by rw [e]; rfl) hall hr
  · rename_i i c hi hq
    rw [hq] at hx
    cases hb : (i.agg || isDeadC c)
    case true => rw [hb] at hr; cases hr
    rw [hb] at hr
    have hdd : isDeadC c = false := by cases hx' : isDeadC c <;> simp_all
    have h1 := CR.one (X := X) (pl := pl) hx hdd
    exact fin [c] #[a.eval x] (cells_one h1) (.cons hx .nil) hr
  · cases hr
end

end Go.Proofs.YthpklbpdchckkaaEv

namespace Go.Proofs.YthpklbpdchckkaaEv
open Go.RowKit (Below)
set_option linter.unusedVariables false
set_option linter.unusedSectionVars false
set_option linter.unusedSimpArgs false

section
variable {X : Cx} {T : Nat} {st : St} {a : Act} {w w' : World} {pl : PlM} {fp : FpM} {P : Program} {o : Oper} {u : Upd} {nm n : Nat}

theorem there_mid {w : World} {b k j m : Nat} (h : w.there b 0 k) (hj : j + m ≤ k) : w.there b j m := fun i hi => by
  have := h (j + i) (by omega)
  simpa using this

theorem store_ok {t : TypeId} {inf : TypeInfo} (hi : P.info? t = some inf) {b k : Nat} {y : Value} {vs : List Value} (hy : y.cells.toList = vs) (hs : vs.length = inf.size) (ht : w.there b k vs.length) (h1 : ∀ v ∈ vs, v.oneCell' = true) :
    (Instr.storeAt t (.pointer (some ⟨b, k, none⟩)) y).run P w = .ok () (w.setCells b k vs) := by
  have hsz : y.cells.size = inf.size := by rw [← hs, ← hy, Array.length_toList]
  have := run_storeCells_cells (P := P) b k vs 0 w (fun j hj => by have := (ht j hj).1; simpa using this) (fun j hj => by have := (ht j hj).2; simpa using this) h1
  simp only [Instr.storeAt, Instr.sureAddr, storeVar, Sem.run_bind, Sem.run_pure, Result.andThen_ok, run_sizeOf' hi, hsz, ne_eq, not_true_eq_false, if_false, hy]
  simpa using this

theorem rangeAt_set {w : World} {b k j : Nat} {us vs : List Value} (hr : w.rangeAt b k us) (hj : j + vs.length ≤ us.length) (ht : w.there b (k + j) vs.length) :
    (w.setCells b (k + j) vs).rangeAt b k (us.take j ++ vs ++ us.drop (j + vs.length)) := by
  have hl : (us.take j).length = j := by rw [List.length_take]; omega
  rw [List.append_assoc]
  refine rangeAt_join ?_ ?_
  · exact World.rangeAt_setCells_apart (rangeAt_take hr j) b (k + j) vs (.inr (.inl (by rw [hl]; omega)))
  · rw [hl]
    refine rangeAt_join (World.rangeAt_setCells_same w b (k + j) vs ht) ?_
    have := rangeAt_drop hr (j + vs.length)
    rw [← Nat.add_assoc] at this
    exact World.rangeAt_setCells_apart this b (k + j) vs (.inr (.inr (by omega)))

theorem val_cells {x : Val} {v : Value} (h : VR X pl x v) (hne : x.cells ≠ []) (hd : x.cells.any isDeadC = false) : All2 (CR X pl) x.cells v.cells.toList ∧ ∀ y ∈ v.cells.toList, y.oneCell' = true := by
  have one : ∀ {xs : List Cell} {us : List Value}, All2 (CR X pl) xs us → xs.any isDeadC = false → ∀ y ∈ us, y.oneCell' = true := by
    intro xs us hall
    induction hall with
    | nil => intro _ y hy; simp at hy
    | cons hx ht ih =>
      intro hd y hy
      simp only [List.any_cons, Bool.or_eq_false_iff] at hd
      rcases List.mem_cons.1 hy with rfl | hy
      · exact CR.one hx hd.1
      · exact ih hd.2 y hy
  cases x with
  | c x =>
    have h1 : v.oneCell' = true := CR.one (X := X) (pl := pl) h (by simpa [Val.cells] using hd)
    rw [cells_one h1]
    exact ⟨.cons h .nil, fun y hy => by simp at hy; subst hy; exact h1⟩
  | agg xs =>
    obtain ⟨us, rfl, hall⟩ := h
    exact ⟨hall, one hall hd⟩
  | bx ty xs => exact absurd rfl hne
  | tup xs => exact absurd rfl hne

theorem All2.putAt {r : Cell → Value → Prop} {cs v : List Cell} {us vs : List Value} {j : Nat} (h : All2 r cs us) (k : All2 r v vs) : All2 r (cs.take j ++ v ++ cs.drop (j + v.length)) (us.take j ++ vs ++ us.drop (j + vs.length)) := by
  rw [k.len]
  exact ((h.take j).append k).append (h.drop _)

theorem OC.world {x : Cell} {v : Value} {f : List Nat} {G : Nat → Prop} (hw : Fr G w w') (h : OC X w x v f) (hf : ∀ b ∈ f, b < w.heap.size ∧ ¬ G b) : OC X w' x v f := by
  cases x <;> first | exact h | skip
  all_goals
  rename_i t e xs
  rcases h with h | ⟨g, o, cap, top, us, f', e1, e2, e3, h1, h2, h3, h4, rfl⟩
  · exact .inl h
  · have hg := hf g (List.mem_cons_self ..)
    exact .inr ⟨g, o, cap, top, us, f', e1, e2, e3, hw.there hg.1 hg.2 h1, Nat.lt_of_lt_of_le h2 hw.size, hw.rangeAt hg.1 hg.2 h3, OwR.world hw h4 (fun b hb => hf b (List.mem_cons_of_mem _ hb)), rfl⟩
theorem OCs.world {xs : List Cell} {vs : List Value} {f : List Nat} {G : Nat → Prop} (hw : Fr G w w') (h : OCs X w xs vs f) (hf : ∀ b ∈ f, b < w.heap.size ∧ ¬ G b) : OCs X w' xs vs f := by
  induction h with
  | nil => exact .nil
  | cons hx ht ih => exact .cons (hx.world hw fun b hb => hf b (List.mem_append.2 (.inl hb))) (ih fun b hb => hf b (List.mem_append.2 (.inr hb)))
theorem OCs.append {xs ys : List Cell} {us vs : List Value} {f g : List Nat} (h : OCs X w xs us f) (k : OCs X w ys vs g) : OCs X w (xs ++ ys) (us ++ vs) (f ++ g) := cellsO_ok.app h k

theorem m_store (h : Inv X T st a w pl fp) {t : TypeId} {x y : Operand} (ho : o.op = .store t x y) (hd : ∀ e, o.dst = some e → e < T) (hn : st.nx ≤ n)
    (hr : (prim P nm st.ev st.chunk (.store t x y)).run = some u) : Mem X T st a w P o n u := by
  simp only [prim] at hr
  have hx := ev_ok h x
  have hy := ev_ok h y
  split at hr
  case h_2 => cases hr
  rename_i i hi
  obtain ⟨inf, d, g1, g2, g3, g4, g5, g6, g7⟩ := ti_spec hi
  obtain ⟨hk, hr⟩ := Res.run_cond hr
  simp only [Bool.and_eq_true, Bool.not_eq_true'] at hk
  obtain ⟨hk1, hk2, hk3⟩ := hk
  have hk1 := Nat.eq_of_beq_eq_true hk1
  have hne : (st.ev y).cells ≠ [] := by
    intro e
    rw [e] at hk1
    rw [← hk1] at hk2
    exact absurd hk2 (by decide)
  obtain ⟨hall, hone⟩ := val_cells hy hne hk3
  obtain ⟨vs, hvs⟩ : ∃ vs, vs = (a.eval y).cells.toList := ⟨_, rfl⟩
  rw [← hvs] at hall hone
  have hvl : vs.length = (st.ev y).cells.length := hall.len.symm
  have fin : ∀ {b k : Nat} {us : List (Nat × Option Chunk)}, a.eval x = .pointer (some ⟨b, k, none⟩) → w.there b k vs.length →
      (∃ pl' fp', Inv X T (upd st o.dst n (.tup [], us)) (a.put o.dst undef) (w.setCells b k vs) pl' fp') → (Res.ret ((.tup [], us) : Upd)).run = some u → Mem X T st a w P o n u := by
    rintro b k us ex ht ⟨pl', fp', hi'⟩ hu
    simp only [Res.run, Option.some.injEq] at hu; subst hu
    refine ⟨.skip, undef, _, pl', fp', ?_, .inr ⟨rfl, rfl⟩, hi'⟩
    unfold execOp; rw [ho]
    show (do Instr.storeAt t (a.eval x) (a.eval y); pure .skip : Sem Next).run P w = _
    rw [Sem.run_bind, ex, store_ok g1 hvs.symm (by rw [hvl, hk1, g3]) ht hone]; rfl
  split at hr
  · rename_i c j hq
    rw [hq] at hx
    obtain ⟨p, hp, ev⟩ := hx
    split at hr
    case h_2 => cases hr
    rename_i ty cs hc
    obtain ⟨hb, hr⟩ := Res.run_cond hr
    have hb := Nat.le_of_ble_eq_true hb
    obtain ⟨us, hfp, hra, hth, hca⟩ := box_kr h hc hp
    have hl := hca.len
    have ht : w.there p.g j vs.length := there_mid hth (by omega)
    refine fin ev ht ⟨pl, fp, ?_⟩ hr
    have hown : OwnB st fp p.g c := ⟨⟨_, hc⟩, by rw [hfp]; exact List.mem_singleton.2 rfl⟩
    refine h.step (G := (· = p.g)) o.dst n (_, _) undef hd hn (fun _ _ e => e) (fun c hc => h.nx c (Nat.le_trans hn hc)) (fun _ _ => rfl) (Fr.setCells p.g vs j w) ?_ ⟨#[], rfl, .nil⟩ ?_ ?_
    · rintro b _ rfl
      exact ⟨c, hown, by simp [look, Nat.beq_refl]⟩
    · intro c' k hk
      rcases look_one hk with ⟨rfl, e⟩ | hk
      · injection e with e; subst e
        have hra' := rangeAt_set (vs := vs) (j := j) hra (by omega) (by rw [Nat.zero_add]; exact ht)
        rw [Nat.zero_add] at hra'
        refine ⟨⟨p, _, hp, hfp, hra', ?_, hca.putAt hall⟩, ?_⟩
        · have : (us.take j ++ vs ++ us.drop (j + vs.length)).length = us.length := by simp only [List.length_append, List.length_take, List.length_drop]; omega
          rw [this]; exact World.there_setCells hth _ _ _
        · rw [hfp]
          refine ⟨by simp, fun b hb => ?_⟩
          have : b = p.g := by simpa using hb
          subst this
          exact ⟨Nat.lt_of_lt_of_le (h.lt _ _ hown).1 (Fr.setCells p.g vs j w).size, .inr ⟨c', hown, by simp [look, Nat.beq_refl]⟩⟩
      · simp [look] at hk
    · intro b c1 c2 k l h1 h2 _ _
      rcases look_one h1 with ⟨rfl, _⟩ | h1
      · rcases look_one h2 with ⟨rfl, _⟩ | h2
        · rfl
        · simp [look] at h2
      · simp [look] at h1
  · rename_i c q j hq
    rw [hq] at hx
    obtain ⟨p, hp, hlt, ev⟩ := hx
    split at hr
    case h_3 => cases hr
    case h_2 =>
      rename_i t' e' xs i' j2 n' hc
      split at hr
      case h_2 => cases hr
      rename_i y' used e2' u' hus hlt2
      split at hr
      case h_2 => cases hr
      rename_i ys hys
      obtain ⟨hb, hr⟩ := Res.run_cond hr
      simp only [Bool.and_eq_true] at hb
      have hjj := Nat.eq_of_beq_eq_true hb.1
      subst hjj
      have hnd := List.nodup_cons.1 (nodupB_spec hb.2)
      obtain ⟨hqi, hr⟩ := Res.run_chk hr
      have hqi := Nat.eq_of_beq_eq_true hqi
      subst hqi
      obtain ⟨fv, hov, hfv, hfvn⟩ := ownCs_ok h hus hall
      obtain ⟨v1, hv1⟩ : ∃ v1, vs = [v1] := by
        have hl := hov.len
        cases vs with
        | nil => cases hl
        | cons v1 r => cases r with | nil => exact ⟨v1, rfl⟩ | cons _ _ => simp at hl
      have hos : OwS w e2' u'.n (OwC w u') ys v1 fv := by
        rw [hv1] at hov
        cases hov with
        | cons hx' ht' =>
          cases ht'
          rename_i f0
          rw [List.append_nil]
          cases y' <;> simp only [leafOf] at hys <;> try (cases hys; done)
          · injection hys with hys; subst hys
            exact .inl ⟨hx'.2, rfl, hx'.1⟩
          · rename_i t0 e0 ys0
            have ht0 := castL_ty hys
            subst ht0
            have := castL_self hys; subst this
            exact hx'
      obtain ⟨p0, q0, v0, f, a1, u1, b1, fa, fm, fb, d1, d2, d3, d4, hfp, htop, hth, hra, hrl, d7, k5, k4, k6, _, _⟩ := h.ch c _ hc
      rw [hp] at d1; injection d1 with d1; subst d1
      have hbl := k4.len
      have hal : a1.length = q * t'.n := by rw [OwR.len k5, List.length_take, Nat.min_eq_left (by omega)]
      have hown : ∀ b' ∈ fp c, OwnB st fp b' c := fun b' hb' => ⟨⟨_, hc⟩, hb'⟩
      have hsub : ∀ b' ∈ f, b' ∈ fp c := fun b' hb' => by rw [hfp]; exact List.mem_cons_of_mem _ hb'
      have hpg : OwnB st fp p.g c := hown _ (by rw [hfp]; exact List.mem_cons_self ..)
      have hndp := h.nd c _ hc
      rw [hfp] at hndp
      have hndp := List.nodup_cons.1 hndp
      have hgf : ∀ b' ∈ f, b' < w.heap.size ∧ ¬ (b' = p.g) := fun b' hb' => ⟨(h.lt _ _ (hown _ (hsub b' hb'))).1, fun e => hndp.1 (e ▸ hb')⟩
      have hfvo : ∀ b' ∈ fv, ∃ c' ∈ used, OwnB st fp b' c' ∧ c' ≠ c := fun b' hb' => by
        obtain ⟨c', hc', ho'⟩ := hfv b' hb'
        exact ⟨c', hc', ho', fun e => hnd.1 (e ▸ hc')⟩
      have hfvg : ∀ b' ∈ fv, b' < w.heap.size ∧ ¬ (b' = p.g) := fun b' hb' => by
        obtain ⟨c', hc', ho', hne'⟩ := hfvo b' hb'
        refine ⟨(h.lt _ _ ho').1, fun e => ?_⟩
        subst e
        exact hne' (h.dj _ _ _ ho' hpg)
      have hfvf : ∀ b' ∈ fv, b' ∉ f := fun b' hb' hf' => by
        obtain ⟨c', hc', ho', hne'⟩ := hfvo b' hb'
        exact hne' (h.dj _ _ _ ho' (hown _ (hsub _ hf')))
      have hW := Fr.setCells p.g vs (p.o + q * p.sz + j) w
      have hf1 : ∀ b' ∈ fa, b' ∈ f := fun b' hb' => by rw [d7]; simp [hb']
      have hfm : ∀ b' ∈ fm, b' ∈ f := fun b' hb' => by rw [d7]; simp [hb']
      have hf2 : ∀ b' ∈ fb, b' ∈ f := fun b' hb' => by rw [d7]; simp [hb']
      have hlenS : (a1 ++ u1 ++ b1).length = a1.length + u1.length + b1.length := by simp only [List.length_append]
      have hthm : w.there p.g (p.o + (a1.length + j)) vs.length := by
        refine there_mid hth ?_
        have hb1 : b1.length = (xs.length - (q + 1)) * t'.n := by rw [OwR.len k6, List.length_drop]
        have hm : (q + 1) * t'.n ≤ xs.length * t'.n := Nat.mul_le_mul_right _ d4
        rw [Nat.succ_mul] at hm
        rw [hv1]
        simp only [List.length_singleton]
        omega
      have hra2 := rangeAt_set (vs := vs) (j := a1.length + j) hra (by rw [hlenS, hv1, List.length_singleton]; omega) hthm
      have hcut : (a1 ++ u1 ++ b1).take (a1.length + j) ++ vs ++ (a1 ++ u1 ++ b1).drop (a1.length + j + vs.length) = a1 ++ u1.set j v1 ++ b1 := by
        rw [hv1, List.length_singleton]
        have := List.set_eq_take_append_cons_drop (l := a1 ++ u1 ++ b1) (i := a1.length + j) (a := v1)
        rw [if_pos (by rw [hlenS]; omega)] at this
        rw [show ∀ (x z : List Value), x ++ [v1] ++ z = x ++ v1 :: z from fun x z => by simp, ← this, List.append_assoc, List.set_append_right _ _ (by omega), show a1.length + j - a1.length = j by omega, List.set_append_left _ _ (by omega), List.append_assoc]
      rw [hcut, show p.o + (a1.length + j) = p.o + q * p.sz + j by rw [hal, d3]; omega] at hra2
      have hthm' : w.there p.g (p.o + q * p.sz + j) vs.length := by rw [show p.o + (a1.length + j) = p.o + q * p.sz + j by rw [hal, d3]; omega] at hthm; exact hthm
      have hmono : ∀ {F : List Nat}, (∀ b' ∈ F, b' < w.heap.size ∧ ¬ (b' = p.g)) → ∀ b' ∈ F, (∀ o us, w.rangeAt b' o us → (w.setCells p.g (p.o + q * p.sz + j) vs).rangeAt b' o us) ∧ (∀ o n, w.there b' o n → (w.setCells p.g (p.o + q * p.sz + j) vs).there b' o n) ∧ (b' < w.heap.size → b' < (w.setCells p.g (p.o + q * p.sz + j) vs).heap.size) :=
        fun hF b' hb' => ⟨fun o us => hW.rangeAt (hF b' hb').1 (hF b' hb').2, fun o n => hW.there (hF b' hb').1 (hF b' hb').2, fun hh => Nat.lt_of_lt_of_le hh hW.size⟩
      have hH := OwH.mono (hmono hgf) hfm (OwH.turn (v' := v1) k4)
      have hS : OwS (w.setCells p.g (p.o + q * p.sz + j) vs) e2' u'.n (OwC (w.setCells p.g (p.o + q * p.sz + j) vs) u') ys v1 fv := by
        obtain ⟨v2, e5, h5⟩ := OwC.mono (t := .sl e2' u') (x := ys) (us := [v1]) (fp := fv) (hmono hfvg) (fun b' hb' => hb') ⟨v1, rfl, hos⟩
        injection e5 with e5; subst e5; exact h5
      obtain ⟨g1', g2', e9, hz'⟩ := OwH.put hlt2 hH hS
      have hrows := OwR.join (xs := xs) q d4 (OwR.world hW k5 fun b' hb' => hgf b' (hf1 b' hb')) hz' (OwR.world hW k6 fun b' hb' => hgf b' (hf2 b' hb'))
      have hin : ∀ b' ∈ fa ++ (g1' ++ fv ++ g2') ++ fb, b' ∈ f ∨ b' ∈ fv := fun b' hb' => by
        simp only [List.mem_append] at hb'
        rcases hb' with (hb' | ((hb' | hb') | hb')) | hb'
        · exact .inl (hf1 _ hb')
        · exact .inl (hfm _ (by rw [e9]; simp [hb']))
        · exact .inr hb'
        · exact .inl (hfm _ (by rw [e9]; simp [hb']))
        · exact .inl (hf2 _ hb')
      have hnf : (p.g :: (fa ++ (g1' ++ fv ++ g2') ++ fb)).Nodup := by
        refine List.nodup_cons.2 ⟨fun hb' => ?_, ?_⟩
        · rcases hin _ hb' with hb' | hb'
          · exact hndp.1 hb'
          · exact (hfvg _ hb').2 rfl
        · rw [List.nodup_iff_count]
          intro b'
          have c1 := List.nodup_iff_count.1 hndp.2 b'
          have c2 := List.nodup_iff_count.1 (hfvn hnd.2) b'
          rw [d7, e9] at c1
          simp only [List.count_append] at c1 ⊢
          by_cases hb' : b' ∈ fv
          · have hz0 : List.count b' f = 0 := List.count_eq_zero.2 (hfvf b' hb')
            rw [d7, e9] at hz0
            simp only [List.count_append] at hz0
            omega
          · have hz0 : List.count b' fv = 0 := List.count_eq_zero.2 hb'
            omega
      refine fin ev hthm' ⟨pl, setFp fp c (p.g :: (fa ++ (g1' ++ fv ++ g2') ++ fb)), ?_⟩ hr
      refine h.step (G := (· = p.g)) o.dst n (_, _) undef hd hn (fun _ _ e => e) (fun c hc => h.nx c (Nat.le_trans hn hc)) (fun _ hl => setFp_look hl) hW ?_ ⟨#[], rfl, .nil⟩ ?_ ?_
      · rintro b' _ rfl
        exact ⟨c, hpg, by simp [look, Nat.beq_refl]⟩
      · intro c' k hk
        rcases look_one hk with ⟨rfl, e⟩ | hk
        · injection e with e; subst e
          refine ⟨⟨p, _, _, hp, by simp only [List.length_set]; exact d2, d3, .inr ⟨setFp_new .., by simp only [List.length_set]; exact htop, World.there_setCells hth _ _ _, hra2, hrl⟩, hrows⟩, ?_⟩
          rw [setFp_new]
          refine ⟨hnf, fun b' hb' => ?_⟩
          rcases List.mem_cons.1 hb' with rfl | hb'
          · exact ⟨Nat.lt_of_lt_of_le (h.lt _ _ hpg).1 hW.size, .inr ⟨c', hpg, by simp [look, Nat.beq_refl]⟩⟩
          · rcases hin _ hb' with hb' | hb'
            · exact ⟨Nat.lt_of_lt_of_le (hgf b' hb').1 hW.size, .inr ⟨c', hown _ (hsub _ hb'), by simp [look, Nat.beq_refl]⟩⟩
            · obtain ⟨c2, hc2, ho2, _⟩ := hfvo b' hb'
              exact ⟨Nat.lt_of_lt_of_le (hfvg b' hb').1 hW.size, .inr ⟨c2, ho2, look_hd (gone_look hc2)⟩⟩
        · cases (look_gone hk).1
      · intro b' c1 c2 k l h1 h2 _ _
        rcases look_one h1 with ⟨rfl, _⟩ | h1
        · rcases look_one h2 with ⟨rfl, _⟩ | h2
          · rfl
          · cases (look_gone h2).1
        · cases (look_gone h1).1
    rename_i t' e' xs hc
    split at hr
    case h_2 => cases hr
    rename_i v' used hus
    split at hr
    case h_2 => cases hr
    rename_i z hz
    obtain ⟨hb, hr⟩ := Res.run_cond hr
    simp only [Bool.and_eq_true] at hb
    have hnd := List.nodup_cons.1 (nodupB_spec hb.1)
    have hb := Nat.le_of_ble_eq_true hb.2
    obtain ⟨us, f, e1, e2, hh, hw⟩ := rows_kr h hc hp
    have hlt' : q < xs.length := by omega
    rcases hh with ⟨e0, _⟩ | ⟨hfp, htop, hth, hra, hrl⟩
    · subst e0; simp at hlt'
    obtain ⟨u1, b, u2, f1, g, f2, k1, k2, k3, k4, k5, k6⟩ := hw.at_ (getD_of_lt t'.z hlt')
    obtain ⟨fv, hov, hfv, hfvn⟩ := ownCs_ok h hus hall
    have hbl := k4.len
    have hvl' : v'.length = vs.length := hov.len
    have hjv : j + vs.length ≤ t'.n := by omega
    -- the element anew
    have hO := cellsO_ok (X := X) k4
    obtain ⟨ga, gb, ge, s1, s2⟩ := hO.split j
    obtain ⟨gm, gd, ge', s3, s4⟩ := s2.split v'.length
    rw [List.drop_drop, List.drop_drop] at s4
    have hnew : OCs X w (setAt j v' (cellsO t' (xs.getD q t'.z))) (b.take j ++ vs ++ b.drop (j + vs.length)) (ga ++ fv ++ gd) := by
      unfold setAt
      have s4' : OCs X w ((cellsO t' (xs.getD q t'.z)).drop (j + v'.length)) (b.drop (j + vs.length)) gd := by rw [← hvl']; exact s4
      exact (s1.append hov).append s4'
    have hown : ∀ b' ∈ fp c, OwnB st fp b' c := fun b' hb' => ⟨⟨_, hc⟩, hb'⟩
    have hsub : ∀ b' ∈ f, b' ∈ fp c := fun b' hb' => by rw [hfp]; exact List.mem_cons_of_mem _ hb'
    have hpg : OwnB st fp p.g c := hown _ (by rw [hfp]; exact List.mem_cons_self ..)
    have hndp := h.nd c _ hc
    rw [hfp] at hndp
    have hndp := List.nodup_cons.1 hndp
    have hgf : ∀ b' ∈ f, b' < w.heap.size ∧ ¬ (b' = p.g) := fun b' hb' => ⟨(h.lt _ _ (hown _ (hsub b' hb'))).1, fun e => hndp.1 (e ▸ hb')⟩
    have hfvo : ∀ b' ∈ fv, ∃ c' ∈ used, OwnB st fp b' c' ∧ c' ≠ c := fun b' hb' => by
      obtain ⟨c', hc', ho'⟩ := hfv b' hb'
      exact ⟨c', hc', ho', fun e => hnd.1 (e ▸ hc')⟩
    have hfvg : ∀ b' ∈ fv, b' < w.heap.size ∧ ¬ (b' = p.g) := fun b' hb' => by
      obtain ⟨c', hc', ho', hne'⟩ := hfvo b' hb'
      refine ⟨(h.lt _ _ ho').1, fun e => ?_⟩
      subst e
      exact hne' (h.dj _ _ _ ho' hpg)
    have hfvf : ∀ b' ∈ fv, b' ∉ f := fun b' hb' hf' => by
      obtain ⟨c', hc', ho', hne'⟩ := hfvo b' hb'
      exact hne' (h.dj _ _ _ ho' (hown _ (hsub _ hf')))
    have hW := Fr.setCells p.g vs (p.o + q * p.sz + j) w
    have hfe : f = f1 ++ (ga ++ (gm ++ gd)) ++ f2 := by rw [k2, ge, ge']
    have hga : ∀ b' ∈ ga, b' ∈ f := fun b' hb' => by rw [hfe]; simp [hb']
    have hgd : ∀ b' ∈ gd, b' ∈ f := fun b' hb' => by rw [hfe]; simp [hb']
    have hf1 : ∀ b' ∈ f1, b' ∈ f := fun b' hb' => by rw [hfe]; simp [hb']
    have hf2 : ∀ b' ∈ f2, b' ∈ f := fun b' hb' => by rw [hfe]; simp [hb']
    have hnewG : ∀ b' ∈ ga ++ fv ++ gd, b' < w.heap.size ∧ ¬ (b' = p.g) := fun b' hb' => by
      rcases List.mem_append.1 hb' with hb' | hb'
      · rcases List.mem_append.1 hb' with hb' | hb'
        · exact hgf b' (hga b' hb')
        · exact hfvg b' hb'
      · exact hgf b' (hgd b' hb')
    have hz' : OwC (w.setCells p.g (p.o + q * p.sz + j) vs) t' z (b.take j ++ vs ++ b.drop (j + vs.length)) (ga ++ fv ++ gd) :=
      decO_ok (X := X) (vs := vs) hz (hnew.world hW hnewG)
    have k3' : u1.length = q * p.sz := by rw [k3, e2]
    have hus : us = u1 ++ (b ++ u2) := by rw [k1, List.append_assoc]
    have hlenU : us.length = xs.length * t'.n := OwR.len hw
    have hlenS : us.length = u1.length + b.length + u2.length := by rw [k1]; simp only [List.length_append]
    have hthm : w.there p.g (p.o + (u1.length + j)) vs.length := there_mid hth (by omega)
    have hra2 := rangeAt_set (vs := vs) (j := u1.length + j) hra (by omega) hthm
    have hcut : us.take (u1.length + j) ++ vs ++ us.drop (u1.length + j + vs.length) = u1 ++ ((b.take j ++ vs ++ b.drop (j + vs.length)) ++ u2) := by
      rw [hus, List.take_append, List.drop_append, List.take_of_length_le (by omega), List.drop_eq_nil_of_le (by omega)]
      rw [show u1.length + j - u1.length = j by omega, show u1.length + j + vs.length - u1.length = j + vs.length by omega]
      rw [List.take_append_of_le_length (by omega), List.drop_append_of_le_length (by omega)]
      simp [List.append_assoc]
    rw [hcut, show p.o + (u1.length + j) = p.o + q * p.sz + j by rw [k3']; omega] at hra2
    have hthm' : w.there p.g (p.o + q * p.sz + j) vs.length := by rw [k3'] at hthm; rw [show p.o + q * p.sz + j = p.o + (q * p.sz + j) by omega]; exact hthm
    have hrows : OwR (OwC (w.setCells p.g (p.o + q * p.sz + j) vs) t') (xs.set q z) (u1 ++ ((b.take j ++ vs ++ b.drop (j + vs.length)) ++ u2)) (f1 ++ ((ga ++ fv ++ gd) ++ f2)) := by
      rw [List.set_eq_take_append_cons_drop, if_pos hlt']
      exact OwR.append (OwR.world hW k5 fun b' hb' => hgf b' (hf1 b' hb')) ⟨_, _, _, _, rfl, rfl, hz', OwR.world hW k6 fun b' hb' => hgf b' (hf2 b' hb')⟩
    have hin : ∀ b' ∈ f1 ++ ((ga ++ fv ++ gd) ++ f2), b' ∈ f ∨ b' ∈ fv := fun b' hb' => by
      simp only [List.mem_append] at hb'
      rcases hb' with hb' | ((hb' | hb') | hb') | hb'
      · exact .inl (hf1 _ hb')
      · exact .inl (hga _ hb')
      · exact .inr hb'
      · exact .inl (hgd _ hb')
      · exact .inl (hf2 _ hb')
    have hnf : (p.g :: (f1 ++ ((ga ++ fv ++ gd) ++ f2))).Nodup := by
      refine List.nodup_cons.2 ⟨fun hb' => ?_, ?_⟩
      · rcases hin _ hb' with hb' | hb'
        · exact hndp.1 hb'
        · exact (hfvg _ hb').2 rfl
      · rw [List.nodup_iff_count]
        intro b'
        have c1 := List.nodup_iff_count.1 hndp.2 b'
        have c2 := List.nodup_iff_count.1 (hfvn hnd.2) b'
        rw [hfe] at c1
        simp only [List.count_append] at c1 ⊢
        by_cases hb' : b' ∈ fv
        · have hz0 : List.count b' f = 0 := List.count_eq_zero.2 (hfvf b' hb')
          rw [hfe] at hz0
          simp only [List.count_append] at hz0
          omega
        · have hz0 : List.count b' fv = 0 := List.count_eq_zero.2 hb'
          omega
    refine fin ev hthm' ⟨pl, setFp fp c (p.g :: (f1 ++ ((ga ++ fv ++ gd) ++ f2))), ?_⟩ hr
    refine h.step (G := (· = p.g)) o.dst n (_, _) undef hd hn (fun _ _ e => e) (fun c hc => h.nx c (Nat.le_trans hn hc)) (fun _ hl => setFp_look hl) hW ?_ ⟨#[], rfl, .nil⟩ ?_ ?_
    · rintro b' _ rfl
      exact ⟨c, hpg, by simp [look, Nat.beq_refl]⟩
    · intro c' k hk
      rcases look_one hk with ⟨rfl, e⟩ | hk
      · injection e with e; subst e
        refine ⟨⟨p, _, _, hp, by simp only [List.length_set]; exact e1, e2, .inr ⟨setFp_new .., by simp only [List.length_set]; exact htop, World.there_setCells hth _ _ _, hra2, hrl⟩, hrows⟩, ?_⟩
        rw [setFp_new]
        refine ⟨hnf, fun b' hb' => ?_⟩
        rcases List.mem_cons.1 hb' with rfl | hb'
        · exact ⟨Nat.lt_of_lt_of_le (h.lt _ _ hpg).1 hW.size, .inr ⟨c', hpg, by simp [look, Nat.beq_refl]⟩⟩
        · rcases hin _ hb' with hb' | hb'
          · exact ⟨Nat.lt_of_lt_of_le (hgf b' hb').1 hW.size, .inr ⟨c', hown _ (hsub _ hb'), by simp [look, Nat.beq_refl]⟩⟩
          · obtain ⟨c2, hc2, ho2, _⟩ := hfvo b' hb'
            exact ⟨Nat.lt_of_lt_of_le (hfvg b' hb').1 hW.size, .inr ⟨c2, ho2, look_hd (gone_look hc2)⟩⟩
      · cases (look_gone hk).1
    · intro b' c1 c2 k l h1 h2 _ _
      rcases look_one h1 with ⟨rfl, _⟩ | h1
      · rcases look_one h2 with ⟨rfl, _⟩ | h2
        · rfl
        · cases (look_gone h2).1
      · cases (look_gone h1).1
  · cases hr
end

end Go.Proofs.YthpklbpdchckkaaEv

namespace Go.Proofs.YthpklbpdchckkaaEv
open Go.RowKit (Below)
set_option linter.unusedVariables false
set_option linter.unusedSectionVars false
set_option linter.unusedSimpArgs false

section
variable {X : Cx} {T : Nat} {st : St} {a : Act} {w w' : World} {pl : PlM} {fp : FpM} {P : Program} {o : Oper} {u : Upd} {nm n : Nat}

/-! ### filling in -/
theorem fold_put_list : ∀ (l : List Value) (k off : Nat) (cells : Array Value), off + k + l.length ≤ cells.size →
    ((l.zipIdx k).foldl (fun cs (x : Value × Nat) => cs.setIfInBounds (off + x.2) x.1) cells).toList = cells.toList.take (off + k) ++ l ++ cells.toList.drop (off + k + l.length)
  | [], k, off, cells, h => by simp
  | c :: r, k, off, cells, h => by
    simp only [List.zipIdx_cons, List.foldl_cons]
    simp only [List.length_cons] at h
    rw [fold_put_list r (k + 1) off (cells.setIfInBounds (off + k) c) (by simp; omega)]
    have hl : off + k < cells.toList.length := by simp; omega
    have e : (cells.setIfInBounds (off + k) c).toList = cells.toList.take (off + k) ++ c :: cells.toList.drop (off + k + 1) := by
      rw [Array.toList_setIfInBounds, List.set_eq_take_append_cons_drop, if_pos hl]
    have ht : (cells.toList.take (off + k)).length = off + k := by rw [List.length_take]; omega
    have t1 : (cells.toList.take (off + k)).take (off + (k + 1)) = cells.toList.take (off + k) := List.take_of_length_le (by omega)
    have t2 : (cells.toList.take (off + k)).drop (off + (k + 1) + r.length) = [] := List.drop_eq_nil_of_le (by omega)
    rw [e, List.take_append, List.drop_append, ht, t1, t2]
    rw [show off + (k + 1) - (off + k) = 1 by omega, show off + (k + 1) + r.length - (off + k) = r.length + 1 by omega]
    simp only [List.take_succ_cons, List.take_zero, List.drop_succ_cons, List.drop_drop, List.nil_append, List.append_assoc, List.cons_append, List.length_cons]
    rw [show off + k + 1 + r.length = off + k + (r.length + 1) by omega]
theorem fold_put (vs : Array Value) (off : Nat) (cells : Array Value) (h : off + vs.size ≤ cells.size) :
    (vs.zipIdx.foldl (fun cs (x : Value × Nat) => cs.setIfInBounds (off + x.2) x.1) cells).toList = cells.toList.take off ++ vs.toList ++ cells.toList.drop (off + vs.size) := by
  have := fold_put_list vs.toList 0 off cells (by simpa using h)
  rw [Nat.add_zero] at this
  rw [← Array.foldl_toList, Array.toList_zipIdx]
  simpa using this

/-- parts, as they are filled in -/
inductive Parts (X : Cx) (pl : PlM) : List (Nat × Val) → List (Nat × Value) → Prop where
  | nil : Parts X pl [] []
  | cons {i x v r s} (h : VR X pl x v) (t : Parts X pl r s) : Parts X pl ((i, x) :: r) ((i, v) :: s)
theorem parts_ok (h : Inv X T st a w pl fp) : ∀ l : List (Nat × Operand), Parts X pl (l.map fun x => (x.1, st.ev x.2)) (l.map fun x => (x.1, a.eval x.2))
  | [] => .nil
  | x :: r => .cons (ev_ok h x.2) (parts_ok h r)

theorem fillS_ok {fs : List (Nat × Nat × Bool)} {place : Nat → Option (Nat × Nat)} (hp : ∀ i off sz ag, fs[i]? = some (off, sz, ag) → place i = some (off, sz)) :
    ∀ {l : List (Nat × Val)} {s : List (Nat × Value)} {cs cs' : List Cell} {zs : Array Value}, Parts X pl l s → prim.fillS fs l cs = some cs' → All2 (CR X pl) cs zs.toList →
      ∃ zs', Instr.fill place zs s = some zs' ∧ All2 (CR X pl) cs' zs'.toList
  | _, _, cs, cs', zs, .nil, hf, hall => by
    simp only [prim.fillS, Option.some.injEq] at hf; subst hf
    exact ⟨zs, rfl, hall⟩
  | _, _, cs, cs', zs, .cons (i := i) (x := x) (v := v) hx ht, hf, hall => by
    simp only [prim.fillS] at hf
    split at hf
    case h_2 => cases hf
    rename_i off sz ag hg
    cases hb : (Nat.beq x.cells.length sz && (Nat.ble (off + sz) cs.length && (!Nat.beq sz 0 && !x.cells.any isDeadC)))
    · rw [hb] at hf; cases hf
    rw [hb] at hf
    simp only [cond_true] at hf
    simp only [Bool.and_eq_true, Bool.not_eq_true'] at hb
    obtain ⟨h1, h2, h3, h4⟩ := hb
    have h1 := Nat.eq_of_beq_eq_true h1
    have h2 := Nat.le_of_ble_eq_true h2
    have hne : x.cells ≠ [] := by intro e; rw [e] at h1; rw [← h1] at h3; exact absurd h3 (by decide)
    obtain ⟨hv, _⟩ := val_cells hx hne h4
    have hvl : v.cells.size = sz := by rw [← h1, hv.len, Array.length_toList]
    have hzl : cs.length = zs.size := by rw [hall.len, Array.length_toList]
    have hfold := fold_put v.cells off zs (by omega)
    obtain ⟨zs2, hz2⟩ : ∃ zs2, zs2 = v.cells.zipIdx.foldl (fun cs (x : Value × Nat) => cs.setIfInBounds (off + x.2) x.1) zs := ⟨_, rfl⟩
    rw [← hz2] at hfold
    have hall2 : All2 (CR X pl) (setAt off x.cells cs) zs2.toList := by
      rw [hfold]
      unfold setAt
      rw [← Array.length_toList, ← hv.len]
      exact ((hall.take off).append hv).append (hall.drop _)
    obtain ⟨zs', e1, e2⟩ := fillS_ok hp ht hf hall2
    refine ⟨zs', ?_, e2⟩
    simp only [Instr.fill, hp _ _ _ _ hg]
    have hc : ¬ ((v.cells.size ≠ sz || decide (off + v.cells.size > zs.size)) = true) := by simp; omega
    rw [if_neg hc]
    rw [← hz2] 
    exact e1

theorem mapM_ok {α β : Type} {P : Program} {w : World} (f : α → Sem β) (g : α → β) : ∀ (l : List α), (∀ x ∈ l, (f x).run P w = .ok (g x) w) → (l.mapM f).run P w = .ok (l.map g) w
  | [], _ => by simp
  | x :: r, h => by
    have h1 := h x (List.mem_cons_self ..)
    have h2 := mapM_ok f g r fun y hy => h y (List.mem_cons_of_mem _ hy)
    simp [List.mapM_cons, h1, h2]

theorem q_build (h : Inv X T st a w pl fp) {t : TypeId} {parts : Array (Nat × Operand)} (ho : o.op = .build t parts) (hr : (prim P nm st.ev st.chunk (.build t parts)).run = some u) : Quiet1 X pl P w a o u := by
  simp only [prim] at hr
  split at hr
  case h_2 => cases hr
  rename_i i hi

  cases hb : (Nat.beq i.knd 6 && ((i.fs.all fun x => !Nat.beq x.2.1 0) && !i.zero.isEmpty))
  · rw [hb] at hr; cases hr
  rw [hb] at hr
  simp only [cond_true] at hr
  simp only [Bool.and_eq_true, Bool.not_eq_true'] at hb
  have hk6 := Nat.eq_of_beq_eq_true hb.1
  split at hr
  case h_2 => cases hr
  rename_i cs hcs
  simp only [Res.run, Option.some.injEq] at hr; subst hr
  obtain ⟨inf, d, g1, g2, g3, g4, g5, g6, g7⟩ := ti_spec hi
  cases d <;> simp only [hk6] at g7 <;> first
    | (exact absurd g7 (by decide))
    | (exact absurd g7.1 (by decide))
    | skip
  rename_i fs
  obtain ⟨_, g8⟩ := g7
  have hsz : ∀ fd ∈ fs.toList, ∃ inf', P.info? fd.type = some inf' ∧ (szAg P fd.type).1 = inf'.size := by
    intro fd hfd
    have hx := List.all_eq_true.1 hb.2.1 (fd.offset, (szAg P fd.type).1, (szAg P fd.type).2) (by rw [g8]; exact List.mem_map.2 ⟨fd, hfd, rfl⟩)
    unfold szAg at hx ⊢
    split
    · rename_i j d' hj hd; exact ⟨j, hj, rfl⟩
    · rename_i hno
      split at hx
      · rename_i j d' hj hd; exact absurd hd (hno j d' hj)
      · simp at hx
  cases hz : inf.zero with
  | none =>
    rw [hz] at g5
    have := hb.2.2
    rw [g5] at this
    cases this
  | some z =>
    rw [hz] at g5
    simp only at g5
    rw [g5] at hcs
    have hcs' : prim.fillS i.fs (parts.toList.map fun x => (x.1, st.ev x.2)) (z.cells.toList.map Cell.ofV) = some cs := hcs
    obtain ⟨zs', e1, e2⟩ := fillS_ok (place := fun q => (fs.map fun f => (f.offset, (szAg P f.type).1))[q]?) (by
      intro q off sz ag hq
      rw [g8, List.getElem?_map] at hq
      rw [Array.getElem?_map, ← Array.getElem?_toList]
      cases hf : fs.toList[q]? with
      | none => rw [hf] at hq; cases hq
      | some fd =>
        rw [hf] at hq
        simp only [Option.map_some, Option.some.injEq, Prod.mk.injEq] at hq ⊢
        exact ⟨hq.1, hq.2.1⟩) (parts_ok h parts.toList) hcs' (ofVs_ok X pl _)
    refine ⟨.agg zs', ?_, ⟨zs', rfl, e2⟩, rfl⟩
    unfold execOp; rw [ho]
    refine run_v ?_
    have hm : (fs.mapM fun f => do pure (f.offset, ← sizeOf f.type) : Sem (Array (Nat × Nat))).run P w = .ok (fs.map fun f => (f.offset, (szAg P f.type).1)) w := by
      have := mapM_ok (P := P) (w := w) (fun f : Field => (do pure (f.offset, ← sizeOf f.type) : Sem (Nat × Nat))) (fun f => (f.offset, (szAg P f.type).1)) fs.toList (by
        intro fd hfd
        obtain ⟨inf', k1, k2⟩ := hsz fd hfd
        simp [run_sizeOf' k1, k2])
      have e : fs.mapM (fun f => (do pure (f.offset, ← sizeOf f.type) : Sem (Nat × Nat))) = List.toArray <$> fs.toList.mapM (fun f => (do pure (f.offset, ← sizeOf f.type) : Sem (Nat × Nat))) := by
        rw [← List.mapM_toArray]
      rw [e, Sem.run_map, this]
      simp only [Result.andThen_ok]
      first | exact congrArg (fun z => Result.ok z w) (Array.ext' (by simp)) | (simp; exact Array.ext' (by simp))
    have hp : (parts.map fun (i, x) => (i, a.eval x)).toList = parts.toList.map fun x => (x.1, a.eval x.2) := by rw [Array.toList_map]
    have hm' : (fs.mapM fun f => Prod.mk f.offset <$> sizeOf f.type : Sem (Array (Nat × Nat))).run P w = .ok (fs.map fun f => (f.offset, (szAg P f.type).1)) w := by simpa using hm
    simp only [Array.getElem?_map] at e1
    simp [Instr.build, zeroValue, run_typeInfo' g1, hz, run_underlying' g2, hm', hp, e1]

/-! ### slices' literals -/
theorem fill_all {sz : Nat} : ∀ (vs : List Value) (k : Nat) (zs : Array Value), (∀ v ∈ vs, v.cells.size = sz) → (k + vs.length) * sz ≤ zs.size →
    ∃ zs', Instr.fill (fun i => some (i * sz, sz)) zs ((range' k vs.length).zip vs) = some zs' ∧ zs'.toList = zs.toList.take (k * sz) ++ (vs.flatMap fun v => v.cells.toList) ++ zs.toList.drop ((k + vs.length) * sz)
  | [], k, zs, _, _ => ⟨zs, rfl, by simp⟩
  | v :: r, k, zs, hv, hz => by
    have h1 := hv v (List.mem_cons_self ..)
    simp only [List.length_cons] at hz
    have hz2 : (k + 1 + r.length) * sz ≤ zs.size := by rw [show k + 1 + r.length = k + (r.length + 1) by omega]; exact hz
    have hk : k * sz + sz ≤ zs.size := by
      have : (k + 1) * sz ≤ (k + 1 + r.length) * sz := Nat.mul_le_mul_right _ (by omega)
      rw [Nat.succ_mul] at this; omega
    obtain ⟨zs2, hzs2⟩ : ∃ zs2, zs2 = v.cells.zipIdx.foldl (fun cs (x : Value × Nat) => cs.setIfInBounds (k * sz + x.2) x.1) zs := ⟨_, rfl⟩
    have hf := fold_put v.cells (k * sz) zs (by omega)
    rw [← hzs2, h1] at hf
    have hsz : zs2.size = zs.size := by
      rw [← Array.length_toList, hf]
      simp only [List.length_append, List.length_take, List.length_drop, Array.length_toList]; omega
    obtain ⟨zs', e1, e2⟩ := fill_all r (k + 1) zs2 (fun x hx => hv x (List.mem_cons_of_mem _ hx)) (by rw [hsz]; exact hz2)
    refine ⟨zs', ?_, ?_⟩
    · simp only [List.length_cons, range', List.zip_cons_cons, Instr.fill]
      have hc : ¬ ((v.cells.size ≠ sz || decide (k * sz + v.cells.size > zs.size)) = true) := by simp; omega
      rw [if_neg hc, ← hzs2]
      exact e1
    · rw [e2, hf]
      have hl : (zs.toList.take (k * sz)).length = k * sz := by rw [List.length_take, Array.length_toList]; omega
      have hvl : v.cells.toList.length = sz := by rw [Array.length_toList]; exact h1
      have hs : (k + 1) * sz = k * sz + sz := Nat.succ_mul _ _
      have t1 : (zs.toList.take (k * sz) ++ v.cells.toList ++ zs.toList.drop (k * sz + sz)).take ((k + 1) * sz) = zs.toList.take (k * sz) ++ v.cells.toList := by
        rw [List.take_append_of_le_length (by rw [List.length_append]; omega), List.take_of_length_le (by rw [List.length_append]; omega)]
      have t2 : (zs.toList.take (k * sz) ++ v.cells.toList ++ zs.toList.drop (k * sz + sz)).drop ((k + 1 + r.length) * sz) = zs.toList.drop ((k + (r.length + 1)) * sz) := by
        have hge : k * sz + sz ≤ (k + 1 + r.length) * sz := by rw [← hs]; exact Nat.mul_le_mul_right _ (by omega)
        rw [List.drop_append, List.drop_eq_nil_of_le (by rw [List.length_append]; omega), List.nil_append, List.drop_drop, List.length_append, hl, hvl]
        rw [show k * sz + sz + ((k + 1 + r.length) * sz - (k * sz + sz)) = (k + 1 + r.length) * sz by omega, show k + 1 + r.length = k + (r.length + 1) by omega]
      rw [t1, t2]
      simp [List.append_assoc]

theorem vals_ok (h : Inv X T st a w pl fp) {t : Ty} : ∀ {vals : List Val} {vs : List Value} {xs : List t.D} {ids : List Nat}, decVals st.chunk t vals = some (xs, ids) → All2 (VR X pl) vals vs →
    ∃ f, OwR (OwC w t) xs (vs.flatMap fun v => v.cells.toList) f ∧ (∀ b ∈ f, ∃ c ∈ ids, OwnB st fp b c) ∧ (ids.Nodup → f.Nodup) ∧ (∀ v ∈ vs, v.cells.size = t.n) ∧ xs.length = vs.length
  | [], _, xs, ids, hd, .nil => by
    simp only [decVals, Option.some.injEq, Prod.mk.injEq] at hd
    obtain ⟨rfl, rfl⟩ := hd
    exact ⟨[], ⟨rfl, rfl⟩, by simp, fun _ => List.nodup_nil, by simp, rfl⟩
  | x :: r, _, xs, ids, hd, .cons (y := v) hx ht => by
    simp only [decVals] at hd
    cases hb : (Nat.beq x.cells.length t.n && (!Nat.beq t.n 0 && !x.cells.any isDeadC))
    · rw [hb] at hd; cases hd
    rw [hb] at hd
    simp only [cond_true] at hd
    simp only [Bool.and_eq_true, Bool.not_eq_true'] at hb
    obtain ⟨h1, h2, h3⟩ := hb
    have h1 := Nat.eq_of_beq_eq_true h1
    have hne : x.cells ≠ [] := by intro e; rw [e] at h1; rw [← h1] at h2; exact absurd h2 (by decide)
    obtain ⟨hall, _⟩ := val_cells hx hne h3
    split at hd
    case h_2 => cases hd
    rename_i cs ia hcs
    split at hd
    case h_2 => cases hd
    rename_i y ys ib hy hys
    simp only [Option.some.injEq, Prod.mk.injEq] at hd
    obtain ⟨rfl, rfl⟩ := hd
    obtain ⟨f, k1, k2, k3⟩ := ownCs_ok h hcs hall
    obtain ⟨g, m1, m2, m3, m4, m5⟩ := vals_ok h hys ht
    refine ⟨f ++ g, ⟨_, _, f, g, rfl, rfl, decO_ok (X := X) (vs := []) hy k1, m1⟩, fun b hb => ?_, fun hn => ?_, fun z hz => ?_, by simp [m5]⟩
    · rcases List.mem_append.1 hb with hb | hb
      · obtain ⟨c, hc, ho⟩ := k2 b hb; exact ⟨c, List.mem_append.2 (.inl hc), ho⟩
      · obtain ⟨c, hc, ho⟩ := m2 b hb; exact ⟨c, List.mem_append.2 (.inr hc), ho⟩
    · have hn := List.nodup_append.1 hn
      refine List.nodup_append.2 ⟨k3 hn.1, m3 hn.2.1, fun b hb b' hb' e => ?_⟩
      subst e
      obtain ⟨c, hc, ho⟩ := k2 b hb
      obtain ⟨c', hc', ho'⟩ := m2 b hb'
      exact hn.2.2 c hc c' hc' (h.dj b c c' ho ho')
    · rcases List.mem_cons.1 hz with rfl | hz
      · rw [← h1, hall.len, Array.length_toList]
      · exact m4 z hz

theorem eqNats_spec : ∀ {l m : List Nat}, eqNats l m = true → l = m
  | [], [], _ => rfl
  | x :: xs, y :: ys, h => by
    simp only [eqNats, Bool.and_eq_true] at h
    rw [Nat.eq_of_beq_eq_true h.1, eqNats_spec h.2]
  | [], _ :: _, h => by cases h
  | _ :: _, [], h => by cases h

theorem zip_fst_snd {α β : Type} (l : List (α × β)) : (l.map (·.1)).zip (l.map (·.2)) = l := by
  induction l with
  | nil => rfl
  | cons x r ih => simp [ih]

theorem range'_len : ∀ (k n : Nat), (range' k n).length = n
  | _, 0 => rfl
  | k, n + 1 => by simp [range', range'_len (k + 1) n]

theorem knd3_el {t : TypeId} {i : TI} (hi : ti P t = some i) (hk : i.knd = 3) : P.underlying t = some (.slice i.el) := by
  obtain ⟨inf, d, h1, h2, h3, h4, h5, h6, h7⟩ := ti_spec hi
  cases d <;> simp only [hk] at h7 <;> first | (rw [h7.2]; exact h2) | (exact absurd h7 (by decide)) | (exact absurd h7.1 (by decide))
theorem zero_some {t : TypeId} {i : TI} (hi : ti P t = some i) (hz : i.zero.isEmpty = false) : ∃ inf z, P.info? t = some inf ∧ inf.size = i.sz ∧ inf.bytes = i.by_ ∧ inf.zero = some z ∧ i.zero = z.cells.toList.map Cell.ofV := by
  obtain ⟨inf, d, h1, h2, h3, h4, h5, h6, h7⟩ := ti_spec hi
  cases hq : inf.zero with
  | none => rw [hq] at h5; rw [h5] at hz; cases hz
  | some z => rw [hq] at h5; exact ⟨inf, z, h1, h3.symm, h4.symm, hq, h5⟩

theorem m_buildSlice (h : Inv X T st a w pl fp) {t : TypeId} {len : Nat} {parts : Array (Nat × Operand)} (ho : o.op = .buildSlice t len parts) (hd : ∀ e, o.dst = some e → e < T) (hn : st.nx ≤ n) (hnm : pl nm = none) (hlt : nm < n)
    (hr : (prim P nm st.ev st.chunk (.buildSlice t len parts)).run = some u) : Mem X T st a w P o n u := by
  simp only [prim] at hr
  split at hr
  case h_2 => cases hr
  rename_i i hi
  split at hr
  case h_2 => cases hr
  rename_i j y hj hy
  obtain ⟨hb, hr⟩ := Res.run_cond hr
  simp only [Bool.and_eq_true, Bool.not_eq_true'] at hb
  obtain ⟨hb1, hb2, hb3, hb4, hb5⟩ := hb
  have hb1 := eqNats_spec hb1
  have hb2 := Nat.le_of_ble_eq_true hb2
  have hb3 := Nat.eq_of_beq_eq_true hb3
  have hb4 := Nat.eq_of_beq_eq_true hb4
  split at hr
  case h_2 => cases hr
  rename_i xs used hx
  obtain ⟨hu, hr⟩ := Res.run_cond hr
  simp only [Res.run, Option.some.injEq] at hr; subst hr
  have ht := knd3_el hi hb4
  obtain ⟨inf, z, g1, g2, g3, g4, g5⟩ := zero_some hj hb5
  have hall : ∀ l : List (Nat × Operand), All2 (VR X pl) (l.map fun x => st.ev x.2) (l.map fun x => a.eval x.2) := by
    intro l
    induction l with
    | nil => exact .nil
    | cons x r ih => exact .cons (ev_ok h x.2) ih
  obtain ⟨f, k1, k2, k3, k4, k5⟩ := vals_ok h hx (hall parts.toList)
  have hlen : (parts.toList.map fun x => a.eval x.2).length = len := by
    have := congrArg List.length hb1
    rw [range'_len] at this
    simpa using this
  obtain ⟨zs, e1, e2⟩ := fill_all (sz := y.n) (parts.toList.map fun x => a.eval x.2) 0 ((Array.range (len * inf.size)).map (z.cells[· % z.cells.size]!)) k4 (by simp [hlen, hb3, g2])
  have hz0 : (parts.map fun (i, x) => (i, a.eval x)).toList = (range' 0 (parts.toList.map fun x => a.eval x.2).length).zip (parts.toList.map fun x => a.eval x.2) := by
    rw [hlen, ← hb1, Array.toList_map]
    have := zip_fst_snd (parts.toList.map fun x => (x.1, a.eval x.2))
    simpa [List.map_map, Function.comp_def] using this.symm
  have hsz : inf.size = y.n := by omega
  have e2' : zs.toList = (parts.toList.map fun x => a.eval x.2).flatMap fun v => v.cells.toList := by
    rw [e2, hlen]
    rw [List.drop_eq_nil_of_le (by simp [hsz])]
    simp
  have hxl : xs.length = len := by rw [k5, hlen]
  have hzl : zs.size = len * y.n := by rw [← Array.length_toList, e2', OwR.len k1, hxl]
  obtain ⟨pl', fp', hi'⟩ := h.newRows o.dst (e := i.el) hd hn hnm hlt (Fr.alloc _ w (.cells zs i.el)) (Nat.le_refl _) (by rw [World.size_alloc]; omega) (there_alloc_new w zs i.el) (rangeAt_alloc_new w zs i.el) (by rw [e2']; exact k1) k2 (k3 (nodupB_spec hu)) (Nat.le_refl _) (by rw [hxl, hzl]; exact Nat.le_refl _)
  refine ⟨_, _, _, pl', fp', ?_, .inl rfl, hi'⟩
  unfold execOp; rw [ho]
  refine run_v ?_
  have hlim : ¬ (len * inf.size > 2 ^ 24) := by rw [g2]; omega
  have e1' : Instr.fill (fun i => some (i * inf.size, inf.size)) ((Array.range (len * inf.size)).map (z.cells[· % z.cells.size]!)) (parts.map fun (i, x) => (i, a.eval x)).toList = some zs := by
    rw [hz0, hsz]; rw [hsz] at e1; exact e1
  by_cases h0 : len * inf.size = 0
  · have e0 : (Array.range (len * inf.size)).map (z.cells[· % z.cells.size]!) = (Array.range 0).map ((#[] : Array Value)[· % 0]!) := by rw [h0]; exact Array.ext' (by simp)
    rw [e0, Array.toList_map] at e1'
    have e3 : (Array.range 0).map (fun _ => (default : Value)) = (Array.range 0).map ((#[] : Array Value)[· % 0]!) := Array.ext' (by simp)
    simp [Instr.buildSlice, run_underlying' ht, run_sizeOf' g1, hlim, h0, newRow, newObj, Sem.run, hxl]
    rw [e3, e1']; rfl
  · rw [Array.toList_map] at e1'
    simp [Instr.buildSlice, run_underlying' ht, run_sizeOf' g1, hlim, h0, zeroValue, run_typeInfo' g1, g4, newRow, newObj, Sem.run, hxl]
    rw [e1']; rfl
end

end Go.Proofs.YthpklbpdchckkaaEv

namespace Go.Proofs.YthpklbpdchckkaaEv
open Go.RowKit (Below)
set_option linter.unusedVariables false
set_option linter.unusedSectionVars false
set_option linter.unusedSimpArgs false

section
variable {X : Cx} {T : Nat} {st : St} {a : Act} {w w' : World} {pl : PlM} {fp : FpM} {P : Program} {o : Oper} {u : Upd} {nm n : Nat}

theorem ofV_OC (X : Cx) (w : World) (v : Value) : OC X w (Cell.ofV v) v [] := by
  have h := ofV_ok X (fun _ => none) v
  unfold OC
  split
  · rename_i heq; rw [heq] at h; exact h.elim
  · rename_i heq; rw [heq] at h; exact h.elim
  · exact ⟨rfl, h⟩
theorem ofVs_OCs (X : Cx) (w : World) : ∀ vs : List Value, OCs X w (vs.map Cell.ofV) vs []
  | [] => .nil
  | v :: r => .cons (f := []) (ofV_OC X w v) (ofVs_OCs X w r)

theorem made_list (z : Array Value) (m : Nat) : (madeCells z m).toList = (List.range m).map (z[· % z.size]!) := by simp [madeCells]
theorem made_succ (z : Array Value) (hz : 0 < z.size) (k : Nat) : (madeCells z ((k + 1) * z.size)).toList = z.toList ++ (madeCells z (k * z.size)).toList := by
  rw [made_list, made_list]
  apply List.ext_getElem?
  intro i
  by_cases hi : i < z.size
  · rw [List.getElem?_append_left (by simpa using hi), List.getElem?_map, List.getElem?_range (by have := Nat.le_mul_of_pos_left z.size (show 0 < k + 1 by omega); omega)]
    simp [Nat.mod_eq_of_lt hi, hi]
  · rw [List.getElem?_append_right (by simp; omega)]
    simp only [Array.length_toList, List.getElem?_map]
    have hm : (k + 1) * z.size = k * z.size + z.size := Nat.succ_mul _ _
    by_cases hj : i - z.size < k * z.size
    · rw [List.getElem?_range hj, List.getElem?_range (by omega)]
      simp only [Option.map_some]
      rw [Nat.mod_eq_sub_mod (by omega)]
    · rw [List.getElem?_eq_none (by simp; omega), List.getElem?_eq_none (by simp; omega)]
theorem made_rows {t : Ty} {z : t.D} {zs : Array Value} (h : OwC w t z zs.toList []) (h0 : 0 < zs.size) : ∀ k, OwR (OwC w t) (List.replicate k z) (madeCells zs (k * zs.size)).toList []
  | 0 => by simp [OwR, made_list]
  | k + 1 => by
    rw [made_succ zs h0, List.replicate_succ]
    exact ⟨_, _, [], [], rfl, rfl, h, made_rows h h0 k⟩

theorem m_makeSlice (h : Inv X T st a w pl fp) {t : TypeId} {l c : Operand} (ho : o.op = .makeSlice t l c) (hd : ∀ e, o.dst = some e → e < T) (hn : st.nx ≤ n) (hnm : pl nm = none) (hlt : nm < n)
    (hr : (prim P nm st.ev st.chunk (.makeSlice t l c)).run = some u) : Mem X T st a w P o n u := by
  simp only [prim] at hr
  have hl := ev_ok h l
  have hc := ev_ok h c
  split at hr
  case h_2 => cases hr
  rename_i i nl nc hi hql hqc
  rw [hql] at hl; rw [hqc] at hc
  split at hr
  case h_2 => cases hr
  rename_i j y hj hy
  split at hr
  case h_2 => cases hr
  rename_i z hz
  obtain ⟨hb, hr⟩ := Res.run_cond hr
  simp only [Bool.and_eq_true, Bool.not_eq_true'] at hb
  obtain ⟨hb1, hb2, hb3⟩ := hb
  have hb1 := Nat.eq_of_beq_eq_true hb1
  have hb2 := Nat.eq_of_beq_eq_true hb2
  obtain ⟨hk, hr⟩ := Res.run_chk hr
  obtain ⟨c0, c1, c2, c3⟩ : 0 ≤ nl ∧ nl ≤ nc ∧ nc ≤ 4611686018427387904 ∧ (j.by_ : Int) * nc ≤ 140737488355328 := of_decide_eq_true hk
  simp only [Res.run, Option.some.injEq] at hr; subst hr
  have ht := knd3_el hi hb2
  obtain ⟨inf, zv, g1, g2, g3, g4, g5⟩ := zero_some hj hb3
  rw [g5] at hz
  have how : OwC w y z zv.cells.toList [] := decO_ok (X := X) (vs := []) hz (ofVs_OCs X w _)
  have hzs : zv.cells.size = y.n := by rw [← Array.length_toList]; exact how.len
  have hz0 : 0 < zv.cells.size := by
    rw [g5] at hb3
    cases hq : zv.cells.toList with
    | nil => rw [hq] at hb3; cases hb3
    | cons v r => rw [← Array.length_toList, hq]; simp
  have hsz : inf.size = zv.cells.size := by omega
  have hm : (madeCells zv.cells (nc.toNat * inf.size)).size = nc.toNat * y.n := by simp [madeCells, hsz, hzs]
  have htk : ((madeCells zv.cells (nc.toNat * inf.size)).toList).take (nl.toNat * zv.cells.size) = (madeCells zv.cells (nl.toNat * zv.cells.size)).toList := by
    rw [made_list, made_list, ← List.map_take, List.take_range]
    rw [Nat.min_eq_left (by rw [hsz]; exact Nat.mul_le_mul_right _ (by omega))]
  obtain ⟨pl', fp', hi'⟩ := h.newRows (ids := []) (xs := List.replicate nl.toNat z) (e := i.el) (cap := nc.toNat) o.dst hd hn hnm hlt (Fr.alloc _ w (.cells (madeCells zv.cells (nc.toNat * inf.size)) i.el)) (Nat.le_refl _) (by rw [World.size_alloc]; omega)
    (there_alloc_new w _ i.el) (rangeAt_take (rangeAt_alloc_new w _ i.el) (nl.toNat * zv.cells.size)) (by rw [htk]; exact made_rows how hz0 nl.toNat) (by simp) List.nodup_nil (by simp; omega) (by rw [hm]; exact Nat.le_refl _)
  refine ⟨_, _, _, pl', fp', ?_, .inl rfl, hi'⟩
  unfold execOp; rw [ho]
  refine run_v ?_
  rw [show a.eval l = _ from hl, show a.eval c = _ from hc]
  have := run_make (P := P) w t i.el inf zv ht g1 g4 .i64 .i64 nl nc c0 c1 (by rw [g3]; omega) (by omega)
  rw [this, List.length_replicate]

theorem q_len (h : Inv X T st a w pl fp) {t ty : TypeId} {x : Operand} {s : ByteArray ⊕ Nat}
    (he : execOp a.eval o = (do pure (.value (← Builtin.len_ #[t] ty #[a.eval x]))))
    (hs : match s with
      | .inl q => st.ev x = .c (.sr q) ∧ kndIs P t 2 = true ∧ u = (.c (.nu .i64 (q.size : Int)), [])
      | .inr k => (∃ A cap, a.eval x = .slice A k cap) ∧ kndIs P t 3 = true ∧ u = (.c (.nu .i64 (k : Int)), [])) : Quiet1 X pl P w a o u := by
  cases s with
  | inl q =>
    obtain ⟨h1, h2, rfl⟩ := hs
    have hx := ev_ok h x
    rw [h1] at hx
    refine ⟨_, ?_, rfl, rfl⟩
    rw [he, hx.sr]
    exact run_v (run_len_string (knd_string h2) ty q)
  | inr k =>
    obtain ⟨⟨A, cap, h1⟩, h2, rfl⟩ := hs
    obtain ⟨e, h3⟩ := knd_slice h2
    refine ⟨_, ?_, rfl, rfl⟩
    rw [he, h1]
    exact run_v (run_len_slice h3 ty A k cap)

theorem minmax_ok (h : Inv X T st a w pl fp) (mn : Bool) {k : IntKind} : ∀ {l : List Operand} {x : Int} {u : Upd}, (minmax mn k x (l.map st.ev)).run = some u →
    ∃ v, (List.foldlM (if mn then Builtin.min2 else Builtin.max2) (.int k x) (l.map a.eval)).run P w = .ok v w ∧ VR X pl u.1 v ∧ u.2 = []
  | [], x, u, hr => by
    simp only [List.map_nil, minmax] at hr
    rw [run_pure1 hr]
    exact ⟨.int k x, by simp, rfl, rfl⟩
  | y :: r, x, u, hr => by
    simp only [List.map_cons] at hr
    unfold minmax at hr
    split at hr <;> rename_i heq
    · cases heq
    · rename_i q m r'
      injection heq with e1 e2
      subst e2
      have hy := ev_ok h y
      rw [e1] at hy
      obtain ⟨v, h1, h2, h3⟩ := minmax_ok h mn hr
      refine ⟨v, ?_, h2, h3⟩
      simp only [List.map_cons, List.foldlM_cons, show a.eval y = _ from hy, Sem.run_bind]
      cases mn
      · simp only [Bool.false_eq_true, if_false, cond_false] at h1 ⊢
        simp only [Builtin.max2, Sem.run_pure, Result.andThen_ok]
        exact h1
      · simp only [if_true, cond_true] at h1 ⊢
        simp only [Builtin.min2, Sem.run_pure, Result.andThen_ok]
        exact h1
    · cases hr
end

end Go.Proofs.YthpklbpdchckkaaEv

namespace Go.Proofs.YthpklbpdchckkaaEv
open Go.RowKit (Below)
set_option linter.unusedVariables false
set_option linter.unusedSectionVars false
set_option linter.unusedSimpArgs false

section
variable {X : Cx} {T : Nat} {st : St} {a : Act} {w w' : World} {pl : PlM} {fp : FpM} {P : Program} {o : Oper} {u : Upd} {nm n : Nat}

theorem OwC.one {w : World} : ∀ {t : Ty} {x : t.D} {us : List Value} {f : List Nat}, OwC w t x us f → ∀ v ∈ us, v.oneCell' = true
  | .int _, _, _, _, ⟨rfl, _⟩ | .bool, _, _, _, ⟨rfl, _⟩ | .str, _, _, _, ⟨rfl, _⟩ => fun v hv => by simp at hv; subst hv; rfl
  | .unit, _, _, _, ⟨rfl, _⟩ => fun v hv => by simp at hv
  | .pr _ _, _, _, _, ⟨_, _, _, _, rfl, _, h1, h2⟩ => fun v hv => by
    rcases List.mem_append.1 hv with hv | hv
    · exact h1.one v hv
    · exact h2.one v hv
  | .sl _ _, _, _, _, ⟨v, rfl, h⟩ => fun v' hv => by
    simp at hv; subst hv
    rcases h with ⟨rfl, _⟩ | ⟨g, o, cap, top, us, f, rfl, _⟩ <;> rfl
theorem OwR.one {w : World} {t : Ty} : ∀ {xs : List t.D} {us : List Value} {f : List Nat}, OwR (OwC w t) xs us f → ∀ v ∈ us, v.oneCell' = true
  | [], _, _, ⟨rfl, _⟩ => fun v hv => by simp at hv
  | _ :: _, _, _, ⟨_, _, _, _, rfl, _, h1, h2⟩ => fun v hv => by
    rcases List.mem_append.1 hv with hv | hv
    · exact h1.one v hv
    · exact h2.one v hv

theorem RdC.flat {w : World} {Z : Nat → Prop} : ∀ {t : Ty} {x : t.D} {us : List Value}, YthpklbpdchckkaaEv.flat t = true → RdC w Z t x us → OwC w t x us []
  | .int _, _, _, _, h | .bool, _, _, _, h | .str, _, _, _, h | .unit, _, _, _, h => ⟨h, rfl⟩
  | .pr _ _, _, _, hf, ⟨p, q, e, h1, h2⟩ => by
    have hf := (Bool.and_eq_true _ _).mp hf
    exact ⟨p, q, [], [], e, rfl, RdC.flat hf.1 h1, RdC.flat hf.2 h2⟩
  | .sl _ _, _, _, hf, _ => nomatch hf
theorem RdC.rows {w : World} {Z : Nat → Prop} {t : Ty} (hf : YthpklbpdchckkaaEv.flat t = true) {b o : Nat} : ∀ (xs : List t.D) (k : Nat), (∀ i x, xs[i]? = some x → ∃ us, RdC w Z t x us ∧ w.rangeAt b (o + (k + i) * t.n) us) →
    ∃ us, OwR (OwC w t) xs us [] ∧ w.rangeAt b (o + k * t.n) us
  | [], k, _ => ⟨[], ⟨rfl, rfl⟩, rangeAt_nil _ _ _⟩
  | x :: r, k, h => by
    obtain ⟨us, h1, h2⟩ := h 0 x rfl
    obtain ⟨vs, h3, h4⟩ := RdC.rows hf r (k + 1) fun i y hy => by
      have := h (i + 1) y (by simpa using hy)
      rwa [show k + (i + 1) = k + 1 + i by omega] at this
    have ho := RdC.flat hf h1
    refine ⟨us ++ vs, ⟨us, vs, [], [], rfl, rfl, ho, h3⟩, rangeAt_join h2 ?_⟩
    rw [ho.len]
    have e : o + (k + 1) * t.n = o + k * t.n + t.n := by rw [Nat.succ_mul]; omega
    rw [e] at h4; exact h4

theorem Inv.virt (h : Inv X T st a w pl fp) (d : Option Nat) {nm n : Nat} {t : Ty} {e : TypeId} {ids : List Nat} (hd : ∀ e, d = some e → e < T) (hn : st.nx ≤ n) (hnm : pl nm = none) (hlt : nm < n) :
    ∃ pl' fp', Inv X T (upd st d n (.c (.slw nm), (nm, some (.rows t e [])) :: gone ids)) (a.put d (.slice none 0 0)) w pl' fp' := by
  refine ⟨setPl pl nm ⟨0, 0, 0, 0, t.n, false⟩, setFp fp nm [], h.step (G := fun _ => False) d n _ _ hd hn (setPl_old hnm) (setPl_fresh (fun c hc => h.nx c (Nat.le_trans hn hc)) hlt) (fun c hc => setFp_look hc) (Fr.refl _ _) (fun _ _ hg => hg.elim)
    ⟨_, setPl_new .., .inl ⟨rfl, rfl, rfl⟩⟩ ?_ ?_⟩
  · intro c k hk
    rcases look_one hk with ⟨rfl, e'⟩ | hk
    · injection e' with e'; subst e'
      refine ⟨⟨_, [], [], setPl_new .., rfl, rfl, .inl ⟨rfl, setFp_new .., rfl, rfl⟩, ⟨rfl, rfl⟩⟩, ?_⟩
      rw [setFp_new]
      exact ⟨List.nodup_nil, by simp⟩
    · cases (look_gone hk).1
  · intro b c e k l h1 h2 _ _
    rcases look_one h1 with ⟨rfl, _⟩ | h1
    · rcases look_one h2 with ⟨rfl, _⟩ | h2
      · rfl
      · cases (look_gone h2).1
    · cases (look_gone h1).1

/-- a slice value that owns or reads, as the kit's 'Src' -/
theorem src_own {t : Ty} {e e' : TypeId} {xs : List t.D} {v : Value} {f : List Nat} {tx : TypeId} (hk : P.underlying tx = some (.slice e')) (h : OwS w e t.n (OwC w t) xs v f) :
    ∃ us g, OwR (OwC w t) xs us g ∧ (∀ b ∈ g, b ∈ f) ∧ (f.Nodup → g.Nodup) ∧ Src P t.n tx v xs.length us w := by
  rcases h with ⟨rfl, rfl, rfl⟩ | ⟨g, o, cap, top, us, f', rfl, h1, h2, h3, h4, h5, h6, rfl⟩
  · exact ⟨[], [], ⟨rfl, rfl⟩, by simp, fun _ => List.nodup_nil, Src.ofNil w hk 0⟩
  · refine ⟨us, f', h6, fun b hb => List.mem_cons_of_mem _ hb, fun hn => (List.nodup_cons.1 hn).2, Src.ofSlice w hk ⟨g, o, none⟩ xs.length cap us h6.len (fun j y hy => ?_) h6.one⟩
    rw [addr_add]; exact h5 j y hy

theorem baseC_ok (h : Inv X T st a w pl fp) {y : Ty} {e : TypeId} {x : Cell} {v : Value} {s : View} {ids : List Nat} (hb : baseC st.chunk y e x = some (s, ids)) (hx : CR X pl x v) :
    ∃ f, OwS w s.e s.t.n (OwC w s.t) s.xs v f ∧ (∀ b ∈ f, ∃ c ∈ ids, OwnB st fp b c) ∧ f.Nodup := by
  cases x <;> simp only [baseC] at hb <;> try (cases hb; done)
  case nil =>
    injection hb with hb; injection hb with e1 e2; subst e1; subst e2
    exact ⟨[], .inl ⟨hx, rfl, rfl⟩, by simp, List.nodup_nil⟩
  case slw c =>
    simp only [viewC] at hb
    split at hb
    case h_2 => cases hb
    rename_i s' hs
    split at hs
    case h_2 => cases hs
    rename_i t f' xs hc
    injection hs with hs; subst hs
    injection hb with hb; injection hb with e1 e2; subst e1; subst e2
    obtain ⟨p, hp, hv⟩ := hx
    obtain ⟨p', g1, g2, g3⟩ := rows_pl h hc
    rw [hp] at g1; injection g1 with g1; subst g1
    obtain ⟨f, k1, k2, k3⟩ := chunk_own h hc hp hv
    refine ⟨f, ?_, fun b hb => ⟨c, List.mem_singleton.2 rfl, ⟨_, hc⟩, k2 b hb⟩, k3⟩
    rw [g2] at k1; simpa using k1
  case sl c off len =>
    simp only [viewC] at hb
    split at hb
    case h_2 => cases hb
    rename_i s' hs
    split at hs
    case h_2 => cases hs
    rename_i t f' xs hc
    injection hs with hs; subst hs
    injection hb with hb; injection hb with e1 e2; subst e1; subst e2
    obtain ⟨p, hp, hv⟩ := hx
    obtain ⟨f, k1, k2, k3⟩ := chunk_own h hc hp hv
    exact ⟨f, k1, fun b hb => ⟨c, List.mem_singleton.2 rfl, ⟨_, hc⟩, k2 b hb⟩, k3⟩

theorem moreC_ok (h : Inv X T st a w pl fp) {y : Ty} {e : TypeId} {x : Cell} {v : Value} {s : View} {ids : List Nat} {tx : TypeId} (hb : moreC st.chunk y e x = some (s, ids)) (hx : CR X pl x v) (hst : s.t = y)
    (hk : match x with | .sr _ => P.underlying tx = some .string | _ => ∃ e', P.underlying tx = some (.slice e')) :
    ∃ us f, OwR (OwC w s.t) s.xs us f ∧ (∀ b ∈ f, ∃ c ∈ ids, OwnB st fp b c) ∧ f.Nodup ∧ Src P s.t.n tx v s.xs.length us w := by
  cases x <;> simp only [moreC] at hb <;> try (cases hb; done)
  case nil =>
    injection hb with hb; injection hb with e1 e2; subst e1; subst e2
    obtain ⟨e', hk⟩ := hk
    rw [show v = _ from hx]
    exact ⟨[], [], ⟨rfl, rfl⟩, by simp, List.nodup_nil, Src.ofNil w hk 0⟩
  case sr q =>
    injection hb with hb; injection hb with e1 e2; subst e1; subst e2
    rw [show v = _ from hx]
    have hrow : ∀ l : List UInt8, OwR (OwC w (.int .u8)) (l.map fun b => (b.toNat : Int)) (l.map fun b => Value.int .u8 b.toNat) [] := by
      intro l
      induction l with
      | nil => exact ⟨rfl, rfl⟩
      | cons b r ih => exact ⟨[_], _, [], [], rfl, rfl, ⟨rfl, rfl⟩, ih⟩
    refine ⟨byteCells q, [], hrow _, by simp, List.nodup_nil, ?_⟩
    have hl : (bytesOf q).length = q.size := by simp [bytesOf]
    rw [show (View.mk (.int .u8) e (bytesOf q)).xs.length = q.size from hl]
    exact Src.ofString w hk q
  case slw c =>
    simp only [viewC] at hb
    split at hb
    case h_2 => cases hb
    rename_i s' hs
    split at hs
    case h_2 => cases hs
    rename_i t f' xs hc
    injection hs with hs; subst hs
    injection hb with hb; injection hb with e1 e2; subst e1; subst e2
    obtain ⟨e', hk⟩ := hk
    obtain ⟨p, hp, hv⟩ := hx
    obtain ⟨p', g1, g2, g3⟩ := rows_pl h hc
    rw [hp] at g1; injection g1 with g1; subst g1
    obtain ⟨f, k1, k2, k3⟩ := chunk_own h hc hp hv
    rw [g2] at k1
    simp only [List.drop_zero, List.take_length] at k1
    obtain ⟨us, g, m1, m2, m3, m4⟩ := src_own hk k1
    cases hfl : flat y
    · exact ⟨us, g, m1, fun b hb => ⟨c, by simp, ⟨_, hc⟩, k2 b (m2 b hb)⟩, m3 k3, m4⟩
    · have : ∀ {xs : List t.D} {us : List Value} {g : List Nat}, flat t = true → OwR (OwC w t) xs us g → g = [] := by
        intro xs
        induction xs with
        | nil => intro us g _ h; exact h.2
        | cons x r ih =>
          rintro us g hfl ⟨_, _, f1, f2, _, rfl, h1, h2⟩
          rw [(cellsR_flat (X := X) (pl := pl) hfl h1).2, ih hfl h2]; rfl
      have hg := this (by rw [← hst] at hfl; exact hfl) m1
      subst hg
      exact ⟨us, [], m1, by simp, List.nodup_nil, m4⟩
  case sl c off len =>
    cases hfl : flat y
    · rw [hfl] at hb; cases hb
    rw [hfl] at hb
    simp only [viewC, cond_true] at hb
    split at hb
    case h_2 => cases hb
    rename_i s' hs
    split at hs
    case h_2 => cases hs
    rename_i t f' xs hc
    injection hs with hs; subst hs
    injection hb with hb; injection hb with e1 e2; subst e1; subst e2
    obtain ⟨e', hk⟩ := hk
    obtain ⟨p, hp, hv⟩ := hx
    obtain ⟨f, k1, k2, k3⟩ := chunk_own h hc hp hv
    obtain ⟨us, g, m1, m2, m3, m4⟩ := src_own hk k1
    have : ∀ {xs : List t.D} {us : List Value} {g : List Nat}, flat t = true → OwR (OwC w t) xs us g → g = [] := by
      intro xs
      induction xs with
      | nil => intro us g _ h; exact h.2
      | cons x r ih =>
        rintro us g hfl ⟨_, _, f1, f2, _, rfl, h1, h2⟩
        rw [(cellsR_flat (X := X) (pl := pl) hfl h1).2, ih hfl h2]; rfl
    have hg := this (by rw [← hst] at hfl; exact hfl) m1
    subst hg
    exact ⟨us, [], m1, by simp, List.nodup_nil, m4⟩
  case ro z t f' xs =>
    cases hfl : flat y
    · rw [hfl] at hb; cases hb
    rw [hfl] at hb
    simp only [cond_true] at hb
    injection hb with hb; injection hb with e1 e2; subst e1; subst e2
    obtain ⟨e', hk⟩ := hk
    have hft : flat t = true := by rw [← hst] at hfl; exact hfl
    rcases (show RdS _ _ _ _ _ _ from hx) with ⟨rfl, rfl⟩ | ⟨ad, cap, rfl, h1, h2, h3⟩
    · exact ⟨[], [], ⟨rfl, rfl⟩, by simp, List.nodup_nil, Src.ofNil w hk 0⟩
    · by_cases hne : xs = []
      · subst hne
        exact ⟨[], [], ⟨rfl, rfl⟩, by simp, List.nodup_nil, Src.ofSlice w hk ad 0 cap [] (by simp) (by simp) (by simp)⟩
      · obtain ⟨hs, hz⟩ := h2 hne
        obtain ⟨b, q, s⟩ := ad
        simp only at hs; subst hs
        have hb := X.hZ _ b hz
        obtain ⟨us, k1, k2⟩ := RdC.rows (w := w) (Z := X.Z z) hft (b := b) (o := q) xs 0 fun i x hx' => by
          obtain ⟨us, r1, r2⟩ := h3 i x hx'
          refine ⟨us, RdC.mono (fun _ h => h) (fun b' o' us' hz' hr' => ?_) r1, ?_⟩
          · have := X.hZ _ b' hz'; exact h.fr.rangeAt this.1 this.2 hr'
          · rw [Nat.zero_add]; exact h.fr.rangeAt hb.1 hb.2 r2
        rw [Nat.zero_mul, Nat.add_zero] at k2
        exact ⟨us, [], k1, by simp, List.nodup_nil, Src.ofSlice w hk ⟨b, q, none⟩ xs.length cap us k1.len (fun j y hy => by rw [addr_add]; exact k2 j y hy) k1.one⟩
  case rn z t f' xs =>
    cases hfl : flat y
    · rw [hfl] at hb; cases hb
    rw [hfl] at hb
    simp only [cond_true] at hb
    injection hb with hb; injection hb with e1 e2; subst e1; subst e2
    obtain ⟨e', hk⟩ := hk
    have hft : flat t = true := by rw [← hst] at hfl; exact hfl
    rcases (show RdS _ _ _ _ _ _ from hx.choose_spec.choose_spec.2) with ⟨rfl, rfl⟩ | ⟨ad, cap, rfl, h1, h2, h3⟩
    · exact ⟨[], [], ⟨rfl, rfl⟩, by simp, List.nodup_nil, Src.ofNil w hk 0⟩
    · by_cases hne : xs = []
      · subst hne
        exact ⟨[], [], ⟨rfl, rfl⟩, by simp, List.nodup_nil, Src.ofSlice w hk ad 0 cap [] (by simp) (by simp) (by simp)⟩
      · obtain ⟨hs, hz⟩ := h2 hne
        obtain ⟨b, q, s⟩ := ad
        simp only at hs; subst hs
        have hb := X.hZ _ b hz
        obtain ⟨us, k1, k2⟩ := RdC.rows (w := w) (Z := X.Z z) hft (b := b) (o := q) xs 0 fun i x hx' => by
          obtain ⟨us, r1, r2⟩ := h3 i x hx'
          refine ⟨us, RdC.mono (fun _ h => h) (fun b' o' us' hz' hr' => ?_) r1, ?_⟩
          · have := X.hZ _ b' hz'; exact h.fr.rangeAt this.1 this.2 hr'
          · rw [Nat.zero_add]; exact h.fr.rangeAt hb.1 hb.2 r2
        rw [Nat.zero_mul, Nat.add_zero] at k2
        exact ⟨us, [], k1, by simp, List.nodup_nil, Src.ofSlice w hk ⟨b, q, none⟩ xs.length cap us k1.len (fun j y hy => by rw [addr_add]; exact k2 j y hy) k1.one⟩
end

end Go.Proofs.YthpklbpdchckkaaEv

namespace Go.Proofs.YthpklbpdchckkaaEv
open Go.RowKit (Below)
set_option linter.unusedVariables false
set_option linter.unusedSectionVars false
set_option linter.unusedSimpArgs false

section
variable {X : Cx} {T : Nat} {st : St} {a : Act} {w w' : World} {pl : PlM} {fp : FpM} {P : Program} {o : Oper} {u : Upd} {nm n : Nat}

theorem castL_spec {t u : Ty} {xs : List t.D} {ys : List u.D} (h : castL t u xs = some ys) : t = u ∧ HEq xs ys := by
  unfold castL at h
  split at h
  case isFalse => cases h
  rename_i hb
  have := Ty.beq_eq hb
  subst this
  injection h with h
  exact ⟨rfl, heq_of_eq h⟩

theorem nodup_join {f g ids jds : List Nat} (h : Inv X T st a w pl fp) (hf : ∀ b ∈ f, ∃ c ∈ ids, OwnB st fp b c) (hg : ∀ b ∈ g, ∃ c ∈ jds, OwnB st fp b c) (hfn : f.Nodup) (hgn : g.Nodup) (hn : (ids ++ jds).Nodup) : (f ++ g).Nodup := by
  rw [List.nodup_append] at hn ⊢
  refine ⟨hfn, hgn, fun x hx y hy e => ?_⟩
  subst e
  obtain ⟨c, hc, ho⟩ := hf x hx
  obtain ⟨d, hd, ho'⟩ := hg x hy
  exact hn.2.2 c hc d hd (h.dj _ _ _ ho ho')

theorem append_core (h : Inv X T st a w pl fp) (d : Option Nat) (hd : ∀ e, d = some e → e < T) (hn : st.nx ≤ n) (hnm : pl nm = none) (hlt : nm < n) {t0 t1 ty el : TypeId} {j : TI} (ht : P.underlying t0 = some (.slice el)) (hj : ti P el = some j)
    {y : Ty} (hsz : y.n = j.sz) (hz : j.zero.length = j.sz) (h0 : 0 < j.sz) (hb0 : 0 < j.by_) {e e' : TypeId} {xs ys : List y.D} {v x : Value} {f g : List Nat} {us : List Value} {ids jds : List Nat}
    (hv : OwS w e y.n (OwC w y) xs v f) (hf : ∀ b ∈ f, ∃ c ∈ ids, OwnB st fp b c) (hfn : f.Nodup)
    (hx : OwR (OwC w y) ys us g) (hg : ∀ b ∈ g, ∃ c ∈ jds, OwnB st fp b c) (hgn : g.Nodup) (hs : Src P y.n t1 x ys.length us w) (hid : (ids ++ jds).Nodup)
    (hby : (xs.length + ys.length) * j.by_ ≤ 140737488355328) :
    ∃ v' w' pl' fp', (Builtin.append_ #[t0, t1] ty #[v, x]).run P w = .ok v' w' ∧ Inv X T (upd st d n (.c (.slw nm), (nm, some (.rows y e' (xs ++ ys))) :: gone (ids ++ jds))) (a.put d v') w' pl' fp' := by
  have hze : j.zero.isEmpty = false := by cases hq : j.zero <;> simp_all
  obtain ⟨inf, z, g1, g2, g3, g4, g5⟩ := zero_some hj hze
  have hsi : inf.size = y.n := by omega
  have hzs : z.cells.size = y.n := by have := congrArg List.length g5; simp at this; omega
  have hs' : Src P inf.size t1 x ys.length us w := by rw [hsi]; exact hs
  have hxl : us.length = ys.length * y.n := hx.len
  have hneed : xs.length + ys.length ≤ (xs.length + ys.length) * j.by_ := Nat.le_mul_of_pos_right _ hb0
  have hfg : ∀ b ∈ f ++ g, ∃ c ∈ ids ++ jds, OwnB st fp b c := fun b hb => by
    rcases List.mem_append.1 hb with hb | hb
    · obtain ⟨c, hc, ho⟩ := hf b hb; exact ⟨c, List.mem_append.2 (.inl hc), ho⟩
    · obtain ⟨c, hc, ho⟩ := hg b hb; exact ⟨c, List.mem_append.2 (.inr hc), ho⟩
  have hfgn := nodup_join h hf hg hfn hgn hid
  have grow : ∀ {base : Option Addr} {cap : Nat} {olds : List Value} {f' : List Nat}, v = .slice base xs.length cap → cap < xs.length + ys.length →
      (Builtin.firstCells inf.size xs.length (.slice base xs.length cap)).run P w.drew = .ok olds.toArray w.drew → OwR (OwC w y) xs olds f' → (∀ b ∈ f', b ∈ f) → f'.Nodup →
      ∃ v' w' pl' fp', (Builtin.append_ #[t0, t1] ty #[v, x]).run P w = .ok v' w' ∧ Inv X T (upd st d n (.c (.slw nm), (nm, some (.rows y e' (xs ++ ys))) :: gone (ids ++ jds))) (a.put d v') w' pl' fp' := by
    rintro base cap olds f' rfl hgt hold ho hsub hf'n
    have hrun := run_append_grow_src (P := P) w t0 t1 ty el inf z ht g1 g4 base xs.length cap olds hold x ys.length us hs' hgt (by omega) (growslice_fits hgt (by rw [g3]; omega))
    have hge := grownCap_ge w (xs.length + ys.length) cap el
    obtain ⟨C, hC⟩ : ∃ C, C = grownCap w (xs.length + ys.length) cap el := ⟨_, rfl⟩
    rw [← hC] at hrun hge
    obtain ⟨A, hA⟩ : ∃ A : Array Value, A = (olds ++ us).toArray ++ Builtin.zeroCells z.cells (C - (xs.length + ys.length)) := ⟨_, rfl⟩
    rw [← hA] at hrun
    have hol := ho.len
    have hol' : (olds ++ us).length = (xs.length + ys.length) * y.n := by rw [List.length_append, hol, hxl, Nat.add_mul]
    have hAs : A.size = C * y.n := by
      rw [hA]
      simp only [Array.size_append, List.size_toArray, size_zeroCells, hzs, hol']
      rw [← Nat.add_mul]; congr 1; omega
    have hAt : A.toList.take (olds ++ us).length = olds ++ us := by rw [hA, Array.toList_append, List.take_left]
    obtain ⟨pl', fp', hi'⟩ := h.newRows (ids := ids ++ jds) (xs := xs ++ ys) (e := e') (cap := C) d hd hn hnm hlt ((Fr.drew _ w).trans (Fr.alloc (fun _ => False) w.drew (.cells A el)) fun _ _ h => h) (Nat.le_refl w.heap.size)
      (by rw [World.size_alloc]; exact Nat.lt_succ_self _) (there_alloc_new w.drew A el) (by have := rangeAt_take (rangeAt_alloc_new w.drew A el) (olds ++ us).length; rw [hAt] at this; exact this) (ho.append hx)
      (fun b hb => hfg b ((List.mem_append.1 hb).elim (fun hb => List.mem_append.2 (.inl (hsub b hb))) (fun hb => List.mem_append.2 (.inr hb))))
      (nodup_join h (fun b hb => hf b (hsub b hb)) hg hf'n hgn hid) (by rw [List.length_append]; exact hge) (by rw [hAs]; exact Nat.le_refl _)
    rw [List.length_append] at hi'
    exact ⟨_, _, pl', fp', hrun, hi'⟩
  rcases hv with ⟨rfl, rfl, rfl⟩ | ⟨b, off, cap, top, os, f', rfl, k1, k2, k3, k4, k5, k6, rfl⟩
  · by_cases hy : ys = []
    · subst hy
      have hus : us = [] := by simpa using hxl
      subst hus
      obtain ⟨pl', fp', hi'⟩ := h.virt (t := y) (e := e') (ids := ids ++ jds) d hd hn hnm hlt
      exact ⟨_, _, pl', fp', run_append_nothing (P := P) w t0 t1 ty el inf ht g1 none 0 0 (Nat.le_refl _) x hs', hi'⟩
    · have hpos : 0 < ys.length := List.length_pos_iff.2 hy
      exact grow (base := none) (cap := 0) (olds := []) (f' := []) rfl (by simpa using hpos) (run_firstCells_none w.drew inf.size 0 0 0) ⟨rfl, rfl⟩ (by simp) List.nodup_nil
  · have hol := k6.len
    have hbn := List.nodup_cons.1 hfn
    by_cases hroom : xs.length + ys.length ≤ cap
    · have htop : off + (xs.length + ys.length) * y.n ≤ top := by
        have : (xs.length + ys.length) * y.n ≤ cap * y.n := Nat.mul_le_mul_right _ hroom
        omega
      rw [Nat.add_mul] at htop
      have hth : w.there b (off + xs.length * y.n) us.length := there_mid k3 (by omega)
      have hrun := run_append_room_src (P := P) w t0 t1 ty el inf ht g1 b off xs.length cap x ys.length us hs' hroom (fun q hq => by rw [hsi]; exact (hth q hq).1) (fun q hq => by rw [hsi]; exact (hth q hq).2)
      rw [hsi] at hrun
      obtain ⟨c0, hc0, ho0⟩ := hf b (List.mem_cons_self ..)
      have hnb : ∀ b' ∈ f' ++ g, b' < w.heap.size ∧ ¬ (b' = b) := fun b' hb' => by
        refine ⟨?_, fun e => ?_⟩
        · obtain ⟨c, _, ho⟩ := hfg b' (by rw [List.cons_append]; exact List.mem_cons_of_mem _ hb')
          exact (h.lt _ _ ho).1
        · subst e
          rw [List.cons_append] at hfgn
          exact (List.nodup_cons.1 hfgn).1 hb'
      have hW := Fr.setCells b us (off + xs.length * y.n) w
      obtain ⟨pl', fp', hi'⟩ := h.rows (ids := ids ++ jds) (xs := xs ++ ys) (e := e') (us := os ++ us) (f := f' ++ g) d hd hn hnm hlt (G := (· = b)) hW
        (by rintro b' _ rfl; exact ⟨c0, List.mem_append.2 (.inl hc0), ho0⟩) ⟨b, off, top, xs.length + ys.length, y.n, true⟩ (by rw [List.cons_append] at hfgn; exact hfgn)
        (fun b' hb' => by
          obtain ⟨c, hc, ho⟩ := hfg b' (by rw [List.cons_append]; exact hb')
          exact ⟨Nat.lt_of_lt_of_le (h.lt _ _ ho).1 hW.size, .inr ⟨c, hc, ho⟩⟩)
        (by simp) rfl (by simp only [List.length_append, Nat.add_mul]; omega) rfl (World.there_setCells k3 _ _ _)
        (rangeAt_join (World.rangeAt_setCells_apart k5 b _ us (.inr (.inl (by rw [hol]; omega)))) (by rw [hol]; exact World.rangeAt_setCells_same w b _ us hth))
        (OwR.append (k6.world hW fun b' hb' => hnb b' (List.mem_append.2 (.inl hb'))) (hx.world hW fun b' hb' => hnb b' (List.mem_append.2 (.inr hb'))))
        (v := .slice (some ⟨b, off, none⟩) (xs.length + ys.length) cap) (.inr ⟨off, cap, rfl, hroom, by simpa using k2, fun _ => ⟨by simp, by simp⟩, rfl⟩)
      exact ⟨_, _, pl', fp', hrun, hi'⟩
    · exact grow rfl (by omega) (by rw [hsi]; exact run_firstCells_some w.drew y.n xs.length ⟨b, off, none⟩ xs.length cap os hol (fun q u hu => by rw [addr_add]; simpa using k5 q u hu)) k6 (fun b' hb' => List.mem_cons_of_mem _ hb') hbn.2

theorem append_ok (h : Inv X T st a w pl fp) {t0 t1 ty : TypeId} {s x : Operand} {cs cx : Cell} (d : Option Nat) (hd : ∀ e, d = some e → e < T) (hn : st.nx ≤ n) (hnm : pl nm = none) (hlt : nm < n) (hqs : st.ev s = .c cs) (hqx : st.ev x = .c cx)
    (hr : (appendE P nm st.chunk t0 t1 cs cx).run = some u) :
    ∃ v' w' pl' fp', (Builtin.append_ #[t0, t1] ty #[a.eval s, a.eval x]).run P w = .ok v' w' ∧ Inv X T (upd st d n u) (a.put d v') w' pl' fp' := by
  have hs := ev_ok h s
  have hx := ev_ok h x
  rw [hqs] at hs; rw [hqx] at hx
  unfold appendE at hr
  split at hr
  case h_2 => cases hr
  rename_i i hi
  split at hr
  case h_2 => cases hr
  rename_i j y hj hy
  split at hr
  case h_2 => cases hr
  rename_i V ia V' ib hb1 hb2
  split at hr
  case h_2 => cases hr
  rename_i xs ys hc1 hc2
  obtain ⟨hk, hr⟩ := Res.run_cond hr
  obtain ⟨hby, hr⟩ := Res.run_chk hr
  simp only [Res.run, Option.some.injEq] at hr; subst hr
  simp only [Bool.and_eq_true, Bool.not_eq_true'] at hk
  obtain ⟨k1, k2, k3, k4, k5, k6, k7⟩ := hk
  have k2 := Nat.eq_of_beq_eq_true k2
  have k3 := Nat.eq_of_beq_eq_true k3
  have k4 := Nat.eq_of_beq_eq_true k4
  have k5 : 0 < j.by_ := Nat.pos_of_ne_zero fun e => by rw [e] at k5; cases k5
  have k6 : 0 < j.sz := Nat.pos_of_ne_zero fun e => by rw [e] at k6; cases k6
  obtain ⟨Vt, Ve, Vx⟩ := V
  obtain ⟨Vt', Ve', Vx'⟩ := V'
  obtain ⟨e1, q1⟩ := castL_spec hc1
  obtain ⟨e2, q2⟩ := castL_spec hc2
  simp only at e1 e2
  subst e1
  have q1 := eq_of_heq q1
  simp only at q1
  subst q1
  subst e2
  have q2 := eq_of_heq q2
  simp only at q2
  subst q2
  obtain ⟨f, p1, p2, p3⟩ := baseC_ok h hb1 hs
  obtain ⟨us, g, r1, r2, r3, r4⟩ := moreC_ok (tx := t1) h hb2 hx rfl (by
    cases cx <;> simp only [cond_true, cond_false] at k7 <;> first | exact knd_string k7 | exact knd_slice k7)
  exact append_core (ty := ty) (e' := i.el) h d hd hn hnm hlt (knd3_el hi k3) hj k2 k4 k6 k5 p1 p2 p3 r1 r2 r3 r4 (nodupB_spec k1) (of_decide_eq_true hby)
end

end Go.Proofs.YthpklbpdchckkaaEv

namespace Go.Proofs.YthpklbpdchckkaaEv
open Go.RowKit (Below)
set_option linter.unusedVariables false
set_option linter.unusedSectionVars false
set_option linter.unusedSimpArgs false

section
variable {X : Cx} {T : Nat} {st : St} {a : Act} {w w' : World} {pl : PlM} {fp : FpM} {P : Program} {o : Oper} {u : Upd} {nm n : Nat}

theorem OwR.flat {t : Ty} (hf : YthpklbpdchckkaaEv.flat t = true) : ∀ {xs : List t.D} {us : List Value} {f : List Nat}, OwR (OwC w t) xs us f → f = []
  | [], _, _, h => h.2
  | _ :: _, _, _, ⟨_, _, _, _, _, rfl, h1, h2⟩ => by
    rw [(cellsR_flat (X := ⟨w, fun _ => False, fun _ _ => False, fun _ _ h => h.elim, []⟩) (pl := fun _ => none) hf h1).2, OwR.flat hf h2]; rfl

theorem view_rows (h : Inv X T st a w pl fp) {x : Cell} {t : Ty} {e : TypeId} {xs : List t.D} (hv : viewC st.chunk x = some ⟨t, e, xs⟩) (hf : flat t = true) {v : Value} (hx : CR X pl x v) :
    (xs = [] ∧ ∃ A cap, v = .slice A 0 cap) ∨ ∃ b off cap us, v = .slice (some ⟨b, off, none⟩) xs.length cap ∧ w.rangeAt b off us ∧ OwR (OwC w t) xs us [] := by
  have own : ∀ {e : TypeId} {xs : List t.D} {f : List Nat} {v : Value}, OwS w e t.n (OwC w t) xs v f → (xs = [] ∧ ∃ A cap, v = .slice A 0 cap) ∨ ∃ b off cap us, v = .slice (some ⟨b, off, none⟩) xs.length cap ∧ w.rangeAt b off us ∧ OwR (OwC w t) xs us [] := by
    rintro e xs f v (⟨rfl, rfl, rfl⟩ | ⟨g, o, cap, top, us, f', rfl, h1, h2, h3, h4, h5, h6, rfl⟩)
    · exact .inl ⟨rfl, none, 0, rfl⟩
    · have := OwR.flat hf h6
      subst this
      exact .inr ⟨g, o, cap, us, rfl, h5, h6⟩
  cases x <;> simp only [viewC] at hv <;> try (cases hv; done)
  case ro z t' e' xs' =>
    injection hv with hv; injection hv with e1 e2 e3; subst e1; subst e2
    have e3 := eq_of_heq e3; subst e3
    rcases (show RdS _ _ _ _ _ _ from hx) with ⟨rfl, rfl⟩ | ⟨ad, cap, rfl, h1, h2, h3⟩
    · exact .inl ⟨rfl, none, 0, rfl⟩
    · by_cases hne : xs' = []
      · subst hne; exact .inl ⟨rfl, some ad, cap, rfl⟩
      · obtain ⟨hs, hz⟩ := h2 hne
        obtain ⟨b, q, s⟩ := ad
        simp only at hs; subst hs
        have hb := X.hZ _ b hz
        obtain ⟨us, k1, k2⟩ := RdC.rows (w := w) (Z := X.Z z) hf (b := b) (o := q) xs' 0 fun i x hx' => by
          obtain ⟨us, r1, r2⟩ := h3 i x hx'
          refine ⟨us, RdC.mono (fun _ h => h) (fun b' o' us' hz' hr' => ?_) r1, ?_⟩
          · have := X.hZ _ b' hz'; exact h.fr.rangeAt this.1 this.2 hr'
          · rw [Nat.zero_add]; exact h.fr.rangeAt hb.1 hb.2 r2
        rw [Nat.zero_mul, Nat.add_zero] at k2
        exact .inr ⟨b, q, cap, us, rfl, k2, k1⟩
  case rn z t' e' xs' =>
    injection hv with hv; injection hv with e1 e2 e3; subst e1; subst e2
    have e3 := eq_of_heq e3; subst e3
    rcases (show RdS _ _ _ _ _ _ from hx.choose_spec.choose_spec.2) with ⟨rfl, rfl⟩ | ⟨ad, cap, rfl, h1, h2, h3⟩
    · exact .inl ⟨rfl, none, 0, rfl⟩
    · by_cases hne : xs' = []
      · subst hne; exact .inl ⟨rfl, some ad, cap, rfl⟩
      · obtain ⟨hs, hz⟩ := h2 hne
        obtain ⟨b, q, s⟩ := ad
        simp only at hs; subst hs
        have hb := X.hZ _ b hz
        obtain ⟨us, k1, k2⟩ := RdC.rows (w := w) (Z := X.Z z) hf (b := b) (o := q) xs' 0 fun i x hx' => by
          obtain ⟨us, r1, r2⟩ := h3 i x hx'
          refine ⟨us, RdC.mono (fun _ h => h) (fun b' o' us' hz' hr' => ?_) r1, ?_⟩
          · have := X.hZ _ b' hz'; exact h.fr.rangeAt this.1 this.2 hr'
          · rw [Nat.zero_add]; exact h.fr.rangeAt hb.1 hb.2 r2
        rw [Nat.zero_mul, Nat.add_zero] at k2
        exact .inr ⟨b, q, cap, us, rfl, k2, k1⟩
  case sl c off len =>
    split at hv
    case h_2 => cases hv
    rename_i t' e' xs' hc
    injection hv with hv; injection hv with e1 e2 e3; subst e1; subst e2
    have e3 := eq_of_heq e3; subst e3
    obtain ⟨p, hp, hs⟩ := hx
    obtain ⟨f, k1, k2, k3⟩ := chunk_own h hc hp hs
    exact own k1
  case slw c =>
    split at hv
    case h_2 => cases hv
    rename_i t' e' xs' hc
    injection hv with hv; injection hv with e1 e2 e3; subst e1; subst e2
    have e3 := eq_of_heq e3; subst e3
    obtain ⟨p, hp, hs⟩ := hx
    obtain ⟨p', g1, g2, g3⟩ := rows_pl h hc
    rw [hp] at g1; injection g1 with g1; subst g1
    obtain ⟨f, k1, k2, k3⟩ := chunk_own h hc hp hs
    rw [g2] at k1
    simp only [List.drop_zero, List.take_length] at k1
    exact own k1

theorem row_ints {k : IntKind} : ∀ {xs : List Int} {us : List Value} {f : List Nat}, OwR (OwC w (.int k)) xs us f → us = xs.map (Value.int k)
  | [], _, _, h => h.1
  | _ :: _, _, _, ⟨_, _, _, _, rfl, _, h1, h2⟩ => by rw [h1.1, row_ints h2]; rfl

theorem isBytes_spec {t : TypeId} (h : isBytes P t = true) : ∃ e, P.underlying t = some (.slice e) ∧ P.underlying e = some (.int .u8) := by
  unfold isBytes at h
  split at h
  case h_2 => cases h
  rename_i i hi
  simp only [Bool.and_eq_true] at h
  obtain ⟨h1, h2⟩ := h
  refine ⟨i.el, knd3_el hi (Nat.eq_of_beq_eq_true h1), ?_⟩
  split at h2
  case h_2 => cases h2
  rename_i j hj
  simp only [Bool.and_eq_true] at h2
  have := knd_int hj (Nat.eq_of_beq_eq_true h2.1)
  rw [kbeq_eq h2.2] at this
  exact this

theorem q_convertB (h : Inv X T st a w pl fp) {src dst : TypeId} {x : Operand} (ho : o.op = .convert src dst x) {c : Cell} (hq : st.ev x = .c c) (hnu : ∀ k n, c ≠ .nu k n) (hsr : ∀ s, c ≠ .sr s)
    (hr : (prim P nm st.ev st.chunk (.convert src dst x)).run = some u) : Quiet1 X pl P w a o u := by
  simp only [prim] at hr
  have hx := ev_ok h x
  have he : execOp a.eval o = (do pure (.value (← convert src dst (a.eval x)))) := by unfold execOp; rw [ho]
  rw [hq] at hx hr
  split at hr <;> rename_i heq <;> first | (injection heq with heq; exact absurd heq (hnu _ _)) | (injection heq with heq; exact absurd heq (hsr _)) | skip
  · rename_i i d _ _ _ hi hdi
    injection heq with heq
    subst heq
    obtain ⟨hk, hr⟩ := Res.run_cond hr
    simp only [Bool.and_eq_true] at hk
    obtain ⟨e, g1, g2⟩ := isBytes_spec hk.2
    have hd2 := knd_string (P := P) (t := dst) (by unfold kndIs; rw [hdi]; exact hk.1)
    split at hr
    · rename_i e' xs hv
      rw [run_pure1 hr]
      rcases view_rows h hv rfl hx with ⟨rfl, A, cap, hv⟩ | ⟨b, off, cap, us, hv, h1, h2⟩
      · refine ⟨.string ByteArray.empty, ?_, rfl, rfl⟩
        rw [he, hv]
        refine run_v ?_
        rw [run_convert_bytes_string w src dst e A 0 cap g1 g2 hd2]
        cases A <;> simp [Conv.bytesToString, loadCells, loadCellsFrom]
      · refine ⟨_, ?_, rfl, rfl⟩
        rw [he, hv]
        refine run_v ?_
        refine run_convert_bytes_arg (P := P) w src e g1 g2 b off xs.length cap xs rfl (fun i hi => ?_) dst hd2
        have := h1 i (.int .u8 (xs.getD i 0)) (by rw [row_ints h2]; simp [List.getD, List.getElem?_eq_getElem hi])
        exact this
    · rename_i hv
      split at hr
      · rw [run_pure1 hr]
        refine ⟨.string ByteArray.empty, ?_, rfl, rfl⟩
        rw [he, show a.eval x = _ from hx]
        exact run_v (run_convert_bytes_nil w src e g1 g2 0 0 dst hd2)
      · cases hr
    · cases hr
  · cases hr

theorem m_convertS (h : Inv X T st a w pl fp) {src dst : TypeId} {x : Operand} (ho : o.op = .convert src dst x) {s : ByteArray} (hq : st.ev x = .c (.sr s)) (h2 : kndIs P dst 2 = false)
    (hd : ∀ e, o.dst = some e → e < T) (hn : st.nx ≤ n) (hnm : pl nm = none) (hlt : nm < n) (hr : (prim P nm st.ev st.chunk (.convert src dst x)).run = some u) : Mem X T st a w P o n u := by
  simp only [prim] at hr
  have hx := ev_ok h x
  have he : execOp a.eval o = (do pure (.value (← convert src dst (a.eval x)))) := by unfold execOp; rw [ho]
  rw [hq] at hx hr
  split at hr <;> rename_i heq <;> first | (cases heq; done) | skip
  · rename_i i d _ hi hd'
    injection heq with heq
    injection heq with e1
    subst e1
    have hk : Nat.beq d.knd 2 = false := by unfold kndIs at h2; rw [hd'] at h2; exact h2
    rw [hk] at hr
    simp only [cond_false] at hr
    obtain ⟨hk3, hr⟩ := Res.run_cond hr
    obtain ⟨hby, hr⟩ := Res.run_cond hr
    simp only [Res.run, Option.some.injEq] at hr; subst hr
    have g1 := knd3_el hd' (Nat.eq_of_beq_eq_true hk3)
    obtain ⟨e, g1', g2⟩ := isBytes_spec hby
    rw [g1] at g1'; injection g1' with g1'; injection g1' with g1'; subst g1'
    obtain ⟨inf, ds, g3, g4, _⟩ := ti_spec hi
    have hw : Fr (fun _ => False) w (Lib.bytesWorld w d.el s) := Fr.clean rfl rfl rfl (by rw [Lib.bytesWorld_size]; omega) fun b hb => Lib.bytesWorld_at_old w d.el s b hb
    have hge := grownCap_ge w s.size 0 d.el
    have hbs : (Lib.bytesCells w d.el s).size = grownCap w s.size 0 d.el := by
      simp only [Lib.bytesCells, Array.size_append, Array.size_map, Array.size_replicate]
      have : s.data.size = s.size := rfl
      omega
    have hcell : ∀ j, (Lib.bytesWorld w d.el s).cell? ⟨w.heap.size, j, none⟩ = (Lib.bytesCells w d.el s)[j]? := fun j => by simp [World.cell?, Lib.bytesWorld_at_new]
    have hrow : ∀ l : List UInt8, OwR (OwC w (.int .u8)) (l.map fun b => (b.toNat : Int)) (l.map fun b => Value.int .u8 b.toNat) [] := by
      intro l
      induction l with
      | nil => exact ⟨rfl, rfl⟩
      | cons b r ih => exact ⟨[_], _, [], [], rfl, rfl, ⟨rfl, rfl⟩, ih⟩
    have hxl : (bytesOf s).length = s.size := by simp [bytesOf]
    obtain ⟨pl', fp', hi'⟩ := h.newRows (t := .int .u8) (ids := []) (xs := bytesOf s) (e := d.el) (cap := grownCap w s.size 0 d.el) o.dst hd hn hnm hlt hw (Nat.le_refl w.heap.size) (by rw [Lib.bytesWorld_size]; omega)
      (top := (Lib.bytesCells w d.el s).size) (fun j hj => ⟨by rw [Nat.zero_add, hcell]; simp [hj], by
        simp only [World.frozen?, Lib.bytesWorld_at_new, Nat.zero_add]; simp; omega⟩)
      (fun j v hv => by
        rw [Nat.zero_add, hcell]
        rw [List.getElem?_map] at hv
        cases hq' : s.data.toList[j]? with
        | none => rw [hq'] at hv; cases hv
        | some b =>
          rw [hq'] at hv; simp only [Option.map_some, Option.some.injEq] at hv; subst hv
          have hlt' : j < s.data.size := by have := (List.getElem?_eq_some_iff.1 hq').1; simpa using this
          rw [Lib.bytesCells, Array.getElem?_append_left (by simpa using hlt')]
          rw [← Array.getElem?_toList, Array.toList_map, List.getElem?_map, hq']; rfl)
      (hrow s.data.toList) (by simp) List.nodup_nil (by rw [hxl]; exact hge) (by rw [hbs]; simp [Ty.n])
    refine ⟨_, _, _, pl', fp', ?_, .inl rfl, hi'⟩
    rw [he, hx.sr, hxl]
    exact run_v (Lib.run_convert_string_bytes w src dst d.el s g4 g1 g2)
  · exfalso; injection heq with heq; subst heq; exact (by assumption : ∀ (s' : ByteArray), Cell.sr s = Cell.sr s' → False) s rfl
  · cases hr
end

end Go.Proofs.YthpklbpdchckkaaEv

/- The abstract executor: values, heap, operations, code; how they stand to the model's; calm and laying operations. -/
import Derived.Calls
import Derived.Orders
import Derived.Below
import Derived.Laws.CopyRow
import Derived.Laws.CopyOwn
import Derived.Laws.Append
import Derived.LaidEql
import Derived.IntWalk
section
section
namespace Go.Ax

inductive AV where
  | bool (b : Bool)
  | int (k : IntKind) (n : Int)
  | str (s : ByteArray)
  | nilptr
  | ptr (r o : Nat)
  | nilslice
  | slice (r o len cap : Nat)
  | nilmap
  | map (r : Nat)
  | nilfunc
  | func (fn : Fn) (first cap : List AV)
  | nilface
  | iface (t : TypeId) (v : AV)
  | agg (l : List AV)
  | tup (l : List AV)
  deriving Inhabited
mutual
def AV.same : AV → AV → Bool
  | .bool a, .bool b => a == b
  | .int k a, .int k' b => k == k' && a == b
  | .str a, .str b => a == b
  | .nilptr, .nilptr => true
  | .ptr r o, .ptr r' o' => r == r' && o == o'
  | .nilslice, .nilslice => true
  | .slice r o l c, .slice r' o' l' c' => r == r' && o == o' && l == l' && c == c'
  | .nilmap, .nilmap => true
  | .map r, .map r' => r == r'
  | .nilfunc, .nilfunc => true
  | .func f a c, .func f' a' c' => f == f' && AV.sames a a' && AV.sames c c'
  | .nilface, .nilface => true
  | .iface t v, .iface t' v' => t == t' && AV.same v v'
  | .agg l, .agg l' => AV.sames l l'
  | .tup l, .tup l' => AV.sames l l'
  | _, _ => false
def AV.sames : List AV → List AV → Bool
  | [], [] => true
  | a :: l, b :: m => AV.same a b && AV.sames l m
  | _, _ => false
end

def AV.cells : AV → List AV
  | .agg l => l
  | v => [v]
def AV.scalar : AV → Bool
  | .agg _ | .tup _ => false
  | _ => true
inductive Row where
  | cells (sz : Nat) (ex ext : Bool) (kin : List Nat) (cs : List AV)
  | map (es : List (AV × AV))
  | iter
  | dead
  deriving Inhabited
def samePairs : List (AV × AV) → List (AV × AV) → Bool
  | [], [] => true
  | a :: l, b :: m => AV.same a.1 b.1 && AV.same a.2 b.2 && samePairs l m
  | _, _ => false
def Row.same : Row → Row → Bool
  | .cells s e x k c, .cells s' e' x' k' c' => s == s' && e == e' && x == x' && k == k' && AV.sames c c'
  | .map l, .map l' => samePairs l l'
  | .iter, .iter => true
  | .dead, .dead => true
  | _, _ => false
inductive Tr (α : Type) where
  | e : Tr α
  | n (v : α) (l r : Tr α) : Tr α
  deriving Inhabited
namespace Tr
variable {α : Type}
def get : Tr α → Nat → Option α
  | .e, _ => none
  | .n v l r, k => bif Nat.beq k 0 then some v else bif Nat.beq (Nat.mod k 2) 1 then l.get (Nat.div k 2) else r.get (Nat.sub (Nat.div k 2) 1)
def set (x : α) : Tr α → Nat → Tr α
  | .e, _ => .e
  | .n v l r, k => bif Nat.beq k 0 then .n x l r else bif Nat.beq (Nat.mod k 2) 1 then .n v (set x l (Nat.div k 2)) r else .n v l (set x r (Nat.sub (Nat.div k 2) 1))
def same (eq : α → α → Bool) : Tr α → Tr α → Bool
  | .e, .e => true
  | .n v l r, .n v' l' r' => eq v v' && same eq l l' && same eq r r'
  | _, _ => false
def push (x : α) : Tr α → Nat → Option (Tr α)
  | .e, k => bif Nat.beq k 0 then some (.n x .e .e) else none
  | .n v l r, k => bif Nat.beq k 0 then none else bif Nat.beq (Nat.mod k 2) 1 then (push x l (Nat.div k 2)).map (fun l' => .n v l' r) else (push x r (Nat.sub (Nat.div k 2) 1)).map (fun r' => .n v l r')
end Tr

structure AH where
  t : Tr Row
  n : Nat
  deriving Inhabited
abbrev AT := Tr (Option AV)
def AT.val (T : AT) (t : Nat) : Option AV :=
  match T.get t with
  | some x => x
  | none => none
def AT.put (T : AT) (d : Option Tmp) (v : AV) : AT :=
  match d with
  | some d => Tr.set (some v) T d
  | none => T
mutual
def absV : Value → Option AV
  | .bool b => some (.bool b)
  | .int k n => some (.int k n)
  | .string s => some (.str s)
  | .pointer none => some .nilptr
  | .slice none 0 0 => some .nilslice
  | .map none => some .nilmap
  | .nilFunc => some .nilfunc
  | .nilIface => some .nilface
  | .func fn ⟨f⟩ ⟨c⟩ => (absVs f).bind fun f => (absVs c).map fun c => .func fn f c
  | .iface t v => (absV v).map (.iface t)
  | .agg ⟨cs⟩ => (absVs cs).map .agg
  | .tuple ⟨cs⟩ => (absVs cs).map .tup
  | _ => none
def absVs : List Value → Option (List AV)
  | [] => some []
  | v :: l => (absV v).bind fun v => (absVs l).map fun l => v :: l
end

section
variable (P : Program)
def size (t : TypeId) : Option Nat := (P.info? t).map (·.size)
def zero (t : TypeId) : Option AV := (P.info? t).bind fun i => i.zero.bind absV
def agg? (t : TypeId) : Option Bool :=
  match P.underlying t with
  | some (.struct _) | some (.array _ _) => some true
  | some _ => some false
  | none => none
def opd (T : AT) : Operand → Option AV
  | .tmp t => T.val t
  | .const v => absV v
  | .global _ => none
  | .func f => some (.func (.func f) [] [])
def opds (T : AT) : List Operand → Option (List AV)
  | [] => some []
  | x :: l => (opd T x).bind fun v => (opds T l).map fun l => v :: l
def opdo (T : AT) : Option Operand → Option (Option AV)
  | none => some none
  | some x => (opd T x).map some
def partsA (T : AT) : List (Nat × Operand) → Option (List (Nat × AV))
  | [] => some []
  | (i, x) :: l => (opd T x).bind fun v => (partsA T l).map fun l => (i, v) :: l
def AH.row (h : AH) (r : Nat) : Option Row := h.t.get r
def AH.new (h : AH) (x : Row) : Option AH := (Tr.push x h.t h.n).map fun t => ⟨t, h.n + 1⟩
def AH.put (h : AH) (r : Nat) (x : Row) : AH := ⟨Tr.set x h.t r, h.n⟩
def AH.kill (h : AH) : List Nat → AH
  | [] => h
  | r :: l => (h.put r .dead).kill l
def cellsAt (h : AH) (r o n : Nat) : Option (List AV) :=
  match h.row r with
  | some (.cells _ _ _ _ cs) => if o + n ≤ cs.length then some ((cs.drop o).take n) else none
  | _ => none
def loadA (h : AH) (t : TypeId) (r o : Nat) : Option AV :=
  match agg? P t with
  | some true => (size P t).bind fun n => (cellsAt h r o n).map .agg
  | some false => (cellsAt h r o 1).bind List.head?
  | none => none
def splice (cs new : List AV) (o : Nat) : List AV := cs.take o ++ new ++ cs.drop (o + new.length)
def storeA (h : AH) (r o : Nat) (new : List AV) : Option AH :=
  match h.row r with
  | some (.cells sz ex false kin cs) =>
    if o + new.length ≤ cs.length ∧ new.all AV.scalar = true ∧ ¬ kin.contains r = true then some ((h.put r (.cells sz ex false [] (splice cs new o))).kill kin) else none
  | _ => none
def fillA (place : Nat → Option (Nat × Nat)) (cells : List AV) : List (Nat × AV) → Option (List AV)
  | [] => some cells
  | (i, v) :: rest =>
    match place i with
    | none => none
    | some (off, size) => if v.cells.length = size ∧ off + v.cells.length ≤ cells.length then fillA place (splice cells v.cells off) rest else none
def placesA : List Field → Option (List (Nat × Nat))
  | [] => some []
  | f :: l => (size P f.type).bind fun n => (placesA l).map fun l => (f.offset, n) :: l
def reps (l : List AV) : Nat → List AV
  | 0 => []
  | n + 1 => l ++ reps l n
def buildA (t : TypeId) (parts : List (Nat × AV)) : Option AV :=
  (zero P t).bind fun z =>
  match P.underlying t with
  | some (.struct fields) => (placesA P fields.toList).bind fun pl => (fillA (fun i => pl[i]?) z.cells parts).map .agg
  | some (.array _ elem) => (size P elem).bind fun n => (fillA (fun i => some (i * n, n)) z.cells parts).map .agg
  | _ => none
def partA (t : TypeId) (cs : List AV) (off : Nat) : Option AV :=
  match agg? P t with
  | some true => (size P t).bind fun n => if off + n ≤ cs.length then some (.agg ((cs.drop off).take n)) else none
  | some false => cs[off]?
  | none => none
def apartA (h : AH) (r r' : Nat) : Bool :=
  match h.row r, h.row r' with
  | some (.cells _ _ false [] _), some (.cells _ _ false [] _) => r != r'
  | _, _ => false
def eqA (h : AH) (d : TypeDesc) (a b : AV) : Option Bool :=
  match d, a, b with
  | .bool, .bool a, .bool b => some (a == b)
  | .int _, .int k a, .int k' b => if k = k' then some (a == b) else none
  | .string, .str a, .str b => some (a == b)
  | .pointer _, .nilptr, .nilptr => some true
  | .pointer _, .nilptr, .ptr _ _ | .pointer _, .ptr _ _, .nilptr => some false
  | .pointer e, .ptr r o, .ptr r' o' =>
    match size P e with
    | some (_ + 1) => if r = r' then some (o == o') else if apartA h r r' then some false else none
    | _ => none
  | .slice _, .nilslice, .nilslice => some true
  | .slice _, .nilslice, .slice _ _ _ _ | .slice _, .slice _ _ _ _, .nilslice => some false
  | .map _ _, .nilmap, .nilmap => some true
  | .map _ _, .nilmap, .map _ | .map _ _, .map _, .nilmap => some false
  | .func _ _ _, .nilfunc, .nilfunc => some true
  | .func _ _ _, .nilfunc, .func _ _ _ | .func _ _ _, .func _ _ _, .nilfunc => some false
  | .interface _, .nilface, .nilface => some true
  | .interface _, .nilface, .iface _ _ | .interface _, .iface _ _, .nilface => some false
  | _, _, _ => none
def wrapA (k : IntKind) (n : Int) : AV := .int k (k.wrap n)
def binA (h : AH) (t : TypeId) (op : BinOp) (a b : AV) : Option AV :=
  match a, b with
  | .int k x, .int k' y =>
    if k = k' then
      match op with
      | .add => some (wrapA k (x + y))
      | .sub => some (wrapA k (x - y))
      | .mul => some (wrapA k (x * y))
      | .quo => if y = 0 then none else some (wrapA k (x.tdiv y))
      | .rem => if y = 0 then none else some (.int k (x.tmod y))
      | .eql => some (.bool (x == y))
      | .neq => some (.bool (x != y))
      | .lss => some (.bool (x < y))
      | .leq => some (.bool (x ≤ y))
      | .gtr => some (.bool (x > y))
      | .geq => some (.bool (x ≥ y))
      | _ => none
    else none
  | .str x, .str y =>
    match op with
    | .add => if ((x.size + y.size : Nat) : Int) > IntKind.i64.max then none else some (.str (x ++ y))
    | .eql => some (.bool (x.toList == y.toList))
    | .neq => some (.bool (!(x.toList == y.toList)))
    | .lss => some (.bool (Op.bytesLess x.toList y.toList))
    | _ => none
  | a, b =>
    match op, P.underlying t with
    | .eql, some d => (eqA P h d a b).map .bool
    | .neq, some d => (eqA P h d a b).map fun x => .bool (!x)
    | _, _ => none
def isConst : Operand → Bool
  | .const _ => true
  | _ => false
def guardV (x y : Operand) (a b : AV) : Bool :=
  match a, b with
  | .nilface, .nilface => isConst x || isConst y
  | .agg _, .agg _ => false
  | _, _ => true
def guardA (op : BinOp) (x y : Operand) (a b : AV) : Bool :=
  match op with
  | .eql | .neq => guardV x y a b
  | _ => true
def unA (op : UnOp) (a : AV) : Option AV :=
  match op, a with
  | .neg, .int k n => some (wrapA k (0 - n))
  | .not, .bool b => some (.bool (!b))
  | _, _ => none
def convA (src dst : TypeId) (a : AV) : Option AV :=
  match P.underlying src, P.underlying dst, a with
  | some _, some (.int k), .int _ n => some (wrapA k n)
  | some _, some .string, .str s => some (.str s)
  | _, _, _ => none
def hitsA (h : AH) (d : TypeDesc) (k : AV) : List (AV × AV) → Option (List Bool)
  | [] => some []
  | e :: l => (eqA P h d k e.1).bind fun b => (hitsA h d k l).map fun l => b :: l
def hitOf : List (AV × AV) → List Bool → List AV
  | e :: l, b :: m => if b then e.2 :: hitOf l m else hitOf l m
  | _, _ => []
def findA (h : AH) (d : TypeDesc) (k : AV) (es : List (AV × AV)) : Option (Option AV) :=
  (hitsA P h d k es).bind fun bs =>
  match hitOf es bs with
  | [] => some none
  | [v] => some (some v)
  | _ => none
def layEntry (k v : AV) : List (AV × AV) → List (AV × AV)
  | [] => [(k, v)]
  | e :: l =>
    match k, e.1 with
    | .int _ a, .int _ b => if a < b then (k, v) :: e :: l else e :: layEntry k v l
    | _, _ => e :: layEntry k v l
def setHit (v : AV) : List (AV × AV) → List Bool → List (AV × AV)
  | e :: l, b :: m => (if b then (e.1, v) else e) :: setHit v l m
  | l, _ => l
def keyA (d : TypeDesc) (k : AV) : Bool :=
  match d, k with
  | .int _, .int _ _ | .string, .str _ | .pointer _, .ptr _ _ => true
  | _, _ => false
def updA (h : AH) (d : TypeDesc) (k v : AV) (es : List (AV × AV)) : Option (List (AV × AV)) :=
  (hitsA P h d k es).bind fun bs =>
  match hitOf es bs with
  | [] => some (layEntry k v es)
  | [_] => some (setHit v es bs)
  | _ => none
def lookFin (elem : TypeId) (ok : Bool) : Option AV → Option AV
  | some v => some (if ok then .tup [v, .bool true] else v)
  | none => (zero P elem).map fun z => if ok then .tup [z, .bool false] else z
def lookupA (h : AH) (t : TypeId) (m k : AV) (ok : Bool) : Option AV :=
  match P.underlying t with
  | some (.map kt elem) =>
    match P.underlying kt with
    | some d =>
      if keyA d k then
        match m with
        | .nilmap => lookFin P elem ok none
        | .map r => match h.row r with
          | some (.map es) => (findA P h d k es).bind (lookFin P elem ok)
          | _ => none
        | _ => none
      else none
    | none => none
  | _ => none
def mapUpdA (h : AH) (t : TypeId) (m k v : AV) : Option AH :=
  match P.underlying t, m with
  | some (.map kt _), .map r =>
    match P.underlying kt, h.row r with
    | some d, some (.map es) => if keyA d k then (updA P h d k v es).map fun es => h.put r (.map es) else none
    | _, _ => none
  | _, _ => none
def typeAssertA (x : AV) (t : TypeId) (ok : Bool) : Option AV :=
  match P.underlying t with
  | some (.interface _) => none
  | none => none
  | some _ =>
    match x with
    | .nilface => if ok then (zero P t).map fun z => .tup [z, .bool false] else none
    | .iface t' v => if t' = t then some (if ok then .tup [v, .bool true] else v) else if ok then (zero P t).map fun z => .tup [z, .bool false] else none
    | _ => none
def extrA (t : AV) (i : Nat) : Option AV :=
  match t with
  | .tup l => l[i]?
  | _ => none
def natOf : AV → Option Nat
  | .int _ n => if 0 ≤ n then some n.toNat else none
  | _ => none
def natOr (d : Nat) : Option AV → Option Nat
  | none => some d
  | some v => natOf v
def sliceA (t : TypeId) (x : AV) (lo hi : Option AV) : Option AV :=
  match P.underlying t, x with
  | some .string, .str s =>
    (natOr s.size hi).bind fun h => (natOr 0 lo).bind fun l =>
    if h ≤ s.size ∧ l ≤ h then some (.str (s.extract l h)) else none
  | some (.slice elem), .slice r o len cap =>
    (size P elem).bind fun n => (natOr len hi).bind fun h => (natOr 0 lo).bind fun l =>
    if h ≤ cap ∧ l ≤ h ∧ (l = 0 ∨ l < cap) then some (.slice r (o + l * n) (h - l) (cap - l)) else none
  | some (.slice elem), .nilslice =>
    (size P elem).bind fun _ => (natOr 0 hi).bind fun h => (natOr 0 lo).bind fun l => if h = 0 ∧ l = 0 then some .nilslice else none
  | _, _ => none
def fieldAddrA (s : TypeId) (x : AV) (i : Nat) : Option AV :=
  match P.underlying s, x with
  | some (.struct fields), .ptr r o =>
    match fields[i]? with
    | some f => match size P f.type with
      | some (_ + 1) => some (.ptr r (o + f.offset))
      | _ => none
    | none => none
  | _, _ => none
def fieldA (t : TypeId) (x : AV) (i : Nat) : Option AV :=
  match P.underlying t, x with
  | some (.struct fields), .agg cs =>
    match fields[i]? with
    | some f => partA P f.type cs f.offset
    | none => none
  | _, _ => none
def indexAddrA (t : TypeId) (x i : AV) : Option AV :=
  match P.underlying t, x, i with
  | some (.slice elem), .slice r o len _, .int _ n => (size P elem).bind fun s => if 0 ≤ n ∧ n < len then some (.ptr r (o + n.toNat * s)) else none
  | some (.array len elem), .ptr r o, .int _ n => (size P elem).bind fun s => if 0 ≤ n ∧ n < len then some (.ptr r (o + n.toNat * s)) else none
  | _, _, _ => none
def indexA (t : TypeId) (x i : AV) : Option AV :=
  match P.underlying t, x, i with
  | some .string, .str s, .int _ n => if 0 ≤ n then (s[n.toNat]?).map fun b => .int .u8 b.toNat else none
  | some (.array len elem), .agg cs, .int _ n => (size P elem).bind fun s => if 0 ≤ n ∧ n < len then partA P elem cs (n.toNat * s) else none
  | _, _, _ => none
def lenA (h : AH) (t : TypeId) (x : AV) : Option AV :=
  match P.underlying t, x with
  | some .string, .str s => some (.int .i64 s.size)
  | some (.slice _), .slice _ _ n _ => some (.int .i64 n)
  | some (.slice _), .nilslice => some (.int .i64 0)
  | some (.map _ _), .nilmap => some (.int .i64 0)
  | some (.map _ _), .map r =>
    match h.row r with
    | some (.map es) => some (.int .i64 es.length)
    | _ => none
  | _, _ => none
def sourceA (h : AH) (n : Nat) : AV → Option (List AV × Nat)
  | .nilslice => some ([], 0)
  | .slice r o len _ => (cellsAt h r o (len * n)).map fun cs => (cs, len)
  | _ => none
def appendA (h : AH) (elem : TypeId) (s x : AV) : Option (AV × AH) :=
  match P.info? elem with
  | none => none
  | some i =>
    match zero P elem, sourceA h i.size x with
    | some z, some (new, k) =>
      if i.size = 0 ∨ z.cells.length ≠ i.size ∨ i.bytes > 2 ^ 16 ∨ new.all AV.scalar = false then none else
      match s with
      | .nilslice =>
        if k = 0 then some (.nilslice, h)
        else if k > 2 ^ 20 then none
        else (h.new (.cells i.size false false [] new)).map fun h' => (.slice h.n 0 k k, h')
      | .slice r o len cap =>
        if len + k ≤ cap then
          if k = 0 then some (.slice r o len cap, h)
          else (storeA h r (o + len * i.size) new).map fun h => (.slice r o (len + k) cap, h)
        else if len + k > 2 ^ 20 then none
        else
          match h.row r, cellsAt h r o (len * i.size) with
          | some (.cells sz ex ext kin cs), some old =>
            if ex then (h.new (.cells i.size false false [] (old ++ new))).map fun h' => (.slice h.n 0 (len + k) (len + k), h')
            else if ext = false ∧ sz = i.size ∧ cap = len ∧ o + len * i.size = cs.length then
              ((h.put r (.cells sz ex true kin cs)).new (.cells i.size false false (r :: kin) (old ++ new))).map fun h' => (.slice h.n 0 (len + k) (len + k), h')
            else none
          | _, _ => none
      | _ => none
    | _, _ => none
def layA (T : AT) (op : Op) : Option (Row × (Nat → AV)) :=
  match op with
  | .alloc elem => (zero P elem).map fun z => (.cells 1 true false [] z.cells, fun r => .ptr r 0)
  | .box _ x => (opd T x).map fun v => (.cells 1 true false [] v.cells, fun r => .ptr r 0)
  | .buildSlice t len parts =>
    match P.underlying t, partsA T parts.toList with
    | some (.slice elem), some ps =>
      match size P elem with
      | some n =>
        if len * n > 2 ^ 24 then none else
        match (if len * n = 0 then some [] else (zero P elem).map fun z => reps z.cells len) with
        | some z => if z.length = len * n then (fillA (fun i => some (i * n, n)) z ps).map fun cs => (.cells n true false [] cs, fun r => .slice r 0 len len) else none
        | none => none
      | none => none
    | _, _ => none
  | .makeMap _ none => some (.map [], fun r => .map r)
  | .makeSlice t l c =>
    match P.underlying t, opd T l, opd T c with
    | some (.slice elem), some l, some c =>
      match natOf l, natOf c, P.info? elem with
      | some l, some c, some i =>
        if l > c ∨ c > 2 ^ 20 ∨ i.bytes > 2 ^ 16 then none else
        match (if c * i.size = 0 then some [] else (zero P elem).map fun z => reps z.cells c) with
        | some z => if z.length = c * i.size then some (.cells i.size true false [] z, fun r => .slice r 0 l c) else none
        | none => none
      | _, _, _ => none
    | _, _, _ => none
  | _ => none
def calmA (T : AT) (h : AH) (op : Op) : Option AV :=
  match op with
  | .move x | .assign x => opd T x
  | .pick c a b =>
    match opd T c with
    | some (.bool c) => if c then opd T a else opd T b
    | _ => none
  | .build t parts => (partsA T parts.toList).bind (buildA P t)
  | .load t a =>
    match opd T a with
    | some (.ptr r o) => loadA P h t r o
    | _ => none
  | .nilCheck x =>
    match opd T x with
    | some (.ptr r o) => some (.ptr r o)
    | some (.func (.func f) a b) => some (.func (.func f) a b)
    | some (.iface t v) => some (.iface t v)
    | _ => none
  | .binOp op t x y _ =>
    match opd T x, opd T y with
    | some a, some b => if guardA op x y a b then binA P h t op a b else none
    | _, _ => none
  | .unOp op _ x => (opd T x).bind (unA op)
  | .convert s t x => (opd T x).bind (convA P s t)
  | .makeInterface t x =>
    match P.underlying t with
    | some (.interface _) => none
    | some _ => (opd T x).map (.iface t)
    | none => none
  | .makeFunc fn first cap =>
    match opds T first.toList, opds T cap.toList with
    | some f, some c => some (.func fn f c)
    | _, _ => none
  | .slice t x lo hi none =>
    match opd T x, opdo T lo, opdo T hi with
    | some x, some lo, some hi => match P.underlying t with
      | some (.array _ _) => none
      | _ => sliceA P t x lo hi
    | _, _, _ => none
  | .fieldAddr s x f => (opd T x).bind fun x => fieldAddrA P s x f
  | .field t x f => (opd T x).bind fun x => fieldA P t x f
  | .indexAddr t x i =>
    match opd T x, opd T i with
    | some x, some i => indexAddrA P t x i
    | _, _ => none
  | .index t x i =>
    match opd T x, opd T i with
    | some x, some i => indexA P t x i
    | _, _ => none
  | .lookup t x i ok =>
    match opd T x, opd T i with
    | some x, some i => lookupA P h t x i ok
    | _, _ => none
  | .typeAssert x _ t ok => (opd T x).bind fun x => typeAssertA P x t ok
  | .extract t i => (opd T t).bind fun t => extrA t i
  | .call { callee := .builtin .len, args := ⟨[x]⟩, argTypes := ⟨[t]⟩ } => (opd T x).bind (lenA P h t)
  | .next it false =>
    match opd T it with
    | some (.ptr r 0) => match h.row r with
      | some .iter => some (.tup [.bool false])
      | _ => none
    | _ => none
  | _ => none
def isCalm : Op → Bool
  | .move _ | .assign _ | .pick .. | .build .. | .load .. | .nilCheck _ | .binOp .. | .unOp .. | .convert .. | .makeInterface .. | .makeFunc .. | .slice .. | .fieldAddr .. | .field .. | .indexAddr .. | .index .. | .lookup .. | .typeAssert .. | .extract .. => true
  | .next _ false => true
  | .call { callee := .builtin .len, .. } => true
  | _ => false
def isLay : Op → Bool
  | .alloc _ | .box .. | .buildSlice .. | .makeMap _ none | .makeSlice .. => true
  | _ => false
inductive AN where
  | val (v : AV) (h : AH)
  | skip (h : AH)
  | enter (f : FuncId) (args : List AV)
  | defer (fn : Fn) (args cap : List AV)
  | recover
def callA (f : FuncId) (args : List AV) : Option AN :=
  match P.funcs[f]? with
  | some fn => if fn.name == "runtime.NumGoroutine" then none else if fn.body.isNone then none else some (.enter f args)
  | none => none
def invokeA (fn : Fn) (args cap : List AV) : Option AN :=
  match fn with
  | .func f => callA P f (args ++ cap)
  | .method name =>
    match args with
    | .iface t v :: rest =>
      match P.info? t, P.underlying t with
      | some i, some d =>
        match i.methods.find? (fun m => m.name == name) with
        | some m =>
          if m.path.isEmpty then
            match m.func, d with
            | some (_, false), .pointer _ => none
            | some (f, true), .pointer _ => callA P f (v :: rest)
            | some (f, false), _ => callA P f (v :: rest)
            | _, _ => none
          else none
        | none => none
      | _, _ => none
    | _ => none
  | _ => none
def calleeA (T : AT) (c : Call) : Option (Fn × List AV × List AV) :=
  match c.callee with
  | .invoke recv name =>
    match opd T recv, opds T c.args.toList with
    | some r, some a => some (.method name, r :: a, [])
    | _, _ => none
  | .value f =>
    match opd T f, opds T c.args.toList with
    | some (.func fn first cap), some a => some (fn, first ++ a, cap)
    | _, _ => none
  | .builtin _ => none
def loudA (T : AT) (h : AH) (op : Op) : Option AN :=
  match op with
  | .store t a x =>
    match opd T a, opd T x with
    | some (.ptr r o), some x => if size P t = some x.cells.length then (storeA h r o x.cells).map .skip else none
    | _, _ => none
  | .mapUpdate t m k x | .insert t m k x =>
    match opd T m, opd T k, opd T x with
    | some m, some k, some x => (mapUpdA P h t m k x).map .skip
    | _, _, _ => none
  | .range t x =>
    match P.underlying t, opd T x with
    | some (.map _ _), some .nilmap => (h.new .iter).map fun h' => .val (.ptr h.n 0) h'
    | _, _ => none
  | .call { callee := .builtin .append, args := ⟨[s, x]⟩, argTypes := ⟨[t, u]⟩ } =>
    match opd T s, opd T x, P.underlying t, P.underlying u with
    | some s, some x, some (.slice elem), some (.slice _) => (appendA P h elem s x).map fun (v, h) => .val v h
    | _, _, _, _ => none
  | .call { callee := .builtin .recover, .. } => some .recover
  | .call { callee := .value f, args, argTypes } => (calleeA T { callee := .value f, args, argTypes }).bind fun (fn, args, cap) => invokeA P fn args cap
  | .call { callee := .invoke r m, args, argTypes } => (calleeA T { callee := .invoke r m, args, argTypes }).bind fun (fn, args, cap) => invokeA P fn args cap
  | .defer { callee := .value f, args, argTypes } => (calleeA T { callee := .value f, args, argTypes }).map fun (fn, args, cap) => .defer fn args cap
  | _ => none
def opA (T : AT) (h : AH) (op : Op) : Option AN :=
  if isCalm op then (calmA P T h op).map fun v => .val v h
  else if isLay op then
    match layA P T op with
    | some (row, mk) => (h.new row).map fun h' => .val (mk h.n) h'
    | none => none
  else loudA P T h op
end
end Go.Ax
end

section
namespace Go.Ax

inductive Ex where
  | normal | exit (id : Nat) | ret
  deriving Inhabited
structure ADef where
  fn : Fn
  args : List AV
  cap : List AV
structure AF where
  T : AT
  D : List ADef
  h : AH
def sameT : Option AV → Option AV → Bool
  | some a, some b => a.same b
  | none, none => true
  | _, _ => false
def sameD : List ADef → List ADef → Bool
  | [], [] => true
  | a :: l, b :: m => a.fn == b.fn && AV.sames a.args b.args && AV.sames a.cap b.cap && sameD l m
  | _, _ => false
def AF.same (a b : AF) : Bool := Tr.same sameT a.T b.T && sameD a.D b.D && a.h.n == b.h.n && Tr.same Row.same a.h.t b.h.t
section
variable (P : Program)
def undefA : AV := .tup []
def wantedA (ops : Array Oper) (T : AT) (o : Oper) : Option Bool :=
  match o.guard with
  | none => some true
  | some (j, want) =>
    match (ops[j]?).bind (·.dst) with
    | none => none
    | some d =>
      match T.val d with
      | some (.bool b) => some (b == want)
      | some _ => some false
      | none => none
def tmpsOf : List Operand → List Tmp
  | [] => []
  | .tmp t :: l => t :: tmpsOf l
  | _ :: l => tmpsOf l
def namesOf (ops : Array Oper) (o : Oper) : List Tmp :=
  tmpsOf o.op.operands.toList ++ (match o.guard with | some (j, _) => ((ops[j]?).bind (·.dst)).toList | none => [])
def aheadA (b : Array Nat) (es : List Edge) : Nat := es.foldl (fun s e => if Region.binds .any e then s ||| 2 ^ e.on ||| b.getD e.on 0 else s) 0
def drawFits (ops : Array Oper) (b : Array Nat) : Bool :=
  (List.range ops.size).all fun j =>
    match ops[j]? with
    | none => false
    | some oj =>
      (oj.after.toList.all fun e => !Region.binds .any e || decide (e.on < j)) && b.getD j 0 == aheadA b oj.after.toList &&
      (List.range ops.size).all fun i =>
        match (ops[i]?).bind (·.dst) with
        | none => true
        | some d => if i = j then !(namesOf ops oj).contains d else (oj.dst != some d) && (!(namesOf ops oj).contains d || (b.getD j 0).testBit i)
def rowOf : AV → Option Nat
  | .ptr r _ | .slice r _ _ _ | .map r => some r
  | _ => none
def lateOk (ops : Array Oper) (T : AT) (h : AH) (o : Oper) : Bool :=
  match wantedA ops T o with
  | none => false
  | some w =>
    match o.dst with
    | none => false
    | some d =>
      match T.val d with
      | none => false
      | some v =>
        if w then
          if isCalm o.op then
            match calmA P T h o.op with
            | some u => u.same v
            | none => false
          else
            match layA P T o.op, rowOf v with
            | some (row, mk), some r =>
              (mk r).same v && match h.row r with
                | some row' => row.same row'
                | none => false
            | _, _ => false
        else v.same undefA
def allLate (ops : Array Oper) (b : Array Nat) (done : Nat) (last : Option Nat) (T : AT) (h : AH) : Bool :=
  (List.range ops.size).all fun i =>
    match ops[i]? with
    | none => false
    | some o => !done.testBit i || !(isCalm o.op || isLay o.op) || (match last with | some l => (b.getD l 0).testBit i | none => false) || lateOk P ops T h o
def readyA (ops : Array Oper) (b : Array Nat) (done : Nat) : List Nat :=
  (List.range ops.size).filter fun i => !done.testBit i && ((b.getD i 0) &&& done) == b.getD i 0
def blank : Nat → Nat → AT
  | 0, _ => .e
  | f + 1, n => bif Nat.beq n 0 then .e else .n none (blank f (Nat.div n 2)) (blank f (Nat.div (Nat.sub n 1) 2))
def putAll (T : AT) : Nat → List AV → AT
  | _, [] => T
  | i, v :: l => putAll (Tr.set (some v) T i) (i + 1) l
def enterT (n : Nat) (args : List AV) : AT := putAll (blank 20 n) 0 args
def resultsA : List ResultVar → AT → AH → Option (List AV)
  | [], _, _ => some []
  | .tmp t :: l, T, h => (T.val t).bind fun v => (resultsA l T h).map fun l => v :: l
  | .cell a t :: l, T, h =>
    match T.val a with
    | some (.ptr r o) => (loadA P h t r o).bind fun v => (resultsA l T h).map fun l => v :: l
    | _ => none
def oneOf : List AV → AV
  | [v] => v
  | l => .tup l
def asksC : Code → Bool
  | .region _ ops _ => ops.toList.any fun o => match o.op with | .call { callee := .builtin .recover, .. } => true | _ => false
  | .seq a b | .cond _ a b => asksC a || asksC b
  | .block _ a | .loop a | .scope a => asksC a
  | _ => false
def asksF (g : FuncId) : Bool :=
  match P.funcs[g]? with
  | some fn => match fn.body with
    | some c => asksC c
    | none => false
  | none => false
mutual
def acode : Nat → Bool → Code → AF → Option (Ex × AF)
  | 0, _, _, _ => none
  | f + 1, dl, c, s =>
    match c with
    | .skip => some (.normal, s)
    | .ret => some (.ret, s)
    | .exit id => some (.exit id, s)
    | .seq a b =>
      match acode f dl a s with
      | some (.normal, s) => acode f dl b s
      | r => r
    | .cond c a b =>
      match opd s.T c with
      | some (.bool t) => acode f dl (if t then a else b) s
      | _ => none
    | .block id a =>
      match acode f dl a s with
      | some (.exit i, s) => if i = id then some (.normal, s) else some (.exit i, s)
      | r => r
    | .loop a =>
      match acode f dl a s with
      | some (.normal, s) => acode f dl (.loop a) s
      | r => r
    | .region _ ops false => (aops f dl ops ops.toList s).map fun s => (.normal, s)
    | .region _ ops true => if !dl && drawFits ops (Region.before ops) then (adraw f ops (Region.before ops) 0 s none).map fun s => (.normal, s) else none
    | _ => none
def aop1 : Nat → Bool → Oper → AF → Option AF
  | 0, _, _, _ => none
  | f + 1, dl, o, s =>
    match opA P s.T s.h o.op with
    | some (.val v h) => some ⟨s.T.put o.dst v, s.D, h⟩
    | some (.skip h) => some ⟨s.T.put o.dst undefA, s.D, h⟩
    | some (.enter g args) =>
      match abody f false false g args s.h with
      | some (v, h) => some ⟨s.T.put o.dst v, s.D, h⟩
      | none => none
    | some (.defer fn args cap) => some ⟨s.T.put o.dst undefA, ⟨fn, args, cap⟩ :: s.D, s.h⟩
    | some .recover => if dl then some ⟨s.T.put o.dst .nilface, s.D, s.h⟩ else none
    | none => none
def aopw : Nat → Bool → Array Oper → Oper → AF → Option AF
  | 0, _, _, _, _ => none
  | f + 1, dl, ops, o, s =>
    match wantedA ops s.T o with
    | some true => aop1 f dl o s
    | some false => some ⟨s.T.put o.dst undefA, s.D, s.h⟩
    | none => none
def aops : Nat → Bool → Array Oper → List Oper → AF → Option AF
  | 0, _, _, _, _ => none
  | _ + 1, _, _, [], s => some s
  | f + 1, dl, ops, o :: rest, s =>
    match aopw f dl ops o s with
    | some s => aops f dl ops rest s
    | none => none
def aclose : Nat → Array Oper → Array Nat → List Nat → Nat → AF → Option (Nat × AF)
  | 0, _, _, _, _, _ => none
  | _ + 1, _, _, [], done, s => some (done, s)
  | f + 1, ops, b, i :: rest, done, s =>
    match ops[i]? with
    | none => none
    | some o =>
      if (isCalm o.op || isLay o.op) && !done.testBit i && ((b.getD i 0) &&& done) == b.getD i 0 then
        match aopw f false ops o s with
        | some s => aclose f ops b rest (done ||| 2 ^ i) s
        | none => none
      else aclose f ops b rest done s
def adraw : Nat → Array Oper → Array Nat → Nat → AF → Option Nat → Option AF
  | 0, _, _, _, _, _ => none
  | f + 1, ops, b, done, s, last =>
    match aclose f ops b (List.range ops.size) done s with
    | none => none
    | some (done, s) =>
      if allLate P ops b done last s.T s.h then
        match readyA ops b done with
        | [] => if done = 2 ^ ops.size - 1 then some s else none
        | l => adraws f ops b done s l
      else none
def adraws : Nat → Array Oper → Array Nat → Nat → AF → List Nat → Option AF
  | 0, _, _, _, _, _ => none
  | _ + 1, _, _, _, _, [] => none
  | f + 1, ops, b, done, s, i :: rest =>
    match ops[i]? with
    | none => none
    | some o =>
      match aopw f false ops o s with
      | none => none
      | some s' =>
        match adraw f ops b (done ||| 2 ^ i) s' (some i) with
        | none => none
        | some r =>
          match rest with
          | [] => some r
          | j :: rest =>
            match adraws f ops b done s (j :: rest) with
            | some r' => if r.same r' then some r else none
            | none => none
def abody : Nat → Bool → Bool → FuncId → List AV → AH → Option (AV × AH)
  | 0, _, _, _, _, _ => none
  | f + 1, df, dl, g, args, h =>
    match P.funcs[g]? with
    | none => none
    | some fn =>
      match fn.body with
      | none => none
      | some c =>
        if args.length ≤ fn.ntmps then
          match acode f dl c ⟨enterT fn.ntmps args, [], h⟩ with
          | some (.exit _, _) => none
          | some (_, s) =>
            match adefers f df s.D s.h with
            | some h =>
              match resultsA P fn.results.toList s.T h with
              | some l => some (oneOf l, h)
              | none => none
            | none => none
          | none => none
        else none
def adefers : Nat → Bool → List ADef → AH → Option AH
  | 0, _, _, _ => none
  | _ + 1, _, [], h => some h
  | f + 1, df, d :: ds, h =>
    if df then none else
    match invokeA P d.fn d.args d.cap with
    | some (.enter g args) =>
      match abody f true (asksF P g) g args h with
      | some (_, h) => adefers f df ds h
      | none => none
    | _ => none
end
end
end Go.Ax
end

section
namespace Go.Ax
open Go.RowKit (Below)
structure Pl where
  b : Nat
  o : Nat
  x : Nat
abbrev Mu := Nat → Option Pl
def Mu.le (μ μ' : Mu) : Prop := ∀ r p, μ r = some p → μ' r = some p
theorem Mu.le_refl (μ : Mu) : μ.le μ := fun _ _ h => h
theorem Mu.le_trans {a b c : Mu} (h : a.le b) (k : b.le c) : a.le c := fun r p e => k r p (h r p e)
mutual
def VR (μ : Mu) : AV → Value → Prop
  | .bool b, v => v = .bool b
  | .int k n, v => v = .int k n
  | .str s, v => v = .string s
  | .nilptr, v => v = .pointer none
  | .ptr r o, v => ∃ p, μ r = some p ∧ v = .pointer (some ⟨p.b, p.o + o, none⟩)
  | .nilslice, v => v = .slice none 0 0
  | .slice r o len cap, v => ∃ p, μ r = some p ∧ v = .slice (some ⟨p.b, p.o + o, none⟩) len (cap + p.x)
  | .nilmap, v => v = .map none
  | .map r, v => ∃ p, μ r = some p ∧ v = .map (some p.b)
  | .nilfunc, v => v = .nilFunc
  | .func fn f c, v => ∃ f' c', v = .func fn f' c' ∧ VRs μ f f'.toList ∧ VRs μ c c'.toList
  | .nilface, v => v = .nilIface
  | .iface t x, v => ∃ x', v = .iface t x' ∧ VR μ x x'
  | .agg l, v => ∃ cs, v = .agg cs ∧ VRs μ l cs.toList
  | .tup l, v => ∃ cs, v = .tuple cs ∧ VRs μ l cs.toList
def VRs (μ : Mu) : List AV → List Value → Prop
  | [], cs => cs = []
  | v :: l, cs => ∃ c cs', cs = c :: cs' ∧ VR μ v c ∧ VRs μ l cs'
end

mutual
theorem VR.mono {μ μ' : Mu} (h : μ.le μ') : ∀ (v : AV) (c : Value), VR μ v c → VR μ' v c
  | .bool _, _, e | .int _ _, _, e | .str _, _, e | .nilptr, _, e | .nilslice, _, e | .nilmap, _, e | .nilfunc, _, e | .nilface, _, e => by
    simp only [VR] at e ⊢; exact e
  | .ptr r o, _, e | .slice r o _ _, _, e | .map r, _, e => by
    simp only [VR] at e ⊢; obtain ⟨p, hp, e⟩ := e; exact ⟨p, h _ _ hp, e⟩
  | .func fn f c, _, e => by
    simp only [VR] at e ⊢; obtain ⟨f', c', e, hf, hc⟩ := e; exact ⟨f', c', e, VRs.mono h f _ hf, VRs.mono h c _ hc⟩
  | .iface t x, _, e => by
    simp only [VR] at e ⊢; obtain ⟨x', e, hx⟩ := e; exact ⟨x', e, VR.mono h x _ hx⟩
  | .agg l, _, e | .tup l, _, e => by
    simp only [VR] at e ⊢; obtain ⟨cs, e, hl⟩ := e; exact ⟨cs, e, VRs.mono h l _ hl⟩
theorem VRs.mono {μ μ' : Mu} (h : μ.le μ') : ∀ (l : List AV) (cs : List Value), VRs μ l cs → VRs μ' l cs
  | [], _, e => by simp only [VRs] at e ⊢; exact e
  | v :: l, _, e => by
    simp only [VRs] at e ⊢; obtain ⟨c, cs', e, hv, hl⟩ := e; exact ⟨c, cs', e, VR.mono h v _ hv, VRs.mono h l _ hl⟩
end

section lists
variable {μ : Mu}
theorem VRs.length : ∀ {l : List AV} {cs : List Value}, VRs μ l cs → l.length = cs.length
  | [], _, e => by simp only [VRs] at e; subst e; rfl
  | v :: l, _, e => by
    simp only [VRs] at e; obtain ⟨c, cs', rfl, _, hl⟩ := e; simp [VRs.length hl]
theorem VRs.nil : VRs μ [] [] := by simp [VRs]
theorem VRs.cons {v : AV} {c : Value} {l : List AV} {cs : List Value} (h : VR μ v c) (hl : VRs μ l cs) : VRs μ (v :: l) (c :: cs) := by
  simp only [VRs]; exact ⟨c, cs, rfl, h, hl⟩
theorem VRs.cons_inv {v : AV} {l : List AV} {cs : List Value} (h : VRs μ (v :: l) cs) : ∃ c cs', cs = c :: cs' ∧ VR μ v c ∧ VRs μ l cs' := by
  simpa only [VRs] using h
theorem VRs.one {v : AV} {c : Value} (h : VR μ v c) : VRs μ [v] [c] := .cons h .nil
theorem VRs.append : ∀ {l m : List AV} {cs ds : List Value}, VRs μ l cs → VRs μ m ds → VRs μ (l ++ m) (cs ++ ds)
  | [], _, _, _, e, k => by simp only [VRs] at e; subst e; exact k
  | v :: l, _, _, _, e, k => by
    obtain ⟨c, cs', rfl, hv, hl⟩ := e.cons_inv; exact .cons hv (VRs.append hl k)
theorem VRs.take : ∀ (n : Nat) {l : List AV} {cs : List Value}, VRs μ l cs → VRs μ (l.take n) (cs.take n)
  | 0, _, _, _ => by simpa using VRs.nil
  | n + 1, [], _, e => by simp only [VRs] at e; subst e; simpa using VRs.nil
  | n + 1, v :: l, _, e => by
    obtain ⟨c, cs', rfl, hv, hl⟩ := e.cons_inv; exact .cons hv (VRs.take n hl)
theorem VRs.drop : ∀ (n : Nat) {l : List AV} {cs : List Value}, VRs μ l cs → VRs μ (l.drop n) (cs.drop n)
  | 0, _, _, e => e
  | n + 1, [], _, e => by simp only [VRs] at e; subst e; simpa using VRs.nil
  | n + 1, v :: l, _, e => by
    obtain ⟨c, cs', rfl, hv, hl⟩ := e.cons_inv; exact VRs.drop n hl
theorem VRs.get : ∀ {l : List AV} {cs : List Value} {i : Nat} {v : AV}, VRs μ l cs → l[i]? = some v → ∃ c, cs[i]? = some c ∧ VR μ v c
  | [], _, _, _, _, h => by simp at h
  | v :: l, _, 0, _, e, h => by
    obtain ⟨c, cs', rfl, hv, hl⟩ := e.cons_inv
    simp at h; subst h; exact ⟨c, rfl, hv⟩
  | v :: l, _, i + 1, _, e, h => by
    obtain ⟨c, cs', rfl, hv, hl⟩ := e.cons_inv
    simp at h; obtain ⟨d, hd, hr⟩ := VRs.get hl h; exact ⟨d, by simpa using hd, hr⟩
theorem VRs.get' : ∀ {l : List AV} {cs : List Value} {i : Nat} {c : Value}, VRs μ l cs → cs[i]? = some c → ∃ v, l[i]? = some v ∧ VR μ v c
  | [], _, _, _, e, h => by simp only [VRs] at e; subst e; simp at h
  | v :: l, _, 0, _, e, h => by
    obtain ⟨c, cs', rfl, hv, hl⟩ := e.cons_inv
    simp at h; subst h; exact ⟨v, rfl, hv⟩
  | v :: l, _, i + 1, _, e, h => by
    obtain ⟨c, cs', rfl, hv, hl⟩ := e.cons_inv
    simp at h; obtain ⟨d, hd, hr⟩ := VRs.get' hl h; exact ⟨d, by simpa using hd, hr⟩
theorem VRs.of_get {l : List AV} {cs : List Value} (hn : l.length = cs.length) (h : ∀ (i : Nat) v c, l[i]? = some v → cs[i]? = some c → VR μ v c) : VRs μ l cs := by
  induction l generalizing cs with
  | nil => cases cs with
    | nil => exact .nil
    | cons c cs => simp at hn
  | cons v l ih =>
    cases cs with
    | nil => simp at hn
    | cons c cs => exact .cons (h 0 v c rfl rfl) (ih (by simpa using hn) fun i v c a b => h (i + 1) v c (by simpa using a) (by simpa using b))
theorem VR.cells {v : AV} {c : Value} (h : VR μ v c) : VRs μ v.cells c.cells.toList := by
  cases v <;> simp only [VR] at h <;> first
    | (obtain ⟨cs, rfl, hl⟩ := h; first | exact hl | exact .one (by simp only [VR]; exact ⟨_, rfl, hl⟩))
    | (obtain ⟨p, hp, rfl⟩ := h; exact .one (by simp only [VR]; exact ⟨p, hp, rfl⟩))
    | (obtain ⟨f', c', rfl, hf, hc⟩ := h; exact .one (by simp only [VR]; exact ⟨f', c', rfl, hf, hc⟩))
    | (obtain ⟨x', rfl, hx⟩ := h; exact .one (by simp only [VR]; exact ⟨x', rfl, hx⟩))
    | (subst h; exact .one (by simp only [VR]))
theorem VR.scalar {v : AV} {c : Value} (h : VR μ v c) (hs : v.scalar = true) : c.oneCell' = true := by
  cases v <;> simp only [VR] at h <;> first
    | (simp [AV.scalar] at hs; done)
    | (obtain ⟨p, hp, rfl⟩ := h; rfl)
    | (obtain ⟨f', c', rfl, hf, hc⟩ := h; rfl)
    | (obtain ⟨x', rfl, hx⟩ := h; rfl)
    | (subst h; rfl)
end lists

mutual
theorem absV_VR (μ : Mu) : ∀ (c : Value) (v : AV), absV c = some v → VR μ v c
  | .bool _, _, h | .int _ _, _, h | .string _, _, h | .pointer none, _, h | .map none, _, h | .nilFunc, _, h | .nilIface, _, h => by
    simp only [absV, Option.some.injEq] at h; subst h; simp only [VR]
  | .slice none 0 0, _, h => by
    simp only [absV, Option.some.injEq] at h; subst h; simp only [VR]
  | .func fn ⟨f⟩ ⟨c⟩, _, h => by
    simp only [absV] at h
    cases hf : absVs f with
    | none => simp [hf] at h
    | some f' => cases hc : absVs c with
      | none => simp [hf, hc] at h
      | some c' => simp [hf, hc] at h; subst h; simp only [VR]; exact ⟨_, _, rfl, absVs_VRs μ f f' hf, absVs_VRs μ c c' hc⟩
  | .iface t x, _, h => by
    simp only [absV] at h
    cases hx : absV x with
    | none => simp [hx] at h
    | some x' => simp [hx] at h; subst h; simp only [VR]; exact ⟨_, rfl, absV_VR μ x x' hx⟩
  | .agg ⟨l⟩, _, h => by
    simp only [absV] at h
    cases hx : absVs l with
    | none => simp [hx] at h
    | some x' => simp [hx] at h; subst h; simp only [VR]; exact ⟨_, rfl, absVs_VRs μ l x' hx⟩
  | .tuple ⟨l⟩, _, h => by
    simp only [absV] at h
    cases hx : absVs l with
    | none => simp [hx] at h
    | some x' => simp [hx] at h; subst h; simp only [VR]; exact ⟨_, rfl, absVs_VRs μ l x' hx⟩
  | .float _ _, _, h | .complex _ _ _, _, h | .pointer (some _), _, h | .map (some _), _, h | .chan _, _, h | .slice (some _) _ _, _, h | .slice none (_ + 1) _, _, h | .slice none 0 (_ + 1), _, h => by
    simp [absV] at h
theorem absVs_VRs (μ : Mu) : ∀ (l : List Value) (m : List AV), absVs l = some m → VRs μ m l
  | [], _, h => by simp only [absVs, Option.some.injEq] at h; subst h; exact .nil
  | c :: l, _, h => by
    simp only [absVs] at h
    cases hx : absV c with
    | none => simp [hx] at h
    | some x' => cases hl : absVs l with
      | none => simp [hx, hl] at h
      | some l' => simp [hx, hl] at h; subst h; exact .cons (absV_VR μ c x' hx) (absVs_VRs μ l l' hl)
end

theorem beq_no {a b : Nat} (h : a ≠ b) : Nat.beq a b = false := by
  cases e : Nat.beq a b with
  | false => rfl
  | true => exact absurd (Nat.eq_of_beq_eq_true e) h
namespace Tr
variable {α : Type}
theorem get_n (v : α) (l r : Tr α) (k : Nat) : (Tr.n v l r).get k = if k = 0 then some v else if k % 2 = 1 then l.get (k / 2) else r.get (k / 2 - 1) := by
  show (bif Nat.beq k 0 then some v else bif Nat.beq (k % 2) 1 then l.get (k / 2) else r.get (k / 2 - 1)) = _
  by_cases h : k = 0
  · simp [h]
  · rw [beq_no h]
    by_cases h1 : k % 2 = 1
    · simp [h, h1]
    · rw [beq_no h1]; simp [h, h1]
theorem set_n (x v : α) (l r : Tr α) (k : Nat) : set x (Tr.n v l r) k = if k = 0 then .n x l r else if k % 2 = 1 then .n v (set x l (k / 2)) r else .n v l (set x r (k / 2 - 1)) := by
  show (bif Nat.beq k 0 then Tr.n x l r else bif Nat.beq (k % 2) 1 then Tr.n v (set x l (k / 2)) r else Tr.n v l (set x r (k / 2 - 1))) = _
  by_cases h : k = 0
  · simp [h]
  · rw [beq_no h]
    by_cases h1 : k % 2 = 1
    · simp [h, h1]
    · rw [beq_no h1]; simp [h, h1]
theorem push_n (x v : α) (l r : Tr α) (k : Nat) : push x (Tr.n v l r) k = if k = 0 then none else if k % 2 = 1 then (push x l (k / 2)).map (fun l' => .n v l' r) else (push x r (k / 2 - 1)).map (fun r' => .n v l r') := by
  show (bif Nat.beq k 0 then none else bif Nat.beq (k % 2) 1 then (push x l (k / 2)).map (fun l' => Tr.n v l' r) else (push x r (k / 2 - 1)).map (fun r' => Tr.n v l r')) = _
  by_cases h : k = 0
  · simp [h]
  · rw [beq_no h]
    by_cases h1 : k % 2 = 1
    · simp [h, h1]
    · rw [beq_no h1]; simp [h, h1]
theorem push_e (x : α) (k : Nat) : push x (.e : Tr α) k = if k = 0 then some (.n x .e .e) else none := by
  show (bif Nat.beq k 0 then some (Tr.n x .e .e) else none) = _
  by_cases h : k = 0
  · simp [h]
  · rw [beq_no h]; simp [h]
theorem get_e (k : Nat) : (.e : Tr α).get k = none := rfl
theorem set_e (x : α) (k : Nat) : set x (.e : Tr α) k = .e := rfl
theorem get_set_ne (x : α) : ∀ (t : Tr α) (k j : Nat), j ≠ k → (set x t k).get j = t.get j
  | .e, _, _, _ => rfl
  | .n v l r, k, j, h => by
    rw [set_n]
    by_cases hk : k = 0
    · have hj : j ≠ 0 := by omega
      rw [if_pos hk, get_n, get_n]; simp [hj]
    · rw [if_neg hk]
      by_cases h1 : k % 2 = 1
      · rw [if_pos h1, get_n, get_n]
        by_cases hj : j = 0
        · simp [hj]
        · rw [if_neg hj, if_neg hj]
          by_cases h2 : j % 2 = 1
          · rw [if_pos h2, if_pos h2]; exact get_set_ne x l _ _ (by omega)
          · rw [if_neg h2, if_neg h2]
      · rw [if_neg h1, get_n, get_n]
        by_cases hj : j = 0
        · simp [hj]
        · rw [if_neg hj, if_neg hj]
          by_cases h2 : j % 2 = 1
          · rw [if_pos h2, if_pos h2]
          · rw [if_neg h2, if_neg h2]; exact get_set_ne x r _ _ (by omega)
theorem get_set_same (x : α) : ∀ (t : Tr α) (k : Nat), (set x t k).get k = (t.get k).map fun _ => x
  | .e, _ => rfl
  | .n v l r, k => by
    rw [set_n, get_n]
    by_cases hk : k = 0
    · rw [if_pos hk, if_pos hk, get_n, if_pos hk]; rfl
    · rw [if_neg hk, if_neg hk]
      by_cases h1 : k % 2 = 1
      · rw [if_pos h1, if_pos h1, get_n, if_neg hk, if_pos h1]; exact get_set_same x l _
      · rw [if_neg h1, if_neg h1, get_n, if_neg hk, if_neg h1]; exact get_set_same x r _
theorem get_push (x : α) : ∀ (t : Tr α) (k : Nat) (t' : Tr α), push x t k = some t' → t'.get k = some x ∧ t.get k = none ∧ ∀ j, j ≠ k → t'.get j = t.get j
  | .e, k, t', h => by
    rw [push_e] at h
    by_cases hk : k = 0
    · rw [if_pos hk] at h; simp at h; subst h
      refine ⟨by rw [get_n, if_pos hk], rfl, fun j hj => ?_⟩
      rw [get_n, if_neg (by omega)]; split <;> rfl
    · rw [if_neg hk] at h; simp at h
  | .n v l r, k, t', h => by
    rw [push_n] at h
    by_cases hk : k = 0
    · rw [if_pos hk] at h; simp at h
    · rw [if_neg hk] at h
      by_cases h1 : k % 2 = 1
      · rw [if_pos h1] at h
        cases hp : push x l (k / 2) with
        | none => simp [hp] at h
        | some l' =>
          simp [hp] at h; subst h
          obtain ⟨a, b, c⟩ := get_push x l _ l' hp
          refine ⟨by rw [get_n, if_neg hk, if_pos h1]; exact a, by rw [get_n, if_neg hk, if_pos h1]; exact b, fun j hj => ?_⟩
          rw [get_n, get_n]
          by_cases hj0 : j = 0
          · simp [hj0]
          · rw [if_neg hj0, if_neg hj0]
            by_cases h2 : j % 2 = 1
            · rw [if_pos h2, if_pos h2]; exact c _ (by omega)
            · rw [if_neg h2, if_neg h2]
      · rw [if_neg h1] at h
        cases hp : push x r (k / 2 - 1) with
        | none => simp [hp] at h
        | some r' =>
          simp [hp] at h; subst h
          obtain ⟨a, b, c⟩ := get_push x r _ r' hp
          refine ⟨by rw [get_n, if_neg hk, if_neg h1]; exact a, by rw [get_n, if_neg hk, if_neg h1]; exact b, fun j hj => ?_⟩
          rw [get_n, get_n]
          by_cases hj0 : j = 0
          · simp [hj0]
          · rw [if_neg hj0, if_neg hj0]
            by_cases h2 : j % 2 = 1
            · rw [if_pos h2, if_pos h2]
            · rw [if_neg h2, if_neg h2]; exact c _ (by omega)
end Tr

theorem AT.val_put_ne {T : AT} {d : Option Tmp} {v : AV} {t : Tmp} (h : d ≠ some t) : (T.put d v).val t = T.val t := by
  cases d with
  | none => rfl
  | some d => simp only [AT.put, AT.val]; rw [Tr.get_set_ne _ _ _ _ (fun e => h (by rw [e]))]
theorem AT.val_put_same {T : AT} {t : Tmp} {v u : AV} (h : (T.put (some t) v).val t = some u) : u = v := by
  simp only [AT.put, AT.val, Tr.get_set_same] at h
  cases hg : T.get t with
  | none => simp [hg] at h
  | some x => simp [hg] at h; exact h.symm
theorem AH.row_put_ne {h : AH} {r j : Nat} {x : Row} (hj : j ≠ r) : (h.put r x).row j = h.row j := Tr.get_set_ne x h.t r j hj
theorem AH.row_put_same {h : AH} {r : Nat} {x : Row} : (h.put r x).row r = (h.row r).map fun _ => x := Tr.get_set_same x h.t r
theorem AH.row_new {h h' : AH} {x : Row} (e : h.new x = some h') : h'.n = h.n + 1 ∧ h'.row h.n = some x ∧ h.row h.n = none ∧ ∀ j, j ≠ h.n → h'.row j = h.row j := by
  unfold AH.new at e
  cases hp : Tr.push x h.t h.n with
  | none => simp [hp] at e
  | some t => simp [hp] at e; subst e; exact ⟨rfl, Tr.get_push x h.t h.n t hp⟩
theorem AH.n_put {h : AH} {r : Nat} {x : Row} : (h.put r x).n = h.n := rfl
theorem AH.n_kill : ∀ (l : List Nat) (h : AH), (h.kill l).n = h.n
  | [], _ => rfl
  | r :: l, h => by simp only [AH.kill]; rw [AH.n_kill l]; rfl
theorem AH.row_kill : ∀ (l : List Nat) (h : AH) (j : Nat), (h.kill l).row j = if j ∈ l then (h.row j).map fun _ => .dead else h.row j
  | [], _, _ => by simp [AH.kill]
  | r :: l, h, j => by
    simp only [AH.kill]
    rw [AH.row_kill l]
    by_cases hr : j = r
    · subst hr; rw [AH.row_put_same]; cases h.row j <;> simp
    · rw [AH.row_put_ne hr]; simp [hr]
end Go.Ax
end

section
namespace Go.Ax
open Go.RowKit (Below)
def Row.live : Row → Bool
  | .dead => false
  | _ => true
def ERs (μ : Mu) : List (AV × AV) → List MapEntry → Prop
  | [], l => l = []
  | e :: es, l => ∃ m l', l = m :: l' ∧ VR μ e.1 m.key ∧ VR μ e.2 m.val ∧ ERs μ es l'
theorem ERs.mono {μ μ' : Mu} (h : μ.le μ') : ∀ (es : List (AV × AV)) (l : List MapEntry), ERs μ es l → ERs μ' es l
  | [], _, e => e
  | _ :: es, _, ⟨m, l', e, a, b, r⟩ => ⟨m, l', e, a.mono h, b.mono h, ERs.mono h es l' r⟩
def Cells (μ : Mu) (cs : List AV) (C : Array Value) (o : Nat) : Prop := ∀ (i : Nat) v, cs[i]? = some v → ∃ c, C[o + i]? = some c ∧ VR μ v c
theorem Cells.mono {μ μ' : Mu} (h : μ.le μ') {cs : List AV} {C : Array Value} {o : Nat} (k : Cells μ cs C o) : Cells μ' cs C o :=
  fun i v e => let ⟨c, a, b⟩ := k i v e; ⟨c, a, b.mono h⟩
theorem splice_get {α : Type} (l new : List α) (o i : Nat) (h : o + new.length ≤ l.length) :
    (l.take o ++ new ++ l.drop (o + new.length))[i]? = if i < o then l[i]? else if i < o + new.length then new[i - o]? else l[i]? := by
  have ho : (l.take o).length = o := by simp; omega
  by_cases h1 : i < o
  · rw [if_pos h1, List.append_assoc, List.getElem?_append_left (by omega), List.getElem?_take, if_pos h1]
  · rw [if_neg h1, List.append_assoc, List.getElem?_append_right (by omega), ho]
    by_cases h2 : i < o + new.length
    · rw [if_pos h2, List.getElem?_append_left (by omega)]
    · rw [if_neg h2, List.getElem?_append_right (by omega), List.getElem?_drop]
      congr 1; omega
def RowOk (μ : Mu) (x : Row) (p : Pl) (H : Array Obj) : Prop :=
  match x with
  | .cells sz ex _ _ cs => ∃ (C : Array Value) (T : TypeId), H[p.b]? = some (.cells C T (0, 0)) ∧ p.o + cs.length + p.x * sz ≤ C.size ∧ Cells μ cs C p.o ∧ (ex = true → p.x = 0)
  | .map es => ∃ E clk l, H[p.b]? = some (.map E clk) ∧ l.Perm E.toList ∧ ERs μ es l
  | .iter => p.o = 0 ∧ H[p.b]? = some (.mapIter none 0 #[] 0)
  | .dead => True
theorem RowOk.mono {μ μ' : Mu} (h : μ.le μ') {x : Row} {p : Pl} {H H' : Array Obj} (k : RowOk μ x p H) (e : H'[p.b]? = H[p.b]?) : RowOk μ' x p H' := by
  cases x with
  | cells sz ex ext kin cs => obtain ⟨C, T, a, b, c, d⟩ := k; exact ⟨C, T, by rw [e]; exact a, b, c.mono h, d⟩
  | map es => obtain ⟨E, clk, l, a, b, c⟩ := k; exact ⟨E, clk, l, by rw [e]; exact a, b, c.mono h⟩
  | iter => exact ⟨k.1, by rw [e]; exact k.2⟩
  | dead => trivial
def Kin (r1 : Nat) (p1 p2 : Pl) (x1 x2 : Row) : Prop :=
  ∃ sz1 ex1 kin1 cs1 sz2 ex2 ext2 kin2 cs2, x1 = .cells sz1 ex1 true kin1 cs1 ∧ x2 = .cells sz2 ex2 ext2 kin2 cs2 ∧ r1 ∈ kin2 ∧ p1.o + cs1.length ≤ p2.o + cs2.length
structure Sim (w0 : World) (μ : Mu) (h : AH) (w : World) : Prop where
  dom : ∀ r p, μ r = some p → r < h.n ∧ w0.heap.size ≤ p.b ∧ p.b < w.heap.size
  rows : ∀ r p x, μ r = some p → h.row r = some x → RowOk μ x p w.heap
  sep : ∀ r1 r2 p1 p2 x1 x2, r1 < r2 → μ r1 = some p1 → μ r2 = some p2 → h.row r1 = some x1 → h.row r2 = some x2 → x1.live = true → x2.live = true → p1.b = p2.b → Kin r1 p1 p2 x1 x2
  below : Below w0.heap.size w0 w
theorem Sim.start (w : World) : Sim w (fun _ => none) ⟨.e, 0⟩ w :=
  ⟨(fun _ _ h => by cases h), (fun _ _ _ h => by cases h), (fun _ _ _ _ _ _ _ h => by cases h), Below.refl _ _⟩
theorem Sim.of_heap {w0 w w' : World} {μ : Mu} {h : AH} (s : Sim w0 μ h w) (e : w'.heap = w.heap) (e1 : w'.os = w.os) (e2 : w'.tape = w.tape) (e3 : w'.output = w.output) : Sim w0 μ h w' :=
  ⟨fun r p k => by rw [e]; exact s.dom r p k, fun r p x a b => by rw [e]; exact s.rows r p x a b, s.sep,
   ⟨e1.trans s.below.os, e2.trans s.below.tape, e3.trans s.below.output, by rw [e]; exact s.below.size, fun k hk => by rw [e]; exact s.below.block k hk⟩⟩
theorem Sim.drew {w0 w : World} {μ : Mu} {h : AH} (s : Sim w0 μ h w) : Sim w0 μ h { w with drawn := w.drawn + 1 } := s.of_heap rfl rfl rfl rfl
def upd (μ : Mu) (r : Nat) (p : Pl) : Mu := fun j => if j = r then some p else μ j
theorem upd_same (μ : Mu) (r : Nat) (p : Pl) : upd μ r p r = some p := if_pos rfl
theorem upd_ne {μ : Mu} {r j : Nat} {p : Pl} (h : j ≠ r) : upd μ r p j = μ j := if_neg h
theorem le_upd {μ : Mu} {r : Nat} {p : Pl} (h : μ r = none) : μ.le (upd μ r p) := fun j q e => by
  by_cases hj : j = r
  · subst hj; rw [h] at e; cases e
  · rw [upd_ne hj]; exact e
def Grows (n : Nat) (μ μ' : Mu) : Prop := μ.le μ' ∧ ∀ r, r < n → μ' r = μ r
theorem Grows.refl (n : Nat) (μ : Mu) : Grows n μ μ := ⟨μ.le_refl, fun _ _ => rfl⟩
theorem Grows.trans {n m : Nat} {a b c : Mu} (h : Grows n a b) (k : Grows m b c) (hm : n ≤ m) : Grows n a c :=
  ⟨Mu.le_trans h.1 k.1, fun r hr => (k.2 r (Nat.lt_of_lt_of_le hr hm)).trans (h.2 r hr)⟩
theorem Sim.none_new {w0 w : World} {μ : Mu} {h : AH} (s : Sim w0 μ h w) {r : Nat} (hr : h.n ≤ r) : μ r = none := by
  cases e : μ r with
  | none => rfl
  | some p => exact absurd (s.dom r p e).1 (by omega)
theorem Sim.place {w0 w : World} {μ : Mu} {h h' : AH} (s : Sim w0 μ h w) {r : Nat} {x : Row} {o : Obj} {p : Pl} (hn : h.n ≤ h'.n) (hr : r < h'.n) (hx : h'.row r = some x)
    (hj : ∀ j, j ≠ r → h'.row j = h.row j) (hμ : μ r = none) (hp : p.b = w.heap.size) (hok : RowOk (upd μ r p) x p (w.heap.push o)) :
    Sim w0 (upd μ r p) h' (w.alloc o) := by
  have hb : w0.heap.size ≤ w.heap.size := s.below.size
  have old : ∀ k, k < w.heap.size → (w.heap.push o)[k]? = w.heap[k]? := fun k hk => by rw [Array.getElem?_push, if_neg (by omega)]
  refine ⟨?_, ?_, ?_, s.below.alloc hb o⟩
  · intro j q e
    by_cases hjr : j = r
    · subst hjr; rw [upd_same] at e; cases e
      exact ⟨hr, by omega, by show p.b < (w.heap.push o).size; simp; omega⟩
    · rw [upd_ne hjr] at e
      have d := s.dom j q e
      exact ⟨by omega, d.2.1, by show q.b < (w.heap.push o).size; simp; omega⟩
  · intro j q y e f
    by_cases hjr : j = r
    · subst hjr; rw [upd_same] at e; cases e; rw [hx] at f; cases f; exact hok
    · rw [upd_ne hjr] at e; rw [hj j hjr] at f
      exact (s.rows j q y e f).mono (le_upd hμ) (old _ (s.dom j q e).2.2)
  · intro r1 r2 p1 p2 x1 x2 hlt e1 e2 f1 f2 l1 l2 hbb
    by_cases h1 : r1 = r
    · have h2 : r2 ≠ r := by omega
      rw [h1, upd_same] at e1; cases e1
      rw [upd_ne h2] at e2
      have := (s.dom r2 p2 e2).2.2; omega
    · rw [upd_ne h1] at e1
      by_cases h2 : r2 = r
      · rw [h2, upd_same] at e2; cases e2
        have := (s.dom r1 p1 e1).2.2; omega
      · rw [upd_ne h2] at e2; rw [hj _ h1] at f1; rw [hj _ h2] at f2
        exact s.sep r1 r2 p1 p2 x1 x2 hlt e1 e2 f1 f2 l1 l2 hbb
theorem Sim.new {w0 w : World} {μ : Mu} {h h' : AH} (s : Sim w0 μ h w) {x : Row} {o : Obj} {p : Pl} (e : h.new x = some h') (hp : p.b = w.heap.size)
    (hok : RowOk (upd μ h.n p) x p (w.heap.push o)) : Sim w0 (upd μ h.n p) h' (w.alloc o) ∧ Grows h.n μ (upd μ h.n p) ∧ h'.n = h.n + 1 := by
  obtain ⟨a, b, c, d⟩ := AH.row_new e
  refine ⟨s.place (by omega) (by omega) b d (s.none_new (Nat.le_refl _)) hp hok, ⟨le_upd (s.none_new (Nat.le_refl _)), fun r hr => upd_ne (by omega)⟩, a⟩
section cells
variable {P : Program} {w0 w : World} {μ : Mu} {h : AH}
theorem cell_of_row {w : World} {C : Array Value} {T : TypeId} {f : Nat × Nat} {b j : Nat} (hb : w.heap[b]? = some (.cells C T f)) : w.cell? ⟨b, j, none⟩ = C[j]? := by
  simp [World.cell?, hb]
theorem addr_add (b o n : Nat) : (⟨b, o, none⟩ : Addr).add n = ⟨b, o + n, none⟩ := by
  unfold Addr.add; split
  · rename_i h; subst h; rfl
  · rfl
theorem Sim.cells (s : Sim w0 μ h w) {r : Nat} {p : Pl} {sz : Nat} {ex ext : Bool} {kin : List Nat} {cs : List AV} (hp : μ r = some p) (hr : h.row r = some (.cells sz ex ext kin cs)) :
    ∃ (C : Array Value) (T : TypeId), w.heap[p.b]? = some (.cells C T (0, 0)) ∧ p.o + cs.length + p.x * sz ≤ C.size ∧ Cells μ cs C p.o ∧ (ex = true → p.x = 0) :=
  s.rows r p _ hp hr
theorem cellsAt_some {r o n : Nat} {l : List AV} (e : cellsAt h r o n = some l) : ∃ sz ex ext kin cs, h.row r = some (.cells sz ex ext kin cs) ∧ o + n ≤ cs.length ∧ l = (cs.drop o).take n := by
  unfold cellsAt at e
  split at e
  · rename_i sz ex ext kin cs hr
    split at e
    · rename_i hle; simp at e; exact ⟨sz, ex, ext, kin, cs, hr, hle, e.symm⟩
    · cases e
  · cases e
theorem Sim.cellsAt (s : Sim w0 μ h w) {r o n : Nat} {l : List AV} {p : Pl} (hp : μ r = some p) (e : cellsAt h r o n = some l) :
    ∃ (C : Array Value) (T : TypeId), w.heap[p.b]? = some (.cells C T (0, 0)) ∧ p.o + o + n ≤ C.size ∧ VRs μ l ((C.toList.drop (p.o + o)).take n) ∧ l.length = n := by
  obtain ⟨sz, ex, ext, kin, cs, hr, hle, rfl⟩ := cellsAt_some e
  obtain ⟨C, T, hC, hs, hv, _⟩ := s.cells hp hr
  refine ⟨C, T, hC, by omega, VRs.of_get (by simp; omega) ?_, by simp; omega⟩
  intro i v c h1 h2
  rw [List.getElem?_take] at h1 h2
  split at h1
  · rename_i hi
    rw [if_pos hi] at h2
    rw [List.getElem?_drop] at h1 h2
    obtain ⟨c', a, b⟩ := hv (o + i) v h1
    rw [Array.getElem?_toList, show p.o + o + i = p.o + (o + i) from by omega, a] at h2
    cases h2; exact b
  · cases h1
theorem run_loadCells_at {w : World} {C : Array Value} {T : TypeId} {b o n : Nat} (hC : w.heap[b]? = some (.cells C T (0, 0))) (hs : o + n ≤ C.size) :
    (loadCells ⟨b, o, none⟩ n).run P w = .ok ((C.toList.drop o).take n).toArray w := by
  have hl : ((C.toList.drop o).take n).length = n := by simp; omega
  have := run_loadCells_list (P := P) w ⟨b, o, none⟩ ((C.toList.drop o).take n) (fun j v hj => by
    rw [addr_add, cell_of_row hC]
    rw [List.getElem?_take] at hj
    split at hj
    · rw [List.getElem?_drop] at hj; rwa [Array.getElem?_toList] at hj
    · cases hj)
  rwa [hl] at this
theorem Sim.loadCells (s : Sim w0 μ h w) {r o n : Nat} {l : List AV} {p : Pl} (hp : μ r = some p) (e : Ax.cellsAt h r o n = some l) :
    ∃ cs, (Go.loadCells ⟨p.b, p.o + o, none⟩ n).run P w = .ok cs w ∧ VRs μ l cs.toList ∧ cs.size = n := by
  obtain ⟨C, T, hC, hs, hv, hl⟩ := s.cellsAt hp e
  exact ⟨_, run_loadCells_at hC hs, by simpa using hv, by simp; omega⟩
theorem run_isAgg {w : World} {t : TypeId} {b : Bool} (e : agg? P t = some b) : (isAgg t).run P w = .ok b w := by
  unfold agg? at e
  unfold isAgg
  split at e <;> first | (cases e; done) | skip
  all_goals
    rename_i hu
    simp only [Sem.run_bind, run_underlying hu, Result.andThen_ok]
    cases e
    first | rfl | (split <;> first | (rename_i h1 h2 _; first | exact absurd rfl (h1 _) | exact absurd rfl (h2 _ _)) | rfl)
theorem run_sizeOf' {w : World} {t : TypeId} {n : Nat} (e : size P t = some n) : (sizeOf t).run P w = .ok n w := by
  unfold size at e
  cases hi : P.info? t with
  | none => simp [hi] at e
  | some i => simp [hi] at e; subst e; simp [sizeOf, typeInfo, hi]
theorem Sim.load (s : Sim w0 μ h w) {t : TypeId} {r o : Nat} {v : AV} {p : Pl} (hp : μ r = some p) (e : loadA P h t r o = some v) :
    ∃ c, (loadVar t ⟨p.b, p.o + o, none⟩).run P w = .ok c w ∧ VR μ v c := by
  unfold loadA at e
  cases ha : agg? P t with
  | none => simp [ha] at e
  | some b =>
    cases b with
    | true =>
      cases hn : size P t with
      | none => simp [ha, hn] at e
      | some n =>
        cases hc : Ax.cellsAt h r o n with
        | none => simp [ha, hn, hc] at e
        | some l =>
          simp [ha, hn, hc] at e; subst e
          obtain ⟨cs, hr, hv, _⟩ := s.loadCells (P := P) hp hc
          refine ⟨.agg cs, ?_, by simp only [VR]; exact ⟨cs, rfl, hv⟩⟩
          simp [loadVar, run_isAgg ha, run_sizeOf' hn, hr]
    | false =>
      cases hc : Ax.cellsAt h r o 1 with
      | none => simp [ha, hc] at e
      | some l =>
        simp [ha, hc] at e
        obtain ⟨C, T, hC, hs, hv, hl⟩ := s.cellsAt hp hc
        have hlt : p.o + o < C.size := by omega
        obtain ⟨c, hc1, hc2⟩ := hv.get (i := 0) (v := v) (by rw [← List.head?_eq_getElem?]; exact e)
        rw [List.getElem?_take, if_pos (by omega), List.getElem?_drop, Nat.add_zero, Array.getElem?_toList] at hc1
        refine ⟨c, ?_, hc2⟩
        simp [loadVar, run_isAgg ha, cell_of_row hC, hc1]
theorem splice_length {cs new : List AV} {o : Nat} (hl : o + new.length ≤ cs.length) : (splice cs new o).length = cs.length := by
  unfold splice; simp; omega
theorem all_scalar {new : List AV} {vs : List Value} (hv : VRs μ new vs) (ha : new.all AV.scalar = true) : ∀ v ∈ vs, v.oneCell' = true := by
  intro v hm
  obtain ⟨i, hi⟩ := List.mem_iff_getElem?.1 hm
  obtain ⟨a, ha', hr⟩ := hv.get' hi
  exact hr.scalar (by rw [List.all_eq_true] at ha; exact ha a (List.mem_of_getElem? ha'))
theorem below_setRow' {w0 w : World} {g : Nat} (hb : Below w0.heap.size w0 w) (hg : w0.heap.size ≤ g) (cs : Array Value) : Below w0.heap.size w0 (w.setRow g cs) :=
  hb.trans ⟨rfl, rfl, rfl, by simp, fun k hk => setRow_other w g k cs (by omega)⟩
theorem Sim.shares (s : Sim w0 μ h w) {r j : Nat} {p q : Pl} {sz : Nat} {ex : Bool} {kin : List Nat} {cs : List AV} {x : Row} (hp : μ r = some p) (hr : h.row r = some (.cells sz ex false kin cs))
    (hq : μ j = some q) (hx : h.row j = some x) (hl : x.live = true) (hne : j ≠ r) (hb : q.b = p.b) :
    j ∈ kin ∧ ∃ sz1 ex1 kin1 cs1, x = .cells sz1 ex1 true kin1 cs1 ∧ q.o + cs1.length ≤ p.o + cs.length := by
  rcases Nat.lt_or_ge j r with hlt | hge
  · obtain ⟨sz1, ex1, kin1, cs1, sz2, ex2, ext2, kin2, cs2, e1, e2, hk, hle⟩ := s.sep j r q p x _ hlt hq hp hx hr hl rfl hb
    cases e2; exact ⟨hk, sz1, ex1, kin1, cs1, e1, hle⟩
  · obtain ⟨sz1, ex1, kin1, cs1, sz2, ex2, ext2, kin2, cs2, e1, e2, hk, hle⟩ := s.sep r j p q _ x (by omega) hp hq hr hx rfl hl hb.symm
    cases e1
theorem Sim.store (s : Sim w0 μ h w) {r o : Nat} {new : List AV} {vs : List Value} {p : Pl} {h' : AH} (hp : μ r = some p) (e : storeA h r o new = some h') (hv : VRs μ new vs) :
    ∃ w', (storeCells ⟨p.b, p.o + o, none⟩ vs).run P w = .ok () w' ∧ Sim w0 μ h' w' ∧ h'.n = h.n := by
  unfold storeA at e
  split at e
  · rename_i sz ex kin cs hr
    split at e
    · rename_i hc
      obtain ⟨hle, hsc, hk⟩ := hc
      have hk' : r ∉ kin := by simpa using hk
      simp at e; subst e
      obtain ⟨C, T, hC, hs, hrel, hex⟩ := s.cells hp hr
      have hlen := hv.length
      have hone := all_scalar hv hsc
      have hrun := run_storeCells_at (P := P) p.b (p.o + o) T vs 0 C w hC (by omega) hone
      simp only [Nat.add_zero] at hrun
      have rowk : ∀ j x, ((h.put r (.cells sz ex false [] (splice cs new o))).kill kin).row j = some x → x.live = true → j ∉ kin ∧ (j = r ∧ x = .cells sz ex false [] (splice cs new o) ∨ j ≠ r ∧ h.row j = some x) := by
        intro j x hx hl
        rw [AH.row_kill] at hx
        by_cases hjk : j ∈ kin
        · rw [if_pos hjk] at hx
          cases hg : (h.put r (.cells sz ex false [] (splice cs new o))).row j with
          | none => simp [hg] at hx
          | some y => simp [hg] at hx; subst hx; cases hl
        · rw [if_neg hjk] at hx
          refine ⟨hjk, ?_⟩
          by_cases hjr : j = r
          · subst hjr; rw [AH.row_put_same, hr] at hx; simp at hx; exact .inl ⟨rfl, hx.symm⟩
          · rw [AH.row_put_ne hjr] at hx; exact .inr ⟨hjr, hx⟩
      refine ⟨_, hrun, ⟨?_, ?_, ?_, below_setRow' s.below (s.dom r p hp).2.1 _⟩, by rw [AH.n_kill]; rfl⟩
      · intro j q hj
        have := s.dom j q hj
        rw [AH.n_kill]
        exact ⟨this.1, this.2.1, by simpa using this.2.2⟩
      · intro j q x hj hx
        cases hl : x.live with
        | false => cases x <;> first | trivial | cases hl
        | true =>
          obtain ⟨hjk, ⟨rfl, rfl⟩ | ⟨hjr, hx'⟩⟩ := rowk j x hx hl
          · rw [hp] at hj; cases hj
            refine ⟨_, T, setRow_heap w p.b C _ T (0, 0) hC, ?_, ?_, hex⟩
            · rw [splice_length hle]; simp; omega
            · intro i v hi
              unfold splice at hi
              rw [splice_get _ _ _ _ (by omega)] at hi
              rw [← Array.getElem?_toList]
              show ∃ c, (C.toList.take (p.o + o) ++ vs ++ C.toList.drop (p.o + o + vs.length))[p.o + i]? = some c ∧ VR μ v c
              rw [splice_get _ _ _ _ (by simp; omega)]
              by_cases h1 : i < o
              · rw [if_pos h1] at hi; rw [if_pos (by omega), Array.getElem?_toList]; exact hrel i v hi
              · rw [if_neg h1] at hi; rw [if_neg (by omega)]
                by_cases h2 : i < o + new.length
                · rw [if_pos h2] at hi; rw [if_pos (by omega), show p.o + i - (p.o + o) = i - o from by omega]; exact hv.get hi
                · rw [if_neg h2] at hi; rw [if_neg (by omega), Array.getElem?_toList]; exact hrel i v hi
          · refine (s.rows j q x hj hx').mono μ.le_refl (setRow_other w p.b q.b _ fun hb => ?_)
            exact hjk (s.shares hp hr hj hx' hl hjr hb).1
      · intro r1 r2 p1 p2 x1 x2 hlt e1 e2 f1 f2 l1 l2 hbb
        obtain ⟨n1, ⟨rfl, rfl⟩ | ⟨m1, g1⟩⟩ := rowk r1 x1 f1 l1
        · obtain ⟨n2, ⟨rfl, rfl⟩ | ⟨m2, g2⟩⟩ := rowk r2 x2 f2 l2
          · omega
          · rw [hp] at e1; cases e1
            exact absurd (s.shares hp hr e2 g2 l2 m2 hbb.symm).1 n2
        · obtain ⟨n2, ⟨rfl, rfl⟩ | ⟨m2, g2⟩⟩ := rowk r2 x2 f2 l2
          · rw [hp] at e2; cases e2
            exact absurd (s.shares hp hr e1 g1 l1 m1 hbb).1 n1
          · exact s.sep r1 r2 p1 p2 x1 x2 hlt e1 e2 g1 g2 l1 l2 hbb
    · cases e
  · cases e
end cells
end Go.Ax
end

section
namespace Go.Ax

section
variable {P : Program} {w0 w : World} {μ : Mu} {h : AH}
def Known (μ : Mu) (T : AT) (ρ : Operand → Value) (x : Operand) : Prop := ∀ v, opd T x = some v → VR μ v (ρ x)
theorem opds_VRs {T : AT} {ρ : Operand → Value} : ∀ (l : List Operand) (vs : List AV), (∀ x ∈ l, Known μ T ρ x) → opds T l = some vs → VRs μ vs (l.map ρ)
  | [], _, _, e => by simp only [opds, Option.some.injEq] at e; subst e; exact .nil
  | x :: l, _, k, e => by
    simp only [opds] at e
    cases hx : opd T x with
    | none => simp [hx] at e
    | some v => cases hl : opds T l with
      | none => simp [hx, hl] at e
      | some vs => simp [hx, hl] at e; subst e; exact .cons (k x (by simp) v hx) (opds_VRs l vs (fun y hy => k y (by simp [hy])) hl)
def PRs (μ : Mu) : List (Nat × AV) → List (Nat × Value) → Prop
  | [], l => l = []
  | e :: es, l => ∃ c l', l = (e.1, c) :: l' ∧ VR μ e.2 c ∧ PRs μ es l'
theorem partsA_PRs {T : AT} {ρ : Operand → Value} : ∀ (l : List (Nat × Operand)) (ps : List (Nat × AV)), (∀ x ∈ l, Known μ T ρ x.2) → partsA T l = some ps → PRs μ ps (l.map fun x => (x.1, ρ x.2))
  | [], _, _, e => by simp only [partsA, Option.some.injEq] at e; subst e; rfl
  | (i, x) :: l, _, k, e => by
    simp only [partsA] at e
    cases hx : opd T x with
    | none => simp [hx] at e
    | some v => cases hl : partsA T l with
      | none => simp [hx, hl] at e
      | some vs => simp [hx, hl] at e; subst e; exact ⟨ρ x, _, rfl, k (i, x) (by simp) v hx, partsA_PRs l vs (fun y hy => k y (by simp [hy])) hl⟩
theorem run_zeroValue' {w : World} {t : TypeId} {z : AV} (e : zero P t = some z) : ∃ c, (zeroValue t).run P w = .ok c w ∧ VR μ z c := by
  unfold zero at e
  cases hi : P.info? t with
  | none => simp [hi] at e
  | some i =>
    cases hz : i.zero with
    | none => simp [hi, hz] at e
    | some c => simp [hi, hz] at e; exact ⟨c, by simp [zeroValue, typeInfo, hi, hz], absV_VR μ c z e⟩
theorem foldl_set (vs : List Value) (cs : Array Value) (off : Nat) (k : Nat) (h : off + k + vs.length ≤ cs.size) :
    ((vs.zipIdx k).foldl (fun cs (x : Value × Nat) => cs.setIfInBounds (off + x.2) x.1) cs).toList = cs.toList.take (off + k) ++ vs ++ cs.toList.drop (off + k + vs.length) := by
  induction vs generalizing cs k with
  | nil => simp
  | cons v vs ih =>
    simp only [List.zipIdx_cons, List.foldl_cons]
    rw [ih _ _ (by simp at h ⊢; omega)]
    apply List.ext_getElem?
    intro i
    have h' : off + k + (vs.length + 1) ≤ cs.size := by simpa using h
    have e1 := splice_get (cs.setIfInBounds (off + k) v).toList vs (off + (k + 1)) i (by simp; omega)
    have e2 := splice_get cs.toList (v :: vs) (off + k) i (by simp; omega)
    rw [e1, e2]
    simp only [Array.toList_setIfInBounds, List.length_cons]
    by_cases a1 : i < off + k
    · rw [if_pos (by omega), if_pos a1, List.getElem?_set_ne (by omega)]
    · rw [if_neg a1]
      by_cases a2 : i = off + k
      · subst a2
        rw [if_pos (by omega), if_pos (by omega), List.getElem?_set_self (by simp; omega)]; simp
      · rw [if_neg (by omega)]
        by_cases a3 : i < off + (k + 1) + vs.length
        · rw [if_pos a3, if_pos (by omega), show i - (off + k) = (i - (off + (k + 1))) + 1 from by omega, List.getElem?_cons_succ]
        · rw [if_neg a3, if_neg (by omega), List.getElem?_set_ne (by omega)]
theorem VRs.of_splice {l new : List AV} {cs ns : List Value} {o : Nat} (hl : VRs μ l cs) (hn : VRs μ new ns) :
    VRs μ (splice l new o) (cs.take o ++ ns ++ cs.drop (o + ns.length)) := by
  unfold splice; rw [hn.length]; exact ((hl.take o).append hn).append (hl.drop _)
theorem fill_VRs {pl : Nat → Option (Nat × Nat)} : ∀ (ps : List (Nat × AV)) (qs : List (Nat × Value)) (cells out : List AV) (cs : Array Value),
    PRs μ ps qs → VRs μ cells cs.toList → fillA pl cells ps = some out → ∃ ds, Instr.fill pl cs qs = some ds ∧ VRs μ out ds.toList
  | [], _, _, _, cs, hp, hc, e => by
    cases hp; simp only [fillA, Option.some.injEq] at e; subst e; exact ⟨cs, rfl, hc⟩
  | (i, v) :: ps, _, cells, out, cs, hp, hc, e => by
    obtain ⟨c, qs, rfl, hv, hr⟩ := hp
    simp only [fillA] at e
    cases hi : pl i with
    | none => simp [hi] at e
    | some x =>
      obtain ⟨off, size⟩ := x
      simp only [hi] at e
      split at e
      · rename_i hcond
        have hcl := hv.cells.length
        have hcc := hc.length
        have hsz : c.cells.size = v.cells.length := by simpa using hcl.symm
        have hcs : cs.size = cells.length := by simpa using hcc.symm
        obtain ⟨ds, hd, ho⟩ := fill_VRs ps qs (splice cells v.cells off) out (c.cells.zipIdx.foldl (fun cs (x : Value × Nat) => cs.setIfInBounds (off + x.2) x.1) cs) hr (by
          rw [← Array.foldl_toList, Array.toList_zipIdx, foldl_set _ _ _ _ (by simp; omega)]
          exact hc.of_splice hv.cells) e
        refine ⟨ds, ?_, ho⟩
        simp only [Instr.fill, hi]
        rw [if_neg]
        · exact hd
        · simp; omega
      · cases e
theorem places_run {w : World} : ∀ (fs : List Field) (pl : List (Nat × Nat)), placesA P fs = some pl → (fs.mapM (m := Sem) fun f => do pure (f.offset, ← sizeOf f.type)).run P w = .ok pl w
  | [], _, e => by simp only [placesA, Option.some.injEq] at e; subst e; simp
  | f :: fs, _, e => by
    simp only [placesA] at e
    cases hs : size P f.type with
    | none => simp [hs] at e
    | some n => cases hl : placesA P fs with
      | none => simp [hs, hl] at e
      | some pl =>
        simp [hs, hl] at e; subst e
        have ih := places_run (w := w) fs pl hl
        rw [List.mapM_cons]
        simp only [Sem.run_bind, run_sizeOf' hs, Result.andThen_ok, Sem.run_pure] at ih ⊢
        rw [ih]; rfl
theorem build_sound {t : TypeId} {ps : List (Nat × AV)} {qs : Array (Nat × Value)} {v : AV} (hp : PRs μ ps qs.toList) (e : buildA P t ps = some v) :
    ∃ c, (Instr.build t qs).run P w = .ok c w ∧ VR μ v c := by
  unfold buildA at e
  cases hz : zero P t with
  | none => simp [hz] at e
  | some z =>
    obtain ⟨zc, hzr, hzv⟩ := run_zeroValue' (w := w) (μ := μ) hz
    simp only [hz, Option.bind_some] at e
    split at e
    · rename_i fields hu
      cases hpl : placesA P fields.toList with
      | none => simp [hpl] at e
      | some pl =>
        cases hf : fillA (fun i => pl[i]?) z.cells ps with
        | none => simp [hpl, hf] at e
        | some out =>
          simp [hpl, hf] at e; subst e
          obtain ⟨ds, hd, ho⟩ := fill_VRs ps qs.toList z.cells out zc.cells hp hzv.cells hf
          refine ⟨.agg ds, ?_, by simp only [VR]; exact ⟨ds, rfl, ho⟩⟩
          have hm := places_run (w := w) fields.toList pl hpl
          simp only [Instr.build, Sem.run_bind, hzr, Result.andThen_ok, run_underlying hu]
          rw [Array.mapM_eq_mapM_toList]
          simp only [Sem.run_map, hm, Result.andThen_ok]
          simp [hd]
    · rename_i n elem hu
      cases hs : size P elem with
      | none => simp [hs] at e
      | some k =>
        cases hf : fillA (fun i => some (i * k, k)) z.cells ps with
        | none => simp [hs, hf] at e
        | some out =>
          simp [hs, hf] at e; subst e
          obtain ⟨ds, hd, ho⟩ := fill_VRs ps qs.toList z.cells out zc.cells hp hzv.cells hf
          refine ⟨.agg ds, ?_, by simp only [VR]; exact ⟨ds, rfl, ho⟩⟩
          simp [Instr.build, hzr, run_underlying hu, run_sizeOf' hs, hd]
    · cases e
theorem part_sound {t : TypeId} {cs : List AV} {ds : Array Value} {off : Nat} {v : AV} (hc : VRs μ cs ds.toList) (e : partA P t cs off = some v) :
    ∃ c, (part t ds off).run P w = .ok c w ∧ VR μ v c := by
  unfold partA at e
  cases ha : agg? P t with
  | none => simp [ha] at e
  | some b =>
    cases b with
    | true =>
      cases hn : size P t with
      | none => simp [ha, hn] at e
      | some n =>
        simp only [ha, hn, Option.bind_some] at e
        split at e
        · rename_i hle
          simp at e; subst e
          have hl := hc.length
          refine ⟨.agg (ds.extract off (off + n)), by simp [part, run_isAgg ha, run_sizeOf' hn], ?_⟩
          simp only [VR]
          refine ⟨_, rfl, ?_⟩
          have h2 := (hc.drop off).take n
          rwa [show (ds.extract off (off + n)).toList = (ds.toList.drop off).take n from by simp [List.take_drop]]
        · cases e
    | false =>
      simp only [ha] at e
      obtain ⟨c, hg, hr⟩ := hc.get e
      refine ⟨c, ?_, hr⟩
      rw [Array.getElem?_toList] at hg
      simp [part, run_isAgg ha, hg]
theorem Sim.apart (s : Sim w0 μ h w) {r r' : Nat} {p p' : Pl} (hp : μ r = some p) (hp' : μ r' = some p') (e : apartA h r r' = true) :
    p.b ≠ p'.b ∧ (∃ C T, w.heap[p.b]? = some (.cells C T (0, 0))) ∧ ∃ C T, w.heap[p'.b]? = some (.cells C T (0, 0)) := by
  unfold apartA at e
  split at e
  · rename_i sz1 ex1 cs1 sz2 ex2 cs2 h1 h2
    have hne : r ≠ r' := by simpa using e
    obtain ⟨C, T, a, _⟩ := s.cells hp h1
    obtain ⟨C', T', a', _⟩ := s.cells hp' h2
    refine ⟨fun hb => ?_, ⟨C, T, a⟩, C', T', a'⟩
    rcases Nat.lt_or_ge r r' with hlt | hge
    · obtain ⟨_, _, _, _, _, _, _, _, _, e1, _⟩ := s.sep r r' p p' _ _ hlt hp hp' h1 h2 rfl rfl hb
      cases e1
    · obtain ⟨_, _, _, _, _, _, _, _, _, e1, _⟩ := s.sep r' r p' p _ _ (by omega) hp' hp h2 h1 rfl rfl hb.symm
      cases e1
  · cases e
theorem addr_beq (b o o' : Nat) : ((⟨b, o, none⟩ : Addr) == ⟨b, o', none⟩) = (o == o') := by
  rw [Bool.eq_iff_iff]; simp
theorem eq_sound' (s : Sim w0 μ h w) (n : Nat) {t : TypeId} {d : TypeDesc} {a b : AV} {x y : Value} {r : Bool} (hd : P.underlying t = some d) (hx : VR μ a x) (hy : VR μ b y) (e : eqA P h d a b = some r) :
    (Op.equalIn (n + 1) t x y).run P w = .ok r w := by
  unfold eqA at e
  split at e
  case h_7 =>
    rename_i el r1 o1 r2 o2
    simp only [VR] at hx hy
    obtain ⟨p, hp, rfl⟩ := hx
    obtain ⟨q, hq, rfl⟩ := hy
    cases hs : size P el with
    | none => simp [hs] at e
    | some n =>
      cases n with
      | zero => simp [hs] at e
      | succ n =>
        simp only [hs] at e
        have key : (sameAddr ⟨p.b, p.o + o1, none⟩ ⟨q.b, q.o + o2, none⟩).run P w = .ok r w := by
          split at e
          · rename_i hrr
            subst hrr; rw [hp] at hq; cases hq
            simp at e; subst e
            simp only [sameAddr]
            rw [if_pos (by simp)]
            simp only [Sem.run_pure, addr_beq]
            congr 1; rw [Bool.eq_iff_iff]; simp
          · rename_i hrr
            split at e
            · rename_i hap
              simp at e; subst e
              obtain ⟨hb, ⟨C, T, hC⟩, C', T', hC'⟩ := s.apart hp hq hap
              exact run_sameAddr_other w (fun hh => hb (congrArg Addr.block hh)) hC hC'
            · cases e
        simp only [Op.equalIn, Sem.run_bind, run_underlying hd, Result.andThen_ok, run_sizeOf' hs]
        simpa using key
  all_goals first | (cases e; done) | skip
  all_goals
    simp only [VR] at hx hy
    try (obtain ⟨p, hp, rfl⟩ := hx)
    try (obtain ⟨q, hq, rfl⟩ := hy)
    try (obtain ⟨f', rfl, _⟩ := hx)
    try (obtain ⟨f', rfl, _⟩ := hy)
    try (obtain ⟨f', c', rfl, _, _⟩ := hx)
    try (obtain ⟨f', c', rfl, _, _⟩ := hy)
    try subst hx
    try subst hy
    simp only [Op.equalIn, Sem.run_bind, run_underlying hd, Result.andThen_ok]
    first
      | (simp at e; subst e; rfl)
      | (split at e
         · rename_i hk; simp at e; subst e; rw [if_pos hk]; rfl
         · cases e)
      | skip
theorem eq_sound (s : Sim w0 μ h w) {t : TypeId} {d : TypeDesc} {a b : AV} {x y : Value} {r : Bool} (hd : P.underlying t = some d) (hx : VR μ a x) (hy : VR μ b y) (e : eqA P h d a b = some r) :
    (Op.equal t x y).run P w = .ok r w := eq_sound' s 9999 hd hx hy e
theorem const_isConst {x : Operand} (h : isConst x = true) : ∃ v, x = .const v := by
  cases x <;> first | exact ⟨_, rfl⟩ | cases h
theorem guard_main {op : BinOp} {t : TypeId} {x y : Operand} {a b : AV} {u v : Value} (ho : op = .eql ∨ op = .neq) (ha : VR μ a u) (hb : VR μ b v) (e : guardV x y a b = true) :
    (eqGuard op t x y u v).run P w = .ok () w := by
  have key : ((match (generalizing := false) u, v with
      | .nilIface, .nilIface => (if ((match (generalizing := false) x with | .const _ => true | _ => false) || (match (generalizing := false) y with | .const _ => true | _ => false)) = true then pure () else do
          if ← Op.eqGuardIn Op.maxDepth t u v then unsupported (.noEntry "binop/eql: two nil values of an interface type with methods, neither of them the literal nil"))
      | .agg _, .agg _ => do
        if !(← program).eqGuardType (← program).depth t then return
        if ← Op.eqGuardIn Op.maxDepth t u v then unsupported (.noEntry "binop/eql: two nil values of an interface type with methods, in a part of a struct or an array")
      | _, _ => pure () : Sem Unit)).run P w = .ok () w := by
    unfold guardV at e
    split at e
    · simp only [VR] at ha hb
      subst ha; subst hb
      simp only [Bool.or_eq_true] at e
      rcases e with e | e <;> obtain ⟨c, rfl⟩ := const_isConst e <;> simp
    · cases e
    · rename_i h1 h2
      split
      · cases a <;> simp only [VR] at ha <;> first | (obtain ⟨_, _, ha⟩ := ha; cases ha; done) | (obtain ⟨_, ha, _⟩ := ha; cases ha; done) | (obtain ⟨_, _, ha, _⟩ := ha; cases ha; done) | (cases ha; done) | skip
        cases b <;> simp only [VR] at hb <;> first | (obtain ⟨_, _, hb⟩ := hb; cases hb; done) | (obtain ⟨_, hb, _⟩ := hb; cases hb; done) | (obtain ⟨_, _, hb, _⟩ := hb; cases hb; done) | (cases hb; done) | skip
        exact (h1 rfl rfl).elim
      · cases a <;> simp only [VR] at ha <;> first | (obtain ⟨_, _, ha⟩ := ha; cases ha; done) | (obtain ⟨_, ha, _⟩ := ha; cases ha; done) | (obtain ⟨_, _, ha, _⟩ := ha; cases ha; done) | (cases ha; done) | skip
        cases b <;> simp only [VR] at hb <;> first | (obtain ⟨_, _, hb⟩ := hb; cases hb; done) | (obtain ⟨_, hb, _⟩ := hb; cases hb; done) | (obtain ⟨_, _, hb, _⟩ := hb; cases hb; done) | (cases hb; done) | skip
        exact (h2 _ _ rfl rfl).elim
      · rfl
  rcases ho with rfl | rfl
  · exact key
  · exact key
theorem guard_sound {op : BinOp} {t : TypeId} {x y : Operand} {a b : AV} {u v : Value} (ha : VR μ a u) (hb : VR μ b v) (e : guardA op x y a b = true) :
    (eqGuard op t x y u v).run P w = .ok () w := by
  cases op <;> first | exact guard_main (.inl rfl) ha hb e | exact guard_main (.inr rfl) ha hb e | rfl
theorem bin_eql {t : TypeId} {d : TypeDesc} {a b : AV} {x y : Value} {r : Bool} (hx : VR μ a x) (hy : VR μ b y) (e : eqA P h d a b = some r)
    (hn1 : ∀ k m k' m', a = .int k m → b = .int k' m' → False) (hn2 : ∀ m n, a = .str m → b = .str n → False) :
    binOp .eql t x y = (do pure (.bool (← Op.equal t x y))) ∧ binOp .neq t x y = (do pure (.bool (!(← Op.equal t x y)))) := by
  unfold eqA at e
  split at e
  all_goals first | (cases e; done) | skip
  all_goals
    simp only [VR] at hx hy
    try (obtain ⟨p, hp, rfl⟩ := hx)
    try (obtain ⟨q, hq, rfl⟩ := hy)
    try (obtain ⟨f', rfl, _⟩ := hx)
    try (obtain ⟨f', rfl, _⟩ := hy)
    try (obtain ⟨f', c', rfl, _, _⟩ := hx)
    try (obtain ⟨f', c', rfl, _, _⟩ := hy)
    try subst hx
    try subst hy
    first
      | exact (hn1 _ _ _ _ rfl rfl).elim
      | exact (hn2 _ _ rfl rfl).elim
      | exact ⟨rfl, rfl⟩
theorem bin_sound (s : Sim w0 μ h w) {op : BinOp} {t : TypeId} {a b v : AV} {x y : Value} (hx : VR μ a x) (hy : VR μ b y) (e : binA P h t op a b = some v) :
    ∃ c, (binOp op t x y).run P w = .ok c w ∧ VR μ v c := by
  unfold binA at e
  split at e
  · rename_i k m k' m'
    simp only [VR] at hx hy
    subst hx; subst hy
    split at e
    · rename_i hk; subst hk
      split at e <;> first | (cases e; done) | skip
      all_goals first
        | (simp only [Option.some.injEq] at e; subst e; exact ⟨_, by simp [binOp, Op.intArith, Op.intCmp]; rfl, by simp [VR, wrapA]⟩)
        | (split at e
           · cases e
           · rename_i h0; simp only [Option.some.injEq] at e; subst e; exact ⟨_, by simp [binOp, Op.intDiv, h0]; rfl, by simp [VR, wrapA]⟩)
    · cases e
  · rename_i x y
    simp only [VR] at hx hy
    subst hx; subst hy
    split at e <;> first | (cases e; done) | skip
    all_goals first
      | (simp only [Option.some.injEq] at e; subst e; exact ⟨_, by simp only [binOp, Op.stringOp]; rfl, by simp [VR]⟩)
      | (split at e
         · cases e
         · rename_i h0; simp only [Option.some.injEq] at e; subst e; exact ⟨_, by simp only [binOp, Op.stringOp]; rw [if_neg h0]; rfl, by simp [VR]⟩)
  · rename_i hn1 hn2
    split at e
    · rename_i d hd
      cases hq : eqA P h d a b with
      | none => simp [hq] at e
      | some r =>
        simp [hq] at e; subst e
        exact ⟨.bool r, by rw [(bin_eql hx hy hq hn1 hn2).1]; simp [eq_sound s hd hx hy hq], by simp [VR]⟩
    · rename_i d hd
      cases hq : eqA P h d a b with
      | none => simp [hq] at e
      | some r =>
        simp [hq] at e; subst e
        exact ⟨.bool !r, by rw [(bin_eql hx hy hq hn1 hn2).2]; simp [eq_sound s hd hx hy hq], by simp [VR]⟩
    · cases e
theorem un_sound {op : UnOp} {a v : AV} {x : Value} (hx : VR μ a x) (e : unA op a = some v) : ∃ c, (Op.unary op x).run P w = .ok c w ∧ VR μ v c := by
  unfold unA at e
  split at e
  · simp only [VR] at hx; subst hx; simp only [Option.some.injEq] at e; subst e
    exact ⟨_, by simp [Op.unary, Op.intArith]; rfl, by simp [VR, wrapA]⟩
  · simp only [VR] at hx; subst hx; simp only [Option.some.injEq] at e; subst e
    exact ⟨_, by simp [Op.unary]; rfl, by simp [VR]⟩
  · cases e
theorem conv_sound {s t : TypeId} {a v : AV} {x : Value} (hx : VR μ a x) (e : convA P s t a = some v) : ∃ c, (convert s t x).run P w = .ok c w ∧ VR μ v c := by
  unfold convA at e
  split at e
  · rename_i d k _ n hs ht
    simp only [VR] at hx; subst hx; simp only [Option.some.injEq] at e; subst e
    exact ⟨_, by simp [convert, run_underlying hs, run_underlying ht, Conv.intToInt]; rfl, by simp [VR, wrapA]⟩
  · rename_i d n hs ht
    simp only [VR] at hx; subst hx; simp only [Option.some.injEq] at e; subst e
    exact ⟨_, by simp [convert, run_underlying hs, run_underlying ht]; rfl, by simp [VR]⟩
  · cases e
theorem natOf_sound {a : AV} {x : Value} {n : Nat} (hx : VR μ a x) (e : natOf a = some n) : ∃ k, x = .int k (n : Int) := by
  unfold natOf at e
  split at e
  · rename_i k m
    split at e
    · rename_i h0
      simp only [Option.some.injEq] at e
      simp only [VR] at hx; subst hx; subst e
      exact ⟨k, by rw [Int.toNat_of_nonneg h0]⟩
    · cases e
  · cases e
theorem run_sliceBound {k : IntKind} {n y : Nat} {code : BoundsCode} (hle : n ≤ y) : (Instr.sliceBound (.int k (n : Int)) y code).run P w = .ok n w := by
  unfold Instr.sliceBound
  simp only [asIntOf, Sem.run_bind, Sem.run_pure, Result.andThen_ok]
  rw [if_pos (by omega)]; simp
theorem run_bounds {isS : Bool} {len cap l hh : Nat} {lo hi : Option AV} {lo' hi' : Option Value} (hlo : ∀ a, lo = some a → ∃ x, lo' = some x ∧ VR μ a x) (hlo0 : lo = none → lo' = none)
    (hhi : ∀ a, hi = some a → ∃ x, hi' = some x ∧ VR μ a x) (hhi0 : hi = none → hi' = none)
    (e1 : natOr len hi = some hh) (e2 : natOr 0 lo = some l) (h1 : hh ≤ cap) (h2 : l ≤ hh) : (Instr.sliceBounds isS len cap lo' hi' none).run P w = .ok (l, hh, cap) w := by
  have H : (match hi' with | some v => Instr.sliceBound v cap (if isS then .sliceAcap else .sliceAlen) | none => (pure len : Sem Nat)).run P w = .ok hh w := by
    cases hi with
    | none => rw [hhi0 rfl]; simp only [natOr, Option.some.injEq] at e1; subst e1; rfl
    | some a =>
      obtain ⟨x, rfl, hx⟩ := hhi a rfl
      obtain ⟨k, rfl⟩ := natOf_sound hx e1
      exact run_sliceBound h1
  have L : (match lo' with | some v => Instr.sliceBound v hh .sliceB | none => (pure 0 : Sem Nat)).run P w = .ok l w := by
    cases lo with
    | none => rw [hlo0 rfl]; simp only [natOr, Option.some.injEq] at e2; subst e2; rfl
    | some a =>
      obtain ⟨x, rfl, hx⟩ := hlo a rfl
      obtain ⟨k, rfl⟩ := natOf_sound hx e2
      exact run_sliceBound h2
  unfold Instr.sliceBounds
  cases hi' <;> cases lo' <;> simp_all
end
end Go.Ax
end

section
namespace Go.Ax
section
variable {P : Program} {w0 w : World} {μ : Mu} {h : AH}
theorem slice_sound {t : TypeId} {a v : AV} {x : Value} {lo hi : Option AV} {lo' hi' : Option Value} (hx : VR μ a x)
    (hlo : ∀ a, lo = some a → ∃ x, lo' = some x ∧ VR μ a x) (hlo0 : lo = none → lo' = none) (hhi : ∀ a, hi = some a → ∃ x, hi' = some x ∧ VR μ a x) (hhi0 : hi = none → hi' = none)
    (e : sliceA P t a lo hi = some v) : ∃ c, (Instr.slice t x lo' hi' none).run P w = .ok c w ∧ VR μ v c := by
  unfold sliceA at e
  split at e
  · rename_i s hu
    simp only [VR] at hx; subst hx
    cases hh : natOr s.size hi with
    | none => simp [hh] at e
    | some hv =>
      cases hl : natOr 0 lo with
      | none => simp [hh, hl] at e
      | some lv =>
        simp only [hh, hl, Option.bind_some] at e
        split at e
        · rename_i hc
          simp only [Option.some.injEq] at e; subst e
          refine ⟨.string (s.extract lv hv), ?_, by simp [VR]⟩
          simp [Instr.slice, run_underlying hu, run_bounds hlo hlo0 hhi hhi0 hh hl hc.1 hc.2]
        · cases e
  · rename_i elem r o len cap hu
    simp only [VR] at hx; obtain ⟨p, hp, rfl⟩ := hx
    cases hn : size P elem with
    | none => simp [hn] at e
    | some n =>
      cases hh : natOr len hi with
      | none => simp [hn, hh] at e
      | some hv =>
        cases hl : natOr 0 lo with
        | none => simp [hn, hh, hl] at e
        | some lv =>
          simp only [hn, hh, hl, Option.bind_some] at e
          split at e
          · rename_i hc
            simp only [Option.some.injEq] at e; subst e
            have hb := run_bounds (P := P) (w := w) (isS := true) (cap := cap + p.x) hlo hlo0 hhi hhi0 hh hl (by omega) hc.2.1
            refine ⟨.slice (some ⟨p.b, p.o + (o + lv * n), none⟩) (hv - lv) (cap + p.x - lv), ?_, by simp only [VR]; exact ⟨p, hp, by congr 1; omega⟩⟩
            simp only [Instr.slice, Sem.run_bind, run_underlying hu, Result.andThen_ok, hb, run_sizeOf' hn, Sem.run_pure]
            congr 2
            by_cases hml : cap + p.x = lv
            · have : lv = 0 := by omega
              subst this; simp [addr_add]
            · rw [if_neg hml]; simp only [Option.map_some, addr_add]; congr 2; omega
          · cases e
  · rename_i elem hu
    simp only [VR] at hx; subst hx
    cases hn : size P elem with
    | none => simp [hn] at e
    | some n =>
      cases hh : natOr 0 hi with
      | none => simp [hn, hh] at e
      | some hv =>
        cases hl : natOr 0 lo with
        | none => simp [hn, hh, hl] at e
        | some lv =>
          simp only [hn, hh, hl, Option.bind_some] at e
          split at e
          · rename_i hc
            obtain ⟨rfl, rfl⟩ := hc
            simp only [Option.some.injEq] at e; subst e
            have hb := run_bounds (P := P) (w := w) (isS := true) (cap := 0) hlo hlo0 hhi hhi0 hh hl (by omega) (by omega)
            refine ⟨.slice none 0 0, ?_, by simp only [VR]⟩
            simp [Instr.slice, run_underlying hu, hb, run_sizeOf' hn]
          · cases e
  · cases e
theorem run_fieldPlace {f : Field} {n b o : Nat} (hn : size P f.type = some (n + 1)) : (fieldPlace ⟨b, o, none⟩ f).run P w = .ok ⟨b, o + f.offset, none⟩ w := by
  simp [fieldPlace, run_sizeOf' hn, addr_add]
theorem fieldAddr_sound {t : TypeId} {a v : AV} {x : Value} {i : Nat} (hx : VR μ a x) (e : fieldAddrA P t a i = some v) : ∃ c, (Instr.fieldAt t x i).run P w = .ok c w ∧ VR μ v c := by
  unfold fieldAddrA at e
  split at e
  · rename_i fields r o hu
    simp only [VR] at hx; obtain ⟨p, hp, rfl⟩ := hx
    split at e
    · rename_i f hf
      split at e
      · rename_i n hn
        simp only [Option.some.injEq] at e; subst e
        refine ⟨.pointer (some ⟨p.b, p.o + o + f.offset, none⟩), ?_, by simp only [VR]; exact ⟨p, hp, by congr 3; omega⟩⟩
        simp [Instr.fieldAt, run_underlying hu, hf, Instr.sureAddr, run_fieldPlace hn]
      · cases e
    · cases e
  · cases e
theorem field_sound {t : TypeId} {a v : AV} {x : Value} {i : Nat} (hx : VR μ a x) (e : fieldA P t a i = some v) : ∃ c, (Instr.field t x i).run P w = .ok c w ∧ VR μ v c := by
  unfold fieldA at e
  split at e
  · rename_i fields cs hu
    simp only [VR] at hx; obtain ⟨ds, rfl, hv⟩ := hx
    split at e
    · rename_i f hf
      obtain ⟨c, hr, hv'⟩ := part_sound (P := P) (w := w) hv e
      exact ⟨c, by simp [Instr.field, run_underlying hu, hf, asAgg, hr], hv'⟩
    · cases e
  · cases e
theorem indexAddr_sound {t : TypeId} {a b v : AV} {x y : Value} (hx : VR μ a x) (hy : VR μ b y) (e : indexAddrA P t a b = some v) : ∃ c, (Instr.indexAt t x y).run P w = .ok c w ∧ VR μ v c := by
  unfold indexAddrA at e
  split at e
  · rename_i elem r o len cap k n hu
    simp only [VR] at hx hy; obtain ⟨p, hp, rfl⟩ := hx; subst hy
    cases hs : size P elem with
    | none => simp [hs] at e
    | some s =>
      simp only [hs, Option.bind_some] at e
      split at e
      · rename_i hc
        simp only [Option.some.injEq] at e; subst e
        refine ⟨.pointer (some ⟨p.b, p.o + o + n.toNat * s, none⟩), ?_, by simp only [VR]; exact ⟨p, hp, by congr 3; omega⟩⟩
        simp [Instr.indexAt, asIntOf, run_underlying hu, hc.1, hc.2, run_sizeOf' hs, addr_add]
      · cases e
  · rename_i len elem r o k n hu
    simp only [VR] at hx hy; obtain ⟨p, hp, rfl⟩ := hx; subst hy
    cases hs : size P elem with
    | none => simp [hs] at e
    | some s =>
      simp only [hs, Option.bind_some] at e
      split at e
      · rename_i hc
        simp only [Option.some.injEq] at e; subst e
        refine ⟨.pointer (some ⟨p.b, p.o + o + n.toNat * s, none⟩), ?_, by simp only [VR]; exact ⟨p, hp, by congr 3; omega⟩⟩
        simp [Instr.indexAt, asIntOf, run_underlying hu, Instr.sureAddr, hc.1, hc.2, run_sizeOf' hs, addr_add]
      · cases e
  · cases e
theorem index_sound {t : TypeId} {a b v : AV} {x y : Value} (hx : VR μ a x) (hy : VR μ b y) (e : indexA P t a b = some v) : ∃ c, (Instr.index t x y).run P w = .ok c w ∧ VR μ v c := by
  unfold indexA at e
  split at e
  · rename_i s k n hu
    simp only [VR] at hx hy; subst hx; subst hy
    split at e
    · rename_i h0
      cases hb : s[n.toNat]? with
      | none => simp [hb] at e
      | some b =>
        simp [hb] at e; subst e
        exact ⟨.int .u8 b.toNat, by simp [Instr.index, asIntOf, run_underlying hu, h0, hb], by simp [VR]⟩
    · cases e
  · rename_i len elem cs k n hu
    simp only [VR] at hx hy; obtain ⟨ds, rfl, hv⟩ := hx; subst hy
    cases hs : size P elem with
    | none => simp [hs] at e
    | some s =>
      simp only [hs, Option.bind_some] at e
      split at e
      · rename_i hc
        obtain ⟨c, hr, hv'⟩ := part_sound (P := P) (w := w) hv e
        exact ⟨c, by simp [Instr.index, asIntOf, run_underlying hu, hc.1, hc.2, run_sizeOf' hs, hr], hv'⟩
      · cases e
  · cases e
theorem extr_sound {a v : AV} {x : Value} {i : Nat} (hx : VR μ a x) (e : extrA a i = some v) : ∃ c, (Instr.extract x i).run P w = .ok c w ∧ VR μ v c := by
  unfold extrA at e
  split at e
  · simp only [VR] at hx; obtain ⟨cs, rfl, hv⟩ := hx
    obtain ⟨c, hg, hr⟩ := hv.get e
    rw [Array.getElem?_toList] at hg
    exact ⟨c, by simp [Instr.extract, hg], hr⟩
  · cases e
theorem VR.pair {a b : AV} {x y : Value} (ha : VR μ a x) (hb : VR μ b y) : VR μ (.tup [a, b]) (.tuple #[x, y]) := by
  simp only [VR]; exact ⟨#[x, y], rfl, .cons ha (.one hb)⟩
theorem typeAssert_sound {t u : TypeId} {a v : AV} {x : Value} {ok : Bool} (hx : VR μ a x) (e : typeAssertA P a t ok = some v) : ∃ c, (Instr.typeAssert x u t ok).run P w = .ok c w ∧ VR μ v c := by
  unfold typeAssertA at e
  split at e
  · cases e
  · cases e
  · rename_i d hne hu
    have hd : ∀ ms, d ≠ .interface ms := fun ms hh => hne ms hh
    split at e
    · simp only [VR] at hx; subst hx
      split at e
      · rename_i hok; subst hok
        cases hz : zero P t with
        | none => simp [hz] at e
        | some z =>
          simp [hz] at e; subst e
          obtain ⟨c, hr, hv⟩ := run_zeroValue' (w := w) (μ := μ) hz
          refine ⟨.tuple #[c, .bool false], ?_, hv.pair (by simp [VR])⟩
          simp only [Instr.typeAssert, Sem.run_bind, run_underlying hu, Result.andThen_ok]
          cases d <;> first | exact absurd rfl (hd _) | simp [hr]
      · cases e
    · rename_i t' y
      simp only [VR] at hx; obtain ⟨x', rfl, hv⟩ := hx
      split at e
      · rename_i htt; subst htt
        simp only [Option.some.injEq] at e; subst e
        cases ok with
        | true =>
          refine ⟨.tuple #[x', .bool true], ?_, hv.pair (by simp [VR])⟩
          simp only [Instr.typeAssert, Sem.run_bind, run_underlying hu, Result.andThen_ok]
          cases d <;> first | exact absurd rfl (hd _) | simp
        | false =>
          refine ⟨x', ?_, hv⟩
          simp only [Instr.typeAssert, Sem.run_bind, run_underlying hu, Result.andThen_ok]
          cases d <;> first | exact absurd rfl (hd _) | simp
      · rename_i htt
        split at e
        · rename_i hok; subst hok
          cases hz : zero P t with
          | none => simp [hz] at e
          | some z =>
            simp [hz] at e; subst e
            obtain ⟨c, hr, hv⟩ := run_zeroValue' (w := w) (μ := μ) hz
            refine ⟨.tuple #[c, .bool false], ?_, hv.pair (by simp [VR])⟩
            simp only [Instr.typeAssert, Sem.run_bind, run_underlying hu, Result.andThen_ok]
            cases d <;> first | exact absurd rfl (hd _) | simp [hr, htt]
        · cases e
    · cases e
end
end Go.Ax
end

section
namespace Go.Ax
section
variable {P : Program} {w0 w : World} {μ : Mu} {h : AH}
theorem bytes_eq {a b : ByteArray} (h : (a == b) = true) : a = b := by
  obtain ⟨x⟩ := a; obtain ⟨y⟩ := b
  have e : x = y := by simpa using (show (x == y) = true from h)
  rw [e]
def nowOf : TypeDesc → Bool
  | .int _ | .string => true
  | _ => false
structure EqC (P : Program) (w : World) (kt : TypeId) (d : TypeDesc) (kc : Value) (m : MapEntry) (b : Bool) : Prop where
  eq : (Op.equal kt kc m.key).run P w = .ok b w
  now : nowOf d = true → Instr.sameNow d kc m.key = some b
  later : nowOf d = false → Instr.sameNow d kc m.key = none
  same : b = true → m.key = kc
theorem EqC.unique {kt : TypeId} {d : TypeDesc} {kc : Value} {m : MapEntry} {a b : Bool} (x : EqC P w kt d kc m a) (y : EqC P w kt d kc m b) : a = b := by
  have := x.eq.symm.trans y.eq
  injection this
theorem eqC_of (s : Sim w0 μ h w) {kt : TypeId} {d : TypeDesc} {k a : AV} {kc : Value} {m : MapEntry} {b : Bool} (hd : P.underlying kt = some d) (hk : keyA d k = true) (hkc : VR μ k kc) (ha : VR μ a m.key)
    (e : eqA P h d k a = some b) : EqC P w kt d kc m b := by
  have heq := eq_sound s hd hkc ha e
  unfold keyA at hk
  split at hk <;> first | (cases hk; done) | skip
  · simp only [VR] at hkc; subst hkc
    cases a <;> simp only [eqA, reduceCtorEq] at e
    simp only [VR] at ha
    split at e
    · rename_i hkk; subst hkk; simp only [Option.some.injEq] at e
      refine ⟨heq, fun _ => ?_, (fun hn => by cases hn), fun hb => ?_⟩
      · rw [ha]; simp [Instr.sameNow, e]
      · subst hb; simp at e; rw [ha, e]
    · cases e
  · simp only [VR] at hkc; subst hkc
    cases a <;> simp only [eqA, reduceCtorEq] at e
    simp only [VR] at ha
    simp only [Option.some.injEq] at e
    refine ⟨heq, fun _ => ?_, (fun hn => by cases hn), fun hb => ?_⟩
    · rw [ha]; simp [Instr.sameNow, e]
    · subst hb; rw [ha, bytes_eq e]
  · simp only [VR] at hkc; obtain ⟨p, hp, rfl⟩ := hkc
    refine ⟨heq, (fun hn => by cases hn), (fun _ => by simp [Instr.sameNow]), fun hb => ?_⟩
    subst hb
    unfold eqA at e
    split at e <;> first | (cases e; done) | (rename_i h1 h2; cases h2; done) | skip
    rename_i h1 h2
    cases h1; cases h2
    simp only [VR] at ha; obtain ⟨q, hq, ha⟩ := ha
    split at e
    · split at e
      · rename_i hrr; subst hrr; simp at e; subst e
        rw [hp] at hq; cases hq; exact ha
      · split at e <;> simp at e
    · cases e
theorem findNow_run {d : TypeDesc} {kt : TypeId} {kc : Value} (hn : nowOf d = true) : ∀ (L : List MapEntry) (i : Nat), (∀ m ∈ L, ∃ b, EqC P w kt d kc m b) →
    ∃ r, Instr.findNow d kc L i = some r ∧ (r = none → ∀ m ∈ L, EqC P w kt d kc m false) ∧ (∀ j v, r = some (j, v) → i ≤ j ∧ ∃ m, L[j - i]? = some m ∧ m.val = v ∧ EqC P w kt d kc m true)
  | [], _, _ => ⟨none, rfl, fun _ m hm => by simp at hm, fun _ _ e => by cases e⟩
  | m :: L, i, hall => by
    obtain ⟨b, hb⟩ := hall m (by simp)
    cases b with
    | true =>
      refine ⟨some (i, m.val), by simp [Instr.findNow, hb.now hn], (fun e => by cases e), fun j v e => ?_⟩
      cases e; exact ⟨Nat.le_refl _, m, by simp, rfl, hb⟩
    | false =>
      obtain ⟨r, hr, h0, h1⟩ := findNow_run hn L (i + 1) (fun x hx => hall x (by simp [hx]))
      refine ⟨r, by simp [Instr.findNow, hb.now hn, hr], fun e x hx => ?_, fun j v e => ?_⟩
      · rcases List.mem_cons.1 hx with rfl | hx
        · exact hb
        · exact h0 e x hx
      · obtain ⟨hle, x, hx, hv, hq⟩ := h1 j v e
        refine ⟨by omega, x, ?_, hv, hq⟩
        rw [show j - i = (j - (i + 1)) + 1 from by omega, List.getElem?_cons_succ]; exact hx
theorem findAsking_run {d : TypeDesc} {kt : TypeId} {kc : Value} : ∀ (L : List MapEntry) (i : Nat), (∀ m ∈ L, ∃ b, EqC P w kt d kc m b) →
    ∃ r, (Instr.findAsking kt kc L i).run P w = .ok r w ∧ (r = none → ∀ m ∈ L, EqC P w kt d kc m false) ∧ (∀ j v, r = some (j, v) → i ≤ j ∧ ∃ m, L[j - i]? = some m ∧ m.val = v ∧ EqC P w kt d kc m true)
  | [], _, _ => ⟨none, rfl, fun _ m hm => by simp at hm, fun _ _ e => by cases e⟩
  | m :: L, i, hall => by
    obtain ⟨b, hb⟩ := hall m (by simp)
    cases b with
    | true =>
      refine ⟨some (i, m.val), by simp [Instr.findAsking, hb.eq], (fun e => by cases e), fun j v e => ?_⟩
      cases e; exact ⟨Nat.le_refl _, m, by simp, rfl, hb⟩
    | false =>
      obtain ⟨r, hr, h0, h1⟩ := findAsking_run L (i + 1) (fun x hx => hall x (by simp [hx]))
      refine ⟨r, by simp [Instr.findAsking, hb.eq, hr], fun e x hx => ?_, fun j v e => ?_⟩
      · rcases List.mem_cons.1 hx with rfl | hx
        · exact hb
        · exact h0 e x hx
      · obtain ⟨hle, x, hx, hv, hq⟩ := h1 j v e
        refine ⟨by omega, x, ?_, hv, hq⟩
        rw [show j - i = (j - (i + 1)) + 1 from by omega, List.getElem?_cons_succ]; exact hx
theorem findKey_run {d : TypeDesc} {kt : TypeId} {kc : Value} (hd : P.underlying kt = some d) (L : List MapEntry) (hall : ∀ m ∈ L, ∃ b, EqC P w kt d kc m b) :
    ∃ r, (Instr.findKey kt kc L).run P w = .ok r w ∧ (r = none → ∀ m ∈ L, EqC P w kt d kc m false) ∧ (∀ j v, r = some (j, v) → ∃ m, L[j]? = some m ∧ m.val = v ∧ EqC P w kt d kc m true) := by
  cases hn : nowOf d with
  | true =>
    obtain ⟨r, hr, h0, h1⟩ := findNow_run (P := P) (w := w) (kt := kt) hn L 0 hall
    refine ⟨r, by simp [Instr.findKey, run_underlying hd, hr], h0, fun j v e => ?_⟩
    obtain ⟨_, m, a, b, c⟩ := h1 j v e; exact ⟨m, by simpa using a, b, c⟩
  | false =>
    cases L with
    | nil => exact ⟨none, by simp [Instr.findKey, run_underlying hd, Instr.findNow], fun _ m hm => by simp at hm, fun _ _ e => by cases e⟩
    | cons m L =>
      obtain ⟨b, hb⟩ := hall m (by simp)
      obtain ⟨r, hr, h0, h1⟩ := findAsking_run (m :: L) 0 hall
      refine ⟨r, by simp [Instr.findKey, run_underlying hd, Instr.findNow, hb.later hn, hr], h0, fun j v e => ?_⟩
      obtain ⟨_, m, a, b, c⟩ := h1 j v e; exact ⟨m, by simpa using a, b, c⟩
theorem hits_of (s : Sim w0 μ h w) {kt : TypeId} {d : TypeDesc} {k : AV} {kc : Value} (hd : P.underlying kt = some d) (hk : keyA d k = true) (hkc : VR μ k kc) :
    ∀ (es : List (AV × AV)) (l : List MapEntry) (bs : List Bool), ERs μ es l → hitsA P h d k es = some bs →
      ∀ m ∈ l, ∃ a b, EqC P w kt d kc m b ∧ VR μ a m.val ∧ (b = true → a ∈ hitOf es bs)
  | [], _, _, he, _ => by cases he; intro m hm; simp at hm
  | x :: es, _, bs, he, e => by
    obtain ⟨m, l, rfl, h1, h2, hr⟩ := he
    simp only [hitsA] at e
    cases hb : eqA P h d k x.1 with
    | none => simp [hb] at e
    | some b =>
      cases hl : hitsA P h d k es with
      | none => simp [hb, hl] at e
      | some bs' =>
        simp [hb, hl] at e; subst e
        intro y hy
        rcases List.mem_cons.1 hy with rfl | hy
        · exact ⟨x.2, b, eqC_of s hd hk hkc h1 hb, h2, fun hbt => by subst hbt; simp [hitOf]⟩
        · obtain ⟨a, c, h3, h4, h5⟩ := hits_of s hd hk hkc es l bs' hr hl y hy
          exact ⟨a, c, h3, h4, fun hc => by have := h5 hc; simp only [hitOf]; split <;> simp [this]⟩
theorem hit_of (s : Sim w0 μ h w) {kt : TypeId} {d : TypeDesc} {k : AV} {kc : Value} (hd : P.underlying kt = some d) (hk : keyA d k = true) (hkc : VR μ k kc) :
    ∀ (es : List (AV × AV)) (l : List MapEntry) (bs : List Bool), ERs μ es l → hitsA P h d k es = some bs → hitOf es bs ≠ [] → ∃ m ∈ l, EqC P w kt d kc m true
  | [], _, bs, _, _, hne => by cases bs <;> simp [hitOf] at hne
  | x :: es, _, bs, he, e, hne => by
    obtain ⟨m, l, rfl, h1, h2, hr⟩ := he
    simp only [hitsA] at e
    cases hb : eqA P h d k x.1 with
    | none => simp [hb] at e
    | some b =>
      cases hl : hitsA P h d k es with
      | none => simp [hb, hl] at e
      | some bs' =>
        simp [hb, hl] at e; subst e
        cases b with
        | true => exact ⟨m, by simp, eqC_of s hd hk hkc h1 hb⟩
        | false =>
          simp only [hitOf] at hne
          obtain ⟨y, hy, hq⟩ := hit_of s hd hk hkc es l bs' hr hl (by simpa using hne)
          exact ⟨y, by simp [hy], hq⟩
theorem run_checkKey' {kt : TypeId} {d : TypeDesc} {k : AV} {kc : Value} {em : Bool} {n : Nat} (hd : P.underlying kt = some d) (hk : keyA d k = true) (hkc : VR μ k kc) :
    (Instr.checkKey em (n + 1) kt kc).run P w = .ok () w := by
  unfold keyA at hk
  split at hk <;> first | (cases hk; done) | skip
  all_goals
    simp only [VR] at hkc
    first | subst hkc | obtain ⟨p, hp, rfl⟩ := hkc
    simp [Instr.checkKey, run_underlying hd]
theorem run_getMap {w : World} {b : Nat} {E : Array MapEntry} {clk : Nat} (hb : w.heap[b]? = some (.map E clk)) : (getObj b).run P w = .ok (.map E clk) w := by
  simp [getObj, Sem.run, hb]
theorem lookFin_sound {elem : TypeId} {ok : Bool} {r : Option AV} {v : AV} {x : Option Value} (hx : ∀ a, r = some a → ∃ c, x = some c ∧ VR μ a c) (hn : r = none → x = none) (e : lookFin P elem ok r = some v) :
    ∃ c, (do let (v, b) ← (match x with | some v => pure (v, true) | none => do pure (← zeroValue elem, false) : Sem (Value × Bool)); pure (if ok then .tuple #[v, .bool b] else v) : Sem Value).run P w = .ok c w ∧ VR μ v c := by
  cases r with
  | some a =>
    obtain ⟨c, rfl, hc⟩ := hx a rfl
    simp only [lookFin, Option.some.injEq] at e; subst e
    cases ok with
    | true => exact ⟨.tuple #[c, .bool true], by simp, hc.pair (by simp [VR])⟩
    | false => exact ⟨c, by simp, hc⟩
  | none =>
    rw [hn rfl]
    simp only [lookFin] at e
    cases hz : zero P elem with
    | none => simp [hz] at e
    | some z =>
      simp [hz] at e; subst e
      obtain ⟨c, hr, hv⟩ := run_zeroValue' (w := w) (μ := μ) hz
      cases ok with
      | true => exact ⟨.tuple #[c, .bool false], by simp [hr], hv.pair (by simp [VR])⟩
      | false => exact ⟨c, by simp [hr], hv⟩
end
end Go.Ax
end

section
namespace Go.Ax
section
variable {P : Program} {w0 w : World} {μ : Mu} {h : AH}
theorem look_find (s : Sim w0 μ h w) {kt : TypeId} {d : TypeDesc} {k : AV} {kc : Value} {es : List (AV × AV)} {E : Array MapEntry} {l : List MapEntry} {r : Option AV}
    (hd : P.underlying kt = some d) (hk : keyA d k = true) (hkc : VR μ k kc) (hp : l.Perm E.toList) (he : ERs μ es l) (e : findA P h d k es = some r) :
    ∃ x, (Instr.findKey kt kc E.toList).run P w = .ok x w ∧ (∀ a, r = some a → ∃ i c, x = some (i, c) ∧ VR μ a c) ∧ (r = none → x = none) := by
  unfold findA at e
  cases hb : hitsA P h d k es with
  | none => simp [hb] at e
  | some bs =>
    simp only [hb, Option.bind_some] at e
    have all := hits_of s hd hk hkc es l bs he hb
    obtain ⟨x, hx, h0, h1⟩ := findKey_run (P := P) (w := w) (kc := kc) hd E.toList (fun m hm => by
      obtain ⟨a, b, h2, _⟩ := all m (hp.mem_iff.2 hm); exact ⟨b, h2⟩)
    refine ⟨x, hx, ?_, ?_⟩
    · intro a ha; subst ha
      cases hh : hitOf es bs with
      | nil => simp [hh] at e
      | cons v t =>
        cases t with
        | cons _ _ => simp [hh] at e
        | nil =>
          simp [hh] at e; subst e
          cases x with
          | none =>
            obtain ⟨m, hm, hq⟩ := hit_of s hd hk hkc es l bs he hb (by simp [hh])
            have := (h0 rfl m (hp.mem_iff.1 hm)).unique hq; cases this
          | some y =>
            obtain ⟨i, c⟩ := y
            obtain ⟨m, hm, hv, hq⟩ := h1 i c rfl
            obtain ⟨a, b, h2, h3, h4⟩ := all m (hp.mem_iff.2 (List.mem_of_getElem? hm))
            have hbt := h2.unique hq; subst hbt
            have := h4 rfl; rw [hh] at this; simp at this; subst this
            exact ⟨i, c, rfl, hv ▸ h3⟩
    · intro hr; subst hr
      cases hh : hitOf es bs with
      | cons v t => cases t <;> simp [hh] at e
      | nil =>
        cases x with
        | none => rfl
        | some y =>
          obtain ⟨i, c⟩ := y
          obtain ⟨m, hm, hv, hq⟩ := h1 i c rfl
          obtain ⟨a, b, h2, h3, h4⟩ := all m (hp.mem_iff.2 (List.mem_of_getElem? hm))
          have hbt := h2.unique hq; subst hbt
          have := h4 rfl; rw [hh] at this; simp at this
theorem lookup_sound (s : Sim w0 μ h w) {t : TypeId} {a k v : AV} {x kc : Value} {ok : Bool} (hx : VR μ a x) (hkc : VR μ k kc) (e : lookupA P h t a k ok = some v) :
    ∃ c, (Instr.lookup t x kc ok).run P w = .ok c w ∧ VR μ v c := by
  unfold lookupA at e
  split at e
  · rename_i kt elem hu
    split at e
    · rename_i d hd
      split at e
      · rename_i hk
        split at e
        · simp only [VR] at hx; subst hx
          obtain ⟨c, hr, hv⟩ := lookFin_sound (P := P) (w := w) (μ := μ) (x := none) (fun a ha => by cases ha) (fun _ => rfl) e
          refine ⟨c, ?_, hv⟩
          have hf : (Instr.findKey kt kc []).run P w = .ok none w := by
            obtain ⟨x, hx, _, h1⟩ := findKey_run (P := P) (w := w) (kc := kc) hd [] (fun m hm => by simp at hm)
            cases x with
            | none => exact hx
            | some y => obtain ⟨m, hm, _⟩ := h1 y.1 y.2 rfl; simp at hm
          simp only [Instr.lookup, Sem.run_bind, run_underlying hu, Result.andThen_ok, Sem.run_pure, run_checkKey' (n := 9999) hd hk hkc, hf]
          simpa using hr
        · rename_i r
          split at e
          · rename_i es hrow
            simp only [VR] at hx; obtain ⟨p, hp, rfl⟩ := hx
            obtain ⟨E, clk, l, hE, hperm, hers⟩ := s.rows r p _ hp hrow
            cases hf : findA P h d k es with
            | none => simp [hf] at e
            | some q =>
              simp only [hf, Option.bind_some] at e
              obtain ⟨y, hy, hy1, hy0⟩ := look_find s hd hk hkc hperm hers hf
              obtain ⟨c, hr, hv⟩ := lookFin_sound (P := P) (w := w) (μ := μ) (x := y.map (·.2)) (fun a ha => by
                obtain ⟨i, c, hc, hcv⟩ := hy1 a ha; exact ⟨c, by simp [hc], hcv⟩) (fun hn => by rw [hy0 hn]; rfl) e
              refine ⟨c, ?_, hv⟩
              simp only [Instr.lookup, Sem.run_bind, run_underlying hu, Result.andThen_ok, Sem.run_pure, run_getMap hE, run_checkKey' (n := 9999) hd hk hkc, hy]
              cases y <;> simpa using hr
          · cases e
        · cases e
      · cases e
    · cases e
  · cases e
theorem ERs.length : ∀ {es : List (AV × AV)} {l : List MapEntry}, ERs μ es l → es.length = l.length
  | [], _, e => by cases e; rfl
  | _ :: es, _, ⟨m, l, e, _, _, r⟩ => by subst e; simp [ERs.length r]
theorem len_sound (s : Sim w0 μ h w) {t ty : TypeId} {a v : AV} {x : Value} (hx : VR μ a x) (e : lenA P h t a = some v) : ∃ c, (Builtin.len_ #[t] ty #[x]).run P w = .ok c w ∧ VR μ v c := by
  unfold lenA at e
  split at e
  · rename_i s hu
    simp only [VR] at hx; subst hx; simp only [Option.some.injEq] at e; subst e
    exact ⟨_, by simp [Builtin.len_, run_underlying hu]; rfl, by simp [VR, goInt]⟩
  · rename_i el r o n cap hu
    simp only [VR] at hx; obtain ⟨p, hp, rfl⟩ := hx; simp only [Option.some.injEq] at e; subst e
    exact ⟨_, by simp [Builtin.len_, run_underlying hu]; rfl, by simp [VR, goInt]⟩
  · rename_i el hu
    simp only [VR] at hx; subst hx; simp only [Option.some.injEq] at e; subst e
    exact ⟨_, by simp [Builtin.len_, run_underlying hu]; rfl, by simp [VR, goInt]⟩
  · rename_i k el hu
    simp only [VR] at hx; subst hx; simp only [Option.some.injEq] at e; subst e
    exact ⟨_, by simp [Builtin.len_, run_underlying hu]; rfl, by simp [VR, goInt]⟩
  · rename_i k el r hu
    simp only [VR] at hx; obtain ⟨p, hp, rfl⟩ := hx
    split at e
    · rename_i es hrow
      simp only [Option.some.injEq] at e; subst e
      obtain ⟨E, clk, l, hE, hperm, hers⟩ := s.rows r p _ hp hrow
      refine ⟨_, by simp [Builtin.len_, run_underlying hu, run_getMap hE]; rfl, ?_⟩
      have h1 := hers.length
      have h2 := hperm.length_eq
      simp only [VR, goInt]
      rw [h1, h2]; simp
    · cases e
  · cases e
theorem run_nilCheck_ptr {o : Oper} {ρ : Operand → Value} {x : Operand} (ho : o.op = .nilCheck x) {a : Addr} (hx : ρ x = .pointer (some a)) : (execOp ρ o).run P w = .ok (.value (.pointer (some a))) w := by
  unfold execOp; rw [ho]; simp [hx]
theorem calm_sound (s : Sim w0 μ h w) {T : AT} {o : Oper} {ρ : Operand → Value} {v : AV} (he : ∀ x ∈ o.op.operands.toList, Known μ T ρ x) (e : calmA P T h o.op = some v) :
    ∃ c, (execOp ρ o).run P w = .ok (.value c) w ∧ VR μ v c := by
  unfold execOp
  generalize o.op = op at *
  unfold calmA at e
  split at e
  · -- move
    rename_i x
    exact ⟨ρ x, rfl, he x (by simp [Op.operands]) v e⟩
  · rename_i x
    exact ⟨ρ x, rfl, he x (by simp [Op.operands]) v e⟩
  · -- pick
    rename_i c a b
    split at e
    · rename_i t hc
      have hcv := he c (by simp [Op.operands]) _ hc
      simp only [VR] at hcv
      cases t with
      | true => exact ⟨ρ a, by simp [hcv, asBool], he a (by simp [Op.operands]) v (by simpa using e)⟩
      | false => exact ⟨ρ b, by simp [hcv, asBool], he b (by simp [Op.operands]) v (by simpa using e)⟩
    · cases e
  · -- build
    rename_i t parts
    cases hp : partsA T parts.toList with
    | none => simp [hp] at e
    | some ps =>
      simp only [hp, Option.bind_some] at e
      have hprs := partsA_PRs (μ := μ) (ρ := ρ) parts.toList ps (fun x hx => he x.2 (by simp [Op.operands]; exact ⟨x.1, by simpa using hx⟩)) hp
      obtain ⟨c, hr, hv⟩ := build_sound (P := P) (w := w) (qs := parts.map fun x => (x.1, ρ x.2)) (by simpa using hprs) e
      exact ⟨c, by simp [hr], hv⟩
  · -- load
    rename_i t a
    split at e
    · rename_i r o' ha
      have hav := he a (by simp [Op.operands]) _ ha
      simp only [VR] at hav; obtain ⟨p, hp, hav⟩ := hav
      obtain ⟨c, hr, hv⟩ := s.load (P := P) hp e
      exact ⟨c, by simp [hav, Instr.loadAt, Instr.sureAddr, hr], hv⟩
    · cases e
  · -- nilCheck
    rename_i x
    split at e
    · rename_i r o' hx
      have hv := he x (by simp [Op.operands]) _ hx
      cases e
      refine ⟨ρ x, ?_, hv⟩
      simp only [VR] at hv; obtain ⟨p, hp, hv⟩ := hv
      simp [hv]
    · rename_i f a b hx
      have hv := he x (by simp [Op.operands]) _ hx
      cases e
      refine ⟨ρ x, ?_, hv⟩
      simp only [VR] at hv; obtain ⟨_, _, hv, _⟩ := hv
      simp [hv]
    · rename_i t v hx
      have hv := he x (by simp [Op.operands]) _ hx
      cases e
      refine ⟨ρ x, ?_, hv⟩
      simp only [VR] at hv; obtain ⟨_, hv, _⟩ := hv
      simp [hv]
    · cases e
  · -- binOp
    rename_i op t x y ty
    split at e
    · rename_i a b ha hb
      split at e
      · rename_i hg
        have hav := he x (by simp [Op.operands]) _ ha
        have hbv := he y (by simp [Op.operands]) _ hb
        obtain ⟨c, hr, hv⟩ := bin_sound s hav hbv e
        exact ⟨c, by simp [guard_sound hav hbv hg, hr], hv⟩
      · cases e
    · cases e
  · -- unOp
    rename_i op t x
    cases hx : opd T x with
    | none => simp [hx] at e
    | some a =>
      simp only [hx, Option.bind_some] at e
      obtain ⟨c, hr, hv⟩ := un_sound (P := P) (w := w) (he x (by simp [Op.operands]) _ hx) e
      exact ⟨c, by simp [hr], hv⟩
  · -- convert
    rename_i sr t x
    cases hx : opd T x with
    | none => simp [hx] at e
    | some a =>
      simp only [hx, Option.bind_some] at e
      obtain ⟨c, hr, hv⟩ := conv_sound (P := P) (w := w) (he x (by simp [Op.operands]) _ hx) e
      exact ⟨c, by simp [hr], hv⟩
  · -- makeInterface
    rename_i t x
    split at e
    · cases e
    · rename_i d hne hu
      cases hx : opd T x with
      | none => simp [hx] at e
      | some a =>
        simp [hx] at e; subst e
        have hv := he x (by simp [Op.operands]) _ hx
        refine ⟨.iface t (ρ x), ?_, by simp only [VR]; exact ⟨_, rfl, hv⟩⟩
        simp only [Instr.makeInterface, Sem.run_bind, run_underlying hu, Result.andThen_ok]
        cases d <;> first | exact absurd rfl (hne _) | simp
    · cases e
  · -- makeFunc
    rename_i fn first cap
    split at e
    · rename_i f c hf hc
      cases e
      have h1 := opds_VRs (μ := μ) (ρ := ρ) first.toList f (fun x hx => he x (by simp [Op.operands]; left; simpa using hx)) hf
      have h2 := opds_VRs (μ := μ) (ρ := ρ) cap.toList c (fun x hx => he x (by simp [Op.operands]; right; simpa using hx)) hc
      exact ⟨.func fn (first.map ρ) (cap.map ρ), by simp [Instr.makeFunc], by simp only [VR]; exact ⟨_, _, rfl, by simpa using h1, by simpa using h2⟩⟩
    · cases e
  · -- slice
    rename_i t x lo hi
    split at e
    · rename_i xv lov hiv hx hlo hhi
      have hxv := he x (by simp [Op.operands]) _ hx
      have opt : ∀ (y : Option Operand) (yv : Option AV), (∀ z, y = some z → Known μ T ρ z) → opdo T y = some yv → (∀ a, yv = some a → ∃ c, y.map ρ = some c ∧ VR μ a c) ∧ (yv = none → y.map ρ = none) := by
        intro y yv hk hy
        cases y with
        | none => simp only [opdo, Option.some.injEq] at hy; subst hy; exact ⟨(fun a ha => by cases ha), fun _ => rfl⟩
        | some z =>
          simp only [opdo] at hy
          cases hz : opd T z with
          | none => simp [hz] at hy
          | some a => simp [hz] at hy; subst hy; exact ⟨(fun b hb => by cases hb; exact ⟨ρ z, rfl, hk z rfl a hz⟩), (fun hn => by cases hn)⟩
      obtain ⟨l1, l0⟩ := opt lo lov (fun z hz => he z (by subst hz; simp [Op.operands])) hlo
      obtain ⟨h1, h0⟩ := opt hi hiv (fun z hz => he z (by subst hz; simp [Op.operands])) hhi
      split at e
      · cases e
      · rename_i hna
        obtain ⟨c, hr, hv⟩ := slice_sound (P := P) (w := w) (t := t) hxv l1 l0 h1 h0 e
        refine ⟨c, ?_, hv⟩
        have hu : ∃ d, P.underlying t = some d ∧ ∀ n el, d ≠ .array n el := by
          unfold sliceA at e
          cases hd : P.underlying t with
          | none => simp [hd] at e
          | some d => exact ⟨d, rfl, fun n el hh => hna n el (by rw [hd, hh])⟩
        obtain ⟨d, hd, hda⟩ := hu
        have hat : (Instr.sliceAt t (ρ x) (lo.map ρ) (hi.map ρ) none).run P w = .ok c w := by
          simp only [Instr.sliceAt, Sem.run_bind, run_underlying hd, Result.andThen_ok]
          cases d <;> first | exact absurd rfl (hda _ _) | exact hr
        simp [hat]
    · cases e
  · -- fieldAddr
    rename_i t x f
    cases hx : opd T x with
    | none => simp [hx] at e
    | some a =>
      simp only [hx, Option.bind_some] at e
      obtain ⟨c, hr, hv⟩ := fieldAddr_sound (P := P) (w := w) (he x (by simp [Op.operands]) _ hx) e
      exact ⟨c, by simp [hr], hv⟩
  · -- field
    rename_i t x f
    cases hx : opd T x with
    | none => simp [hx] at e
    | some a =>
      simp only [hx, Option.bind_some] at e
      obtain ⟨c, hr, hv⟩ := field_sound (P := P) (w := w) (he x (by simp [Op.operands]) _ hx) e
      exact ⟨c, by simp [hr], hv⟩
  · -- indexAddr
    rename_i t x i
    split at e
    · rename_i a b ha hb
      obtain ⟨c, hr, hv⟩ := indexAddr_sound (P := P) (w := w) (he x (by simp [Op.operands]) _ ha) (he i (by simp [Op.operands]) _ hb) e
      exact ⟨c, by simp [hr], hv⟩
    · cases e
  · -- index
    rename_i t x i
    split at e
    · rename_i a b ha hb
      obtain ⟨c, hr, hv⟩ := index_sound (P := P) (w := w) (he x (by simp [Op.operands]) _ ha) (he i (by simp [Op.operands]) _ hb) e
      exact ⟨c, by simp [hr], hv⟩
    · cases e
  · -- lookup
    rename_i t x i ok
    split at e
    · rename_i a b ha hb
      obtain ⟨c, hr, hv⟩ := lookup_sound s (he x (by simp [Op.operands]) _ ha) (he i (by simp [Op.operands]) _ hb) e
      exact ⟨c, by simp [hr], hv⟩
    · cases e
  · -- typeAssert
    rename_i x u t ok
    cases hx : opd T x with
    | none => simp [hx] at e
    | some a =>
      simp only [hx, Option.bind_some] at e
      obtain ⟨c, hr, hv⟩ := typeAssert_sound (P := P) (w := w) (u := u) (he x (by simp [Op.operands]) _ hx) e
      exact ⟨c, by simp [hr], hv⟩
  · -- extract
    rename_i x i
    cases hx : opd T x with
    | none => simp [hx] at e
    | some a =>
      simp only [hx, Option.bind_some] at e
      obtain ⟨c, hr, hv⟩ := extr_sound (P := P) (w := w) (he x (by simp [Op.operands]) _ hx) e
      exact ⟨c, by simp [hr], hv⟩
  · -- len
    rename_i x t
    cases hx : opd T x with
    | none => simp [hx] at e
    | some a =>
      simp only [hx, Option.bind_some] at e
      obtain ⟨c, hr, hv⟩ := len_sound s (ty := o.type) (he x (by simp [Op.operands, Call.operands]) _ hx) e
      exact ⟨c, by simp [resolve, invoke, builtin, hr], hv⟩
  · -- next
    rename_i it
    split at e
    · rename_i r hit
      split at e
      · rename_i hrow
        cases e
        have hv := he it (by simp [Op.operands]) _ hit
        simp only [VR] at hv; obtain ⟨p, hp, hv⟩ := hv
        obtain ⟨h0, hb⟩ := s.rows r p _ hp hrow
        refine ⟨.tuple #[.bool false], ?_, by simp only [VR]; exact ⟨_, rfl, .one (by simp [VR])⟩⟩
        simp [hv, h0, Instr.next, getObj, Sem.run, hb]
      · cases e
    · cases e
  · cases e
end
end Go.Ax
end

section
namespace Go.Ax
section
variable {P : Program} {w0 w : World} {μ : Mu} {h : AH}
theorem rowOk_new {sz : Nat} {cs : List AV} {C : Array Value} {T : TypeId} {r : Nat} (hr : μ r = none) (hv : VRs μ cs C.toList) :
    RowOk (upd μ r ⟨w.heap.size, 0, 0⟩) (.cells sz true false [] cs) ⟨w.heap.size, 0, 0⟩ (w.heap.push (.cells C T)) := by
  refine ⟨C, T, by simp, ?_, ?_, fun _ => rfl⟩
  · have := hv.length; simp at this; simp; omega
  · intro i v hi
    obtain ⟨c, hc, hr'⟩ := hv.get hi
    exact ⟨c, by simpa using hc, hr'.mono (le_upd hr)⟩
theorem reps_length (l : List AV) : ∀ n, (reps l n).length = n * l.length
  | 0 => by simp [reps]
  | n + 1 => by simp [reps, reps_length l n, Nat.add_mul]; omega
theorem reps_get (l : List AV) : ∀ (n i : Nat), i < n * l.length → (reps l n)[i]? = l[i % l.length]?
  | 0, i, h => by simp at h
  | n + 1, i, h => by
    simp only [reps]
    by_cases hi : i < l.length
    · rw [List.getElem?_append_left hi, Nat.mod_eq_of_lt hi]
    · rw [List.getElem?_append_right (by omega), reps_get l n (i - l.length) (by rw [Nat.add_mul] at h; omega)]
      congr 1
      rw [Nat.mod_eq_sub_mod (by omega : i ≥ l.length)]
theorem range_VRs {l : List AV} {zc : Array Value} {n k : Nat} (hv : VRs μ l zc.toList) (hk : k = n * l.length) :
    VRs μ (reps l n) ((Array.range k).map (fun i => zc[i % zc.size]!)).toList := by
  subst hk
  have hl := hv.length
  simp at hl
  refine VRs.of_get (by simp [reps_length]) ?_
  intro i v c h1 h2
  have hlt : i < n * l.length := by
    have := (List.getElem?_eq_some_iff.1 h1).1; rwa [reps_length] at this
  rw [reps_get l n i hlt] at h1
  obtain ⟨c', hc', hr⟩ := hv.get h1
  rw [Array.getElem?_toList] at hc' h2
  simp [hlt] at h2
  rw [← h2, ← hl]
  rw [getElem!_def, hc']
  exact hr
theorem run_newRow (T : TypeId) (C : Array Value) (w : World) : (newRow T C).run P w = .ok ⟨w.heap.size, 0, none⟩ (w.alloc (.cells C T)) := by
  simp [newRow]
theorem wrap_small {n : Nat} (hn : n ≤ 2 ^ 20) : IntKind.i64.wrap (n : Int) = n :=
  IntWalk.i64_in _ (by have : (2:Nat) ^ 20 = 1048576 := rfl; omega)
theorem lay_sound {T : AT} {o : Oper} {ρ : Operand → Value} {row : Row} {mk : Nat → AV} (he : ∀ x ∈ o.op.operands.toList, Known μ T ρ x) (e : layA P T o.op = some (row, mk)) :
    ∃ (obj : Obj) (c : Value), (execOp ρ o).run P w = .ok (.value c) (w.alloc obj) ∧
      ∀ r, μ r = none → RowOk (upd μ r ⟨w.heap.size, 0, 0⟩) row ⟨w.heap.size, 0, 0⟩ (w.heap.push obj) ∧ VR (upd μ r ⟨w.heap.size, 0, 0⟩) (mk r) c := by
  unfold execOp
  generalize o.op = op at *
  unfold layA at e
  split at e
  · -- alloc
    rename_i elem
    cases hz : zero P elem with
    | none => simp [hz] at e
    | some z =>
      simp [hz] at e; obtain ⟨rfl, rfl⟩ := e
      obtain ⟨c, hr, hv⟩ := run_zeroValue' (w := w) (μ := μ) hz
      refine ⟨.cells c.cells elem, .pointer (some ⟨w.heap.size, 0, none⟩), by simp [Instr.alloc, hr, newVar, run_newRow], fun r hμ => ⟨rowOk_new hμ hv.cells, ?_⟩⟩
      simp only [VR]; exact ⟨_, upd_same _ _ _, rfl⟩
  · -- box
    rename_i elem x
    cases hx : opd T x with
    | none => simp [hx] at e
    | some v =>
      simp [hx] at e; obtain ⟨rfl, rfl⟩ := e
      have hv := he x (by simp [Op.operands]) _ hx
      refine ⟨.cells (ρ x).cells elem, .pointer (some ⟨w.heap.size, 0, none⟩), by simp [Instr.box, newVar, run_newRow], fun r hμ => ⟨rowOk_new hμ hv.cells, ?_⟩⟩
      simp only [VR]; exact ⟨_, upd_same _ _ _, rfl⟩
  · -- buildSlice
    rename_i t len parts
    split at e
    · rename_i elem ps hu hps
      split at e
      · rename_i n hn
        split at e
        · cases e
        · rename_i hbig
          split at e
          · rename_i z hz
            split at e
            · rename_i hlen
              cases hf : fillA (fun i => some (i * n, n)) z ps with
              | none => simp [hf] at e
              | some cs =>
                simp [hf] at e; obtain ⟨rfl, rfl⟩ := e
                have hprs := partsA_PRs (μ := μ) (ρ := ρ) parts.toList ps (fun x hx => he x.2 (by simp [Op.operands]; exact ⟨x.1, by simpa using hx⟩)) hps
                by_cases h0 : len * n = 0
                · rw [if_pos h0] at hz; cases hz
                  obtain ⟨ds, hd, ho⟩ := fill_VRs (μ := μ) ps (parts.toList.map fun x => (x.1, ρ x.2)) [] cs #[] hprs .nil hf
                  refine ⟨.cells ds elem, .slice (some ⟨w.heap.size, 0, none⟩) len len, ?_, fun r hμ => ⟨rowOk_new hμ ho, ?_⟩⟩
                  · simp only [Instr.buildSlice, Sem.run_bind, run_underlying hu, Result.andThen_ok, run_sizeOf' hn]
                    rw [if_neg hbig]
                    have hm0 : Array.map (fun _ => (default : Value)) (Array.range 0) = #[] := by apply Array.ext <;> simp
                    simp [h0, hm0, hd, run_newRow]
                  · simp only [VR]; exact ⟨_, upd_same _ _ _, by simp⟩
                · rw [if_neg h0] at hz
                  cases hzz : zero P elem with
                  | none => simp [hzz] at hz
                  | some z0 =>
                    simp [hzz] at hz; subst hz
                    obtain ⟨c, hr, hv⟩ := run_zeroValue' (w := w) (μ := μ) hzz
                    obtain ⟨ds, hd, ho⟩ := fill_VRs ps (parts.toList.map fun x => (x.1, ρ x.2)) _ cs _ hprs (range_VRs (k := len * n) hv.cells (by rw [reps_length] at hlen; exact hlen.symm)) hf
                    refine ⟨.cells ds elem, .slice (some ⟨w.heap.size, 0, none⟩) len len, ?_, fun r hμ => ⟨rowOk_new hμ ho, ?_⟩⟩
                    · simp only [Instr.buildSlice, Sem.run_bind, run_underlying hu, Result.andThen_ok, run_sizeOf' hn]
                      rw [if_neg hbig, if_neg h0]
                      simp [hr, hd, run_newRow]
                    · simp only [VR]; exact ⟨_, upd_same _ _ _, by simp⟩
            · cases e
          · cases e
      · cases e
    · cases e
  · -- makeMap
    rename_i t
    simp at e; obtain ⟨rfl, rfl⟩ := e
    refine ⟨.map #[] 0, .map (some w.heap.size), by simp [Instr.makeMap], fun r hμ => ⟨⟨#[], 0, [], by simp, by simp, rfl⟩, ?_⟩⟩
    simp only [VR]; exact ⟨_, upd_same _ _ _, rfl⟩
  · -- makeSlice
    rename_i t l c
    split at e
    · rename_i elem lv cv hu hl hc
      split at e
      · rename_i l' c' i hl' hc' hi
        split at e
        · cases e
        · rename_i hcond
          have hlv := he l (by simp [Op.operands]) _ hl
          have hcv := he c (by simp [Op.operands]) _ hc
          obtain ⟨k1, h1⟩ := natOf_sound hlv hl'
          obtain ⟨k2, h2⟩ := natOf_sound hcv hc'
          have e20 : (2:Nat) ^ 20 = 1048576 := rfl
          have e16 : (2:Nat) ^ 16 = 65536 := rfl
          have hlc : l' ≤ c' := by omega
          have hc20 : c' ≤ 1048576 := by omega
          have hb16 : i.bytes ≤ 65536 := by omega
          have w1 := wrap_small (n := l') (by omega)
          have w2 := wrap_small (n := c') (by omega)
          have hmul : i.bytes * c' ≤ 65536 * 1048576 := Nat.mul_le_mul hb16 hc20
          have hnot : ∀ m : Nat, m ≤ c' → (decide ((m : Int) < 0) || decide ((i.bytes : Int) * (m : Int) > 2 ^ 48)) = false := by
            intro m hm
            have hm2 : i.bytes * m ≤ 65536 * 1048576 := Nat.le_trans (Nat.mul_le_mul_left _ hm) hmul
            have e48 : (2 : Int) ^ 48 = 281474976710656 := rfl
            have h3 : ((i.bytes * m : Nat) : Int) ≤ ((65536 * 1048576 : Nat) : Int) := Int.ofNat_le.2 hm2
            rw [Int.natCast_mul] at h3
            rw [e48, decide_eq_false (by omega), decide_eq_false (by omega)]; rfl
          split at e
          · rename_i z hz
            split at e
            · rename_i hlen
              simp at e; obtain ⟨rfl, rfl⟩ := e
              by_cases h0 : c' * i.size = 0
              · rw [if_pos h0] at hz; cases hz
                refine ⟨.cells #[] elem, .slice (some ⟨w.heap.size, 0, none⟩) l' c', ?_, fun r hμ => ⟨rowOk_new hμ .nil, ?_⟩⟩
                · have hm0 : Array.map (fun _ => (default : Value)) (Array.range 0) = #[] := by apply Array.ext <;> simp
                  simp only [Instr.makeSlice, Sem.run_bind, run_underlying hu, Result.andThen_ok, h1, h2, asInt, asIntOf, Sem.run_pure, typeInfo, run_program, hi, w1, w2, hnot c' (Nat.le_refl _)]
                  rw [if_neg (by simp; omega)]
                  simp only [Sem.run_bind, run_askRoom, Result.andThen_ok, sizeOf, typeInfo, run_program, hi, Sem.run_pure, Int.toNat_natCast]
                  rw [if_pos h0]
                  simp [h0, hm0, run_newRow]
                · simp only [VR]; exact ⟨_, upd_same _ _ _, by simp⟩
              · rw [if_neg h0] at hz
                cases hzz : zero P elem with
                | none => simp [hzz] at hz
                | some z0 =>
                  simp [hzz] at hz; subst hz
                  obtain ⟨zc, hr, hv⟩ := run_zeroValue' (w := w) (μ := μ) hzz
                  refine ⟨.cells ((Array.range (c' * i.size)).map (fun j => zc.cells[j % zc.cells.size]!)) elem, .slice (some ⟨w.heap.size, 0, none⟩) l' c', ?_, fun r hμ => ⟨rowOk_new hμ (range_VRs hv.cells ?_), ?_⟩⟩
                  · simp only [Instr.makeSlice, Sem.run_bind, run_underlying hu, Result.andThen_ok, h1, h2, asInt, asIntOf, Sem.run_pure, typeInfo, run_program, hi, w1, w2, hnot c' (Nat.le_refl _)]
                    rw [if_neg (by simp; omega)]
                    simp only [Sem.run_bind, run_askRoom, Result.andThen_ok, sizeOf, typeInfo, run_program, hi, Sem.run_pure, Int.toNat_natCast]
                    rw [if_neg h0]
                    simp [hr, run_newRow]
                  · rw [reps_length] at hlen; exact hlen.symm
                  · simp only [VR]; exact ⟨_, upd_same _ _ _, by simp⟩
            · cases e
          · cases e
      · cases e
    · cases e
  · cases e
end
end Go.Ax
end

section
namespace Go.Ax
open Go.RowKit (Below)
section
variable {P : Program} {w0 w : World} {μ : Mu} {h : AH}
def Writes (w0 : World) (μ : Mu) (h' : AH) (n : Nat) (w' : World) : Prop := Sim w0 μ h' w' ∧ h'.n = n
theorem below_set {w0 w : World} {b : Nat} {o : Obj} (hb : Below w0.heap.size w0 w) (hg : w0.heap.size ≤ b) : Below w0.heap.size w0 { w with heap := w.heap.setIfInBounds b o } :=
  hb.trans ⟨rfl, rfl, rfl, by simp, fun k hk => by simp only [Array.getElem?_setIfInBounds]; rw [if_neg (by omega)]⟩
theorem Sim.setMap (s : Sim w0 μ h w) {r : Nat} {p : Pl} {es es' : List (AV × AV)} {E' : Array MapEntry} {clk' : Nat} {l' : List MapEntry} (hp : μ r = some p) (hr : h.row r = some (.map es))
    (hperm : l'.Perm E'.toList) (hers : ERs μ es' l') : Sim w0 μ (h.put r (.map es')) { w with heap := w.heap.setIfInBounds p.b (.map E' clk') } := by
  have hd := s.dom r p hp
  have apart : ∀ j q x, j ≠ r → μ j = some q → h.row j = some x → x.live = true → q.b ≠ p.b := by
    intro j q x hjr hj hx hl hb
    rcases Nat.lt_or_ge j r with hlt | hge
    · obtain ⟨_, _, _, _, _, _, _, _, _, _, e2, _⟩ := s.sep j r q p x _ hlt hj hp hx hr hl rfl hb; cases e2
    · obtain ⟨_, _, _, _, _, _, _, _, _, e1, _⟩ := s.sep r j p q _ x (by omega) hp hj hr hx rfl hl hb.symm; cases e1
  refine ⟨?_, ?_, ?_, below_set s.below hd.2.1⟩
  · intro j q hj
    have := s.dom j q hj
    exact ⟨this.1, this.2.1, by simpa using this.2.2⟩
  · intro j q x hj hx
    by_cases hjr : j = r
    · subst hjr
      rw [AH.row_put_same, hr] at hx; simp at hx; subst hx
      rw [hp] at hj; cases hj
      exact ⟨E', clk', l', by simp [hd.2.2], hperm, hers⟩
    · rw [AH.row_put_ne hjr] at hx
      cases hl : x.live with
      | false => cases x <;> first | trivial | cases hl
      | true =>
        refine (s.rows j q x hj hx).mono μ.le_refl ?_
        simp only [Array.getElem?_setIfInBounds]
        rw [if_neg (fun hb => apart j q x hjr hj hx hl hb.symm)]
  · intro r1 r2 p1 p2 x1 x2 hlt e1 e2 f1 f2 l1 l2 hbb
    by_cases h1 : r1 = r
    · subst h1
      rw [hp] at e1; cases e1
      rw [AH.row_put_ne (by omega)] at f2
      exact absurd hbb.symm (apart r2 p2 x2 (by omega) e2 f2 l2)
    · rw [AH.row_put_ne h1] at f1
      by_cases h2 : r2 = r
      · subst h2
        rw [hp] at e2; cases e2
        exact absurd hbb (apart r1 p1 x1 h1 e1 f1 l1)
      · rw [AH.row_put_ne h2] at f2
        exact s.sep r1 r2 p1 p2 x1 x2 hlt e1 e2 f1 f2 l1 l2 hbb
theorem run_setMap {w : World} {b : Nat} {E : Array MapEntry} {clk : Nat} (o : Obj) (hb : w.heap[b]? = some (.map E clk)) : (setObj b o).run P w = .ok () { w with heap := w.heap.setIfInBounds b o } := by
  simp [setObj, Sem.run, hb]
theorem lay_ERs {k v : AV} {m : MapEntry} (hk : VR μ k m.key) (hv : VR μ v m.val) : ∀ (es : List (AV × AV)) (l : List MapEntry), ERs μ es l → ∃ l', ERs μ (layEntry k v es) l' ∧ l'.Perm (m :: l)
  | [], _, e => by cases e; exact ⟨[m], ⟨m, [], rfl, hk, hv, rfl⟩, .refl _⟩
  | x :: es, _, ⟨c, l, rfl, h1, h2, hr⟩ => by
    obtain ⟨l', ha, hb⟩ := lay_ERs hk hv es l hr
    have far : ERs μ (x :: layEntry k v es) (c :: l') ∧ (c :: l').Perm (m :: c :: l) := ⟨⟨c, l', rfl, h1, h2, ha⟩, (hb.cons c).trans (.swap m c l)⟩
    simp only [layEntry]
    split
    · split
      · exact ⟨m :: c :: l, ⟨m, c :: l, rfl, hk, hv, ⟨c, l, rfl, h1, h2, hr⟩⟩, .refl _⟩
      · exact ⟨_, far⟩
    · exact ⟨_, far⟩
theorem set_ERs (s : Sim w0 μ h w) {kt : TypeId} {d : TypeDesc} {k v : AV} {kc vc : Value} (hd : P.underlying kt = some d) (hk : keyA d k = true) (hkc : VR μ k kc) (hv : VR μ v vc) :
    ∀ (es : List (AV × AV)) (l : List MapEntry) (bs : List Bool), ERs μ es l → hitsA P h d k es = some bs →
      (hitOf es bs = [] → setHit v es bs = es ∧ ∀ m ∈ l, EqC P w kt d kc m false) ∧
      (∀ a, hitOf es bs = [a] → ∃ l1 m l2, l = l1 ++ m :: l2 ∧ EqC P w kt d kc m true ∧ (∀ x ∈ l1 ++ l2, EqC P w kt d kc x false) ∧ ERs μ (setHit v es bs) (l1 ++ { m with key := kc, val := vc } :: l2))
  | [], _, bs, he, e => by
    cases he; simp only [hitsA, Option.some.injEq] at e; subst e
    exact ⟨fun _ => ⟨rfl, fun m hm => by simp at hm⟩, fun a ha => by simp [hitOf] at ha⟩
  | x :: es, _, bs, he, e => by
    obtain ⟨m, l, rfl, h1, h2, hr⟩ := he
    simp only [hitsA] at e
    cases hb : eqA P h d k x.1 with
    | none => simp [hb] at e
    | some b =>
      cases hl : hitsA P h d k es with
      | none => simp [hb, hl] at e
      | some bs' =>
        simp [hb, hl] at e; subst e
        have hq := eqC_of s hd hk hkc h1 hb
        obtain ⟨i0, i1⟩ := set_ERs s hd hk hkc hv es l bs' hr hl
        cases b with
        | true =>
          refine ⟨fun h0 => by simp [hitOf] at h0, fun a ha => ?_⟩
          simp [hitOf] at ha
          obtain ⟨e0, f0⟩ := i0 ha.2
          refine ⟨[], m, l, rfl, hq, by simpa using f0, ?_⟩
          simp only [setHit, if_true, e0]
          exact ⟨{ m with key := kc, val := vc }, l, rfl, by show VR μ x.1 kc; rw [← hq.same rfl]; exact h1, hv, hr⟩
        | false =>
          refine ⟨fun h0 => ?_, fun a ha => ?_⟩
          · simp [hitOf] at h0
            obtain ⟨e0, f0⟩ := i0 h0
            exact ⟨by simp [setHit, e0], fun y hy => by rcases List.mem_cons.1 hy with rfl | hy; exact hq; exact f0 y hy⟩
          · simp [hitOf] at ha
            obtain ⟨l1, y, l2, rfl, g1, g2, g3⟩ := i1 a ha
            refine ⟨m :: l1, y, l2, rfl, g1, fun z hz => ?_, ?_⟩
            · rw [List.cons_append] at hz
              rcases List.mem_cons.1 hz with rfl | hz
              · exact hq
              · exact g2 z hz
            · simp only [setHit]
              exact ⟨m, _, rfl, h1, h2, g3⟩
theorem run_stays {d : TypeDesc} {k : AV} {kc : Value} (hk : keyA d k = true) (hkc : VR μ k kc) : (Instr.keyThatStays kc kc).run P w = .ok kc w := by
  have hs : Instr.sameBits 10000 kc kc = true := by
    unfold keyA at hk
    split at hk <;> first | (cases hk; done) | skip
    all_goals
      simp only [VR] at hkc
      first | subst hkc | obtain ⟨p, hp, rfl⟩ := hkc
    · simp [Instr.sameBits]
    · show (_ == _) = true
      rename_i s
      obtain ⟨x⟩ := s
      show (x == x) = true
      simp
    · simp [Instr.sameBits]
  simp [Instr.keyThatStays, hs]
theorem mapUpd_sound (s : Sim w0 μ h w) {t : TypeId} {m k v : AV} {mc kc vc : Value} {h' : AH} (hm : VR μ m mc) (hkc : VR μ k kc) (hv : VR μ v vc) (e : mapUpdA P h t m k v = some h') :
    ∃ w', (Instr.mapUpdate t mc kc vc).run P w = .ok () w' ∧ Sim w0 μ h' w' ∧ h'.n = h.n := by
  unfold mapUpdA at e
  split at e
  · rename_i kt el r hu
    simp only [VR] at hm; obtain ⟨p, hp, rfl⟩ := hm
    split at e
    · rename_i d es hd hrow
      split at e
      · rename_i hk
        obtain ⟨E, clk, l, hE, hperm, hers⟩ := s.rows r p _ hp hrow
        unfold updA at e
        cases hb : hitsA P h d k es with
        | none => simp [hb] at e
        | some bs =>
          simp only [hb, Option.bind_some] at e
          have all := hits_of s hd hk hkc es l bs hers hb
          obtain ⟨s0, s1⟩ := set_ERs s hd hk hkc hv es l bs hers hb
          obtain ⟨x, hx, f0, f1⟩ := findKey_run (P := P) (w := w) (kc := kc) hd E.toList (fun m hm => by
            obtain ⟨a, b, h2, _⟩ := all m (hperm.mem_iff.2 hm); exact ⟨b, h2⟩)
          cases hh : hitOf es bs with
          | nil =>
            simp [hh] at e; subst e
            obtain ⟨_, no⟩ := s0 hh
            have hxn : x = none := by
              cases x with
              | none => rfl
              | some y =>
                obtain ⟨m, hm, _, hq⟩ := f1 y.1 y.2 rfl
                have := (no m (hperm.mem_iff.2 (List.mem_of_getElem? hm))).unique hq; cases this
            subst hxn
            obtain ⟨l', ha, hb'⟩ := lay_ERs (m := { key := kc, val := vc, born := clk }) hkc hv es l hers
            refine ⟨_, ?_, s.setMap (E' := E.push { key := kc, val := vc, born := clk }) (clk' := clk + 1) hp hrow ?_ ha, rfl⟩
            · simp only [Instr.mapUpdate, Sem.run_bind, run_underlying hu, Result.andThen_ok, run_getMap hE, run_checkKey' (n := 9999) hd hk hkc, hx, run_setMap _ hE]
            · rw [Array.toList_push]
              exact (hb'.trans (hperm.cons _)).trans (List.perm_append_singleton _ _).symm
          | cons a ta =>
            cases ta with
            | cons _ _ => simp [hh] at e
            | nil =>
              simp [hh] at e; subst e
              obtain ⟨l1, y, l2, rfl, hq, hno, hset⟩ := s1 a hh
              cases x with
              | none =>
                have := (f0 rfl y (hperm.mem_iff.1 (by simp))).unique hq; cases this
              | some z =>
                obtain ⟨i, c⟩ := z
                obtain ⟨m', hm', hval, hq'⟩ := f1 i c rfl
                have hmy : m' = y := by
                  have hmem := hperm.mem_iff.2 (List.mem_of_getElem? hm')
                  rw [List.mem_append, List.mem_cons] at hmem
                  rcases hmem with hm1 | rfl | hm2
                  · have := (hno m' (by simp [hm1])).unique hq'; cases this
                  · rfl
                  · have := (hno m' (by simp [hm2])).unique hq'; cases this
                subst hmy
                have hEi : E[i]? = some m' := by rw [← Array.getElem?_toList]; exact hm'
                have hkey : ((E[i]?).map (·.key)).getD kc = kc := by rw [hEi]; exact hq.same rfl
                refine ⟨_, ?_, s.setMap (E' := E.modify i fun e => { e with key := kc, val := vc }) (clk' := clk) hp hrow ?_ hset, rfl⟩
                · simp only [Instr.mapUpdate, Sem.run_bind, run_underlying hu, Result.andThen_ok, run_getMap hE, run_checkKey' (n := 9999) hd hk hkc, hx, hkey, run_stays hk hkc, run_setMap _ hE]
                · rw [Array.toList_modify]
                  have hlt : i < E.toList.length := (List.getElem?_eq_some_iff.1 hm').1
                  have hsplit : E.toList = E.toList.take i ++ m' :: E.toList.drop (i + 1) := by
                    have := List.getElem?_eq_some_iff.1 hm'
                    obtain ⟨hlt, hget⟩ := this
                    rw [← hget, List.getElem_cons_drop, List.take_append_drop]
                  have hmod : E.toList.modify i (fun e => { e with key := kc, val := vc }) = E.toList.take i ++ { m' with key := kc, val := vc } :: E.toList.drop (i + 1) := by
                    rw [List.modify_eq_take_cons_drop hlt]
                    congr 2
                    have := (List.getElem?_eq_some_iff.1 hm').2
                    rw [this]
                  rw [hmod]
                  rw [hsplit] at hperm
                  have h1 : (l1 ++ l2).Perm (E.toList.take i ++ E.toList.drop (i + 1)) := by
                    have := (List.perm_middle (a := m') (l₁ := l1) (l₂ := l2)).symm.trans (hperm.trans List.perm_middle)
                    exact this.cons_inv
                  exact List.perm_middle.trans ((h1.cons _).trans List.perm_middle.symm)
      · cases e
    · cases e
  · cases e
end
end Go.Ax
end

end

/- An abstract machine over the loaded code: definitions. Its words tell what is to be shown of a piece of code. -/
import Derived.Calls
set_option linter.unusedSimpArgs false
set_option linter.unusedVariables false
namespace Go.Vm

/-- the name of a block of memory -/
inductive Blk where
  | loc (n : Nat)
  | glob (g : Nat)
  | sub (b : Blk) (i : Int) (j : Nat)

/-- values, as far as they are known -/
inductive AV where
  | undef
  | tt
  | ff
  | prop (p : Prop)
  | int (k : IntKind) (n : Int)
  | str (s : List Int)
  | nilp
  | ptr (b : Blk) (m : Nat) (i : Option Int) (j : Nat)
  | nils
  | sl (b : Blk) (m : Nat) (i : Option Int) (n : Int)
  | nilf
  | fn (f : Nat) (cap : List AV)
  | niface
  | agg (vs : List AV)
  | tup (vs : List AV)

/-- how a datum lies in cells -/
structure Enc (α : Type) where
  m : Nat
  d : α
  cells : α → List AV
  put : α → Nat → List AV → Option α
  parse : List AV → Option α

inductive Cont : Type 1 where
  | raw (vs : List AV)
  | arr {α : Type} (E : Enc α) (xs : List α)
  | nest {α : Type} (m : Nat) (d : α) (cells : Blk → Nat → α → List AV) (slots : List Nat) (sub : α → Nat → Cont) (xs : List α)

structure Ent where
  b : Blk
  rw : Bool
  c : Cont

structure Heap where
  ents : List Ent
  next : Nat

structure EncAny where
  α : Type
  E : Enc α

structure Seat where
  P : Program
  hint : TypeId → Option EncAny
  /-- struct types of whole numbers alone, and how many -/
  flat : TypeId → Option Nat
  /-- functions that are entered -/
  has : FuncId → Bool
  /-- functions for which the model stands in -/
  ext : FuncId → List AV → (AV → Prop) → Prop := fun _ _ _ => False

def lits : List Nat := [0, 1, 2, 3, 4, 5, 6, 7, 8, 9, 10, 11, 12, 13, 14, 15, 16, 17, 18, 19, 20, 21, 22, 23, 24, 25, 26, 27, 28, 29, 30, 31, 32, 33, 34, 35, 36, 37, 38, 39, 40, 41, 42, 43, 44, 45, 46, 47, 48, 49, 50, 51, 52, 53, 54, 55, 56, 57, 58, 59, 60, 61, 62, 63, 64, 65, 66, 67, 68, 69, 70, 71, 72, 73, 74, 75, 76, 77, 78, 79, 80, 81, 82, 83, 84, 85, 86, 87, 88, 89, 90, 91, 92, 93, 94, 95, 96, 97, 98, 99, 100, 101, 102, 103, 104, 105, 106, 107, 108, 109, 110, 111, 112, 113, 114, 115, 116, 117, 118, 119, 120, 121, 122, 123, 124, 125, 126, 127, 128, 129, 130, 131, 132, 133, 134, 135, 136, 137, 138, 139, 140, 141, 142, 143, 144, 145, 146, 147, 148, 149, 150, 151, 152, 153, 154, 155, 156, 157, 158, 159]

def natGo : List Nat → Nat → (Nat → Prop) → Prop
  | [], n, K => K n
  | x :: r, n, K => match Nat.beq x n with | true => K x | false => natGo r n K
/-- a number, written out -/
def natK (n : Nat) (K : Nat → Prop) : Prop := natGo lits n K

def blkK : Blk → (Blk → Prop) → Prop
  | .loc n, K => natK n fun n => K (.loc n)
  | .glob g, K => K (.glob g)
  | .sub b i j, K => blkK b fun b => natK j fun j => K (.sub b i j)

def offK (i : Option Int) (K : Option Int → Prop) : Prop := match i with | none => K none | some x => K (some x)

mutual
def forceV : AV → (AV → Prop) → Prop
  | .undef, K => K .undef
  | .tt, K => K .tt
  | .ff, K => K .ff
  | .prop p, K => K (.prop p)
  | .int k n, K => K (.int k n)
  | .str s, K => K (.str s)
  | .nilp, K => K .nilp
  | .ptr b m i j, K => blkK b fun b => natK m fun m => offK i fun i => natK j fun j => K (.ptr b m i j)
  | .nils, K => K .nils
  | .sl b m i n, K => blkK b fun b => natK m fun m => offK i fun i => K (.sl b m i n)
  | .nilf, K => K .nilf
  | .fn f cap, K => forceL cap fun cap => K (.fn f cap)
  | .niface, K => K .niface
  | .agg vs, K => forceL vs fun vs => K (.agg vs)
  | .tup vs, K => forceL vs fun vs => K (.tup vs)
def forceL : List AV → (List AV → Prop) → Prop
  | [], K => K []
  | v :: r, K => forceV v fun v => forceL r fun r => K (v :: r)
end

def Cont.force : Cont → (Cont → Prop) → Prop
  | .raw vs, K => forceL vs fun vs => K (.raw vs)
  | .arr E xs, K => K (.arr E xs)
  | .nest m d g s f xs, K => K (.nest m d g s f xs)

def Blk.beq : Blk → Blk → Bool
  | .loc n, .loc m => Nat.beq n m
  | .glob n, .glob m => Nat.beq n m
  | _, _ => false

def getE : List Ent → Blk → Option Ent
  | [], _ => none
  | e :: r, b => match Blk.beq e.b b with | true => some e | false => getE r b

/-- the entries with another content at a block -/
def setK : List Ent → Blk → Cont → (List Ent → Prop) → Prop
  | [], _, _, K => K []
  | e :: r, b, c, K => match Blk.beq e.b b with
    | true => match e with
      | ⟨b', rw', _⟩ => K (⟨b', rw', c⟩ :: r)
    | false => setK r b c fun r => K (e :: r)

def delK : List Ent → Blk → (List Ent → Prop) → Prop
  | [], _, K => K []
  | e :: r, b, K => match Blk.beq e.b b with
    | true => K r
    | false => delK r b fun r => K (e :: r)

/-- one entry more; its number -/
def pushK (H : Heap) (c : Cont) (K : Nat → Heap → Prop) : Prop :=
  match H with
  | ⟨l, nx⟩ => c.force fun c => natK nx fun n => natK (n + 1) fun n' => K n ⟨⟨.loc n, true, c⟩ :: l, n'⟩
/-- a content turned -/
def setH (H : Heap) (b : Blk) (c : Cont) (K : Heap → Prop) : Prop :=
  match H with
  | ⟨l, nx⟩ => c.force fun c => setK l b c fun l => K ⟨l, nx⟩

/-- the content of a block -/
def atA (H : List Ent) : Blk → (Cont → Prop) → Prop
  | .loc n, K => match getE H (.loc n) with | some e => K e.c | none => False
  | .glob n, K => match getE H (.glob n) with | some e => K e.c | none => False
  | .sub b i j, K => atA H b fun c => match c with
    | .nest _ d _ s f xs => (0 ≤ i ∧ i < xs.length ∧ j ∈ s) ∧ K (f (xs.getD i.toNat d) j)
    | _ => False

def arrElemA (m : Nat) (i : Option Int) (m' n : Nat) (cell : Nat → List AV) (K : List AV → Prop) : Prop :=
  match i with
  | none => 0 < n ∧ K (cell 0)
  | some i => match Nat.beq m m' with
    | true => (0 ≤ i ∧ i < n) ∧ K (cell i.toNat)
    | false => False

/-- the cells from element i on; m: how many each has -/
def elemA (b : Blk) (m : Nat) (i : Option Int) (c : Cont) (K : List AV → Prop) : Prop :=
  match c with
  | .raw vs => match i with
    | none => K vs
    | some (.ofNat n) => K (vs.drop (n * m))
    | _ => False
  | .arr E xs => arrElemA m i E.m xs.length (fun i => E.cells (xs.getD i E.d)) K
  | .nest m' d g _ _ xs => arrElemA m i m' xs.length (fun i => g b i (xs.getD i d)) K

def bytesL (s : ByteArray) : List Int := s.data.toList.map fun b => (b.toNat : Int)

def cst : Value → AV
  | .bool true => .tt
  | .bool false => .ff
  | .int k n => .int k n
  | .string s => match Nat.ble s.size 9223372036854775807 with | true => .str (bytesL s) | false => .undef
  | .pointer none => .nilp
  | .slice none 0 0 => .nils
  | .nilFunc => .nilf
  | .nilIface => .niface
  | _ => .undef

def look : List (Nat × AV) → Nat → AV
  | [], _ => .undef
  | (s, v) :: r, t => match Nat.beq s t with | true => v | false => look r t

def evA (env : List (Nat × AV)) : Operand → AV
  | .tmp t => look env t
  | .const v => cst v
  | .global g => .ptr (.glob g) 0 none 0
  | .func f => .fn f []

/-- the cells of a value -/
def cellsK (v : AV) (K : List AV → Prop) : Prop :=
  match v with
  | .undef => False
  | .tup _ => False
  | .agg vs => K vs
  | v => K [v]

section
variable (S : Seat)

def szA (T : TypeId) : Nat := match S.P.info? T with | some i => i.size | none => 0
def bytesA (T : TypeId) : Nat := match S.P.info? T with | some i => i.bytes | none => 0
def aggB (T : TypeId) : Option Bool := match S.P.underlying T with
  | some (.struct _) => some true
  | some (.array _ _) => some true
  | some _ => some false
  | none => none
def zeroK (T : TypeId) (K : List AV → Prop) : Prop := match S.P.info? T with
  | some i => match i.zero with | some v => forceL (v.cells.toList.map cst) K | none => False
  | none => False
def elemT (T : TypeId) : TypeId := match S.P.underlying T with | some (.slice e) => e | _ => 0

def inR : IntKind → Int → Prop
  | .i8, n => -128 ≤ n ∧ n ≤ 127
  | .i16, n => -32768 ≤ n ∧ n ≤ 32767
  | .i32, n => -2147483648 ≤ n ∧ n ≤ 2147483647
  | .i64, n => -9223372036854775808 ≤ n ∧ n ≤ 9223372036854775807
  | .u8, n => 0 ≤ n ∧ n ≤ 255
  | .u16, n => 0 ≤ n ∧ n ≤ 65535
  | .u32, n => 0 ≤ n ∧ n ≤ 4294967295
  | .u64, n => 0 ≤ n ∧ n ≤ 18446744073709551615

/-- a value out of cells -/
def partA (T : TypeId) (l : List AV) (j : Nat) (K : AV → Prop) : Prop :=
  match aggB S T with
  | some true => match Nat.ble (j + szA S T) l.length, Nat.ble 1 (szA S T) with
    | true, true => forceL ((l.drop j).take (szA S T)) fun l => K (.agg l)
    | _, _ => False
  | some false => match l[j]? with | some v => forceV v K | none => False
  | none => False

def ikN : IntKind → Nat
  | .i8 => 0 | .i16 => 1 | .i32 => 2 | .i64 => 3 | .u8 => 4 | .u16 => 5 | .u32 => 6 | .u64 => 7
/-- may these kinds of whole numbers meet? -/
def kb (op : BinOp) (k k' : IntKind) : Bool := match op with
  | .shl => true
  | .shr => true
  | _ => Nat.beq (ikN k) (ikN k')

def binA (op : BinOp) (x y : AV) (K : AV → Prop) : Prop :=
  match x, y with
  | .int k a, .int k' b => match kb op k k' with
   | false => False
   | true => match op with
    | .eql => K (.prop (a = b))
    | .neq => K (.prop (¬ a = b))
    | .lss => K (.prop (a < b))
    | .leq => K (.prop (a ≤ b))
    | .gtr => K (.prop (b < a))
    | .geq => K (.prop (b ≤ a))
    | .add => (inR k (a + b) ∧ K (.int k (a + b))) ∨ K (.int k (k.wrap (a + b)))
    | .sub => (inR k (a - b) ∧ K (.int k (a - b))) ∨ K (.int k (k.wrap (a - b)))
    | .mul => (inR k (a * b) ∧ K (.int k (a * b))) ∨ K (.int k (k.wrap (a * b)))
    | .quo => (0 ≤ a ∧ 0 < b ∧ inR k a) ∧ K (.int k (a / b))
    | .rem => (0 ≤ a ∧ 0 < b) ∧ K (.int k (a % b))
    | .shl => (0 ≤ b ∧ b < k.bits ∧ inR k (a * 2 ^ b.toNat)) ∧ K (.int k (a * 2 ^ b.toNat))
    | .shr => (0 ≤ a ∧ 0 ≤ b ∧ b < k.bits) ∧ K (.int k (a / 2 ^ b.toNat))
    | .and => (0 ≤ a ∧ 0 ≤ b ∧ inR k a ∧ inR k b) ∧ K (.int k ((a.toNat &&& b.toNat : Nat) : Int))
    | .or => (0 ≤ a ∧ 0 ≤ b ∧ inR k a ∧ inR k b) ∧ K (.int k ((a.toNat ||| b.toNat : Nat) : Int))
    | .xor => (0 ≤ a ∧ 0 ≤ b ∧ inR k a ∧ inR k b) ∧ K (.int k ((a.toNat ^^^ b.toNat : Nat) : Int))
    | .andNot => (0 ≤ a ∧ 0 ≤ b ∧ inR k a ∧ inR k b) ∧ K (.int k ((a.toNat ^^^ (a.toNat &&& b.toNat) : Nat) : Int))
  | .str a, .str b =>
    match op with
    | .eql => K (.prop (a = b))
    | .neq => K (.prop (¬ a = b))
    | .add => (a.length : Int) + b.length ≤ 140737488355328 ∧ K (.str (a ++ b))
    | _ => False
  | _, _ => False

/-- '==' of two bools -/
def boolEqA (x y : AV) (K : Prop → Prop) : Prop :=
  match x, y with
  | .tt, .tt => K True
  | .tt, .ff => K False
  | .ff, .tt => K False
  | .ff, .ff => K True
  | .tt, .prop p => K p
  | .ff, .prop p => K (¬p)
  | .prop p, .tt => K p
  | .prop p, .ff => K (¬p)
  | .prop p, .prop q => K (p ↔ q)
  | _, _ => False

/-- '==' of whole numbers, cell by cell -/
def intsEqA : List AV → List AV → (Prop → Prop) → Prop
  | [.int k a], [.int k' b], K => match Nat.beq (ikN k) (ikN k') with | true => K (a = b) | false => False
  | .int k a :: r, .int k' b :: s, K => match Nat.beq (ikN k) (ikN k') with | true => intsEqA r s fun p => K (a = b ∧ p) | false => False
  | _, _, _ => False

def eqOp (op : BinOp) (K : AV → Prop) : Prop → Prop := match op with
  | .eql => fun p => K (.prop p)
  | .neq => fun p => K (.prop (¬ p))
  | _ => fun _ => False

def nilEqA (x : AV) (K : Prop → Prop) : Prop :=
  match x with
  | .sl _ _ _ n => ∀ p : Prop, (p → n = 0) → K p
  | .nils => ∀ p : Prop, K p
  | _ => False

def parseN {α : Type} (E : Enc α) : Nat → List AV → Option (List α)
  | 0, _ => some []
  | n + 1, vs => match E.parse (vs.take E.m) with
    | some x => match parseN E n (vs.drop E.m) with | some l => some (x :: l) | none => none
    | none => none

/-- the content that n elements make -/
def mkCont (T : TypeId) (n : Nat) (vs : List AV) : Cont :=
  match S.hint T with
  | some ⟨_, E⟩ => match parseN E n vs with | some l => .arr E l | none => .raw vs
  | none => .raw vs

def putL (l : List AV) (j : Nat) (vs : List AV) : List AV := l.take j ++ (vs ++ l.drop (j + vs.length))

/-- parts put into their places -/
def fillK (place : Nat → Option (Nat × Nat)) (ev : Operand → AV) : List (Nat × Operand) → List AV → (List AV → Prop) → Prop
  | [], z, K => K z
  | (i, x) :: r, z, K => match place i with
    | none => False
    | some (off, size) => cellsK (ev x) fun cs => match Nat.beq cs.length size with
      | false => False
      | true => match Nat.ble (off + cs.length) z.length with
        | false => False
        | true => forceL (putL z off cs) fun z => fillK place ev r z K

def placesL : List Field → Option (List (Nat × Nat))
  | [] => some []
  | f :: r => match S.P.info? f.type with
    | some i => match placesL r with
      | some l => some ((f.offset, i.size) :: l)
      | none => none
    | none => none

/-- min and max -/
def minmaxA (isMax : Bool) : List AV → (AV → Prop) → Prop
  | [.int k a, .int _ b], K => match isMax with
    | true => K (.int k (max a b))
    | false => K (.int k (min a b))
  | _, _ => False

/-- the elements of a slice, as a content of the wanted kind -/
def elemsA {α : Type} (E : Enc α) (H : List Ent) (x : AV) (K : List α → Prop) : Prop :=
  match x with
  | .nils => K []
  | .sl b m i n => atA H b fun c => ∃ ys : List α, c = .arr E ys ∧ m = E.m ∧ match i with
    | none => (0 ≤ n ∧ n ≤ ys.length) ∧ K (ys.take n.toNat)
    | some i => (0 ≤ i ∧ 0 ≤ n ∧ i + n ≤ ys.length) ∧ K ((ys.drop i.toNat).take n.toNat)
  | _ => False

inductive Kind where
  | pure
  | read
  | new
  | eff

def kindOf (o : Op) : Kind :=
  match o with
  | .load _ _ => .read
  | .convert s d _ => match S.P.underlying s, S.P.underlying d with
    | some (.slice _), some .string => .read
    | some .string, some (.slice _) => .new
    | some (.slice _), some (.slice _) => .eff
    | _, _ => .pure
  | .alloc _ | .box _ _ | .buildSlice _ _ _ | .makeSlice _ _ _ => .new
  | .store _ _ _ => .eff
  | .call c => match c.callee with
    | .builtin .len | .builtin .cap | .builtin .min | .builtin .max => .pure
    | _ => .eff
  | _ => .pure

def subOff (i : Option Int) (lo : Int) : Option Int := match i with | none => some lo | some i => some (i + lo)

/-- the bounds of a piece -/
def boundsA (ev : Operand → AV) (lo hi : Option Operand) (n : Int) (K : Int → Int → Prop) : Prop :=
  match lo, hi with
  | none, none => 0 ≤ n → K 0 n
  | some l, none => match ev l with
    | .int _ l => (0 ≤ l ∧ l ≤ n) ∧ K l n
    | _ => False
  | none, some h => match ev h with
    | .int _ h => (0 ≤ h ∧ h ≤ n) ∧ K 0 h
    | _ => False
  | some l, some h => match ev l with
    | .int _ l => match ev h with
      | .int _ h => (0 ≤ l ∧ l ≤ h ∧ h ≤ n) ∧ K l h
      | _ => False
    | _ => False

def isZero : AV → Bool
  | .int _ (.ofNat n) => Nat.beq n 0
  | _ => false

/-- x[:0:0] -/
def zeroPieceA (ev : Operand → AV) (lo hi : Option Operand) (mx : Operand) (K : AV → Prop) : Prop :=
  match lo with
  | some _ => False
  | none => match hi with
    | none => False
    | some hi => match isZero (ev hi) with
      | false => False
      | true => match isZero (ev mx) with
        | false => False
        | true => K .nils

def sliceA (T : TypeId) (ev : Operand → AV) (x : Operand) (lo hi mx : Option Operand) (K : AV → Prop) : Prop :=
  match S.P.underlying T with
  | none => False
  | some .string => match ev x with
    | .str s => match mx with
      | some _ => False
      | none => boundsA ev lo hi s.length fun l h => K (.str ((s.take h.toNat).drop l.toNat))
    | _ => False
  | some (.slice e) => match ev x with
    | .sl b m i n => match Nat.beq m (szA S e), Nat.ble 1 m with
      | true, true => match mx with
        | some mx => zeroPieceA ev lo hi mx K
        | none => boundsA ev lo hi n fun l h => offK (subOff i l) fun i => K (.sl b m i (h - l))
      | _, _ => False
    | .nils => match Nat.ble 1 (szA S e) with
      | true => match mx with
        | some mx => zeroPieceA ev lo hi mx K
        | none => False
      | false => False
    | _ => False
  | _ => False

def lenminA (c : Call) (ev : Operand → AV) (K : AV → Prop) : Prop :=
  match c.callee with
  | .builtin .len => match c.args.toList.map ev, c.argTypes.toList with
    | [x], [T] => match S.P.underlying T, x with
      | some .string, .str s => ((s.length : Int) ≤ 9223372036854775807 → K (.int .i64 s.length))
      | some (.slice _), .sl _ _ _ n => (0 ≤ n → n ≤ 9223372036854775807 → K (.int .i64 n))
      | some (.slice _), .nils => K (.int .i64 0)
      | _, _ => False
    | _, _ => False
  | .builtin .min => minmaxA false (c.args.toList.map ev) K
  | .builtin .max => minmaxA true (c.args.toList.map ev) K
  | _ => False

/-- operations upon values alone -/
def pureA (o : Op) (ev : Operand → AV) (K : AV → Prop) : Prop :=
  match o with
  | .move x | .assign x => forceV (ev x) K
  | .pick c a b => match ev c with
    | .tt => forceV (ev a) K
    | .ff => forceV (ev b) K
    | .prop p => (p → forceV (ev a) K) ∧ (¬p → forceV (ev b) K)
    | _ => False
  | .build T ps => match S.P.underlying T with
    | some (.struct fs) => match placesL S fs.toList with
      | some places => zeroK S T fun z => fillK (places[·]?) ev ps.toList z fun l => K (.agg l)
      | none => False
    | _ => False
  | .nilCheck x => match ev x with
    | .ptr b m i j => K (.ptr b m i j)
    | .fn f c => K (.fn f c)
    | _ => False
  | .binOp op T x y _ => match S.P.underlying T with
    | some (.int _) => binA op (ev x) (ev y) K
    | some .string => binA op (ev x) (ev y) K
    | some .bool => boolEqA (ev x) (ev y) (eqOp op K)
    | some (.slice _) => match y with
      | .const (.slice none _ _) => nilEqA (ev x) (eqOp op K)
      | _ => False
    | some (.struct _) => match S.flat T, ev x, ev y with
      | some n, .agg a, .agg b => match Nat.beq a.length n with
        | true => intsEqA a b (eqOp op K)
        | false => False
      | _, _, _ => False
    | _ => False
  | .unOp op _ x => match op, ev x with
    | .not, .tt => K .ff
    | .not, .ff => K .tt
    | .not, .prop p => K (.prop (¬p))
    | .neg, .int k n => inR k (-n) ∧ K (.int k (-n))
    | _, _ => False
  | .convert s d x => match S.P.underlying s with
    | none => False
    | some _ => match S.P.underlying d, ev x with
      | some (.int k), .int _ n => (inR k n ∧ K (.int k n)) ∨ K (.int k (k.wrap n))
      | some .string, .int _ n => (0 ≤ n ∧ n < 128) ∧ K (.str [n])
      | some .string, .str s => K (.str s)
      | _, _ => False
  | .makeFunc f first cap => match f with
    | .func f => match first.toList with
      | [] => forceL (cap.toList.map ev) fun l => K (.fn f l)
      | _ => False
    | _ => False
  | .fieldAddr T x f => match ev x with
    | .ptr b m i j => match S.P.underlying T with
      | some (.struct fs) => match fs.toList[f]? with
        | some fd => match Nat.ble 1 (szA S fd.type) with
          | true => natK (j + fd.offset) fun j => K (.ptr b m i j)
          | false => False
        | none => False
      | _ => False
    | _ => False
  | .field T x f => match ev x with
    | .agg l => match S.P.underlying T with
      | some (.struct fs) => match fs.toList[f]? with
        | some fd => match Nat.ble 1 (szA S fd.type) with
          | true => partA S fd.type l fd.offset K
          | false => False
        | none => False
      | _ => False
    | _ => False
  | .indexAddr T x ix => match S.P.underlying T, ev x, ev ix with
    | some (.slice e), .sl b m i n, .int _ k => match Nat.beq m (szA S e), Nat.ble 1 m with
      | true, true => (0 ≤ k ∧ k < n) ∧ offK (subOff i k) fun i => K (.ptr b m i 0)
      | _, _ => False
    | _, _, _ => False
  | .index T x ix => match S.P.underlying T, ev x, ev ix with
    | some .string, .str s, .int _ k => (0 ≤ k ∧ k < s.length) ∧ K (.int .u8 (s.getD k.toNat 0))
    | _, _, _ => False
  | .slice T x lo hi mx => sliceA S T ev x lo hi mx K
  | .extract x i => match ev x with
    | .tup vs => match vs[i]? with | some v => forceV v K | none => False
    | _ => False
  | .call c => lenminA S c ev K
  | _ => False

/-- operations that read memory -/
def readA (o : Op) (ev : Operand → AV) (H : Heap) (K : AV → Prop) : Prop :=
  match o with
  | .load T a => match ev a with
    | .ptr b m i j => atA H.ents b fun c => elemA b m i c fun l => partA S T l j K
    | _ => False
  | .convert s d x => match S.P.underlying s, S.P.underlying d with
    | some (.slice e), some .string => match S.P.underlying e with
      | some (.int .u8) => ∃ E : Enc Int, (E.m = 1 ∧ ∀ n, E.cells n = [.int .u8 n]) ∧ elemsA E H.ents (ev x) fun l => (∀ n ∈ l, 0 ≤ n ∧ n < 256) ∧ K (.str l)
      | _ => False
    | _, _ => False
  | _ => False

/-- operations that make memory: the content, and the value that tells of it -/
def newA (o : Op) (ev : Operand → AV) (K : Cont → (Nat → AV) → Prop) : Prop :=
  match o with
  | .alloc T => zeroK S T fun z => natK z.length fun m => K (.raw z) (fun n => .ptr (.loc n) m none 0)
  | .box T x => natK (szA S T) fun m => cellsK (ev x) fun cs => match Nat.beq cs.length m with
    | false => False
    | true => K (.raw cs) (fun n => .ptr (.loc n) m none 0)
  | .buildSlice T n ps => match S.P.underlying T with
    | some (.slice e) => zeroK S e fun z => natK z.length fun m => match Nat.beq m (szA S e), Nat.ble 1 m, Nat.ble (n * m) 16777216 with
      | true, true, true => forceL (List.replicate n z).flatten fun z =>
        fillK (fun i => some (i * m, m)) ev ps.toList z fun l => K (mkCont S e n l) (fun k => .sl (.loc k) m none n)
      | _, _, _ => False
    | _ => False
  | .makeSlice T l c => match S.P.underlying T with
    | some (.slice e) => match S.hint e with
      | some ⟨_, E⟩ => match ev l with
        | .int _ l => match ev c with
          | .int _ c => natK (bytesA S e) fun B => (0 ≤ l ∧ l = c ∧ l ≤ 140737488355328 ∧ l * B ≤ 140737488355328) ∧ natK E.m fun m =>
              K (.arr E (List.replicate l.toNat E.d)) (fun k => .sl (.loc k) m none l)
          | _ => False
        | _ => False
      | none => False
    | _ => False
  | .convert s d x => match S.P.underlying s, S.P.underlying d with
    | some .string, some (.slice e) => match S.P.underlying e with
      | some (.int .u8) => match S.hint e with
        | some ⟨_, E⟩ => match ev x with
          | .str t => ∃ ys, (E.m = 1 ∧ t.map (fun n => [AV.int .u8 n]) = ys.map E.cells) ∧ K (.arr E ys) (fun k => .sl (.loc k) 1 none t.length)
          | _ => False
        | none => False
      | _ => False
    | _, _ => False
  | _ => False
end
end Go.Vm

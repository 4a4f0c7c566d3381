/- An abstract machine over the loaded code: definitions. Its words tell what is to be shown of a piece of code. -/
import Derived.Calls
import Derived.WalkKit
import Derived.Laws.BitsLemmas
import Derived.Laws.Tables
set_option linter.unusedSimpArgs false
set_option linter.unusedVariables false
set_option linter.constructorNameAsVariable false
namespace Go.Vm
inductive Blk where
  | loc (n : Nat)
  | glob (g : Nat)
  | sub (b : Blk) (i : Int) (j : Nat)
inductive AV where
  | undef
  | tt
  | ff
  | prop (p : Prop)
  | int (k : IntKind) (n : Int)
  | str (s : List Int)
  | nilp
  | ptr (b : Blk) (m : Nat) (i : Option Int) (j : Nat)
  | nils
  | sl (b : Blk) (m : Nat) (i : Option Int) (n : Int)
  | nilf
  | fn (f : Nat) (cap : List AV)
  | niface
  | agg (vs : List AV)
  | tup (vs : List AV)
structure Enc (α : Type) where
  m : Nat
  d : α
  cells : α → List AV
  put : α → Nat → List AV → Option α
  parse : List AV → Option α
inductive Cont : Type 1 where
  | raw (vs : List AV)
  | arr {α : Type} (E : Enc α) (xs : List α)
  /-- elements that have blocks of their own; one of them may be open: its cells stand there -/
  | nest {α : Type} (m : Nat) (d : α) (cells : (Nat → Blk) → α → List AV) (slots : List Nat) (sub : α → Nat → Cont) (xs : List α) (o : Option (Int × List AV))
structure Ent where
  b : Blk
  rw : Bool
  c : Cont
structure Heap where
  ents : List Ent
  next : Nat
structure EncAny where
  α : Type
  E : Enc α
structure NestAny where
  α : Type
  m : Nat
  d : α
  cells : (Nat → Blk) → α → List AV
  s : List Nat
  sub : α → Nat → Cont
structure Seat where
  P : Program
  hint : TypeId → Option EncAny
  /-- struct types of whole numbers alone, and how many -/
  flat : TypeId → Option Nat
  /-- functions that are entered -/
  has : FuncId → Bool
  /-- functions for which the model stands in -/
  ext : FuncId → List AV → (AV → Prop) → Prop := fun _ _ _ => False
  nest : TypeId → Option NestAny := fun _ => none
def lits : List Nat := [0, 1, 2, 3, 4, 5, 6, 7, 8, 9, 10, 11, 12, 13, 14, 15, 16, 17, 18, 19, 20, 21, 22, 23, 24, 25, 26, 27, 28, 29, 30, 31, 32, 33, 34, 35, 36, 37, 38, 39, 40, 41, 42, 43, 44, 45, 46, 47, 48, 49, 50, 51, 52, 53, 54, 55, 56, 57, 58, 59, 60, 61, 62, 63, 64, 65, 66, 67, 68, 69, 70, 71, 72, 73, 74, 75, 76, 77, 78, 79, 80, 81, 82, 83, 84, 85, 86, 87, 88, 89, 90, 91, 92, 93, 94, 95, 96, 97, 98, 99, 100, 101, 102, 103, 104, 105, 106, 107, 108, 109, 110, 111, 112, 113, 114, 115, 116, 117, 118, 119, 120, 121, 122, 123, 124, 125, 126, 127, 128, 129, 130, 131, 132, 133, 134, 135, 136, 137, 138, 139, 140, 141, 142, 143, 144, 145, 146, 147, 148, 149, 150, 151, 152, 153, 154, 155, 156, 157, 158, 159]
def natGo : List Nat → Nat → (Nat → Prop) → Prop
  | [], n, K => K n
  | x :: r, n, K => match Nat.beq x n with | true => K x | false => natGo r n K
def natK (n : Nat) (K : Nat → Prop) : Prop := natGo lits n K
def blkK : Blk → (Blk → Prop) → Prop
  | .loc n, K => natK n fun n => K (.loc n)
  | .glob g, K => K (.glob g)
  | .sub b i j, K => blkK b fun b => natK j fun j => K (.sub b i j)
def offK (i : Option Int) (K : Option Int → Prop) : Prop := match i with | none => K none | some x => K (some x)
mutual
def forceV : AV → (AV → Prop) → Prop
  | .undef, K => K .undef
  | .tt, K => K .tt
  | .ff, K => K .ff
  | .prop p, K => K (.prop p)
  | .int k n, K => K (.int k n)
  | .str s, K => K (.str s)
  | .nilp, K => K .nilp
  | .ptr b m i j, K => blkK b fun b => natK m fun m => offK i fun i => natK j fun j => K (.ptr b m i j)
  | .nils, K => K .nils
  | .sl b m i n, K => blkK b fun b => natK m fun m => offK i fun i => K (.sl b m i n)
  | .nilf, K => K .nilf
  | .fn f cap, K => forceL cap fun cap => K (.fn f cap)
  | .niface, K => K .niface
  | .agg vs, K => forceL vs fun vs => K (.agg vs)
  | .tup vs, K => forceL vs fun vs => K (.tup vs)
def forceL : List AV → (List AV → Prop) → Prop
  | [], K => K []
  | v :: r, K => forceV v fun v => forceL r fun r => K (v :: r)
end
def forceO (o : Option (Int × List AV)) (K : Option (Int × List AV) → Prop) : Prop :=
  match o with
  | none => K none
  | some p => match p with
    | (i, cs) => forceL cs fun cs => K (some (i, cs))
def Cont.force : Cont → (Cont → Prop) → Prop
  | .raw vs, K => forceL vs fun vs => K (.raw vs)
  | .arr E xs, K => K (.arr E xs)
  | .nest m d g s f xs o, K => forceO o fun o => K (.nest m d g s f xs o)
def Blk.beq : Blk → Blk → Bool
  | .loc n, .loc m => Nat.beq n m
  | .glob n, .glob m => Nat.beq n m
  | _, _ => false
def getE : List Ent → Blk → Option Ent
  | [], _ => none
  | e :: r, b => match Blk.beq e.b b with | true => some e | false => getE r b
def setK : List Ent → Blk → Cont → (List Ent → Prop) → Prop
  | [], _, _, K => K []
  | e :: r, b, c, K => match Blk.beq e.b b with
    | true => match e with
      | ⟨b', rw', _⟩ => K (⟨b', rw', c⟩ :: r)
    | false => setK r b c fun r => K (e :: r)
def delK : List Ent → Blk → (List Ent → Prop) → Prop
  | [], _, K => K []
  | e :: r, b, K => match Blk.beq e.b b with
    | true => K r
    | false => delK r b fun r => K (e :: r)
def pushK (H : Heap) (c : Cont) (K : Nat → Heap → Prop) : Prop :=
  match H with
  | ⟨l, nx⟩ => c.force fun c => natK nx fun n => natK (n + 1) fun n' => K n ⟨⟨.loc n, true, c⟩ :: l, n'⟩
def setH (H : Heap) (b : Blk) (c : Cont) (K : Heap → Prop) : Prop :=
  match H with
  | ⟨l, nx⟩ => c.force fun c => setK l b c fun l => K ⟨l, nx⟩
def atA (H : List Ent) : Blk → (Bool → Cont → Prop) → Prop
  | .loc n, K => match getE H (.loc n) with | some e => K e.rw e.c | none => False
  | .glob n, K => match getE H (.glob n) with | some e => K e.rw e.c | none => False
  | .sub b i j, K => atA H b fun q c => match q with
    | true => False
    | false => match c with
      | .nest _ d _ s f xs o => match o with
        | none => (0 ≤ i ∧ i < xs.length ∧ j ∈ s) ∧ K false (f (xs.getD i.toNat d) j)
        | some _ => False
      | _ => False
def arrElemA (m : Nat) (i : Option Int) (m' n : Nat) (cell : Nat → List AV) (K : List AV → Prop) : Prop :=
  match i with
  | none => 0 < n ∧ K (cell 0)
  | some i => match Nat.beq m m' with
    | true => (0 ≤ i ∧ i < n) ∧ K (cell i.toNat)
    | false => False
def hideL : List AV → List AV
  | [] => []
  | v :: r => (match v with
    | .tt => .tt
    | .ff => .ff
    | .prop p => .prop p
    | .int k n => .int k n
    | .str s => .str s
    | _ => .undef) :: hideL r
def nestElemA (q : Bool) (b : Blk) (m : Nat) (i : Option Int) (m' : Nat) {α : Type} (d : α) (g : (Nat → Blk) → α → List AV) (xs : List α) (o : Option (Int × List AV)) (K : List AV → Prop) : Prop :=
  match i with
  | none => False
  | some i => match Nat.beq m m' with
    | false => False
    | true => match o with
      | some p => match p with
        | (i0, cs) => i = i0 ∧ K cs
      | none => match q with
        | false => (0 ≤ i ∧ i < xs.length) ∧ K (g (fun j => .sub b i j) (xs.getD i.toNat d))
        | true => (0 ≤ i ∧ i < xs.length) ∧ K (hideL (g (fun j => .sub b i j) (xs.getD i.toNat d)))
def elemA (q : Bool) (b : Blk) (m : Nat) (i : Option Int) (c : Cont) (K : List AV → Prop) : Prop :=
  match c with
  | .raw vs => match i with
    | none => K vs
    | some (.ofNat n) => K (vs.drop (n * m))
    | _ => False
  | .arr E xs => arrElemA m i E.m xs.length (fun i => E.cells (xs.getD i E.d)) K
  | .nest m' d g _ _ xs o => nestElemA q b m i m' d g xs o K
def bytesL (s : ByteArray) : List Int := s.data.toList.map fun b => (b.toNat : Int)
def cst : Value → AV
  | .bool true => .tt
  | .bool false => .ff
  | .int k n => .int k n
  | .string s => match Nat.ble s.size 9223372036854775807 with | true => .str (bytesL s) | false => .undef
  | .pointer none => .nilp
  | .slice none 0 0 => .nils
  | .nilFunc => .nilf
  | .nilIface => .niface
  | _ => .undef
def look : List (Nat × AV) → Nat → AV
  | [], _ => .undef
  | (s, v) :: r, t => match Nat.beq s t with | true => v | false => look r t
def evA (env : List (Nat × AV)) : Operand → AV
  | .tmp t => look env t
  | .const v => cst v
  | .global g => .ptr (.glob g) 0 none 0
  | .func f => .fn f []
def cellsK (v : AV) (K : List AV → Prop) : Prop :=
  match v with
  | .undef => False
  | .tup _ => False
  | .agg vs => K vs
  | v => K [v]
section
variable (S : Seat)
def szA (T : TypeId) : Nat := match S.P.info? T with | some i => i.size | none => 0
def bytesA (T : TypeId) : Nat := match S.P.info? T with | some i => i.bytes | none => 0
def aggB (T : TypeId) : Option Bool := match S.P.underlying T with
  | some (.struct _) => some true
  | some (.array _ _) => some true
  | some _ => some false
  | none => none
def zeroK (T : TypeId) (K : List AV → Prop) : Prop := match S.P.info? T with
  | some i => match i.zero with | some v => forceL (v.cells.toList.map cst) K | none => False
  | none => False
def elemT (T : TypeId) : TypeId := match S.P.underlying T with | some (.slice e) => e | _ => 0
def inR : IntKind → Int → Prop
  | .i8, n => -128 ≤ n ∧ n ≤ 127
  | .i16, n => -32768 ≤ n ∧ n ≤ 32767
  | .i32, n => -2147483648 ≤ n ∧ n ≤ 2147483647
  | .i64, n => -9223372036854775808 ≤ n ∧ n ≤ 9223372036854775807
  | .u8, n => 0 ≤ n ∧ n ≤ 255
  | .u16, n => 0 ≤ n ∧ n ≤ 65535
  | .u32, n => 0 ≤ n ∧ n ≤ 4294967295
  | .u64, n => 0 ≤ n ∧ n ≤ 18446744073709551615
def partA (T : TypeId) (l : List AV) (j : Nat) (K : AV → Prop) : Prop :=
  match aggB S T with
  | some true => match Nat.ble (j + szA S T) l.length, Nat.ble 1 (szA S T) with
    | true, true => forceL ((l.drop j).take (szA S T)) fun l => K (.agg l)
    | _, _ => False
  | some false => match l[j]? with | some v => forceV v K | none => False
  | none => False
def ikN : IntKind → Nat
  | .i8 => 0 | .i16 => 1 | .i32 => 2 | .i64 => 3 | .u8 => 4 | .u16 => 5 | .u32 => 6 | .u64 => 7
def kb (op : BinOp) (k k' : IntKind) : Bool := match op with
  | .shl => true
  | .shr => true
  | _ => Nat.beq (ikN k) (ikN k')
def binA (op : BinOp) (x y : AV) (K : AV → Prop) : Prop :=
  match x, y with
  | .int k a, .int k' b => match kb op k k' with
   | false => False
   | true => match op with
    | .eql => K (.prop (a = b))
    | .neq => K (.prop (¬ a = b))
    | .lss => K (.prop (a < b))
    | .leq => K (.prop (a ≤ b))
    | .gtr => K (.prop (b < a))
    | .geq => K (.prop (b ≤ a))
    | .add => (inR k (a + b) ∧ K (.int k (a + b))) ∨ K (.int k (k.wrap (a + b)))
    | .sub => (inR k (a - b) ∧ K (.int k (a - b))) ∨ K (.int k (k.wrap (a - b)))
    | .mul => (inR k (a * b) ∧ K (.int k (a * b))) ∨ K (.int k (k.wrap (a * b)))
    | .quo => (0 ≤ a ∧ 0 < b ∧ inR k a) ∧ K (.int k (a / b))
    | .rem => (0 ≤ a ∧ 0 < b) ∧ K (.int k (a % b))
    | .shl => (0 ≤ b ∧ b < k.bits ∧ inR k (a * 2 ^ b.toNat)) ∧ K (.int k (a * 2 ^ b.toNat))
    | .shr => (0 ≤ a ∧ 0 ≤ b ∧ b < k.bits) ∧ K (.int k (a / 2 ^ b.toNat))
    | .and => (0 ≤ a ∧ 0 ≤ b ∧ inR k a ∧ inR k b) ∧ K (.int k ((a.toNat &&& b.toNat : Nat) : Int))
    | .or => (0 ≤ a ∧ 0 ≤ b ∧ inR k a ∧ inR k b) ∧ K (.int k ((a.toNat ||| b.toNat : Nat) : Int))
    | .xor => (0 ≤ a ∧ 0 ≤ b ∧ inR k a ∧ inR k b) ∧ K (.int k ((a.toNat ^^^ b.toNat : Nat) : Int))
    | .andNot => (0 ≤ a ∧ 0 ≤ b ∧ inR k a ∧ inR k b) ∧ K (.int k ((a.toNat ^^^ (a.toNat &&& b.toNat) : Nat) : Int))
  | .str a, .str b =>
    match op with
    | .eql => K (.prop (a = b))
    | .neq => K (.prop (¬ a = b))
    | .add => (a.length : Int) + b.length ≤ 140737488355328 ∧ K (.str (a ++ b))
    | _ => False
  | _, _ => False
def boolEqA (x y : AV) (K : Prop → Prop) : Prop :=
  match x, y with
  | .tt, .tt => K True
  | .tt, .ff => K False
  | .ff, .tt => K False
  | .ff, .ff => K True
  | .tt, .prop p => K p
  | .ff, .prop p => K (¬p)
  | .prop p, .tt => K p
  | .prop p, .ff => K (¬p)
  | .prop p, .prop q => K (p ↔ q)
  | _, _ => False
def intsEqA : List AV → List AV → (Prop → Prop) → Prop
  | [.int k a], [.int k' b], K => match Nat.beq (ikN k) (ikN k') with | true => K (a = b) | false => False
  | .int k a :: r, .int k' b :: s, K => match Nat.beq (ikN k) (ikN k') with | true => intsEqA r s fun p => K (a = b ∧ p) | false => False
  | _, _, _ => False
def eqOp (op : BinOp) (K : AV → Prop) : Prop → Prop := match op with
  | .eql => fun p => K (.prop p)
  | .neq => fun p => K (.prop (¬ p))
  | _ => fun _ => False
def nilEqA (x : AV) (K : Prop → Prop) : Prop :=
  match x with
  | .sl _ _ _ n => ∀ p : Prop, (p → n = 0) → K p
  | .nils => ∀ p : Prop, K p
  | _ => False
def parseN {α : Type} (E : Enc α) : Nat → List AV → Option (List α)
  | 0, _ => some []
  | n + 1, vs => match E.parse (vs.take E.m) with
    | some x => match parseN E n (vs.drop E.m) with | some l => some (x :: l) | none => none
    | none => none
def mkCont (T : TypeId) (n : Nat) (vs : List AV) : Cont :=
  match S.hint T with
  | some ⟨_, E⟩ => match parseN E n vs with | some l => .arr E l | none => .raw vs
  | none => match n with
    | 0 => match S.nest T with
      | some ⟨_, m, d, g, s, f⟩ => .nest m d g s f [] none
      | none => .raw vs
    | _ + 1 => .raw vs
def putL (l : List AV) (j : Nat) (vs : List AV) : List AV := l.take j ++ (vs ++ l.drop (j + vs.length))
def fillK (place : Nat → Option (Nat × Nat)) (ev : Operand → AV) : List (Nat × Operand) → List AV → (List AV → Prop) → Prop
  | [], z, K => K z
  | (i, x) :: r, z, K => match place i with
    | none => False
    | some (off, size) => cellsK (ev x) fun cs => match Nat.beq cs.length size with
      | false => False
      | true => match Nat.ble (off + cs.length) z.length with
        | false => False
        | true => forceL (putL z off cs) fun z => fillK place ev r z K
def placesL : List Field → Option (List (Nat × Nat))
  | [] => some []
  | f :: r => match S.P.info? f.type with
    | some i => match placesL r with
      | some l => some ((f.offset, i.size) :: l)
      | none => none
    | none => none
def minmaxA (isMax : Bool) : List AV → (AV → Prop) → Prop
  | [.int k a, .int _ b], K => match isMax with
    | true => K (.int k (max a b))
    | false => K (.int k (min a b))
  | _, _ => False
def elemsA {α : Type} (E : Enc α) (H : List Ent) (x : AV) (K : List α → Prop) : Prop :=
  match x with
  | .nils => K []
  | .sl b m i n => atA H b fun _ c => ∃ ys : List α, c = .arr E ys ∧ m = E.m ∧ match i with
    | none => (0 ≤ n ∧ n ≤ ys.length) ∧ K (ys.take n.toNat)
    | some i => (0 ≤ i ∧ 0 ≤ n ∧ i + n ≤ ys.length) ∧ K ((ys.drop i.toNat).take n.toNat)
  | _ => False
inductive Kind where
  | pure
  | read
  | new
  | eff
def kindOf (o : Op) : Kind :=
  match o with
  | .load _ _ => .read
  | .convert s d _ => match S.P.underlying s, S.P.underlying d with
    | some (.slice _), some .string => .read
    | some .string, some (.slice _) => .new
    | some (.slice _), some (.slice _) => .eff
    | _, _ => .pure
  | .alloc _ | .box _ _ | .buildSlice _ _ _ | .makeSlice _ _ _ => .new
  | .store _ _ _ => .eff
  | .call c => match c.callee with
    | .builtin .len | .builtin .cap | .builtin .min | .builtin .max => .pure
    | _ => .eff
  | _ => .pure
def subOff (i : Option Int) (lo : Int) : Option Int := match i with | none => some lo | some i => some (i + lo)
def boundsA (ev : Operand → AV) (lo hi : Option Operand) (n : Int) (K : Int → Int → Prop) : Prop :=
  match lo, hi with
  | none, none => 0 ≤ n → K 0 n
  | some l, none => match ev l with
    | .int _ l => (0 ≤ l ∧ l ≤ n) ∧ K l n
    | _ => False
  | none, some h => match ev h with
    | .int _ h => (0 ≤ h ∧ h ≤ n) ∧ K 0 h
    | _ => False
  | some l, some h => match ev l with
    | .int _ l => match ev h with
      | .int _ h => (0 ≤ l ∧ l ≤ h ∧ h ≤ n) ∧ K l h
      | _ => False
    | _ => False
def isZero : AV → Bool
  | .int _ (.ofNat n) => Nat.beq n 0
  | _ => false
def zeroPieceA (ev : Operand → AV) (lo hi : Option Operand) (mx : Operand) (K : AV → Prop) : Prop :=
  match lo with
  | some _ => False
  | none => match hi with
    | none => False
    | some hi => match isZero (ev hi) with
      | false => False
      | true => match isZero (ev mx) with
        | false => False
        | true => K .nils
def sliceA (T : TypeId) (ev : Operand → AV) (x : Operand) (lo hi mx : Option Operand) (K : AV → Prop) : Prop :=
  match S.P.underlying T with
  | none => False
  | some .string => match ev x with
    | .str s => match mx with
      | some _ => False
      | none => boundsA ev lo hi s.length fun l h => K (.str ((s.take h.toNat).drop l.toNat))
    | _ => False
  | some (.slice e) => match ev x with
    | .sl b m i n => match Nat.beq m (szA S e), Nat.ble 1 m with
      | true, true => match mx with
        | some mx => zeroPieceA ev lo hi mx K
        | none => boundsA ev lo hi n fun l h => offK (subOff i l) fun i => K (.sl b m i (h - l))
      | _, _ => False
    | .nils => match Nat.ble 1 (szA S e) with
      | true => match mx with
        | some mx => zeroPieceA ev lo hi mx K
        | none => boundsA ev lo hi 0 fun _ _ => K .nils
      | false => False
    | _ => False
  | _ => False
def lenminA (c : Call) (ev : Operand → AV) (K : AV → Prop) : Prop :=
  match c.callee with
  | .builtin .len => match c.args.toList.map ev, c.argTypes.toList with
    | [x], [T] => match S.P.underlying T, x with
      | some .string, .str s => ((s.length : Int) ≤ 9223372036854775807 → K (.int .i64 s.length))
      | some (.slice _), .sl _ _ _ n => (0 ≤ n → n ≤ 9223372036854775807 → K (.int .i64 n))
      | some (.slice _), .nils => K (.int .i64 0)
      | _, _ => False
    | _, _ => False
  | .builtin .cap => match c.args.toList.map ev, c.argTypes.toList with
    | [x], [T] => match S.P.underlying T, x with
      | some (.slice _), .nils => K (.int .i64 0)
      | _, _ => False
    | _, _ => False
  | .builtin .min => minmaxA false (c.args.toList.map ev) K
  | .builtin .max => minmaxA true (c.args.toList.map ev) K
  | _ => False
def pureA (o : Op) (ev : Operand → AV) (K : AV → Prop) : Prop :=
  match o with
  | .move x | .assign x => forceV (ev x) K
  | .pick c a b => match ev c with
    | .tt => forceV (ev a) K
    | .ff => forceV (ev b) K
    | .prop p => (p → forceV (ev a) K) ∧ (¬p → forceV (ev b) K)
    | _ => False
  | .build T ps => match S.P.underlying T with
    | some (.struct fs) => match placesL S fs.toList with
      | some places => zeroK S T fun z => fillK (places[·]?) ev ps.toList z fun l => K (.agg l)
      | none => False
    | _ => False
  | .nilCheck x => match ev x with
    | .ptr b m i j => K (.ptr b m i j)
    | .fn f c => K (.fn f c)
    | _ => False
  | .binOp op T x y _ => match S.P.underlying T with
    | some (.int _) => binA op (ev x) (ev y) K
    | some .string => binA op (ev x) (ev y) K
    | some .bool => boolEqA (ev x) (ev y) (eqOp op K)
    | some (.slice _) => match y with
      | .const (.slice none _ _) => nilEqA (ev x) (eqOp op K)
      | _ => False
    | some (.struct _) => match S.flat T, ev x, ev y with
      | some n, .agg a, .agg b => match Nat.beq a.length n with
        | true => intsEqA a b (eqOp op K)
        | false => False
      | _, _, _ => False
    | _ => False
  | .unOp op _ x => match op, ev x with
    | .not, .tt => K .ff
    | .not, .ff => K .tt
    | .not, .prop p => K (.prop (¬p))
    | .neg, .int k n => inR k (-n) ∧ K (.int k (-n))
    | _, _ => False
  | .convert s d x => match S.P.underlying s with
    | none => False
    | some _ => match S.P.underlying d, ev x with
      | some (.int k), .int _ n => (inR k n ∧ K (.int k n)) ∨ K (.int k (k.wrap n))
      | some .string, .int _ n => (0 ≤ n ∧ n < 128) ∧ K (.str [n])
      | some .string, .str s => K (.str s)
      | _, _ => False
  | .makeFunc f first cap => match f with
    | .func f => match first.toList with
      | [] => forceL (cap.toList.map ev) fun l => K (.fn f l)
      | _ => False
    | _ => False
  | .fieldAddr T x f => match ev x with
    | .ptr b m i j => match S.P.underlying T with
      | some (.struct fs) => match fs.toList[f]? with
        | some fd => match Nat.ble 1 (szA S fd.type) with
          | true => natK (j + fd.offset) fun j => K (.ptr b m i j)
          | false => False
        | none => False
      | _ => False
    | _ => False
  | .field T x f => match ev x with
    | .agg l => match S.P.underlying T with
      | some (.struct fs) => match fs.toList[f]? with
        | some fd => match Nat.ble 1 (szA S fd.type) with
          | true => partA S fd.type l fd.offset K
          | false => False
        | none => False
      | _ => False
    | _ => False
  | .indexAddr T x ix => match S.P.underlying T, ev x, ev ix with
    | some (.slice e), .sl b m i n, .int _ k => match Nat.beq m (szA S e), Nat.ble 1 m with
      | true, true => (0 ≤ k ∧ k < n) ∧ offK (subOff i k) fun i => K (.ptr b m i 0)
      | _, _ => False
    | _, _, _ => False
  | .index T x ix => match S.P.underlying T, ev x, ev ix with
    | some .string, .str s, .int _ k => (0 ≤ k ∧ k < s.length) ∧ K (.int .u8 (s.getD k.toNat 0))
    | _, _, _ => False
  | .slice T x lo hi mx => sliceA S T ev x lo hi mx K
  | .extract x i => match ev x with
    | .tup vs => match vs[i]? with | some v => forceV v K | none => False
    | _ => False
  | .call c => lenminA S c ev K
  | _ => False
def readA (o : Op) (ev : Operand → AV) (H : Heap) (K : AV → Prop) : Prop :=
  match o with
  | .load T a => match ev a with
    | .ptr b m i j => atA H.ents b fun q c => elemA q b m i c fun l => partA S T l j K
    | _ => False
  | .convert s d x => match S.P.underlying s, S.P.underlying d with
    | some (.slice e), some .string => match S.P.underlying e with
      | some (.int .u8) => ∃ E : Enc Int, (E.m = 1 ∧ ∀ n, E.cells n = [.int .u8 n]) ∧ elemsA E H.ents (ev x) fun l => (∀ n ∈ l, 0 ≤ n ∧ n < 256) ∧ K (.str l)
      | _ => False
    | _, _ => False
  | _ => False
def newA (o : Op) (ev : Operand → AV) (K : Cont → (Nat → AV) → Prop) : Prop :=
  match o with
  | .alloc T => zeroK S T fun z => natK z.length fun m => K (.raw z) (fun n => .ptr (.loc n) m none 0)
  | .box T x => natK (szA S T) fun m => cellsK (ev x) fun cs => match Nat.beq cs.length m with
    | false => False
    | true => K (.raw cs) (fun n => .ptr (.loc n) m none 0)
  | .buildSlice T n ps => match S.P.underlying T with
    | some (.slice e) => zeroK S e fun z => natK z.length fun m => match Nat.beq m (szA S e), Nat.ble 1 m, Nat.ble (n * m) 16777216 with
      | true, true, true => forceL (List.replicate n z).flatten fun z =>
        fillK (fun i => some (i * m, m)) ev ps.toList z fun l => K (mkCont S e n l) (fun k => .sl (.loc k) m none n)
      | _, _, _ => False
    | _ => False
  | .makeSlice T l c => match S.P.underlying T with
    | some (.slice e) => match S.hint e with
      | some ⟨_, E⟩ => match ev l with
        | .int _ l => match ev c with
          | .int _ c => natK (bytesA S e) fun B => (0 ≤ l ∧ l = c ∧ l ≤ 140737488355328 ∧ l * B ≤ 140737488355328) ∧ natK E.m fun m =>
              K (.arr E (List.replicate l.toNat E.d)) (fun k => .sl (.loc k) m none l)
          | _ => False
        | _ => False
      | none => match S.nest e with
        | some ⟨_, m, d, g, s, f⟩ => match ev l with
          | .int _ l => match ev c with
            | .int _ c => natK (bytesA S e) fun B => (0 ≤ l ∧ l = c ∧ l ≤ 140737488355328 ∧ l * B ≤ 140737488355328) ∧ natK m fun m' =>
                K (.nest m d g s f (List.replicate l.toNat d) none) (fun k => .sl (.loc k) m' none l)
            | _ => False
          | _ => False
        | none => False
    | _ => False
  | .convert s d x => match S.P.underlying s, S.P.underlying d with
    | some .string, some (.slice e) => match S.P.underlying e with
      | some (.int .u8) => match S.hint e with
        | some ⟨_, E⟩ => match ev x with
          | .str t => ∃ ys, (E.m = 1 ∧ t.map (fun n => [AV.int .u8 n]) = ys.map E.cells) ∧ K (.arr E ys) (fun k => .sl (.loc k) 1 none t.length)
          | _ => False
        | none => False
      | _ => False
    | _, _ => False
  | _ => False
end
end Go.Vm

namespace Go.Vm
open Go.RowKit
abbrev Loc := Blk → Option (Nat × (Nat × Nat))
mutual
def VRel (ρ : Loc) : AV → Value → Prop
  | .undef, _ => True
  | .tt, r => r = .bool true
  | .ff, r => r = .bool false
  | .prop p, r => ∃ b, r = .bool b ∧ (b = true ↔ p)
  | .int k n, r => r = .int k n
  | .str s, r => ∃ a : ByteArray, r = .string a ∧ s = bytesL a ∧ a.size ≤ 9223372036854775807
  | .nilp, r => r = .pointer none
  | .ptr b m i j, r => ∃ k z, ρ b = some (k, z) ∧ 0 ≤ i.getD 0 ∧ r = .pointer (some ⟨k, z.1 + ((i.getD 0).toNat * m + j), none⟩)
  | .nils, r => ∃ a, r = .slice a 0 0
  | .sl b m i n, r => (ρ b = none ∧ n = 0 ∧ i.getD 0 = 0 ∧ ∃ a, r = .slice a 0 0) ∨
      ∃ k z cap off, ρ b = some (k, z) ∧ 0 ≤ i.getD 0 ∧ 0 ≤ n ∧ n.toNat ≤ cap ∧ cap ≤ 9223372036854775807 ∧
        (i.getD 0).toNat * m + cap * m ≤ z.2 ∧ (cap = 0 ∨ off = z.1 + (i.getD 0).toNat * m) ∧ r = .slice (some ⟨k, off, none⟩) n.toNat cap
  | .nilf, r => r = .nilFunc
  | .fn f cap, r => ∃ cs : List Value, r = .func (.func f) #[] cs.toArray ∧ VRels ρ cap cs
  | .niface, r => r = .nilIface
  | .agg vs, r => ∃ cs : List Value, r = .agg cs.toArray ∧ VRels ρ vs cs
  | .tup vs, r => ∃ cs : List Value, r = .tuple cs.toArray ∧ VRels ρ vs cs
def VRels (ρ : Loc) : List AV → List Value → Prop
  | [], l => l = []
  | v :: vs, l => ∃ r rs, l = r :: rs ∧ VRel ρ v r ∧ VRels ρ vs rs
end
def Blk.root : Blk → Option Nat
  | .loc n => some n
  | .glob _ => none
  | .sub b _ _ => b.root
def Blk.lt (N : Nat) (b : Blk) : Prop := ∀ n, b.root = some n → n < N
mutual
def AV.lt (N : Nat) : AV → Prop
  | .ptr b _ _ _ => b.lt N
  | .sl b _ _ _ => b.lt N
  | .fn _ cap => AV.lts N cap
  | .agg vs => AV.lts N vs
  | .tup vs => AV.lts N vs
  | _ => True
def AV.lts (N : Nat) : List AV → Prop
  | [] => True
  | v :: r => AV.lt N v ∧ AV.lts N r
end
def Agree (N : Nat) (ρ ρ' : Loc) : Prop := ∀ b : Blk, b.lt N → ρ' b = ρ b
theorem Agree.refl (N : Nat) (ρ : Loc) : Agree N ρ ρ := fun _ _ => rfl
theorem Agree.trans {N N' : Nat} {ρ ρ' ρ'' : Loc} (h : Agree N ρ ρ') (h' : Agree N' ρ' ρ'') (hN : N ≤ N') : Agree N ρ ρ'' :=
  fun b hb => (h' b fun n hn => Nat.lt_of_lt_of_le (hb n hn) hN).trans (h b hb)
theorem Blk.lt.mono {N N' : Nat} {b : Blk} (h : b.lt N) (hN : N ≤ N') : b.lt N' := fun n hn => Nat.lt_of_lt_of_le (h n hn) hN
mutual
theorem VRel.agree {N : Nat} {ρ ρ' : Loc} (h : Agree N ρ ρ') : ∀ {v : AV} {r : Value}, v.lt N → VRel ρ v r → VRel ρ' v r
  | .undef, _, _, hv => trivial
  | .tt, _, _, hv => hv
  | .ff, _, _, hv => hv
  | .prop _, _, _, hv => hv
  | .int _ _, _, _, hv => hv
  | .str _, _, _, hv => hv
  | .nilp, _, _, hv => hv
  | .ptr b _ _ _, _, hl, hv => by
    simp only [VRel] at hv ⊢
    rw [h b hl]; exact hv
  | .nils, _, _, hv => hv
  | .sl b _ _ _, _, hl, hv => by
    simp only [VRel] at hv ⊢
    rw [h b hl]; exact hv
  | .nilf, _, _, hv => hv
  | .fn _ _, _, hl, hv => by
    obtain ⟨cs, e, hc⟩ := hv
    exact ⟨cs, e, VRels.agree h hl hc⟩
  | .niface, _, _, hv => hv
  | .agg _, _, hl, hv => by
    obtain ⟨cs, e, hc⟩ := hv
    exact ⟨cs, e, VRels.agree h hl hc⟩
  | .tup _, _, hl, hv => by
    obtain ⟨cs, e, hc⟩ := hv
    exact ⟨cs, e, VRels.agree h hl hc⟩
theorem VRels.agree {N : Nat} {ρ ρ' : Loc} (h : Agree N ρ ρ') : ∀ {vs : List AV} {rs : List Value}, AV.lts N vs → VRels ρ vs rs → VRels ρ' vs rs
  | [], _, _, hv => hv
  | _ :: _, _, hl, hv => by
    obtain ⟨r, rs, e, h1, h2⟩ := hv
    exact ⟨r, rs, e, VRel.agree h hl.1 h1, VRels.agree h hl.2 h2⟩
end
mutual
theorem AV.lt.mono {N N' : Nat} (hN : N ≤ N') : ∀ {v : AV}, v.lt N → v.lt N'
  | .undef, _ | .tt, _ | .ff, _ | .prop _, _ | .int _ _, _ | .str _, _ | .nilp, _ | .nils, _ | .nilf, _ | .niface, _ => trivial
  | .ptr _ _ _ _, h => Blk.lt.mono h hN
  | .sl _ _ _ _, h => Blk.lt.mono h hN
  | .fn _ _, h => AV.lts.mono hN h
  | .agg _, h => AV.lts.mono hN h
  | .tup _, h => AV.lts.mono hN h
theorem AV.lts.mono {N N' : Nat} (hN : N ≤ N') : ∀ {vs : List AV}, AV.lts N vs → AV.lts N' vs
  | [], _ => trivial
  | _ :: _, h => ⟨AV.lt.mono hN h.1, AV.lts.mono hN h.2⟩
end
/-! the written-out forms say the same -/
theorem natGo_out : ∀ {l : List Nat} {n : Nat} {K : Nat → Prop}, natGo l n K → K n
  | [], _, _, h => h
  | x :: r, n, K, h => by
    unfold natGo at h
    split at h
    · rename_i e; rw [← Nat.eq_of_beq_eq_true e]; exact h
    · exact natGo_out h
theorem natK_out {n : Nat} {K : Nat → Prop} (h : natK n K) : K n := natGo_out h
theorem blkK_out : ∀ {b : Blk} {K : Blk → Prop}, blkK b K → K b
  | .loc _, K, h => natK_out (K := fun n => K (.loc n)) h
  | .glob _, _, h => h
  | .sub b i j, K, h => by
    have h1 := blkK_out (b := b) h
    exact natK_out (K := fun j => K (.sub b i j)) h1
theorem offK_out {i : Option Int} {K : Option Int → Prop} (h : offK i K) : K i := by cases i <;> exact h
mutual
theorem forceV_out : ∀ {v : AV} {K : AV → Prop}, forceV v K → K v
  | .undef, _, h | .tt, _, h | .ff, _, h | .prop _, _, h | .int _ _, _, h | .str _, _, h | .nilp, _, h | .nils, _, h | .nilf, _, h | .niface, _, h => h
  | .ptr b m i j, K, h => by
    have h1 := blkK_out h
    have h2 := natK_out h1
    have h3 := offK_out h2
    exact natK_out (K := fun j => K (.ptr b m i j)) h3
  | .sl b m i n, K, h => by
    have h1 := blkK_out h
    have h2 := natK_out h1
    exact offK_out (K := fun i => K (.sl b m i n)) h2
  | .fn f c, K, h => forceL_out (K := fun c => K (.fn f c)) h
  | .agg c, K, h => forceL_out (K := fun c => K (.agg c)) h
  | .tup c, K, h => forceL_out (K := fun c => K (.tup c)) h
theorem forceL_out : ∀ {l : List AV} {K : List AV → Prop}, forceL l K → K l
  | [], _, h => h
  | v :: r, K, h => by
    have h1 := forceV_out (K := fun v => forceL r fun r => K (v :: r)) h
    exact forceL_out (K := fun r => K (v :: r)) h1
end
theorem forceO_out {o : Option (Int × List AV)} {K : Option (Int × List AV) → Prop} (h : forceO o K) : K o := by
  cases o with
  | none => exact h
  | some p => obtain ⟨i, cs⟩ := p; exact forceL_out (K := fun cs => K (some (i, cs))) h
theorem Cont.force_out {c : Cont} {K : Cont → Prop} (h : c.force K) : K c := by
  cases c with
  | raw vs => exact forceL_out (K := fun vs => K (.raw vs)) h
  | arr E xs => exact h
  | nest m d g s f xs o => exact forceO_out (K := fun o => K (.nest m d g s f xs o)) h
theorem pushK_out {H : Heap} {c : Cont} {K : Nat → Heap → Prop} (h : pushK H c K) : K H.next ⟨⟨.loc H.next, true, c⟩ :: H.ents, H.next + 1⟩ := by
  obtain ⟨l, nx⟩ := H
  have h : c.force fun c => natK nx fun n => natK (n + 1) fun n' => K n ⟨⟨.loc n, true, c⟩ :: l, n'⟩ := h
  have h := Cont.force_out h
  have h := natK_out h
  exact natK_out (K := fun n' => K nx ⟨_, n'⟩) h
theorem VRels.length {ρ : Loc} : ∀ {vs : List AV} {rs : List Value}, VRels ρ vs rs → rs.length = vs.length
  | [], _, h => by rw [h]; rfl
  | _ :: _, _, h => by
    obtain ⟨r, rs, rfl, _, h2⟩ := h
    simp [VRels.length h2]
theorem VRels.get {ρ : Loc} : ∀ {vs : List AV} {rs : List Value} {j : Nat} {v : AV}, VRels ρ vs rs → vs[j]? = some v → ∃ r, rs[j]? = some r ∧ VRel ρ v r
  | [], _, _, _, _, h => by simp at h
  | _ :: _, _, 0, v, h, e => by
    obtain ⟨r, rs, rfl, h1, h2⟩ := h
    simp at e; subst e
    exact ⟨r, rfl, h1⟩
  | _ :: _, _, j + 1, v, h, e => by
    obtain ⟨r, rs, rfl, h1, h2⟩ := h
    simp at e
    obtain ⟨r', e', h'⟩ := VRels.get h2 e
    exact ⟨r', by simpa using e', h'⟩
theorem VRels.drop {ρ : Loc} : ∀ {vs : List AV} {rs : List Value} (j : Nat), VRels ρ vs rs → VRels ρ (vs.drop j) (rs.drop j)
  | _, _, 0, h => by simpa using h
  | [], _, _ + 1, h => by rw [h]; simp [VRels]
  | _ :: _, _, j + 1, h => by
    obtain ⟨r, rs, rfl, h1, h2⟩ := h
    simpa using VRels.drop j h2
theorem VRels.take {ρ : Loc} : ∀ {vs : List AV} {rs : List Value} (j : Nat), VRels ρ vs rs → VRels ρ (vs.take j) (rs.take j)
  | _, _, 0, h => by simp [VRels]
  | [], _, _ + 1, h => by rw [h]; simp [VRels]
  | v :: vs, _, j + 1, h => by
    obtain ⟨r, rs, rfl, h1, h2⟩ := h
    have h3 : VRels ρ (vs.take j) (rs.take j) := VRels.take j h2
    exact ⟨r, rs.take j, rfl, h1, h3⟩
theorem VRels.append {ρ : Loc} : ∀ {vs vs' : List AV} {rs rs' : List Value}, VRels ρ vs rs → VRels ρ vs' rs' → VRels ρ (vs ++ vs') (rs ++ rs')
  | [], _, _, _, h, h' => by rw [h]; exact h'
  | _ :: _, _, _, _, h, h' => by
    obtain ⟨r, rs, rfl, h1, h2⟩ := h
    exact ⟨r, _, rfl, h1, VRels.append h2 h'⟩
theorem VRels.plain {ρ ρ' : Loc} {vs : List AV} {rs : List Value} (hp : AV.lts 0 vs) (h : VRels ρ vs rs) (hg : ∀ b : Blk, b.root = none → ρ' b = ρ b := by intro b hb; rfl) : VRels ρ' vs rs :=
  VRels.agree (N := 0) (fun b hb => hg b (by cases h : b.root with | none => rfl | some n => exact absurd (hb n h) (by omega))) hp h
theorem cst_rel (ρ : Loc) (v : Value) : VRel ρ (cst v) v := by
  unfold cst
  split
  · rfl
  · rfl
  · rfl
  · split
    · rename_i h; exact ⟨_, rfl, rfl, Nat.le_of_ble_eq_true h⟩
    · trivial
  · rfl
  · exact ⟨_, rfl⟩
  · rfl
  · rfl
  · trivial
theorem bytesL_length (s : ByteArray) : (bytesL s).length = s.size := by
  unfold bytesL
  rw [List.length_map]
  rfl
end Go.Vm

namespace Go.Vm
open Go.RowKit
theorem wrap_in {k : IntKind} {n : Int} (h : inR k n) : k.wrap n = n := by
  cases k <;> simp only [inR] at h <;> simp [IntKind.wrap, IntKind.bits, IntKind.signed] <;> omega
theorem bits_of {k : IntKind} {a b : Int} (ha : 0 ≤ a) (hb : 0 ≤ b) (ka : inR k a) (kb : inR k b) :
    (BitVec.ofInt k.bits a).toNat = a.toNat ∧ (BitVec.ofInt k.bits b).toNat = b.toNat ∧ a.toNat < 2 ^ (if k.signed then k.bits - 1 else k.bits) ∧ b.toNat < 2 ^ (if k.signed then k.bits - 1 else k.bits) := by
  cases k <;> simp only [inR] at ka kb <;> simp [IntKind.bits, IntKind.signed, BitVec.toNat_ofInt] <;> omega
theorem wrap_nat {k : IntKind} {n : Nat} (h : n < 2 ^ (if k.signed then k.bits - 1 else k.bits)) : k.wrap (n : Int) = n := by
  cases k <;> simp [IntKind.bits, IntKind.signed] at h <;> simp [IntKind.wrap, IntKind.bits, IntKind.signed] <;> omega
theorem ik_eq {k k' : IntKind} (h : Nat.beq (ikN k) (ikN k') = true) : k = k' := by
  cases k <;> cases k' <;> first | rfl | (simp [ikN] at h)
section
variable {S : Seat} {ρ : Loc} {N : Nat}
def Got (ρ : Loc) (N : Nat) (K : AV → Prop) (r : Value) : Prop := ∃ v, K v ∧ VRel ρ v r ∧ v.lt N
def Tells (S : Seat) (ρ : Loc) (N : Nat) (K : AV → Prop) (x : Sem Value) : Prop := ∃ r, Got ρ N K r ∧ ∀ w, x.run S.P w = .ok r w
theorem Tells.mk {K : AV → Prop} {v : AV} {r : Value} {x : Sem Value} (h : K v) (hr : VRel ρ v r) (hl : v.lt N) (hx : ∀ w, x.run S.P w = .ok r w) :
    Tells S ρ N K x := ⟨r, ⟨v, h, hr, hl⟩, hx⟩
theorem intBits_run {k : IntKind} {x : Sem Value} {K : AV → Prop} {c : Nat} (hc : c < 2 ^ (if k.signed then k.bits - 1 else k.bits)) (h : K (.int k c))
    (hr : ∀ w, x.run S.P w = .ok (.int k (k.wrap (c : Int))) w) : Tells S ρ N K x :=
  .mk h (r := .int k c) rfl trivial fun w => by rw [hr, wrap_nat hc]
set_option maxHeartbeats 1000000 in
theorem binInt {op : BinOp} {T : TypeId} {k k' : IntKind} {a b : Int} {K : AV → Prop} (h : binA op (.int k a) (.int k' b) K) :
    Tells S ρ N K (binOp op T (.int k a) (.int k' b)) := by
  simp only [binA] at h
  split at h
  · exact h.elim
  rename_i hk
  by_cases hs : op = .shl ∨ op = .shr
  · rcases hs with rfl | rfl
    · obtain ⟨⟨h1, h2, h3⟩, h⟩ := h
      refine .mk h (r := .int k _) rfl trivial fun w => ?_
      have : min b.toNat k.bits = b.toNat := by omega
      simp [binOp, Op.shift, show ¬ b < 0 by omega, this, wrap_in h3]
    · obtain ⟨⟨h1, h2, h3⟩, h⟩ := h
      refine .mk h (r := .int k _) rfl trivial fun w => ?_
      have : min b.toNat k.bits = b.toNat := by omega
      have e : (2 : Int) ^ b.toNat = ((2 ^ b.toNat : Nat) : Int) := by simp
      have e2 : a.fdiv (2 ^ b.toNat) = a / 2 ^ b.toNat := by rw [e, Int.fdiv_eq_ediv_of_nonneg _ (Int.natCast_nonneg _)]
      simp [binOp, Op.shift, show ¬ b < 0 by omega, this, e2]
  · have hkk : k = k' := by
      apply ik_eq
      cases op <;> simp_all [kb]
    subst hkk
    cases op with
    | shl => simp at hs
    | shr => simp at hs
    | eql => exact .mk h (r := .bool (a == b)) ⟨_, rfl, by simp⟩ trivial fun w => by simp [binOp, Op.intCmp]
    | neq => exact .mk h (r := .bool (a != b)) ⟨_, rfl, by simp⟩ trivial fun w => by simp [binOp, Op.intCmp]
    | lss => exact .mk h (r := .bool (a < b)) ⟨_, rfl, by simp⟩ trivial fun w => by simp [binOp, Op.intCmp]
    | leq => exact .mk h (r := .bool (a ≤ b)) ⟨_, rfl, by simp⟩ trivial fun w => by simp [binOp, Op.intCmp]
    | gtr => exact .mk h (r := .bool (a > b)) ⟨_, rfl, by simp⟩ trivial fun w => by simp [binOp, Op.intCmp]
    | geq => exact .mk h (r := .bool (a ≥ b)) ⟨_, rfl, by simp⟩ trivial fun w => by simp [binOp, Op.intCmp]
    | add =>
      rcases h with h | h
      · exact .mk h.2 (r := .int k (a + b)) rfl trivial fun w => by simp [binOp, Op.intArith, wrap_in h.1]
      · exact .mk h (r := .int k (k.wrap (a + b))) rfl trivial fun w => by simp [binOp, Op.intArith]
    | sub =>
      rcases h with h | h
      · exact .mk h.2 (r := .int k (a - b)) rfl trivial fun w => by simp [binOp, Op.intArith, wrap_in h.1]
      · exact .mk h (r := .int k (k.wrap (a - b))) rfl trivial fun w => by simp [binOp, Op.intArith]
    | mul =>
      rcases h with h | h
      · exact .mk h.2 (r := .int k (a * b)) rfl trivial fun w => by simp [binOp, Op.intArith, wrap_in h.1]
      · exact .mk h (r := .int k (k.wrap (a * b))) rfl trivial fun w => by simp [binOp, Op.intArith]
    | quo =>
      obtain ⟨⟨h1, h2, h3⟩, h⟩ := h
      have e : a.tdiv b = a / b := Int.tdiv_eq_ediv_of_nonneg h1
      have h4 : inR k (a / b) := by
        have l1 : a / b ≤ a := Int.ediv_le_self _ h1
        have l2 : 0 ≤ a / b := Int.ediv_nonneg h1 (by omega)
        cases k <;> simp only [inR] at h3 ⊢ <;> omega
      exact .mk h (r := .int k (a / b)) rfl trivial fun w => by simp [binOp, Op.intDiv, show ¬ b = 0 by omega, e, wrap_in h4]
    | rem =>
      obtain ⟨⟨h1, h2⟩, h⟩ := h
      exact .mk h (r := .int k (a % b)) rfl trivial fun w => by simp [binOp, Op.intDiv, show ¬ b = 0 by omega, Int.tmod_eq_emod_of_nonneg h1]
    | and =>
      obtain ⟨⟨h1, h2, h3, h4⟩, h⟩ := h
      obtain ⟨e1, e2, l1, l2⟩ := bits_of h1 h2 h3 h4
      refine intBits_run (Nat.lt_of_le_of_lt Nat.and_le_left l1) h fun w => ?_
      simp [binOp, Op.intBits, e1, e2]
    | or =>
      obtain ⟨⟨h1, h2, h3, h4⟩, h⟩ := h
      obtain ⟨e1, e2, l1, l2⟩ := bits_of h1 h2 h3 h4
      refine intBits_run (Nat.or_lt_two_pow l1 l2) h fun w => ?_
      simp [binOp, Op.intBits, e1, e2]
    | xor =>
      obtain ⟨⟨h1, h2, h3, h4⟩, h⟩ := h
      obtain ⟨e1, e2, l1, l2⟩ := bits_of h1 h2 h3 h4
      refine intBits_run (Nat.xor_lt_two_pow l1 l2) h fun w => ?_
      simp [binOp, Op.intBits, e1, e2]
    | andNot =>
      obtain ⟨⟨h1, h2, h3, h4⟩, h⟩ := h
      obtain ⟨e1, e2, l1, l2⟩ := bits_of h1 h2 h3 h4
      refine intBits_run (Nat.xor_lt_two_pow l1 (Nat.lt_of_le_of_lt Nat.and_le_left l1)) h fun w => ?_
      have e : BitVec.ofInt k.bits a &&& ~~~BitVec.ofInt k.bits b = BitVec.ofInt k.bits a ^^^ (BitVec.ofInt k.bits a &&& BitVec.ofInt k.bits b) := by
        apply BitVec.eq_of_getLsbD_eq
        intro i hi
        simp only [BitVec.getLsbD_and, BitVec.getLsbD_not, BitVec.getLsbD_xor, hi, decide_true, Bool.true_and]
        cases (BitVec.ofInt k.bits a).getLsbD i <;> cases (BitVec.ofInt k.bits b).getLsbD i <;> rfl
      simp only [binOp, ne_eq, not_true_eq_false, if_false, Op.intBits, e, Sem.run_pure, BitVec.toNat_xor, BitVec.toNat_and, e1, e2]
end
end Go.Vm
namespace Go.Vm
open Go.RowKit
section
variable {S : Seat} {ρ : Loc} {N : Nat}
theorem bytesL_inj {a b : ByteArray} : bytesL a = bytesL b ↔ a = b := by
  unfold bytesL
  rw [List.map_inj_right (fun x y h => UInt8.toNat_inj.1 (by exact_mod_cast h)), Array.toList_inj]
  exact ⟨fun h => ByteArray.ext h, fun h => by rw [h]⟩
theorem bytesL_append (a b : ByteArray) : bytesL (a ++ b) = bytesL a ++ bytesL b := by
  unfold bytesL
  rw [ByteArray.data_append]
  simp
theorem binStr {op : BinOp} {T : TypeId} {s t : List Int} {x y : Value} {K : AV → Prop} (h : binA op (.str s) (.str t) K)
    (hx : VRel ρ (.str s) x) (hy : VRel ρ (.str t) y) : Tells S ρ N K (binOp op T x y) := by
  obtain ⟨a, rfl, rfl, _⟩ := hx
  obtain ⟨b, rfl, rfl, _⟩ := hy
  have e : (a.toList == b.toList) = true ↔ bytesL a = bytesL b := by
    rw [bytesL_inj, beq_iff_eq, ByteArray.toList_eq, ByteArray.toList_eq, Array.toList_inj]
    exact ⟨fun h => ByteArray.ext h, fun h => by rw [h]⟩
  simp only [binA] at h
  cases op with
  | eql => exact .mk h (r := .bool (a.toList == b.toList)) ⟨_, rfl, e⟩ trivial fun w => by simp [binOp, Op.stringOp]
  | neq => exact .mk h (r := .bool !(a.toList == b.toList)) ⟨_, rfl, by rw [← e]; simp⟩ trivial fun w => by simp [binOp, Op.stringOp]
  | add =>
    obtain ⟨h1, h⟩ := h
    rw [bytesL_length, bytesL_length] at h1
    refine .mk h (r := .string (a ++ b)) ⟨_, rfl, (bytesL_append a b).symm, by rw [ByteArray.size_append]; omega⟩ trivial fun w => ?_
    simp only [binOp, Op.stringOp]
    rw [if_neg (by simp [IntKind.max, IntKind.bits, IntKind.signed]; omega)]
    rfl
  | _ => exact h.elim
end
end Go.Vm

namespace Go.Vm
open Go.RowKit
def FlatOk (P : Program) (T : TypeId) (n : Nat) : Prop :=
  P.eqGuardType P.depth T = false ∧
  ∀ as bs : List (IntKind × Int), as.length = n → bs.length = n → as.map (·.1) = bs.map (·.1) → ∀ w,
    (Op.equal T (.agg (as.map fun x => Value.int x.1 x.2).toArray) (.agg (bs.map fun x => Value.int x.1 x.2).toArray)).run P w = .ok (decide (as = bs)) w
def flatV : AV → Bool
  | .undef => false
  | .agg _ => false
  | .tup _ => false
  | _ => true
def flatL : List AV → Bool
  | [] => true
  | v :: r => match flatV v with | true => flatL r | false => false
structure EncOk (P : Program) (T : TypeId) {α : Type} (E : Enc α) : Prop where
  m : (P.info? T).map (·.size) = some E.m
  pos : 0 < E.m
  len : ∀ x, (E.cells x).length = E.m
  plain : ∀ x N, AV.lts N (E.cells x)
  flat : ∀ x, flatL (E.cells x) = true
  put : ∀ x j vs y, E.put x j vs = some y → j + vs.length ≤ E.m ∧ ∀ ρ rs l, VRels ρ (E.cells x) l → VRels ρ vs rs → VRels ρ (E.cells y) (l.take j ++ (rs ++ l.drop (j + rs.length)))
  parse : ∀ vs y, E.parse vs = some y → ∀ ρ rs, VRels ρ vs rs → VRels ρ (E.cells y) rs
  zero : ∃ z, ((P.info? T).bind (·.zero)).map (·.cells.toList) = some z ∧ ∀ ρ, VRels ρ (E.cells E.d) z
def Cont.empty : Cont → Prop
  | .raw vs => vs = []
  | .arr _ xs => xs = []
  | .nest _ _ _ _ _ xs o => xs = [] ∧ o = none
def Cont.closed : Cont → Prop
  | .raw _ => False
  | .nest _ _ _ _ _ _ o => o = none
  | .arr _ _ => True
structure NestOk (P : Program) (T : TypeId) {α : Type} (m : Nat) (d : α) (g : (Nat → Blk) → α → List AV) (s : List Nat) (f : α → Nat → Cont) : Prop where
  siz : (P.info? T).map (·.size) = some m
  pos : 0 < m
  len : ∀ n x, (g n x).length = m
  flat : ∀ n x, flatL (g n x) = true
  lt : ∀ N n x, (∀ j, j ∈ s → (n j).lt N) → AV.lts N (g n x)
  ren : ∀ (ρ ρ' : Loc) (n n' : Nat → Blk) x rs, (∀ j, j ∈ s → ρ' (n' j) = ρ (n j)) → VRels ρ (g n x) rs → VRels ρ' (g n' x) rs
  zero : ∃ z, ((P.info? T).bind (·.zero)).map (·.cells.toList) = some z ∧ ∀ (ρ : Loc) n, (∀ j, j ∈ s → ρ (n j) = none) → VRels ρ (g n d) z
  nil : ∀ j, j ∈ s → (f d j).empty
def ContOk (S : Seat) : Cont → Prop
  | .arr E _ => ∃ T, EncOk S.P T E
  | .nest m d g s f _ _ => (∃ T, NestOk S.P T m d g s f) ∧ ∀ x j, ContOk S (f x j) ∧ (f x j).closed
  | _ => True
structure SeatOk (S : Seat) : Prop where
  flat : ∀ T n, S.flat T = some n → FlatOk S.P T n
  hint : ∀ T x, S.hint T = some x → EncOk S.P T x.E
  mixed : S.P.follows .mixedOrders = true
  nest : ∀ T x, S.nest T = some x → NestOk S.P T x.m x.d x.cells x.s x.sub ∧ ∀ y j, ContOk S (x.sub y j) ∧ (x.sub y j).closed := by intro T x h; simp at h
  has : ∀ n, S.has n = true → ∃ fn, S.P.funcs[n]? = some fn ∧ fn.body.isSome = true ∧ (fn.name == "runtime.NumGoroutine") = false
  ext : ∀ n args K, S.ext n args K → ∀ (ρ : Loc) (rs : List Value) (w : World), VRels ρ args rs →
    ∃ v r, (callFunc n rs.toArray).run S.P w = .ok (.value r) w ∧ VRel ρ v r ∧ v.lt 0 ∧ K v
section
variable {S : Seat} {ρ : Loc} {N : Nat}
theorem run_und {T : TypeId} {d : TypeDesc} (h : S.P.underlying T = some d) (w : World) : (underlying T).run S.P w = .ok d w := run_underlying h w
theorem run_size {T : TypeId} (h : 0 < szA S T) (w : World) : (sizeOf T).run S.P w = .ok (szA S T) w := by
  unfold szA at h ⊢
  split at h
  · rename_i i hi
    simp [sizeOf, typeInfo, hi]
  · omega
theorem boolEq_sound {op : BinOp} {T : TypeId} {a b : AV} {x y : Value} {K : AV → Prop} (hT : S.P.underlying T = some .bool) (h : boolEqA a b (eqOp op K))
    (hx : VRel ρ a x) (hy : VRel ρ b y) : Tells S ρ N K (binOp op T x y) := by
  have key : ∀ (p q : Bool) (c : Prop), (p = q ↔ c) → eqOp op K c → x = .bool p → y = .bool q → Tells S ρ N K (binOp op T x y) := by
    intro p q c hc h ex ey
    subst ex; subst ey
    have hr : ∀ w, (Op.equal T (.bool p) (.bool q)).run S.P w = .ok (p == q) w := by
      intro w
      show (Op.equalIn (9999 + 1) T _ _).run S.P w = _
      rw [Op.equalIn]
      simp [run_und hT]
    cases op with
    | eql => exact .mk (v := .prop c) h (r := .bool (p == q)) ⟨_, rfl, by simpa using hc⟩ trivial fun w => by simp [binOp, hr]
    | neq => exact .mk (v := .prop (¬ c)) h (r := .bool (!(p == q))) ⟨_, rfl, by simp [← hc]⟩ trivial fun w => by simp [binOp, hr]
    | _ => exact h.elim
  unfold boolEqA at h
  split at h
  · exact key true true _ (by simp) h hx hy
  · exact key true false _ (by simp) h hx hy
  · exact key false true _ (by simp) h hx hy
  · exact key false false _ (by simp) h hx hy
  · obtain ⟨q, e, hq⟩ := hy; exact key _ _ _ (by rw [← hq]; exact eq_comm) h hx e
  · obtain ⟨q, e, hq⟩ := hy; exact key _ _ _ (by rw [← hq]; cases q <;> simp) h hx e
  · obtain ⟨q, e, hq⟩ := hx; exact key _ _ _ (by rw [← hq]) h e hy
  · obtain ⟨q, e, hq⟩ := hx; exact key _ _ _ (by rw [← hq]; cases q <;> simp) h e hy
  · obtain ⟨q, e, hq⟩ := hx; obtain ⟨q', e', hq'⟩ := hy; exact key _ _ _ (by rw [← hq, ← hq']; cases q <;> cases q' <;> simp) h e e'
  · exact h.elim
theorem nilEq_sound {op : BinOp} {T e : TypeId} {a : AV} {x : Value} {n c : Nat} {K : AV → Prop} (hT : S.P.underlying T = some (.slice e)) (h : nilEqA a (eqOp op K))
    (hx : VRel ρ a x) : Tells S ρ N K (binOp op T x (.slice none n c)) := by
  have key : ∀ (b : Option Addr) (l c' : Nat), x = .slice b l c' → (∀ p : Prop, (p → b = none) → (b = none → p) → eqOp op K p) → Tells S ρ N K (binOp op T x (.slice none n c)) := by
    intro b l c' ex h
    subst ex
    have hr : ∀ w, (Op.equal T (.slice b l c') (.slice none n c)).run S.P w = .ok b.isNone w := by
      intro w
      show (Op.equalIn (9999 + 1) T _ _).run S.P w = _
      rw [Op.equalIn]
      cases b <;> simp [run_und hT]
    have h := h (b = none) id id
    cases op with
    | eql => exact .mk (v := .prop (b = none)) h (r := .bool b.isNone) ⟨_, rfl, by simp⟩ trivial fun w => by simp [binOp, hr]
    | neq => exact .mk (v := .prop (¬ b = none)) h (r := .bool !b.isNone) ⟨_, rfl, by cases b <;> simp⟩ trivial fun w => by simp [binOp, hr]
    | _ => exact h.elim
  unfold nilEqA at h
  split at h
  · rcases hx with ⟨_, e1, _, a, e2⟩ | ⟨k, z, cap, off, _, _, _, _, _, _, _, e2⟩
    · exact key _ _ _ e2 fun p _ _ => h p fun _ => e1
    · exact key _ _ _ e2 fun p hp _ => h p fun q => by simpa using hp q
  · obtain ⟨b, e2⟩ := hx
    exact key _ _ _ e2 fun p _ _ => h p
  · exact h.elim
theorem intsEq_out : ∀ {a b : List AV} {K : Prop → Prop}, intsEqA a b K → ∃ as bs : List (IntKind × Int), as.length = a.length ∧ as.length = bs.length ∧ as.map (·.1) = bs.map (·.1) ∧
    a = as.map (fun x => AV.int x.1 x.2) ∧ b = bs.map (fun x => AV.int x.1 x.2) ∧ ∃ c : Prop, K c ∧ (c ↔ as = bs)
  | a, b, K, h => by
    unfold intsEqA at h
    split at h
    · rename_i k x k' y
      split at h
      · rename_i e
        obtain rfl := ik_eq e
        exact ⟨[(k, x)], [(k, y)], rfl, rfl, rfl, rfl, rfl, _, h, ⟨fun e => by rw [e], fun e => by injection e with e _; injection e⟩⟩
      · exact h.elim
    · rename_i k x r k' y s _
      split at h
      · rename_i e
        obtain rfl := ik_eq e
        obtain ⟨as, bs, h1, h2, h3, rfl, rfl, c, hc, e⟩ := intsEq_out h
        exact ⟨(k, x) :: as, (k, y) :: bs, by simp, by simp [h2], by simp [h3], rfl, rfl, _, hc,
          ⟨fun q => by rw [q.1, e.1 q.2], fun q => by injection q with q1 q2; injection q1 with _ q3; exact ⟨q3, e.2 q2⟩⟩⟩
      · exact h.elim
    · exact h.elim
theorem ints_rel {l : List (IntKind × Int)} : ∀ {rs : List Value}, VRels ρ (l.map fun x => AV.int x.1 x.2) rs → rs = l.map fun x => Value.int x.1 x.2 := by
  induction l with
  | nil => intro rs h; exact h
  | cons x l ih =>
    intro rs h
    obtain ⟨r, rs, rfl, h1, h2⟩ := h
    simp only [VRel] at h1
    rw [h1, ih h2]; rfl
theorem flatEq_sound {op : BinOp} {T : TypeId} {n : Nat} {a b : List AV} {x y : Value} {K : AV → Prop} (hF : FlatOk S.P T n) (hn : a.length = n) (h : intsEqA a b (eqOp op K))
    (hx : VRel ρ (.agg a) x) (hy : VRel ρ (.agg b) y) : Tells S ρ N K (binOp op T x y) := by
  obtain ⟨as, bs, h1, h2, h3, rfl, rfl, c, hc, e⟩ := intsEq_out h
  obtain ⟨xs, rfl, hx⟩ := hx
  obtain ⟨ys, rfl, hy⟩ := hy
  rw [ints_rel hx, ints_rel hy]
  have hr := fun w => hF.2 as bs (by simpa using hn) (by rw [← h2]; simpa using hn) h3 w
  cases op with
  | eql => exact .mk (v := .prop c) hc (r := .bool (decide (as = bs))) ⟨_, rfl, by simp [e]⟩ trivial fun w => by simp [binOp, hr]
  | neq => exact .mk (v := .prop (¬ c)) hc (r := .bool (!decide (as = bs))) ⟨_, rfl, by simp [e]⟩ trivial fun w => by simp [binOp, hr]
  | _ => exact hc.elim
end
end Go.Vm

namespace Go.Vm
open Go.RowKit
section
variable {S : Seat} {ρ : Loc} {N : Nat}
theorem cells_rel {v : AV} {r : Value} {K : List AV → Prop} (h : cellsK v K) (hr : VRel ρ v r) (hl : v.lt N) :
    ∃ cs, K cs ∧ VRels ρ cs r.cells.toList ∧ AV.lts N cs := by
  have one : ∀ {v : AV} {r : Value}, VRel ρ v r → v.lt N → (∀ l, r ≠ .agg l) → VRels ρ [v] r.cells.toList ∧ AV.lts N [v] := by
    intro v r hr hl hn
    have : r.cells = #[r] := by cases r <;> first | rfl | exact absurd rfl (hn _)
    rw [this]
    exact ⟨⟨r, [], rfl, hr, rfl⟩, hl, trivial⟩
  cases v with
  | undef => exact h.elim
  | tup l => exact h.elim
  | agg l =>
    obtain ⟨cs, rfl, hc⟩ := hr
    exact ⟨_, h, by simpa [Value.cells] using hc, hl⟩
  | prop p => exact ⟨_, h, one hr hl fun l e => by obtain ⟨b, e', _⟩ := hr; subst e; cases e'⟩
  | str s => exact ⟨_, h, one hr hl fun l e => by obtain ⟨b, e', _⟩ := hr; subst e; cases e'⟩
  | ptr b m i j => exact ⟨_, h, one hr hl fun l e => by obtain ⟨k, z, _, _, e'⟩ := hr; subst e; cases e'⟩
  | nils => exact ⟨_, h, one hr hl fun l e => by obtain ⟨a, e'⟩ := hr; subst e; cases e'⟩
  | sl b m i n => exact ⟨_, h, one hr hl fun l e => by subst e; rcases hr with ⟨_, _, _, _, e⟩ | ⟨k, z, cap, off, _, _, _, _, _, _, _, e⟩ <;> cases e⟩
  | fn f c => exact ⟨_, h, one hr hl fun l e => by obtain ⟨cs, e', _⟩ := hr; subst e; cases e'⟩
  | tt => exact ⟨_, h, one hr hl fun l e => by subst e; cases hr⟩
  | ff => exact ⟨_, h, one hr hl fun l e => by subst e; cases hr⟩
  | int k n => exact ⟨_, h, one hr hl fun l e => by subst e; cases hr⟩
  | nilp => exact ⟨_, h, one hr hl fun l e => by subst e; cases hr⟩
  | nilf => exact ⟨_, h, one hr hl fun l e => by subst e; cases hr⟩
  | niface => exact ⟨_, h, one hr hl fun l e => by subst e; cases hr⟩
theorem lts_append : ∀ {a b : List AV}, AV.lts N a → AV.lts N b → AV.lts N (a ++ b)
  | [], _, _, h => h
  | _ :: _, _, h, h' => ⟨h.1, lts_append h.2 h'⟩
theorem lts_take : ∀ {a : List AV} (n : Nat), AV.lts N a → AV.lts N (a.take n)
  | _, 0, _ => by simp [AV.lts]
  | [], _ + 1, _ => by simp [AV.lts]
  | _ :: _, n + 1, h => ⟨h.1, lts_take n h.2⟩
theorem lts_drop : ∀ {a : List AV} (n : Nat), AV.lts N a → AV.lts N (a.drop n)
  | _, 0, h => by simpa using h
  | [], _ + 1, _ => by simp [AV.lts]
  | _ :: _, n + 1, h => by simpa using lts_drop n h.2
theorem lts_get : ∀ {a : List AV} {j : Nat} {v : AV}, AV.lts N a → a[j]? = some v → v.lt N
  | [], _, _, _, h => by simp at h
  | _ :: _, 0, _, h, e => by simp at e; exact e ▸ h.1
  | _ :: _, j + 1, _, h, e => lts_get h.2 (by simpa using e)
theorem putL_rel {z cs : List AV} {off : Nat} {zs rs : List Value} (hz : VRels ρ z zs) (hc : VRels ρ cs rs) :
    VRels ρ (putL z off cs) (zs.take off ++ (rs ++ zs.drop (off + rs.length))) := by
  unfold putL
  rw [show cs.length = rs.length from hc.length.symm]
  exact (hz.take _).append (hc.append (hz.drop _))
theorem foldl_fill (off : Nat) : ∀ (vs : List Value) (k : Nat) (cs : Array Value), off + k + vs.length ≤ cs.size →
    ((vs.zipIdx k).foldl (fun cs x => cs.setIfInBounds (off + x.2) x.1) cs).toList = cs.toList.take (off + k) ++ (vs ++ cs.toList.drop (off + k + vs.length)) := by
  intro vs
  induction vs with
  | nil => intro k cs h; simp
  | cons v vs ih =>
    intro k cs h
    simp only [List.length_cons] at h
    simp only [List.zipIdx_cons, List.foldl_cons]
    rw [ih (k + 1) _ (by simp; omega)]
    have hlt : off + k < cs.toList.length := by simp; omega
    rw [Array.toList_setIfInBounds, show off + (k + 1) = (off + k) + 1 by omega, List.take_succ_eq_append_getElem (by simp; omega), List.take_set_of_le (by omega), List.getElem_set_self,
      List.drop_set_of_lt (by omega)]
    simp [List.length_cons, show off + k + 1 + vs.length = off + k + (vs.length + 1) by omega]
theorem fill_run {place : Nat → Option (Nat × Nat)} {ev : Operand → AV} {evr : Operand → Value} (hev : ∀ x, VRel ρ (ev x) (evr x)) (hlt : ∀ x, (ev x).lt N) :
    ∀ {parts : List (Nat × Operand)} {z : List AV} {K : List AV → Prop} {cells : Array Value}, fillK place ev parts z K → VRels ρ z cells.toList → AV.lts N z →
    ∃ z' cells', K z' ∧ Instr.fill place cells (parts.map fun p => (p.1, evr p.2)) = some cells' ∧ VRels ρ z' cells'.toList ∧ AV.lts N z' ∧ z'.length = z.length
  | [], z, K, cells, h, hz, hl => ⟨z, cells, h, rfl, hz, hl, rfl⟩
  | (i, x) :: r, z, K, cells, h, hz, hl => by
    simp only [fillK] at h
    split at h
    · exact h.elim
    rename_i off size hp
    obtain ⟨cs, h, hc, hcl⟩ := cells_rel h (hev x) (hlt x)
    split at h
    · exact h.elim
    rename_i hlen
    have hlen := Nat.eq_of_beq_eq_true hlen
    split at h
    · exact h.elim
    rename_i hle
    have hle := Nat.le_of_ble_eq_true hle
    have h := forceL_out h
    have e1 : (evr x).cells.size = cs.length := by rw [← hc.length]; simp
    have e2 : cells.size = z.length := by rw [← hz.length]; simp
    have hf := foldl_fill off (evr x).cells.toList 0 cells (by simp [e1, e2]; omega)
    have hput := putL_rel (off := off) hz hc
    obtain ⟨z', cells', hK, hfill, hz', hl', hlen'⟩ := fill_run hev hlt (cells := ((evr x).cells.toList.zipIdx 0).foldl (fun cs x => cs.setIfInBounds (off + x.2) x.1) cells) h
      (by rw [hf]; simpa using hput) (lts_append (lts_take _ hl) (lts_append hcl (lts_drop _ hl)))
    refine ⟨z', cells', hK, ?_, hz', hl', ?_⟩
    · simp only [List.map_cons, Instr.fill, hp]
      rw [if_neg (by simp [e1, e2, hlen]; omega)]
      rw [← hfill]
      congr 1
      rw [← Array.foldl_toList, Array.toList_zipIdx]
    · rw [hlen']; simp [putL]; omega
theorem placesL_mapM : ∀ {fs : List Field} {l : List (Nat × Nat)}, placesL S fs = some l → fs.mapM (fun f => (S.P.info? f.type).map fun i => (f.offset, i.size)) = some l
  | [], l, h => by simp [placesL] at h; simp [h]
  | f :: r, l, h => by
    simp only [placesL] at h
    split at h
    · rename_i i hi
      split at h
      · rename_i l' hl
        simp at h; subst h
        simp [List.mapM_cons, hi, placesL_mapM hl]
      · simp at h
    · simp at h
theorem map_cst_rel : ∀ l : List Value, VRels ρ (l.map cst) l
  | [] => rfl
  | v :: l => ⟨v, l, rfl, cst_rel ρ v, map_cst_rel l⟩
theorem cst_lt (v : Value) : (cst v).lt N := by
  unfold cst
  split <;> first | trivial | (split <;> trivial)
theorem map_cst_lt : ∀ l : List Value, AV.lts N (l.map cst)
  | [] => trivial
  | v :: l => ⟨cst_lt v, map_cst_lt l⟩
theorem zero_out {T : TypeId} {K : List AV → Prop} (h : zeroK S T K) : ∃ i z, S.P.info? T = some i ∧ i.zero = some z ∧ K (z.cells.toList.map cst) := by
  unfold zeroK at h
  split at h
  · rename_i i hi
    split at h
    · rename_i z hz
      exact ⟨i, z, hi, hz, forceL_out h⟩
    · exact h.elim
  · exact h.elim
theorem part_rel {T : TypeId} {l : List AV} {j : Nat} {K : AV → Prop} {cs : List Value} (h : partA S T l j K) (hr : VRels ρ l cs) (hl : AV.lts N l) :
    (aggB S T = some true ∧ 0 < szA S T ∧ j + szA S T ≤ cs.length ∧ Got ρ N K (.agg ((cs.drop j).take (szA S T)).toArray)) ∨
    (aggB S T = some false ∧ ∃ r, cs[j]? = some r ∧ Got ρ N K r) := by
  unfold partA at h
  split at h
  · rename_i e
    left
    split at h
    · rename_i hle hpos
      have h := forceL_out h
      exact ⟨e, Nat.le_of_ble_eq_true hpos, by rw [hr.length]; exact Nat.le_of_ble_eq_true hle, _, h, ⟨_, rfl, (hr.drop _).take _⟩, lts_take _ (lts_drop _ hl)⟩
    · exact h.elim
  · rename_i e
    right
    split at h
    · rename_i v hv
      have h := forceV_out h
      obtain ⟨r, hr', hv'⟩ := hr.get hv
      exact ⟨e, r, hr', _, h, hv', lts_get hl hv⟩
    · exact h.elim
  · exact h.elim
theorem isAgg_run {T : TypeId} {b : Bool} (h : aggB S T = some b) (w : World) : (isAgg T).run S.P w = .ok b w := by
  unfold aggB at h
  split at h
  · rename_i d e; simp at h; subst h; simp [isAgg, run_und e]
  · rename_i d e; simp at h; subst h; simp [isAgg, run_und e]
  · rename_i d h1 h2 e
    simp at h; subst h
    simp only [isAgg, Sem.run_bind, run_und e, Result.andThen_ok]
    first | rfl | (split <;> first | rfl | (exfalso; first | exact h1 _ rfl | exact h2 _ _ rfl))
  · simp at h
end
end Go.Vm

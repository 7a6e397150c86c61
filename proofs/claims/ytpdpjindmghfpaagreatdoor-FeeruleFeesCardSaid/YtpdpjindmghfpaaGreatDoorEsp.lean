/- Expressions: what Check, Eval and their parts compute, in plain words. -/
import Derived.Test.YtpdpjindmghfpaaGreatDoorEx
namespace Go.Proofs.YtpdpjindmghfpaaGreatDoor
open Go.RowKit
def ltrB (c : UInt8) : Bool := (decide (97 ≤ c.toNat) && decide (c.toNat ≤ 122)) || (decide (65 ≤ c.toNat) && decide (c.toNat ≤ 90))
def dgtB (c : UInt8) : Bool := decide (48 ≤ c.toNat) && decide (c.toNat ≤ 57)
def wrdB (c : UInt8) : Bool := ltrB c || dgtB c || decide (c.toNat = 95)
/-- Whether a text is a name. -/
def nameB (s : ByteArray) : Bool := decide (1 ≤ s.size ∧ s.size ≤ 16) && (match s.data.toList with | [] => false | c :: _ => ltrB c) && s.data.toList.all wrdB
/-- Whether a number is one of an expression. -/
def nbrB (n : Int) : Bool := decide (-4611686018427387904 ≤ n) && decide (n ≤ 4611686018427387904)
def litC (c : UInt8) : Bool := decide (32 ≤ c.toNat) && decide (c.toNat ≤ 126) && !decide (c.toNat = 34)
def litB (s : ByteArray) : Bool := decide (s.size ≤ 100) && s.data.toList.all litC
def empB (s : ByteArray) : Bool := decide (s.size = 0)
/-- Whether an expression itself has the fields of its operator. -/
def hasFv (op : Int) (nm tx : ByteArray) (n : Int) (len : Nat) : Bool :=
  if op = 1 then nbrB n && empB nm && empB tx && decide (len = 0)
  else if op = 2 then litB tx && empB nm && decide (n = 0) && decide (len = 0)
  else if op = 3 then nameB nm && empB tx && decide (n = 0) && decide (len = 0)
  else if op = 16 ∨ op = 17 then nameB nm && decide (1 ≤ n) && decide (n ≤ 10000000) && empB tx && decide (len = 0)
  else if (empB nm && empB tx && decide (n = 0)) = false then false
  else if op = 4 ∨ op = 5 then decide (len = 1)
  else if 6 ≤ op ∧ op ≤ 14 then decide (len = 2)
  else if op = 15 then decide (2 ≤ len) && decide (len ≤ 17)
  else false
def hasF (x : Ex) : Bool := hasFv x.op x.name x.text x.n x.args.length
/-- Whether an expression is well-formed. -/
def Ex.formed : Ex → Bool
  | .mk op nm tx n args => hasFv op nm tx n args.length && formedL args
where formedL : List Ex → Bool
  | [] => true
  | x :: l => x.formed && formedL l
/-- A feature. -/
structure Feat where
  name : ByteArray
  kind : Int
  n : Int
  text : ByteArray
deriving DecidableEq
def emS : ByteArray := ⟨#[]⟩
def fD : Feat := ⟨emS, 0, 0, emS⟩
def truthF (b : Bool) : Feat := ⟨emS, 3, if b then 1 else 0, emS⟩
def numF (n : Int) : Feat := ⟨emS, 1, n, emS⟩
def txtF (t : ByteArray) : Feat := ⟨emS, 2, 0, t⟩
def ftAgg (f : Feat) : Value := .agg #[.string f.name, .int .i64 f.kind, .int .i64 f.n, .string f.text]
/-- The first feature of a name. -/
def findN (l : List Feat) (nm : ByteArray) : Option Feat := l.find? fun f => decide (f.name = nm)
/-- The error of a feature by itself. -/
def featE (f : Feat) : Int :=
  if nameB f.name = false then 5
  else if f.kind = 2 ∨ (f.kind = 1 ∧ nbrB f.n = true) ∨ (f.kind = 3 ∧ (f.n = 0 ∨ f.n = 1)) then 0 else 4
/-- The error of features (before: those that were read). -/
def namesE (before : List Feat) : List Feat → Int
  | [] => 0
  | f :: l => if featE f ≠ 0 then featE f else if (findN before f.name).isSome then 7 else namesE (before ++ [f]) l
def allK (ks : List Int) (k : Int) : Bool := ks.all fun j => decide (j = k)
/-- The type of a part by that of its feature and those of its arguments. -/
def byK (op : Int) (fk : Int) (ks : List Int) : Int :=
  if op = 1 then 1
  else if op = 2 then 2
  else if op = 3 then fk
  else if op = 16 ∨ op = 17 then (if fk = 2 then 1 else 0)
  else if op = 4 ∨ op = 6 ∨ op = 7 then (if allK ks 3 then 3 else 0)
  else if op = 5 ∨ op = 12 ∨ op = 13 ∨ op = 14 then (if allK ks 1 then 1 else 0)
  else if op = 10 ∨ op = 11 then (if allK ks 1 then 3 else 0)
  else if op = 8 ∨ op = 9 then (if allK ks (ks.getD 0 0) then 3 else 0)
  else if op = 15 then (if allK ks (ks.getD 0 0) && !decide (ks.getD 0 0 = 3) then 3 else 0)
  else 0
/-- The type of an expression, and the error. -/
def Ex.ty (l : List Feat) : Ex → Int × Int
  | .mk op nm _ _ args => match tyL args with
    | .error c => (0, c)
    | .ok ks =>
      if op = 3 ∨ op = 16 ∨ op = 17 then
        match findN l nm with
        | none => (0, 6)
        | some f => if byK op f.kind ks = 0 then (0, 28) else (byK op f.kind ks, 0)
      else if byK op 0 ks = 0 then (0, 28) else (byK op 0 ks, 0)
where tyL : List Ex → Except Int (List Int)
  | [] => .ok []
  | x :: r => if (x.ty l).2 ≠ 0 then .error (x.ty l).2 else match tyL r with
    | .error c => .error c
    | .ok ks => .ok ((x.ty l).1 :: ks)
/-- What Check returns. -/
def checkV (x : Ex) (l : List Feat) : Int × Int :=
  if namesE [] l ≠ 0 then (0, namesE [] l) else if 8 < x.levels then (0, 27) else if x.formed = false then (0, 2) else x.ty l
/-- The value of a feature. -/
def featOf (l : List Feat) (nm : ByteArray) : Feat :=
  match findN l nm with
  | some f => if f.kind = 2 then txtF f.text else ⟨emS, f.kind, f.n, emS⟩
  | none => fD
def sumV (a b : Int) : Option Int := if nbrB (a + b) then some (a + b) else none
def mulV (a b : Int) : Option Int := if nbrB (a * b) then some (a * b) else none
/-- An operator with two arguments. -/
def comb (op : Int) (a b : Feat) : Option Feat :=
  if op = 8 then some (truthF (decide (a = b)))
  else if op = 9 then some (truthF (decide (a ≠ b)))
  else if op = 10 then some (truthF (decide (a.n < b.n)))
  else if op = 11 then some (truthF (decide (a.n ≤ b.n)))
  else if op = 12 then (sumV a.n b.n).map numF
  else if op = 13 then (sumV a.n (-b.n)).map numF
  else if op = 14 then (mulV a.n b.n).map numF
  else some b
/-- Whether a value is among the values of further arguments. -/
def inV (first : Feat) : List (Option Feat) → Option Feat
  | [] => some (truthF false)
  | none :: _ => none
  | some v :: r => if v = first then some (truthF true) else inV first r
/-- The value of a part by those of its arguments (S: what the source says: whether it is a count, the name, the window). -/
def evOp (l : List Feat) (S : Bool → ByteArray → Int → Int) (op : Int) (nm tx : ByteArray) (n : Int) (vs : List (Option Feat)) : Option Feat :=
  if op = 1 then some (numF n)
  else if op = 2 then some (txtF tx)
  else if op = 3 then some (featOf l nm)
  else if op = 16 ∨ op = 17 then (if nbrB (S (decide (op = 16)) nm n) then some (numF (S (decide (op = 16)) nm n)) else none)
  else match vs with
    | [] => none
    | none :: _ => none
    | some first :: r =>
      if op = 4 then some (truthF (decide (first.n = 0)))
      else if op = 5 then some (numF (-first.n))
      else if op = 15 then inV first r
      else if (op = 6 ∧ first.n = 0) ∨ (op = 7 ∧ first.n = 1) then some first
      else match r with
        | [] => none
        | none :: _ => none
        | some second :: _ => comb op first second
/-- The value of an expression. -/
def Ex.ev (l : List Feat) (S : Bool → ByteArray → Int → Int) : Ex → Option Feat
  | .mk op nm tx n args => evOp l S op nm tx n (evL args)
where evL : List Ex → List (Option Feat)
  | [] => []
  | x :: r => x.ev l S :: evL r
theorem evL_map (l : List Feat) (S : Bool → ByteArray → Int → Int) (r : List Ex) : Ex.ev.evL l S r = r.map fun x => x.ev l S := by
  induction r with
  | nil => rfl
  | cons x r ih => simp only [Ex.ev.evL, ih, List.map_cons]
theorem ev_mk (l : List Feat) (S : Bool → ByteArray → Int → Int) (op : Int) (nm tx : ByteArray) (n : Int) (args : List Ex) : (Ex.mk op nm tx n args).ev l S = evOp l S op nm tx n (args.map fun x => x.ev l S) := by
  rw [Ex.ev, evL_map]
def Ex.ev.evIn (l : List Feat) (S : Bool → ByteArray → Int → Int) (first : Feat) (r : List Ex) : Option Feat := inV first (r.map fun x => x.ev l S)
/-- What Eval returns. -/
def evalV (x : Ex) (l : List Feat) (S : Bool → ByteArray → Int → Int) : Feat × Int :=
  if (checkV x l).2 ≠ 0 then (fD, (checkV x l).2) else match x.ev l S with
    | none => (fD, 4)
    | some v => (v, 0)
end Go.Proofs.YtpdpjindmghfpaaGreatDoor

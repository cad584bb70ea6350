/-
  What is asked for, and what comes, said of lists of bytes.
-/
import Derived.Test.YtjlemghmpnkncaaDoorDecimalPlain
import Derived.Test.YtjlemghmpnkncaaDoorTextsPlain
namespace Go.Proofs.YtjlemghmpnkncaaDoor
set_option linter.unusedSimpArgs false
set_option linter.unusedVariables false

def bytesL : List UInt8 := [98, 121, 116, 101, 115]

/-- Letters that are the unit. -/
def unitOk (l : List UInt8) : Bool := lowerL (l.takeWhile isLetter) == lowerL bytesL

/-- A sign stands ahead. -/
def signOk (b : UInt8) (l : List UInt8) : Bool := l.head? == some b

def ask6 (f t l : List UInt8) : Option (List UInt8 × List UInt8) := if l.dropWhile isTab = [] then (if f = [] ∧ t = [] then none else some (f, t)) else none
def ask5 (f l : List UInt8) : Option (List UInt8 × List UInt8) := ask6 f ((l.dropWhile isTab).takeWhile isDigit) ((l.dropWhile isTab).dropWhile isDigit)
def ask4 (f l : List UInt8) : Option (List UInt8 × List UInt8) := if signOk 45 (l.dropWhile isTab) = true then ask5 f (l.dropWhile isTab).tail else none
def ask3 (l : List UInt8) : Option (List UInt8 × List UInt8) := ask4 ((l.dropWhile isTab).takeWhile isDigit) ((l.dropWhile isTab).dropWhile isDigit)
def ask2 (l : List UInt8) : Option (List UInt8 × List UInt8) := if signOk 61 (l.dropWhile isTab) = true then ask3 (l.dropWhile isTab).tail else none

/-- The digits of what is asked for; none: the form is wrong. -/
def askL (l : List UInt8) : Option (List UInt8 × List UInt8) := if unitOk (l.dropWhile isTab) = true then ask2 ((l.dropWhile isTab).dropWhile isLetter) else none

/-- The number that digits say; what was wrong so far. -/
def saidN (l : List UInt8) : Int := if l = [] then -1 else if valL l ≤ mostN then (valL l : Int) else 0
def saidE (l : List UInt8) (e : Int) : Int := if l = [] then e else if valL l ≤ mostN then e else 9

/-- How many bytes there are in all. -/
def sizeL : List UInt8 → Option (List UInt8 × List UInt8)
  | [] => none
  | x :: r => if x = 42 then some ([], r) else if isDigit x = true then some ((x :: r).takeWhile isDigit, (x :: r).dropWhile isDigit) else none

def con7 (f t : List UInt8) (o : Bool) : Option (List UInt8 × List UInt8) → Option (List UInt8 × List UInt8 × List UInt8)
  | none => none
  | some (a, l) => if a = [] ∧ o = true then none else if l.dropWhile isTab = [] then some (f, t, a) else none

def con6 (f t : List UInt8) (o : Bool) (l : List UInt8) : Option (List UInt8 × List UInt8 × List UInt8) := if signOk 47 l = true then con7 f t o (sizeL l.tail) else none

def con5 (f : List UInt8) : Option (List UInt8 × List UInt8) → Option (List UInt8 × List UInt8 × List UInt8)
  | none => none
  | some (t, l) => if t = [] then none else con6 f t false l

def con4 : Option (List UInt8 × List UInt8) → Option (List UInt8 × List UInt8 × List UInt8)
  | none => none
  | some (f, l) => if f = [] then none else if signOk 45 l = true then con5 f (sizeL l.tail) else none

def con3 (l : List UInt8) : Option (List UInt8 × List UInt8 × List UInt8) := if signOk 42 l = true then con6 [] [] true l.tail else con4 (sizeL l)
def con2 (l : List UInt8) : Option (List UInt8 × List UInt8 × List UInt8) := if l.takeWhile isTab = [] then none else con3 (l.dropWhile isTab)

/-- The digits of what comes; none: the form is wrong. -/
def conL (l : List UInt8) : Option (List UInt8 × List UInt8 × List UInt8) := if unitOk (l.dropWhile isTab) = true then con2 ((l.dropWhile isTab).dropWhile isLetter) else none

end Go.Proofs.YtjlemghmpnkncaaDoor

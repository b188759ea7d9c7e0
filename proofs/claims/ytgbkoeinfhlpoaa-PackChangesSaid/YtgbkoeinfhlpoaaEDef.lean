/- What the functions of package files come to, as plain Lean functions on lists of bytes and of files. No theorem of the program is here. -/
import Derived.Test.YtgbkoeinfhlpoaaFx0
namespace Go.Proofs.Ytgbkoeinfhlpoaa.F

/-- May a byte stand in a path's part? -/
def plainB (c : UInt8) : Bool := (97 ≤ c && c ≤ 122) || (65 ≤ c && c ≤ 90) || (48 ≤ c && c ≤ 57) || c == 45 || c == 95 || c == 46
/-- The parts between the bytes 47. -/
def splitS : List UInt8 → List (List UInt8)
  | [] => [[]]
  | c :: t => if c = 47 then [] :: splitS t else
    match splitS t with
    | [] => [[c]]
    | p :: ps => (c :: p) :: ps
def partB (p : List UInt8) : Bool := p != [] && p != [46] && p != [46, 46] && p.all plainB
def pathB (s : List UInt8) : Bool := decide (s.length ≤ 48) && (splitS s).all partB
def underB (p q : List UInt8) : Bool := (q ++ [47]).isPrefixOf p
def wayB (p q : List UInt8) : Bool := p == q || underB p q || underB q p
def ltB (p q : List UInt8) : Bool := Op.bytesLess p q
def S33.p (f : S33) : List UInt8 := f.f0.toList

def fileE (f : S33) : Int := if pathB f.p then (if f.f1.size ≤ 4096 then 0 else 40) else 63
def sizeF : List S33 → Nat
  | [] => 0
  | f :: t => f.f1.size + sizeF t
def fullE (l : List S33) : Int := if l.length ≤ 64 ∧ sizeF l ≤ 16384 then 0 else 3
def firstE : List S33 → Int
  | [] => 0
  | f :: t => if fileE f = 0 then firstE t else fileE f
def risingB : List S33 → Bool
  | [] => true
  | [_] => true
  | f :: g :: t => ltB f.p g.p && risingB (g :: t)
def someWay (l : List S33) : Bool := l.any fun f => l.any fun g => underB f.p g.p
def checkE (l : List S33) : Int :=
  if firstE l = 0 then (if risingB l then (if someWay l then 50 else fullE l) else 4) else firstE l
def getE (l : List S33) (p : List UInt8) : ByteArray × Bool :=
  match l.find? (fun f => f.p == p) with
  | some f => (f.f1, true)
  | none => (⟨#[]⟩, false)
def insF : List S33 → S33 → List S33
  | [], f => [f]
  | g :: t, f => if g.p = f.p then f :: t else if ltB g.p f.p then g :: insF t f else f :: g :: t
def putE (l : List S33) (f : S33) : List S33 × Int :=
  if checkE l = 0 then
    (if fileE f = 0 then
      (if l.any (fun g => g.p != f.p && wayB g.p f.p) then ([], 50)
       else if fullE (insF l f) = 0 then (insF l f, 0) else ([], 3))
     else ([], fileE f))
  else ([], 4)
def delE (l : List S33) (p : List UInt8) : List S33 × Int :=
  if checkE l = 0 then (if l.any (fun g => g.p == p) then (l.filter (fun g => g.p != p), 0) else ([], 5)) else ([], 4)
def leF (f g : S33) : Bool := !ltB g.p f.p
def overF (a b : List S33) : List S33 := b ++ a.filter (fun f => !b.any (fun g => wayB f.p g.p))
def layE (a b : List S33) : List S33 × Int :=
  if checkE a = 0 ∧ checkE b = 0 then (if fullE (overF a b) = 0 then ((overF a b).mergeSort leF, 0) else ([], 3)) else ([], 4)

/-! The forms that the printed texts name. -/
def files_Path.f (a0 : ByteArray) : Option Bool := some (pathB a0.toList)
def files_Check.f (l0 : List S33) : Option Int := some (checkE l0)
def files_Get.f (l0 : List S33) (a1 : ByteArray) : Option (ByteArray × Bool) := some (getE l0 a1.toList)
def files_Put.f (l0 : List S33) (a1 a2 : ByteArray) : Option (List S33 × Int) := some (putE l0 ⟨a1, a2⟩)
def files_Del.f (l0 : List S33) (a1 : ByteArray) : Option (List S33 × Int) := some (delE l0 a1.toList)
def files_Lay.f (l0 l1 : List S33) : Option (List S33 × Int) := some (layE l0 l1)

end Go.Proofs.Ytgbkoeinfhlpoaa.F

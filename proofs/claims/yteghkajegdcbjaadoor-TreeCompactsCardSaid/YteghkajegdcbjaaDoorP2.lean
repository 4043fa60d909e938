/-
  Plain data: which texts are names. No program stands here.
-/
import Derived.Test.YteghkajegdcbjaaDoorP1
import Derived.Lib.ValidU
import Derived.Lib.TrimU
import Derived.Shelf.Strings.Prefix
namespace Go.Proofs.YteghkajegdcbjaaDoor
open Go.RowKit

def oddC (x : Int) : Bool := x == 47 || decide (x < 32) || (decide (127 ≤ x) && decide (x ≤ 159))
/-- How many runes stand from a place on; none: one of them is odd. -/
def scanR (s : ByteArray) : Nat → Nat → Option Nat
  | 0, _ => some 0
  | k + 1, p => if p < s.size then (if oddC (Utf8.decode s p).1 then none else (scanR s k (p + (Utf8.decode s p).2)).map (· + 1)) else some 0
def nameOk (s : ByteArray) : Bool :=
  match scanR s s.size 0 with
  | none => false
  | some n => decide (1 ≤ n) && decide (n ≤ 32) && Lib.validD s.data.toList && !(s.toList == [46]) && !(s.toList == [46, 46]) && !(Lib.hasPrefix s.data.toList [32]) && !(Lib.hasSuffix s.data.toList [32])
def nameE (s : ByteArray) : Int := if nameOk s then 0 else 80
/-- Which operations may be. -/
def okOp (o : Opn) : Bool :=
  mayP o.at_.t o.at_.u && (mayP o.nd.t o.nd.u &&
    (if o.kind = 1 then (o.nd.t == o.at_.t && (o.nd.u == o.at_.u)) && (nameOk o.nm && ((outerP o.par.t o.par.u || mayP o.par.t o.par.u) && (o.vl.toList == [])))
    else if o.kind = 2 then (outerP o.par.t o.par.u || mayP o.par.t o.par.u) && (o.nm.toList == [] && (o.vl.toList == []))
    else if o.kind = 3 then nameOk o.nm && (o.par.t == 0 && (o.par.u == 0 && (o.vl.toList == [])))
    else if o.kind = 4 then decide (o.vl.size ≤ 64) && (o.par.t == 0 && (o.par.u == 0 && (o.nm.toList == [])))
    else if o.kind = 5 then (o.par.t == 0 && (o.par.u == 0 && (o.nm.toList == [] && (o.vl.toList == []))))
    else false))
end Go.Proofs.YteghkajegdcbjaaDoor

/-
  Plain: what a field makes of a value.
-/
import Derived.Test.YtfojdjmeefglcaaDoorZc
import Derived.Test.YtfojdjmeefglcaaDoorYu
import Derived.Test.YtfojdjmeefglcaaDoorFd
namespace Go.Proofs.YtfojdjmeefglcaaDoor
open Go.RowKit

def floorT (x by_ : Int) : Int := if x < -9223372036854775808 + x % by_ then -9223372036854775808 else x - x % by_
def byteT (x : Int) (i : Nat) : UInt8 := UInt8.ofNat (x / 2 ^ (56 - 8 * i) % 256).toNat
def be8 (x : Int) : ByteArray := ⟨((List.range 8).map (byteT x)).toArray⟩
def bytesT (v : Val) : ByteArray := if v.kind = 1 then be8 v.i else if v.kind = 2 then (if v.b then ⟨#[1]⟩ else ⟨#[0]⟩) else v.s
def firstT (s : ByteArray) (many : Int) : ByteArray := s.extract 0 (preN many.toNat s 0)
def applyR (f : Fld) (v : Val) : Val × Int :=
  if paramB f = false then (Val.zero, 1300)
  else if kindV v = 0 ∨ f.trans = 0 then (clean v, 0)
  else if f.trans = 1 then (⟨1, (crcT (bytesT (clean v)) : Int) % f.param, false, .empty⟩, 0)
  else if kindV v = 1 then (⟨1, floorT (clean v).i f.param, false, .empty⟩, 0)
  else if kindV v = 3 then (⟨3, 0, false, firstT (clean v).s f.param⟩, 0)
  else (Val.zero, 1300)
end Go.Proofs.YtfojdjmeefglcaaDoor

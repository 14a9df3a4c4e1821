/- The plain mathematics of calls: which calls may be, their bytes, what bytes say. No program in sight. No conditions. -/
import Derived.Test.YtphbkjdheopmhaaPathsPure
import Derived.Test.YtphbkjdheopmhaaWordsPure
namespace Go.Proofs.Ytphbkjdheopmhaa.Cl
set_option linter.unusedVariables false
set_option linter.unusedSimpArgs false
open Go.Proofs.Ytphbkjdheopmhaa

structure C where
  kind : Nat
  a : Nat
  b : Nat
  c : Nat
  d : Nat
  e : Nat
  path : ByteArray
  argv : List ByteArray
  env : List ByteArray
  bytes : List UInt8

/-- The fields of a kind, by their numbers. -/
def fsN : Nat → List Nat
  | 1 => [5, 6, 7]
  | 3 => [0]
  | 5 => [0, 1, 2, 3, 4]
  | 6 => [0, 1]
  | 7 => [0, 1, 2]
  | 8 => [0, 1]
  | 9 => [0, 8]
  | 10 => [5, 0]
  | 11 => [0]
  | 12 => [0, 1]
  | _ => []
def num (c : C) : Nat → Nat
  | 0 => c.a
  | 1 => c.b
  | 2 => c.c
  | 3 => c.d
  | _ => c.e
/-- is nothing said by a field? -/
def emptyB (c : C) : Nat → Bool
  | 5 => decide (c.path.size = 0)
  | 6 => decide (c.argv.length = 0)
  | 7 => decide (c.env.length = 0)
  | 8 => decide (c.bytes.length = 0)
  | f => num c f == 0
def fieldB (c : C) (f : Nat) : Bool := (fsN c.kind).contains f || emptyB c f
def onlyB (c : C) : Bool := (List.range 9).all (fieldB c)
def bigT (s : ByteArray) : Bool := decide (256 < s.size)
def zeroT (s : ByteArray) : Bool := s.data.toList.contains 0
def envCk (l : List ByteArray) : Int := if 32 < l.length then 12 else if l.any bigT then 12 else if l.any zeroT then 1 else 0
def fst2 (a b : Int) : Int := if a = 0 then b else a
def check (c : C) : Int :=
  if c.kind = 0 ∨ 12 < c.kind then 23 else if onlyB c = false then 1
  else if c.kind = 1 then fst2 (Pth.chk c.path) (fst2 (envCk c.argv) (envCk c.env))
  else if c.kind = 8 ∨ c.kind = 12 then (if 4096 < c.b then 12 else 0)
  else if c.kind = 9 then (if 4096 < c.bytes.length then 12 else 0)
  else if c.kind = 10 then fst2 (Pth.chk c.path) (if 1 < c.a then 1 else 0)
  else 0

end Go.Proofs.Ytphbkjdheopmhaa.Cl

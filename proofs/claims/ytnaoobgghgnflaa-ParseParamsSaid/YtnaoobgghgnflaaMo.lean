/- The parser in plain Lean: what each byte does. No program in sight. -/
import Derived.Test.YtnaoobgghgnflaaSay
namespace Go.Proofs.Ytnaoobgghgnflaa
open Pl
set_option linter.unusedVariables false
def ctlB (c : Int) : Bool := decide (c < 32) && (c != 24 && (c != 26 && c != 27))
def evX (k r b : Int) : Ev := ⟨k, r, b, 0, ByteArray.empty, [], []⟩
def printE (l : List Int) : List Ev := l.map fun r => evX 1 r 0
def PS.beg (s : PS) (st : Int) : PS := { s with st := st, pv := 0, wr := false, fi := true, so := false, la := 0, it := [], ps := [] }
def closeE (st b : Int) : List Ev := if st = 5 then [evX 8 0 b] else if st = 6 then [evX 11 0 b] else []
def groundS (s : PS) (c : Int) : PS × List Ev :=
  if ctlB c = true then ({ s with ch := s0 }, printE (fin s.ch) ++ [evX 2 0 c])
  else if c = 127 then ({ s with ch := s0 }, printE (fin s.ch))
  else ({ s with ch := (put s.ch c.toNat).1 }, printE (put s.ch c.toNat).2)
def backS (s : PS) (c : Int) : PS × List Ev := groundS { s with st := 0 } c
def keepS (s : PS) (c : Int) : PS := if s.it.length = 2 then { s with wr := true } else { s with it := s.it ++ [c] }
def openS (s : PS) (c : Int) : Option (PS × List Ev) :=
  if c = 91 then some (s.beg 2, []) else if c = 80 then some (s.beg 3, []) else if c = 93 then some ({ s with st := 4, ds := [] }, [])
  else if c = 95 then some ({ s with st := 6 }, [evX 9 0 0]) else if c = 88 ∨ c = 94 then some ({ s with st := 7 }, []) else none
def doneS (s : PS) (c : Int) : PS × List Ev := ({ s with st := 0 }, if s.wr = true then [] else [⟨3, 0, c, 0, strOfNums s.it, [], []⟩])
def escS (s : PS) (c : Int) : PS × List Ev :=
  if ctlB c = true then (s, [evX 2 0 c]) else if 128 ≤ c then backS s c else if c ≤ 47 then (keepS s c, []) else if c = 127 then (s, [])
  else if 0 < s.it.length then doneS s c else match openS s c with
    | some r => r
    | none => doneS s c
def nextS (s : PS) : PS := { s with ps := if s.ps.length < 16 then s.ps ++ [s.la] else s.ps, la := 0 }
def finalS (s : PS) (c : Int) : PS × List Ev :=
  let k : Int := if s.st = 3 then 6 else 4
  let s1 : PS := { s with st := if s.st = 3 then (if s.wr = true then 7 else 5) else 0 }
  if s.wr = true then (s1, []) else
    let s2 : PS := if s.so = true then nextS s1 else s1
    (s2, [⟨k, 0, c, s.pv, strOfNums s.it, s2.ps, []⟩])
def headS (s : PS) (c : Int) : PS × List Ev :=
  let s1 : PS := { s with fi := s.fi && (ctlB c || c == 127) }
  if ctlB c = true then (s1, if s.st = 2 then [evX 2 0 c] else [])
  else if 128 ≤ c then backS s1 c else if c ≤ 47 then (keepS s1 c, []) else if c = 127 then (s1, [])
  else if c ≤ 57 then ({ s1 with wr := s.wr || decide (0 < s.it.length), so := true, la := min (10 * s.la + (c - 48)) 65535 }, [])
  else if c = 59 then (nextS { s1 with wr := s.wr || decide (0 < s.it.length), so := true }, [])
  else if 60 ≤ c ∧ c ≤ 63 ∧ s.fi = true then ({ s1 with pv := c }, [])
  else if c ≤ 63 then ({ s1 with wr := true }, [])
  else finalS s1 c
def toldE (s : PS) : Ev := ⟨5, 0, 0, 0, ByteArray.empty, [], s.ds⟩
def dataE (s : PS) (l : List Int) : Ev := ⟨if s.st = 6 then 10 else 7, 0, 0, 0, ByteArray.empty, [], l⟩
def textS (s : PS) (c : Int) : PS × List Ev :=
  if c = 7 then ({ s with st := 0 }, [toldE s]) else if 32 ≤ c ∧ c ≠ 127 ∧ s.ds.length < 1024 then ({ s with ds := s.ds ++ [c] }, []) else (s, [])
def endedS (s : PS) (c : Int) : PS × List Ev :=
  if c = 92 then ({ s with ends := false, st := 0 }, (if s.st = 4 then [toldE s] else []) ++ closeE s.st 1)
  else if c = 27 then (({ s with ends := false } : PS).beg 1, closeE s.st 0)
  else if c = 24 ∨ c = 26 then ({ ({ s with ends := false } : PS).beg 1 with st := 0 }, closeE s.st 0 ++ [evX 2 0 c])
  else ((escS (({ s with ends := false } : PS).beg 1) c).1, closeE s.st 0 ++ (escS (({ s with ends := false } : PS).beg 1) c).2)
def plainS (s : PS) (c : Int) : PS × List Ev :=
  if s.st = 0 then groundS s c else if s.st = 1 then escS s c else if s.st = 2 ∨ s.st = 3 then headS s c else if s.st = 4 then textS s c else (s, [])
def stepS (s : PS) (c : Int) : PS × List Ev :=
  if s.ends = true then endedS s c
  else if c ≠ 24 ∧ c ≠ 26 ∧ c ≠ 27 then plainS s c
  else
    let s1 : PS := if s.st = 0 then { s with ch := s0 } else s
    let e1 : List Ev := if s.st = 0 then printE (fin s.ch) else []
    if c ≠ 27 then ({ s1 with st := 0 }, e1 ++ (closeE s.st 0 ++ [evX 2 0 c]))
    else if 4 ≤ s.st then ({ s1 with ends := true }, e1) else (s1.beg 1, e1)
end Go.Proofs.Ytnaoobgghgnflaa

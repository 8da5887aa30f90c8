/- The program's plain data, as Lean has them, and how they lie in cells. -/
import Derived.Test.YtonilkceolbkmaaRg
namespace Go.Gv
open Go

structure Key where
  o : Int
  q : Int
  deriving DecidableEq
structure Rec where
  o : Int
  q : Int
  w : Int
  c : Int
  t : ByteArray
  deriving DecidableEq
def Rec.key (r : Rec) : Key := ⟨r.o, r.q⟩
def Rec.zero : Rec := ⟨0, 0, 0, 0, ⟨#[]⟩⟩
abbrev int (i : Int) : Value := .int .i64 i
abbrev intC (i : Int) : List Value := [.int .i64 i]
abbrev keyC (k : Key) : List Value := [.int .i64 k.o, .int .i64 k.q]
abbrev keyV (k : Key) : Value := .agg (keyC k).toArray
abbrev recC (r : Rec) : List Value := [.int .i64 r.o, .int .i64 r.q, .int .i64 r.w, .int .i64 r.c, .string r.t]
abbrev recV (r : Rec) : Value := .agg (recC r).toArray
def before (a b : Key) : Bool := if a.o = b.o then decide (a.q < b.q) else decide (a.o < b.o)
end Go.Gv

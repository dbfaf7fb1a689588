/-
 The program's data, as plain types.
-/
namespace Go.PB
structure Chap where
 id : Int
 lines : List (List ByteArray)
 deriving DecidableEq
abbrev TextD := List Chap
structure PlaceD where
 ch : Int
 ln : Int
 wd : Int
 deriving DecidableEq
structure ReadingD where
 pl : PlaceD
 kind : Int
 word : ByteArray
 deriving DecidableEq
structure CopyD where
 id : Int
 rs : List ReadingD
 deriving DecidableEq
/-- How lines may go on: a kind of readings; how many words of each are used. -/
structure WayD where
 kind : Int
 one : Nat
 two : Nat
 deriving DecidableEq
end Go.PB

/-
 The program's data, as plain types.
-/
namespace Go.PB
structure bh where
 id : Int
 lines : List (List ByteArray)
 deriving DecidableEq
abbrev af := List bh
structure PlaceD where
 ch : Int
 ln : Int
 wd : Int
 deriving DecidableEq
structure ar where
 pl : PlaceD
 kind : Int
 word : ByteArray
 deriving DecidableEq
structure bp where
 id : Int
 rs : List ar
 deriving DecidableEq
/-- How lines may go on: a kind of readings; how many words of each are used. -/
structure cj where
 kind : Int
 one : Nat
 two : Nat
 deriving DecidableEq
end Go.PB

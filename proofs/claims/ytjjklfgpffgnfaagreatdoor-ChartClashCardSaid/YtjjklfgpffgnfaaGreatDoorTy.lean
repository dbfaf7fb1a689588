/-
 The program's data, as plain types.
-/
namespace Go.PB
structure bv where
 id : Int
 lines : List (List ByteArray)
 deriving DecidableEq
abbrev ai := List bv
structure PlaceD where
 ch : Int
 ln : Int
 wd : Int
 deriving DecidableEq
structure cy where
 pl : PlaceD
 kind : Int
 word : ByteArray
 deriving DecidableEq
structure c6 where
 id : Int
 rs : List cy
 deriving DecidableEq
/-- How lines may go on: a kind of readings; how many words of each are used. -/
structure cz where
 kind : Int
 one : Nat
 two : Nat
 deriving DecidableEq
end Go.PB

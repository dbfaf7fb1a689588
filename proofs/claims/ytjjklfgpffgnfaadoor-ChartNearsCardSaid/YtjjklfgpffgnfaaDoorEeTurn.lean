/-
  Contracts of the program's functions of charts: two sound editions; references of one in the other one.
-/
import Derived.Test.YtjjklfgpffgnfaaDoorEdLead
namespace Go.Proofs.YtjjklfgpffgnfaaDoor
set_option maxRecDepth 10000
open Go.RowKit Go.AB
open Go.AB.Enc (cells)
open Go.PB (Chap TextD PlaceD ReadingD CopyD WayD)
theorem book_low (t : TextD) (e : EditionD) {n m k : Nat} (hn : n < k) (hm : m < k) : (C.elem (bookC t e n m)).low k :=
  .elem (low_cons .v (low_cons (lst_low _ _) (low_cons (lst_low _ _) (low_cons (.map hn) (low_cons (.map hm) low_nil)))))
end Go.Proofs.YtjjklfgpffgnfaaDoor

/-
  What the walks through the program rest on: values, states, steps, calls (MaAlign, MbFound, McWay, LmWays).
-/
import Derived.Test.YtejhjijbgceklaaDoorAdFew
import Derived.Test.YtejhjijbgceklaaDoorHaCopy
import Derived.Test.YtejhjijbgceklaaDoorKyCopy
import Derived.Test.YtejhjijbgceklaaDoorGrpU
namespace Go.AB
open Go Go.RowKit
open Go.PB (Chap TextD PlaceD ReadingD CopyD WayD)
/-- a way from line to line, with so many readings -/
inductive Al : List ByteArray → List ByteArray → Nat → Prop
 | nil : Al [] [] 0
 | same (x : ByteArray) {a b : List ByteArray} {n : Nat} : Al a b n → Al (x :: a) (x :: b) n
 | sub (x y : ByteArray) {a b : List ByteArray} {n : Nat} : Al a b n → Al (x :: a) (y :: b) (n + 1)
 | del (x : ByteArray) {a b : List ByteArray} {n : Nat} : Al a b n → Al (x :: a) b (n + 1)
 | ins (y : ByteArray) {a b : List ByteArray} {n : Nat} : Al a b n → Al a (y :: b) (n + 1)
theorem Al.trans {a b : List ByteArray} {m : Nat} (h : Al a b m) : ∀ {c : List ByteArray} {n : Nat}, Al b c n → ∃ k, k ≤ m + n ∧ Al a c k := by
 induction h with
 | nil => intro c n h2; exact ⟨n, by omega, h2⟩
 | @same x a b m _ ih =>
  intro c n h2
  generalize e : x :: b = bb at h2
  induction h2 with
  | nil => cases e
  | same y h3 _ => cases e; obtain ⟨k, h4, h5⟩ := ih h3; exact ⟨k, h4, .same _ h5⟩
  | sub y z h3 _ => cases e; obtain ⟨k, h4, h5⟩ := ih h3; exact ⟨k + 1, by omega, .sub _ z h5⟩
  | del y h3 _ => cases e; obtain ⟨k, h4, h5⟩ := ih h3; exact ⟨k + 1, by omega, .del _ h5⟩
  | ins z _ ih2 => obtain ⟨k, h4, h5⟩ := ih2 e; exact ⟨k + 1, by omega, .ins z h5⟩
 | @sub x y a b m _ ih =>
  intro c n h2
  generalize e : y :: b = bb at h2
  induction h2 with
  | nil => cases e
  | same y h3 _ => cases e; obtain ⟨k, h4, h5⟩ := ih h3; exact ⟨k + 1, by omega, .sub x _ h5⟩
  | sub y z h3 _ => cases e; obtain ⟨k, h4, h5⟩ := ih h3; exact ⟨k + 1, by omega, .sub x z h5⟩
  | del y h3 _ => cases e; obtain ⟨k, h4, h5⟩ := ih h3; exact ⟨k + 1, by omega, .del x h5⟩
  | ins z _ ih2 => obtain ⟨k, h4, h5⟩ := ih2 e; exact ⟨k + 1, by omega, .ins z h5⟩
 | @del x a b m _ ih =>
  intro c n h2
  obtain ⟨k, h4, h5⟩ := ih h2
  exact ⟨k + 1, by omega, .del x h5⟩
 | @ins y a b m _ ih =>
  intro c n h2
  generalize e : y :: b = bb at h2
  induction h2 with
  | nil => cases e
  | same y h3 _ => cases e; obtain ⟨k, h4, h5⟩ := ih h3; exact ⟨k + 1, by omega, .ins _ h5⟩
  | sub y z h3 _ => cases e; obtain ⟨k, h4, h5⟩ := ih h3; exact ⟨k + 1, by omega, .ins z h5⟩
  | del y h3 _ => cases e; obtain ⟨k, h4, h5⟩ := ih h3; exact ⟨k, by omega, h5⟩
  | ins z _ ih2 => obtain ⟨k, h4, h5⟩ := ih2 e; exact ⟨k + 1, by omega, .ins z h5⟩
end Go.AB
namespace Go.AB
open Go Go.RowKit
open Go.PB (Chap TextD PlaceD ReadingD CopyD WayD)
section
variable {a b : List ByteArray} {ch ln : Int}
end
/-! ### The readings of a text's lines -/
section
variable {t u : TextD}
end
end Go.AB
namespace Go.AB
open Go Go.RowKit
open Go.PB (Chap TextD PlaceD ReadingD CopyD WayD)
/-! ### Sums -/
/-! ### A copy's line is a way -/
section
variable {t : TextD} {rs : List ReadingD}
/-! ### How far texts are apart -/
end
section
variable {t u x : TextD}
end
end Go.AB
namespace Go.AB
open Go Go.RowKit
open Go.AB.Enc (cells)
open Go.PB (Chap TextD PlaceD ReadingD CopyD WayD)
end Go.AB
namespace Go.Proofs.YtejhjijbgceklaaDoor
set_option maxRecDepth 10000
open Go.RowKit Go.AB
open Go.AB.Enc (cells)
open Go.PB (Chap TextD PlaceD ReadingD CopyD WayD)
theorem lRead (n : Nat) (t : TextD) (c : CopyD) (ht : textB t = true) (hc : copyB t c = true) : PureN n kndF Tryd.prog 13 [textC t, val c] (.tup [textC (readT t c.rs), .v (.int .i64 0)]) := by
 have hE : copyEr t c = 0 := copyEr_zero.2 ⟨ht, hc⟩
 have := leafRead_pureN n t c
 rwa [hE, show readTx t c = readT t c.rs by simp [readTx, hE]] at this
end Go.Proofs.YtejhjijbgceklaaDoor

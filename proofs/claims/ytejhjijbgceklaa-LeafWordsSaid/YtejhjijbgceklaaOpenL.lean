/-
 The arguments of the laws of texts.
-/
import Derived.Test.YtejhjijbgceklaaOpenE
import Derived.Test.YtejhjijbgceklaaRows
namespace Go.AB
open Go Go.RowKit Go.ChangeShapes Go.WideShapes
theorem OpensE.argStrL {P : Program} {t : TypeId} (h : strChk P t = true) {H : Type} {enc : TypeId × Value → H} {w : World} {base : Nat} {spare : Nat → Bool} {held : Bool} {r : Reach} {b0 : Nat} {v : Value} {d : DataW H} {ps : List MemPlace}
  (hv : Value.okWide P w r b0 t v) (hd : DataW.Trod enc P w base spare held t v d ps) : ∃ a : ByteArray, R (allE w) w (.v (.string a)) v := by
 obtain ⟨s, rfl⟩ := okWide_string (strChk_spec h).1 hv
 obtain ⟨fuel, hf⟩ := hd
 obtain ⟨a, ha⟩ := (OpensE.str h).op hf
 exact ⟨a, Rs.single_inv ha⟩
end Go.AB
namespace Go.Proofs.Ytejhjijbgceklaa
set_option maxRecDepth 10000
open Go.ChangeShapes Go.WideShapes Go.ChangeAt Go.RowKit Go.AB
open Go.AB.Enc (cells)
open Go.PB (Chap TextD PlaceD ReadingD CopyD WayD)
instance : OpensE Try.prog 3 Int := .int (by kernel_rfl)
instance : OpensE Try.prog 9 ByteArray := .str (by kernel_rfl)
instance : OpensE Try.prog 63 (List ByteArray) := .slice (e := 9) (by kernel_rfl) (by decide)
instance : OpensE Try.prog 71 (List (List ByteArray)) := .slice (e := 63) (by kernel_rfl) (by decide)
instance : OpensE Try.prog 73 Chap := .chap (tI := 3) (tL := 71) (by kernel_rfl)
instance : OpensE Try.prog 22 (List Chap) := .slice (e := 73) (by kernel_rfl) (by decide)
theorem textStc : stcChk Try.prog 24 [(0, 22, 1)] 1 = true := by kernel_rfl
instance : OpensE Try.prog 24 (List Chap) := .one (e := 22) textStc
theorem placeStc : stcChk Try.prog 43 [(0, 3, 1), (1, 3, 1), (2, 3, 1)] 3 = true := by kernel_rfl
instance : OpensE Try.prog 43 PlaceD := .place (tI := 3) placeStc
theorem intOk : intChk Try.prog 3 .i64 = true := by kernel_rfl
theorem strOk : strChk Try.prog 9 = true := by kernel_rfl
theorem boolOk : Try.prog.underlying 4 = some .bool := by kernel_rfl
theorem ownZ : ownKnob Try.prog.godebug = none := by kernel_rfl
end Go.Proofs.Ytejhjijbgceklaa

/-
  What the walks through the program rest on: values, states, steps, calls (LiFacts, LkPlaces, LnDoubt).
-/
import Derived.Test.YtejhjijbgceklaaDoorGrpQ
import Derived.Test.YtejhjijbgceklaaDoorAbRem
import Derived.Test.YtejhjijbgceklaaDoorGrpX
namespace Go.AB
open Go Go.RowKit
open Go.AB.Enc (cells)
open Go.PB (Chap TextD PlaceD ReadingD CopyD WayD)
section
variable {t : TextD} {i k : Nat} {x y : PW}
theorem readyT_true : readyT t = true ↔ greatB t = false ∧ textB t = true := by simp [readyT]
theorem rightC_true {c : CopyD} : rightC t c = true ↔ greatCp c = false ∧ copyB t c = true := by simp [rightC]
end
end Go.AB
namespace Go.Proofs.YtejhjijbgceklaaDoor
set_option maxRecDepth 10000
open Go.RowKit Go.AB
open Go.AB.Enc (cells)
open Go.PB (Chap TextD PlaceD ReadingD CopyD WayD)
end Go.Proofs.YtejhjijbgceklaaDoor
namespace Go.AB
open Go Go.RowKit
open Go.AB.Enc (cells)
open Go.PB (Chap TextD PlaceD ReadingD CopyD WayD)
theorem allP_wordB {t : TextD} (ht : textB t = true) {x : PW} (hx : x ∈ allP t) : wordB x.2 = true := by
 obtain ⟨l, hl, h1⟩ := List.mem_flatten.1 hx
 obtain ⟨k, hk, rfl⟩ := List.mem_mapIdx.1 hl
 obtain ⟨l2, hl2, h2⟩ := List.mem_flatten.1 h1
 obtain ⟨n, hn, rfl⟩ := List.mem_mapIdx.1 hl2
 obtain ⟨w, hw, rfl⟩ := List.mem_mapIdx.1 h2
 simp only [textB, Bool.and_eq_true, List.all_eq_true, chapB, lineB] at ht
 exact (((ht.1.2 t[k] (List.getElem_mem hk)).2 _ (List.getElem_mem hn)).2 _ (List.getElem_mem hw))
theorem placesL_mem {l : List PW} {w : ByteArray} {p : PlaceD} : p ∈ placesL l w ↔ (p, w) ∈ l := by
 unfold placesL
 simp only [List.mem_map, List.mem_filter, decide_eq_true_eq]
 constructor
 ·rintro ⟨⟨q, v⟩, ⟨h1, h2⟩, h3⟩
  dsimp only at h2 h3
  subst h2; subst h3
  exact h1
 exact fun h => ⟨(p, w), ⟨h, rfl⟩, rfl⟩
end Go.AB
namespace Go.Proofs.YtejhjijbgceklaaDoor
set_option maxRecDepth 10000
open Go.RowKit Go.AB
open Go.AB.Enc (cells)
open Go.PB (Chap TextD PlaceD ReadingD CopyD WayD)
theorem lVocabulary (t : TextD) (ht : textB t = true) : Pure Tryd.prog 29 [textC t] (.tup [lst (vocL (wordsT t)), .v (.int .i64 0)]) := by
 have := leafVocabulary_pure t
 rwa [show vocV t = vocL (wordsT t) by simp [vocV, ht], show textEr t = 0 by simp [textEr, ht]] at this
theorem lPlaces (t : TextD) (ht : textB t = true) {w : ByteArray} (hw : wordB w = true) : Pure Tryd.prog 31 [textC t, .v (.string w)] (.tup [lst (placesL (allP t) w), .v (.int .i64 0)]) := by
 have hE : placesEr t w = 0 := by simp [placesEr, ht, hw]
 have := leafPlaces_pure t w
 rwa [hE, show placesV t w = placesL (allP t) w by simp [placesV, hE]] at this
end Go.Proofs.YtejhjijbgceklaaDoor
namespace Go.AB
open Go Go.RowKit
open Go.AB.Enc (cells)
open Go.PB (Chap TextD PlaceD ReadingD CopyD WayD)
theorem doubtL_mem {t : TextD} {cs : List CopyD} {x : PW} (hx : x ∈ allP t) : x.1 ∈ doubtL (allP t) cs ↔ doubtB cs x = true := by
 unfold doubtL
 simp only [List.mem_map, List.mem_filter]
 constructor
 ·rintro ⟨y, ⟨h1, h2⟩, h3⟩
  have e1 := allP_wordP h1
  have e2 := allP_wordP hx
  rw [h3] at e1
  have : y = x := Prod.ext h3 (e1.symm.trans e2)
  rwa [this] at h2
 exact fun h => ⟨x, ⟨hx, h⟩, rfl⟩
theorem mem_step {α : Type} [DecidableEq α] {l : List α} {k : Nat} {q p : α} (h : l[k]? = some q) : decide (p ∈ l.take (k + 1)) = (decide (p ∈ l.take k) || decide (q = p)) := by
 rw [List.take_add_one, h, Option.toList_some, Bool.eq_iff_iff]
 simp only [decide_eq_true_eq, List.mem_append, List.mem_singleton, Bool.or_eq_true]
 exact or_congr Iff.rfl eq_comm
end Go.AB
namespace Go.Proofs.YtejhjijbgceklaaDoor
set_option maxRecDepth 10000
open Go.RowKit Go.AB
open Go.AB.Enc (cells)
open Go.PB (Chap TextD PlaceD ReadingD CopyD WayD)
theorem lDoubt (n : Nat) (t : TextD) (cs : List CopyD) (ht : textB t = true) (hl : cs.length ≤ 5) (hc : cs.all (copyB t) = true) : PureN n kndF Tryd.prog 17 [textC t, lst cs] (.tup [lst (doubtL (allP t) cs), .v (.int .i64 0)]) := by
 have hE : doubtEr t cs = 0 := by simp [doubtEr, ht, hl, hc]
 have := leafDoubt_pureN n t cs
 rwa [hE, show doubtV t cs = doubtL (allP t) cs by simp [doubtV, hE]] at this
end Go.Proofs.YtejhjijbgceklaaDoor

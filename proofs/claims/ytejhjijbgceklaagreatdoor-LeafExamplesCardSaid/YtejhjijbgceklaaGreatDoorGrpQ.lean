/-
  What the walks through the program rest on: values, states, steps, calls (LgAlive, LhAlive).
-/
import Derived.Test.YtejhjijbgceklaaGreatDoorGrpV
import Derived.Test.YtejhjijbgceklaaGreatDoorGrpK
import Derived.Test.YtejhjijbgceklaaGreatDoorGrpT
import Derived.Test.YtejhjijbgceklaaGreatDoorGrpL
import Derived.Test.YtejhjijbgceklaaGreatDoorGrpA
import Derived.Test.YtejhjijbgceklaaGreatDoorGrpD
import Derived.Test.YtejhjijbgceklaaGreatDoorEngB
namespace Go.AB
open Go Go.RowKit
open Go.AB.Enc (cells)
open Go.PB (Chap TextD PlaceD ReadingD CopyD WayD)
def sThe : ByteArray := ⟨#[116, 104, 101]⟩
def sSea : ByteArray := ⟨#[115, 101, 97]⟩
def sIs : ByteArray := ⟨#[105, 115]⟩
def sOld : ByteArray := ⟨#[111, 108, 100]⟩
def sAnd : ByteArray := ⟨#[97, 110, 100]⟩
def sCold : ByteArray := ⟨#[99, 111, 108, 100]⟩
def sSalt : ByteArray := ⟨#[115, 97, 108, 116]⟩
def seaT : TextD := [⟨7, [[sThe, sSea, sIs, sOld], [sOld, sThe, sSea]]⟩, ⟨3, [[sSea, sAnd, sSea]]⟩]
def coldT : TextD := [⟨7, [[sThe, sSea, sIs, sCold], [sOld, sSea]]⟩, ⟨3, [[sSea, sAnd, sSea, sSalt]]⟩]
def saltC : CopyD := ⟨4, [⟨⟨0, 0, 3⟩, 3, sCold⟩, ⟨⟨0, 1, 1⟩, 1, ⟨#[]⟩⟩, ⟨⟨1, 0, 3⟩, 2, sSalt⟩]⟩
theorem sea_words : wordsN seaT = 10 ∧ textEr seaT = 0 := ⟨by decide +kernel, by decide +kernel⟩
theorem sea_at : atWord seaT ⟨0, 1, 0⟩ = sOld ∧ placedEr seaT ⟨0, 1, 0⟩ = 0 := ⟨by decide +kernel, by decide +kernel⟩
theorem sea_six : placeOfV seaT 6 = ⟨0, 1, 2⟩ ∧ placeOfEr seaT 6 = 0 := ⟨by decide +kernel, by decide +kernel⟩
theorem sea_places : placesV seaT sSea = [⟨0, 0, 1⟩, ⟨0, 1, 2⟩, ⟨1, 0, 0⟩, ⟨1, 0, 2⟩] ∧ placesEr seaT sSea = 0 := ⟨by decide +kernel, by decide +kernel⟩
theorem sea_voc : vocV seaT = [sAnd, sIs, sOld, sSea, sThe] := by decide +kernel
theorem sea_copy : copyEr seaT saltC = 0 := by decide +kernel
theorem sea_read : readTx seaT saltC = coldT := by decide +kernel
theorem sea_find : findC seaT coldT 4 = saltC ∧ findE seaT coldT 4 = 0 := ⟨by decide +kernel, by decide +kernel⟩
theorem sea_doubt : doubtV seaT [saltC] = [⟨0, 0, 3⟩, ⟨0, 1, 1⟩] ∧ doubtEr seaT [saltC] = 0 := ⟨by decide +kernel, by decide +kernel⟩
end Go.AB
namespace Go.Proofs.YtejhjijbgceklaaGreatDoor
set_option maxRecDepth 10000
open Go.RowKit Go.AB
open Go.AB.Enc (cells)
open Go.PB (Chap TextD PlaceD ReadingD CopyD WayD)
theorem lawSea_pure : Pure Tryz.prog 27 [] (textC seaT) := by
 refine pure_of_body Tryz.func27 rfl (fun m => .agg (low_cons (lst_low _ _) low_nil)) fun G nx => ?_
 simp only [Tryz.ntmps27, List.length_cons, List.length_nil, Nat.reduceAdd, Nat.reduceSub]
 refine aw_lt fun hlt => ?_
 dsimp only at hlt
 refine yS fun _ K1 => ?_
 refine yR ?_
 try dsimp only [St.put]
 refine aops_e rfl (e_allocC rfl ?_)
 refine yN ?_
 dsimp only [St.put]
 refine K1 _ ?_
 refine yS fun _ K2 => ?_
 refine yR ?_
 try dsimp only [St.put]
 refine aops_e rfl (e_buildSlice rfl rfl rfl (by decide) (by decide) zR (by decide) ?_)
 try dsimp only [St.put]
 refine aops_e rfl (e_buildSlice rfl rfl rfl (by decide) (by decide) zR (by decide) ?_)
 try dsimp only [St.put]
 refine aops_e rfl (e_buildSlice rfl rfl rfl (by decide) (by decide) zR (by decide) ?_)
 refine aops_n rfl (n_build rfl rfl) ?_
 try dsimp only [St.put]
 refine aops_e rfl (e_buildSlice rfl rfl rfl (by decide) (by decide) zR (by decide) ?_)
 try dsimp only [St.put]
 refine aops_e rfl (e_buildSlice rfl rfl rfl (by decide) (by decide) zR (by decide) ?_)
 refine aops_n rfl (n_build rfl rfl) ?_
 try dsimp only [St.put]
 refine aops_e rfl (e_buildSlice rfl rfl rfl (by decide) (by decide) zR (by decide) ?_)
 refine aops_n rfl (n_build rfl rfl) ?_
 try dsimp only [St.put]
 refine aops_e rfl (e_store_all rfl rfl rfl zG rfl rfl (by rfl) ?_)
 refine yN ?_
 dsimp only [St.put]
 refine K2 _ ?_
 refine aw_ret ?_
 refine ends_v1 rfl (rv_box rfl zG (by rfl) (by first | exact List.cons_ne_nil _ _ | (simp; done) | (simp [putAt]; done)) rfl) zN zS ?_
 exact zW
theorem lawAt_pure (a b c : Int) : Pure Tryz.prog 16 [.v (.int .i64 a), .v (.int .i64 b), .v (.int .i64 c)] (val (⟨a, b, c⟩ : PlaceD)) := by
 refine pure_of_body Tryz.func16 rfl (fun m => (val_low _ _)) fun G nx => ?_
 simp only [Tryz.ntmps16, List.length_cons, List.length_nil, Nat.reduceAdd, Nat.reduceSub]
 refine aw_lt fun hlt => ?_
 dsimp only at hlt
 refine yS fun _ K1 => ?_
 refine yR ?_
 try dsimp only [St.put]
 refine aops_e rfl (e_allocC rfl ?_)
 refine yN ?_
 dsimp only [St.put]
 refine K1 _ ?_
 refine yS fun _ K2 => ?_
 refine yR ?_
 refine yM rfl rfl ?_
 refine yM rfl rfl ?_
 refine yM rfl rfl ?_
 refine aops_n rfl (n_build rfl rfl) ?_
 try dsimp only [St.put]
 refine aops_e rfl (e_store_all rfl rfl rfl zG rfl rfl (by rfl) ?_)
 refine yN ?_
 dsimp only [St.put]
 refine K2 _ ?_
 refine aw_ret ?_
 refine ends_v1 rfl (rv_box rfl zG (by rfl) (by first | exact List.cons_ne_nil _ _ | (simp; done) | (simp [putAt]; done)) rfl) zN zS ?_
 exact zW
theorem lawSalt_pure : Pure Tryz.prog 28 [] (val saltC) := by
 refine pure_of_body Tryz.func28 rfl (fun m => (val_low _ _)) fun G nx => ?_
 simp only [Tryz.ntmps28, List.length_cons, List.length_nil, Nat.reduceAdd, Nat.reduceSub]
 refine aw_lt fun hlt => ?_
 dsimp only at hlt
 refine yS fun _ K1 => ?_
 refine yR ?_
 try dsimp only [St.put]
 refine aops_e rfl (e_allocC rfl ?_)
 refine yN ?_
 dsimp only [St.put]
 refine K1 _ ?_
 refine yS fun _ K2 => ?_
 refine yR ?_
 try dsimp only [St.put]
 refine aops_e rfl (e_call_pure rfl rfl rfl (lawAt_pure _ _ _) ?_)
 refine aops_n rfl (n_build rfl rfl) ?_
 try dsimp only [St.put]
 refine aops_e rfl (e_call_pure rfl rfl rfl (lawAt_pure _ _ _) ?_)
 refine aops_n rfl (n_build rfl rfl) ?_
 try dsimp only [St.put]
 refine aops_e rfl (e_call_pure rfl rfl rfl (lawAt_pure _ _ _) ?_)
 refine aops_n rfl (n_build rfl rfl) ?_
 try dsimp only [St.put]
 refine aops_e rfl (e_buildSlice rfl rfl rfl (by decide) (by decide) zR (by decide) ?_)
 refine aops_n rfl (n_build rfl rfl) ?_
 try dsimp only [St.put]
 refine aops_e rfl (e_store_all rfl rfl rfl zG rfl rfl (by rfl) ?_)
 refine yN ?_
 dsimp only [St.put]
 refine K2 _ ?_
 refine aw_ret ?_
 refine ends_v1 rfl (rv_box rfl zG (by rfl) (by first | exact List.cons_ne_nil _ _ | (simp; done) | (simp [putAt]; done)) rfl) zN zS ?_
 exact zW
end Go.Proofs.YtejhjijbgceklaaGreatDoor
namespace Go.AB
open Go Go.RowKit
open Go.AB.Enc (cells)
open Go.PB (Chap TextD PlaceD ReadingD CopyD WayD)
end Go.AB
namespace Go.Proofs.YtejhjijbgceklaaGreatDoor
set_option maxRecDepth 10000
open Go.RowKit Go.AB
open Go.AB.Enc (cells)
open Go.PB (Chap TextD PlaceD ReadingD CopyD WayD)
theorem lSame (a : TextD) : Pure Tryz.prog 15 [textC a, textC a] (.v (.bool true)) := by
 have := Same_pure a a
 rwa [decide_eq_true rfl] at this
theorem lSameP (a : List PlaceD) : Pure Tryz.prog 34 [lst a, lst a] (.v (.bool true)) := by
 have := SamePlaces_pure a a
 rwa [decide_eq_true rfl] at this
theorem lSameW (a : List ByteArray) : Pure Tryz.prog 18 [lst a, lst a] (.v (.bool true)) := by
 have := SameWords_pure a a
 rwa [decide_eq_true rfl] at this
theorem lSameC (a : CopyD) : Pure Tryz.prog 29 [val a, val a] (.v (.bool true)) := by
 have := SameCopy_pure a a
 rwa [decide_eq_true rfl] at this
theorem alWords : Pure Tryz.prog 20 [textC seaT] (.tup [.v (.int .i64 10), .v (.int .i64 0)]) := by
 have := leafWords_pure seaT
 rwa [sea_words.1, sea_words.2] at this
theorem alAt : Pure Tryz.prog 22 [textC seaT, val (⟨0, 1, 0⟩ : PlaceD)] (.tup [.v (.string sOld), .v (.int .i64 0)]) := by
 have := leafAt_pure seaT ⟨0, 1, 0⟩
 rwa [sea_at.1, sea_at.2] at this
theorem alPlaceOf : Pure Tryz.prog 21 [textC seaT, .v (.int .i64 6)] (.tup [val (⟨0, 1, 2⟩ : PlaceD), .v (.int .i64 0)]) := by
 have := leafPlaceOf_pure seaT 6
 rwa [sea_six.1, sea_six.2] at this
theorem alPlaces : Pure Tryz.prog 30 [textC seaT, .v (.string sSea)] (.tup [lst ([⟨0, 0, 1⟩, ⟨0, 1, 2⟩, ⟨1, 0, 0⟩, ⟨1, 0, 2⟩] : List PlaceD), .v (.int .i64 0)]) := by
 have := leafPlaces_pure seaT sSea
 rwa [sea_places.1, sea_places.2] at this
theorem alVoc : Pure Tryz.prog 33 [textC seaT] (.tup [lst [sAnd, sIs, sOld, sSea, sThe], .v (.int .i64 0)]) := by
 have := leafVocabulary_pure seaT
 rwa [sea_voc, sea_words.2] at this
theorem alRead (n : Nat) : PureN n kndF Tryz.prog 11 [textC seaT, val saltC] (.tup [textC coldT, .v (.int .i64 0)]) := by
 have := leafRead_pureN n seaT saltC
 rwa [sea_read, sea_copy] at this
theorem alFind : Pure Tryz.prog 13 [textC seaT, textC coldT, .v (.int .i64 4)] (.tup [val saltC, .v (.int .i64 0)]) := by
 have := leafFind_pureT seaT coldT 4
 rwa [sea_find.1, sea_find.2] at this
theorem alDoubt (n : Nat) : PureN n kndF Tryz.prog 19 [textC seaT, lst [saltC]] (.tup [lst ([⟨0, 0, 3⟩, ⟨0, 1, 1⟩] : List PlaceD), .v (.int .i64 0)]) := by
 have := leafDoubt_pureN n seaT [saltC]
 rwa [sea_doubt.1, sea_doubt.2] at this
set_option maxHeartbeats 4000000 in
theorem alive_pureN (n : Nat) : PureN n kndF Tryz.prog 8 [] (.v (.bool true)) := fun G nx hF hnx => by
 refine pc_named_of_body (G) (nx) Tryz.func8 rfl (.v) zN (fun hlt => zH) ?_
 simp only [Tryz.ntmps8, List.length_cons, List.length_nil, Nat.reduceAdd, Nat.reduceSub]
 refine aw_lt fun hlt => ?_
 dsimp only at hlt
 refine yS fun _ K1 => ?_
 refine yR ?_
 refine yA rfl rfl ?_
 refine yN ?_
 dsimp only [St.put]
 refine K1 _ ?_
 refine yS fun _ K2 => ?_
 refine yR ?_
 try dsimp only [St.put]
 refine aops_e rfl (e_call_pure rfl rfl rfl (lawSea_pure) ?_)
 try dsimp only [St.put]
 refine aops_e rfl (e_call_pure rfl rfl rfl (alWords) ?_)
 refine yM rfl rfl ?_
 refine yX rfl rfl rfl rfl ?_
 refine yX rfl rfl rfl rfl ?_
 refine yA rfl rfl ?_
 refine yA rfl rfl ?_
 refine yN ?_
 dsimp only [St.put]
 refine K2 _ ?_
 refine yS fun _ K3 => ?_
 refine yR ?_
 try dsimp only [St.put]
 refine aops_e rfl (e_call_pure rfl rfl rfl (lawSea_pure) ?_)
 try dsimp only [St.put]
 refine aops_e rfl (e_call_pure rfl rfl rfl (lawAt_pure _ _ _) ?_)
 try dsimp only [St.put]
 refine aops_e rfl (e_call_pure rfl rfl rfl (alAt) ?_)
 refine yM rfl rfl ?_
 refine yX rfl rfl rfl rfl ?_
 refine yX rfl rfl rfl rfl ?_
 refine yA rfl rfl ?_
 refine yA rfl rfl ?_
 refine yN ?_
 dsimp only [St.put]
 refine K3 _ ?_
 refine yS fun _ K4 => ?_
 refine yR ?_
 try dsimp only [St.put]
 refine aops_e rfl (e_call_pure rfl rfl rfl (lawSea_pure) ?_)
 try dsimp only [St.put]
 refine aops_e rfl (e_call_pure rfl rfl rfl (alPlaceOf) ?_)
 refine yM rfl rfl ?_
 refine yX rfl rfl rfl rfl ?_
 refine yX rfl rfl rfl rfl ?_
 try dsimp only [St.put]
 refine aops_e rfl (e_allocC rfl ?_)
 try dsimp only [St.put]
 refine aops_e rfl (e_store_all rfl rfl rfl zG rfl rfl (by rfl) ?_)
 refine yA rfl rfl ?_
 refine yN ?_
 dsimp only [St.put]
 refine K4 _ ?_
 refine aw_commitD (i := 5) rfl zG (by first | exact List.cons_ne_nil _ _ | (simp; done) | (simp [putAt]; done)) ?_
 dsimp only
 refine yS fun _ K5 => ?_
 refine yR ?_
 try dsimp only [St.put]
 refine aops_e rfl (e_call_pure rfl rfl rfl (lawSea_pure) ?_)
 try dsimp only [St.put]
 refine aops_e rfl (e_call_pure rfl rfl rfl (alPlaces) ?_)
 refine yM rfl rfl ?_
 refine yX rfl rfl rfl rfl ?_
 refine yX rfl rfl rfl rfl ?_
 refine yA rfl rfl ?_
 refine yA rfl rfl ?_
 refine yN ?_
 dsimp only [St.put]
 refine K5 _ ?_
 refine yS fun _ K6 => ?_
 refine yR ?_
 try dsimp only [St.put]
 refine aops_e rfl (e_call_pure rfl rfl rfl (lawSea_pure) ?_)
 try dsimp only [St.put]
 refine aops_e rfl (e_call_pure rfl rfl rfl (alVoc) ?_)
 refine yM rfl rfl ?_
 refine yX rfl rfl rfl rfl ?_
 refine yX rfl rfl rfl rfl ?_
 refine yA rfl rfl ?_
 refine yA rfl rfl ?_
 refine yN ?_
 dsimp only [St.put]
 refine K6 _ ?_
 refine yS fun _ K7 => ?_
 refine yR ?_
 try dsimp only [St.put]
 refine aops_e rfl (e_call_pure rfl rfl rfl (lawSea_pure) ?_)
 try dsimp only [St.put]
 refine aops_e rfl (e_call_pure rfl rfl rfl (lawSalt_pure) ?_)
 try dsimp only [St.put]
 refine aops_e rfl (e_call_n rfl rfl rfl (alRead n) zG (by dsimp only [St.put]; omega) ?_)
 refine yM rfl rfl ?_
 refine yX rfl rfl rfl rfl ?_
 refine yX rfl rfl rfl rfl ?_
 try dsimp only [St.put]
 refine aops_e rfl (e_allocC rfl ?_)
 try dsimp only [St.put]
 refine aops_e rfl (e_store_all rfl rfl rfl zG rfl rfl (by rfl) ?_)
 refine yA rfl rfl ?_
 refine yN ?_
 dsimp only [St.put]
 refine K7 _ ?_
 refine aw_commitD (i := 11) rfl zG (by first | exact List.cons_ne_nil _ _ | (simp; done) | (simp [putAt]; done)) ?_
 dsimp only
 refine yS fun _ K8 => ?_
 refine aw_drawT [(1, none)] (fun _ => false) (fun i => [].contains i) 8 [false, true, false, false, false, false, false, false, false] (by kernel_rfl) (by kernel_rfl) ?_
 try dsimp only [St.put]
 refine acan1_s rfl rfl rfl rfl (s_load_agg' rfl rfl rfl) ?_
 refine acan1_nil ?_
 refine aany_step [0, 6] (by kernel_rfl) (by simp) ?_
 refine aeach_cons ?_ ?_
 ·try dsimp only [St.put]
  refine aone_e rfl rfl rfl (e_call_pure rfl rfl rfl (lawSea_pure) ?_)
  refine aany_step [2, 6] (by kernel_rfl) (by simp) ?_
  refine aeach_cons ?_ ?_
  ·try dsimp only [St.put]
   refine aone_e rfl rfl rfl (e_call_pure rfl rfl rfl (alFind) ?_)
   refine aany_quiet [(3, none), (4, none), (5, none)] (fun i => [3, 4, 5].contains i) 3 [true, true, true, true, true, true, false, false, false] (by kernel_rfl) ?_
   refine xM rfl rfl rfl rfl rfl ?_
   refine acan1_n rfl rfl rfl rfl (n_extract rfl rfl rfl) ?_
   refine acan1_n rfl rfl rfl rfl (n_extract rfl rfl rfl) ?_
   refine acan1_nil ?_
   refine aany_step [6] (by kernel_rfl) (by simp) ?_
   refine aeach_cons ?_ ?_
   ·try dsimp only [St.put]
    refine aone_e rfl rfl rfl (e_allocC rfl ?_)
    refine aany_step [7] (by kernel_rfl) (by simp) ?_
    refine aeach_cons ?_ ?_
    ·try dsimp only [St.put]
     refine aone_e rfl rfl rfl (e_store_all rfl rfl rfl zG rfl rfl (by rfl) ?_)
     refine aany_quiet [(8, none)] (fun i => [8].contains i) 0 [true, true, true, true, true, true, true, true, true] (by kernel_rfl) ?_
     refine acan1_n rfl rfl rfl rfl (n_as rfl (by constructor)) ?_
     refine acan1_nil ?_
     dsimp only [St.put]
     refine aany_of_tr (tr_commit (i := 13) rfl zG (by first | exact List.cons_ne_nil _ _ | (simp; done) | (simp [putAt]; done))) ?_
     dsimp only
     refine aany_nil (by kernel_rfl) ?_
     refine K8 _ ?_
     refine aw_wipe 18 ?_
     simp only [firsts, getA, Nat.reduceAdd, List.getD_cons_zero, List.getD_cons_succ, List.getD_nil, natBeq, Nat.reduceBEq, cond_true, cond_false]
     refine aw_cutD (X := Unit) (fun _ => True) (fun _ => [(1, .v (.int .i64 10)), (2, .v (.int .i64 0)), (3, .v (.string sOld)), (4, .v (.int .i64 0)), (5, .elem (cells (⟨0, 1, 2⟩ : PlaceD))), (6, .v (.int .i64 0)), (7, lst ([⟨0, 0, 1⟩, ⟨0, 1, 2⟩, ⟨1, 0, 0⟩, ⟨1, 0, 2⟩] : List PlaceD)), (8, .v (.int .i64 0)), (9, lst [sAnd, sIs, sOld, sSea, sThe]), (10, .v (.int .i64 0)), (11, .elem [lst coldT]), (12, .v (.int .i64 0)), (13, .elem (cells saltC)), (14, .v (.int .i64 0)), (15, lst ([⟨0, 0, 3⟩, ⟨0, 1, 1⟩] : List PlaceD)), (16, .v (.int .i64 0)), (17, .any)]) (fun _ G' => G') rfl ?_ (fun _ _ _ _ h => .inl h) ?_ ?_
     ·rintro _ hI
      exact zL
     ·refine yR ?_
      try dsimp only [St.put]
      refine aops_e rfl (e_call_pure rfl rfl rfl (lawSea_pure) ?_)
      try dsimp only [St.put]
      refine aops_e rfl (e_call_pure rfl rfl rfl (lawSalt_pure) ?_)
      try dsimp only [St.put]
      refine aops_e rfl (e_buildSlice rfl rfl rfl (by decide) (by decide) zR (by decide) ?_)
      try dsimp only [St.put]
      refine aops_e rfl (e_call_n rfl rfl rfl (alDoubt n) zG (by dsimp only [St.put]; omega) ?_)
      refine yM rfl rfl ?_
      refine yX rfl rfl rfl rfl ?_
      refine yX rfl rfl rfl rfl ?_
      refine yA rfl rfl ?_
      refine yA rfl rfl ?_
      refine yN ?_
      dsimp only [St.put]
      exact ⟨(), trivial, ⟨⟨rfl, rfl⟩, zF, zB, zN, zX⟩⟩
     rintro _ hI
     dsimp only at hI ⊢
     refine yS fun _ K10 => ?_
     refine yR ?_
     try dsimp only [St.put]
     refine aops_e rfl (e_buildSlice rfl rfl rfl (by decide) (by decide) zR (by decide) ?_)
     try dsimp only [St.put]
     refine aops_e rfl (e_buildSlice rfl rfl rfl (by decide) (by decide) zR (by decide) ?_)
     try dsimp only [St.put]
     refine aops_e rfl (e_buildSlice rfl rfl rfl (by decide) (by decide) zR (by decide) ?_)
     refine aops_n rfl (n_build rfl rfl) ?_
     try dsimp only [St.put]
     refine aops_e rfl (e_buildSlice rfl rfl rfl (by decide) (by decide) zR (by decide) ?_)
     try dsimp only [St.put]
     refine aops_e rfl (e_buildSlice rfl rfl rfl (by decide) (by decide) zR (by decide) ?_)
     refine aops_n rfl (n_build rfl rfl) ?_
     try dsimp only [St.put]
     refine aops_e rfl (e_buildSlice rfl rfl rfl (by decide) (by decide) zR (by decide) ?_)
     refine aops_n rfl (n_build rfl rfl) ?_
     try dsimp only [St.put]
     refine aops_e rfl (e_allocC rfl ?_)
     try dsimp only [St.put]
     refine aops_e rfl (e_store_all rfl rfl rfl zG rfl rfl (by rfl) ?_)
     refine yN ?_
     dsimp only [St.put]
     refine K10 _ ?_
     refine aw_commitD (i := 17) rfl zG (by first | exact List.cons_ne_nil _ _ | (simp; done) | (simp [putAt]; done)) ?_
     dsimp only
     refine yS fun _ K11 => ?_
     refine aw_drawT [(0, none), (1, none), (2, none), (3, none), (4, none), (5, none), (6, none), (7, none), (8, none), (9, none), (10, none), (11, none), (12, none), (13, none), (14, none), (15, none), (16, none), (17, none), (18, none), (19, none)] (fun _ => false) (fun i => [0, 1, 2, 3, 4, 5, 6, 7, 8, 9, 10, 11, 12, 13, 14, 15, 16, 17, 18].contains i) 55 [true, true, true, true, true, true, true, true, true, true, true, true, true, true, true, true, true, true, true, true, false, false, false, false, false, false, false, false, false, false, false, false, false, false, false, false, false, false, false, false, false, false, false, false, false, false, false, false, false, false, false, false, false, false, false, false, false, false, false, false, false, false, false, false, false, false, false, false, false, false, false, false, false, false, false] (by kernel_rfl) (by kernel_rfl) ?_
     refine xM rfl rfl rfl rfl rfl ?_
     refine acan1_n rfl rfl rfl rfl (n_bool (n_eql rfl rfl rfl) (decide_eq_true (by omega))) ?_
     refine xM rfl rfl rfl rfl rfl ?_
     refine xM rfl rfl rfl rfl rfl ?_
     refine acan1_n rfl rfl rfl rfl (n_bool (c := true) (n_eql rfl rfl rfl) (decide_eq_true rfl)) ?_
     refine acan1_n rfl rfl rfl rfl (n_pt rfl rfl (by constructor)) ?_
     refine xM rfl rfl rfl rfl rfl ?_
     refine xM rfl rfl rfl rfl rfl ?_
     refine acan1_n rfl rfl rfl rfl (n_bool (n_eql rfl rfl rfl) (decide_eq_true (by omega))) ?_
     refine acan1_n rfl rfl rfl rfl (n_pt rfl rfl (by constructor)) ?_
     refine xM rfl rfl rfl rfl rfl ?_
     refine xM rfl rfl rfl rfl rfl ?_
     refine acan1_n rfl rfl rfl rfl (n_bool (c := true) (n_streq (m := sOld) (n := sOld) rfl rfl rfl) (decide_eq_true rfl)) ?_
     refine acan1_n rfl rfl rfl rfl (n_pt rfl rfl (by constructor)) ?_
     refine xM rfl rfl rfl rfl rfl ?_
     refine xM rfl rfl rfl rfl rfl ?_
     refine acan1_n rfl rfl rfl rfl (n_bool (n_eql rfl rfl rfl) (decide_eq_true (by omega))) ?_
     refine acan1_n rfl rfl rfl rfl (n_pt rfl rfl (by constructor)) ?_
     refine xM rfl rfl rfl rfl rfl ?_
     try dsimp only [St.put]
     refine acan1_s rfl rfl rfl rfl (s_load_agg' rfl rfl (Enc.len _)) ?_
     refine acan1_nil ?_
     refine aany_step [20] (by kernel_rfl) (by simp) ?_
     refine aeach_cons ?_ ?_
     ·try dsimp only [St.put]
      refine aone_e rfl rfl rfl (e_call_pure rfl rfl rfl (lawAt_pure _ _ _) ?_)
      refine aany_quiet [(21, none), (22, none), (23, none), (24, none), (25, none), (26, none), (27, none), (28, none)] (fun i => [21, 22, 23, 24, 25, 26, 27, 28].contains i) 46 [true, true, true, true, true, true, true, true, true, true, true, true, true, true, true, true, true, true, true, true, true, true, true, true, true, true, true, true, true, false, false, false, false, false, false, false, false, false, false, false, false, false, false, false, false, false, false, false, false, false, false, false, false, false, false, false, false, false, false, false, false, false, false, false, false, false, false, false, false, false, false, false, false, false, false] (by kernel_rfl) ?_
      refine acan1_n rfl rfl rfl rfl (n_bool (c := true) (n_agg_eql (x := (⟨0, 1, 2⟩ : PlaceD)) (y := (⟨0, 1, 2⟩ : PlaceD)) rfl rfl rfl) (decide_eq_true rfl)) ?_
      refine acan1_n rfl rfl rfl rfl (n_pt rfl rfl (by constructor)) ?_
      refine xM rfl rfl rfl rfl rfl ?_
      refine xM rfl rfl rfl rfl rfl ?_
      refine acan1_n rfl rfl rfl rfl (n_bool (n_eql rfl rfl rfl) (decide_eq_true (by omega))) ?_
      refine acan1_n rfl rfl rfl rfl (n_pt rfl rfl (by constructor)) ?_
      refine xM rfl rfl rfl rfl rfl ?_
      refine xM rfl rfl rfl rfl rfl ?_
      refine acan1_nil ?_
      refine aany_step [29] (by kernel_rfl) (by simp) ?_
      refine aeach_cons ?_ ?_
      ·try dsimp only [St.put]
       refine aone_e rfl rfl rfl (e_call_pure rfl rfl rfl (lawAt_pure _ _ _) ?_)
       refine aany_step [30] (by kernel_rfl) (by simp) ?_
       refine aeach_cons ?_ ?_
       ·try dsimp only [St.put]
        refine aone_e rfl rfl rfl (e_call_pure rfl rfl rfl (lawAt_pure _ _ _) ?_)
        refine aany_step [31] (by kernel_rfl) (by simp) ?_
        refine aeach_cons ?_ ?_
        ·try dsimp only [St.put]
         refine aone_e rfl rfl rfl (e_call_pure rfl rfl rfl (lawAt_pure _ _ _) ?_)
         refine aany_step [32] (by kernel_rfl) (by simp) ?_
         refine aeach_cons ?_ ?_
         ·try dsimp only [St.put]
          refine aone_e rfl rfl rfl (e_call_pure rfl rfl rfl (lawAt_pure _ _ _) ?_)
          refine aany_step [33] (by kernel_rfl) (by simp) ?_
          refine aeach_cons ?_ ?_
          ·try dsimp only [St.put]
           refine aone_e rfl rfl rfl (e_buildSlice rfl rfl rfl (by decide) (by decide) zR (by decide) ?_)
           refine aany_step [34] (by kernel_rfl) (by simp) ?_
           refine aeach_cons ?_ ?_
           ·try dsimp only [St.put]
            refine aone_e rfl rfl rfl (e_call_pure rfl rfl rfl (lSameP [⟨0, 0, 1⟩, ⟨0, 1, 2⟩, ⟨1, 0, 0⟩, ⟨1, 0, 2⟩]) ?_)
            refine aany_quiet [(35, none), (36, none), (37, none), (38, none), (39, none), (40, none), (41, none)] (fun i => [35, 36, 37, 38, 39, 40, 41].contains i) 33 [true, true, true, true, true, true, true, true, true, true, true, true, true, true, true, true, true, true, true, true, true, true, true, true, true, true, true, true, true, true, true, true, true, true, true, true, true, true, true, true, true, true, false, false, false, false, false, false, false, false, false, false, false, false, false, false, false, false, false, false, false, false, false, false, false, false, false, false, false, false, false, false, false, false, false] (by kernel_rfl) ?_
            refine acan1_n rfl rfl rfl rfl (n_pt rfl rfl (by constructor)) ?_
            refine xM rfl rfl rfl rfl rfl ?_
            refine xM rfl rfl rfl rfl rfl ?_
            refine acan1_n rfl rfl rfl rfl (n_bool (n_eql rfl rfl rfl) (decide_eq_true (by omega))) ?_
            refine acan1_n rfl rfl rfl rfl (n_pt rfl rfl (by constructor)) ?_
            refine xM rfl rfl rfl rfl rfl ?_
            refine xM rfl rfl rfl rfl rfl ?_
            refine acan1_nil ?_
            refine aany_step [42] (by kernel_rfl) (by simp) ?_
            refine aeach_cons ?_ ?_
            ·try dsimp only [St.put]
             refine aone_e rfl rfl rfl (e_buildSlice rfl rfl rfl (by decide) (by decide) zR (by decide) ?_)
             refine aany_step [43] (by kernel_rfl) (by simp) ?_
             refine aeach_cons ?_ ?_
             ·try dsimp only [St.put]
              refine aone_e rfl rfl rfl (e_call_pure rfl rfl rfl (lSameW [sAnd, sIs, sOld, sSea, sThe]) ?_)
              refine aany_quiet [(44, none), (45, none), (46, none), (47, none), (48, none), (49, none), (50, none), (51, none)] (fun i => [44, 45, 46, 47, 48, 49].contains i) 23 [true, true, true, true, true, true, true, true, true, true, true, true, true, true, true, true, true, true, true, true, true, true, true, true, true, true, true, true, true, true, true, true, true, true, true, true, true, true, true, true, true, true, true, true, true, true, true, true, true, true, true, true, false, false, false, false, false, false, false, false, false, false, false, false, false, false, false, false, false, false, false, false, false, false, false] (by kernel_rfl) ?_
              refine acan1_n rfl rfl rfl rfl (n_pt rfl rfl (by constructor)) ?_
              refine xM rfl rfl rfl rfl rfl ?_
              refine xM rfl rfl rfl rfl rfl ?_
              refine acan1_n rfl rfl rfl rfl (n_bool (n_eql rfl rfl rfl) (decide_eq_true (by omega))) ?_
              refine acan1_n rfl rfl rfl rfl (n_pt rfl rfl (by constructor)) ?_
              refine xM rfl rfl rfl rfl rfl ?_
              try dsimp only [St.put]
              refine acan1_s rfl rfl rfl rfl (s_load_agg' rfl rfl rfl) ?_
              try dsimp only [St.put]
              refine acan1_s rfl rfl rfl rfl (s_load_agg' rfl rfl rfl) ?_
              refine acan1_nil ?_
              refine aany_step [52] (by kernel_rfl) (by simp) ?_
              refine aeach_cons ?_ ?_
              ·try dsimp only [St.put]
               refine aone_e rfl rfl rfl (e_call_pure rfl rfl rfl (lSame coldT) ?_)
               refine aany_quiet [(53, none), (54, none), (55, none), (56, none), (57, none), (58, none), (59, none)] (fun i => [53, 54, 55, 56, 57, 58].contains i) 15 [true, true, true, true, true, true, true, true, true, true, true, true, true, true, true, true, true, true, true, true, true, true, true, true, true, true, true, true, true, true, true, true, true, true, true, true, true, true, true, true, true, true, true, true, true, true, true, true, true, true, true, true, true, true, true, true, true, true, true, true, false, false, false, false, false, false, false, false, false, false, false, false, false, false, false] (by kernel_rfl) ?_
               refine acan1_n rfl rfl rfl rfl (n_pt rfl rfl (by constructor)) ?_
               refine xM rfl rfl rfl rfl rfl ?_
               refine xM rfl rfl rfl rfl rfl ?_
               refine acan1_n rfl rfl rfl rfl (n_bool (n_eql rfl rfl rfl) (decide_eq_true (by omega))) ?_
               refine acan1_n rfl rfl rfl rfl (n_pt rfl rfl (by constructor)) ?_
               refine xM rfl rfl rfl rfl rfl ?_
               try dsimp only [St.put]
               refine acan1_s rfl rfl rfl rfl (s_load_agg' rfl rfl (Enc.len _)) ?_
               refine acan1_nil ?_
               refine aany_step [60] (by kernel_rfl) (by simp) ?_
               refine aeach_cons ?_ ?_
               ·try dsimp only [St.put]
                refine aone_e rfl rfl rfl (e_call_pure rfl rfl rfl (lawSalt_pure) ?_)
                refine aany_step [61] (by kernel_rfl) (by simp) ?_
                refine aeach_cons ?_ ?_
                ·try dsimp only [St.put]
                 refine aone_e rfl rfl rfl (e_call_pure rfl rfl rfl (lSameC saltC) ?_)
                 refine aany_quiet [(62, none), (63, none), (64, none), (65, none), (66, none), (67, none), (68, none)] (fun i => [62, 63, 64, 65, 66, 67, 68].contains i) 6 [true, true, true, true, true, true, true, true, true, true, true, true, true, true, true, true, true, true, true, true, true, true, true, true, true, true, true, true, true, true, true, true, true, true, true, true, true, true, true, true, true, true, true, true, true, true, true, true, true, true, true, true, true, true, true, true, true, true, true, true, true, true, true, true, true, true, true, true, true, false, false, false, false, false, false] (by kernel_rfl) ?_
                 refine acan1_n rfl rfl rfl rfl (n_pt rfl rfl (by constructor)) ?_
                 refine xM rfl rfl rfl rfl rfl ?_
                 refine xM rfl rfl rfl rfl rfl ?_
                 refine acan1_n rfl rfl rfl rfl (n_bool (n_eql rfl rfl rfl) (decide_eq_true (by omega))) ?_
                 refine acan1_n rfl rfl rfl rfl (n_pt rfl rfl (by constructor)) ?_
                 refine xM rfl rfl rfl rfl rfl ?_
                 refine xM rfl rfl rfl rfl rfl ?_
                 refine acan1_nil ?_
                 refine aany_step [69] (by kernel_rfl) (by simp) ?_
                 refine aeach_cons ?_ ?_
                 ·try dsimp only [St.put]
                  refine aone_e rfl rfl rfl (e_call_pure rfl rfl rfl (lawAt_pure _ _ _) ?_)
                  refine aany_step [70] (by kernel_rfl) (by simp) ?_
                  refine aeach_cons ?_ ?_
                  ·try dsimp only [St.put]
                   refine aone_e rfl rfl rfl (e_call_pure rfl rfl rfl (lawAt_pure _ _ _) ?_)
                   refine aany_step [71] (by kernel_rfl) (by simp) ?_
                   refine aeach_cons ?_ ?_
                   ·try dsimp only [St.put]
                    refine aone_e rfl rfl rfl (e_buildSlice rfl rfl rfl (by decide) (by decide) zR (by decide) ?_)
                    refine aany_step [72] (by kernel_rfl) (by simp) ?_
                    refine aeach_cons ?_ ?_
                    ·try dsimp only [St.put]
                     refine aone_e rfl rfl rfl (e_call_pure rfl rfl rfl (lSameP [⟨0, 0, 3⟩, ⟨0, 1, 1⟩]) ?_)
                     refine aany_quiet [(73, none), (74, none)] (fun i => [73, 74].contains i) 0 [true, true, true, true, true, true, true, true, true, true, true, true, true, true, true, true, true, true, true, true, true, true, true, true, true, true, true, true, true, true, true, true, true, true, true, true, true, true, true, true, true, true, true, true, true, true, true, true, true, true, true, true, true, true, true, true, true, true, true, true, true, true, true, true, true, true, true, true, true, true, true, true, true, true, true] (by kernel_rfl) ?_
                     refine acan1_n rfl rfl rfl rfl (n_pt rfl rfl (by constructor)) ?_
                     refine acan1_n rfl rfl rfl rfl (n_as rfl (by constructor)) ?_
                     refine acan1_nil ?_
                     dsimp only [St.put]
                     refine aany_nil (by kernel_rfl) ?_
                     refine K11 _ ?_
                     refine aw_ret ?_
                     refine ends_1 rfl (by constructor) zN zS ?_
                     rfl
                    exact aeach_nil
                   exact aeach_nil
                  exact aeach_nil
                 exact aeach_nil
                exact aeach_nil
               exact aeach_nil
              exact aeach_nil
             exact aeach_nil
            exact aeach_nil
           exact aeach_nil
          exact aeach_nil
         exact aeach_nil
        exact aeach_nil
       exact aeach_nil
      exact aeach_nil
     exact aeach_nil
    exact aeach_nil
   exact aeach_nil
  refine aeach_cons ?_ ?_
  ·try dsimp only [St.put]
   refine aone_e rfl rfl rfl (e_allocC rfl ?_)
   refine aany_step [2] (by kernel_rfl) (by simp) ?_
   refine aeach_cons ?_ ?_
   ·try dsimp only [St.put]
    refine aone_e rfl rfl rfl (e_call_pure rfl rfl rfl (alFind) ?_)
    refine aany_quiet [(3, none), (4, none), (5, none)] (fun i => [3, 4, 5].contains i) 2 [true, true, true, true, true, true, true, false, false] (by kernel_rfl) ?_
    refine xM rfl rfl rfl rfl rfl ?_
    refine acan1_n rfl rfl rfl rfl (n_extract rfl rfl rfl) ?_
    refine acan1_n rfl rfl rfl rfl (n_extract rfl rfl rfl) ?_
    refine acan1_nil ?_
    refine aany_step [7] (by kernel_rfl) (by simp) ?_
    refine aeach_cons ?_ ?_
    ·try dsimp only [St.put]
     refine aone_e rfl rfl rfl (e_store_all rfl rfl rfl zG rfl rfl (by rfl) ?_)
     refine aany_quiet [(8, none)] (fun i => [8].contains i) 0 [true, true, true, true, true, true, true, true, true] (by kernel_rfl) ?_
     refine acan1_n rfl rfl rfl rfl (n_as rfl (by constructor)) ?_
     refine acan1_nil ?_
     dsimp only [St.put]
     refine aany_of_tr (tr_commit (i := 13) rfl zG (by first | exact List.cons_ne_nil _ _ | (simp; done) | (simp [putAt]; done))) ?_
     dsimp only
     refine aany_nil (by kernel_rfl) ?_
     refine K8 _ ?_
     refine aw_wipe 18 ?_
     simp only [firsts, getA, Nat.reduceAdd, List.getD_cons_zero, List.getD_cons_succ, List.getD_nil, natBeq, Nat.reduceBEq, cond_true, cond_false]
     refine aw_cutD (X := Unit) (fun _ => True) (fun _ => [(1, .v (.int .i64 10)), (2, .v (.int .i64 0)), (3, .v (.string sOld)), (4, .v (.int .i64 0)), (5, .elem (cells (⟨0, 1, 2⟩ : PlaceD))), (6, .v (.int .i64 0)), (7, lst ([⟨0, 0, 1⟩, ⟨0, 1, 2⟩, ⟨1, 0, 0⟩, ⟨1, 0, 2⟩] : List PlaceD)), (8, .v (.int .i64 0)), (9, lst [sAnd, sIs, sOld, sSea, sThe]), (10, .v (.int .i64 0)), (11, .elem [lst coldT]), (12, .v (.int .i64 0)), (13, .elem (cells saltC)), (14, .v (.int .i64 0)), (15, lst ([⟨0, 0, 3⟩, ⟨0, 1, 1⟩] : List PlaceD)), (16, .v (.int .i64 0)), (17, .any)]) (fun _ G' => G') rfl ?_ (fun _ _ _ _ h => .inl h) ?_ ?_
     ·rintro _ hI
      exact zL
     ·refine yR ?_
      try dsimp only [St.put]
      refine aops_e rfl (e_call_pure rfl rfl rfl (lawSea_pure) ?_)
      try dsimp only [St.put]
      refine aops_e rfl (e_call_pure rfl rfl rfl (lawSalt_pure) ?_)
      try dsimp only [St.put]
      refine aops_e rfl (e_buildSlice rfl rfl rfl (by decide) (by decide) zR (by decide) ?_)
      try dsimp only [St.put]
      refine aops_e rfl (e_call_n rfl rfl rfl (alDoubt n) zG (by dsimp only [St.put]; omega) ?_)
      refine yM rfl rfl ?_
      refine yX rfl rfl rfl rfl ?_
      refine yX rfl rfl rfl rfl ?_
      refine yA rfl rfl ?_
      refine yA rfl rfl ?_
      refine yN ?_
      dsimp only [St.put]
      exact ⟨(), trivial, ⟨⟨rfl, rfl⟩, zF, zB, zN, zX⟩⟩
     rintro _ hI
     dsimp only at hI ⊢
     refine yS fun _ K13 => ?_
     refine yR ?_
     try dsimp only [St.put]
     refine aops_e rfl (e_buildSlice rfl rfl rfl (by decide) (by decide) zR (by decide) ?_)
     try dsimp only [St.put]
     refine aops_e rfl (e_buildSlice rfl rfl rfl (by decide) (by decide) zR (by decide) ?_)
     try dsimp only [St.put]
     refine aops_e rfl (e_buildSlice rfl rfl rfl (by decide) (by decide) zR (by decide) ?_)
     refine aops_n rfl (n_build rfl rfl) ?_
     try dsimp only [St.put]
     refine aops_e rfl (e_buildSlice rfl rfl rfl (by decide) (by decide) zR (by decide) ?_)
     try dsimp only [St.put]
     refine aops_e rfl (e_buildSlice rfl rfl rfl (by decide) (by decide) zR (by decide) ?_)
     refine aops_n rfl (n_build rfl rfl) ?_
     try dsimp only [St.put]
     refine aops_e rfl (e_buildSlice rfl rfl rfl (by decide) (by decide) zR (by decide) ?_)
     refine aops_n rfl (n_build rfl rfl) ?_
     try dsimp only [St.put]
     refine aops_e rfl (e_allocC rfl ?_)
     try dsimp only [St.put]
     refine aops_e rfl (e_store_all rfl rfl rfl zG rfl rfl (by rfl) ?_)
     refine yN ?_
     dsimp only [St.put]
     refine K13 _ ?_
     refine aw_commitD (i := 17) rfl zG (by first | exact List.cons_ne_nil _ _ | (simp; done) | (simp [putAt]; done)) ?_
     dsimp only
     refine yS fun _ K14 => ?_
     refine aw_drawT [(0, none), (1, none), (2, none), (3, none), (4, none), (5, none), (6, none), (7, none), (8, none), (9, none), (10, none), (11, none), (12, none), (13, none), (14, none), (15, none), (16, none), (17, none), (18, none), (19, none)] (fun _ => false) (fun i => [0, 1, 2, 3, 4, 5, 6, 7, 8, 9, 10, 11, 12, 13, 14, 15, 16, 17, 18].contains i) 55 [true, true, true, true, true, true, true, true, true, true, true, true, true, true, true, true, true, true, true, true, false, false, false, false, false, false, false, false, false, false, false, false, false, false, false, false, false, false, false, false, false, false, false, false, false, false, false, false, false, false, false, false, false, false, false, false, false, false, false, false, false, false, false, false, false, false, false, false, false, false, false, false, false, false, false] (by kernel_rfl) (by kernel_rfl) ?_
     refine xM rfl rfl rfl rfl rfl ?_
     refine acan1_n rfl rfl rfl rfl (n_bool (n_eql rfl rfl rfl) (decide_eq_true (by omega))) ?_
     refine xM rfl rfl rfl rfl rfl ?_
     refine xM rfl rfl rfl rfl rfl ?_
     refine acan1_n rfl rfl rfl rfl (n_bool (c := true) (n_eql rfl rfl rfl) (decide_eq_true rfl)) ?_
     refine acan1_n rfl rfl rfl rfl (n_pt rfl rfl (by constructor)) ?_
     refine xM rfl rfl rfl rfl rfl ?_
     refine xM rfl rfl rfl rfl rfl ?_
     refine acan1_n rfl rfl rfl rfl (n_bool (n_eql rfl rfl rfl) (decide_eq_true (by omega))) ?_
     refine acan1_n rfl rfl rfl rfl (n_pt rfl rfl (by constructor)) ?_
     refine xM rfl rfl rfl rfl rfl ?_
     refine xM rfl rfl rfl rfl rfl ?_
     refine acan1_n rfl rfl rfl rfl (n_bool (c := true) (n_streq (m := sOld) (n := sOld) rfl rfl rfl) (decide_eq_true rfl)) ?_
     refine acan1_n rfl rfl rfl rfl (n_pt rfl rfl (by constructor)) ?_
     refine xM rfl rfl rfl rfl rfl ?_
     refine xM rfl rfl rfl rfl rfl ?_
     refine acan1_n rfl rfl rfl rfl (n_bool (n_eql rfl rfl rfl) (decide_eq_true (by omega))) ?_
     refine acan1_n rfl rfl rfl rfl (n_pt rfl rfl (by constructor)) ?_
     refine xM rfl rfl rfl rfl rfl ?_
     try dsimp only [St.put]
     refine acan1_s rfl rfl rfl rfl (s_load_agg' rfl rfl (Enc.len _)) ?_
     refine acan1_nil ?_
     refine aany_step [20] (by kernel_rfl) (by simp) ?_
     refine aeach_cons ?_ ?_
     ·try dsimp only [St.put]
      refine aone_e rfl rfl rfl (e_call_pure rfl rfl rfl (lawAt_pure _ _ _) ?_)
      refine aany_quiet [(21, none), (22, none), (23, none), (24, none), (25, none), (26, none), (27, none), (28, none)] (fun i => [21, 22, 23, 24, 25, 26, 27, 28].contains i) 46 [true, true, true, true, true, true, true, true, true, true, true, true, true, true, true, true, true, true, true, true, true, true, true, true, true, true, true, true, true, false, false, false, false, false, false, false, false, false, false, false, false, false, false, false, false, false, false, false, false, false, false, false, false, false, false, false, false, false, false, false, false, false, false, false, false, false, false, false, false, false, false, false, false, false, false] (by kernel_rfl) ?_
      refine acan1_n rfl rfl rfl rfl (n_bool (c := true) (n_agg_eql (x := (⟨0, 1, 2⟩ : PlaceD)) (y := (⟨0, 1, 2⟩ : PlaceD)) rfl rfl rfl) (decide_eq_true rfl)) ?_
      refine acan1_n rfl rfl rfl rfl (n_pt rfl rfl (by constructor)) ?_
      refine xM rfl rfl rfl rfl rfl ?_
      refine xM rfl rfl rfl rfl rfl ?_
      refine acan1_n rfl rfl rfl rfl (n_bool (n_eql rfl rfl rfl) (decide_eq_true (by omega))) ?_
      refine acan1_n rfl rfl rfl rfl (n_pt rfl rfl (by constructor)) ?_
      refine xM rfl rfl rfl rfl rfl ?_
      refine xM rfl rfl rfl rfl rfl ?_
      refine acan1_nil ?_
      refine aany_step [29] (by kernel_rfl) (by simp) ?_
      refine aeach_cons ?_ ?_
      ·try dsimp only [St.put]
       refine aone_e rfl rfl rfl (e_call_pure rfl rfl rfl (lawAt_pure _ _ _) ?_)
       refine aany_step [30] (by kernel_rfl) (by simp) ?_
       refine aeach_cons ?_ ?_
       ·try dsimp only [St.put]
        refine aone_e rfl rfl rfl (e_call_pure rfl rfl rfl (lawAt_pure _ _ _) ?_)
        refine aany_step [31] (by kernel_rfl) (by simp) ?_
        refine aeach_cons ?_ ?_
        ·try dsimp only [St.put]
         refine aone_e rfl rfl rfl (e_call_pure rfl rfl rfl (lawAt_pure _ _ _) ?_)
         refine aany_step [32] (by kernel_rfl) (by simp) ?_
         refine aeach_cons ?_ ?_
         ·try dsimp only [St.put]
          refine aone_e rfl rfl rfl (e_call_pure rfl rfl rfl (lawAt_pure _ _ _) ?_)
          refine aany_step [33] (by kernel_rfl) (by simp) ?_
          refine aeach_cons ?_ ?_
          ·try dsimp only [St.put]
           refine aone_e rfl rfl rfl (e_buildSlice rfl rfl rfl (by decide) (by decide) zR (by decide) ?_)
           refine aany_step [34] (by kernel_rfl) (by simp) ?_
           refine aeach_cons ?_ ?_
           ·try dsimp only [St.put]
            refine aone_e rfl rfl rfl (e_call_pure rfl rfl rfl (lSameP [⟨0, 0, 1⟩, ⟨0, 1, 2⟩, ⟨1, 0, 0⟩, ⟨1, 0, 2⟩]) ?_)
            refine aany_quiet [(35, none), (36, none), (37, none), (38, none), (39, none), (40, none), (41, none)] (fun i => [35, 36, 37, 38, 39, 40, 41].contains i) 33 [true, true, true, true, true, true, true, true, true, true, true, true, true, true, true, true, true, true, true, true, true, true, true, true, true, true, true, true, true, true, true, true, true, true, true, true, true, true, true, true, true, true, false, false, false, false, false, false, false, false, false, false, false, false, false, false, false, false, false, false, false, false, false, false, false, false, false, false, false, false, false, false, false, false, false] (by kernel_rfl) ?_
            refine acan1_n rfl rfl rfl rfl (n_pt rfl rfl (by constructor)) ?_
            refine xM rfl rfl rfl rfl rfl ?_
            refine xM rfl rfl rfl rfl rfl ?_
            refine acan1_n rfl rfl rfl rfl (n_bool (n_eql rfl rfl rfl) (decide_eq_true (by omega))) ?_
            refine acan1_n rfl rfl rfl rfl (n_pt rfl rfl (by constructor)) ?_
            refine xM rfl rfl rfl rfl rfl ?_
            refine xM rfl rfl rfl rfl rfl ?_
            refine acan1_nil ?_
            refine aany_step [42] (by kernel_rfl) (by simp) ?_
            refine aeach_cons ?_ ?_
            ·try dsimp only [St.put]
             refine aone_e rfl rfl rfl (e_buildSlice rfl rfl rfl (by decide) (by decide) zR (by decide) ?_)
             refine aany_step [43] (by kernel_rfl) (by simp) ?_
             refine aeach_cons ?_ ?_
             ·try dsimp only [St.put]
              refine aone_e rfl rfl rfl (e_call_pure rfl rfl rfl (lSameW [sAnd, sIs, sOld, sSea, sThe]) ?_)
              refine aany_quiet [(44, none), (45, none), (46, none), (47, none), (48, none), (49, none), (50, none), (51, none)] (fun i => [44, 45, 46, 47, 48, 49].contains i) 23 [true, true, true, true, true, true, true, true, true, true, true, true, true, true, true, true, true, true, true, true, true, true, true, true, true, true, true, true, true, true, true, true, true, true, true, true, true, true, true, true, true, true, true, true, true, true, true, true, true, true, true, true, false, false, false, false, false, false, false, false, false, false, false, false, false, false, false, false, false, false, false, false, false, false, false] (by kernel_rfl) ?_
              refine acan1_n rfl rfl rfl rfl (n_pt rfl rfl (by constructor)) ?_
              refine xM rfl rfl rfl rfl rfl ?_
              refine xM rfl rfl rfl rfl rfl ?_
              refine acan1_n rfl rfl rfl rfl (n_bool (n_eql rfl rfl rfl) (decide_eq_true (by omega))) ?_
              refine acan1_n rfl rfl rfl rfl (n_pt rfl rfl (by constructor)) ?_
              refine xM rfl rfl rfl rfl rfl ?_
              try dsimp only [St.put]
              refine acan1_s rfl rfl rfl rfl (s_load_agg' rfl rfl rfl) ?_
              try dsimp only [St.put]
              refine acan1_s rfl rfl rfl rfl (s_load_agg' rfl rfl rfl) ?_
              refine acan1_nil ?_
              refine aany_step [52] (by kernel_rfl) (by simp) ?_
              refine aeach_cons ?_ ?_
              ·try dsimp only [St.put]
               refine aone_e rfl rfl rfl (e_call_pure rfl rfl rfl (lSame coldT) ?_)
               refine aany_quiet [(53, none), (54, none), (55, none), (56, none), (57, none), (58, none), (59, none)] (fun i => [53, 54, 55, 56, 57, 58].contains i) 15 [true, true, true, true, true, true, true, true, true, true, true, true, true, true, true, true, true, true, true, true, true, true, true, true, true, true, true, true, true, true, true, true, true, true, true, true, true, true, true, true, true, true, true, true, true, true, true, true, true, true, true, true, true, true, true, true, true, true, true, true, false, false, false, false, false, false, false, false, false, false, false, false, false, false, false] (by kernel_rfl) ?_
               refine acan1_n rfl rfl rfl rfl (n_pt rfl rfl (by constructor)) ?_
               refine xM rfl rfl rfl rfl rfl ?_
               refine xM rfl rfl rfl rfl rfl ?_
               refine acan1_n rfl rfl rfl rfl (n_bool (n_eql rfl rfl rfl) (decide_eq_true (by omega))) ?_
               refine acan1_n rfl rfl rfl rfl (n_pt rfl rfl (by constructor)) ?_
               refine xM rfl rfl rfl rfl rfl ?_
               try dsimp only [St.put]
               refine acan1_s rfl rfl rfl rfl (s_load_agg' rfl rfl (Enc.len _)) ?_
               refine acan1_nil ?_
               refine aany_step [60] (by kernel_rfl) (by simp) ?_
               refine aeach_cons ?_ ?_
               ·try dsimp only [St.put]
                refine aone_e rfl rfl rfl (e_call_pure rfl rfl rfl (lawSalt_pure) ?_)
                refine aany_step [61] (by kernel_rfl) (by simp) ?_
                refine aeach_cons ?_ ?_
                ·try dsimp only [St.put]
                 refine aone_e rfl rfl rfl (e_call_pure rfl rfl rfl (lSameC saltC) ?_)
                 refine aany_quiet [(62, none), (63, none), (64, none), (65, none), (66, none), (67, none), (68, none)] (fun i => [62, 63, 64, 65, 66, 67, 68].contains i) 6 [true, true, true, true, true, true, true, true, true, true, true, true, true, true, true, true, true, true, true, true, true, true, true, true, true, true, true, true, true, true, true, true, true, true, true, true, true, true, true, true, true, true, true, true, true, true, true, true, true, true, true, true, true, true, true, true, true, true, true, true, true, true, true, true, true, true, true, true, true, false, false, false, false, false, false] (by kernel_rfl) ?_
                 refine acan1_n rfl rfl rfl rfl (n_pt rfl rfl (by constructor)) ?_
                 refine xM rfl rfl rfl rfl rfl ?_
                 refine xM rfl rfl rfl rfl rfl ?_
                 refine acan1_n rfl rfl rfl rfl (n_bool (n_eql rfl rfl rfl) (decide_eq_true (by omega))) ?_
                 refine acan1_n rfl rfl rfl rfl (n_pt rfl rfl (by constructor)) ?_
                 refine xM rfl rfl rfl rfl rfl ?_
                 refine xM rfl rfl rfl rfl rfl ?_
                 refine acan1_nil ?_
                 refine aany_step [69] (by kernel_rfl) (by simp) ?_
                 refine aeach_cons ?_ ?_
                 ·try dsimp only [St.put]
                  refine aone_e rfl rfl rfl (e_call_pure rfl rfl rfl (lawAt_pure _ _ _) ?_)
                  refine aany_step [70] (by kernel_rfl) (by simp) ?_
                  refine aeach_cons ?_ ?_
                  ·try dsimp only [St.put]
                   refine aone_e rfl rfl rfl (e_call_pure rfl rfl rfl (lawAt_pure _ _ _) ?_)
                   refine aany_step [71] (by kernel_rfl) (by simp) ?_
                   refine aeach_cons ?_ ?_
                   ·try dsimp only [St.put]
                    refine aone_e rfl rfl rfl (e_buildSlice rfl rfl rfl (by decide) (by decide) zR (by decide) ?_)
                    refine aany_step [72] (by kernel_rfl) (by simp) ?_
                    refine aeach_cons ?_ ?_
                    ·try dsimp only [St.put]
                     refine aone_e rfl rfl rfl (e_call_pure rfl rfl rfl (lSameP [⟨0, 0, 3⟩, ⟨0, 1, 1⟩]) ?_)
                     refine aany_quiet [(73, none), (74, none)] (fun i => [73, 74].contains i) 0 [true, true, true, true, true, true, true, true, true, true, true, true, true, true, true, true, true, true, true, true, true, true, true, true, true, true, true, true, true, true, true, true, true, true, true, true, true, true, true, true, true, true, true, true, true, true, true, true, true, true, true, true, true, true, true, true, true, true, true, true, true, true, true, true, true, true, true, true, true, true, true, true, true, true, true] (by kernel_rfl) ?_
                     refine acan1_n rfl rfl rfl rfl (n_pt rfl rfl (by constructor)) ?_
                     refine acan1_n rfl rfl rfl rfl (n_as rfl (by constructor)) ?_
                     refine acan1_nil ?_
                     dsimp only [St.put]
                     refine aany_nil (by kernel_rfl) ?_
                     refine K14 _ ?_
                     refine aw_ret ?_
                     refine ends_1 rfl (by constructor) zN zS ?_
                     rfl
                    exact aeach_nil
                   exact aeach_nil
                  exact aeach_nil
                 exact aeach_nil
                exact aeach_nil
               exact aeach_nil
              exact aeach_nil
             exact aeach_nil
            exact aeach_nil
           exact aeach_nil
          exact aeach_nil
         exact aeach_nil
        exact aeach_nil
       exact aeach_nil
      exact aeach_nil
     exact aeach_nil
    exact aeach_nil
   exact aeach_nil
  exact aeach_nil
 refine aeach_cons ?_ ?_
 ·try dsimp only [St.put]
  refine aone_e rfl rfl rfl (e_allocC rfl ?_)
  refine aany_step [0] (by kernel_rfl) (by simp) ?_
  refine aeach_cons ?_ ?_
  ·try dsimp only [St.put]
   refine aone_e rfl rfl rfl (e_call_pure rfl rfl rfl (lawSea_pure) ?_)
   refine aany_step [2] (by kernel_rfl) (by simp) ?_
   refine aeach_cons ?_ ?_
   ·try dsimp only [St.put]
    refine aone_e rfl rfl rfl (e_call_pure rfl rfl rfl (alFind) ?_)
    refine aany_quiet [(3, none), (4, none), (5, none)] (fun i => [3, 4, 5].contains i) 2 [true, true, true, true, true, true, true, false, false] (by kernel_rfl) ?_
    refine xM rfl rfl rfl rfl rfl ?_
    refine acan1_n rfl rfl rfl rfl (n_extract rfl rfl rfl) ?_
    refine acan1_n rfl rfl rfl rfl (n_extract rfl rfl rfl) ?_
    refine acan1_nil ?_
    refine aany_step [7] (by kernel_rfl) (by simp) ?_
    refine aeach_cons ?_ ?_
    ·try dsimp only [St.put]
     refine aone_e rfl rfl rfl (e_store_all rfl rfl rfl zG rfl rfl (by rfl) ?_)
     refine aany_quiet [(8, none)] (fun i => [8].contains i) 0 [true, true, true, true, true, true, true, true, true] (by kernel_rfl) ?_
     refine acan1_n rfl rfl rfl rfl (n_as rfl (by constructor)) ?_
     refine acan1_nil ?_
     dsimp only [St.put]
     refine aany_of_tr (tr_commit (i := 13) rfl zG (by first | exact List.cons_ne_nil _ _ | (simp; done) | (simp [putAt]; done))) ?_
     dsimp only
     refine aany_nil (by kernel_rfl) ?_
     refine K8 _ ?_
     refine aw_wipe 18 ?_
     simp only [firsts, getA, Nat.reduceAdd, List.getD_cons_zero, List.getD_cons_succ, List.getD_nil, natBeq, Nat.reduceBEq, cond_true, cond_false]
     refine aw_cutD (X := Unit) (fun _ => True) (fun _ => [(1, .v (.int .i64 10)), (2, .v (.int .i64 0)), (3, .v (.string sOld)), (4, .v (.int .i64 0)), (5, .elem (cells (⟨0, 1, 2⟩ : PlaceD))), (6, .v (.int .i64 0)), (7, lst ([⟨0, 0, 1⟩, ⟨0, 1, 2⟩, ⟨1, 0, 0⟩, ⟨1, 0, 2⟩] : List PlaceD)), (8, .v (.int .i64 0)), (9, lst [sAnd, sIs, sOld, sSea, sThe]), (10, .v (.int .i64 0)), (11, .elem [lst coldT]), (12, .v (.int .i64 0)), (13, .elem (cells saltC)), (14, .v (.int .i64 0)), (15, lst ([⟨0, 0, 3⟩, ⟨0, 1, 1⟩] : List PlaceD)), (16, .v (.int .i64 0)), (17, .any)]) (fun _ G' => G') rfl ?_ (fun _ _ _ _ h => .inl h) ?_ ?_
     ·rintro _ hI
      exact zL
     ·refine yR ?_
      try dsimp only [St.put]
      refine aops_e rfl (e_call_pure rfl rfl rfl (lawSea_pure) ?_)
      try dsimp only [St.put]
      refine aops_e rfl (e_call_pure rfl rfl rfl (lawSalt_pure) ?_)
      try dsimp only [St.put]
      refine aops_e rfl (e_buildSlice rfl rfl rfl (by decide) (by decide) zR (by decide) ?_)
      try dsimp only [St.put]
      refine aops_e rfl (e_call_n rfl rfl rfl (alDoubt n) zG (by dsimp only [St.put]; omega) ?_)
      refine yM rfl rfl ?_
      refine yX rfl rfl rfl rfl ?_
      refine yX rfl rfl rfl rfl ?_
      refine yA rfl rfl ?_
      refine yA rfl rfl ?_
      refine yN ?_
      dsimp only [St.put]
      exact ⟨(), trivial, ⟨⟨rfl, rfl⟩, zF, zB, zN, zX⟩⟩
     rintro _ hI
     dsimp only at hI ⊢
     refine yS fun _ K16 => ?_
     refine yR ?_
     try dsimp only [St.put]
     refine aops_e rfl (e_buildSlice rfl rfl rfl (by decide) (by decide) zR (by decide) ?_)
     try dsimp only [St.put]
     refine aops_e rfl (e_buildSlice rfl rfl rfl (by decide) (by decide) zR (by decide) ?_)
     try dsimp only [St.put]
     refine aops_e rfl (e_buildSlice rfl rfl rfl (by decide) (by decide) zR (by decide) ?_)
     refine aops_n rfl (n_build rfl rfl) ?_
     try dsimp only [St.put]
     refine aops_e rfl (e_buildSlice rfl rfl rfl (by decide) (by decide) zR (by decide) ?_)
     try dsimp only [St.put]
     refine aops_e rfl (e_buildSlice rfl rfl rfl (by decide) (by decide) zR (by decide) ?_)
     refine aops_n rfl (n_build rfl rfl) ?_
     try dsimp only [St.put]
     refine aops_e rfl (e_buildSlice rfl rfl rfl (by decide) (by decide) zR (by decide) ?_)
     refine aops_n rfl (n_build rfl rfl) ?_
     try dsimp only [St.put]
     refine aops_e rfl (e_allocC rfl ?_)
     try dsimp only [St.put]
     refine aops_e rfl (e_store_all rfl rfl rfl zG rfl rfl (by rfl) ?_)
     refine yN ?_
     dsimp only [St.put]
     refine K16 _ ?_
     refine aw_commitD (i := 17) rfl zG (by first | exact List.cons_ne_nil _ _ | (simp; done) | (simp [putAt]; done)) ?_
     dsimp only
     refine yS fun _ K17 => ?_
     refine aw_drawT [(0, none), (1, none), (2, none), (3, none), (4, none), (5, none), (6, none), (7, none), (8, none), (9, none), (10, none), (11, none), (12, none), (13, none), (14, none), (15, none), (16, none), (17, none), (18, none), (19, none)] (fun _ => false) (fun i => [0, 1, 2, 3, 4, 5, 6, 7, 8, 9, 10, 11, 12, 13, 14, 15, 16, 17, 18].contains i) 55 [true, true, true, true, true, true, true, true, true, true, true, true, true, true, true, true, true, true, true, true, false, false, false, false, false, false, false, false, false, false, false, false, false, false, false, false, false, false, false, false, false, false, false, false, false, false, false, false, false, false, false, false, false, false, false, false, false, false, false, false, false, false, false, false, false, false, false, false, false, false, false, false, false, false, false] (by kernel_rfl) (by kernel_rfl) ?_
     refine xM rfl rfl rfl rfl rfl ?_
     refine acan1_n rfl rfl rfl rfl (n_bool (n_eql rfl rfl rfl) (decide_eq_true (by omega))) ?_
     refine xM rfl rfl rfl rfl rfl ?_
     refine xM rfl rfl rfl rfl rfl ?_
     refine acan1_n rfl rfl rfl rfl (n_bool (c := true) (n_eql rfl rfl rfl) (decide_eq_true rfl)) ?_
     refine acan1_n rfl rfl rfl rfl (n_pt rfl rfl (by constructor)) ?_
     refine xM rfl rfl rfl rfl rfl ?_
     refine xM rfl rfl rfl rfl rfl ?_
     refine acan1_n rfl rfl rfl rfl (n_bool (n_eql rfl rfl rfl) (decide_eq_true (by omega))) ?_
     refine acan1_n rfl rfl rfl rfl (n_pt rfl rfl (by constructor)) ?_
     refine xM rfl rfl rfl rfl rfl ?_
     refine xM rfl rfl rfl rfl rfl ?_
     refine acan1_n rfl rfl rfl rfl (n_bool (c := true) (n_streq (m := sOld) (n := sOld) rfl rfl rfl) (decide_eq_true rfl)) ?_
     refine acan1_n rfl rfl rfl rfl (n_pt rfl rfl (by constructor)) ?_
     refine xM rfl rfl rfl rfl rfl ?_
     refine xM rfl rfl rfl rfl rfl ?_
     refine acan1_n rfl rfl rfl rfl (n_bool (n_eql rfl rfl rfl) (decide_eq_true (by omega))) ?_
     refine acan1_n rfl rfl rfl rfl (n_pt rfl rfl (by constructor)) ?_
     refine xM rfl rfl rfl rfl rfl ?_
     try dsimp only [St.put]
     refine acan1_s rfl rfl rfl rfl (s_load_agg' rfl rfl (Enc.len _)) ?_
     refine acan1_nil ?_
     refine aany_step [20] (by kernel_rfl) (by simp) ?_
     refine aeach_cons ?_ ?_
     ·try dsimp only [St.put]
      refine aone_e rfl rfl rfl (e_call_pure rfl rfl rfl (lawAt_pure _ _ _) ?_)
      refine aany_quiet [(21, none), (22, none), (23, none), (24, none), (25, none), (26, none), (27, none), (28, none)] (fun i => [21, 22, 23, 24, 25, 26, 27, 28].contains i) 46 [true, true, true, true, true, true, true, true, true, true, true, true, true, true, true, true, true, true, true, true, true, true, true, true, true, true, true, true, true, false, false, false, false, false, false, false, false, false, false, false, false, false, false, false, false, false, false, false, false, false, false, false, false, false, false, false, false, false, false, false, false, false, false, false, false, false, false, false, false, false, false, false, false, false, false] (by kernel_rfl) ?_
      refine acan1_n rfl rfl rfl rfl (n_bool (c := true) (n_agg_eql (x := (⟨0, 1, 2⟩ : PlaceD)) (y := (⟨0, 1, 2⟩ : PlaceD)) rfl rfl rfl) (decide_eq_true rfl)) ?_
      refine acan1_n rfl rfl rfl rfl (n_pt rfl rfl (by constructor)) ?_
      refine xM rfl rfl rfl rfl rfl ?_
      refine xM rfl rfl rfl rfl rfl ?_
      refine acan1_n rfl rfl rfl rfl (n_bool (n_eql rfl rfl rfl) (decide_eq_true (by omega))) ?_
      refine acan1_n rfl rfl rfl rfl (n_pt rfl rfl (by constructor)) ?_
      refine xM rfl rfl rfl rfl rfl ?_
      refine xM rfl rfl rfl rfl rfl ?_
      refine acan1_nil ?_
      refine aany_step [29] (by kernel_rfl) (by simp) ?_
      refine aeach_cons ?_ ?_
      ·try dsimp only [St.put]
       refine aone_e rfl rfl rfl (e_call_pure rfl rfl rfl (lawAt_pure _ _ _) ?_)
       refine aany_step [30] (by kernel_rfl) (by simp) ?_
       refine aeach_cons ?_ ?_
       ·try dsimp only [St.put]
        refine aone_e rfl rfl rfl (e_call_pure rfl rfl rfl (lawAt_pure _ _ _) ?_)
        refine aany_step [31] (by kernel_rfl) (by simp) ?_
        refine aeach_cons ?_ ?_
        ·try dsimp only [St.put]
         refine aone_e rfl rfl rfl (e_call_pure rfl rfl rfl (lawAt_pure _ _ _) ?_)
         refine aany_step [32] (by kernel_rfl) (by simp) ?_
         refine aeach_cons ?_ ?_
         ·try dsimp only [St.put]
          refine aone_e rfl rfl rfl (e_call_pure rfl rfl rfl (lawAt_pure _ _ _) ?_)
          refine aany_step [33] (by kernel_rfl) (by simp) ?_
          refine aeach_cons ?_ ?_
          ·try dsimp only [St.put]
           refine aone_e rfl rfl rfl (e_buildSlice rfl rfl rfl (by decide) (by decide) zR (by decide) ?_)
           refine aany_step [34] (by kernel_rfl) (by simp) ?_
           refine aeach_cons ?_ ?_
           ·try dsimp only [St.put]
            refine aone_e rfl rfl rfl (e_call_pure rfl rfl rfl (lSameP [⟨0, 0, 1⟩, ⟨0, 1, 2⟩, ⟨1, 0, 0⟩, ⟨1, 0, 2⟩]) ?_)
            refine aany_quiet [(35, none), (36, none), (37, none), (38, none), (39, none), (40, none), (41, none)] (fun i => [35, 36, 37, 38, 39, 40, 41].contains i) 33 [true, true, true, true, true, true, true, true, true, true, true, true, true, true, true, true, true, true, true, true, true, true, true, true, true, true, true, true, true, true, true, true, true, true, true, true, true, true, true, true, true, true, false, false, false, false, false, false, false, false, false, false, false, false, false, false, false, false, false, false, false, false, false, false, false, false, false, false, false, false, false, false, false, false, false] (by kernel_rfl) ?_
            refine acan1_n rfl rfl rfl rfl (n_pt rfl rfl (by constructor)) ?_
            refine xM rfl rfl rfl rfl rfl ?_
            refine xM rfl rfl rfl rfl rfl ?_
            refine acan1_n rfl rfl rfl rfl (n_bool (n_eql rfl rfl rfl) (decide_eq_true (by omega))) ?_
            refine acan1_n rfl rfl rfl rfl (n_pt rfl rfl (by constructor)) ?_
            refine xM rfl rfl rfl rfl rfl ?_
            refine xM rfl rfl rfl rfl rfl ?_
            refine acan1_nil ?_
            refine aany_step [42] (by kernel_rfl) (by simp) ?_
            refine aeach_cons ?_ ?_
            ·try dsimp only [St.put]
             refine aone_e rfl rfl rfl (e_buildSlice rfl rfl rfl (by decide) (by decide) zR (by decide) ?_)
             refine aany_step [43] (by kernel_rfl) (by simp) ?_
             refine aeach_cons ?_ ?_
             ·try dsimp only [St.put]
              refine aone_e rfl rfl rfl (e_call_pure rfl rfl rfl (lSameW [sAnd, sIs, sOld, sSea, sThe]) ?_)
              refine aany_quiet [(44, none), (45, none), (46, none), (47, none), (48, none), (49, none), (50, none), (51, none)] (fun i => [44, 45, 46, 47, 48, 49].contains i) 23 [true, true, true, true, true, true, true, true, true, true, true, true, true, true, true, true, true, true, true, true, true, true, true, true, true, true, true, true, true, true, true, true, true, true, true, true, true, true, true, true, true, true, true, true, true, true, true, true, true, true, true, true, false, false, false, false, false, false, false, false, false, false, false, false, false, false, false, false, false, false, false, false, false, false, false] (by kernel_rfl) ?_
              refine acan1_n rfl rfl rfl rfl (n_pt rfl rfl (by constructor)) ?_
              refine xM rfl rfl rfl rfl rfl ?_
              refine xM rfl rfl rfl rfl rfl ?_
              refine acan1_n rfl rfl rfl rfl (n_bool (n_eql rfl rfl rfl) (decide_eq_true (by omega))) ?_
              refine acan1_n rfl rfl rfl rfl (n_pt rfl rfl (by constructor)) ?_
              refine xM rfl rfl rfl rfl rfl ?_
              try dsimp only [St.put]
              refine acan1_s rfl rfl rfl rfl (s_load_agg' rfl rfl rfl) ?_
              try dsimp only [St.put]
              refine acan1_s rfl rfl rfl rfl (s_load_agg' rfl rfl rfl) ?_
              refine acan1_nil ?_
              refine aany_step [52] (by kernel_rfl) (by simp) ?_
              refine aeach_cons ?_ ?_
              ·try dsimp only [St.put]
               refine aone_e rfl rfl rfl (e_call_pure rfl rfl rfl (lSame coldT) ?_)
               refine aany_quiet [(53, none), (54, none), (55, none), (56, none), (57, none), (58, none), (59, none)] (fun i => [53, 54, 55, 56, 57, 58].contains i) 15 [true, true, true, true, true, true, true, true, true, true, true, true, true, true, true, true, true, true, true, true, true, true, true, true, true, true, true, true, true, true, true, true, true, true, true, true, true, true, true, true, true, true, true, true, true, true, true, true, true, true, true, true, true, true, true, true, true, true, true, true, false, false, false, false, false, false, false, false, false, false, false, false, false, false, false] (by kernel_rfl) ?_
               refine acan1_n rfl rfl rfl rfl (n_pt rfl rfl (by constructor)) ?_
               refine xM rfl rfl rfl rfl rfl ?_
               refine xM rfl rfl rfl rfl rfl ?_
               refine acan1_n rfl rfl rfl rfl (n_bool (n_eql rfl rfl rfl) (decide_eq_true (by omega))) ?_
               refine acan1_n rfl rfl rfl rfl (n_pt rfl rfl (by constructor)) ?_
               refine xM rfl rfl rfl rfl rfl ?_
               try dsimp only [St.put]
               refine acan1_s rfl rfl rfl rfl (s_load_agg' rfl rfl (Enc.len _)) ?_
               refine acan1_nil ?_
               refine aany_step [60] (by kernel_rfl) (by simp) ?_
               refine aeach_cons ?_ ?_
               ·try dsimp only [St.put]
                refine aone_e rfl rfl rfl (e_call_pure rfl rfl rfl (lawSalt_pure) ?_)
                refine aany_step [61] (by kernel_rfl) (by simp) ?_
                refine aeach_cons ?_ ?_
                ·try dsimp only [St.put]
                 refine aone_e rfl rfl rfl (e_call_pure rfl rfl rfl (lSameC saltC) ?_)
                 refine aany_quiet [(62, none), (63, none), (64, none), (65, none), (66, none), (67, none), (68, none)] (fun i => [62, 63, 64, 65, 66, 67, 68].contains i) 6 [true, true, true, true, true, true, true, true, true, true, true, true, true, true, true, true, true, true, true, true, true, true, true, true, true, true, true, true, true, true, true, true, true, true, true, true, true, true, true, true, true, true, true, true, true, true, true, true, true, true, true, true, true, true, true, true, true, true, true, true, true, true, true, true, true, true, true, true, true, false, false, false, false, false, false] (by kernel_rfl) ?_
                 refine acan1_n rfl rfl rfl rfl (n_pt rfl rfl (by constructor)) ?_
                 refine xM rfl rfl rfl rfl rfl ?_
                 refine xM rfl rfl rfl rfl rfl ?_
                 refine acan1_n rfl rfl rfl rfl (n_bool (n_eql rfl rfl rfl) (decide_eq_true (by omega))) ?_
                 refine acan1_n rfl rfl rfl rfl (n_pt rfl rfl (by constructor)) ?_
                 refine xM rfl rfl rfl rfl rfl ?_
                 refine xM rfl rfl rfl rfl rfl ?_
                 refine acan1_nil ?_
                 refine aany_step [69] (by kernel_rfl) (by simp) ?_
                 refine aeach_cons ?_ ?_
                 ·try dsimp only [St.put]
                  refine aone_e rfl rfl rfl (e_call_pure rfl rfl rfl (lawAt_pure _ _ _) ?_)
                  refine aany_step [70] (by kernel_rfl) (by simp) ?_
                  refine aeach_cons ?_ ?_
                  ·try dsimp only [St.put]
                   refine aone_e rfl rfl rfl (e_call_pure rfl rfl rfl (lawAt_pure _ _ _) ?_)
                   refine aany_step [71] (by kernel_rfl) (by simp) ?_
                   refine aeach_cons ?_ ?_
                   ·try dsimp only [St.put]
                    refine aone_e rfl rfl rfl (e_buildSlice rfl rfl rfl (by decide) (by decide) zR (by decide) ?_)
                    refine aany_step [72] (by kernel_rfl) (by simp) ?_
                    refine aeach_cons ?_ ?_
                    ·try dsimp only [St.put]
                     refine aone_e rfl rfl rfl (e_call_pure rfl rfl rfl (lSameP [⟨0, 0, 3⟩, ⟨0, 1, 1⟩]) ?_)
                     refine aany_quiet [(73, none), (74, none)] (fun i => [73, 74].contains i) 0 [true, true, true, true, true, true, true, true, true, true, true, true, true, true, true, true, true, true, true, true, true, true, true, true, true, true, true, true, true, true, true, true, true, true, true, true, true, true, true, true, true, true, true, true, true, true, true, true, true, true, true, true, true, true, true, true, true, true, true, true, true, true, true, true, true, true, true, true, true, true, true, true, true, true, true] (by kernel_rfl) ?_
                     refine acan1_n rfl rfl rfl rfl (n_pt rfl rfl (by constructor)) ?_
                     refine acan1_n rfl rfl rfl rfl (n_as rfl (by constructor)) ?_
                     refine acan1_nil ?_
                     dsimp only [St.put]
                     refine aany_nil (by kernel_rfl) ?_
                     refine K17 _ ?_
                     refine aw_ret ?_
                     refine ends_1 rfl (by constructor) zN zS ?_
                     rfl
                    exact aeach_nil
                   exact aeach_nil
                  exact aeach_nil
                 exact aeach_nil
                exact aeach_nil
               exact aeach_nil
              exact aeach_nil
             exact aeach_nil
            exact aeach_nil
           exact aeach_nil
          exact aeach_nil
         exact aeach_nil
        exact aeach_nil
       exact aeach_nil
      exact aeach_nil
     exact aeach_nil
    exact aeach_nil
   exact aeach_nil
  exact aeach_nil
 exact aeach_nil
end Go.Proofs.YtejhjijbgceklaaGreatDoor

/-
  What the walks through the program rest on: values, states, steps, calls (LaRef, LdRef, LeRef, LfRef).
-/
import Derived.Test.YtejhjijbgceklaaGreatDoorGrpK
import Derived.Test.YtejhjijbgceklaaGreatDoorCrOne
import Derived.Test.YtejhjijbgceklaaGreatDoorEbRef
import Derived.Test.YtejhjijbgceklaaGreatDoorGrpX
namespace Go.AB
open Go Go.RowKit
open Go.AB.Enc (cells)
open Go.PB (Chap TextD PlaceD ReadingD CopyD WayD)
/-! ### A word in its place -/
end Go.AB
namespace Go.Proofs.YtejhjijbgceklaaGreatDoor
set_option maxRecDepth 10000
open Go.RowKit Go.AB
open Go.AB.Enc (cells)
open Go.PB (Chap TextD PlaceD ReadingD CopyD WayD)
end Go.Proofs.YtejhjijbgceklaaGreatDoor
namespace Go.AB
open Go Go.RowKit
open Go.AB.Enc (cells)
open Go.PB (Chap TextD PlaceD ReadingD CopyD WayD)
/-- what the readings of a place have made so far -/
def accR (rs : List ReadingD) (p : PlaceD) (own : ByteArray) (i : Nat) : List ByteArray × ByteArray := (readsAt (rs.take i) p).foldl stepR ([], own)
theorem accR_zero (rs : List ReadingD) (p : PlaceD) (own : ByteArray) : accR rs p own 0 = ([], own) := by simp [accR, readsAt]
theorem accR_at {rs : List ReadingD} {p : PlaceD} {own : ByteArray} {i : Nat} {r : ReadingD} (h : rs[i]? = some r) (hp : r.pl = p) : accR rs p own (i + 1) = stepR (accR rs p own i) r := by
 unfold accR readsAt
 rw [List.take_add_one, h, Option.toList_some, List.filter_append, List.foldl_append]
 simp [hp]
theorem accR_off {rs : List ReadingD} {p : PlaceD} {own : ByteArray} {i : Nat} {r : ReadingD} (h : rs[i]? = some r) (hp : r.pl ≠ p) : accR rs p own (i + 1) = accR rs p own i := by
 unfold accR readsAt
 rw [List.take_add_one, h, Option.toList_some, List.filter_append]
 simp [hp]
theorem accR_put {rs : List ReadingD} {p : PlaceD} {own : ByteArray} {i : Nat} {r : ReadingD} (h : rs[i]? = some r) (hp : r.pl = p) (hk : r.kind = 2) : accR rs p own (i + 1) = ((accR rs p own i).1 ++ [r.word], (accR rs p own i).2) := by rw [accR_at h hp, stepR, decide_eq_true hk]; rfl
theorem accR_set {rs : List ReadingD} {p : PlaceD} {own : ByteArray} {i : Nat} {r : ReadingD} (h : rs[i]? = some r) (hp : r.pl = p) (hk : ¬ r.kind = 2) : accR rs p own (i + 1) = ((accR rs p own i).1, r.word) := by rw [accR_at h hp, stepR, decide_eq_false hk]; rfl
theorem foldR_len : ∀ (l : List ReadingD) (a : List ByteArray × ByteArray), (l.foldl stepR a).1.length ≤ a.1.length + l.length
 | [], a => by simp
 | r :: l, a => by
  have h := foldR_len l (stepR a r)
  rw [List.foldl_cons, List.length_cons]
  have : (stepR a r).1.length ≤ a.1.length + 1 := by unfold stepR; cases decide (r.kind = 2) <;> simp
  omega
theorem accR_len (rs : List ReadingD) (p : PlaceD) (own : ByteArray) (i : Nat) : (accR rs p own i).1.length ≤ rs.length := by
 have h1 := foldR_len (readsAt (rs.take i) p) ([], own)
 have h2 := readsAt_len (rs.take i) p
 rw [List.length_take] at h2
 unfold accR
 simp only [List.length_nil] at h1
 omega
theorem cellR_acc (rs : List ReadingD) (ch ln : Int) (l : List ByteArray) (w : Nat) : cellR rs ch ln l w = endR (accR rs ⟨ch, ln, w⟩ (ownW l w) rs.length) := by unfold cellR accR; rw [List.take_length]
theorem cellR_len (rs : List ReadingD) (ch ln : Int) (l : List ByteArray) (w : Nat) : (cellR rs ch ln l w).length ≤ rs.length + 1 := by
 have h := accR_len rs ⟨ch, ln, w⟩ (ownW l w) rs.length
 rw [cellR_acc]
 unfold endR
 cases decide ((accR rs ⟨ch, ln, (w : Int)⟩ (ownW l w) rs.length).2 = ByteArray.empty) <;> simp <;> omega
theorem lineR_len (rs : List ReadingD) (ch ln : Int) (l : List ByteArray) : ∀ m, (lineR rs ch ln l m).length ≤ m * (rs.length + 1)
 | 0 => by simp [lineR]
 | m + 1 => by
  have h1 := lineR_len rs ch ln l m
  have h2 := cellR_len rs ch ln l m
  rw [lineR_succ, List.length_append, Nat.succ_mul]
  omega
theorem ownW_in {l : List ByteArray} {w : Nat} {s : ByteArray} (h : l[w]? = some s) : ownW l w = s := by unfold ownW; rw [h]; rfl
theorem ownW_out {l : List ByteArray} {w : Nat} (h : l.length ≤ w) : ownW l w = ⟨#[]⟩ := by unfold ownW; rw [List.getElem?_eq_none h]; rfl
theorem readingB_at {t : TextD} {r : ReadingD} {l : List ByteArray} (hw : wordsOf t (r.pl.ch, r.pl.ln) = some l) : readingB t r = (bif decide (r.kind = 1) then inB r.pl.wd 0 ((l.length : Int) - 1) && decide (r.word = ByteArray.empty)
  else bif decide (r.kind = 2) then inB r.pl.wd 0 (l.length : Int) && wordB r.word
  else bif decide (r.kind = 3) then inB r.pl.wd 0 ((l.length : Int) - 1) && (wordB r.word && !decide (r.word = ownW l r.pl.wd.toNat)) else false) := by
 unfold readingB; rw [hw]
end Go.AB
namespace Go.Proofs.YtejhjijbgceklaaGreatDoor
set_option maxRecDepth 10000
open Go.RowKit Go.AB
open Go.AB.Enc (cells)
open Go.PB (Chap TextD PlaceD ReadingD CopyD WayD)
theorem refReading_pure (t : TextD) (r : ReadingD) (ht : textB t = true) : Pure Tryz.prog 65 [textC t, val r] (.v (.bool (readingB t r))) := by
 refine pure_of_body Tryz.func65 rfl (fun m => .v) fun G nx => ?_
 simp only [Tryz.ntmps65, List.length_cons, List.length_nil, Nat.reduceAdd, Nat.reduceSub]
 refine aw_lt fun hlt => ?_
 dsimp only at hlt
 refine yS fun _ K1 => ?_
 refine yR ?_
 try dsimp only [St.put]
 refine yB rfl rfl rfl ?_
 try dsimp only [St.put]
 refine yB rfl rfl rfl ?_
 refine yA rfl rfl ?_
 refine yN ?_
 dsimp only [St.put]
 refine K1 _ ?_
 refine yS fun _ K2 => ?_
 refine yR ?_
 try dsimp only [St.put]
 refine aops_s rfl (s_load_agg' rfl rfl rfl) ?_
 refine yF rfl rfl rfl rfl ?_
 try dsimp only [St.put]
 refine aops_s rfl (c := val r.pl) (s_load_agg (cs := cells r) rfl rfl (show 3 ≤ 5 by decide)) ?_
 try dsimp only [St.put]
 refine aops_e rfl (e_call_pure rfl rfl rfl (refLine_pure t r.pl ht) ?_)
 refine yM rfl rfl ?_
 refine yX rfl rfl rfl rfl ?_
 refine yX rfl rfl rfl rfl ?_
 refine yA rfl rfl ?_
 refine yA rfl rfl ?_
 refine yN ?_
 dsimp only [St.put]
 refine K2 _ ?_
 refine yS fun _ K3 => ?_
 refine yS fun _ K4 => ?_
 by_cases hw : wordsOf t (r.pl.ch, r.pl.ln) = none
 ·rw [hw]
  dsimp only [Option.getD_none, Option.isSome_none]
  refine yR ?_
  refine yM rfl rfl ?_
  refine aops_n rfl (n_not rfl rfl) ?_
  refine yN ?_
  dsimp only [St.put]
  refine K4 _ ?_
  refine aw_cond rfl (fun _ => ?_) (fun h => by cases h)
  refine yS fun _ K5 => ?_
  refine yR ?_
  refine yA rfl rfl ?_
  refine yN ?_
  dsimp only [St.put]
  refine K5 _ ?_
  refine aw_ret ?_
  refine ends_1 rfl (by constructor) zN zS ?_
  exact vb (readingB_none hw).symm
 obtain ⟨l, hw2⟩ := Option.ne_none_iff_exists'.1 hw
 rw [hw2]
 dsimp only [Option.getD_some, Option.isSome_some]
 obtain ⟨_, _, _, _, hl1, hl10⟩ := words_bd ht hw2
 have hrB := readingB_at hw2
 obtain ⟨R, hR⟩ : ∃ R, readingB t r = R := ⟨_, rfl⟩
 rw [hR] at hrB
 refine yR ?_
 refine yM rfl rfl ?_
 refine aops_n rfl (n_not rfl rfl) ?_
 refine yN ?_
 dsimp only [St.put]
 refine K4 _ ?_
 refine aw_cond rfl (fun h => by cases h) (fun _ => ?_)
 refine aw_skip ?_
 refine K3 _ ?_
 refine yS fun _ K6 => ?_
 refine yS fun _ K7 => ?_
 refine yR ?_
 refine yF rfl rfl rfl rfl ?_
 refine yL rfl rfl rfl ?_
 refine yN ?_
 dsimp only [St.put]
 refine K7 _ ?_
 refine aw_block ?_
 refine yS fun _ K8 => ?_
 refine yR ?_
 refine aops_n rfl (n_eql rfl rfl rfl) ?_
 refine yA rfl rfl ?_
 refine yN ?_
 dsimp only [St.put]
 refine K8 _ ?_
 refine aw_cond rfl (fun hc => ?_) (fun hc => ?_)
 ·have h1 : r.kind = 1 := of_decide_eq_true hc
  refine yS fun _ K9 => ?_
  refine yR ?_
  refine yF rfl rfl rfl rfl ?_
  refine yF rfl rfl rfl rfl ?_
  refine yL rfl rfl rfl ?_
  refine yM rfl rfl ?_
  refine aops_n rfl (n_len' rfl rfl (List.length_map _)) ?_
  refine aops_n rfl (n_sub rfl rfl rfl (by omega)) ?_
  try dsimp only [St.put]
  refine aops_e rfl (e_call_pure rfl rfl rfl (within_pure _ _ _) ?_)
  refine yM rfl rfl ?_
  refine aops_split (fun hs => ?_) (fun hs => ?_)
  ·have hs1 := hs
   refine yF rfl rfl rfl rfl ?_
   refine yL rfl rfl rfl ?_
   refine aops_n rfl (n_streq rfl rfl rfl) ?_
   refine aops_n rfl (n_pt rfl rfl (by constructor)) ?_
   refine yA rfl rfl ?_
   refine yN ?_
   dsimp only [St.put]
   refine K9 _ ?_
   refine aw_ret ?_
   refine ends_1 rfl (by constructor) zN zS ?_
   exact vb (by rw [hR, hrB]; simp [h1, hs1]; try rfl)
  have hs1 := hs
  refine yK rfl ?_
  refine yK rfl ?_
  refine yK rfl ?_
  refine aops_n rfl (n_pf rfl rfl (by constructor)) ?_
  refine yA rfl rfl ?_
  refine yN ?_
  dsimp only [St.put]
  refine K9 _ ?_
  refine aw_ret ?_
  refine ends_1 rfl (by constructor) zN zS ?_
  exact vb (by rw [hR, hrB]; simp [h1, hs1]; try rfl)
 have h1 : ¬ r.kind = 1 := of_decide_eq_false hc
 refine yS fun _ K10 => ?_
 refine yR ?_
 refine aops_n rfl (n_eql rfl rfl rfl) ?_
 refine yA rfl rfl ?_
 refine yN ?_
 dsimp only [St.put]
 refine K10 _ ?_
 refine aw_cond rfl (fun hc => ?_) (fun hc => ?_)
 ·have h2 : r.kind = 2 := of_decide_eq_true hc
  refine yS fun _ K11 => ?_
  refine yR ?_
  refine yF rfl rfl rfl rfl ?_
  refine yF rfl rfl rfl rfl ?_
  refine yL rfl rfl rfl ?_
  refine yM rfl rfl ?_
  refine aops_n rfl (n_len' rfl rfl (List.length_map _)) ?_
  try dsimp only [St.put]
  refine aops_e rfl (e_call_pure rfl rfl rfl (within_pure _ _ _) ?_)
  refine yM rfl rfl ?_
  refine aops_split (fun hs => ?_) (fun hs => ?_)
  ·have hs1 := hs
   refine yF rfl rfl rfl rfl ?_
   refine yL rfl rfl rfl ?_
   try dsimp only [St.put]
   refine aops_e rfl (e_call_pure rfl rfl rfl (Word_pure _) ?_)
   refine aops_n rfl (n_pt rfl rfl (by constructor)) ?_
   refine yA rfl rfl ?_
   refine yN ?_
   dsimp only [St.put]
   refine K11 _ ?_
   refine aw_ret ?_
   refine ends_1 rfl (by constructor) zN zS ?_
   exact vb (by rw [hR, hrB]; simp [h1, h2, hs1])
  have hs1 := hs
  refine yK rfl ?_
  refine yK rfl ?_
  refine yK rfl ?_
  refine aops_n rfl (n_pf rfl rfl (by constructor)) ?_
  refine yA rfl rfl ?_
  refine yN ?_
  dsimp only [St.put]
  refine K11 _ ?_
  refine aw_ret ?_
  refine ends_1 rfl (by constructor) zN zS ?_
  exact vb (by rw [hR, hrB]; simp [h1, h2, hs1])
 have h2 : ¬ r.kind = 2 := of_decide_eq_false hc
 refine yS fun _ K12 => ?_
 refine yR ?_
 refine aops_n rfl (n_eql rfl rfl rfl) ?_
 refine yA rfl rfl ?_
 refine yN ?_
 dsimp only [St.put]
 refine K12 _ ?_
 refine aw_cond rfl (fun hc => ?_) (fun hc => ?_)
 ·have h3 : r.kind = 3 := of_decide_eq_true hc
  refine yS fun _ K13 => ?_
  refine aw_drawT [(0, none), (1, none), (2, none), (3, none), (4, none), (5, none)] (fun _ => false) (fun i => [0, 1, 3, 4, 5].contains i) 18 [true, true, true, true, true, true, false, false, false, false, false, false, false, false, false, false, false, false, false, false, false, false, false, false] (by kernel_rfl) (by kernel_rfl) ?_
  refine acan1_n rfl rfl rfl rfl (n_fieldAddr' rfl rfl rfl) ?_
  refine acan1_n rfl rfl rfl rfl (n_fieldAddr' rfl rfl rfl) ?_
  try dsimp only [St.put]
  refine acan1_s rfl rfl rfl rfl (s_load rfl rfl) ?_
  refine xM rfl rfl rfl rfl rfl ?_
  refine acan1_n rfl rfl rfl rfl (n_len' rfl rfl (List.length_map _)) ?_
  refine acan1_n rfl rfl rfl rfl (n_sub rfl rfl rfl (by omega)) ?_
  refine acan1_nil ?_
  refine aany_step [6] (by kernel_rfl) (by simp) ?_
  refine aeach_cons ?_ ?_
  ·try dsimp only [St.put]
   refine aone_e rfl rfl rfl (e_call_pure rfl rfl rfl (within_pure _ _ _) ?_)
   refine aany_quiet [(7, none), (8, none), (9, none)] (fun i => [7, 8].contains i) 14 [true, true, true, true, true, true, true, true, true, true, false, false, false, false, false, false, false, false, false, false, false, false, false, false] (by kernel_rfl) ?_
   refine xM rfl rfl rfl rfl rfl ?_
   refine acan1_split (fun hs => ?_) (fun hs => ?_)
   ·have hs1 := hs
    have hb := inB_true.1 hs
    obtain ⟨x, hx⟩ : ∃ x, l[r.pl.wd.toNat]? = some x := some_of_lt (by omega)
    have hwn : r.pl.wd = ((r.pl.wd.toNat : Nat) : Int) := by omega
    have hox := ownW_in hx
    refine acan1_n rfl rfl rfl rfl (n_fieldAddr' rfl rfl rfl) ?_
    try dsimp only [St.put]
    refine acan1_s rfl rfl rfl rfl (s_load rfl rfl) ?_
    refine acan1_nil ?_
    refine aany_step [10] (by kernel_rfl) (by simp) ?_
    refine aeach_cons ?_ ?_
    ·try dsimp only [St.put]
     refine aone_e rfl rfl rfl (e_call_pure rfl rfl rfl (Word_pure _) ?_)
     refine aany_quiet [(11, none), (12, none), (13, none), (14, none), (15, none), (16, none), (17, none), (18, none), (19, none), (20, none), (21, none), (22, none), (23, none)] (fun i => [11, 12, 13, 15, 16, 17, 19, 21, 22, 23].contains i) 0 [true, true, true, true, true, true, true, true, true, true, true, true, true, true, true, true, true, true, true, true, true, true, true, true] (by kernel_rfl) ?_
     refine acan1_n rfl rfl rfl rfl (n_pt rfl rfl (by constructor)) ?_
     refine xM rfl rfl rfl rfl rfl ?_
     refine acan1_split (fun hs => ?_) (fun hs => ?_)
     ·have hs2 := hs
      refine acan1_n rfl rfl rfl rfl (n_fieldAddr' rfl rfl rfl) ?_
      try dsimp only [St.put]
      refine acan1_s rfl rfl rfl rfl (s_load rfl rfl) ?_
      refine xM rfl rfl rfl rfl rfl ?_
      refine acan1_n rfl rfl rfl rfl (n_fieldAddr' rfl rfl rfl) ?_
      refine acan1_n rfl rfl rfl rfl (n_fieldAddr' rfl rfl rfl) ?_
      try dsimp only [St.put]
      refine acan1_s rfl rfl rfl rfl (s_load rfl rfl) ?_
      try dsimp only [St.put]
      refine acan1_n rfl rfl rfl rfl (n_indexAddr rfl rfl rfl (by omega) (map_get (by assumption)) (Enc.len _)) ?_
      try dsimp only [St.put]
      refine acan1_s rfl rfl rfl rfl (s_load rfl rfl) ?_
      refine acan1_n rfl rfl rfl rfl (n_strne rfl rfl rfl) ?_
      refine acan1_n rfl rfl rfl rfl (n_pt rfl rfl (by constructor)) ?_
      refine acan1_n rfl rfl rfl rfl (n_as rfl (by constructor)) ?_
      refine acan1_nil ?_
      dsimp only [St.put]
      refine aany_nil (by kernel_rfl) ?_
      refine K13 _ ?_
      refine aw_ret ?_
      refine ends_1 rfl (by constructor) zN zS ?_
      exact vb (by rw [hR, hrB]; first | (simp [h3, hs1, hs2, hox]; done) | (simp [h3, hs1, hs2]; done) | (simp [h3, hs1]; done))
     have hs2 := hs
     refine acan1_skip rfl rfl rfl ?_
     refine acan1_skip rfl rfl rfl ?_
     refine acan1_skip rfl rfl rfl ?_
     refine acan1_skip rfl rfl rfl ?_
     refine acan1_skip rfl rfl rfl ?_
     refine acan1_skip rfl rfl rfl ?_
     refine acan1_skip rfl rfl rfl ?_
     refine acan1_skip rfl rfl rfl ?_
     refine acan1_skip rfl rfl rfl ?_
     refine acan1_n rfl rfl rfl rfl (n_pf rfl rfl (by constructor)) ?_
     refine acan1_n rfl rfl rfl rfl (n_as rfl (by constructor)) ?_
     refine acan1_nil ?_
     dsimp only [St.put]
     refine aany_nil (by kernel_rfl) ?_
     refine K13 _ ?_
     refine aw_ret ?_
     refine ends_1 rfl (by constructor) zN zS ?_
     exact vb (by rw [hR, hrB]; first | (simp [h3, hs1, hs2, hox]; done) | (simp [h3, hs1, hs2]; done) | (simp [h3, hs1]; done))
    exact aeach_nil
   have hs1 := hs
   refine acan1_skip rfl rfl rfl ?_
   refine acan1_skip rfl rfl rfl ?_
   refine acan1_nil ?_
   refine aany_step [10] (by kernel_rfl) (by simp) ?_
   refine aeach_cons ?_ ?_
   ·refine aone_skip rfl rfl rfl ?_
    refine aany_quiet [(11, none), (12, none), (13, none), (14, none), (15, none), (16, none), (17, none), (18, none), (19, none), (20, none), (21, none), (22, none), (23, none)] (fun i => [11, 12, 13, 15, 16, 17, 19, 21, 22, 23].contains i) 0 [true, true, true, true, true, true, true, true, true, true, true, true, true, true, true, true, true, true, true, true, true, true, true, true] (by kernel_rfl) ?_
    refine acan1_n rfl rfl rfl rfl (n_pf rfl rfl (by constructor)) ?_
    refine xM rfl rfl rfl rfl rfl ?_
    refine acan1_skip rfl rfl rfl ?_
    refine acan1_skip rfl rfl rfl ?_
    refine acan1_skip rfl rfl rfl ?_
    refine acan1_skip rfl rfl rfl ?_
    refine acan1_skip rfl rfl rfl ?_
    refine acan1_skip rfl rfl rfl ?_
    refine acan1_skip rfl rfl rfl ?_
    refine acan1_skip rfl rfl rfl ?_
    refine acan1_skip rfl rfl rfl ?_
    refine acan1_n rfl rfl rfl rfl (n_pf rfl rfl (by constructor)) ?_
    refine acan1_n rfl rfl rfl rfl (n_as rfl (by constructor)) ?_
    refine acan1_nil ?_
    dsimp only [St.put]
    refine aany_nil (by kernel_rfl) ?_
    refine K13 _ ?_
    refine aw_ret ?_
    refine ends_1 rfl (by constructor) zN zS ?_
    exact vb (by rw [hR, hrB]; first | (simp [h3, hs1, hs2, hox]; done) | (simp [h3, hs1, hs2]; done) | (simp [h3, hs1]; done))
   exact aeach_nil
  exact aeach_nil
 have h3 : ¬ r.kind = 3 := of_decide_eq_false hc
 refine aw_skip ?_
 refine K6 _ ?_
 refine yS fun _ K14 => ?_
 refine yR ?_
 refine yA rfl rfl ?_
 refine yN ?_
 dsimp only [St.put]
 refine K14 _ ?_
 refine aw_ret ?_
 refine ends_1 rfl (by constructor) zN zS ?_
 exact vb (by rw [hR, hrB]; simp [h1, h2, h3])
set_option maxHeartbeats 1000000 in
theorem refRead1_pure (t : TextD) (c : CopyD) (k n : Nat) (x : Chap) (l : List ByteArray) (ht : textB t = true) (hl20 : c.rs.length ≤ 20) (hk : t[k]? = some x) (hn : x.lines[n]? = some l) : Pure Tryz.prog 66 [textC t, val c, .v (.int .i64 (k : Int)), .v (.int .i64 (n : Int))] (lst (readL c.rs (k : Int) (n : Int) l)) := by
 refine pure_of_body Tryz.func66 rfl (fun m => (lst_low _ _)) fun G nx => ?_
 simp only [Tryz.ntmps66, List.length_cons, List.length_nil, Nat.reduceAdd, Nat.reduceSub]
 refine aw_lt fun hlt => ?_
 dsimp only at hlt
 obtain ⟨hl1, hl2, hl3⟩ := text_ok ht
 have hxl := hl3 x (mem_of_get hk)
 have hll := hxl.2.2 l (mem_of_get hn)
 have hkl := (List.getElem?_eq_some_iff.1 hk).1
 have hnl := (List.getElem?_eq_some_iff.1 hn).1
 refine yS fun _ K1 => ?_
 refine yR ?_
 try dsimp only [St.put]
 refine yB rfl rfl rfl ?_
 try dsimp only [St.put]
 refine yB rfl rfl rfl ?_
 refine yA rfl rfl ?_
 refine yN ?_
 dsimp only [St.put]
 refine K1 _ ?_
 refine yS fun _ K2 => ?_
 refine yR ?_
 refine yA rfl rfl ?_
 refine yN ?_
 dsimp only [St.put]
 refine K2 _ ?_
 refine aw_adopt 9 9 1 rfl (by decide) ?_
 dsimp only [List.set_cons_zero, List.set_cons_succ]
 refine yS fun _ K3 => ?_
 refine yR ?_
 refine yF rfl rfl rfl rfl ?_
 refine yL rfl rfl rfl ?_
 refine yM rfl rfl ?_
 refine aops_n rfl (n_indexAddr rfl rfl rfl rfl (map_get (by assumption)) (Enc.len _)) ?_
 refine yF rfl rfl rfl rfl ?_
 refine yL rfl rfl rfl ?_
 refine yM rfl rfl ?_
 refine aops_n rfl (n_indexAddr rfl rfl rfl rfl (map_get (by assumption)) (Enc.len _)) ?_
 refine yL rfl rfl rfl ?_
 refine yA rfl rfl ?_
 refine yN ?_
 dsimp only [St.put]
 refine K3 _ ?_
 refine yS fun _ K4 => ?_
 refine yS fun _ K5 => ?_
 refine yR ?_
 refine yA rfl rfl ?_
 refine yN ?_
 dsimp only [St.put]
 refine K5 _ ?_
 refine aw_block ?_
 refine aw_wipe 15 ?_
 simp only [firsts, getA, Nat.reduceAdd, List.getD_cons_zero, List.getD_cons_succ, List.getD_nil, natBeq, Nat.reduceBEq, cond_true, cond_false]
 refine aw_forget ((setG G nx (.tip (([] : List ByteArray)).length 9 1))) zX ?_
 dsimp only
 refine aw_loopD (X := Nat) (fun w => w ≤ l.length + 1) (fun w => l.length + 1 - w) (fun w => [(9, .list ((lineR c.rs (k : Int) (n : Int) l w).map cells) (.tip nx)), (11, .v (.int .i64 (w : Int))), (12, .any), (13, .any), (14, .any)]) (fun w G' => (setG G nx (.tip ((lineR c.rs (k : Int) (n : Int) l w)).length 9 1))) 0 rfl ?_ ?_ ?_ ?_ ?_ ?_
 ·exact Nat.zero_le _
 ·exact zF
 ·exact zX
 ·rintro w hI
  exact zL
 ·rintro w hI
  exact zH
 rintro w hI
 dsimp only at hI ⊢
 refine yS fun _ K6 => ?_
 refine yS fun _ K7 => ?_
 refine yR ?_
 refine yM rfl rfl ?_
 refine yM rfl rfl ?_
 refine aops_n rfl (n_len' rfl rfl (List.length_map _)) ?_
 refine aops_n rfl (n_leq rfl rfl rfl) ?_
 refine yN ?_
 dsimp only [St.put]
 refine K7 _ ?_
 refine aw_cond rfl (fun hc => ?_) (fun hc => ?_)
 ·replace hc := of_decide_eq_true hc
  have hpl := lineR_len c.rs (k : Int) (n : Int) l w
  obtain ⟨P, hP⟩ : ∃ P, lineR c.rs (k : Int) (n : Int) l w = P := ⟨_, rfl⟩
  rw [hP] at hpl ⊢
  have hpl2 : P.length ≤ 11 * 21 := Nat.le_trans hpl (Nat.mul_le_mul (by omega) (by omega))
  refine aw_skip ?_
  refine K6 _ ?_
  refine yS fun _ K8 => ?_
  refine aw_block ?_
  refine yS fun _ K9 => ?_
  refine yR ?_
  refine yA rfl rfl ?_
  refine yN ?_
  dsimp only [St.put]
  refine K9 _ ?_
  refine yS fun _ K10 => ?_
  refine yS fun _ K11 => ?_
  refine yR ?_
  refine yM rfl rfl ?_
  refine yM rfl rfl ?_
  refine aops_n rfl (n_len' rfl rfl (List.length_map _)) ?_
  refine aops_n rfl (n_lss rfl rfl rfl) ?_
  refine yN ?_
  dsimp only [St.put]
  refine K11 _ ?_
  refine aw_cond rfl (fun hc => ?_) (fun hc => ?_)
  ·replace hc := of_decide_eq_true hc
   obtain ⟨own, hxo⟩ : ∃ s, l[w]? = some s := some_of_lt (by omega)
   have hown := ownW_in hxo
   refine yR ?_
   refine yM rfl rfl ?_
   refine yM rfl rfl ?_
   refine aops_n rfl (n_indexAddr rfl rfl rfl rfl (map_get (by assumption)) (Enc.len _)) ?_
   refine yL rfl rfl rfl ?_
   refine yA rfl rfl ?_
   refine yN ?_
   dsimp only [St.put]
   refine K10 _ ?_
   refine yS fun _ K12 => ?_
   refine yS fun _ K13 => ?_
   refine yR ?_
   refine yA rfl rfl ?_
   refine yN ?_
   dsimp only [St.put]
   rw [show P = P ++ (accR c.rs ⟨k, n, w⟩ own 0).1 by rw [accR_zero, List.append_nil]]
   refine K13 _ ?_
   refine aw_block ?_
   refine aw_wipe 15 ?_
   simp only [firsts, getA, Nat.reduceAdd, List.getD_cons_zero, List.getD_cons_succ, List.getD_nil, natBeq, Nat.reduceBEq, cond_true, cond_false]
   refine aw_forget ((setG G nx (.tip ((P ++ (accR c.rs ⟨k, n, w⟩ own 0).1)).length 9 1))) zX ?_
   dsimp only
   refine aw_loopD (X := Nat) (fun i => i ≤ c.rs.length) (fun i => c.rs.length - i) (fun i => [(9, .list ((P ++ (accR c.rs ⟨k, n, w⟩ own i).1).map cells) (.tip nx)), (12, .v (.string (accR c.rs ⟨k, n, w⟩ own i).2)), (13, .v (.int .i64 (i : Int))), (14, .any)]) (fun i G' => (setG G nx (.tip ((P ++ (accR c.rs ⟨k, n, w⟩ own i).1)).length 9 1))) 0 rfl ?_ ?_ ?_ ?_ ?_ ?_
   ·exact Nat.zero_le _
   ·exact zF
   ·exact zX
   ·rintro i hI
    exact zL
   ·rintro i hI
    exact zH
   rintro i hJ
   dsimp only at hJ ⊢
   refine yS fun _ K14 => ?_
   refine yS fun _ K15 => ?_
   refine yR ?_
   refine yM rfl rfl ?_
   refine yF rfl rfl rfl rfl ?_
   refine yL rfl rfl rfl ?_
   refine aops_n rfl (n_len' rfl rfl (List.length_map _)) ?_
   refine aops_n rfl (n_lss rfl rfl rfl) ?_
   refine yN ?_
   dsimp only [St.put]
   refine K15 _ ?_
   refine aw_cond rfl (fun hc => ?_) (fun hc => ?_)
   ·replace hc := of_decide_eq_true hc
    obtain ⟨r, hr⟩ : ∃ r, c.rs[i]? = some r := some_of_lt (by omega)
    have hal := accR_len c.rs ⟨k, n, w⟩ own i
    refine aw_skip ?_
    refine K14 _ ?_
    refine yS fun _ K16 => ?_
    refine aw_block ?_
    refine yS fun _ K17 => ?_
    refine yR ?_
    refine yF rfl rfl rfl rfl ?_
    refine yL rfl rfl rfl ?_
    refine yM rfl rfl ?_
    refine aops_n rfl (n_indexAddr rfl rfl rfl rfl (map_get (by assumption)) (Enc.len _)) ?_
    refine yE rfl rfl rfl ?_
    try dsimp only [St.put]
    refine aops_e rfl (e_allocC rfl ?_)
    try dsimp only [St.put]
    refine aops_e rfl (e_store_all rfl rfl rfl zG rfl rfl (by rfl) ?_)
    refine yN ?_
    dsimp only [St.put]
    refine K17 _ ?_
    refine aw_commitD (i := 14) rfl zG (by first | exact List.cons_ne_nil _ _ | (simp; done) | (simp [putAt]; done)) ?_
    dsimp only
    refine yS fun _ K18 => ?_
    refine aw_wipe 15 ?_
    simp only [firsts, getA, Nat.reduceAdd, List.getD_cons_zero, List.getD_cons_succ, List.getD_nil, natBeq, Nat.reduceBEq, cond_true, cond_false]
    refine aw_cutD (X := Bool) (fun b => (b = true → r.pl ≠ ⟨k, n, w⟩) ∧ (b = false → r.pl = ⟨k, n, w⟩)) (fun b => [(68, .v (.bool b))]) (fun b G' => G') rfl ?_ (fun _ _ _ _ h => .inl h) ?_ ?_
    ·rintro b hI
     exact zL
    ·refine yR ?_
     refine yF rfl rfl rfl rfl ?_
     refine yF rfl rfl rfl rfl ?_
     refine yL rfl rfl rfl ?_
     refine yM rfl rfl ?_
     refine aops_n rfl (n_neq rfl rfl rfl) ?_
     refine yM rfl rfl ?_
     refine aops_split (fun hs => ?_) (fun hs => ?_)
     ·have s1 := nd_t hs
      refine yK rfl ?_
      refine yK rfl ?_
      refine yK rfl ?_
      refine yK rfl ?_
      refine yK rfl ?_
      refine aops_n rfl (n_pt rfl rfl (by constructor)) ?_
      refine yM rfl rfl ?_
      refine yK rfl ?_
      refine yK rfl ?_
      refine yK rfl ?_
      refine yK rfl ?_
      refine yK rfl ?_
      refine aops_n rfl (n_pt rfl rfl (by constructor)) ?_
      refine yN ?_
      dsimp only [St.put]
      refine ⟨_, ?_, ⟨⟨rfl, rfl⟩, zF, zB, zN, zX⟩⟩
      obtain ⟨⟨r1, r2, r3⟩, r4, r5⟩ := r
      dsimp only at *
      simp only [PlaceD.mk.injEq, ne_eq]
      first
      | (refine ⟨fun _ => ?_, fun h => by (cases h)⟩; omega)
      | (by_cases e : r3 = (w : Int)
         ·simp [e, s1, s2]
         simp [e])
     have s1 := nd_f hs
     refine yF rfl rfl rfl rfl ?_
     refine yF rfl rfl rfl rfl ?_
     refine yL rfl rfl rfl ?_
     refine yM rfl rfl ?_
     refine aops_n rfl (n_neq rfl rfl rfl) ?_
     refine aops_n rfl (n_pf rfl rfl (by constructor)) ?_
     refine yM rfl rfl ?_
     refine aops_split (fun hs => ?_) (fun hs => ?_)
     ·have s2 := nd_t hs
      refine yK rfl ?_
      refine yK rfl ?_
      refine yK rfl ?_
      refine yK rfl ?_
      refine yK rfl ?_
      refine aops_n rfl (n_pt rfl rfl (by constructor)) ?_
      refine yN ?_
      dsimp only [St.put]
      refine ⟨_, ?_, ⟨⟨rfl, rfl⟩, zF, zB, zN, zX⟩⟩
      obtain ⟨⟨r1, r2, r3⟩, r4, r5⟩ := r
      dsimp only at *
      simp only [PlaceD.mk.injEq, ne_eq]
      first
      | (refine ⟨fun _ => ?_, fun h => by (cases h)⟩; omega)
      | (by_cases e : r3 = (w : Int)
         ·simp [e, s1, s2]
         simp [e])
     have s2 := nd_f hs
     refine yF rfl rfl rfl rfl ?_
     refine yF rfl rfl rfl rfl ?_
     refine yL rfl rfl rfl ?_
     refine yM rfl rfl ?_
     refine aops_n rfl (n_neq rfl rfl rfl) ?_
     refine aops_n rfl (n_pf rfl rfl (by constructor)) ?_
     refine yN ?_
     dsimp only [St.put]
     refine ⟨_, ?_, ⟨⟨rfl, rfl⟩, zF, zB, zN, zX⟩⟩
     obtain ⟨⟨r1, r2, r3⟩, r4, r5⟩ := r
     dsimp only at *
     simp only [PlaceD.mk.injEq, ne_eq]
     first
     | (refine ⟨fun _ => ?_, fun h => by (cases h)⟩; omega)
     | (by_cases e : r3 = (w : Int)
        ·simp [e, s1, s2]
        simp [e])
    rintro b hst
    dsimp only at hst ⊢
    refine aw_cond rfl (fun hc => ?_) (fun hc => ?_)
    ·have hpe := hst.1 hc
     refine aw_exit ?_
     refine K16 _ ?_
     refine yR ?_
     refine yM rfl rfl ?_
     refine aops_n rfl (n_add rfl rfl rfl (by omega)) ?_
     refine yA rfl rfl ?_
     refine yN ?_
     dsimp only [St.put]
     first
     | (have e3 := accR_off (own := own) hr hpe
        rw [← e3]
        exact ⟨i + 1, by omega, by omega, ⟨⟨rfl, rfl⟩, zF, zB, zN, zX⟩⟩)
     | (have e3 := accR_put (own := own) hr hpe hk2
        have e4 : (accR c.rs ⟨k, n, w⟩ own i).2 = (accR c.rs ⟨k, n, w⟩ own (i + 1)).2 := by rw [e3]
        rw [List.append_assoc, show (accR c.rs ⟨k, n, w⟩ own i).1 ++ [r.word] = (accR c.rs ⟨k, n, w⟩ own (i + 1)).1 by rw [e3], e4]
        exact ⟨i + 1, by omega, by omega, ⟨⟨rfl, rfl⟩, zF, zB, zN, zX⟩⟩)
     | (have e3 := accR_set (own := own) hr hpe hk2
        have e4 : (accR c.rs ⟨k, n, w⟩ own i).1 = (accR c.rs ⟨k, n, w⟩ own (i + 1)).1 := by rw [e3]
        have e5 : r.word = (accR c.rs ⟨k, n, w⟩ own (i + 1)).2 := by rw [e3]
        rw [e4, e5]
        exact ⟨i + 1, by omega, by omega, ⟨⟨rfl, rfl⟩, zF, zB, zN, zX⟩⟩)
    have hpe := hst.2 hc
    refine aw_skip ?_
    refine K18 _ ?_
    refine yS fun _ K20 => ?_
    refine yR ?_
    refine yF rfl rfl rfl rfl ?_
    refine yL rfl rfl rfl ?_
    refine aops_n rfl (n_eql rfl rfl rfl) ?_
    refine yN ?_
    dsimp only [St.put]
    refine K20 _ ?_
    refine aw_cond rfl (fun hc => ?_) (fun hc => ?_)
    ·have hk2 : r.kind = 2 := of_decide_eq_true hc
     refine yR ?_
     refine yM rfl rfl ?_
     refine yF rfl rfl rfl rfl ?_
     refine yL rfl rfl rfl ?_
     try dsimp only [St.put]
     refine aops_e rfl (e_buildSlice rfl rfl rfl (by decide) (by decide) zR (by decide) ?_)
     try dsimp only [St.put]
     refine aops_e rfl (e_append ([r.word]) rfl rfl zG (by first | rfl | simp) rfl rfl zA ?_ zA)
     refine yA rfl rfl ?_
     refine yN ?_
     dsimp only [St.put]
     refine K16 _ ?_
     refine yR ?_
     refine yM rfl rfl ?_
     refine aops_n rfl (n_add rfl rfl rfl (by omega)) ?_
     refine yA rfl rfl ?_
     refine yN ?_
     dsimp only [St.put]
     first
     | (have e3 := accR_off (own := own) hr hpe
        rw [← e3]
        exact ⟨i + 1, by omega, by omega, ⟨⟨rfl, rfl⟩, zF, zB, zN, zX⟩⟩)
     | (have e3 := accR_put (own := own) hr hpe hk2
        have e4 : (accR c.rs ⟨k, n, w⟩ own i).2 = (accR c.rs ⟨k, n, w⟩ own (i + 1)).2 := by rw [e3]
        rw [List.append_assoc, show (accR c.rs ⟨k, n, w⟩ own i).1 ++ [r.word] = (accR c.rs ⟨k, n, w⟩ own (i + 1)).1 by rw [e3], e4]
        exact ⟨i + 1, by omega, by omega, ⟨⟨rfl, rfl⟩, zF, zB, zN, zX⟩⟩)
     | (have e3 := accR_set (own := own) hr hpe hk2
        have e4 : (accR c.rs ⟨k, n, w⟩ own i).1 = (accR c.rs ⟨k, n, w⟩ own (i + 1)).1 := by rw [e3]
        have e5 : r.word = (accR c.rs ⟨k, n, w⟩ own (i + 1)).2 := by rw [e3]
        rw [e4, e5]
        exact ⟨i + 1, by omega, by omega, ⟨⟨rfl, rfl⟩, zF, zB, zN, zX⟩⟩)
    have hk2 : ¬ r.kind = 2 := of_decide_eq_false hc
    refine yR ?_
    refine yF rfl rfl rfl rfl ?_
    refine yL rfl rfl rfl ?_
    refine yA rfl rfl ?_
    refine yN ?_
    dsimp only [St.put]
    refine K16 _ ?_
    refine yR ?_
    refine yM rfl rfl ?_
    refine aops_n rfl (n_add rfl rfl rfl (by omega)) ?_
    refine yA rfl rfl ?_
    refine yN ?_
    dsimp only [St.put]
    first
    | (have e3 := accR_off (own := own) hr hpe
       rw [← e3]
       exact ⟨i + 1, by omega, by omega, ⟨⟨rfl, rfl⟩, zF, zB, zN, zX⟩⟩)
    | (have e3 := accR_put (own := own) hr hpe hk2
       have e4 : (accR c.rs ⟨k, n, w⟩ own i).2 = (accR c.rs ⟨k, n, w⟩ own (i + 1)).2 := by rw [e3]
       rw [List.append_assoc, show (accR c.rs ⟨k, n, w⟩ own i).1 ++ [r.word] = (accR c.rs ⟨k, n, w⟩ own (i + 1)).1 by rw [e3], e4]
       exact ⟨i + 1, by omega, by omega, ⟨⟨rfl, rfl⟩, zF, zB, zN, zX⟩⟩)
    | (have e3 := accR_set (own := own) hr hpe hk2
       have e4 : (accR c.rs ⟨k, n, w⟩ own i).1 = (accR c.rs ⟨k, n, w⟩ own (i + 1)).1 := by rw [e3]
       have e5 : r.word = (accR c.rs ⟨k, n, w⟩ own (i + 1)).2 := by rw [e3]
       rw [e4, e5]
       exact ⟨i + 1, by omega, by omega, ⟨⟨rfl, rfl⟩, zF, zB, zN, zX⟩⟩)
   replace hc := of_decide_eq_false hc
   obtain rfl : i = c.rs.length := by omega
   have hal := accR_len c.rs ⟨k, n, w⟩ own c.rs.length
   obtain ⟨A, hA⟩ : ∃ A, accR c.rs ⟨k, n, w⟩ own c.rs.length = A := ⟨_, rfl⟩
   rw [hA] at hal ⊢
   refine aw_exit ?_
   refine K12 _ ?_
   refine yS fun _ K21 => ?_
   refine yR ?_
   refine yM rfl rfl ?_
   refine aops_n rfl (n_strne rfl rfl rfl) ?_
   refine yN ?_
   dsimp only [St.put]
   refine K21 _ ?_
   refine aw_cond rfl (fun hc => ?_) (fun hc => ?_)
   ·have hne : A.2 ≠ ByteArray.empty := nd_t hc
    refine yR ?_
    refine yM rfl rfl ?_
    refine yM rfl rfl ?_
    try dsimp only [St.put]
    refine aops_e rfl (e_buildSlice rfl rfl rfl (by decide) (by decide) zR (by decide) ?_)
    try dsimp only [St.put]
    refine aops_e rfl (e_append ([A.2]) rfl rfl zG (by first | rfl | simp) rfl rfl zA ?_ zA)
    refine yA rfl rfl ?_
    refine yN ?_
    dsimp only [St.put]
    refine K8 _ ?_
    refine yR ?_
    refine yM rfl rfl ?_
    refine aops_n rfl (n_add rfl rfl rfl (by omega)) ?_
    refine yA rfl rfl ?_
    refine yN ?_
    dsimp only [St.put]
    have e2 := lineR_succ c.rs (k : Int) (n : Int) l w
    rw [cellR_acc, hown, hA, hP] at e2
    first
    | (rw [show endR A = A.1 ++ [A.2] by simp [endR, hne], ← List.append_assoc] at e2
       rw [← e2]
       exact ⟨w + 1, by omega, by omega, ⟨⟨rfl, rfl⟩, zF, zB, zN, zX⟩⟩)
    | (rw [show endR A = A.1 by simp [endR, hne]] at e2
       rw [← e2]
       exact ⟨w + 1, by omega, by omega, ⟨⟨rfl, rfl⟩, zF, zB, zN, zX⟩⟩)
   have hne : A.2 = ByteArray.empty := nd_f hc
   refine aw_skip ?_
   refine K8 _ ?_
   refine yR ?_
   refine yM rfl rfl ?_
   refine aops_n rfl (n_add rfl rfl rfl (by omega)) ?_
   refine yA rfl rfl ?_
   refine yN ?_
   dsimp only [St.put]
   have e2 := lineR_succ c.rs (k : Int) (n : Int) l w
   rw [cellR_acc, hown, hA, hP] at e2
   first
   | (rw [show endR A = A.1 ++ [A.2] by simp [endR, hne], ← List.append_assoc] at e2
      rw [← e2]
      exact ⟨w + 1, by omega, by omega, ⟨⟨rfl, rfl⟩, zF, zB, zN, zX⟩⟩)
   | (rw [show endR A = A.1 by simp [endR, hne]] at e2
      rw [← e2]
      exact ⟨w + 1, by omega, by omega, ⟨⟨rfl, rfl⟩, zF, zB, zN, zX⟩⟩)
  replace hc := of_decide_eq_false hc
  have hown := ownW_out (l := l) (w := w) (by omega)
  obtain ⟨own, hoe⟩ : ∃ own, (⟨#[]⟩ : ByteArray) = own := ⟨_, rfl⟩
  rw [hoe] at hown ⊢
  refine aw_skip ?_
  refine K10 _ ?_
  refine yS fun _ K22 => ?_
  refine yS fun _ K23 => ?_
  refine yR ?_
  refine yA rfl rfl ?_
  refine yN ?_
  dsimp only [St.put]
  rw [show P = P ++ (accR c.rs ⟨k, n, w⟩ own 0).1 by rw [accR_zero, List.append_nil]]
  refine K23 _ ?_
  refine aw_block ?_
  refine aw_wipe 15 ?_
  simp only [firsts, getA, Nat.reduceAdd, List.getD_cons_zero, List.getD_cons_succ, List.getD_nil, natBeq, Nat.reduceBEq, cond_true, cond_false]
  refine aw_forget ((setG G nx (.tip ((P ++ (accR c.rs ⟨k, n, w⟩ own 0).1)).length 9 1))) zX ?_
  dsimp only
  refine aw_loopD (X := Nat) (fun i => i ≤ c.rs.length) (fun i => c.rs.length - i) (fun i => [(9, .list ((P ++ (accR c.rs ⟨k, n, w⟩ own i).1).map cells) (.tip nx)), (12, .v (.string (accR c.rs ⟨k, n, w⟩ own i).2)), (13, .v (.int .i64 (i : Int))), (14, .any)]) (fun i G' => (setG G nx (.tip ((P ++ (accR c.rs ⟨k, n, w⟩ own i).1)).length 9 1))) 0 rfl ?_ ?_ ?_ ?_ ?_ ?_
  ·exact Nat.zero_le _
  ·exact zF
  ·exact zX
  ·rintro i hI
   exact zL
  ·rintro i hI
   exact zH
  rintro i hJ
  dsimp only at hJ ⊢
  refine yS fun _ K24 => ?_
  refine yS fun _ K25 => ?_
  refine yR ?_
  refine yM rfl rfl ?_
  refine yF rfl rfl rfl rfl ?_
  refine yL rfl rfl rfl ?_
  refine aops_n rfl (n_len' rfl rfl (List.length_map _)) ?_
  refine aops_n rfl (n_lss rfl rfl rfl) ?_
  refine yN ?_
  dsimp only [St.put]
  refine K25 _ ?_
  refine aw_cond rfl (fun hc => ?_) (fun hc => ?_)
  ·replace hc := of_decide_eq_true hc
   obtain ⟨r, hr⟩ : ∃ r, c.rs[i]? = some r := some_of_lt (by omega)
   have hal := accR_len c.rs ⟨k, n, w⟩ own i
   refine aw_skip ?_
   refine K24 _ ?_
   refine yS fun _ K26 => ?_
   refine aw_block ?_
   refine yS fun _ K27 => ?_
   refine yR ?_
   refine yF rfl rfl rfl rfl ?_
   refine yL rfl rfl rfl ?_
   refine yM rfl rfl ?_
   refine aops_n rfl (n_indexAddr rfl rfl rfl rfl (map_get (by assumption)) (Enc.len _)) ?_
   refine yE rfl rfl rfl ?_
   try dsimp only [St.put]
   refine aops_e rfl (e_allocC rfl ?_)
   try dsimp only [St.put]
   refine aops_e rfl (e_store_all rfl rfl rfl zG rfl rfl (by rfl) ?_)
   refine yN ?_
   dsimp only [St.put]
   refine K27 _ ?_
   refine aw_commitD (i := 14) rfl zG (by first | exact List.cons_ne_nil _ _ | (simp; done) | (simp [putAt]; done)) ?_
   dsimp only
   refine yS fun _ K28 => ?_
   refine aw_wipe 15 ?_
   simp only [firsts, getA, Nat.reduceAdd, List.getD_cons_zero, List.getD_cons_succ, List.getD_nil, natBeq, Nat.reduceBEq, cond_true, cond_false]
   refine aw_cutD (X := Bool) (fun b => (b = true → r.pl ≠ ⟨k, n, w⟩) ∧ (b = false → r.pl = ⟨k, n, w⟩)) (fun b => [(68, .v (.bool b))]) (fun b G' => G') rfl ?_ (fun _ _ _ _ h => .inl h) ?_ ?_
   ·rintro b hI
    exact zL
   ·refine yR ?_
    refine yF rfl rfl rfl rfl ?_
    refine yF rfl rfl rfl rfl ?_
    refine yL rfl rfl rfl ?_
    refine yM rfl rfl ?_
    refine aops_n rfl (n_neq rfl rfl rfl) ?_
    refine yM rfl rfl ?_
    refine aops_split (fun hs => ?_) (fun hs => ?_)
    ·have s1 := nd_t hs
     refine yK rfl ?_
     refine yK rfl ?_
     refine yK rfl ?_
     refine yK rfl ?_
     refine yK rfl ?_
     refine aops_n rfl (n_pt rfl rfl (by constructor)) ?_
     refine yM rfl rfl ?_
     refine yK rfl ?_
     refine yK rfl ?_
     refine yK rfl ?_
     refine yK rfl ?_
     refine yK rfl ?_
     refine aops_n rfl (n_pt rfl rfl (by constructor)) ?_
     refine yN ?_
     dsimp only [St.put]
     refine ⟨_, ?_, ⟨⟨rfl, rfl⟩, zF, zB, zN, zX⟩⟩
     obtain ⟨⟨r1, r2, r3⟩, r4, r5⟩ := r
     dsimp only at *
     simp only [PlaceD.mk.injEq, ne_eq]
     first
     | (refine ⟨fun _ => ?_, fun h => by (cases h)⟩; omega)
     | (by_cases e : r3 = (w : Int)
        ·simp [e, s1, s2]
        simp [e])
    have s1 := nd_f hs
    refine yF rfl rfl rfl rfl ?_
    refine yF rfl rfl rfl rfl ?_
    refine yL rfl rfl rfl ?_
    refine yM rfl rfl ?_
    refine aops_n rfl (n_neq rfl rfl rfl) ?_
    refine aops_n rfl (n_pf rfl rfl (by constructor)) ?_
    refine yM rfl rfl ?_
    refine aops_split (fun hs => ?_) (fun hs => ?_)
    ·have s2 := nd_t hs
     refine yK rfl ?_
     refine yK rfl ?_
     refine yK rfl ?_
     refine yK rfl ?_
     refine yK rfl ?_
     refine aops_n rfl (n_pt rfl rfl (by constructor)) ?_
     refine yN ?_
     dsimp only [St.put]
     refine ⟨_, ?_, ⟨⟨rfl, rfl⟩, zF, zB, zN, zX⟩⟩
     obtain ⟨⟨r1, r2, r3⟩, r4, r5⟩ := r
     dsimp only at *
     simp only [PlaceD.mk.injEq, ne_eq]
     first
     | (refine ⟨fun _ => ?_, fun h => by (cases h)⟩; omega)
     | (by_cases e : r3 = (w : Int)
        ·simp [e, s1, s2]
        simp [e])
    have s2 := nd_f hs
    refine yF rfl rfl rfl rfl ?_
    refine yF rfl rfl rfl rfl ?_
    refine yL rfl rfl rfl ?_
    refine yM rfl rfl ?_
    refine aops_n rfl (n_neq rfl rfl rfl) ?_
    refine aops_n rfl (n_pf rfl rfl (by constructor)) ?_
    refine yN ?_
    dsimp only [St.put]
    refine ⟨_, ?_, ⟨⟨rfl, rfl⟩, zF, zB, zN, zX⟩⟩
    obtain ⟨⟨r1, r2, r3⟩, r4, r5⟩ := r
    dsimp only at *
    simp only [PlaceD.mk.injEq, ne_eq]
    first
    | (refine ⟨fun _ => ?_, fun h => by (cases h)⟩; omega)
    | (by_cases e : r3 = (w : Int)
       ·simp [e, s1, s2]
       simp [e])
   rintro b hst
   dsimp only at hst ⊢
   refine aw_cond rfl (fun hc => ?_) (fun hc => ?_)
   ·have hpe := hst.1 hc
    refine aw_exit ?_
    refine K26 _ ?_
    refine yR ?_
    refine yM rfl rfl ?_
    refine aops_n rfl (n_add rfl rfl rfl (by omega)) ?_
    refine yA rfl rfl ?_
    refine yN ?_
    dsimp only [St.put]
    first
    | (have e3 := accR_off (own := own) hr hpe
       rw [← e3]
       exact ⟨i + 1, by omega, by omega, ⟨⟨rfl, rfl⟩, zF, zB, zN, zX⟩⟩)
    | (have e3 := accR_put (own := own) hr hpe hk2
       have e4 : (accR c.rs ⟨k, n, w⟩ own i).2 = (accR c.rs ⟨k, n, w⟩ own (i + 1)).2 := by rw [e3]
       rw [List.append_assoc, show (accR c.rs ⟨k, n, w⟩ own i).1 ++ [r.word] = (accR c.rs ⟨k, n, w⟩ own (i + 1)).1 by rw [e3], e4]
       exact ⟨i + 1, by omega, by omega, ⟨⟨rfl, rfl⟩, zF, zB, zN, zX⟩⟩)
    | (have e3 := accR_set (own := own) hr hpe hk2
       have e4 : (accR c.rs ⟨k, n, w⟩ own i).1 = (accR c.rs ⟨k, n, w⟩ own (i + 1)).1 := by rw [e3]
       have e5 : r.word = (accR c.rs ⟨k, n, w⟩ own (i + 1)).2 := by rw [e3]
       rw [e4, e5]
       exact ⟨i + 1, by omega, by omega, ⟨⟨rfl, rfl⟩, zF, zB, zN, zX⟩⟩)
   have hpe := hst.2 hc
   refine aw_skip ?_
   refine K28 _ ?_
   refine yS fun _ K30 => ?_
   refine yR ?_
   refine yF rfl rfl rfl rfl ?_
   refine yL rfl rfl rfl ?_
   refine aops_n rfl (n_eql rfl rfl rfl) ?_
   refine yN ?_
   dsimp only [St.put]
   refine K30 _ ?_
   refine aw_cond rfl (fun hc => ?_) (fun hc => ?_)
   ·have hk2 : r.kind = 2 := of_decide_eq_true hc
    refine yR ?_
    refine yM rfl rfl ?_
    refine yF rfl rfl rfl rfl ?_
    refine yL rfl rfl rfl ?_
    try dsimp only [St.put]
    refine aops_e rfl (e_buildSlice rfl rfl rfl (by decide) (by decide) zR (by decide) ?_)
    try dsimp only [St.put]
    refine aops_e rfl (e_append ([r.word]) rfl rfl zG (by first | rfl | simp) rfl rfl zA ?_ zA)
    refine yA rfl rfl ?_
    refine yN ?_
    dsimp only [St.put]
    refine K26 _ ?_
    refine yR ?_
    refine yM rfl rfl ?_
    refine aops_n rfl (n_add rfl rfl rfl (by omega)) ?_
    refine yA rfl rfl ?_
    refine yN ?_
    dsimp only [St.put]
    first
    | (have e3 := accR_off (own := own) hr hpe
       rw [← e3]
       exact ⟨i + 1, by omega, by omega, ⟨⟨rfl, rfl⟩, zF, zB, zN, zX⟩⟩)
    | (have e3 := accR_put (own := own) hr hpe hk2
       have e4 : (accR c.rs ⟨k, n, w⟩ own i).2 = (accR c.rs ⟨k, n, w⟩ own (i + 1)).2 := by rw [e3]
       rw [List.append_assoc, show (accR c.rs ⟨k, n, w⟩ own i).1 ++ [r.word] = (accR c.rs ⟨k, n, w⟩ own (i + 1)).1 by rw [e3], e4]
       exact ⟨i + 1, by omega, by omega, ⟨⟨rfl, rfl⟩, zF, zB, zN, zX⟩⟩)
    | (have e3 := accR_set (own := own) hr hpe hk2
       have e4 : (accR c.rs ⟨k, n, w⟩ own i).1 = (accR c.rs ⟨k, n, w⟩ own (i + 1)).1 := by rw [e3]
       have e5 : r.word = (accR c.rs ⟨k, n, w⟩ own (i + 1)).2 := by rw [e3]
       rw [e4, e5]
       exact ⟨i + 1, by omega, by omega, ⟨⟨rfl, rfl⟩, zF, zB, zN, zX⟩⟩)
   have hk2 : ¬ r.kind = 2 := of_decide_eq_false hc
   refine yR ?_
   refine yF rfl rfl rfl rfl ?_
   refine yL rfl rfl rfl ?_
   refine yA rfl rfl ?_
   refine yN ?_
   dsimp only [St.put]
   refine K26 _ ?_
   refine yR ?_
   refine yM rfl rfl ?_
   refine aops_n rfl (n_add rfl rfl rfl (by omega)) ?_
   refine yA rfl rfl ?_
   refine yN ?_
   dsimp only [St.put]
   first
   | (have e3 := accR_off (own := own) hr hpe
      rw [← e3]
      exact ⟨i + 1, by omega, by omega, ⟨⟨rfl, rfl⟩, zF, zB, zN, zX⟩⟩)
   | (have e3 := accR_put (own := own) hr hpe hk2
      have e4 : (accR c.rs ⟨k, n, w⟩ own i).2 = (accR c.rs ⟨k, n, w⟩ own (i + 1)).2 := by rw [e3]
      rw [List.append_assoc, show (accR c.rs ⟨k, n, w⟩ own i).1 ++ [r.word] = (accR c.rs ⟨k, n, w⟩ own (i + 1)).1 by rw [e3], e4]
      exact ⟨i + 1, by omega, by omega, ⟨⟨rfl, rfl⟩, zF, zB, zN, zX⟩⟩)
   | (have e3 := accR_set (own := own) hr hpe hk2
      have e4 : (accR c.rs ⟨k, n, w⟩ own i).1 = (accR c.rs ⟨k, n, w⟩ own (i + 1)).1 := by rw [e3]
      have e5 : r.word = (accR c.rs ⟨k, n, w⟩ own (i + 1)).2 := by rw [e3]
      rw [e4, e5]
      exact ⟨i + 1, by omega, by omega, ⟨⟨rfl, rfl⟩, zF, zB, zN, zX⟩⟩)
  replace hc := of_decide_eq_false hc
  obtain rfl : i = c.rs.length := by omega
  have hal := accR_len c.rs ⟨k, n, w⟩ own c.rs.length
  obtain ⟨A, hA⟩ : ∃ A, accR c.rs ⟨k, n, w⟩ own c.rs.length = A := ⟨_, rfl⟩
  rw [hA] at hal ⊢
  refine aw_exit ?_
  refine K22 _ ?_
  refine yS fun _ K31 => ?_
  refine yR ?_
  refine yM rfl rfl ?_
  refine aops_n rfl (n_strne rfl rfl rfl) ?_
  refine yN ?_
  dsimp only [St.put]
  refine K31 _ ?_
  refine aw_cond rfl (fun hc => ?_) (fun hc => ?_)
  ·have hne : A.2 ≠ ByteArray.empty := nd_t hc
   refine yR ?_
   refine yM rfl rfl ?_
   refine yM rfl rfl ?_
   try dsimp only [St.put]
   refine aops_e rfl (e_buildSlice rfl rfl rfl (by decide) (by decide) zR (by decide) ?_)
   try dsimp only [St.put]
   refine aops_e rfl (e_append ([A.2]) rfl rfl zG (by first | rfl | simp) rfl rfl zA ?_ zA)
   refine yA rfl rfl ?_
   refine yN ?_
   dsimp only [St.put]
   refine K8 _ ?_
   refine yR ?_
   refine yM rfl rfl ?_
   refine aops_n rfl (n_add rfl rfl rfl (by omega)) ?_
   refine yA rfl rfl ?_
   refine yN ?_
   dsimp only [St.put]
   have e2 := lineR_succ c.rs (k : Int) (n : Int) l w
   rw [cellR_acc, hown, hA, hP] at e2
   first
   | (rw [show endR A = A.1 ++ [A.2] by simp [endR, hne], ← List.append_assoc] at e2
      rw [← e2]
      exact ⟨w + 1, by omega, by omega, ⟨⟨rfl, rfl⟩, zF, zB, zN, zX⟩⟩)
   | (rw [show endR A = A.1 by simp [endR, hne]] at e2
      rw [← e2]
      exact ⟨w + 1, by omega, by omega, ⟨⟨rfl, rfl⟩, zF, zB, zN, zX⟩⟩)
  have hne : A.2 = ByteArray.empty := nd_f hc
  refine aw_skip ?_
  refine K8 _ ?_
  refine yR ?_
  refine yM rfl rfl ?_
  refine aops_n rfl (n_add rfl rfl rfl (by omega)) ?_
  refine yA rfl rfl ?_
  refine yN ?_
  dsimp only [St.put]
  have e2 := lineR_succ c.rs (k : Int) (n : Int) l w
  rw [cellR_acc, hown, hA, hP] at e2
  first
  | (rw [show endR A = A.1 ++ [A.2] by simp [endR, hne], ← List.append_assoc] at e2
     rw [← e2]
     exact ⟨w + 1, by omega, by omega, ⟨⟨rfl, rfl⟩, zF, zB, zN, zX⟩⟩)
  | (rw [show endR A = A.1 by simp [endR, hne]] at e2
     rw [← e2]
     exact ⟨w + 1, by omega, by omega, ⟨⟨rfl, rfl⟩, zF, zB, zN, zX⟩⟩)
 replace hc := of_decide_eq_false hc
 refine aw_exit ?_
 refine K4 _ ?_
 refine yS fun _ K32 => ?_
 refine yR ?_
 refine yM rfl rfl ?_
 refine yA rfl rfl ?_
 refine yN ?_
 dsimp only [St.put]
 rw [show w = l.length + 1 by omega]
 refine K32 _ ?_
 refine aw_ret ?_
 refine ends_v1 rfl (rv_tmp (by constructor)) zN zS ?_
 exact zW
end Go.Proofs.YtejhjijbgceklaaGreatDoor
namespace Go.AB
open Go Go.RowKit
open Go.AB.Enc (cells)
open Go.PB (Chap TextD PlaceD ReadingD CopyD WayD)
theorem before_cmp {a b : PlaceD} : cmpL (keyP b) (keyP a) < 0 ↔ 0 < cmpP a b := by
  rw [keyP, keyP, lt3]
  have := @cmpP_le a b
  constructor
  · intro h
    refine Classical.byContradiction fun h2 => ?_
    have := this.1 h2
    omega
  intro h
  refine Classical.byContradiction fun h2 => ?_
  exact this.2 (by omega) h
theorem lnB_take {x : Chap} {rs : List ReadingD} {k m : Nat} {l : List ByteArray} (h : x.lines[m]? = some l) : ((readC rs k x).lines.take (m + 1)).all (fun l => inB l.length 1 10) = (((readC rs k x).lines.take m).all (fun l => inB l.length 1 10) && inB (readL rs (k : Int) (m : Int) l).length 1 10) := all_take (readC_lines h)
end Go.AB
namespace Go.Proofs.YtejhjijbgceklaaGreatDoor
set_option maxRecDepth 10000
open Go.RowKit Go.AB
open Go.AB.Enc (cells)
open Go.PB (Chap TextD PlaceD ReadingD CopyD WayD)
set_option maxHeartbeats 4000000 in
theorem refCopy_pure (t : TextD) (c : CopyD) (ht : textB t = true) : Pure Tryz.prog 38 [textC t, val c] (.v (.bool (copyB t c))) := by
  refine pure_of_body Tryz.func38 rfl (fun m => .v) fun G nx => ?_
  simp only [Tryz.ntmps38, List.length_cons, List.length_nil, Nat.reduceAdd, Nat.reduceSub]
  refine aw_lt fun hlt => ?_
  dsimp only at hlt
  obtain ⟨htx1, htx2, htx3⟩ := text_ok ht
  refine aw_fit 1 (fun hf => ?_)
  have hf1 := (fit_lst.1 (fit_agg.1 hf _ (by exact List.mem_cons_of_mem _ (List.mem_cons_self ..)))).1
  refine yS fun _ K1 => ?_
  refine yR ?_
  try dsimp only [St.put]
  refine yB rfl rfl rfl ?_
  try dsimp only [St.put]
  refine yB rfl rfl rfl ?_
  refine yA rfl rfl ?_
  refine yN ?_
  dsimp only [St.put]
  refine K1 _ ?_
  refine yS fun _ K2 => ?_
  refine yS fun _ K3 => ?_
  refine yR ?_
  refine yF rfl rfl rfl rfl ?_
  refine yL rfl rfl rfl ?_
  try dsimp only [St.put]
  refine aops_e rfl (e_call_pure rfl rfl rfl (within_pure _ _ _) ?_)
  refine aops_n rfl (n_not rfl rfl) ?_
  refine yM rfl rfl ?_
  refine aops_split (fun hs => ?_) (fun hs => ?_)
  · have h1 : inB c.id 0 9999 = false := by simpa using hs
    refine yK rfl ?_
    refine yK rfl ?_
    refine yK rfl ?_
    refine yK rfl ?_
    refine aops_n rfl (n_pt rfl rfl (by constructor)) ?_
    refine yN ?_
    dsimp only [St.put]
    refine K3 _ ?_
    refine aw_cond rfl (fun _ => ?_) (fun h => by cases h)
    skip
    refine yS fun _ K4 => ?_
    refine yR ?_
    refine yA rfl rfl ?_
    refine yN ?_
    dsimp only [St.put]
    refine K4 _ ?_
    refine aw_ret ?_
    refine ends_1 rfl (by constructor) zN zS ?_
    first
    | exact vb (copyB_id h1).symm
    | exact vb (copyB_len (by have := of_decide_eq_true hc; omega)).symm
  have h1 : inB c.id 0 9999 = true := by simpa using hs
  refine yF rfl rfl rfl rfl ?_
  refine yL rfl rfl rfl ?_
  refine aops_n rfl (n_len' rfl rfl (List.length_map _)) ?_
  refine aops_n rfl (n_gtr rfl rfl rfl) ?_
  refine aops_n rfl (n_pf rfl rfl (by constructor)) ?_
  refine yN ?_
  dsimp only [St.put]
  refine K3 _ ?_
  refine aw_cond rfl (fun hc => ?_) (fun hc => ?_)
  · skip
    refine yS fun _ K5 => ?_
    refine yR ?_
    refine yA rfl rfl ?_
    refine yN ?_
    dsimp only [St.put]
    refine K5 _ ?_
    refine aw_ret ?_
    refine ends_1 rfl (by constructor) zN zS ?_
    first
    | exact vb (copyB_id h1).symm
    | exact vb (copyB_len (by have := of_decide_eq_true hc; omega)).symm
  have hl20 : c.rs.length ≤ 20 := by have := of_decide_eq_false hc; omega
  refine aw_skip ?_
  refine K2 _ ?_
  refine yS fun _ K6 => ?_
  refine yS fun _ K7 => ?_
  refine yR ?_
  refine yA rfl rfl ?_
  refine yN ?_
  dsimp only [St.put]
  refine K7 _ ?_
  refine aw_block ?_
  refine aw_wipe 9 ?_
  simp only [firsts, getA, Nat.reduceAdd, List.getD_cons_zero, List.getD_cons_succ, List.getD_nil, natBeq, Nat.reduceBEq, cond_true, cond_false]
  refine aw_forget (G) zX ?_
  dsimp only
  refine aw_loopD (X := Nat) (fun k => k ≤ c.rs.length ∧ (c.rs.take k).all (readingB t) = true ∧ orderB (c.rs.take k) = true) (fun k => c.rs.length - k) (fun k => [(5, .v (.int .i64 (k : Int))), (6, .any), (7, .any), (8, .any)]) (fun k G' => G') 0 rfl ?_ ?_ (fun _ _ h => h) ?_ ?_ ?_
  · exact ⟨Nat.zero_le _, rfl, rfl⟩
  · exact zF
  · rintro k hI
    exact zL
  · exact fun _ _ _ _ h => .inl h
  rintro k hI
  dsimp only at hI ⊢
  refine yS fun _ K8 => ?_
  refine yS fun _ K9 => ?_
  refine yR ?_
  refine yM rfl rfl ?_
  refine yF rfl rfl rfl rfl ?_
  refine yL rfl rfl rfl ?_
  refine aops_n rfl (n_len' rfl rfl (List.length_map _)) ?_
  refine aops_n rfl (n_lss rfl rfl rfl) ?_
  refine yN ?_
  dsimp only [St.put]
  refine K9 _ ?_
  refine aw_cond rfl (fun hc => ?_) (fun hc => ?_)
  · replace hc := of_decide_eq_true hc
    obtain ⟨r, hx⟩ : ∃ x, c.rs[k]? = some x := some_of_lt (by omega)
    refine aw_skip ?_
    refine K8 _ ?_
    refine yS fun _ K10 => ?_
    refine aw_block ?_
    refine yS fun _ K11 => ?_
    refine yR ?_
    refine yF rfl rfl rfl rfl ?_
    refine yL rfl rfl rfl ?_
    refine yM rfl rfl ?_
    refine aops_n rfl (n_indexAddr rfl rfl rfl rfl (map_get (by assumption)) (Enc.len _)) ?_
    refine yE rfl rfl rfl ?_
    try dsimp only [St.put]
    refine aops_e rfl (e_allocC rfl ?_)
    try dsimp only [St.put]
    refine aops_e rfl (e_store_all rfl rfl rfl zG rfl rfl (by rfl) ?_)
    refine yN ?_
    dsimp only [St.put]
    refine K11 _ ?_
    refine aw_commitD (i := 6) rfl zG (by first | exact List.cons_ne_nil _ _ | (simp; done) | (simp [putAt]; done)) ?_
    dsimp only
    refine yS fun _ K12 => ?_
    refine yS fun _ K13 => ?_
    refine yR ?_
    try dsimp only [St.put]
    refine aops_s rfl (s_load_agg' rfl rfl rfl) ?_
    refine yE rfl rfl rfl ?_
    try dsimp only [St.put]
    refine aops_e rfl (e_call_pure rfl rfl rfl (refReading_pure t r ht) ?_)
    refine aops_n rfl (n_not rfl rfl) ?_
    refine yN ?_
    dsimp only [St.put]
    refine K13 _ ?_
    refine aw_cond rfl (fun hc => ?_) (fun hc => ?_)
    · have hrd : readingB t r = false := by simpa using hc
      refine yS fun _ K14 => ?_
      refine yR ?_
      refine yA rfl rfl ?_
      refine yN ?_
      dsimp only [St.put]
      refine K14 _ ?_
      refine aw_ret ?_
      refine ends_1 rfl (by constructor) zN zS ?_
      exact vb (copyB_rd hx hrd).symm
    have hrd : readingB t r = true := by simpa using hc
    refine aw_skip ?_
    refine K12 _ ?_
    refine aw_wipe 9 ?_
    simp only [firsts, getA, Nat.reduceAdd, List.getD_cons_zero, List.getD_cons_succ, List.getD_nil, natBeq, Nat.reduceBEq, cond_true, cond_false]
    refine aw_cutD (X := Bool) (fun b => (b = true → orderB (c.rs.take (k + 1)) = false) ∧ (b = false → orderB (c.rs.take (k + 1)) = true)) (fun b => [(70, .v (.bool b))]) (fun b G' => G') rfl ?_ (fun _ _ _ _ h => .inl h) ?_ ?_
    · rintro b hI
      exact zL
    · refine aw_drawT [(0, none), (1, none), (2, none), (3, none), (4, none), (5, none), (6, none), (7, none), (8, none), (9, none), (10, none), (11, none)] (fun _ => false) (fun i => [0, 1, 2, 3, 5, 7, 8, 9, 10].contains i) 24 [true, true, true, true, true, true, true, true, true, true, true, true, false, false, false, false, false, false, false, false, false, false, false, false, false, false, false, false, false, false, false, false, false, false, false, false] (by kernel_rfl) (by kernel_rfl) ?_
      refine xM rfl rfl rfl rfl rfl ?_
      refine acan1_n rfl rfl rfl rfl (n_gtr rfl rfl rfl) ?_
      refine xM rfl rfl rfl rfl rfl ?_
      refine acan1_split (fun hs => ?_) (fun hs => ?_)
      · have s1 := of_decide_eq_true hs
        obtain ⟨a, ha⟩ : ∃ x, c.rs[k - 1]? = some x := some_of_lt (by omega)
        have hst0 := ord_next hx (by omega) ha hI.2.2
        refine acan1_n rfl rfl rfl rfl (n_fieldAddr' rfl rfl rfl) ?_
        try dsimp only [St.put]
        refine acan1_s rfl rfl rfl rfl (c := val r.pl) (s_load_agg (cs := cells r) rfl rfl (show 3 ≤ 5 by decide)) ?_
        refine acan1_n rfl rfl rfl rfl (n_fieldAddr' rfl rfl rfl) ?_
        try dsimp only [St.put]
        refine acan1_s rfl rfl rfl rfl (s_load rfl rfl) ?_
        refine xM rfl rfl rfl rfl rfl ?_
        refine acan1_n rfl rfl rfl rfl (n_sub rfl rfl rfl (by omega)) ?_
        try dsimp only [St.put]
        refine acan1_n rfl rfl rfl rfl (n_indexAddr (k := k - 1) rfl rfl rfl (by omega) (map_get ha) (Enc.len _)) ?_
        refine acan1_n rfl rfl rfl rfl (n_fieldAddr' rfl rfl rfl) ?_
        try dsimp only [St.put]
        refine acan1_s rfl rfl rfl rfl (c := val a.pl) (s_load_agg (cs := cells a) rfl rfl (show 3 ≤ 5 by decide)) ?_
        refine acan1_nil ?_
        refine aany_step [12] (by kernel_rfl) (by simp) ?_
        refine aeach_cons ?_ ?_
        · try dsimp only [St.put]
          refine aone_e rfl rfl rfl (e_call_pure rfl rfl rfl (Before_pure r.pl a.pl) ?_)
          refine aany_quiet [(13, none), (14, none), (15, none), (16, none), (17, none), (18, none), (19, none), (20, none), (21, none), (22, none), (23, none), (24, none), (25, none), (26, none), (27, none), (28, none), (29, none), (30, none), (31, none), (32, none), (33, none), (34, none), (35, none)] (fun i => [13, 14, 16, 18, 19, 20, 21, 23, 24, 25, 27, 28, 29, 30, 32, 33, 34, 35].contains i) 0 [true, true, true, true, true, true, true, true, true, true, true, true, true, true, true, true, true, true, true, true, true, true, true, true, true, true, true, true, true, true, true, true, true, true, true, true] (by kernel_rfl) ?_
          refine xM rfl rfl rfl rfl rfl ?_
          refine acan1_split (fun hs => ?_) (fun hs => ?_)
          · have s2 := of_decide_eq_true hs
            refine acan1_skip rfl rfl rfl ?_
            refine acan1_skip rfl rfl rfl ?_
            refine acan1_skip rfl rfl rfl ?_
            refine acan1_skip rfl rfl rfl ?_
            refine acan1_skip rfl rfl rfl ?_
            refine acan1_skip rfl rfl rfl ?_
            refine acan1_skip rfl rfl rfl ?_
            refine acan1_skip rfl rfl rfl ?_
            refine acan1_skip rfl rfl rfl ?_
            refine acan1_skip rfl rfl rfl ?_
            refine acan1_skip rfl rfl rfl ?_
            refine acan1_skip rfl rfl rfl ?_
            refine acan1_skip rfl rfl rfl ?_
            refine acan1_skip rfl rfl rfl ?_
            refine acan1_skip rfl rfl rfl ?_
            refine acan1_skip rfl rfl rfl ?_
            refine acan1_skip rfl rfl rfl ?_
            refine acan1_skip rfl rfl rfl ?_
            refine acan1_skip rfl rfl rfl ?_
            refine acan1_skip rfl rfl rfl ?_
            refine acan1_n rfl rfl rfl rfl (n_pt rfl rfl (by constructor)) ?_
            refine acan1_n rfl rfl rfl rfl (n_pt rfl rfl (by constructor)) ?_
            refine acan1_nil ?_
            dsimp only [St.put]
            refine aany_nil (by kernel_rfl) ?_
            refine ⟨_, ?_, ⟨⟨rfl, rfl⟩, zF, zB, zN, zX⟩⟩
            first
            | (have q1 : ¬ (0 : Int) < (k : Int) := s1
               refine ⟨fun h => absurd h (by decide), fun _ => ?_⟩
               obtain rfl : k = 0 := by omega
               exact ord_first hx)
            | (have q2 : cmpL (keyP r.pl) (keyP a.pl) < 0 := s2
               rw [hst0]
               exact ⟨fun _ => Bool.eq_false_iff.2 fun h => (stepB_true.1 h).1 (before_cmp.1 q2), fun h => absurd h (by decide)⟩)
            | (have q3 : r.pl = a.pl := s3
               rw [hst0]
               refine ⟨fun h => ?_, fun h => ?_⟩
               · exact Bool.eq_false_iff.2 fun h2 => by
                   have := (stepB_true.1 h2).2 q3.symm
                   rw [this] at h
                   exact absurd h (by decide)
               exact stepB_true.2 ⟨fun h2 => s2 (before_cmp.2 h2), fun _ => by simpa using h⟩)
            | (have q3 : ¬ r.pl = a.pl := s3
               rw [hst0]
               exact ⟨fun h => absurd h (by decide), fun _ => stepB_true.2 ⟨fun h2 => s2 (before_cmp.2 h2), fun e => absurd e.symm q3⟩⟩)
          have s2 := of_decide_eq_false hs
          refine acan1_n rfl rfl rfl rfl (n_fieldAddr' rfl rfl rfl) ?_
          try dsimp only [St.put]
          refine acan1_s rfl rfl rfl rfl (c := val r.pl) (s_load_agg (cs := cells r) rfl rfl (show 3 ≤ 5 by decide)) ?_
          refine acan1_n rfl rfl rfl rfl (n_fieldAddr' rfl rfl rfl) ?_
          try dsimp only [St.put]
          refine acan1_s rfl rfl rfl rfl (s_load rfl rfl) ?_
          refine xM rfl rfl rfl rfl rfl ?_
          refine acan1_n rfl rfl rfl rfl (n_sub rfl rfl rfl (by omega)) ?_
          try dsimp only [St.put]
          refine acan1_n rfl rfl rfl rfl (n_indexAddr (k := k - 1) rfl rfl rfl (by omega) (map_get ha) (Enc.len _)) ?_
          refine acan1_n rfl rfl rfl rfl (n_fieldAddr' rfl rfl rfl) ?_
          try dsimp only [St.put]
          refine acan1_s rfl rfl rfl rfl (c := val a.pl) (s_load_agg (cs := cells a) rfl rfl (show 3 ≤ 5 by decide)) ?_
          refine acan1_n rfl rfl rfl rfl (n_agg_eql (x := r.pl) (y := a.pl) rfl rfl rfl) ?_
          refine xM rfl rfl rfl rfl rfl ?_
          refine acan1_split (fun hs => ?_) (fun hs => ?_)
          · have s3 := of_decide_eq_true hs
            refine acan1_n rfl rfl rfl rfl (n_fieldAddr' rfl rfl rfl) ?_
            try dsimp only [St.put]
            refine acan1_s rfl rfl rfl rfl (s_load rfl rfl) ?_
            refine xM rfl rfl rfl rfl rfl ?_
            refine acan1_n rfl rfl rfl rfl (n_sub rfl rfl rfl (by omega)) ?_
            try dsimp only [St.put]
            refine acan1_n rfl rfl rfl rfl (n_indexAddr (k := k - 1) rfl rfl rfl (by omega) (map_get ha) (Enc.len _)) ?_
            refine acan1_n rfl rfl rfl rfl (n_fieldAddr' rfl rfl rfl) ?_
            try dsimp only [St.put]
            refine acan1_s rfl rfl rfl rfl (s_load rfl rfl) ?_
            refine acan1_n rfl rfl rfl rfl (n_neq rfl rfl rfl) ?_
            refine acan1_n rfl rfl rfl rfl (n_pt rfl rfl (by constructor)) ?_
            refine acan1_n rfl rfl rfl rfl (n_pf rfl rfl (by constructor)) ?_
            refine acan1_n rfl rfl rfl rfl (n_pt rfl rfl (by constructor)) ?_
            refine acan1_nil ?_
            dsimp only [St.put]
            refine aany_nil (by kernel_rfl) ?_
            refine ⟨_, ?_, ⟨⟨rfl, rfl⟩, zF, zB, zN, zX⟩⟩
            first
            | (have q1 : ¬ (0 : Int) < (k : Int) := s1
               refine ⟨fun h => absurd h (by decide), fun _ => ?_⟩
               obtain rfl : k = 0 := by omega
               exact ord_first hx)
            | (have q2 : cmpL (keyP r.pl) (keyP a.pl) < 0 := s2
               rw [hst0]
               exact ⟨fun _ => Bool.eq_false_iff.2 fun h => (stepB_true.1 h).1 (before_cmp.1 q2), fun h => absurd h (by decide)⟩)
            | (have q3 : r.pl = a.pl := s3
               rw [hst0]
               refine ⟨fun h => ?_, fun h => ?_⟩
               · exact Bool.eq_false_iff.2 fun h2 => by
                   have := (stepB_true.1 h2).2 q3.symm
                   rw [this] at h
                   exact absurd h (by decide)
               exact stepB_true.2 ⟨fun h2 => s2 (before_cmp.2 h2), fun _ => by simpa using h⟩)
            | (have q3 : ¬ r.pl = a.pl := s3
               rw [hst0]
               exact ⟨fun h => absurd h (by decide), fun _ => stepB_true.2 ⟨fun h2 => s2 (before_cmp.2 h2), fun e => absurd e.symm q3⟩⟩)
          have s3 := of_decide_eq_false hs
          refine acan1_skip rfl rfl rfl ?_
          refine acan1_skip rfl rfl rfl ?_
          refine acan1_skip rfl rfl rfl ?_
          refine acan1_skip rfl rfl rfl ?_
          refine acan1_skip rfl rfl rfl ?_
          refine acan1_skip rfl rfl rfl ?_
          refine acan1_skip rfl rfl rfl ?_
          refine acan1_skip rfl rfl rfl ?_
          refine acan1_n rfl rfl rfl rfl (n_pf rfl rfl (by constructor)) ?_
          refine acan1_n rfl rfl rfl rfl (n_pf rfl rfl (by constructor)) ?_
          refine acan1_n rfl rfl rfl rfl (n_pt rfl rfl (by constructor)) ?_
          refine acan1_nil ?_
          dsimp only [St.put]
          refine aany_nil (by kernel_rfl) ?_
          refine ⟨_, ?_, ⟨⟨rfl, rfl⟩, zF, zB, zN, zX⟩⟩
          first
          | (have q1 : ¬ (0 : Int) < (k : Int) := s1
             refine ⟨fun h => absurd h (by decide), fun _ => ?_⟩
             obtain rfl : k = 0 := by omega
             exact ord_first hx)
          | (have q2 : cmpL (keyP r.pl) (keyP a.pl) < 0 := s2
             rw [hst0]
             exact ⟨fun _ => Bool.eq_false_iff.2 fun h => (stepB_true.1 h).1 (before_cmp.1 q2), fun h => absurd h (by decide)⟩)
          | (have q3 : r.pl = a.pl := s3
             rw [hst0]
             refine ⟨fun h => ?_, fun h => ?_⟩
             · exact Bool.eq_false_iff.2 fun h2 => by
                 have := (stepB_true.1 h2).2 q3.symm
                 rw [this] at h
                 exact absurd h (by decide)
             exact stepB_true.2 ⟨fun h2 => s2 (before_cmp.2 h2), fun _ => by simpa using h⟩)
          | (have q3 : ¬ r.pl = a.pl := s3
             rw [hst0]
             exact ⟨fun h => absurd h (by decide), fun _ => stepB_true.2 ⟨fun h2 => s2 (before_cmp.2 h2), fun e => absurd e.symm q3⟩⟩)
        exact aeach_nil
      have s1 := of_decide_eq_false hs
      refine acan1_skip rfl rfl rfl ?_
      refine acan1_skip rfl rfl rfl ?_
      refine acan1_skip rfl rfl rfl ?_
      refine acan1_skip rfl rfl rfl ?_
      refine acan1_skip rfl rfl rfl ?_
      refine acan1_skip rfl rfl rfl ?_
      refine acan1_skip rfl rfl rfl ?_
      refine acan1_skip rfl rfl rfl ?_
      refine acan1_skip rfl rfl rfl ?_
      refine acan1_nil ?_
      refine aany_step [12] (by kernel_rfl) (by simp) ?_
      refine aeach_cons ?_ ?_
      · refine aone_skip rfl rfl rfl ?_
        refine aany_quiet [(13, none), (14, none), (15, none), (16, none), (17, none), (18, none), (19, none), (20, none), (21, none), (22, none), (23, none), (24, none), (25, none), (26, none), (27, none), (28, none), (29, none), (30, none), (31, none), (32, none), (33, none), (34, none), (35, none)] (fun i => [13, 14, 16, 18, 19, 20, 21, 23, 24, 25, 27, 28, 29, 30, 32, 33, 34, 35].contains i) 0 [true, true, true, true, true, true, true, true, true, true, true, true, true, true, true, true, true, true, true, true, true, true, true, true, true, true, true, true, true, true, true, true, true, true, true, true] (by kernel_rfl) ?_
        refine acan1_skip rfl rfl rfl ?_
        refine acan1_skip rfl rfl rfl ?_
        refine acan1_skip rfl rfl rfl ?_
        refine acan1_skip rfl rfl rfl ?_
        refine acan1_skip rfl rfl rfl ?_
        refine acan1_skip rfl rfl rfl ?_
        refine acan1_skip rfl rfl rfl ?_
        refine acan1_skip rfl rfl rfl ?_
        refine acan1_skip rfl rfl rfl ?_
        refine acan1_skip rfl rfl rfl ?_
        refine acan1_skip rfl rfl rfl ?_
        refine acan1_skip rfl rfl rfl ?_
        refine acan1_skip rfl rfl rfl ?_
        refine acan1_skip rfl rfl rfl ?_
        refine acan1_skip rfl rfl rfl ?_
        refine acan1_skip rfl rfl rfl ?_
        refine acan1_skip rfl rfl rfl ?_
        refine acan1_skip rfl rfl rfl ?_
        refine acan1_skip rfl rfl rfl ?_
        refine acan1_skip rfl rfl rfl ?_
        refine acan1_skip rfl rfl rfl ?_
        refine acan1_skip rfl rfl rfl ?_
        refine acan1_n rfl rfl rfl rfl (n_pf rfl rfl (by constructor)) ?_
        refine acan1_nil ?_
        dsimp only [St.put]
        refine aany_nil (by kernel_rfl) ?_
        refine ⟨_, ?_, ⟨⟨rfl, rfl⟩, zF, zB, zN, zX⟩⟩
        first
        | (have q1 : ¬ (0 : Int) < (k : Int) := s1
           refine ⟨fun h => absurd h (by decide), fun _ => ?_⟩
           obtain rfl : k = 0 := by omega
           exact ord_first hx)
        | (have q2 : cmpL (keyP r.pl) (keyP a.pl) < 0 := s2
           rw [hst0]
           exact ⟨fun _ => Bool.eq_false_iff.2 fun h => (stepB_true.1 h).1 (before_cmp.1 q2), fun h => absurd h (by decide)⟩)
        | (have q3 : r.pl = a.pl := s3
           rw [hst0]
           refine ⟨fun h => ?_, fun h => ?_⟩
           · exact Bool.eq_false_iff.2 fun h2 => by
               have := (stepB_true.1 h2).2 q3.symm
               rw [this] at h
               exact absurd h (by decide)
           exact stepB_true.2 ⟨fun h2 => s2 (before_cmp.2 h2), fun _ => by simpa using h⟩)
        | (have q3 : ¬ r.pl = a.pl := s3
           rw [hst0]
           exact ⟨fun h => absurd h (by decide), fun _ => stepB_true.2 ⟨fun h2 => s2 (before_cmp.2 h2), fun e => absurd e.symm q3⟩⟩)
      exact aeach_nil
    rintro b hst
    dsimp only at hst ⊢
    refine aw_cond rfl (fun hc => ?_) (fun hc => ?_)
    · have hord := hst.1 hc
      refine yS fun _ K16 => ?_
      refine yR ?_
      refine yA rfl rfl ?_
      refine yN ?_
      dsimp only [St.put]
      refine K16 _ ?_
      refine aw_ret ?_
      refine ends_1 rfl (by constructor) zN zS ?_
      exact vb (copyB_ord (k := k + 1) hord).symm
    have hord := hst.2 hc
    refine aw_skip ?_
    refine K10 _ ?_
    refine yR ?_
    refine yM rfl rfl ?_
    refine aops_n rfl (n_add rfl rfl rfl (by omega)) ?_
    refine yA rfl rfl ?_
    refine yN ?_
    dsimp only [St.put]
    exact ⟨k + 1, by omega, ⟨by omega, by rw [all_take hx, hI.2.1, hrd]; rfl, hord⟩, ⟨⟨rfl, rfl⟩, zF, zB, zN, zX⟩⟩
  replace hc := of_decide_eq_false hc
  have hv : rsB t c.rs = true := by
    obtain ⟨_, h2, h3⟩ := hI
    rw [take_all (by omega)] at h2 h3
    simp [rsB, h2, h3]
  have hrl := readT_len t c.rs
  refine aw_exit ?_
  refine K6 _ ?_
  refine yS fun _ K17 => ?_
  refine yS fun _ K18 => ?_
  refine yR ?_
  refine yA rfl rfl ?_
  refine yN ?_
  dsimp only [St.put]
  refine K18 _ ?_
  refine aw_block ?_
  refine aw_wipe 9 ?_
  simp only [firsts, getA, Nat.reduceAdd, List.getD_cons_zero, List.getD_cons_succ, List.getD_nil, natBeq, Nat.reduceBEq, cond_true, cond_false]
  refine aw_forget (G) zX ?_
  dsimp only
  refine aw_loopD (X := Nat) (fun j => j ≤ t.length ∧ ((readT t c.rs).take j).all lnB = true) (fun j => t.length - j) (fun j => [(7, .v (.int .i64 (j : Int))), (8, .any)]) (fun j G' => G') 0 rfl ?_ ?_ (fun _ _ h => h) ?_ ?_ ?_
  · exact ⟨Nat.zero_le _, rfl⟩
  · exact zF
  · rintro j hI
    exact zL
  · exact fun _ _ _ _ h => .inl h
  rintro j hJ
  dsimp only at hJ ⊢
  refine yS fun _ K19 => ?_
  refine yS fun _ K20 => ?_
  refine yR ?_
  refine yM rfl rfl ?_
  refine yF rfl rfl rfl rfl ?_
  refine yL rfl rfl rfl ?_
  refine aops_n rfl (n_len' rfl rfl (List.length_map _)) ?_
  refine aops_n rfl (n_lss rfl rfl rfl) ?_
  refine yN ?_
  dsimp only [St.put]
  refine K20 _ ?_
  refine aw_cond rfl (fun hc => ?_) (fun hc => ?_)
  · replace hc := of_decide_eq_true hc
    obtain ⟨x, hk⟩ : ∃ x, t[j]? = some x := some_of_lt (by omega)
    have hy := readT_at (rs := c.rs) hk
    have hxl := htx3 x (mem_of_get hk)
    refine aw_skip ?_
    refine K19 _ ?_
    refine yS fun _ K21 => ?_
    refine aw_block ?_
    refine yS fun _ K22 => ?_
    refine yR ?_
    refine yA rfl rfl ?_
    refine yN ?_
    dsimp only [St.put]
    refine K22 _ ?_
    refine aw_block ?_
    refine aw_wipe 9 ?_
    simp only [firsts, getA, Nat.reduceAdd, List.getD_cons_zero, List.getD_cons_succ, List.getD_nil, natBeq, Nat.reduceBEq, cond_true, cond_false]
    refine aw_forget (G) zX ?_
    dsimp only
    refine aw_loopD (X := Nat) (fun m => m ≤ x.lines.length ∧ ((readC c.rs j x).lines.take m).all (fun l => inB l.length 1 10) = true) (fun m => x.lines.length - m) (fun m => [(8, .v (.int .i64 (m : Int)))]) (fun m G' => G') 0 rfl ?_ ?_ (fun _ _ h => h) ?_ ?_ ?_
    · exact ⟨Nat.zero_le _, rfl⟩
    · exact zF
    · rintro m hI
      exact zL
    · exact fun _ _ _ _ h => .inl h
    rintro m hM
    dsimp only at hM ⊢
    refine yS fun _ K23 => ?_
    refine yS fun _ K24 => ?_
    refine yR ?_
    refine yM rfl rfl ?_
    refine yF rfl rfl rfl rfl ?_
    refine yL rfl rfl rfl ?_
    refine yM rfl rfl ?_
    refine aops_n rfl (n_indexAddr rfl rfl rfl rfl (map_get (by assumption)) (Enc.len _)) ?_
    refine yF rfl rfl rfl rfl ?_
    refine yL rfl rfl rfl ?_
    refine aops_n rfl (n_len' rfl rfl (List.length_map _)) ?_
    refine aops_n rfl (n_lss rfl rfl rfl) ?_
    refine yN ?_
    dsimp only [St.put]
    refine K24 _ ?_
    refine aw_cond rfl (fun hc => ?_) (fun hc => ?_)
    · replace hc := of_decide_eq_true hc
      obtain ⟨l, hn⟩ : ∃ y, x.lines[m]? = some y := some_of_lt (by omega)
      refine aw_skip ?_
      refine K23 _ ?_
      refine yS fun _ K25 => ?_
      refine aw_block ?_
      refine yS fun _ K26 => ?_
      refine yR ?_
      try dsimp only [St.put]
      refine aops_s rfl (s_load_agg' rfl rfl rfl) ?_
      refine yE rfl rfl rfl ?_
      refine yM rfl rfl ?_
      refine yM rfl rfl ?_
      try dsimp only [St.put]
      refine aops_e rfl (e_call_pure rfl rfl rfl (refRead1_pure t c j m x l ht hl20 hk hn) ?_)
      refine aops_n rfl (n_len' rfl rfl (List.length_map _)) ?_
      try dsimp only [St.put]
      refine aops_e rfl (e_call_pure rfl rfl rfl (within_pure _ _ _) ?_)
      refine aops_n rfl (n_not rfl rfl) ?_
      refine yN ?_
      dsimp only [St.put]
      refine K26 _ ?_
      refine aw_cond rfl (fun hc => ?_) (fun hc => ?_)
      · have hin : inB (readL c.rs (j : Int) (m : Int) l).length 1 10 = false := by simpa using hc
        have hln : lnB (readC c.rs j x) = false := by unfold lnB; exact all_false_of (readC_lines hn) hin
        refine yS fun _ K27 => ?_
        refine yR ?_
        refine yA rfl rfl ?_
        refine yN ?_
        dsimp only [St.put]
        refine K27 _ ?_
        refine aw_ret ?_
        refine ends_1 rfl (by constructor) zN zS ?_
        exact vb (copyB_ln (by rw [linesB_eq]; exact all_false_of hy hln)).symm
      have hin : inB (readL c.rs (j : Int) (m : Int) l).length 1 10 = true := by simpa using hc
      refine aw_skip ?_
      refine K25 _ ?_
      refine yR ?_
      refine yM rfl rfl ?_
      refine aops_n rfl (n_add rfl rfl rfl (by omega)) ?_
      refine yA rfl rfl ?_
      refine yN ?_
      dsimp only [St.put]
      exact ⟨m + 1, by omega, ⟨by omega, by rw [lnB_take hn, hM.2, hin]; rfl⟩, ⟨⟨rfl, rfl⟩, zF, zB, zN, zX⟩⟩
    try replace hc := of_decide_eq_false hc
    refine aw_exit ?_
    refine K21 _ ?_
    refine yR ?_
    refine yM rfl rfl ?_
    refine aops_n rfl (n_add rfl rfl rfl (by omega)) ?_
    refine yA rfl rfl ?_
    refine yN ?_
    dsimp only [St.put]
    exact ⟨j + 1, by omega, ⟨by omega, by
      rw [all_take hy, hJ.2, Bool.true_and]
      have := hM.2
      rw [take_all (show (readC c.rs j x).lines.length ≤ m by rw [readC_len]; omega)] at this
      exact this⟩, ⟨⟨rfl, rfl⟩, zF, zB, zN, zX⟩⟩
  replace hc := of_decide_eq_false hc
  refine aw_exit ?_
  refine K17 _ ?_
  refine yS fun _ K28 => ?_
  refine yR ?_
  refine yA rfl rfl ?_
  refine yN ?_
  dsimp only [St.put]
  refine K28 _ ?_
  refine aw_ret ?_
  refine ends_1 rfl (by constructor) zN zS ?_
  exact vb (by
    have h2 := hJ.2
    rw [take_all (by omega)] at h2
    exact (copyB_true.2 ⟨h1, hl20, hv, h2⟩).symm)
end Go.Proofs.YtejhjijbgceklaaGreatDoor
namespace Go.Proofs.YtejhjijbgceklaaGreatDoor
set_option maxRecDepth 10000
open Go.RowKit Go.AB
open Go.AB.Enc (cells)
open Go.PB (Chap TextD PlaceD ReadingD CopyD WayD)
end Go.Proofs.YtejhjijbgceklaaGreatDoor

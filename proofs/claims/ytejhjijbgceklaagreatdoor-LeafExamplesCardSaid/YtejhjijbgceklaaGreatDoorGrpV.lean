/-
  What the walks through the program rest on: values, states, steps, calls (MdNext, MeReadings).
-/
import Derived.Test.YtejhjijbgceklaaGreatDoorAdFew
import Derived.Test.YtejhjijbgceklaaGreatDoorGrpO
import Derived.Test.YtejhjijbgceklaaGreatDoorCkKeys
import Derived.Test.YtejhjijbgceklaaGreatDoorLcCheck
namespace Go.AB
open Go Go.RowKit
open Go.AB.Enc (cells)
open Go.PB (Chap TextD PlaceD ReadingD CopyD WayD)
/-- what the map of the known numbers holds is right -/
def KnownM (a b : List ByteArray) (m : Int × Int → Option C) : Prop := ∀ p c, m p = some c → ∃ i k : Nat, p = ((i : Int), (k : Int)) ∧ c = .v (.int .i64 (fewAt a b i k))
def MemoT (a b : List ByteArray) : Type := { y : Nat × (Int × Int → Option C) // KnownM a b y.2 }
theorem knownM_nil (a b : List ByteArray) : KnownM a b fun _ => none := fun p c h => by cases h
theorem knownM_low {a b : List ByteArray} {m : Int × Int → Option C} (h : KnownM a b m) {N : Nat} (p : Int × Int) (c : C) (hc : m p = some c) : c.low N := by
 obtain ⟨i, k, _, rfl⟩ := h p c hc
 exact .v
theorem knownM_get {a b : List ByteArray} {m : Int × Int → Option C} (h : KnownM a b m) {i k : Nat} {c : C} (hc : m ((i : Int), (k : Int)) = some c) : c = .v (.int .i64 (fewAt a b i k)) := by
 obtain ⟨i', k', e, rfl⟩ := h _ _ hc
 simp only [Prod.mk.injEq, Int.natCast_inj] at e
 rw [e.1, e.2]
theorem knownM_set {a b : List ByteArray} {m : Int × Int → Option C} (h : KnownM a b m) (i k : Nat) : KnownM a b (mset m ((i : Int), (k : Int)) (.v (.int .i64 (fewAt a b i k)))) := fun p c hc => by
 simp only [mset] at hc
 split at hc
 ·rename_i e
  cases hc
  exact ⟨i, k, e, rfl⟩
 exact h p c hc
theorem delG_memo {G : Nat → Option GObj} {n k : Nat} {o : GObj} (h : delG G n k = some o) : k ≠ n ∧ G k = some o := by
 unfold delG at h
 split at h
 ·cases h
 rename_i e; exact ⟨e, h⟩
theorem memo_back {G D : Nat → Option GObj} {M n : Nat} {g o : GObj} (hD : delG G M = D) (hG : G M = some g) (h : setG D M g n = some o) : G n = some o := by
 by_cases e : n = M
 ·rw [e, setG_same] at h; rw [e, hG]; exact h
 rw [setG_other e, ← hD] at h; exact (delG_memo h).2
theorem memo_out {G D H : Nat → Option GObj} {M n : Nat} {g o : GObj} (hD : delG G M = D) (h : setG G M g n = some o) (hM : H M = some g) (hH : ∀ n o, D n = some o → H n = some o) : H n = some o := by
 by_cases e : n = M
 ·rw [e, setG_same] at h; rw [e, hM]; exact h
 rw [setG_other e] at h; exact hH n o (by rw [← hD, delG_other e]; exact h)
theorem setG_swap {D : Nat → Option GObj} {M k n : Nat} {g c o : GObj} (e : M ≠ k) (h : setG (setG D k c) M g n = some o) : setG (setG D M g) k c n = some o := by
 by_cases e1 : n = M
 ·rw [e1, setG_same] at h; rw [e1, setG_other e, setG_same]; exact h
 rw [setG_other e1] at h
 by_cases e2 : n = k
 ·rw [e2, setG_same] at h ⊢; exact h
 rw [setG_other e2] at h ⊢; rw [setG_other e1]; exact h
def wcs : List C := [.v (.int .u8 3), .v (.int .i64 1), .v (.int .i64 1), .v (.int .u8 1), .v (.int .i64 1), .v (.int .i64 0), .v (.int .u8 2), .v (.int .i64 0), .v (.int .i64 1)]
abbrev wC (w : WayD) : List C := [.v (.int .u8 w.kind), .v (.int .i64 (w.one : Int)), .v (.int .i64 (w.two : Int))]
theorem wcs_at {j : Nat} (h : j < 3) : (wcs.drop (j * 3)).take 3 = wC (wayAt j) := by
 have : j = 0 ∨ j = 1 ∨ j = 2 := by omega
 rcases this with rfl | rfl | rfl <;> rfl
theorem way_step (j : Nat) : (wayAt j).one ≤ 1 ∧ (wayAt j).two ≤ 1 ∧ 1 ≤ (wayAt j).one + (wayAt j).two := by
 match j with
 | 0 => decide
 | 1 => decide
 | _ + 2 => exact ⟨by simp [wayAt], by simp [wayAt], by simp [wayAt]⟩
end Go.AB
namespace Go.Proofs.YtejhjijbgceklaaGreatDoor
set_option maxRecDepth 10000
open Go Go.RowKit Go.AB
open Go.AB.Enc (cells)
open Go.PB (Chap TextD PlaceD ReadingD CopyD WayD)
theorem uPairL : Tryz.prog.underlying 140 = some (.array 2 3) := by kernel_rfl
theorem pairCellsL : Tryz.prog.cellsOf 140 = 2 := by kernel_rfl
theorem intCellsL : Tryz.prog.cellsOf 3 = 1 := by kernel_rfl
theorem pairKeyTypeL : Tryz.prog.keyType 140 = true := by kernel_rfl
theorem pairLawL : Go.Maps.Keyed Tryz.prog 140 := Go.Maps.Keyed.of_law (deep_law_laid laidOutK (m := 2) (by omega) (of_decide_eq_true (by kernel_rfl)) (by kernel_rfl) (by rw [uPairL]))
theorem pairKeyL {i k : Int} (hi : (Lit.int .i64 i).wf = true) (hk : (Lit.int .i64 k).wf = true) : ∃ l, keyOf Tryz.prog 140 (.agg #[.int .i64 i, .int .i64 k]) = some l := by
 obtain ⟨m, hm⟩ := manyTypesK
 have hf : (Value.agg #[.int .i64 i, .int .i64 k]).formed Tryz.prog 140 = true := by simp [Value.formed, uPairL, pairCellsL]
 refine ⟨.string (keyBytes [.int .i64 i, .int .i64 k]), ?_⟩
 unfold keyOf
 rw [uPairL]
 simp only [pairKeyTypeL, hf, Bool.and_self, if_true]
 have e0 : (List.range 2) = [0, 1] := rfl
 have hl : Tryz.prog.keyLits (Tryz.prog.types.size + 1) 140 (Value.agg #[.int .i64 i, .int .i64 k]).cells.toList = some [.int .i64 i, .int .i64 k] := by
  rw [hm]
  unfold Program.keyLits
  simp only [uPairL, pairCellsL, intCellsL, Value.cells]
  unfold Program.keyLits
  simp [uIntK, e0, hi, hk]
 rw [hl]
 rfl
instance : KeyT Tryz.prog 140 (Int × Int) where
 keyed := pairLawL
 has {E w x v} h := by
  obtain ⟨vs, rfl, h1, _⟩ := R.agg_inv h
  match vs, h1 with
  | [a, b], h1 => exact pairKeyL (lit_i64 (key_i64 (h1.2 0 _ _ rfl rfl))) (lit_i64 (key_i64 (h1.2 1 _ _ rfl rfl)))
  | [], h => exact absurd h.1 (by simp)
  | [_], h => exact absurd h.1 (by simp)
  | _ :: _ :: _ :: _, h => exact absurd h.1 (by simp)
def capsN (a b : List ByteArray) (nf : Nat) : List C := [.elem [lst a], .elem [lst b], .elem wcs, .box nf 0 0]
def capsF (a b : List ByteArray) (M nf : Nat) : List C := [.elem [.map M], .elem [lst a], .elem [lst b], .box nf 0 0, .elem [.fn (.func 87) (capsN a b nf)]]
/-- what lies ahead of a call of one of the two -/
def NF (a b : List ByteArray) (M nf : Nat) (G : Nat → Option GObj) (nx wn : Nat) (y : MemoT a b) : Prop := (M < nx ∧ nf < nx) ∧ G nf = some (.box wn [.fn (.func 88) (capsF a b M nf)]) ∧ G M = some ((gmap Tryz.prog 140 y.1.1 y.1.2)) ∧ M ≠ nf
def FewAt (a b : List ByteArray) (M nf i k : Nat) : Prop := ∀ (G : Nat → Option GObj) (nx wn : Nat) (y : MemoT a b), NF a b M nf G nx wn y → PC Tryz.prog 88 [.v (.int .i64 (i : Int)), .v (.int .i64 (k : Int)), .elem [.map M], .elem [lst a], .elem [lst b], .box nf 0 0, .elem [.fn (.func 87) (capsN a b nf)]] G nx fun r' G' nx' => ∃ y : MemoT a b, r' = .v (.int .i64 (fewAt a b i k)) ∧ G' = setG G M ((gmap Tryz.prog 140 y.1.1 y.1.2)) ∧ nx' = nx
def NextAt (a b : List ByteArray) (M nf i k : Nat) : Prop := ∀ (G : Nat → Option GObj) (nx wn : Nat) (y : MemoT a b), NF a b M nf G nx wn y → PC Tryz.prog 87 [.v (.int .i64 (i : Int)), .v (.int .i64 (k : Int)), .elem [lst a], .elem [lst b], .elem wcs, .box nf 0 0] G nx fun r' G' nx' => ∃ y : MemoT a b, r' = .tup [.agg (wC (bestW a b i k).1), .v (.int .i64 (bestW a b i k).2)] ∧ G' = setG G M ((gmap Tryz.prog 140 y.1.1 y.1.2)) ∧ nx' = nx
set_option maxHeartbeats 2000000 in
theorem next_at (a b : List ByteArray) (ha : a.length ≤ 1000) (hb : b.length ≤ 1000) (M nf i k : Nat) (hi : i ≤ a.length) (hk : k ≤ b.length) (hF : ∀ i' k', i' ≤ a.length → k' ≤ b.length → (a.length - i') + (b.length - k') < (a.length - i) + (b.length - k) → FewAt a b M nf i' k') : NextAt a b M nf i k := fun G nx wn y ⟨⟨hM, hn⟩, hGn, hGM, hne⟩ => by
 refine pc_namedX_of_body (fun (y : MemoT a b) => setG G M ((gmap Tryz.prog 140 y.1.1 y.1.2))) (nx) Tryz.func87 rfl (.tup (low_cons (.agg (low_cons .v (low_cons .v (low_cons .v low_nil)))) (low_cons .v low_nil))) zN (fun hlt y => (by (repeat' (refine lowG_set ?_ (by (try dsimp only); omega) ?_)); all_goals (first | exact lowG_base zS | (repeat' (first | exact trivial | refine ⟨?_, ?_⟩ | exact .v | exact .any | refine .elem ?_ | exact lst_low _ _ | exact cells_low _ _ | exact val_low _ _ | exact data_low _ (by (try dsimp only); omega) | exact .box (by (try dsimp only); omega) | exact nil_low | exact low_nil | exact gmap_low (knownM_low y.2) | refine set_low ?_ ?_ | exact .arr (by (try dsimp only); omega) | exact .own (by (try dsimp only); omega) | exact .map (by (try dsimp only); omega) | exact flatC_low _ | refine low_cons ?_ ?_ | exact lst_low _ _))))) ?_
 simp only [Tryz.ntmps87, List.length_cons, List.length_nil, Nat.reduceAdd, Nat.reduceSub]
 refine aw_lt fun hlt => ?_
 dsimp only at hlt
 have hw0 := fewAt_le a b
 have hlt0 := hlt
 obtain ⟨D, hD⟩ : ∃ D, delG G M = D := ⟨_, rfl⟩
 have hDn : D nf = some (.box wn [.fn (.func 88) (capsF a b M nf)]) := by rw [← hD, delG_other (fun e => hne e.symm)]; exact hGn
 replace hlt : ∀ n o, D n = some o → n < nx ∧ n ≠ M := fun n o h => by
  have := delG_memo (hD ▸ h)
  exact ⟨hlt0 n o this.2, this.1⟩
 refine aw_forget (setG D M ((gmap Tryz.prog 140 y.1.1 y.1.2))) (fun n o h => memo_back hD hGM h) ?_
 dsimp only
 refine yS fun _ K1 => ?_
 refine yR ?_
 try dsimp only [St.put]
 refine aops_e rfl (e_allocC rfl ?_)
 refine yA rfl rfl ?_
 refine yN ?_
 dsimp only [St.put]
 refine K1 _ ?_
 refine yS fun _ K2 => ?_
 refine yR ?_
 refine yL rfl rfl rfl ?_
 refine aops_n rfl (n_len' rfl rfl (List.length_map _)) ?_
 refine yL rfl rfl rfl ?_
 refine aops_n rfl (n_len' rfl rfl (List.length_map _)) ?_
 refine aops_n rfl (n_add rfl rfl rfl (by omega)) ?_
 refine aops_n rfl (n_add rfl rfl rfl (by omega)) ?_
 refine yA rfl rfl ?_
 refine yN ?_
 dsimp only [St.put]
 refine K2 _ ?_
 refine yS fun _ K3 => ?_
 refine yS fun _ K4 => ?_
 refine yR ?_
 try dsimp only [St.put]
 refine aops_s rfl (s_load_agg' rfl rfl rfl) ?_
 refine yM rfl rfl ?_
 refine yN ?_
 dsimp only [St.put]
 refine K4 _ ?_
 refine aw_forget ((setG (setG D nx (.box 0 (wC (stW a b i k 0).1))) M ((gmap Tryz.prog 140 y.1.1 y.1.2)))) (fun n o h => (setG_swap (by omega) h)) ?_
 dsimp only
 refine aw_block ?_
 refine aw_wipe 21 ?_
 simp only [firsts, getA, Nat.reduceAdd, List.getD_cons_zero, List.getD_cons_succ, List.getD_nil, natBeq, Nat.reduceBEq, cond_true, cond_false]
 refine aw_loopD (X := Nat × Nat × MemoT a b) (fun x => x.1 ≤ 3) (fun x => 3 - x.1) (fun x => [(9, .v (.int .i64 ((stW a b i k x.1).2 : Int))), (11, .any), (12, .any), (20, .v (.int .i64 (x.1 : Int)))]) (fun x G' => (setG (setG D nx (.box x.2.1 (wC (stW a b i k x.1).1))) M ((gmap Tryz.prog 140 x.2.2.1.1 x.2.2.1.2)))) (0, 0, y) rfl ?_ ?_ ?_ ?_ ?_ ?_
 ·exact Nat.zero_le _
 ·exact zF
 ·exact zX
 ·rintro ⟨j, wb, y⟩ hI
  exact (by (try dsimp only); repeat' (first | exact trivial | refine ⟨?_, ?_⟩ | exact .v | exact .any | refine .elem ?_ | exact lst_low _ _ | exact cells_low _ _ | exact val_low _ _ | exact data_low _ (by (try dsimp only); omega) | exact .box (by (try dsimp only); omega) | exact nil_low | exact low_nil | exact gmap_low (knownM_low y.2) | refine set_low ?_ ?_ | exact .arr (by (try dsimp only); omega) | exact .own (by (try dsimp only); omega) | exact .map (by (try dsimp only); omega) | exact flatC_low _ | refine low_cons ?_ ?_ | exact lst_low _ _))
 ·rintro ⟨j, wb, y⟩ hI
  exact (by (repeat' (refine lowG_set ?_ (by (try dsimp only); omega) ?_)); all_goals (first | exact lowG_base zS | (repeat' (first | exact trivial | refine ⟨?_, ?_⟩ | exact .v | exact .any | refine .elem ?_ | exact lst_low _ _ | exact cells_low _ _ | exact val_low _ _ | exact data_low _ (by (try dsimp only); omega) | exact .box (by (try dsimp only); omega) | exact nil_low | exact low_nil | exact gmap_low (knownM_low y.2) | refine set_low ?_ ?_ | exact .arr (by (try dsimp only); omega) | exact .own (by (try dsimp only); omega) | exact .map (by (try dsimp only); omega) | exact flatC_low _ | refine low_cons ?_ ?_ | exact lst_low _ _))))
 rintro ⟨j, wb, y⟩ hI
 dsimp only at hI ⊢
 refine yS fun _ K5 => ?_
 refine yR ?_
 refine aops_n rfl (n_lss rfl rfl rfl) ?_
 refine yN ?_
 dsimp only [St.put]
 refine K5 _ ?_
 refine yS fun _ K6 => ?_
 refine aw_cond rfl (fun hc => ?_) (fun hc => ?_)
 ·replace hc := of_decide_eq_true hc
  have hj3 : j < 3 := by omega
  obtain ⟨ws1, ws2, ws3⟩ := way_step j
  refine aw_skip ?_
  refine K6 _ ?_
  refine yS fun _ K7 => ?_
  refine aw_block ?_
  refine yS fun _ K8 => ?_
  refine yR ?_
  refine aops_n rfl (n_index_arrA rfl rfl rfl rfl hj3 (wcs_at hj3)) ?_
  try dsimp only [St.put]
  refine aops_e rfl (e_allocC rfl ?_)
  try dsimp only [St.put]
  refine aops_e rfl (e_store_all rfl rfl rfl zG rfl rfl (by rfl) ?_)
  refine yN ?_
  dsimp only [St.put]
  refine K8 _ ?_
  refine aw_commitD (i := 11) rfl zG (by first | exact List.cons_ne_nil _ _ | (simp; done) | (simp [putAt]; done)) ?_
  dsimp only
  refine yS fun _ K9 => ?_
  refine aw_wipe 21 ?_
  simp only [firsts, getA, Nat.reduceAdd, List.getD_cons_zero, List.getD_cons_succ, List.getD_nil, natBeq, Nat.reduceBEq, cond_true, cond_false]
  refine aw_cutD (X := Bool) (fun bb => fits a b i k (wayAt j) = !bb) (fun bb => [(38, .v (.bool bb))]) (fun bb G' => G') rfl ?_ (fun _ _ _ _ h => .inl h) ?_ ?_
  ·rintro bb hI
   exact (by (try dsimp only); repeat' (first | exact trivial | refine ⟨?_, ?_⟩ | exact .v | exact .any | refine .elem ?_ | exact lst_low _ _ | exact cells_low _ _ | exact val_low _ _ | exact data_low _ (by (try dsimp only); omega) | exact .box (by (try dsimp only); omega) | exact nil_low | exact low_nil | exact gmap_low (knownM_low y.2) | refine set_low ?_ ?_ | exact .arr (by (try dsimp only); omega) | exact .own (by (try dsimp only); omega) | exact .map (by (try dsimp only); omega) | exact flatC_low _ | refine low_cons ?_ ?_ | exact lst_low _ _))
  ·refine yR ?_
   refine yM rfl rfl ?_
   refine yF rfl rfl rfl rfl ?_
   refine yL rfl rfl rfl ?_
   refine aops_n rfl (n_add rfl rfl rfl (by omega)) ?_
   refine yL rfl rfl rfl ?_
   refine aops_n rfl (n_len' rfl rfl (List.length_map _)) ?_
   refine aops_n rfl (n_gtr rfl rfl rfl) ?_
   refine yM rfl rfl ?_
   refine aops_split (fun hs => ?_) (fun hs => ?_)
   ·have s1 := of_decide_eq_true hs
    refine yK rfl ?_
    refine yK rfl ?_
    refine yK rfl ?_
    refine yK rfl ?_
    refine yK rfl ?_
    refine yK rfl ?_
    refine yK rfl ?_
    refine aops_n rfl (n_pt rfl rfl (by constructor)) ?_
    refine yN ?_
    dsimp only [St.put]
    refine ⟨_, ?_, ⟨⟨rfl, rfl⟩, zF, zB, zN, zX⟩⟩
    first
    | (have q : (a.length : Int) < (i : Int) + ((wayAt j).one : Int) := s1
       unfold fits
       rw [decide_eq_false (by omega)]; rfl)
    | (have q : ¬ (a.length : Int) < (i : Int) + ((wayAt j).one : Int) := s1
       unfold fits
       rw [decide_eq_true (by omega), Bool.true_and, ← decide_not, decide_eq_decide]
       omega)
   have s1 := of_decide_eq_false hs
   refine yM rfl rfl ?_
   refine yF rfl rfl rfl rfl ?_
   refine yL rfl rfl rfl ?_
   refine aops_n rfl (n_add rfl rfl rfl (by omega)) ?_
   refine yL rfl rfl rfl ?_
   refine aops_n rfl (n_len' rfl rfl (List.length_map _)) ?_
   refine aops_n rfl (n_gtr rfl rfl rfl) ?_
   refine aops_n rfl (n_pf rfl rfl (by constructor)) ?_
   refine yN ?_
   dsimp only [St.put]
   refine ⟨_, ?_, ⟨⟨rfl, rfl⟩, zF, zB, zN, zX⟩⟩
   first
   | (have q : (a.length : Int) < (i : Int) + ((wayAt j).one : Int) := s1
      unfold fits
      rw [decide_eq_false (by omega)]; rfl)
   | (have q : ¬ (a.length : Int) < (i : Int) + ((wayAt j).one : Int) := s1
      unfold fits
      rw [decide_eq_true (by omega), Bool.true_and, ← decide_not, decide_eq_decide]
      omega)
  rintro bb hst
  dsimp only at hst ⊢
  refine aw_cond rfl (fun hc => ?_) (fun hc => ?_)
  ·have hfit : fits a b i k (wayAt j) = false := by rw [hst, hc]; rfl
   refine aw_exit ?_
   refine K7 _ ?_
   refine yR ?_
   refine aops_n rfl (n_add rfl rfl rfl (by omega)) ?_
   refine yM rfl rfl ?_
   refine yN ?_
   dsimp only [St.put]
   first
   | (have q : fits a b i k (wayAt j) = false := hfit
      rw [← stW_unfit q]
      exact ⟨(j + 1, wb, y), by (dsimp only; omega), by (dsimp only; omega), ⟨⟨rfl, rfl⟩, zF, zB, zN, zX⟩⟩)
   | (have q : lessW a b i k (wayAt j) (stW a b i k j).2 = true := hless
      have e := stW_yes hfit q
      have e1 : wayAt j = (stW a b i k (j + 1)).1 := by rw [e]
      have e2 : ((fewAt a b (i + (wayAt j).one) (k + (wayAt j).two) : Nat) : Int) = ((stW a b i k (j + 1)).2 : Int) := by rw [e]
      rw [e2, e1]
      exact ⟨(j + 1, wb + 1, y2), by (dsimp only; omega), by (dsimp only; omega), ⟨⟨rfl, rfl⟩, zF, zB, zN, zX⟩⟩)
   | (have q : lessW a b i k (wayAt j) (stW a b i k j).2 = false := hless
      rw [← stW_more q]
      exact ⟨(j + 1, wb, y2), by (dsimp only; omega), by (dsimp only; omega), ⟨⟨rfl, rfl⟩, zF, zB, zN, zX⟩⟩)
  have hfit : fits a b i k (wayAt j) = true := by rw [hst, hc]; rfl
  have hfit2 : i + (wayAt j).one ≤ a.length ∧ k + (wayAt j).two ≤ b.length := by simpa [fits] using hfit
  refine aw_skip ?_
  refine K9 _ ?_
  refine yS fun _ K11 => ?_
  refine yR ?_
  try dsimp only [St.put]
  refine aops_s rfl (s_load_box rfl rfl zG trivial (by first | rfl | assumption)) ?_
  refine yM rfl rfl ?_
  refine yF rfl rfl rfl rfl ?_
  refine yL rfl rfl rfl ?_
  refine aops_n rfl (n_add rfl rfl rfl (by omega)) ?_
  refine yM rfl rfl ?_
  refine yF rfl rfl rfl rfl ?_
  refine yL rfl rfl rfl ?_
  refine aops_n rfl (n_add rfl rfl rfl (by omega)) ?_
  try dsimp only [St.put]
  refine aops_e rfl (e_call_namedX rfl rfl rfl (hF (i + (wayAt j).one) (k + (wayAt j).two) hfit2.1 hfit2.2 (by omega) _ _ wn y ⟨by dsimp only [St.put]; omega, zG, zG, hne⟩) (fun y2 => ?_))
  refine yA rfl rfl ?_
  refine yN ?_
  dsimp only [St.put]
  refine K11 _ ?_
  refine yS fun _ K12 => ?_
  refine yR ?_
  refine yM rfl rfl ?_
  refine yM rfl rfl ?_
  refine aops_n rfl (n_lss rfl rfl rfl) ?_
  refine yN ?_
  dsimp only [St.put]
  refine K12 _ ?_
  refine aw_cond rfl (fun hc => ?_) (fun hc => ?_)
  ·have hless : lessW a b i k (wayAt j) (stW a b i k j).2 = true := by unfold lessW; exact decide_eq_true (by have := of_decide_eq_true hc; omega)
   refine yR ?_
   try dsimp only [St.put]
   refine aops_s rfl (s_load_agg' rfl rfl rfl) ?_
   refine yM rfl rfl ?_
   try dsimp only [St.put]
   refine aops_e rfl (e_store_all rfl rfl rfl zG rfl rfl (by rfl) ?_)
   refine yA rfl rfl ?_
   refine yN ?_
   dsimp only [St.put]
   refine K7 _ ?_
   refine yR ?_
   refine aops_n rfl (n_add rfl rfl rfl (by omega)) ?_
   refine yM rfl rfl ?_
   refine yN ?_
   dsimp only [St.put]
   first
   | (have q : fits a b i k (wayAt j) = false := hfit
      rw [← stW_unfit q]
      exact ⟨(j + 1, wb, y), by (dsimp only; omega), by (dsimp only; omega), ⟨⟨rfl, rfl⟩, zF, zB, zN, zX⟩⟩)
   | (have q : lessW a b i k (wayAt j) (stW a b i k j).2 = true := hless
      have e := stW_yes hfit q
      have e1 : wayAt j = (stW a b i k (j + 1)).1 := by rw [e]
      have e2 : ((fewAt a b (i + (wayAt j).one) (k + (wayAt j).two) : Nat) : Int) = ((stW a b i k (j + 1)).2 : Int) := by rw [e]
      rw [e2, e1]
      exact ⟨(j + 1, wb + 1, y2), by (dsimp only; omega), by (dsimp only; omega), ⟨⟨rfl, rfl⟩, zF, zB, zN, zX⟩⟩)
   | (have q : lessW a b i k (wayAt j) (stW a b i k j).2 = false := hless
      rw [← stW_more q]
      exact ⟨(j + 1, wb, y2), by (dsimp only; omega), by (dsimp only; omega), ⟨⟨rfl, rfl⟩, zF, zB, zN, zX⟩⟩)
  have hless : lessW a b i k (wayAt j) (stW a b i k j).2 = false := by unfold lessW; exact decide_eq_false (by have := of_decide_eq_false hc; omega)
  refine aw_skip ?_
  refine K7 _ ?_
  refine yR ?_
  refine aops_n rfl (n_add rfl rfl rfl (by omega)) ?_
  refine yM rfl rfl ?_
  refine yN ?_
  dsimp only [St.put]
  first
  | (have q : fits a b i k (wayAt j) = false := hfit
     rw [← stW_unfit q]
     exact ⟨(j + 1, wb, y), by (dsimp only; omega), by (dsimp only; omega), ⟨⟨rfl, rfl⟩, zF, zB, zN, zX⟩⟩)
  | (have q : lessW a b i k (wayAt j) (stW a b i k j).2 = true := hless
     have e := stW_yes hfit q
     have e1 : wayAt j = (stW a b i k (j + 1)).1 := by rw [e]
     have e2 : ((fewAt a b (i + (wayAt j).one) (k + (wayAt j).two) : Nat) : Int) = ((stW a b i k (j + 1)).2 : Int) := by rw [e]
     rw [e2, e1]
     exact ⟨(j + 1, wb + 1, y2), by (dsimp only; omega), by (dsimp only; omega), ⟨⟨rfl, rfl⟩, zF, zB, zN, zX⟩⟩)
  | (have q : lessW a b i k (wayAt j) (stW a b i k j).2 = false := hless
     rw [← stW_more q]
     exact ⟨(j + 1, wb, y2), by (dsimp only; omega), by (dsimp only; omega), ⟨⟨rfl, rfl⟩, zF, zB, zN, zX⟩⟩)
 replace hc := of_decide_eq_false hc
 have hj3 : j = 3 := by omega
 refine aw_exit ?_
 refine K3 _ ?_
 refine yS fun _ K13 => ?_
 refine yR ?_
 try dsimp only [St.put]
 refine aops_s rfl (s_load_box_all rfl rfl zG trivial (by rfl)) ?_
 refine yM rfl rfl ?_
 try dsimp only [St.put]
 refine aops_e rfl (e_store_all rfl rfl rfl zG rfl rfl (by rfl) ?_)
 refine yA rfl rfl ?_
 refine yN ?_
 dsimp only [St.put]
 refine K13 _ ?_
 refine aw_ret ?_
 refine ⟨y, ?_⟩
 refine ends_v2 rfl (rv_box rfl zG (by rfl) (by first | exact List.cons_ne_nil _ _ | (simp; done) | (simp [putAt]; done)) rfl) (rv_tmp (by constructor)) zN (fun n o h => memo_out hD h zG zS) ?_ ?_
 ·rw [hj3]; exact Wk.refl _
 rw [hj3]; exact Wk.refl _
theorem fewest_at (a b : List ByteArray) (ha : a.length ≤ 1000) (hb : b.length ≤ 1000) (M nf i k : Nat) (hi : i ≤ a.length) (hk : k ≤ b.length) (hF : ∀ i' k', i' ≤ a.length → k' ≤ b.length → (a.length - i') + (b.length - k') < (a.length - i) + (b.length - k) → FewAt a b M nf i' k') : FewAt a b M nf i k := fun G nx wn y ⟨⟨hM, hn⟩, hGn, hGM, hne⟩ => by
 have hN := next_at a b ha hb M nf i k hi hk hF
 refine pc_namedX_of_body (fun (y : MemoT a b) => setG G M ((gmap Tryz.prog 140 y.1.1 y.1.2))) (nx) Tryz.func88 rfl (.v) zN (fun hlt y => (by (repeat' (refine lowG_set ?_ (by (try dsimp only); omega) ?_)); all_goals (first | exact lowG_base zS | (repeat' (first | exact trivial | refine ⟨?_, ?_⟩ | exact .v | exact .any | refine .elem ?_ | exact lst_low _ _ | exact cells_low _ _ | exact val_low _ _ | exact data_low _ (by (try dsimp only); omega) | exact .box (by (try dsimp only); omega) | exact nil_low | exact low_nil | exact gmap_low (knownM_low y.2) | refine set_low ?_ ?_ | exact .arr (by (try dsimp only); omega) | exact .own (by (try dsimp only); omega) | exact .map (by (try dsimp only); omega) | exact flatC_low _ | refine low_cons ?_ ?_ | exact lst_low _ _))))) ?_
 simp only [Tryz.ntmps88, List.length_cons, List.length_nil, Nat.reduceAdd, Nat.reduceSub]
 refine aw_lt fun hlt => ?_
 dsimp only at hlt
 have hw0 := fewAt_le a b i k
 have hlt0 := hlt
 obtain ⟨D, hD⟩ : ∃ D, delG G M = D := ⟨_, rfl⟩
 have hDn : D nf = some (.box wn [.fn (.func 88) (capsF a b M nf)]) := by rw [← hD, delG_other (fun e => hne e.symm)]; exact hGn
 replace hlt : ∀ n o, D n = some o → n < nx ∧ n ≠ M := fun n o h => by
  have := delG_memo (hD ▸ h)
  exact ⟨hlt0 n o this.2, this.1⟩
 refine aw_forget (setG D M ((gmap Tryz.prog 140 y.1.1 y.1.2))) (fun n o h => memo_back hD hGM h) ?_
 dsimp only
 obtain ⟨oc, hoc⟩ : ∃ oc, y.1.2 ((i : Int), (k : Int)) = oc := ⟨_, rfl⟩
 have hstep : sameW a b i k = true → fewAt a b i k = fewAt a b (i + 1) (k + 1) := fun h => by
  simp only [sameW, Bool.and_eq_true, decide_eq_true_eq] at h
  obtain ⟨x, hx⟩ : ∃ x, a[i]? = some x := some_of_lt h.1.1
  exact fewAt_same hx (h.2 ▸ hx)
 have hcase : oc = none ∨ oc = some (.v (.int .i64 (fewAt a b i k))) := by
  cases h : oc with
  | none => exact .inl rfl
  | some c => rw [h] at hoc; rw [knownM_get y.2 hoc]; exact .inr rfl
 refine yS fun _ K1 => ?_
 refine yR ?_
 refine yA rfl rfl ?_
 refine yN ?_
 dsimp only [St.put]
 refine K1 _ ?_
 refine yS fun _ K2 => ?_
 refine yS fun _ K3 => ?_
 refine yR ?_
 refine yL rfl rfl rfl ?_
 refine yM rfl rfl ?_
 refine yM rfl rfl ?_
 refine aops_n rfl (n_buildA rfl rfl) ?_
 try dsimp only [St.put]
 refine aops_s rfl (s_lookupOk' (α := Int × Int) ((i : Int), (k : Int)) rfl rfl (setG_same _ _ _) trivial rfl (c := .v (.int .i64 ((oc.map fun _ => fewAt a b i k).getD 0 : Nat))) (b := oc.isSome) (by rcases hcase with e | e <;> (rw [hoc, e] <;> rfl)) (by rcases hcase with e | e <;> (rw [hoc, e] <;> rfl))) ?_
 refine yM rfl rfl ?_
 refine yX rfl rfl rfl rfl ?_
 refine yX rfl rfl rfl rfl ?_
 refine yA rfl rfl ?_
 refine yA rfl rfl ?_
 refine yN ?_
 dsimp only [St.put]
 refine K3 _ ?_
 refine yS fun _ K4 => ?_
 refine yR ?_
 refine yM rfl rfl ?_
 refine yN ?_
 dsimp only [St.put]
 refine K4 _ ?_
 refine aw_cond rfl (fun hc => ?_) (fun hc => ?_)
 ·have hsm : oc = some (.v (.int .i64 (fewAt a b i k))) := by
   rcases hcase with e | e
   ·rw [e] at hc; cases hc
   exact e
  refine yS fun _ K5 => ?_
  refine yR ?_
  refine yM rfl rfl ?_
  refine yA rfl rfl ?_
  refine yN ?_
  dsimp only [St.put]
  refine K5 _ ?_
  refine aw_ret ?_
  refine ⟨y, ?_⟩
  refine ends_1 rfl (by constructor) zN (fun n o h => memo_out hD h zG zS) ?_
  rw [hsm]; rfl
 try replace hc := of_decide_eq_false hc
 refine aw_skip ?_
 refine K2 _ ?_
 refine yS fun _ K6 => ?_
 refine yR ?_
 refine yA rfl rfl ?_
 refine yN ?_
 dsimp only [St.put]
 refine K6 _ ?_
 refine aw_wipe 15 ?_
 simp only [firsts, getA, Nat.reduceAdd, List.getD_cons_zero, List.getD_cons_succ, List.getD_nil, natBeq, Nat.reduceBEq, cond_true, cond_false]
 refine aw_cutD (X := MemoT a b) (fun y2 => True) (fun y2 => [(12, .v (.int .i64 (fewAt a b i k : Int))), (13, .any), (14, .any)]) (fun y2 G' => setG D M ((gmap Tryz.prog 140 y2.1.1 y2.1.2))) rfl ?_ ?_ ?_ ?_
 ·rintro y2 hI
  exact zL
 ·rintro y2 hI
  exact (by (repeat' (refine lowG_set ?_ (by (try dsimp only); omega) ?_)); all_goals (first | exact lowG_base zS | (repeat' (first | exact trivial | refine ⟨?_, ?_⟩ | exact .v | exact .any | refine .elem ?_ | exact lst_low _ _ | exact cells_low _ _ | exact val_low _ _ | exact data_low _ (by (try dsimp only); omega) | exact .box (by (try dsimp only); omega) | exact nil_low | exact low_nil | exact gmap_low (knownM_low y2.2) | refine set_low ?_ ?_ | exact .arr (by (try dsimp only); omega) | exact .own (by (try dsimp only); omega) | exact .map (by (try dsimp only); omega) | exact flatC_low _ | refine low_cons ?_ ?_ | exact lst_low _ _))))
 ·refine aw_block ?_
  refine aw_wipe 15 ?_
  simp only [firsts, getA, Nat.reduceAdd, List.getD_cons_zero, List.getD_cons_succ, List.getD_nil, natBeq, Nat.reduceBEq, cond_true, cond_false]
  refine aw_cutD (X := Bool) (fun bb => moreW a b i k = !bb) (fun bb => [(34, .v (.bool bb))]) (fun bb G' => G') rfl ?_ (fun _ _ _ _ h => .inl h) ?_ ?_
  ·rintro bb hI
   exact zL
  ·refine yR ?_
   refine yM rfl rfl ?_
   refine yL rfl rfl rfl ?_
   refine aops_n rfl (n_len' rfl rfl (List.length_map _)) ?_
   refine aops_n rfl (n_eql rfl rfl rfl) ?_
   refine yM rfl rfl ?_
   refine aops_split (fun hs => ?_) (fun hs => ?_)
   ·have s1 := of_decide_eq_true hs
    refine yM rfl rfl ?_
    refine yL rfl rfl rfl ?_
    refine aops_n rfl (n_len' rfl rfl (List.length_map _)) ?_
    refine aops_n rfl (n_eql rfl rfl rfl) ?_
    refine aops_n rfl (n_pt rfl rfl (by constructor)) ?_
    refine yA rfl rfl ?_
    refine yN ?_
    dsimp only [St.put]
    refine ⟨_, ?_, ⟨⟨rfl, rfl⟩, zF, zB, zN, zX⟩⟩
    unfold moreW
    first
    | (have q : (i : Int) = (a.length : Int) := s1
       rw [decide_eq_false (show ¬ i < a.length by omega), Bool.false_or, ← decide_not, decide_eq_decide]
       omega)
    | (have q : ¬ (i : Int) = (a.length : Int) := s1
       rw [decide_eq_true (show i < a.length by omega)]; rfl)
   have s1 := of_decide_eq_false hs
   refine yK rfl ?_
   refine yK rfl ?_
   refine yK rfl ?_
   refine yK rfl ?_
   refine aops_n rfl (n_pf rfl rfl (by constructor)) ?_
   refine yA rfl rfl ?_
   refine yN ?_
   dsimp only [St.put]
   refine ⟨_, ?_, ⟨⟨rfl, rfl⟩, zF, zB, zN, zX⟩⟩
   unfold moreW
   first
   | (have q : (i : Int) = (a.length : Int) := s1
      rw [decide_eq_false (show ¬ i < a.length by omega), Bool.false_or, ← decide_not, decide_eq_decide]
      omega)
   | (have q : ¬ (i : Int) = (a.length : Int) := s1
      rw [decide_eq_true (show i < a.length by omega)]; rfl)
  rintro bb hst
  dsimp only at hst ⊢
  refine aw_cond rfl (fun hc => ?_) (fun hc => ?_)
  ·have hmore : moreW a b i k = false := by rw [hst, hc]; rfl
   refine aw_skip ?_
   first
   | (have q : moreW a b i k = false := hmore
      rw [show fewAt a b i k = 0 by
       unfold moreW at q
       simp only [Bool.or_eq_false_iff, decide_eq_false_iff_not] at q
       rw [fewAt_end (by omega)]; omega]
      exact ⟨y, trivial, ⟨⟨rfl, rfl⟩, zF, zB, zN, zX⟩⟩)
   | (have q : sameW a b i k = true := hsame
      rw [hstep q]
      exact ⟨y3, trivial, ⟨⟨rfl, rfl⟩, zF, zB, zN, zX⟩⟩)
   | (have q : sameW a b i k = false := hsame
      rw [hbw]
      exact ⟨y3, trivial, ⟨⟨rfl, rfl⟩, zF, zB, zN, zX⟩⟩)
  have hmore : moreW a b i k = true := by rw [hst, hc]; rfl
  refine aw_wipe 15 ?_
  simp only [firsts, getA, Nat.reduceAdd, List.getD_cons_zero, List.getD_cons_succ, List.getD_nil, natBeq, Nat.reduceBEq, cond_true, cond_false]
  refine aw_cutD (X := Bool) (fun cc => sameW a b i k = cc) (fun cc => [(45, .v (.bool cc))]) (fun cc G' => G') rfl ?_ (fun _ _ _ _ h => .inl h) ?_ ?_
  ·rintro cc hI
   exact zL
  ·refine aw_draw [(0, none), (1, none), (2, none), (3, none), (4, none), (5, none), (6, none), (7, none), (8, none), (9, none), (10, none), (11, none), (12, none), (13, none), (14, none), (15, none), (16, none), (17, none), (18, none), (19, none), (20, none), (21, none)] (fun i => [].contains i) (fun i => [].contains i) (fun i => [0, 2, 3, 4, 5, 7, 8, 9, 10, 12, 13, 16, 17, 19, 20, 21].contains i) [] (by kernel_rfl) (by kernel_rfl) ?_
   refine xM rfl rfl rfl rfl rfl ?_
   try dsimp only [St.put]
   refine acan1_s rfl rfl rfl rfl (s_load rfl rfl) ?_
   refine acan1_n rfl rfl rfl rfl (n_len' rfl rfl (List.length_map _)) ?_
   refine acan1_n rfl rfl rfl rfl (n_lss rfl rfl rfl) ?_
   refine xM rfl rfl rfl rfl rfl ?_
   refine acan1_split (fun hs => ?_) (fun hs => ?_)
   ·have s1 := of_decide_eq_true hs
    obtain ⟨x, hx⟩ : ∃ x, a[i]? = some x := some_of_lt (by omega)
    refine xM rfl rfl rfl rfl rfl ?_
    try dsimp only [St.put]
    refine acan1_s rfl rfl rfl rfl (s_load rfl rfl) ?_
    refine acan1_n rfl rfl rfl rfl (n_len' rfl rfl (List.length_map _)) ?_
    refine acan1_n rfl rfl rfl rfl (n_lss rfl rfl rfl) ?_
    refine acan1_n rfl rfl rfl rfl (n_pt rfl rfl (by constructor)) ?_
    refine xM rfl rfl rfl rfl rfl ?_
    refine acan1_split (fun hs => ?_) (fun hs => ?_)
    ·have s2 := of_decide_eq_true hs
     obtain ⟨z, hz⟩ : ∃ z, b[k]? = some z := some_of_lt (by omega)
     try dsimp only [St.put]
     refine acan1_s rfl rfl rfl rfl (s_load rfl rfl) ?_
     refine xM rfl rfl rfl rfl rfl ?_
     try dsimp only [St.put]
     refine acan1_n rfl rfl rfl rfl (n_indexAddr rfl rfl rfl rfl (map_get (by assumption)) (Enc.len _)) ?_
     try dsimp only [St.put]
     refine acan1_s rfl rfl rfl rfl (s_load rfl rfl) ?_
     try dsimp only [St.put]
     refine acan1_s rfl rfl rfl rfl (s_load rfl rfl) ?_
     refine xM rfl rfl rfl rfl rfl ?_
     try dsimp only [St.put]
     refine acan1_n rfl rfl rfl rfl (n_indexAddr rfl rfl rfl rfl (map_get (by assumption)) (Enc.len _)) ?_
     try dsimp only [St.put]
     refine acan1_s rfl rfl rfl rfl (s_load rfl rfl) ?_
     refine acan1_n rfl rfl rfl rfl (n_streq rfl rfl rfl) ?_
     refine acan1_n rfl rfl rfl rfl (n_pt rfl rfl (by constructor)) ?_
     refine acan1_n rfl rfl rfl rfl (n_as rfl (by constructor)) ?_
     refine acan1_nil ?_
     dsimp only [St.put]
     refine ⟨_, ?_, ⟨⟨rfl, rfl⟩, zF, zB, zN, zX⟩⟩
     unfold sameW
     first
     | (have q : ¬ (i : Int) < (a.length : Int) := s1
        rw [decide_eq_false (show ¬ i < a.length by omega)]; rfl)
     | (have q : ¬ (k : Int) < (b.length : Int) := s2
        rw [decide_eq_false (show ¬ k < b.length by omega), Bool.and_false]; rfl)
     | (rw [decide_eq_true (show i < a.length by omega), decide_eq_true (show k < b.length by omega), hx, hz]
        simp)
    have s2 := of_decide_eq_false hs
    refine acan1_skip rfl rfl rfl ?_
    refine acan1_skip rfl rfl rfl ?_
    refine acan1_skip rfl rfl rfl ?_
    refine acan1_skip rfl rfl rfl ?_
    refine acan1_skip rfl rfl rfl ?_
    refine acan1_skip rfl rfl rfl ?_
    refine acan1_skip rfl rfl rfl ?_
    refine acan1_skip rfl rfl rfl ?_
    refine acan1_skip rfl rfl rfl ?_
    refine acan1_n rfl rfl rfl rfl (n_pf rfl rfl (by constructor)) ?_
    refine acan1_n rfl rfl rfl rfl (n_as rfl (by constructor)) ?_
    refine acan1_nil ?_
    dsimp only [St.put]
    refine ⟨_, ?_, ⟨⟨rfl, rfl⟩, zF, zB, zN, zX⟩⟩
    unfold sameW
    first
    | (have q : ¬ (i : Int) < (a.length : Int) := s1
       rw [decide_eq_false (show ¬ i < a.length by omega)]; rfl)
    | (have q : ¬ (k : Int) < (b.length : Int) := s2
       rw [decide_eq_false (show ¬ k < b.length by omega), Bool.and_false]; rfl)
    | (rw [decide_eq_true (show i < a.length by omega), decide_eq_true (show k < b.length by omega), hx, hz]
       simp)
   have s1 := of_decide_eq_false hs
   refine acan1_skip rfl rfl rfl ?_
   refine acan1_skip rfl rfl rfl ?_
   refine acan1_skip rfl rfl rfl ?_
   refine acan1_skip rfl rfl rfl ?_
   refine acan1_n rfl rfl rfl rfl (n_pf rfl rfl (by constructor)) ?_
   refine xM rfl rfl rfl rfl rfl ?_
   refine acan1_skip rfl rfl rfl ?_
   refine acan1_skip rfl rfl rfl ?_
   refine acan1_skip rfl rfl rfl ?_
   refine acan1_skip rfl rfl rfl ?_
   refine acan1_skip rfl rfl rfl ?_
   refine acan1_skip rfl rfl rfl ?_
   refine acan1_skip rfl rfl rfl ?_
   refine acan1_skip rfl rfl rfl ?_
   refine acan1_skip rfl rfl rfl ?_
   refine acan1_n rfl rfl rfl rfl (n_pf rfl rfl (by constructor)) ?_
   refine acan1_n rfl rfl rfl rfl (n_as rfl (by constructor)) ?_
   refine acan1_nil ?_
   dsimp only [St.put]
   refine ⟨_, ?_, ⟨⟨rfl, rfl⟩, zF, zB, zN, zX⟩⟩
   unfold sameW
   first
   | (have q : ¬ (i : Int) < (a.length : Int) := s1
      rw [decide_eq_false (show ¬ i < a.length by omega)]; rfl)
   | (have q : ¬ (k : Int) < (b.length : Int) := s2
      rw [decide_eq_false (show ¬ k < b.length by omega), Bool.and_false]; rfl)
   | (rw [decide_eq_true (show i < a.length by omega), decide_eq_true (show k < b.length by omega), hx, hz]
      simp)
  rintro cc hst8
  dsimp only at hst8 ⊢
  refine aw_cond rfl (fun hc => ?_) (fun hc => ?_)
  ·have hsame : sameW a b i k = true := by rw [hst8, hc]
   have hik : i < a.length ∧ k < b.length := by simp [sameW] at hsame; omega
   refine yR ?_
   try dsimp only [St.put]
   refine aops_s rfl (s_load_box rfl rfl zG trivial (by first | rfl | assumption)) ?_
   refine yM rfl rfl ?_
   refine aops_n rfl (n_add rfl rfl rfl (by omega)) ?_
   refine yM rfl rfl ?_
   refine aops_n rfl (n_add rfl rfl rfl (by omega)) ?_
   try dsimp only [St.put]
   refine aops_e rfl (e_call_namedX rfl rfl rfl (hF (i + 1) (k + 1) (by omega) (by omega) (by omega) _ _ wn y ⟨by dsimp only [St.put]; omega, zG, zG, hne⟩) (fun y3 => ?_))
   refine yA rfl rfl ?_
   refine yN ?_
   dsimp only [St.put]
   first
   | (have q : moreW a b i k = false := hmore
      rw [show fewAt a b i k = 0 by
       unfold moreW at q
       simp only [Bool.or_eq_false_iff, decide_eq_false_iff_not] at q
       rw [fewAt_end (by omega)]; omega]
      exact ⟨y, trivial, ⟨⟨rfl, rfl⟩, zF, zB, zN, zX⟩⟩)
   | (have q : sameW a b i k = true := hsame
      rw [hstep q]
      exact ⟨y3, trivial, ⟨⟨rfl, rfl⟩, zF, zB, zN, zX⟩⟩)
   | (have q : sameW a b i k = false := hsame
      rw [hbw]
      exact ⟨y3, trivial, ⟨⟨rfl, rfl⟩, zF, zB, zN, zX⟩⟩)
  have hsame : sameW a b i k = false := by rw [hst8, hc]
  have hbw := bestW_few hsame hmore hi hk
  refine yS fun _ K10 => ?_
  refine yR ?_
  refine yL rfl rfl rfl ?_
  refine yM rfl rfl ?_
  refine yM rfl rfl ?_
  try dsimp only [St.put]
  refine aops_e rfl (e_call_namedX rfl rfl rfl (hN _ _ wn y ⟨by dsimp only [St.put]; omega, zG, zG, hne⟩) (fun y3 => ?_))
  refine yM rfl rfl ?_
  refine yX rfl rfl rfl rfl ?_
  refine yX rfl rfl rfl rfl ?_
  try dsimp only [St.put]
  refine aops_e rfl (e_allocC rfl ?_)
  try dsimp only [St.put]
  refine aops_e rfl (e_store_all rfl rfl rfl zG rfl rfl (by rfl) ?_)
  refine yA rfl rfl ?_
  refine yN ?_
  dsimp only [St.put]
  refine K10 _ ?_
  refine yR ?_
  refine yM rfl rfl ?_
  refine aops_n rfl (n_add rfl rfl rfl (by omega)) ?_
  refine yA rfl rfl ?_
  refine yN ?_
  dsimp only [St.put]
  first
  | (have q : moreW a b i k = false := hmore
     rw [show fewAt a b i k = 0 by
      unfold moreW at q
      simp only [Bool.or_eq_false_iff, decide_eq_false_iff_not] at q
      rw [fewAt_end (by omega)]; omega]
     exact ⟨y, trivial, ⟨⟨rfl, rfl⟩, zF, zB, zN, zX⟩⟩)
  | (have q : sameW a b i k = true := hsame
     rw [hstep q]
     exact ⟨y3, trivial, ⟨⟨rfl, rfl⟩, zF, zB, zN, zX⟩⟩)
  | (have q : sameW a b i k = false := hsame
     rw [hbw]
     exact ⟨y3, trivial, ⟨⟨rfl, rfl⟩, zF, zB, zN, zX⟩⟩)
 rintro y2 hI
 dsimp only at hI ⊢
 refine yS fun _ K11 => ?_
 refine yR ?_
 refine yL rfl rfl rfl ?_
 refine yM rfl rfl ?_
 refine yM rfl rfl ?_
 refine aops_n rfl (n_buildA rfl rfl) ?_
 refine yM rfl rfl ?_
 try dsimp only [St.put]
 refine aops_e rfl (e_mapUpdate (α := Int × Int) ((i : Int), (k : Int)) rfl rfl rfl (setG_same _ _ _) rfl rfl ?_)
 refine yN ?_
 dsimp only [St.put]
 refine K11 _ ?_
 refine yS fun _ K12 => ?_
 refine yR ?_
 refine yM rfl rfl ?_
 refine yA rfl rfl ?_
 refine yN ?_
 dsimp only [St.put]
 refine K12 _ ?_
 refine aw_ret ?_
 refine ⟨⟨(y2.1.1 + 1, mset y2.1.2 ((i : Int), (k : Int)) (.v (.int .i64 (fewAt a b i k : Int)))), knownM_set y2.2 i k⟩, ?_⟩
 refine ends_1 rfl (by constructor) zN (fun n o h => memo_out hD h zG zS) ?_
 rfl
end Go.Proofs.YtejhjijbgceklaaGreatDoor
namespace Go.AB
open Go Go.RowKit
open Go.AB.Enc (cells)
open Go.PB (Chap TextD PlaceD ReadingD CopyD WayD)
def memo0 (a b : List ByteArray) : MemoT a b := ⟨(0, fun _ => none), knownM_nil a b⟩
theorem best_word {a b : List ByteArray} {i k : Nat} (hs : sameW a b i k = false) (hm : moreW a b i k = true) (hi : i ≤ a.length) (hk : k ≤ b.length) : ((bestW a b i k).1.two = 1 → ∃ s, b[k]? = some s ∧ wordAt b k (bestW a b i k).1 = s) ∧ ((bestW a b i k).1.two ≠ 1 → wordAt b k (bestW a b i k).1 = ByteArray.empty) := by
 obtain ⟨_, _, _, _, hf, _⟩ := bestW_fits hs hm hi hk
 refine ⟨fun h => ?_, fun h => by unfold wordAt; rw [if_neg h]⟩
 have hlt : k < b.length := by omega
 exact ⟨b[k], List.getElem?_eq_getElem hlt, by unfold wordAt; rw [if_pos h, List.getElem?_eq_getElem hlt]; rfl⟩
theorem textEr_bad {t : TextD} (h : (!decide (textEr t = 0)) = true) : textB t = false := by
 cases h2 : textB t
 ·rfl
 rw [textEr, h2] at h; simp at h
theorem textEr_good {t : TextD} (h : (!decide (textEr t = 0)) = false) : textB t = true := by
 cases h2 : textB t
 ·rw [textEr, h2] at h; simp at h
 rfl
end Go.AB
namespace Go.Proofs.YtejhjijbgceklaaGreatDoor
set_option maxRecDepth 10000
open Go Go.RowKit Go.AB
open Go.AB.Enc (cells)
open Go.PB (Chap TextD PlaceD ReadingD CopyD WayD)
theorem capsN_low {a b : List ByteArray} {f : Fn} {nf N : Nat} (hn : nf < N) : C.low N (.fn f (capsN a b nf)) :=
 .fn (low_cons (.elem (low_cons (lst_low _ _) low_nil)) (low_cons (.elem (low_cons (lst_low _ _) low_nil)) (low_cons (.elem (by intro c hc; simp only [wcs, List.mem_cons, List.not_mem_nil, or_false] at hc; rcases hc with rfl | rfl | rfl | rfl | rfl | rfl | rfl | rfl | rfl <;> exact .v)) (low_cons (.box hn) low_nil))))
theorem capsF_low {a b : List ByteArray} {f : Fn} {M nf N : Nat} (hM : M < N) (hn : nf < N) : C.low N (.fn f (capsF a b M nf)) :=
 .fn (low_cons (.elem (low_cons (.map hM) low_nil)) (low_cons (.elem (low_cons (lst_low _ _) low_nil)) (low_cons (.elem (low_cons (lst_low _ _) low_nil)) (low_cons (.box hn) (low_cons (.elem (low_cons (capsN_low hn) low_nil)) low_nil)))))
theorem few_all (a b : List ByteArray) (ha : a.length ≤ 1000) (hb : b.length ≤ 1000) (M nf : Nat) : ∀ (d i k : Nat), i ≤ a.length → k ≤ b.length → (a.length - i) + (b.length - k) < d → FewAt a b M nf i k
 | 0, i, k, _, _, h => absurd h (Nat.not_lt_zero _)
 | d + 1, i, k, hi, hk, h => fewest_at a b ha hb M nf i k hi hk fun i' k' hi' hk' h' => few_all a b ha hb M nf d i' k' hi' hk' (by omega)
theorem next_all (a b : List ByteArray) (ha : a.length ≤ 1000) (hb : b.length ≤ 1000) (M nf i k : Nat) (hi : i ≤ a.length) (hk : k ≤ b.length) : NextAt a b M nf i k :=
 next_at a b ha hb M nf i k hi hk fun i' k' hi' hk' _ => few_all a b ha hb M nf _ i' k' hi' hk' (Nat.lt_succ_self _)
set_option maxHeartbeats 4000000 in
theorem leafReadings_pure (a b : List ByteArray) (ha : a.length ≤ 1000) (hb : b.length ≤ 1000) (p : PlaceD) : Pure Tryz.prog 74 [lst a, lst b, val p] (lst (edits a b p.ch p.ln 0 0)) := by
 refine pure_of_body Tryz.func74 rfl (fun m => (lst_low _ _)) fun G nx => ?_
 simp only [Tryz.ntmps74, List.length_cons, List.length_nil, Nat.reduceAdd, Nat.reduceSub]
 refine aw_lt fun hlt => ?_
 dsimp only at hlt
 refine yS fun _ K1 => ?_
 refine yR ?_
 try dsimp only [St.put]
 refine yB rfl rfl rfl ?_
 try dsimp only [St.put]
 refine yB rfl rfl rfl ?_
 try dsimp only [St.put]
 refine yB rfl rfl rfl ?_
 refine yA rfl rfl ?_
 refine yN ?_
 dsimp only [St.put]
 refine K1 _ ?_
 refine yS fun _ K2 => ?_
 refine yR ?_
 refine aops_n rfl (n_build rfl rfl) ?_
 refine aops_n rfl (n_build rfl rfl) ?_
 refine aops_n rfl (n_build rfl rfl) ?_
 refine aops_n rfl (n_buildA rfl rfl) ?_
 try dsimp only [St.put]
 refine aops_e rfl (e_allocC rfl ?_)
 try dsimp only [St.put]
 refine aops_e rfl (e_store_all rfl rfl rfl zG rfl rfl (by rfl) ?_)
 refine yN ?_
 dsimp only [St.put]
 refine K2 _ ?_
 refine aw_commitD (i := 7) rfl zG (by first | exact List.cons_ne_nil _ _ | (simp; done) | (simp [putAt]; done)) ?_
 dsimp only
 refine yS fun _ K3 => ?_
 refine yR ?_
 try dsimp only [St.put]
 refine aops_e rfl (e_makeMap (α := Int × Int) rfl ?_)
 try dsimp only [St.put]
 refine aops_e rfl (e_allocC rfl ?_)
 try dsimp only [St.put]
 refine aops_e rfl (e_store_all rfl rfl rfl zG rfl rfl (by rfl) ?_)
 refine yN ?_
 dsimp only [St.put]
 refine K3 _ ?_
 refine aw_commitD (i := 8) rfl zG (by first | exact List.cons_ne_nil _ _ | (simp; done) | (simp [putAt]; done)) ?_
 dsimp only
 refine yS fun _ K4 => ?_
 refine yR ?_
 try dsimp only [St.put]
 refine aops_e rfl (e_allocC rfl ?_)
 refine yN ?_
 dsimp only [St.put]
 refine K4 _ ?_
 refine yS fun _ K5 => ?_
 refine yR ?_
 refine aops_n rfl (n_makeFunc rfl rfl) ?_
 try dsimp only [St.put]
 refine aops_e rfl (e_allocC rfl ?_)
 try dsimp only [St.put]
 refine aops_e rfl (e_store_all rfl rfl rfl zG rfl rfl (by rfl) ?_)
 refine yN ?_
 dsimp only [St.put]
 refine K5 _ ?_
 refine aw_commitD (i := 10) rfl zG (by first | exact List.cons_ne_nil _ _ | (simp; done) | (simp [putAt]; done)) ?_
 dsimp only
 refine yS fun _ K6 => ?_
 refine yR ?_
 refine aops_n rfl (n_makeFunc rfl rfl) ?_
 try dsimp only [St.put]
 refine aops_e rfl (e_store_all rfl rfl rfl zG rfl rfl (by rfl) ?_)
 refine yN ?_
 dsimp only [St.put]
 refine K6 _ ?_
 refine aw_wipe 12 ?_
 simp only [firsts, getA, Nat.reduceAdd, List.getD_cons_zero, List.getD_cons_succ, List.getD_nil, natBeq, Nat.reduceBEq, cond_true, cond_false]
 refine aw_cutD (X := Unit) (fun _ => True) (fun _ => [(3, .elem [lst a]), (4, .elem [lst b]), (5, .elem (cells p)), (7, .elem wcs), (8, .elem [.map (nx + 1)]), (9, .box (nx + 1 + 1 + 1) 0 0), (10, .elem [.fn (.func 87) (capsN a b (nx + 1 + 1 + 1))]), (11, .list [] .nil)]) (fun _ G' => (setG (setG G (nx + 1) ((gmap Tryz.prog 140 (((memo0 a b))).1.1 (((memo0 a b))).1.2))) (nx + 1 + 1 + 1) (.box 1 [.fn (.func 88) (capsF a b (nx + 1) (nx + 1 + 1 + 1))]))) rfl ?_ ?_ ?_ ?_
 ·rintro _ hI
  exact (by (try dsimp only); repeat' (first | exact trivial | refine ⟨?_, ?_⟩ | exact .v | exact .any | refine .elem ?_ | exact lst_low _ _ | exact cells_low _ _ | exact val_low _ _ | exact data_low _ (by (try dsimp only); omega) | exact .box (by (try dsimp only); omega) | exact nil_low | exact low_nil | exact capsN_low (show nx + 1 + 1 + 1 < nx + 1 + 1 + 1 + 1 + 1 by omega) | refine set_low ?_ ?_ | exact .arr (by (try dsimp only); omega) | exact .own (by (try dsimp only); omega) | exact .map (by (try dsimp only); omega) | exact flatC_low _ | refine low_cons ?_ ?_ | exact lst_low _ _))
 ·rintro _ hI
  exact (by (repeat' (refine lowG_set ?_ (by (try dsimp only); omega) ?_)); all_goals (first | exact lowG_base zS | (repeat' (first | exact trivial | refine ⟨?_, ?_⟩ | exact .v | exact .any | refine .elem ?_ | exact lst_low _ _ | exact cells_low _ _ | exact val_low _ _ | exact data_low _ (by (try dsimp only); omega) | exact .box (by (try dsimp only); omega) | exact nil_low | exact low_nil | exact gmap_low (knownM_low (knownM_nil a b)) | exact capsF_low (show nx + 1 < nx + 1 + 1 + 1 + 1 + 1 by omega) (show nx + 1 + 1 + 1 < nx + 1 + 1 + 1 + 1 + 1 by omega) | refine set_low ?_ ?_ | exact .arr (by (try dsimp only); omega) | exact .own (by (try dsimp only); omega) | exact .map (by (try dsimp only); omega) | exact flatC_low _ | refine low_cons ?_ ?_ | exact lst_low _ _))))
 ·refine yR ?_
  refine yA rfl rfl ?_
  refine yN ?_
  dsimp only [St.put]
  exact ⟨(), trivial, ⟨⟨rfl, rfl⟩, zF, zB, zN, zX⟩⟩
 rintro _ hI
 dsimp only at hI ⊢
 refine aw_adopt 11 47 5 rfl (by decide) ?_
 dsimp only
 refine yS fun _ K8 => ?_
 refine yS fun _ K9 => ?_
 refine yR ?_
 refine yA rfl rfl ?_
 refine yA rfl rfl ?_
 refine yN ?_
 dsimp only [St.put]
 refine K9 _ ?_
 refine aw_block ?_
 refine aw_wipe 17 ?_
 simp only [firsts, getA, Nat.reduceAdd, List.getD_cons_zero, List.getD_cons_succ, List.getD_nil, natBeq, Nat.reduceBEq, cond_true, cond_false]
 refine aw_forget ((setG ((setG (setG G (nx + 1) ((gmap Tryz.prog 140 ((((memo0 a b)))).1.1 ((((memo0 a b)))).1.2))) (nx + 1 + 1 + 1) (.box 1 [.fn (.func 88) (capsF a b (nx + 1) (nx + 1 + 1 + 1))]))) (nx + 1 + 1 + 1 + 1 + 1) (.tip (([] : List ReadingD)).length 47 5))) zX ?_
 dsimp only
 refine aw_loopD (X := Nat × Nat × List ReadingD × MemoT a b) (fun x => FoundI a b p.ch p.ln x.1 x.2.1 x.2.2.1) (fun x => (a.length - x.1) + (b.length - x.2.1)) (fun x => [(11, .list (x.2.2.1.map cells) (.tip (nx + 1 + 1 + 1 + 1 + 1))), (12, .v (.int .i64 (x.1 : Int))), (13, .v (.int .i64 (x.2.1 : Int))), (14, .any), (15, .any), (16, .any)]) (fun x G' => (setG ((setG (setG G (nx + 1) ((gmap Tryz.prog 140 x.2.2.2.1.1 x.2.2.2.1.2))) (nx + 1 + 1 + 1) (.box 1 [.fn (.func 88) (capsF a b (nx + 1) (nx + 1 + 1 + 1))]))) (nx + 1 + 1 + 1 + 1 + 1) (.tip x.2.2.1.length 47 5))) (0, 0, [], memo0 a b) rfl ?_ ?_ ?_ ?_ ?_ ?_
 ·exact foundI_start a b p.ch p.ln
 ·exact zF
 ·exact zX
 ·rintro ⟨i, k, L, y⟩ hI
  exact (by (try dsimp only); repeat' (first | exact trivial | refine ⟨?_, ?_⟩ | exact .v | exact .any | refine .elem ?_ | exact lst_low _ _ | exact cells_low _ _ | exact val_low _ _ | exact data_low _ (by (try dsimp only); omega) | exact .box (by (try dsimp only); omega) | exact nil_low | exact low_nil | exact gmap_low (knownM_low y.2) | exact capsF_low (show nx + 1 < nx + 1 + 1 + 1 + 1 + 1 + 1 by omega) (show nx + 1 + 1 + 1 < nx + 1 + 1 + 1 + 1 + 1 + 1 by omega) | refine set_low ?_ ?_ | exact .arr (by (try dsimp only); omega) | exact .own (by (try dsimp only); omega) | exact .map (by (try dsimp only); omega) | exact flatC_low _ | refine low_cons ?_ ?_ | exact lst_low _ _))
 ·rintro ⟨i, k, L, y⟩ hI
  exact (by (repeat' (refine lowG_set ?_ (by (try dsimp only); omega) ?_)); all_goals (first | exact lowG_base zS | (repeat' (first | exact trivial | refine ⟨?_, ?_⟩ | exact .v | exact .any | refine .elem ?_ | exact lst_low _ _ | exact cells_low _ _ | exact val_low _ _ | exact data_low _ (by (try dsimp only); omega) | exact .box (by (try dsimp only); omega) | exact nil_low | exact low_nil | exact gmap_low (knownM_low y.2) | exact capsF_low (show nx + 1 < nx + 1 + 1 + 1 + 1 + 1 + 1 by omega) (show nx + 1 + 1 + 1 < nx + 1 + 1 + 1 + 1 + 1 + 1 by omega) | refine set_low ?_ ?_ | exact .arr (by (try dsimp only); omega) | exact .own (by (try dsimp only); omega) | exact .map (by (try dsimp only); omega) | exact flatC_low _ | refine low_cons ?_ ?_ | exact lst_low _ _))))
 rintro ⟨i, k, L, y⟩ hI
 dsimp only at hI ⊢
 have hi0 := hI.hi
 have hk0 := hI.hk
 have hl0 := hI.len
 refine yS fun _ K10 => ?_
 refine aw_wipe 17 ?_
 simp only [firsts, getA, Nat.reduceAdd, List.getD_cons_zero, List.getD_cons_succ, List.getD_nil, natBeq, Nat.reduceBEq, cond_true, cond_false]
 refine aw_cutD (X := Bool) (fun bb => moreW a b i k = bb) (fun bb => [(33, .v (.bool bb))]) (fun bb G' => G') rfl ?_ (fun _ _ _ _ h => .inl h) ?_ ?_
 ·rintro bb hI
  exact (by (try dsimp only); repeat' (first | exact trivial | refine ⟨?_, ?_⟩ | exact .v | exact .any | refine .elem ?_ | exact lst_low _ _ | exact cells_low _ _ | exact val_low _ _ | exact data_low _ (by (try dsimp only); omega) | exact .box (by (try dsimp only); omega) | exact nil_low | exact low_nil | exact gmap_low (knownM_low y.2) | exact capsF_low (show nx + 1 < nx + 1 + 1 + 1 + 1 + 1 + 1 by omega) (show nx + 1 + 1 + 1 < nx + 1 + 1 + 1 + 1 + 1 + 1 by omega) | refine set_low ?_ ?_ | exact .arr (by (try dsimp only); omega) | exact .own (by (try dsimp only); omega) | exact .map (by (try dsimp only); omega) | exact flatC_low _ | refine low_cons ?_ ?_ | exact lst_low _ _))
 ·refine yR ?_
  refine yM rfl rfl ?_
  refine yL rfl rfl rfl ?_
  refine aops_n rfl (n_len' rfl rfl (List.length_map _)) ?_
  refine aops_n rfl (n_lss rfl rfl rfl) ?_
  refine yM rfl rfl ?_
  refine aops_split (fun hs => ?_) (fun hs => ?_)
  ·have s1 := of_decide_eq_true hs
   refine yK rfl ?_
   refine yK rfl ?_
   refine yK rfl ?_
   refine yK rfl ?_
   refine aops_n rfl (n_pt rfl rfl (by constructor)) ?_
   refine yN ?_
   dsimp only [St.put]
   refine ⟨_, ?_, ⟨⟨rfl, rfl⟩, zF, zB, zN, zX⟩⟩
   unfold moreW
   first
   | (have q : (i : Int) < (a.length : Int) := s1
      rw [decide_eq_true (show i < a.length by omega)]; rfl)
   | (have q : ¬ (i : Int) < (a.length : Int) := s1
      rw [decide_eq_false (show ¬ i < a.length by omega), Bool.false_or, decide_eq_decide]
      omega)
  have s1 := of_decide_eq_false hs
  refine yM rfl rfl ?_
  refine yL rfl rfl rfl ?_
  refine aops_n rfl (n_len' rfl rfl (List.length_map _)) ?_
  refine aops_n rfl (n_lss rfl rfl rfl) ?_
  refine aops_n rfl (n_pf rfl rfl (by constructor)) ?_
  refine yN ?_
  dsimp only [St.put]
  refine ⟨_, ?_, ⟨⟨rfl, rfl⟩, zF, zB, zN, zX⟩⟩
  unfold moreW
  first
  | (have q : (i : Int) < (a.length : Int) := s1
     rw [decide_eq_true (show i < a.length by omega)]; rfl)
  | (have q : ¬ (i : Int) < (a.length : Int) := s1
     rw [decide_eq_false (show ¬ i < a.length by omega), Bool.false_or, decide_eq_decide]
     omega)
 rintro bb hst
 dsimp only at hst ⊢
 refine aw_cond rfl (fun hc => ?_) (fun hc => ?_)
 ·have hmore : moreW a b i k = true := hst.trans hc
  refine aw_skip ?_
  refine K10 _ ?_
  refine aw_block ?_
  refine yS fun _ K12 => ?_
  refine aw_wipe 17 ?_
  simp only [firsts, getA, Nat.reduceAdd, List.getD_cons_zero, List.getD_cons_succ, List.getD_nil, natBeq, Nat.reduceBEq, cond_true, cond_false]
  refine aw_cutD (X := Bool) (fun cc => sameW a b i k = cc) (fun cc => [(54, .v (.bool cc))]) (fun cc G' => G') rfl ?_ (fun _ _ _ _ h => .inl h) ?_ ?_
  ·rintro cc hI
   exact (by (try dsimp only); repeat' (first | exact trivial | refine ⟨?_, ?_⟩ | exact .v | exact .any | refine .elem ?_ | exact lst_low _ _ | exact cells_low _ _ | exact val_low _ _ | exact data_low _ (by (try dsimp only); omega) | exact .box (by (try dsimp only); omega) | exact nil_low | exact low_nil | exact gmap_low (knownM_low y.2) | exact capsF_low (show nx + 1 < nx + 1 + 1 + 1 + 1 + 1 + 1 by omega) (show nx + 1 + 1 + 1 < nx + 1 + 1 + 1 + 1 + 1 + 1 by omega) | refine set_low ?_ ?_ | exact .arr (by (try dsimp only); omega) | exact .own (by (try dsimp only); omega) | exact .map (by (try dsimp only); omega) | exact flatC_low _ | refine low_cons ?_ ?_ | exact lst_low _ _))
  ·refine aw_draw [(0, none), (1, none), (2, none), (3, none), (4, none), (5, none), (6, none), (7, none), (8, none), (9, none), (10, none), (11, none), (12, none), (13, none), (14, none), (15, none), (16, none), (17, none), (18, none), (19, none), (20, none)] (fun i => [].contains i) (fun i => [].contains i) (fun i => [0, 2, 3, 4, 5, 7, 8, 9, 10, 12, 13, 16, 17, 19, 20].contains i) [] (by kernel_rfl) (by kernel_rfl) ?_
   refine xM rfl rfl rfl rfl rfl ?_
   try dsimp only [St.put]
   refine acan1_s rfl rfl rfl rfl (s_load rfl rfl) ?_
   refine acan1_n rfl rfl rfl rfl (n_len' rfl rfl (List.length_map _)) ?_
   refine acan1_n rfl rfl rfl rfl (n_lss rfl rfl rfl) ?_
   refine xM rfl rfl rfl rfl rfl ?_
   refine acan1_split (fun hs => ?_) (fun hs => ?_)
   ·have s1 := of_decide_eq_true hs
    obtain ⟨x, hx⟩ : ∃ x, a[i]? = some x := some_of_lt (by omega)
    refine xM rfl rfl rfl rfl rfl ?_
    try dsimp only [St.put]
    refine acan1_s rfl rfl rfl rfl (s_load rfl rfl) ?_
    refine acan1_n rfl rfl rfl rfl (n_len' rfl rfl (List.length_map _)) ?_
    refine acan1_n rfl rfl rfl rfl (n_lss rfl rfl rfl) ?_
    refine acan1_n rfl rfl rfl rfl (n_pt rfl rfl (by constructor)) ?_
    refine xM rfl rfl rfl rfl rfl ?_
    refine acan1_split (fun hs => ?_) (fun hs => ?_)
    ·have s2 := of_decide_eq_true hs
     obtain ⟨z, hz⟩ : ∃ z, b[k]? = some z := some_of_lt (by omega)
     try dsimp only [St.put]
     refine acan1_s rfl rfl rfl rfl (s_load rfl rfl) ?_
     refine xM rfl rfl rfl rfl rfl ?_
     try dsimp only [St.put]
     refine acan1_n rfl rfl rfl rfl (n_indexAddr rfl rfl rfl rfl (map_get (by assumption)) (Enc.len _)) ?_
     try dsimp only [St.put]
     refine acan1_s rfl rfl rfl rfl (s_load rfl rfl) ?_
     try dsimp only [St.put]
     refine acan1_s rfl rfl rfl rfl (s_load rfl rfl) ?_
     refine xM rfl rfl rfl rfl rfl ?_
     try dsimp only [St.put]
     refine acan1_n rfl rfl rfl rfl (n_indexAddr rfl rfl rfl rfl (map_get (by assumption)) (Enc.len _)) ?_
     try dsimp only [St.put]
     refine acan1_s rfl rfl rfl rfl (s_load rfl rfl) ?_
     refine acan1_n rfl rfl rfl rfl (n_streq rfl rfl rfl) ?_
     refine acan1_n rfl rfl rfl rfl (n_pt rfl rfl (by constructor)) ?_
     refine acan1_nil ?_
     dsimp only [St.put]
     refine ⟨_, ?_, ⟨⟨rfl, rfl⟩, zF, zB, zN, zX⟩⟩
     unfold sameW
     first
     | (have q : ¬ (i : Int) < (a.length : Int) := s1
        rw [decide_eq_false (show ¬ i < a.length by omega)]; rfl)
     | (have q : ¬ (k : Int) < (b.length : Int) := s2
        rw [decide_eq_false (show ¬ k < b.length by omega), Bool.and_false]; rfl)
     | (rw [decide_eq_true (show i < a.length by omega), decide_eq_true (show k < b.length by omega), hx, hz]
        simp)
    have s2 := of_decide_eq_false hs
    refine acan1_skip rfl rfl rfl ?_
    refine acan1_skip rfl rfl rfl ?_
    refine acan1_skip rfl rfl rfl ?_
    refine acan1_skip rfl rfl rfl ?_
    refine acan1_skip rfl rfl rfl ?_
    refine acan1_skip rfl rfl rfl ?_
    refine acan1_skip rfl rfl rfl ?_
    refine acan1_skip rfl rfl rfl ?_
    refine acan1_skip rfl rfl rfl ?_
    refine acan1_n rfl rfl rfl rfl (n_pf rfl rfl (by constructor)) ?_
    refine acan1_nil ?_
    dsimp only [St.put]
    refine ⟨_, ?_, ⟨⟨rfl, rfl⟩, zF, zB, zN, zX⟩⟩
    unfold sameW
    first
    | (have q : ¬ (i : Int) < (a.length : Int) := s1
       rw [decide_eq_false (show ¬ i < a.length by omega)]; rfl)
    | (have q : ¬ (k : Int) < (b.length : Int) := s2
       rw [decide_eq_false (show ¬ k < b.length by omega), Bool.and_false]; rfl)
    | (rw [decide_eq_true (show i < a.length by omega), decide_eq_true (show k < b.length by omega), hx, hz]
       simp)
   have s1 := of_decide_eq_false hs
   refine acan1_skip rfl rfl rfl ?_
   refine acan1_skip rfl rfl rfl ?_
   refine acan1_skip rfl rfl rfl ?_
   refine acan1_skip rfl rfl rfl ?_
   refine acan1_n rfl rfl rfl rfl (n_pf rfl rfl (by constructor)) ?_
   refine xM rfl rfl rfl rfl rfl ?_
   refine acan1_skip rfl rfl rfl ?_
   refine acan1_skip rfl rfl rfl ?_
   refine acan1_skip rfl rfl rfl ?_
   refine acan1_skip rfl rfl rfl ?_
   refine acan1_skip rfl rfl rfl ?_
   refine acan1_skip rfl rfl rfl ?_
   refine acan1_skip rfl rfl rfl ?_
   refine acan1_skip rfl rfl rfl ?_
   refine acan1_skip rfl rfl rfl ?_
   refine acan1_n rfl rfl rfl rfl (n_pf rfl rfl (by constructor)) ?_
   refine acan1_nil ?_
   dsimp only [St.put]
   refine ⟨_, ?_, ⟨⟨rfl, rfl⟩, zF, zB, zN, zX⟩⟩
   unfold sameW
   first
   | (have q : ¬ (i : Int) < (a.length : Int) := s1
      rw [decide_eq_false (show ¬ i < a.length by omega)]; rfl)
   | (have q : ¬ (k : Int) < (b.length : Int) := s2
      rw [decide_eq_false (show ¬ k < b.length by omega), Bool.and_false]; rfl)
   | (rw [decide_eq_true (show i < a.length by omega), decide_eq_true (show k < b.length by omega), hx, hz]
      simp)
  rintro cc hst9
  dsimp only at hst9 ⊢
  refine aw_cond rfl (fun hc => ?_) (fun hc => ?_)
  ·have hsame : sameW a b i k = true := hst9.trans hc
   have hik : i < a.length ∧ k < b.length := by simp [sameW] at hsame; omega
   refine yS fun _ K14 => ?_
   refine yR ?_
   refine yM rfl rfl ?_
   refine aops_n rfl (n_add rfl rfl rfl (by omega)) ?_
   refine yM rfl rfl ?_
   refine aops_n rfl (n_add rfl rfl rfl (by omega)) ?_
   refine yA rfl rfl ?_
   refine yA rfl rfl ?_
   refine yN ?_
   dsimp only [St.put]
   refine K14 _ ?_
   refine aw_exit ?_
   first
   | (have q : sameW a b i k = true := hsame
      exact ⟨(i + 1, k + 1, L, y), by (dsimp only; omega), foundI_same hI q, ⟨⟨rfl, rfl⟩, zF, zB, zN, zX⟩⟩)
   | (rw [hrd]
      exact ⟨(i + (bestW a b i k).1.one, k + (bestW a b i k).1.two, L ++ [_], y2), by (dsimp only; omega), hn, ⟨⟨rfl, rfl⟩, zF, zB, zN, zX⟩⟩)
  have hsame : sameW a b i k = false := hst9.trans hc
  obtain ⟨_, _, _, hw1, hw2, hw3⟩ := bestW_fits hsame hmore hI.hi hI.hk
  have hn := foundI_way hI hsame hmore
  obtain ⟨hwd1, hwd2⟩ := best_word hsame hmore hI.hi hI.hk
  refine aw_skip ?_
  refine K12 _ ?_
  refine yS fun _ K15 => ?_
  refine yR ?_
  refine yL rfl rfl rfl ?_
  refine yM rfl rfl ?_
  refine yM rfl rfl ?_
  try dsimp only [St.put]
  refine aops_e rfl (e_call_namedX rfl rfl rfl (next_all a b ha hb (nx + 1) (nx + 1 + 1 + 1) i k hI.hi hI.hk _ _ 1 y ⟨by dsimp only [St.put]; omega, zG, zG, by omega⟩) (fun y2 => ?_))
  refine yM rfl rfl ?_
  refine yX rfl rfl rfl rfl ?_
  refine yX rfl rfl rfl rfl ?_
  try dsimp only [St.put]
  refine aops_e rfl (e_allocC rfl ?_)
  try dsimp only [St.put]
  refine aops_e rfl (e_store_all rfl rfl rfl zG rfl rfl (by rfl) ?_)
  refine yA rfl rfl ?_
  refine yN ?_
  dsimp only [St.put]
  refine K15 _ ?_
  refine aw_commitD (i := 14) rfl zG (by first | exact List.cons_ne_nil _ _ | (simp; done) | (simp [putAt]; done)) ?_
  dsimp only
  refine yS fun _ K16 => ?_
  refine yR ?_
  refine yF rfl rfl rfl rfl ?_
  refine yL rfl rfl rfl ?_
  refine yF rfl rfl rfl rfl ?_
  refine yL rfl rfl rfl ?_
  refine yM rfl rfl ?_
  refine aops_n rfl (n_build rfl rfl) ?_
  refine yF rfl rfl rfl rfl ?_
  refine yL rfl rfl rfl ?_
  refine aops_n rfl (n_build rfl rfl) ?_
  try dsimp only [St.put]
  refine aops_e rfl (e_allocC rfl ?_)
  try dsimp only [St.put]
  refine aops_e rfl (e_store_all rfl rfl rfl zG rfl rfl (by rfl) ?_)
  refine yN ?_
  dsimp only [St.put]
  refine K16 _ ?_
  refine aw_forget (setG ((setG ((setG (setG G (nx + 1) ((gmap Tryz.prog 140 y2.1.1 y2.1.2))) (nx + 1 + 1 + 1) (.box 1 [.fn (.func 88) (capsF a b (nx + 1) (nx + 1 + 1 + 1))]))) (nx + 1 + 1 + 1 + 1 + 1) (.tip L.length 47 5))) (nx + 1 + 1 + 1 + 1 + 1 + 1 + 1) (.box 1 [.v (.int .i64 p.ch), .v (.int .i64 p.ln), .v (.int .i64 (i : Int)), .v (.int .u8 (bestW a b i k).1.kind), .v (.string ByteArray.empty)])) zX ?_
  dsimp only
  refine yS fun _ K17 => ?_
  refine yS fun _ K18 => ?_
  refine yR ?_
  refine yF rfl rfl rfl rfl ?_
  refine yL rfl rfl rfl ?_
  refine aops_n rfl (n_eql rfl rfl rfl) ?_
  refine yN ?_
  dsimp only [St.put]
  refine K18 _ ?_
  refine aw_cond rfl (fun hc => ?_) (fun hc => ?_)
  ·have htw : (bestW a b i k).1.two = 1 := by have := of_decide_eq_true hc; omega
   obtain ⟨z, hz, hwd⟩ := hwd1 htw
   have hrd : (⟨⟨p.ch, p.ln, i⟩, (bestW a b i k).1.kind, z⟩ : ReadingD) = ⟨⟨p.ch, p.ln, i⟩, (bestW a b i k).1.kind, wordAt b k (bestW a b i k).1⟩ := by rw [hwd]
   refine yR ?_
   refine yL rfl rfl rfl ?_
   refine yM rfl rfl ?_
   refine aops_n rfl (n_indexAddr rfl rfl rfl rfl (map_get (by assumption)) (Enc.len _)) ?_
   refine yL rfl rfl rfl ?_
   refine aops_n rfl (n_fieldAddr_box rfl rfl) ?_
   try dsimp only [St.put]
   refine aops_e rfl (e_store_one rfl rfl rfl zG (by constructor) rfl (by first | (simp; done) | (simp; omega) | exact Nat.lt_of_lt_of_eq (by decide) (Enc.len _).symm) ?_)
   refine yN ?_
   dsimp only [St.put]
   refine K17 _ ?_
   refine yS fun _ K19 => ?_
   refine yR ?_
   refine yM rfl rfl ?_
   try dsimp only [St.put]
   refine aops_s rfl (s_load_box_all rfl rfl zG trivial (by rfl)) ?_
   try dsimp only [St.put]
   refine aops_e rfl (e_buildSlice rfl rfl rfl (by decide) (by decide) zR (by decide) ?_)
   try dsimp only [St.put]
   refine aops_e rfl (e_append ([(⟨⟨p.ch, p.ln, i⟩, (bestW a b i k).1.kind, z⟩ : ReadingD)]) rfl rfl zG (by first | rfl | simp) rfl rfl zA ?_ zA)
   refine yA rfl rfl ?_
   refine yN ?_
   dsimp only [St.put]
   refine K19 _ ?_
   refine aw_draw [(0, none), (1, none), (2, none), (3, none), (4, none), (5, none), (6, none), (7, none), (8, none), (9, none)] (fun i => [].contains i) (fun i => [].contains i) (fun i => [0, 1, 3, 4, 5, 7, 8, 9].contains i) [] (by kernel_rfl) (by kernel_rfl) ?_
   refine xM rfl rfl rfl rfl rfl ?_
   refine acan1_n rfl rfl rfl rfl (n_fieldAddr' rfl rfl rfl) ?_
   try dsimp only [St.put]
   refine acan1_s rfl rfl rfl rfl (s_load rfl rfl) ?_
   refine acan1_n rfl rfl rfl rfl (n_add rfl rfl rfl (by omega)) ?_
   refine xM rfl rfl rfl rfl rfl ?_
   refine acan1_n rfl rfl rfl rfl (n_fieldAddr' rfl rfl rfl) ?_
   try dsimp only [St.put]
   refine acan1_s rfl rfl rfl rfl (s_load rfl rfl) ?_
   refine acan1_n rfl rfl rfl rfl (n_add rfl rfl rfl (by omega)) ?_
   refine acan1_n rfl rfl rfl rfl (n_as rfl (by constructor)) ?_
   refine acan1_n rfl rfl rfl rfl (n_as rfl (by constructor)) ?_
   refine acan1_nil ?_
   dsimp only [St.put]
   first
   | (have q : sameW a b i k = true := hsame
      exact ⟨(i + 1, k + 1, L, y), by (dsimp only; omega), foundI_same hI q, ⟨⟨rfl, rfl⟩, zF, zB, zN, zX⟩⟩)
   | (rw [hrd]
      exact ⟨(i + (bestW a b i k).1.one, k + (bestW a b i k).1.two, L ++ [_], y2), by (dsimp only; omega), hn, ⟨⟨rfl, rfl⟩, zF, zB, zN, zX⟩⟩)
  have htw : (bestW a b i k).1.two ≠ 1 := by have := of_decide_eq_false hc; omega
  have hwd := hwd2 htw
  obtain ⟨z, hz⟩ : ∃ z, (ByteArray.empty) = z := ⟨_, rfl⟩
  have hrd : (⟨⟨p.ch, p.ln, i⟩, (bestW a b i k).1.kind, z⟩ : ReadingD) = ⟨⟨p.ch, p.ln, i⟩, (bestW a b i k).1.kind, wordAt b k (bestW a b i k).1⟩ := by rw [hwd, hz]
  rw [hz]
  refine aw_skip ?_
  refine K17 _ ?_
  refine yS fun _ K20 => ?_
  refine yR ?_
  refine yM rfl rfl ?_
  try dsimp only [St.put]
  refine aops_s rfl (s_load_box_all rfl rfl zG trivial (by rfl)) ?_
  try dsimp only [St.put]
  refine aops_e rfl (e_buildSlice rfl rfl rfl (by decide) (by decide) zR (by decide) ?_)
  try dsimp only [St.put]
  refine aops_e rfl (e_append ([(⟨⟨p.ch, p.ln, i⟩, (bestW a b i k).1.kind, z⟩ : ReadingD)]) rfl rfl zG (by first | rfl | simp) rfl rfl zA ?_ zA)
  refine yA rfl rfl ?_
  refine yN ?_
  dsimp only [St.put]
  refine K20 _ ?_
  refine aw_draw [(0, none), (1, none), (2, none), (3, none), (4, none), (5, none), (6, none), (7, none), (8, none), (9, none)] (fun i => [].contains i) (fun i => [].contains i) (fun i => [0, 1, 3, 4, 5, 7, 8, 9].contains i) [] (by kernel_rfl) (by kernel_rfl) ?_
  refine xM rfl rfl rfl rfl rfl ?_
  refine acan1_n rfl rfl rfl rfl (n_fieldAddr' rfl rfl rfl) ?_
  try dsimp only [St.put]
  refine acan1_s rfl rfl rfl rfl (s_load rfl rfl) ?_
  refine acan1_n rfl rfl rfl rfl (n_add rfl rfl rfl (by omega)) ?_
  refine xM rfl rfl rfl rfl rfl ?_
  refine acan1_n rfl rfl rfl rfl (n_fieldAddr' rfl rfl rfl) ?_
  try dsimp only [St.put]
  refine acan1_s rfl rfl rfl rfl (s_load rfl rfl) ?_
  refine acan1_n rfl rfl rfl rfl (n_add rfl rfl rfl (by omega)) ?_
  refine acan1_n rfl rfl rfl rfl (n_as rfl (by constructor)) ?_
  refine acan1_n rfl rfl rfl rfl (n_as rfl (by constructor)) ?_
  refine acan1_nil ?_
  dsimp only [St.put]
  first
  | (have q : sameW a b i k = true := hsame
     exact ⟨(i + 1, k + 1, L, y), by (dsimp only; omega), foundI_same hI q, ⟨⟨rfl, rfl⟩, zF, zB, zN, zX⟩⟩)
  | (rw [hrd]
     exact ⟨(i + (bestW a b i k).1.one, k + (bestW a b i k).1.two, L ++ [_], y2), by (dsimp only; omega), hn, ⟨⟨rfl, rfl⟩, zF, zB, zN, zX⟩⟩)
 have hmore : moreW a b i k = false := hst.trans hc
 obtain rfl := foundI_end hI hmore
 refine aw_exit ?_
 refine K8 _ ?_
 refine yS fun _ K21 => ?_
 refine yR ?_
 refine yM rfl rfl ?_
 refine yA rfl rfl ?_
 refine yN ?_
 dsimp only [St.put]
 refine K21 _ ?_
 refine aw_ret ?_
 refine ends_v1 rfl (rv_tmp (by constructor)) zN zS ?_
 exact zW
theorem leafAll_pureT (t u : TextD) (h1 : textB t = true) (h2 : textB u = true) (h3 : alikeB t u = true) : Pure Tryz.prog 43 [textC t, textC u] (lst (foundE t u)) := by
 refine pure_of_body Tryz.func43 rfl (fun m => (lst_low _ _)) fun G nx => ?_
 simp only [Tryz.ntmps43, List.length_cons, List.length_nil, Nat.reduceAdd, Nat.reduceSub]
 refine aw_lt fun hlt => ?_
 dsimp only at hlt
 have hl0 := text_len h1
 have hlu := alike_len h3
 refine yS fun _ K1 => ?_
 refine yR ?_
 try dsimp only [St.put]
 refine yB rfl rfl rfl ?_
 try dsimp only [St.put]
 refine yB rfl rfl rfl ?_
 refine yA rfl rfl ?_
 refine yN ?_
 dsimp only [St.put]
 refine K1 _ ?_
 refine yS fun _ K2 => ?_
 refine yR ?_
 refine yA rfl rfl ?_
 refine yN ?_
 dsimp only [St.put]
 refine K2 _ ?_
 refine aw_adopt 5 47 5 rfl (by decide) ?_
 dsimp only [List.set_cons_zero, List.set_cons_succ]
 refine yS fun _ K3 => ?_
 refine yS fun _ K4 => ?_
 refine yR ?_
 refine yF rfl rfl rfl rfl ?_
 refine yL rfl rfl rfl ?_
 refine aops_n rfl (n_len' rfl rfl (List.length_map _)) ?_
 refine yM rfl rfl ?_
 refine yN ?_
 dsimp only [St.put]
 refine K4 _ ?_
 refine aw_block ?_
 refine aw_wipe 13 ?_
 simp only [firsts, getA, Nat.reduceAdd, List.getD_cons_zero, List.getD_cons_succ, List.getD_nil, natBeq, Nat.reduceBEq, cond_true, cond_false]
 refine aw_forget (setG G nx (.tip 0 47 5)) zX ?_
 dsimp only
 refine aw_loopD (X := Nat) (fun k => k ≤ t.length ∧ (allTo t u k).length ≤ k * 200) (fun k => t.length - k) (fun k => [(5, .list ((allTo t u k).map cells) (.tip nx)), (6, .any), (7, .any), (8, .any), (12, .v (.int .i64 (k : Int)))]) (fun k G' => (setG G nx (.tip ((allTo t u k)).length 47 5))) 0 rfl ?_ ?_ ?_ ?_ ?_ ?_
 ·exact ⟨Nat.zero_le _, by simp [allTo]⟩
 ·exact zF
 ·exact zX
 ·rintro k hI
  exact zL
 ·rintro k hI
  exact zH
 rintro k hI
 dsimp only at hI ⊢
 refine yS fun _ K5 => ?_
 refine yR ?_
 refine aops_n rfl (n_lss rfl rfl rfl) ?_
 refine yN ?_
 dsimp only [St.put]
 refine K5 _ ?_
 refine yS fun _ K6 => ?_
 refine aw_cond rfl (fun hc => ?_) (fun hc => ?_)
 ·replace hc := of_decide_eq_true hc
  obtain ⟨c, hk⟩ : ∃ x, t[k]? = some x := some_of_lt (by omega)
  obtain ⟨d, hd⟩ : ∃ x, u[k]? = some x := some_of_lt (by omega)
  obtain ⟨hcl, _⟩ := text_lines h1 hk
  obtain ⟨hdl, _⟩ := text_lines h2 hd
  have hcd := alike_lines h3 hk hd
  refine aw_skip ?_
  refine K6 _ ?_
  refine yS fun _ K7 => ?_
  refine aw_block ?_
  refine yS fun _ K8 => ?_
  refine yR ?_
  refine yM rfl rfl ?_
  refine aops_n rfl (n_indexAddr rfl rfl rfl rfl (map_get (by assumption)) (Enc.len _)) ?_
  refine yE rfl rfl rfl ?_
  try dsimp only [St.put]
  refine aops_e rfl (e_allocC rfl ?_)
  refine yA rfl rfl ?_
  try dsimp only [St.put]
  refine aops_e rfl (e_store_all rfl rfl rfl zG rfl rfl (by rfl) ?_)
  refine yN ?_
  dsimp only [St.put]
  refine K8 _ ?_
  refine aw_commitD (i := 7) rfl zG (by first | exact List.cons_ne_nil _ _ | (simp; done) | (simp [putAt]; done)) ?_
  dsimp only
  refine yS fun _ K9 => ?_
  refine yR ?_
  refine yF rfl rfl rfl rfl ?_
  refine yL rfl rfl rfl ?_
  refine aops_n rfl (n_len' rfl rfl (List.length_map _)) ?_
  refine yM rfl rfl ?_
  refine yN ?_
  dsimp only [St.put]
  rw [show allTo t u k = allTo t u k ++ chapTo t u k 0 by simp [chapTo]]
  refine K9 _ ?_
  refine aw_block ?_
  refine aw_wipe 21 ?_
  simp only [firsts, getA, Nat.reduceAdd, List.getD_cons_zero, List.getD_cons_succ, List.getD_nil, natBeq, Nat.reduceBEq, cond_true, cond_false]
  refine aw_forget ((setG G nx (.tip ((allTo t u k ++ chapTo t u k 0)).length 47 5))) zX ?_
  dsimp only
  refine aw_loopD (X := Nat) (fun n => n ≤ c.lines.length ∧ (chapTo t u k n).length ≤ n * 20) (fun n => c.lines.length - n) (fun n => [(5, .list ((allTo t u k ++ chapTo t u k n).map cells) (.tip nx)), (8, .any), (20, .v (.int .i64 (n : Int)))]) (fun n G' => (setG G nx (.tip ((allTo t u k ++ chapTo t u k n)).length 47 5))) 0 rfl ?_ ?_ ?_ ?_ ?_ ?_
  ·exact ⟨Nat.zero_le _, by simp [chapTo]⟩
  ·exact zF
  ·exact zX
  ·rintro n hI
   exact zL
  ·rintro n hI
   exact zH
  rintro n hJ
  dsimp only at hJ ⊢
  refine yS fun _ K10 => ?_
  refine yR ?_
  refine aops_n rfl (n_lss rfl rfl rfl) ?_
  refine yN ?_
  dsimp only [St.put]
  refine K10 _ ?_
  refine yS fun _ K11 => ?_
  refine aw_cond rfl (fun hc => ?_) (fun hc => ?_)
  ·replace hc := of_decide_eq_true hc
   obtain ⟨l, hn⟩ : ∃ x, c.lines[n]? = some x := some_of_lt (by omega)
   obtain ⟨l2, hdn⟩ : ∃ x, d.lines[n]? = some x := some_of_lt (by omega)
   have hll := text_words h1 hk hn
   have hl2 := text_words h2 hd hdn
   have hel := edits_len0 l l2 (k : Int) (n : Int)
   refine aw_skip ?_
   refine K11 _ ?_
   refine yS fun _ K12 => ?_
   refine aw_block ?_
   refine yS fun _ K13 => ?_
   refine yR ?_
   refine yM rfl rfl ?_
   refine yA rfl rfl ?_
   refine yN ?_
   dsimp only [St.put]
   refine K13 _ ?_
   refine aw_draw [(0, none), (1, none), (2, none), (3, none), (4, none), (5, none), (6, none), (7, none), (8, none), (9, none), (10, none), (11, none), (12, none), (13, none), (14, none), (15, none), (16, none), (17, none), (18, none), (19, none), (20, none)] (fun i => [18, 19].contains i) (fun i => [18, 19].contains i) (fun i => [0, 1, 3, 4, 6, 8, 9, 10, 12, 13, 15, 16, 17, 20].contains i) [] (by kernel_rfl) (by kernel_rfl) ?_
   refine xM rfl rfl rfl rfl rfl ?_
   refine acan1_n rfl rfl rfl rfl (n_fieldAddr' rfl rfl rfl) ?_
   try dsimp only [St.put]
   refine acan1_s rfl rfl rfl rfl (s_load rfl rfl) ?_
   refine xM rfl rfl rfl rfl rfl ?_
   try dsimp only [St.put]
   refine acan1_n rfl rfl rfl rfl (n_indexAddr rfl rfl rfl rfl (map_get (by assumption)) (Enc.len _)) ?_
   try dsimp only [St.put]
   refine acan1_s rfl rfl rfl rfl (s_load rfl rfl) ?_
   refine acan1_n rfl rfl rfl rfl (n_fieldAddr' rfl rfl rfl) ?_
   try dsimp only [St.put]
   refine acan1_s rfl rfl rfl rfl (s_load rfl rfl) ?_
   refine xM rfl rfl rfl rfl rfl ?_
   try dsimp only [St.put]
   refine acan1_n rfl rfl rfl rfl (n_indexAddr rfl rfl rfl rfl (map_get (by assumption)) (Enc.len _)) ?_
   refine acan1_n rfl rfl rfl rfl (n_fieldAddr' rfl rfl rfl) ?_
   try dsimp only [St.put]
   refine acan1_s rfl rfl rfl rfl (s_load rfl rfl) ?_
   refine xM rfl rfl rfl rfl rfl ?_
   try dsimp only [St.put]
   refine acan1_n rfl rfl rfl rfl (n_indexAddr rfl rfl rfl rfl (map_get (by assumption)) (Enc.len _)) ?_
   try dsimp only [St.put]
   refine acan1_s rfl rfl rfl rfl (s_load rfl rfl) ?_
   refine xM rfl rfl rfl rfl rfl ?_
   refine xM rfl rfl rfl rfl rfl ?_
   refine acan1_n rfl rfl rfl rfl (n_build rfl rfl) ?_
   refine acan1_two ?_
   try dsimp only [St.put]
   refine acan2_late rfl rfl rfl rfl (e_call_pure rfl rfl rfl (leafReadings_pure l l2 (by omega) (by omega) ⟨k, n, 0⟩) ?_)
   try dsimp only [St.put]
   refine acan2_late rfl rfl rfl rfl (e_append ((edits l l2 (k : Int) (n : Int) 0 0)) rfl rfl zG (by first | rfl | simp) rfl rfl zA ?_ zA)
   refine acan2_n rfl rfl rfl rfl (n_as rfl (by constructor)) ?_
   refine acan2_nil ?_
   dsimp only [St.put]
   refine K12 _ ?_
   refine yR ?_
   refine aops_n rfl (n_add rfl rfl rfl (by omega)) ?_
   refine yM rfl rfl ?_
   refine yN ?_
   dsimp only [St.put]
   have e3 := chapTo_succ t u k n
   rw [lineAt_some hk hn, lineAt_some hd hdn] at e3
   rw [List.append_assoc, ← e3]
   exact ⟨n + 1, by omega, ⟨by omega, by rw [e3, List.length_append]; omega⟩, ⟨⟨rfl, rfl⟩, zF, zB, zN, zX⟩⟩
  replace hc := of_decide_eq_false hc
  refine aw_exit ?_
  refine K7 _ ?_
  refine yR ?_
  refine aops_n rfl (n_add rfl rfl rfl (by omega)) ?_
  refine yM rfl rfl ?_
  refine yN ?_
  dsimp only [St.put]
  have e2 := allTo_succ t u k
  rw [linesOf_some hk, show c.lines.length = n by omega] at e2
  rw [← e2]
  exact ⟨k + 1, by omega, ⟨by omega, by rw [e2, List.length_append]; omega⟩, ⟨⟨rfl, rfl⟩, zF, zB, zN, zX⟩⟩
 try replace hc := of_decide_eq_false hc
 refine aw_exit ?_
 refine K3 _ ?_
 refine yS fun _ K14 => ?_
 refine yR ?_
 refine yM rfl rfl ?_
 refine yA rfl rfl ?_
 refine yN ?_
 dsimp only [St.put]
 have e5 : allTo t u k = foundE t u := by unfold foundE; rw [show k = t.length by omega]
 rw [e5]
 refine K14 _ ?_
 refine aw_ret ?_
 refine ends_v1 rfl (rv_tmp (by constructor)) zN zS ?_
 exact zW
theorem leafAlike1_pure (x y : Chap) : Pure Tryz.prog 71 [val x, val y] (.v (.bool (chapAlike x y))) := by
 refine pure_of_body Tryz.func71 rfl (fun m => .v) fun G nx => ?_
 simp only [Tryz.ntmps71, List.length_cons, List.length_nil, Nat.reduceAdd, Nat.reduceSub]
 refine aw_lt fun hlt => ?_
 dsimp only at hlt
 refine aw_fit 0 (fun hf => ?_)
 have hf1 := (fit_lst.1 (fit_agg.1 hf _ (by exact List.mem_cons_of_mem _ (List.mem_cons_self ..)))).1
 refine yS fun _ K1 => ?_
 refine yR ?_
 try dsimp only [St.put]
 refine yB rfl rfl rfl ?_
 try dsimp only [St.put]
 refine yB rfl rfl rfl ?_
 refine yA rfl rfl ?_
 refine yN ?_
 dsimp only [St.put]
 refine K1 _ ?_
 refine yS fun _ K2 => ?_
 refine yR ?_
 refine yF rfl rfl rfl rfl ?_
 refine yL rfl rfl rfl ?_
 refine yF rfl rfl rfl rfl ?_
 refine yL rfl rfl rfl ?_
 refine aops_n rfl (n_eql rfl rfl rfl) ?_
 refine yM rfl rfl ?_
 refine aops_split (fun hs => ?_) (fun hs => ?_)
 ·have h1 := of_decide_eq_true hs
  refine yF rfl rfl rfl rfl ?_
  refine yL rfl rfl rfl ?_
  refine aops_n rfl (n_len' rfl rfl (List.length_map _)) ?_
  refine yF rfl rfl rfl rfl ?_
  refine yL rfl rfl rfl ?_
  refine aops_n rfl (n_len' rfl rfl (List.length_map _)) ?_
  refine aops_n rfl (n_eql rfl rfl rfl) ?_
  refine aops_n rfl (n_pt rfl rfl (by constructor)) ?_
  refine yA rfl rfl ?_
  refine yN ?_
  dsimp only [St.put]
  refine K2 _ ?_
  refine aw_ret ?_
  refine ends_1 rfl (by constructor) zN zS ?_
  exact vb (by first | (simp [chapAlike, h1]; done) | (simp [chapAlike, h1]; omega))
 have h1 := of_decide_eq_false hs
 refine yK rfl ?_
 refine yK rfl ?_
 refine yK rfl ?_
 refine yK rfl ?_
 refine yK rfl ?_
 refine yK rfl ?_
 refine yK rfl ?_
 refine aops_n rfl (n_pf rfl rfl (by constructor)) ?_
 refine yA rfl rfl ?_
 refine yN ?_
 dsimp only [St.put]
 refine K2 _ ?_
 refine aw_ret ?_
 refine ends_1 rfl (by constructor) zN zS ?_
 exact vb (by first | (simp [chapAlike, h1]; done) | (simp [chapAlike, h1]; omega))
theorem EqualChap_pure (t u : TextD) (ht : t.length ≤ 1000) : Pure Tryz.prog 70 [lst t, lst u, .fn (.func 71) []] (.v (.bool (alikeB t u))) := by
 refine pure_of_body Tryz.func70 rfl (fun m => .v) fun G nx => ?_
 simp only [Tryz.ntmps70, List.length_cons, List.length_nil, Nat.reduceAdd, Nat.reduceSub]
 refine aw_lt fun hlt => ?_
 dsimp only at hlt
 refine yS fun _ K1 => ?_
 refine yR ?_
 refine yA rfl rfl ?_
 refine yN ?_
 dsimp only [St.put]
 refine K1 _ ?_
 refine yS fun _ K2 => ?_
 refine yS fun _ K3 => ?_
 refine yR ?_
 refine yM rfl rfl ?_
 refine aops_n rfl (n_len' rfl rfl (List.length_map _)) ?_
 refine yM rfl rfl ?_
 refine aops_n rfl (n_len' rfl rfl (List.length_map _)) ?_
 refine aops_n rfl (n_neq rfl rfl rfl) ?_
 refine yN ?_
 dsimp only [St.put]
 refine K3 _ ?_
 refine aw_cond rfl (fun hc => ?_) (fun hc => ?_)
 ·try replace hc := of_decide_eq_true hc
  refine yS fun _ K4 => ?_
  refine yR ?_
  refine yA rfl rfl ?_
  refine yN ?_
  dsimp only [St.put]
  refine K4 _ ?_
  refine aw_ret ?_
  refine ends_1 rfl (by constructor) zN zS ?_
  exact vb (by have := nd_t hc; simp [alikeB]; omega)
 have hl := nd_f hc
 refine aw_skip ?_
 refine K2 _ ?_
 refine yS fun _ K5 => ?_
 refine yS fun _ K6 => ?_
 refine yR ?_
 refine yM rfl rfl ?_
 refine aops_n rfl (n_len' rfl rfl (List.length_map _)) ?_
 refine yM rfl rfl ?_
 refine yN ?_
 dsimp only [St.put]
 refine K6 _ ?_
 refine aw_block ?_
 refine aw_wipe 18 ?_
 simp only [firsts, getA, Nat.reduceAdd, List.getD_cons_zero, List.getD_cons_succ, List.getD_nil, natBeq, Nat.reduceBEq, cond_true, cond_false]
 refine aw_forget (G) zX ?_
 dsimp only
 refine aw_loopD (X := Nat) (fun k => k ≤ t.length ∧ ((t.take k).zip (u.take k)).all (fun p => chapAlike p.1 p.2) = true) (fun k => t.length - k) (fun k => [(7, .any), (8, .any), (9, .any), (17, .v (.int .i64 (k : Int)))]) (fun k G' => G') 0 rfl ?_ ?_ (fun _ _ h => h) ?_ ?_ ?_
 ·exact ⟨by simp, by simp⟩
 ·exact zF
 ·rintro k hI
  exact zL
 ·exact fun _ _ _ _ h => .inl h
 rintro k hI
 dsimp only at hI ⊢
 refine yS fun _ K7 => ?_
 refine yR ?_
 refine aops_n rfl (n_lss rfl rfl rfl) ?_
 refine yN ?_
 dsimp only [St.put]
 refine K7 _ ?_
 refine yS fun _ K8 => ?_
 refine aw_cond rfl (fun hc => ?_) (fun hc => ?_)
 ·replace hc := of_decide_eq_true hc
  obtain ⟨x, hx⟩ : ∃ x, t[k]? = some x := some_of_lt (by omega)
  obtain ⟨y, hy⟩ : ∃ y, u[k]? = some y := some_of_lt (by omega)
  refine aw_skip ?_
  refine K8 _ ?_
  refine yS fun _ K9 => ?_
  refine aw_block ?_
  refine yS fun _ K10 => ?_
  refine yR ?_
  refine yM rfl rfl ?_
  refine aops_n rfl (n_indexAddr rfl rfl rfl rfl (map_get (by assumption)) (Enc.len _)) ?_
  refine yE rfl rfl rfl ?_
  try dsimp only [St.put]
  refine aops_e rfl (e_allocC rfl ?_)
  refine yA rfl rfl ?_
  try dsimp only [St.put]
  refine aops_e rfl (e_store_all rfl rfl rfl zG rfl rfl (by rfl) ?_)
  refine yN ?_
  dsimp only [St.put]
  refine K10 _ ?_
  refine aw_commitD (i := 8) rfl zG (by first | exact List.cons_ne_nil _ _ | (simp; done) | (simp [putAt]; done)) ?_
  dsimp only
  refine yS fun _ K11 => ?_
  refine yR ?_
  refine yM rfl rfl ?_
  refine yM rfl rfl ?_
  refine aops_n rfl (n_indexAddr rfl rfl rfl rfl (map_get (by assumption)) (Enc.len _)) ?_
  refine yE rfl rfl rfl ?_
  try dsimp only [St.put]
  refine aops_e rfl (e_allocC rfl ?_)
  try dsimp only [St.put]
  refine aops_e rfl (e_store_all rfl rfl rfl zG rfl rfl (by rfl) ?_)
  refine yN ?_
  dsimp only [St.put]
  refine K11 _ ?_
  refine aw_commitD (i := 9) rfl zG (by first | exact List.cons_ne_nil _ _ | (simp; done) | (simp [putAt]; done)) ?_
  dsimp only
  refine yS fun _ K12 => ?_
  refine yR ?_
  refine yM rfl rfl ?_
  refine yE rfl rfl rfl ?_
  refine yE rfl rfl rfl ?_
  try dsimp only [St.put]
  refine aops_e rfl (e_call_pure rfl rfl rfl (leafAlike1_pure x y) ?_)
  refine aops_n rfl (n_not rfl rfl) ?_
  refine yN ?_
  dsimp only [St.put]
  refine K12 _ ?_
  refine aw_cond rfl (fun hc => ?_) (fun hc => ?_)
  ·have hxy : chapAlike x y = false := by simpa using hc
   refine yS fun _ K13 => ?_
   refine yR ?_
   refine yA rfl rfl ?_
   refine yN ?_
   dsimp only [St.put]
   refine K13 _ ?_
   refine aw_ret ?_
   refine ends_1 rfl (by constructor) zN zS ?_
   exact vb (by
    have : (t.zip u).all (fun p => chapAlike p.1 p.2) = false := zip_false_of (p := chapAlike) hx hy hxy
    simp [alikeB, this])
  have hxy : chapAlike x y = true := by simpa using hc
  refine aw_skip ?_
  refine K9 _ ?_
  refine yR ?_
  refine aops_n rfl (n_add rfl rfl rfl (by omega)) ?_
  refine yM rfl rfl ?_
  refine yN ?_
  dsimp only [St.put]
  exact ⟨k + 1, by omega, ⟨by omega, by rw [zip_take (p := chapAlike) hx hy, hI.2, hxy]; rfl⟩, ⟨⟨rfl, rfl⟩, zF, zB, zN, zX⟩⟩
 replace hc := of_decide_eq_false hc
 refine aw_exit ?_
 refine K5 _ ?_
 refine yS fun _ K14 => ?_
 refine yR ?_
 refine yA rfl rfl ?_
 refine yN ?_
 dsimp only [St.put]
 refine K14 _ ?_
 refine aw_ret ?_
 refine ends_1 rfl (by constructor) zN zS ?_
 exact vb (by
  have h1 := hI.2
  rw [take_all (by omega), take_all (by omega)] at h1
  simp [alikeB, h1]; omega)
theorem leafAlike_pure (t u : TextD) : Pure Tryz.prog 41 [textC t, textC u] (.v (.int .i64 (twoE t u))) := by
 refine pure_of_body Tryz.func41 rfl (fun m => .v) fun G nx => ?_
 simp only [Tryz.ntmps41, List.length_cons, List.length_nil, Nat.reduceAdd, Nat.reduceSub]
 refine aw_lt fun hlt => ?_
 dsimp only at hlt
 refine yS fun _ K1 => ?_
 refine yR ?_
 try dsimp only [St.put]
 refine yB rfl rfl rfl ?_
 try dsimp only [St.put]
 refine yB rfl rfl rfl ?_
 refine yA rfl rfl ?_
 refine yN ?_
 dsimp only [St.put]
 refine K1 _ ?_
 refine yS fun _ K2 => ?_
 refine yS fun _ K3 => ?_
 refine yR ?_
 try dsimp only [St.put]
 refine aops_s rfl (s_load_agg' rfl rfl rfl) ?_
 try dsimp only [St.put]
 refine aops_e rfl (e_call_pure rfl rfl rfl (leafCheck_pure t) ?_)
 refine aops_n rfl (n_neq rfl rfl rfl) ?_
 refine yM rfl rfl ?_
 refine aops_split (fun hs => ?_) (fun hs => ?_)
 ·have h1 := textEr_bad hs
  refine yK rfl ?_
  refine yK rfl ?_
  refine yK rfl ?_
  refine aops_n rfl (n_pt rfl rfl (by constructor)) ?_
  refine yN ?_
  dsimp only [St.put]
  refine K3 _ ?_
  refine aw_cond rfl (fun _ => ?_) (fun h => by cases h)
  skip
  refine yS fun _ K4 => ?_
  refine yR ?_
  refine yA rfl rfl ?_
  refine yN ?_
  dsimp only [St.put]
  refine K4 _ ?_
  refine aw_ret ?_
  refine ends_1 rfl (by constructor) zN zS ?_
  exact vi (by first | (have q : textB t = false := h1; simp [twoE, q]; done) | (have q : textB u = false := textEr_bad hc; simp [twoE, q]))
 have h1 := textEr_good hs
 try dsimp only [St.put]
 refine aops_s rfl (s_load_agg' rfl rfl rfl) ?_
 try dsimp only [St.put]
 refine aops_e rfl (e_call_pure rfl rfl rfl (leafCheck_pure u) ?_)
 refine aops_n rfl (n_neq rfl rfl rfl) ?_
 refine aops_n rfl (n_pf rfl rfl (by constructor)) ?_
 refine yN ?_
 dsimp only [St.put]
 refine K3 _ ?_
 refine aw_cond rfl (fun hc => ?_) (fun hc => ?_)
 ·skip
  refine yS fun _ K5 => ?_
  refine yR ?_
  refine yA rfl rfl ?_
  refine yN ?_
  dsimp only [St.put]
  refine K5 _ ?_
  refine aw_ret ?_
  refine ends_1 rfl (by constructor) zN zS ?_
  exact vi (by first | (have q : textB t = false := h1; simp [twoE, q]; done) | (have q : textB u = false := textEr_bad hc; simp [twoE, q]))
 have h2 := textEr_good hc
 have hl0 := text_len h1
 refine aw_skip ?_
 refine K2 _ ?_
 refine yS fun _ K6 => ?_
 refine yR ?_
 refine yF rfl rfl rfl rfl ?_
 refine yL rfl rfl rfl ?_
 refine yF rfl rfl rfl rfl ?_
 refine yL rfl rfl rfl ?_
 try dsimp only [St.put]
 refine aops_e rfl (e_call_pure rfl rfl rfl (EqualChap_pure t u (by omega)) ?_)
 refine yA rfl rfl ?_
 refine yN ?_
 dsimp only [St.put]
 refine K6 _ ?_
 refine yS fun _ K7 => ?_
 refine yS fun _ K8 => ?_
 refine yR ?_
 refine yM rfl rfl ?_
 refine aops_n rfl (n_not rfl rfl) ?_
 refine yN ?_
 dsimp only [St.put]
 refine K8 _ ?_
 refine aw_cond rfl (fun hc => ?_) (fun hc => ?_)
 ·have h3 : alikeB t u = false := by simpa using hc
  refine yS fun _ K9 => ?_
  refine yR ?_
  refine yA rfl rfl ?_
  refine yN ?_
  dsimp only [St.put]
  refine K9 _ ?_
  refine aw_ret ?_
  refine ends_1 rfl (by constructor) zN zS ?_
  exact vi (by simp [twoE, h1, h2, h3])
 have h3 : alikeB t u = true := by simpa using hc
 refine aw_skip ?_
 refine K7 _ ?_
 refine yS fun _ K10 => ?_
 refine yR ?_
 refine yA rfl rfl ?_
 refine yN ?_
 dsimp only [St.put]
 refine K10 _ ?_
 refine aw_ret ?_
 refine ends_1 rfl (by constructor) zN zS ?_
 exact vi (by simp [twoE, h1, h2, h3])
theorem leafApart_pureT (t u : TextD) : Pure Tryz.prog 14 [textC t, textC u] (.tup [.v (.int .i64 (apartN t u)), .v (.int .i64 (twoE t u))]) := by
 refine pure_of_body Tryz.func14 rfl (fun m => .tup (low_cons .v (low_cons .v low_nil))) fun G nx => ?_
 simp only [Tryz.ntmps14, List.length_cons, List.length_nil, Nat.reduceAdd, Nat.reduceSub]
 refine aw_lt fun hlt => ?_
 dsimp only at hlt
 refine yS fun _ K1 => ?_
 refine yR ?_
 try dsimp only [St.put]
 refine yB rfl rfl rfl ?_
 try dsimp only [St.put]
 refine yB rfl rfl rfl ?_
 refine yA rfl rfl ?_
 refine yA rfl rfl ?_
 refine yN ?_
 dsimp only [St.put]
 refine K1 _ ?_
 refine yS fun _ K2 => ?_
 refine yS fun _ K3 => ?_
 refine yR ?_
 try dsimp only [St.put]
 refine aops_s rfl (s_load_agg' rfl rfl rfl) ?_
 try dsimp only [St.put]
 refine aops_s rfl (s_load_agg' rfl rfl rfl) ?_
 try dsimp only [St.put]
 refine aops_e rfl (e_call_pure rfl rfl rfl (leafAlike_pure t u) ?_)
 refine yA rfl rfl ?_
 refine yN ?_
 dsimp only [St.put]
 refine K3 _ ?_
 refine yS fun _ K4 => ?_
 refine yR ?_
 refine yM rfl rfl ?_
 refine aops_n rfl (n_neq rfl rfl rfl) ?_
 refine yN ?_
 dsimp only [St.put]
 refine K4 _ ?_
 refine aw_cond rfl (fun hc => ?_) (fun hc => ?_)
 ·have h0 : twoE t u ≠ 0 := nd_t hc
  refine yS fun _ K5 => ?_
  refine yR ?_
  refine yM rfl rfl ?_
  refine yA rfl rfl ?_
  refine yA rfl rfl ?_
  refine yN ?_
  dsimp only [St.put]
  refine K5 _ ?_
  refine aw_ret ?_
  refine ends_2 rfl (by constructor) (by constructor) zN zS ?_ ?_
  ·exact vi (by simp [apartN, h0])
  rfl
 have h0 : twoE t u = 0 := nd_f hc
 obtain ⟨h1, h2, h3⟩ := twoE_zero.1 h0
 have hl := foundE_len h1 h2 h3
 refine aw_skip ?_
 refine K2 _ ?_
 refine yS fun _ K6 => ?_
 refine yR ?_
 try dsimp only [St.put]
 refine aops_s rfl (s_load_agg' rfl rfl rfl) ?_
 try dsimp only [St.put]
 refine aops_s rfl (s_load_agg' rfl rfl rfl) ?_
 try dsimp only [St.put]
 refine aops_e rfl (e_call_pure rfl rfl rfl (leafAll_pureT t u h1 h2 h3) ?_)
 refine aops_n rfl (n_len' rfl rfl (List.length_map _)) ?_
 refine yA rfl rfl ?_
 refine yA rfl rfl ?_
 refine yN ?_
 dsimp only [St.put]
 refine K6 _ ?_
 refine aw_ret ?_
 refine ends_2 rfl (by constructor) (by constructor) zN zS ?_ ?_
 ·exact vi (by simp [apartN, h0])
 exact vi h0.symm
theorem leafFind_pureT (t u : TextD) (id : Int) : Pure Tryz.prog 13 [textC t, textC u, .v (.int .i64 id)] (.tup [val (findC t u id), .v (.int .i64 (findE t u id))]) := by
 refine pure_of_body Tryz.func13 rfl (fun m => .tup (low_cons (val_low _ _) (low_cons .v low_nil))) fun G nx => ?_
 simp only [Tryz.ntmps13, List.length_cons, List.length_nil, Nat.reduceAdd, Nat.reduceSub]
 refine aw_lt fun hlt => ?_
 dsimp only at hlt
 refine yS fun _ K1 => ?_
 refine yR ?_
 try dsimp only [St.put]
 refine yB rfl rfl rfl ?_
 try dsimp only [St.put]
 refine yB rfl rfl rfl ?_
 try dsimp only [St.put]
 refine aops_e rfl (e_allocC rfl ?_)
 refine yA rfl rfl ?_
 refine yN ?_
 dsimp only [St.put]
 refine K1 _ ?_
 refine yS fun _ K2 => ?_
 refine yS fun _ K3 => ?_
 refine yR ?_
 try dsimp only [St.put]
 refine aops_s rfl (s_load_agg' rfl rfl rfl) ?_
 try dsimp only [St.put]
 refine aops_s rfl (s_load_agg' rfl rfl rfl) ?_
 try dsimp only [St.put]
 refine aops_e rfl (e_call_pure rfl rfl rfl (leafAlike_pure t u) ?_)
 refine yA rfl rfl ?_
 refine yN ?_
 dsimp only [St.put]
 refine K3 _ ?_
 refine yS fun _ K4 => ?_
 refine yR ?_
 refine yM rfl rfl ?_
 refine aops_n rfl (n_neq rfl rfl rfl) ?_
 refine yN ?_
 dsimp only [St.put]
 refine K4 _ ?_
 refine aw_cond rfl (fun hc => ?_) (fun hc => ?_)
 ·have h0 : twoE t u ≠ 0 := nd_t hc
  have hE : findE t u id = twoE t u := by simp [findE, h0]
  refine yS fun _ K5 => ?_
  refine yR ?_
  refine aops_n rfl (n_build rfl rfl) ?_
  refine yM rfl rfl ?_
  try dsimp only [St.put]
  refine aops_e rfl (e_store_all rfl rfl rfl zG rfl rfl (by rfl) ?_)
  refine yA rfl rfl ?_
  refine yN ?_
  dsimp only [St.put]
  refine K5 _ ?_
  refine aw_ret ?_
  refine ends_v2 rfl (rv_box rfl zG (by rfl) (by first | exact List.cons_ne_nil _ _ | (simp; done) | (simp [putAt]; done)) rfl) (rv_tmp (by constructor)) zN zS ?_ ?_
  ·rw [show findC t u id = ⟨0, []⟩ by simp [findC, hE, h0]]
   exact zW
  exact Wk.of_eq (vi hE.symm)
 have h0 : twoE t u = 0 := nd_f hc
 obtain ⟨h1, h2, h3⟩ := twoE_zero.1 h0
 have hl := foundE_len h1 h2 h3
 refine aw_skip ?_
 refine K2 _ ?_
 refine yS fun _ K6 => ?_
 refine yS fun _ K7 => ?_
 refine yR ?_
 refine yM rfl rfl ?_
 try dsimp only [St.put]
 refine aops_e rfl (e_buildSlice rfl rfl rfl (by decide) (by decide) zR (by decide) ?_)
 try dsimp only [St.put]
 refine aops_e rfl (e_call_pure rfl rfl rfl (leafIn_pure _ _ [id]) ?_)
 refine aops_n rfl (n_not rfl rfl) ?_
 refine yN ?_
 dsimp only [St.put]
 refine K7 _ ?_
 refine aw_cond rfl (fun hc => ?_) (fun hc => ?_)
 ·have hb : inB id 0 9999 = false := by rw [inAll_one] at hc; simpa using hc
  have hE : findE t u id = 2 := by simp [findE, h0, hb]
  refine yS fun _ K8 => ?_
  refine yR ?_
  refine aops_n rfl (n_build rfl rfl) ?_
  try dsimp only [St.put]
  refine aops_e rfl (e_store_all rfl rfl rfl zG rfl rfl (by rfl) ?_)
  refine yA rfl rfl ?_
  refine yN ?_
  dsimp only [St.put]
  refine K8 _ ?_
  refine aw_ret ?_
  refine ends_v2 rfl (rv_box rfl zG (by rfl) (by first | exact List.cons_ne_nil _ _ | (simp; done) | (simp [putAt]; done)) rfl) (rv_tmp (by constructor)) zN zS ?_ ?_
  ·rw [show findC t u id = ⟨0, []⟩ by simp [findC, hE]]
   exact zW
  exact Wk.of_eq (vi hE.symm)
 have hb : inB id 0 9999 = true := by rw [inAll_one] at hc; simpa using hc
 refine aw_skip ?_
 refine K6 _ ?_
 refine yS fun _ K9 => ?_
 refine yR ?_
 try dsimp only [St.put]
 refine aops_s rfl (s_load_agg' rfl rfl rfl) ?_
 try dsimp only [St.put]
 refine aops_s rfl (s_load_agg' rfl rfl rfl) ?_
 try dsimp only [St.put]
 refine aops_e rfl (e_call_pure rfl rfl rfl (leafAll_pureT t u h1 h2 h3) ?_)
 refine yA rfl rfl ?_
 refine yN ?_
 dsimp only [St.put]
 refine K9 _ ?_
 refine yS fun _ K10 => ?_
 refine yS fun _ K11 => ?_
 refine yR ?_
 refine yM rfl rfl ?_
 refine aops_n rfl (n_len' rfl rfl (List.length_map _)) ?_
 refine aops_n rfl (n_gtr rfl rfl rfl) ?_
 refine yN ?_
 dsimp only [St.put]
 refine K11 _ ?_
 refine aw_cond rfl (fun hc => ?_) (fun hc => ?_)
 ·have hE : findE t u id = 4 := by have := of_decide_eq_true hc; simp [findE, h0, hb]; omega
  refine yS fun _ K12 => ?_
  refine yR ?_
  refine aops_n rfl (n_build rfl rfl) ?_
  try dsimp only [St.put]
  refine aops_e rfl (e_store_all rfl rfl rfl zG rfl rfl (by rfl) ?_)
  refine yA rfl rfl ?_
  refine yN ?_
  dsimp only [St.put]
  refine K12 _ ?_
  refine aw_ret ?_
  refine ends_v2 rfl (rv_box rfl zG (by rfl) (by first | exact List.cons_ne_nil _ _ | (simp; done) | (simp [putAt]; done)) rfl) (rv_tmp (by constructor)) zN zS ?_ ?_
  ·rw [show findC t u id = ⟨0, []⟩ by simp [findC, hE]]
   exact zW
  exact Wk.of_eq (vi hE.symm)
 have hE : findE t u id = 0 := by have := of_decide_eq_false hc; simp [findE, h0, hb]; omega
 refine aw_skip ?_
 refine K10 _ ?_
 refine yS fun _ K13 => ?_
 refine yR ?_
 refine yM rfl rfl ?_
 refine yM rfl rfl ?_
 refine aops_n rfl (n_build rfl rfl) ?_
 try dsimp only [St.put]
 refine aops_e rfl (e_store_all rfl rfl rfl zG rfl rfl (by rfl) ?_)
 refine yA rfl rfl ?_
 refine yN ?_
 dsimp only [St.put]
 refine K13 _ ?_
 refine aw_ret ?_
 refine ends_v2 rfl (rv_box rfl zG (by rfl) (by first | exact List.cons_ne_nil _ _ | (simp; done) | (simp [putAt]; done)) rfl) (rv_tmp (by constructor)) zN zS ?_ ?_
 ·rw [show findC t u id = ⟨id, foundE t u⟩ by simp [findC, hE]]
  exact zW
 exact Wk.of_eq (vi hE.symm)
end Go.Proofs.YtejhjijbgceklaaGreatDoor

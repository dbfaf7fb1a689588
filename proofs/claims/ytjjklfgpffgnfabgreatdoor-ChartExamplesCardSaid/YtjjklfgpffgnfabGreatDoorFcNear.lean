/-
 Contracts of the program's functions of charts: the nearest places.
-/
import Derived.Test.YtjjklfgpffgnfabGreatDoorFbWords
import Derived.Test.YtjjklfgpffgnfabGreatDoorAbFull
import Derived.Test.YtjjklfgpffgnfabGreatDoorEhOrd
namespace Go.AB
open Go Go.RowKit
open Go.AB.Enc (cells)
open Go.PB (Chap TextD PlaceD ReadingD CopyD WayD)
/-- where those begin that are greater -/
def cutL (l : List PlaceD) (cf : PlaceD → Int) : Nat := l.findIdx fun p => decide (0 < cf p)
def besEr (l : List PlaceD) (k : Nat) : Int := bif decide (besideL l k = []) then 6 else 0
theorem n_slice_lst {α : Type} [Enc α] {P : Program} {o : Oper} {st : St} {t e : TypeId} {ag : Bool} [Elt P t e] [Ty P e ag (Enc.n α)] {x y z : Operand} {xs : List α} {tok : Tok} {ik ik' : IntKind} {n n' : Int} {k k' : Nat} (ho : o.op = .slice t x (some y) (some z) none) (hx : evC st x = .list (xs.map cells) tok) (hy : evC st y = .v (.int ik n)) (hn : n = (k : Int)) (hz : evC st z = .v (.int ik' n')) (hn' : n' = (k' : Int)) (hkk : k ≤ k') (hk : k' ≤ xs.length)
  (hsz1 : 1 ≤ Enc.n α) : NStep P o st (lst ((xs.take k').drop k)) := by
 have h := n_slice_lh (P := P) (t := t) (e := e) (ag := ag) (sz := Enc.n α) ho hx hy hn hz hn' hkk (by rw [List.length_map]; exact hk) (fun r hr => by obtain ⟨y, _, rfl⟩ := List.mem_map.1 hr; exact Enc.len _) hsz1
 rw [← List.map_take, ← List.map_drop] at h
 exact h
theorem besideL_len (l : List PlaceD) (k : Nat) : (besideL l k).length ≤ l.length := by
 unfold besideL
 rw [List.length_drop, List.length_take]; omega
theorem cutL_le (l : List PlaceD) (cf : PlaceD → Int) : cutL l cf ≤ l.length := List.findIdx_le_length
end Go.AB
namespace Go.Proofs.YtjjklfgpffgnfabGreatDoor
set_option maxRecDepth 10000
open Go.RowKit Go.AB
open Go.AB.Enc (cells)
open Go.PB (Chap TextD PlaceD ReadingD CopyD WayD)
theorem clone_pure (l : List PlaceD) (hl : l.length ≤ 1000) : Pure Tryz.prog 81 [lst l] (lst l) := by
 refine pure_of_body Tryz.func81 rfl (fun m => (lst_low _ _)) fun G nx => ?_
 simp only [Tryz.ntmps81, List.length_cons, List.length_nil, Nat.reduceAdd, Nat.reduceSub]
 refine aw_lt fun hlt => ?_
 dsimp only at hlt
 refine yS fun _ K1 => ?_
 refine yR ?_
 refine yA rfl rfl ?_
 refine yN ?_
 dsimp only [St.put]
 refine K1 _ ?_
 refine yS fun _ K2 => ?_
 refine yS fun _ K3 => ?_
 refine yR ?_
 refine yM rfl rfl ?_
 refine aops_e rfl (e_eq_nil rfl rfl fun b hb => ?_)
 refine yN ?_
 dsimp only [St.put]
 refine K3 _ ?_
 refine aw_cond rfl (fun hc => ?_) (fun hc => ?_)
 ·have hnil : l = [] := by
   cases l with
   | nil => rfl
   | cons x l => have := hb (by simp); rw [hc] at this; cases this
  refine yS fun _ K4 => ?_
  refine yR ?_
  refine yA rfl rfl ?_
  refine yN ?_
  dsimp only [St.put]
  refine K4 _ ?_
  refine aw_ret ?_
  refine ends_v1 rfl (rv_tmp (by constructor)) zN zS ?_
  rw [hnil]
  exact zW
 try replace hc := of_decide_eq_false hc
 refine aw_skip ?_
 refine K2 _ ?_
 refine yS fun _ K5 => ?_
 refine yR ?_
 try dsimp only [St.put]
 refine aops_e rfl (e_buildSlice0 rfl ?_)
 refine yM rfl rfl ?_
 try dsimp only [St.put]
 refine aops_e rfl (e_append_copy rfl rfl (.inl rfl) rfl (by decide) (fun r hr => by obtain ⟨y, _, rfl⟩ := List.mem_map.1 hr; rfl) (by rw [List.length_map]; omega) (by rw [List.length_map]; omega) ?_)
 refine yA rfl rfl ?_
 refine yN ?_
 dsimp only [St.put]
 refine K5 _ ?_
 refine aw_ret ?_
 refine ends_1 rfl (by constructor) zN zS ?_
 rfl
theorem beside_pc (l : List PlaceD) (cf : PlaceD → Int) (g : Nat) (caps : List C) [Fun Tryz.prog g] (G : Nat → Option GObj) (nx : Nat) (hl : l.length ≤ 1000) (hcaps : ∀ c ∈ caps, c.low nx) (hone : ∀ c ∈ caps, c.one = true) (hg : ∀ p ∈ l, PC Tryz.prog g (val p :: caps) G nx fun r G' nx' => r = .v (.int .i64 (cf p)) ∧ G' = G ∧ nx' = nx) :
  PC Tryz.prog 50 [lst l, .fn (.func g) caps] G nx fun r G' nx' => r = .tup [lst (besideL l (cutL l cf)), .v (.int .i64 (besEr l (cutL l cf)))] ∧ G' = G ∧ nx' = nx := by
 refine pc_named_of_body (G) (nx) Tryz.func50 rfl (.tup (low_cons (lst_low _ _) (low_cons .v low_nil))) zN (fun hlt => zH) ?_
 simp only [Tryz.ntmps50, List.length_cons, List.length_nil, Nat.reduceAdd, Nat.reduceSub]
 refine aw_lt fun hlt => ?_
 dsimp only at hlt
 have hcl := cutL_le l cf
 have hcd : (l.findIdx fun p => decide (0 < cf p)) = cutL l cf := rfl
 refine yS fun _ K1 => ?_
 refine yR ?_
 try dsimp only [St.put]
 refine yB rfl rfl rfl ?_
 refine yA rfl rfl ?_
 refine yA rfl rfl ?_
 refine yN ?_
 dsimp only [St.put]
 refine K1 _ ?_
 refine yS fun _ K2 => ?_
 refine yR ?_
 refine yM rfl rfl ?_
 refine aops_n rfl (n_makeFunc rfl rfl) ?_
 try dsimp only [St.put]
 refine aops_e rfl (e_call_one rfl rfl rfl (indexFunc_pc l (fun p => decide (0 < cf p)) _ _ _ _ hl (low_cons (.elem (low_cons (.fn hcaps) low_nil)) low_nil) fun p hp => beside1_pc p (cf p) g caps _ _ (hg p hp)) ?_)
 refine yA rfl rfl ?_
 refine yN ?_
 dsimp only [St.put]
 rw [hcd]
 refine K2 _ ?_
 refine aw_wipe 11 ?_
 simp only [firsts, getA, Nat.reduceAdd, List.getD_cons_zero, List.getD_cons_succ, List.getD_nil, natBeq, Nat.reduceBEq, cond_true, cond_false]
 refine aw_cutD (X := Unit) (fun _ => True) (fun _ => [(6, .v (.int .i64 (cutL l cf : Int)))]) (fun _ G' => G') rfl ?_ (fun _ _ _ _ h => .inl h) ?_ ?_
 ·rintro _ hI
  exact zL
 ·refine yS fun _ K4 => ?_
  refine yR ?_
  refine yM rfl rfl ?_
  refine aops_n rfl (n_lss rfl rfl rfl) ?_
  refine yN ?_
  dsimp only [St.put]
  refine K4 _ ?_
  refine aw_cond rfl (fun hc => ?_) (fun hc => ?_)
  ·try replace hc := of_decide_eq_true hc
   refine yR ?_
   refine yM rfl rfl ?_
   refine aops_n rfl (n_len' rfl rfl (List.length_map _)) ?_
   refine yA rfl rfl ?_
   refine yN ?_
   dsimp only [St.put]
   refine ⟨(), trivial, ?_⟩
   first
    | (rw [show (l.length : Int) = (cutL l cf : Int) by split at hc <;> omega]; exact ⟨⟨rfl, rfl⟩, zF, zB, zN, zX⟩)
    | (rw [show (if cutL l cf < l.length then (cutL l cf : Int) else -1) = (cutL l cf : Int) by split at hc <;> first | rfl | omega]; exact ⟨⟨rfl, rfl⟩, zF, zB, zN, zX⟩)
  try replace hc := of_decide_eq_false hc
  refine aw_skip ?_
  refine ⟨(), trivial, ?_⟩
  first
   | (rw [show (l.length : Int) = (cutL l cf : Int) by split at hc <;> omega]; exact ⟨⟨rfl, rfl⟩, zF, zB, zN, zX⟩)
   | (rw [show (if cutL l cf < l.length then (cutL l cf : Int) else -1) = (cutL l cf : Int) by split at hc <;> first | rfl | omega]; exact ⟨⟨rfl, rfl⟩, zF, zB, zN, zX⟩)
 rintro _ hst
 dsimp only at hst ⊢
 refine yS fun _ K5 => ?_
 refine yR ?_
 refine yM rfl rfl ?_
 refine yM rfl rfl ?_
 refine aops_n rfl (n_sub rfl rfl rfl (by omega)) ?_
 refine aops_n rfl (n_max rfl rfl rfl rfl) ?_
 refine yM rfl rfl ?_
 refine aops_n rfl (n_len' rfl rfl (List.length_map _)) ?_
 refine yM rfl rfl ?_
 refine aops_n rfl (n_add rfl rfl rfl (by omega)) ?_
 refine aops_n rfl (n_min rfl rfl rfl rfl) ?_
 refine aops_n rfl (n_slice_lst (k := cutL l cf - 1) (k' := min l.length (cutL l cf + 1)) rfl rfl rfl (by omega) rfl (by omega) (by omega) (by omega) (by decide)) ?_
 try dsimp only [St.put]
 refine aops_e rfl (e_call_pure rfl rfl rfl (clone_pure (besideL l (cutL l cf)) (by have := besideL_len l (cutL l cf); omega)) ?_)
 refine yA rfl rfl ?_
 refine yN ?_
 dsimp only [St.put]
 refine K5 _ ?_
 refine yS fun _ K6 => ?_
 refine yS fun _ K7 => ?_
 refine yR ?_
 refine yM rfl rfl ?_
 refine aops_n rfl (n_len' rfl rfl (List.length_map _)) ?_
 refine aops_n rfl (n_eql rfl rfl rfl) ?_
 refine yN ?_
 dsimp only [St.put]
 refine K7 _ ?_
 refine aw_cond rfl (fun hc => ?_) (fun hc => ?_)
 ·have hb0 : besideL l (cutL l cf) = [] := List.eq_nil_of_length_eq_zero (by have := of_decide_eq_true hc; omega)
  refine yS fun _ K8 => ?_
  refine yR ?_
  refine yA rfl rfl ?_
  refine yA rfl rfl ?_
  refine yN ?_
  dsimp only [St.put]
  refine K8 _ ?_
  refine aw_ret ?_
  refine ends_v2 rfl (rv_tmp (by constructor)) (rv_tmp (by constructor)) zN zS ?_ ?_
  ·rw [hb0]
   exact zW
  exact Wk.of_eq (vi (by simp [besEr, hb0]))
 have hb0 : besideL l (cutL l cf) ≠ [] := fun e => by rw [e] at hc; simp at hc
 refine aw_skip ?_
 refine K6 _ ?_
 refine yS fun _ K9 => ?_
 refine yR ?_
 refine yM rfl rfl ?_
 refine yA rfl rfl ?_
 refine yA rfl rfl ?_
 refine yN ?_
 dsimp only [St.put]
 refine K9 _ ?_
 refine aw_ret ?_
 refine ends_v2 rfl (rv_tmp (by constructor)) (rv_tmp (by constructor)) zN zS ?_ ?_
 ·exact zW
 exact Wk.of_eq (vi (by simp [besEr, hb0]))
end Go.Proofs.YtjjklfgpffgnfabGreatDoor

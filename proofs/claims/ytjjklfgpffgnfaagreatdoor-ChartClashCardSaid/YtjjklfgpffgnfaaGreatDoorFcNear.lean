/-
 Contracts of the program's functions of charts: the nearest places.
-/
import Derived.Test.YtjjklfgpffgnfaaGreatDoorFbWords
import Derived.Test.YtjjklfgpffgnfaaGreatDoorAbFull
import Derived.Test.YtjjklfgpffgnfaaGreatDoorEhOrd
namespace Go.AB
open Go Go.RowKit
open Go.AB.Enc (cells)
open Go.PB (bv ai PlaceD cy c6 cz)
/-- where those begin that are greater -/
def ii (l : List PlaceD) (cf : PlaceD → Int) : Nat := l.findIdx fun p => decide (0 < cf p)
def pf (l : List PlaceD) (k : Nat) : Int := bif decide (k8 l k = []) then 6 else 0
theorem ugw {α : Type} [Enc α] {P : Program} {o : Oper} {st : St} {t e : TypeId} {ag : Bool} [Elt P t e] [Ty P e ag (Enc.n α)] {x y z : Operand} {xs : List α} {tok : Tok} {ik ik' : IntKind} {n n' : Int} {k k' : Nat} (ho : o.op = .slice t x (some y) (some z) none) (hx : evC st x = .list (xs.map cells) tok) (hy : evC st y = .v (.int ik n)) (hn : n = (k : Int)) (hz : evC st z = .v (.int ik' n')) (hn' : n' = (k' : Int)) (hkk : k ≤ k') (hk : k' ≤ xs.length)
  (hsz1 : 1 ≤ Enc.n α) : NStep P o st (lst ((xs.take k').drop k)) := by
 have h := ugx (P := P) (t := t) (e := e) (ag := ag) (sz := Enc.n α) ho hx hy hn hz hn' hkk (by rw [List.length_map]; exact hk) (fun r hr => by obtain ⟨y, _, rfl⟩ := List.mem_map.1 hr; exact Enc.len _) hsz1
 rw [← List.map_take, ← List.map_drop] at h
 exact h
theorem ul1 (l : List PlaceD) (k : Nat) : (k8 l k).length ≤ l.length := by
 unfold k8
 rw [List.length_drop, List.length_take]; omega
theorem ucc (l : List PlaceD) (cf : PlaceD → Int) : ii l cf ≤ l.length := List.findIdx_le_length
end Go.AB
namespace Go.Proofs.YtjjklfgpffgnfaaGreatDoor
set_option maxRecDepth 10000
open Go.RowKit Go.AB
open Go.AB.Enc (cells)
open Go.PB (bv ai PlaceD cy c6 cz)
theorem ukt (l : List PlaceD) (hl : l.length ≤ 1000) : c8 Tryz.prog 90 [lst l] (lst l) := by
 refine dr Tryz.func90 rfl (fun m => (bh _ _)) fun G nx => ?_
 simp only [Tryz.ntmps90, List.length_cons, List.length_nil, Nat.reduceAdd, Nat.reduceSub]
 refine bi fun hlt => ?_
 dsimp only at hlt
 refine yS fun _ K1 => ?_
 refine yR ?_
 refine yA rfl rfl ?_
 refine yN ?_
 dsimp only [St.put]
 refine K1 _ ?_
 refine yS fun _ K2 => ?_
 refine yS fun _ K3 => ?_
 refine yR ?_
 refine yM rfl rfl ?_
 refine ae rfl (uj1 rfl rfl fun b hb => ?_)
 refine yN ?_
 dsimp only [St.put]
 refine K3 _ ?_
 refine al rfl (fun hc => ?_) (fun hc => ?_)
 ·have hnil : l = [] := by
   cases l with
   | nil => rfl
   | cons x l => have := hb (by simp); rw [hc] at this; cases this
  refine yS fun _ K4 => ?_
  refine yR ?_
  refine yA rfl rfl ?_
  refine yN ?_
  dsimp only [St.put]
  refine K4 _ ?_
  refine am ?_
  refine lp rfl (cj (by constructor)) zN zS ?_
  rw [hnil]
  exact zW
 try replace hc := of_decide_eq_false hc
 refine aw ?_
 refine K2 _ ?_
 refine yS fun _ K5 => ?_
 refine yR ?_
 try dsimp only [St.put]
 refine ae rfl (uj6 rfl ?_)
 refine yM rfl rfl ?_
 try dsimp only [St.put]
 refine ae rfl (ub7 rfl rfl (.inl rfl) rfl (by decide) (fun r hr => by obtain ⟨y, _, rfl⟩ := List.mem_map.1 hr; rfl) (by rw [List.length_map]; omega) (by rw [List.length_map]; omega) ?_)
 refine yA rfl rfl ?_
 refine yN ?_
 dsimp only [St.put]
 refine K5 _ ?_
 refine am ?_
 refine bf rfl (by constructor) zN zS ?_
 rfl
theorem ucz (l : List PlaceD) (cf : PlaceD → Int) (g : Nat) (caps : List C) [Fun Tryz.prog g] (G : Nat → Option GObj) (nx : Nat) (hl : l.length ≤ 1000) (hcaps : ∀ c ∈ caps, c.low nx) (hone : ∀ c ∈ caps, c.one = true) (hg : ∀ p ∈ l, PC Tryz.prog g (val p :: caps) G nx fun r G' nx' => r = .v (.int .i64 (cf p)) ∧ G' = G ∧ nx' = nx) :
  PC Tryz.prog 60 [lst l, .fn (.func g) caps] G nx fun r G' nx' => r = .tup [lst (k8 l (ii l cf)), .v (.int .i64 (pf l (ii l cf)))] ∧ G' = G ∧ nx' = nx := by
 refine l8 (G) (nx) Tryz.func60 rfl (.tup (ar (bh _ _) (ar .v bl))) zN (fun hlt => zH) ?_
 simp only [Tryz.ntmps60, List.length_cons, List.length_nil, Nat.reduceAdd, Nat.reduceSub]
 refine bi fun hlt => ?_
 dsimp only at hlt
 have hcl := ucc l cf
 have hcd : (l.findIdx fun p => decide (0 < cf p)) = ii l cf := rfl
 refine yS fun _ K1 => ?_
 refine yR ?_
 try dsimp only [St.put]
 refine yB rfl rfl rfl ?_
 refine yA rfl rfl ?_
 refine yA rfl rfl ?_
 refine yN ?_
 dsimp only [St.put]
 refine K1 _ ?_
 refine yS fun _ K2 => ?_
 refine yR ?_
 refine yM rfl rfl ?_
 refine aa rfl (m8 rfl rfl) ?_
 try dsimp only [St.put]
 refine ae rfl (f8 rfl rfl rfl (uik l (fun p => decide (0 < cf p)) _ _ _ _ hl (ar (.elem (ar (.fn hcaps) bl)) bl) fun p hp => ul3 p (cf p) g caps _ _ (hg p hp)) ?_)
 refine yA rfl rfl ?_
 refine yN ?_
 dsimp only [St.put]
 rw [hcd]
 refine K2 _ ?_
 refine eg 11 ?_
 simp only [dj, bq, Nat.reduceAdd, List.getD_cons_zero, List.getD_cons_succ, List.getD_nil, dw, Nat.reduceBEq, cond_true, cond_false]
 refine mi (X := Unit) (fun _ => True) (fun _ => [(6, .v (.int .i64 (ii l cf : Int)))]) (fun _ G' => G') rfl ?_ (fun _ _ _ _ h => .inl h) ?_ ?_
 ·rintro _ hI
  exact zL
 ·refine yS fun _ K4 => ?_
  refine yR ?_
  refine yM rfl rfl ?_
  refine aa rfl (cr rfl rfl rfl) ?_
  refine yN ?_
  dsimp only [St.put]
  refine K4 _ ?_
  refine al rfl (fun hc => ?_) (fun hc => ?_)
  ·try replace hc := of_decide_eq_true hc
   refine yR ?_
   refine yM rfl rfl ?_
   refine aa rfl (ck rfl rfl (List.length_map _)) ?_
   refine yA rfl rfl ?_
   refine yN ?_
   dsimp only [St.put]
   refine ⟨(), trivial, ?_⟩
   first
    | (rw [show (l.length : Int) = (ii l cf : Int) by split at hc <;> omega]; exact ⟨⟨rfl, rfl⟩, zF, zB, zN, zX⟩)
    | (rw [show (if ii l cf < l.length then (ii l cf : Int) else -1) = (ii l cf : Int) by split at hc <;> first | rfl | omega]; exact ⟨⟨rfl, rfl⟩, zF, zB, zN, zX⟩)
  try replace hc := of_decide_eq_false hc
  refine aw ?_
  refine ⟨(), trivial, ?_⟩
  first
   | (rw [show (l.length : Int) = (ii l cf : Int) by split at hc <;> omega]; exact ⟨⟨rfl, rfl⟩, zF, zB, zN, zX⟩)
   | (rw [show (if ii l cf < l.length then (ii l cf : Int) else -1) = (ii l cf : Int) by split at hc <;> first | rfl | omega]; exact ⟨⟨rfl, rfl⟩, zF, zB, zN, zX⟩)
 rintro _ hst
 dsimp only at hst ⊢
 refine yS fun _ K5 => ?_
 refine yR ?_
 refine yM rfl rfl ?_
 refine yM rfl rfl ?_
 refine aa rfl (ip rfl rfl rfl (by omega)) ?_
 refine aa rfl (sw rfl rfl rfl rfl) ?_
 refine yM rfl rfl ?_
 refine aa rfl (ck rfl rfl (List.length_map _)) ?_
 refine yM rfl rfl ?_
 refine aa rfl (bw rfl rfl rfl (by omega)) ?_
 refine aa rfl (vj rfl rfl rfl rfl) ?_
 refine aa rfl (ugw (k := ii l cf - 1) (k' := min l.length (ii l cf + 1)) rfl rfl rfl (by omega) rfl (by omega) (by omega) (by omega) (by decide)) ?_
 try dsimp only [St.put]
 refine ae rfl (bd rfl rfl rfl (ukt (k8 l (ii l cf)) (by have := ul1 l (ii l cf); omega)) ?_)
 refine yA rfl rfl ?_
 refine yN ?_
 dsimp only [St.put]
 refine K5 _ ?_
 refine yS fun _ K6 => ?_
 refine yS fun _ K7 => ?_
 refine yR ?_
 refine yM rfl rfl ?_
 refine aa rfl (ck rfl rfl (List.length_map _)) ?_
 refine aa rfl (g3 rfl rfl rfl) ?_
 refine yN ?_
 dsimp only [St.put]
 refine K7 _ ?_
 refine al rfl (fun hc => ?_) (fun hc => ?_)
 ·have hb0 : k8 l (ii l cf) = [] := List.eq_nil_of_length_eq_zero (by have := of_decide_eq_true hc; omega)
  refine yS fun _ K8 => ?_
  refine yR ?_
  refine yA rfl rfl ?_
  refine yA rfl rfl ?_
  refine yN ?_
  dsimp only [St.put]
  refine K8 _ ?_
  refine am ?_
  refine dv rfl (cj (by constructor)) (cj (by constructor)) zN zS ?_ ?_
  ·rw [hb0]
   exact zW
  exact Wk.of_eq (vi (by simp [pf, hb0]))
 have hb0 : k8 l (ii l cf) ≠ [] := fun e => by rw [e] at hc; simp at hc
 refine aw ?_
 refine K6 _ ?_
 refine yS fun _ K9 => ?_
 refine yR ?_
 refine yM rfl rfl ?_
 refine yA rfl rfl ?_
 refine yA rfl rfl ?_
 refine yN ?_
 dsimp only [St.put]
 refine K9 _ ?_
 refine am ?_
 refine dv rfl (cj (by constructor)) (cj (by constructor)) zN zS ?_ ?_
 ·exact zW
 exact Wk.of_eq (vi (by simp [pf, hb0]))
end Go.Proofs.YtjjklfgpffgnfaaGreatDoor

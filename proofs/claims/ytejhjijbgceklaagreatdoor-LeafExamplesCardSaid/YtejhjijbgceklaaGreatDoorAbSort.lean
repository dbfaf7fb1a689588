/-
 What only reads leaves the world as it was, but for draws and new blocks; so slices of the frame's own are sorted in place by what only reads.
-/
import Derived.Test.YtejhjijbgceklaaGreatDoorEngB
import Derived.Shelf.SlSortCmp.NoneTotal
namespace Go.AB
open Go Go.RowKit Go.Proofs
open Go.AB.Enc (cells)

/-! ### Some names alone -/
def Env.only (E : Env) (p : Nat → Bool) : Env := { E with T := fun k => if p k then E.T k else none }
theorem Env.only_of {E : Env} {p : Nat → Bool} {n : Nat} {t : Nat × Nat × Value} (h : (E.only p).T n = some t) : E.T n = some t ∧ p n = true := by
 simp only [Env.only] at h
 split at h
 ·rename_i hp; exact ⟨h, hp⟩
 ·cases h
theorem Env.only_same {E : Env} {p : Nat → Bool} {n : Nat} (h : p n = true) : (E.only p).T n = E.T n := by simp only [Env.only]; rw [if_pos h]
theorem EvR.only (E : Env) (p : Nat → Bool) {w w' : World} (hc : ∀ b i, i < E.L b → w'.cell? ⟨b, i, none⟩ = w.cell? ⟨b, i, none⟩) : EvR E w (E.only p) w' :=
 ⟨rfl, fun _ => Nat.le_refl _, hc, Nat.le_refl _, fun _ _ ver wv val ht => ⟨ver, wv, val, (Env.only_of ht).1, Nat.le_refl _, fun _ => rfl⟩⟩
theorem SimG.move {E E' : Env} {w w' : World} {G G' : Nat → Option GObj} {nx : Nat} (h : SimG E w G nx) (he : EvR E w E' w') (hnx : E'.nx = E.nx) (hsz : w.heap.size ≤ w'.heap.size) (hL : E'.L = E.L)
  (hT : ∀ n t, E'.T n = some t → E.T n = some t) (hG : ∀ n o, G' n = some o → G n = some o ∧ E'.T n = E.T n) (hh : ∀ n t b, E'.T n = some t → blk t.2.2 = some b → w'.heap[b]? = w.heap[b]?) : SimG E' w' G' nx := by
 have hB := he.B
 refine ⟨hnx.trans h.nx, fun n o ho => ?_, fun n t ht => hnx ▸ h.lt n t (hT n t ht), fun n ver wv val b h1 h2 => ?_, fun n m t t' b h1 h2 => h.ap n m t t' b (hT _ _ h1) (hT _ _ h2), fun b hb => ?_, ?_⟩
 ·obtain ⟨h1, h2⟩ := hG n o ho
  exact (h.obj n o h1).keepr he h2 fun ver wv val b h3 h4 => ⟨hh n _ b (h2.trans h3) h4, by rw [hL]⟩
 ·have := h.tb n ver wv val b (hT n _ h1) h2
  rw [hB]
  exact ⟨this.1, Nat.lt_of_lt_of_le this.2 hsz⟩
 ·rw [hL]; exact h.fresh b (Nat.le_trans hsz hb)
 ·rw [hB]; exact Nat.le_trans h.base hsz
theorem ObjOk.tags {E E' : Env} {w w' : World} {n : Nat} {o : GObj} {ver wv : Nat} {val : Value} (h : ObjOk E w n o) (ht : E.T n = some (ver, wv, val)) (h' : ObjOk E' w' n o) : ∃ val', E'.T n = some (ver, wv, val') := by
 cases o with
 | fact v c => have := h.1; rw [ht] at this; cases this; exact ⟨_, h'.1⟩
 | raw wv o => obtain ⟨b, q, _⟩ := h; obtain ⟨b', q', _⟩ := h'; rw [ht] at q; cases q; exact ⟨_, q'⟩
 | map wv ok f => obtain ⟨b, _, _, q, _⟩ := h; obtain ⟨b', _, _, q', _⟩ := h'; rw [ht] at q; cases q; exact ⟨_, q'⟩
 | box wv cs => obtain ⟨b, _, _, q, _⟩ := h; obtain ⟨b', _, _, q', _⟩ := h'; rw [ht] at q; cases q; exact ⟨_, q'⟩
 | arr v wv tt sz len cs => obtain ⟨b, _, q, _⟩ := h; obtain ⟨b', _, q', _⟩ := h'; rw [ht] at q; cases q; exact ⟨_, q'⟩
 | tip len tt sz => obtain ⟨b, _, q, _⟩ := h; obtain ⟨b', _, q', _⟩ := h'; rw [ht] at q; cases q; exact ⟨_, q'⟩

/-! ### The world behind what only reads -/
theorem grow_of {w w' : World} (h1 : w'.os = w.os) (h2 : w'.tape = w.tape) (h3 : w'.output = w.output) (hd : w.drawn ≤ w'.drawn) (hh : ∀ (b : Nat) (o : Obj), w.heap[b]? = some o → w'.heap[b]? = some o) : ∃ q os, w' = Sort.grow (w.drewN q) os := by
 have hsz : w.heap.size ≤ w'.heap.size := by
  rcases Nat.eq_zero_or_pos w.heap.size with h | h
  ·omega
  ·have h4 := hh (w.heap.size - 1) _ (Array.getElem?_eq_getElem (by omega))
   have := (Array.getElem?_eq_some_iff.1 h4).1
   omega
 have e : w'.heap = w.heap ++ (w'.heap.toList.drop w.heap.size).toArray := by
  apply Array.ext_getElem?
  intro k
  rw [Array.getElem?_append]
  split
  ·rename_i hk
   rw [Array.getElem?_eq_getElem hk]
   exact hh k _ (Array.getElem?_eq_getElem hk)
  ·rename_i hk
   have e3 : (w'.heap.toList.drop w.heap.size).toArray[k - w.heap.size]? = w'.heap[k]? := by
    rw [List.getElem?_toArray, List.getElem?_drop, Array.getElem?_toList]
    congr 1
    omega
   exact e3.symm
 refine ⟨w'.drawn - w.drawn, (w'.heap.toList.drop w.heap.size).toArray, ?_⟩
 cases w with
 | mk heap tape drawn os output =>
 cases w' with
 | mk heap' tape' drawn' os' output' =>
  simp only at h1 h2 h3 hd e
  subst h1; subst h2; subst h3
  simp only [Sort.grow, World.drewN, World.mk.injEq]
  exact ⟨e, trivial, by omega, trivial, trivial⟩

theorem exact_of_pc {P : Program} {g : FuncId} {cs : List C} {G : Nat → Option GObj} {nx : Nat} {r : C} (hp : PC P g cs G nx fun r' G' nx' => r' = r ∧ G' = G ∧ nx' = nx) {E : Env} {w : World} {vs : List Value} (hr : Rs E w cs vs) (hg : SimG E w G nx) :
  Calls P g vs.toArray w fun e w' => ∃ v E', e = .returned v ∧ R E' w' r v ∧ ∃ q os, w' = Sort.grow (w.drewN q) os := by
 have he : EvR E w (E.only fun n => (G n).isSome) w := EvR.only E _ fun _ _ _ => rfl
 have hg2 : SimG (E.only fun n => (G n).isSome) w G nx := hg.move he rfl (Nat.le_refl _) rfl (fun n t ht => (Env.only_of ht).1) (fun n o ho => ⟨ho, Env.only_same (by rw [ho]; rfl)⟩) (fun _ _ _ _ _ => rfl)
 refine (calls_ge (fun e w' ⟨_, v, _, _, _, h, _⟩ => ⟨v, h⟩) (hp _ w vs (hr.evr he) hg2)).mono ?_
 rintro e w' ⟨⟨r', v, E', G', nx', rfl, hev, hrv, hg', h5, h6, h7⟩, hd⟩
 subst h5; subst h6; subst h7
 refine ⟨v, E', rfl, hrv, grow_of hev.below.os hev.below.tape hev.below.output hd fun b o hb => ?_⟩
 by_cases ht : ∃ n t, (E.only fun n => (G' n).isSome).T n = some t ∧ blk t.2.2 = some b
 ·obtain ⟨n, ⟨ver, wv, val⟩, ht, hbl⟩ := ht
  obtain ⟨o', ho'⟩ := Option.isSome_iff_exists.1 (Env.only_of ht).2
  obtain ⟨val', hT'⟩ := (hg2.obj n o' ho').tags ht (hg'.obj n o' ho')
  obtain ⟨ver0, wv0, val0, q1, q2, q3⟩ := hev.T n (hg2.lt n _ ht) _ _ _ hT'
  rw [ht] at q1
  cases q1
  exact ((q3 rfl).2 rfl b hbl).trans hb
 ·exact hev.x.oth b o hb fun n t ht' hbl => ht ⟨n, t, ht', hbl⟩

/-! ### Cells that are values -/
def plainV : C → Value
 | .v x => x
 | _ => undef
def Plain (cs : List C) : Prop := ∀ c ∈ cs, ∃ x, c = .v x ∧ okV x = true
theorem Plain.one {cs : List C} (h : Plain cs) : ∀ v ∈ cs.map plainV, v.oneCell' = true := fun v hv => by
 obtain ⟨c, hc, rfl⟩ := List.mem_map.1 hv
 obtain ⟨x, rfl, hx⟩ := h c hc
 exact okV_one hx

/-- An order of what p holds of. -/
structure Ord3 {β : Type} (p : β → Prop) (cf : β → β → Int) : Prop where
 irrefl : ∀ x, p x → ¬ cf x x < 0
 trans : ∀ x y z, p x → p y → p z → cf x y < 0 → cf y z < 0 → cf x z < 0
 ntrans : ∀ x y z, p x → p y → p z → ¬ cf x y < 0 → ¬ cf y z < 0 → ¬ cf x z < 0

end Go.AB

/-
 Slices without room: what is appended to them is copied.
-/
import Derived.Test.YtjjklfgpffgnfaaGreatDoorEngB
import Derived.Laws.Cover3
namespace Go.AB
open Go Go.RowKit
open Go.AB.Enc (cells)
section
variable {P : Program} {o : Oper} {st : St} {K : St → Prop}
theorem R.part {E : Env} {w : World} {rows : List (List C)} {tok : Tok} {a : Option Addr} {n cap sz : Nat} (h : R E w (.list rows tok) (.slice a n cap)) (hsz : ∀ r ∈ rows, r.length = sz) (hsz1 : 1 ≤ sz) {k k' : Nat} (hkk : k ≤ k') (hk : k' ≤ rows.length) : R E w (.list ((rows.take k').drop k) .none) (.slice (if cap = k then a else a.map (·.add (k * sz))) (k' - k) (cap - k)) := by
 obtain ⟨a', cap', sz', us, e, h1, h2, h3, h4, h5, h6, h7, _⟩ := R.list_inv h
 simp only [Value.slice.injEq] at e
 obtain ⟨rfl, rfl, rfl⟩ := e
 have hl : ((rows.take k').drop k).length = k' - k := by rw [List.length_drop, List.length_take]; omega
 rw [← hl]
 by_cases hkk2 : k' = k
 ·subst hkk2
  rw [show (rows.take k').drop k' = [] from List.drop_eq_nil_of_le (by rw [List.length_take]; omega)]
  exact R.mk_list (rows := []) (sz := 1) (us := []) (Nat.zero_le _) (by omega) (Nat.le_refl _) (by simp) (by simp) Rs.nil (.inl rfl) (by simp) (by simp) (by simp)
 ·have hne : rows ≠ [] := fun e => by subst e; simp at hk; omega
  obtain ⟨b, off, rfl, k1, k2⟩ := h7.resolve_left hne
  have hcap : ¬ cap = k := by omega
  rw [if_neg hcap]
  have hfl : rows.flatten = (rows.take k).flatten ++ (((rows.take k').drop k).flatten ++ (rows.drop k').flatten) := by
   rw [← List.flatten_append, ← List.flatten_append]
   congr 1
   rw [← List.append_assoc, show rows.take k = (rows.take k').take k by rw [List.take_take, Nat.min_eq_left hkk], List.take_append_drop, List.take_append_drop]
  have e1 : (rows.take k).flatten.length = k * sz := by rw [ka fun r hr => hsz r (List.mem_of_mem_take hr), List.length_take]; congr 1; omega
  have e2 : ((rows.take k').drop k).flatten.length = (k' - k) * sz := by rw [ka fun r hr => hsz r (List.mem_of_mem_take (List.mem_of_mem_drop hr)), hl]
  have hul : us.length = rows.length * sz := by rw [h6.1]; exact ka hsz
  have hmul : k * sz + (k' - k) * sz ≤ rows.length * sz := by rw [← Nat.add_mul]; exact Nat.mul_le_mul_right _ (by omega)
  have hfd : ((rows.take k').drop k).flatten = (rows.flatten.drop (k * sz)).take ((k' - k) * sz) := by
   rw [hfl, ← e1, List.drop_left, ← e2, List.take_left]
  rw [Option.map_some, mw]
  refine R.mk_list (rows := (rows.take k').drop k) (a := some ⟨b, off + k * sz, none⟩) (cap := cap - k) (sz := sz) (tok := .none) (us := (us.drop (k * sz)).take ((k' - k) * sz)) (by rw [hl]; omega) (by omega) hsz1 (fun r hr => hsz r (List.mem_of_mem_take (List.mem_of_mem_drop hr))) (fun r hr => h5 r (List.mem_of_mem_take (List.mem_of_mem_drop hr))) (by rw [hfd]; exact (h6.dropn _).take _) (.inr ⟨b, off + k * sz, rfl, ?_, fun j u hu => ?_⟩) (by simp) (by simp) (by simp)
  ·rw [List.length_take, List.length_drop]
   have hx : off + rows.length * sz ≤ E.L b := by rw [← hul]; exact k1
   omega
  ·rw [List.getElem?_take] at hu
   split at hu
   ·rw [List.getElem?_drop] at hu
    rw [Nat.add_assoc]
    exact k2 _ _ hu
   ·cases hu
theorem ugx {t e : TypeId} {sz : Nat} {ag : Bool} [Elt P t e] [Ty P e ag sz] {x y z : Operand} {rows : List (List C)} {tok : Tok} {ik ik' : IntKind} {n n' : Int} {k k' : Nat} (ho : o.op = .slice t x (some y) (some z) none) (hx : evC st x = .list rows tok) (hy : evC st y = .v (.int ik n)) (hn : n = (k : Int)) (hz : evC st z = .v (.int ik' n')) (hn' : n' = (k' : Int)) (hkk : k ≤ k') (hk : k' ≤ rows.length)
  (hsz : ∀ r ∈ rows, r.length = sz) (hsz1 : 1 ≤ sz) : NStep P o st (.list ((rows.take k').drop k) .none) := fun E w a hs => by
 subst hn; subst hn'
 have hr := hx ▸ hs.ev x
 have e1 := (hy ▸ hs.ev y).v_inv
 have e2 := (hz ▸ hs.ev z).v_inv
 obtain ⟨ad, cap, _, _, hv, h1, _, _, _, _, _, h7, _⟩ := R.list_inv hr
 have q1 := Elt.spec (P := P) (t := t) (e := e)
 have hel : P.elem t = e := by simp [Program.elem, q1]
 have q2 := fun w => Ty.size (P := P) (w := w) (t := e) (ag := ag) (n := sz)
 refine ⟨_, (hv ▸ hr).part hsz hsz1 hkk hk, fun w' => ?_⟩
 have hs1 := run_slice_lh (P := P) (w := w') t ad rows.length cap (by rw [hel]; exact q1) ik ik' (k : Int) (k' : Int) (by omega) (by omega) (by omega)
 have hs2 := run_sliceAt_slice (P := P) (w := w') t (.slice ad rows.length cap) (some (.int ik (k : Int))) (some (.int ik' (k' : Int))) none (by rw [hel]; exact q1)
 simp only [execOp, ho, hv, e1, e2, Option.map_none, Option.map_some, Sem.run_bind, hs2, hs1, hel, q2, Result.andThen_ok, sliced, Int.toNat_natCast]
 rfl
/-- Whether a slice is nil: it is not, if something is in it. -/
theorem uj1 {t t' e : TypeId} [Elt P t e] {x : Operand} {rows : List (List C)} {tok : Tok} (ho : o.op = .binOp .eql t x (.const (.slice none 0 0)) t') (hx : evC st x = .list rows tok) (h : ∀ b : Bool, (rows ≠ [] → b = false) → K (st.put o.dst (.v (.bool b)))) : EStep P o st K :=
 mf fun E w a hsim => by
  have hr := hx ▸ hsim.ev x
  obtain ⟨ad, cap, _, _, hv, h1, _, _, _, _, _, h7, _⟩ := R.list_inv hr
  have q1 := Elt.spec (P := P) (t := t) (e := e)
  refine ⟨.bool ad.isNone, w, E, st.G, st.nx, .v (.bool ad.isNone), ?_, Ev.refl E w, .v rfl, hsim.g, h _ fun hne => ?_⟩
  ·have hq := run_equal_slice_nil (P := P) w t e ad rows.length cap q1
   have he2 : a.eval (.const (.slice none 0 0)) = .slice none 0 0 := rfl
   simp [execOp, ho, hv, he2, eqGuard, binOp, hq]
  ·obtain ⟨b, off, rfl, _⟩ := h7.resolve_left hne
   rfl
end
section
variable {ρ : Option Nat} {P : Program} {st : St} {Q : Exit → St → Prop}
end
end Go.AB

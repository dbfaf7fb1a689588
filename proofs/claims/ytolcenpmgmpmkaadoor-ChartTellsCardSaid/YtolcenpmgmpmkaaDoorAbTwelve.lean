/-
  Weaker readings of a value, and results that are read out of variables.
-/
import Derived.Test.YtolcenpmgmpmkaaDoorAbEleven
namespace Go.AB
open Go
open Go.AB.Enc (cells)
variable {ρ : Option Nat}

/-- What stands for a value by c stands for it by c'. -/
def Wk (c c' : C) : Prop := c'.one = c.one ∧ ∀ E w v, R E w c v → R E w c' v
theorem Wk.refl (c : C) : Wk c c := ⟨rfl, fun _ _ _ h => h⟩
theorem Wk.of_eq {c c' : C} (h : c = c') : Wk c c' := h ▸ Wk.refl c
theorem Wk.trans {a b c : C} (h : Wk a b) (k : Wk b c) : Wk a c := ⟨k.1.trans h.1, fun E w v q => k.2 E w v (h.2 E w v q)⟩
theorem Wk.tok {rows : List (List C)} {tok : Tok} : Wk (.list rows tok) (.list rows .none) :=
  ⟨rfl, fun E w v h => by cases h with | list h1 h2 h3 h4 h5 h6 h7 _ _ _ => exact .list h1 h2 h3 h4 h5 h6 h7 (by simp) (by simp) (by simp)⟩
/-- Cell by cell. -/
def Wks : List C → List C → Prop
  | [], [] => True
  | c :: cs, d :: ds => Wk c d ∧ Wks cs ds
  | _, _ => False
theorem Wks.len : ∀ {cs ds : List C}, Wks cs ds → cs.length = ds.length
  | [], [], _ => rfl
  | c :: cs, d :: ds, h => by simp [Wks.len h.2]
  | [], d :: ds, h => h.elim
  | c :: cs, [], h => h.elim
theorem Wks.get : ∀ {cs ds : List C}, Wks cs ds → ∀ (j : Nat) (d : C), ds[j]? = some d → ∃ c, cs[j]? = some c ∧ Wk c d
  | [], [], _, j, d, h => by simp at h
  | c :: cs, d :: ds, h, 0, e, he => by simp at he; exact ⟨c, by simp, he ▸ h.1⟩
  | c :: cs, d :: ds, h, j + 1, e, he => by simpa using Wks.get h.2 j e (by simpa using he)
  | [], d :: ds, h, _, _, _ => h.elim
  | c :: cs, [], h, _, _, _ => h.elim
theorem Wks.refl : ∀ cs : List C, Wks cs cs
  | [] => trivial
  | c :: cs => ⟨Wk.refl c, Wks.refl cs⟩
theorem Wks.one {cs ds : List C} (h : Wks cs ds) (ho : ∀ c ∈ cs, c.one = true) : ∀ d ∈ ds, d.one = true := fun d hd => by
  obtain ⟨j, hj⟩ := List.mem_iff_getElem?.1 hd
  obtain ⟨c, hc, k⟩ := h.get j d hj
  rw [k.1]; exact ho c (List.mem_of_getElem? hc)
theorem Wk.agg {cs ds : List C} (h : Wks cs ds) : Wk (.agg cs) (.agg ds) :=
  ⟨rfl, fun E w v q => by
    cases q with
    | agg h1 h2 h3 h4 =>
      refine .agg (by rw [h1, h.len]) (h.one h2) (fun j d hd => ?_) (fun j hj => h4 j (by rw [h.len]; exact hj))
      obtain ⟨c, hc, k⟩ := h.get j d hd
      exact k.2 _ _ _ (h3 j c hc)⟩
theorem Wk.elem {cs ds : List C} (h : Wks cs ds) : Wk (.elem cs) (.elem ds) :=
  ⟨rfl, fun E w v q => by
    cases q with
    | elem h1 h2 h3 h4 =>
      refine .elem (fun e => h1 (by subst e; exact List.eq_nil_of_length_eq_zero (by rw [h.len]; rfl))) (h.one h2) (by rw [← h.len]; exact h3) (fun j d hd => ?_)
      obtain ⟨c, hc, k⟩ := h.get j d hd
      exact k.2 _ _ _ (h4 j c hc)⟩
section
variable {P : Program} {st : St}
theorem RV.wk {rv : ResultVar} {c c' : C} (h : RV P st rv c) (k : Wk c c') : RV P st rv c' := fun E w a hs => by
  obtain ⟨v, h1, h2⟩ := h E w a hs
  exact ⟨v, h1, k.2 _ _ _ h2⟩
theorem ends_v1 {fn : Func} {r1 : ResultVar} {r c1 : C} {G : Nat → Option GObj} {nx : Nat} (hf : fn.results = #[r1]) (h1 : RV P st r1 c1) (hn : nx ≤ st.nx) (hG : ∀ n o, G n = some o → st.G n = some o) (e1 : Wk c1 r) : Ends P fn r G nx .ret st :=
  ⟨resC_1 hf (h1.wk e1), hn, hG⟩
theorem ends_v2 {fn : Func} {r1 r2 : ResultVar} {r s c1 c2 : C} {G : Nat → Option GObj} {nx : Nat} (hf : fn.results = #[r1, r2]) (h1 : RV P st r1 c1) (h2 : RV P st r2 c2) (hn : nx ≤ st.nx) (hG : ∀ n o, G n = some o → st.G n = some o) (e1 : Wk c1 r) (e2 : Wk c2 s) : Ends P fn (.tup [r, s]) G nx .ret st :=
  ⟨resC_2 hf (h1.wk e1) (h2.wk e2), hn, hG⟩
end
section
variable {P : Program} {Q : Exit → St → Prop} {st : St}
/-- A variable's cells, read more weakly. -/
theorem aw_weak {c : Code} (n wv : Nat) {cs : List C} (ds : List C) (hG : st.G n = some (.box wv cs)) (hw : Wks cs ds) (h : AW ρ P c Q { st with G := setG st.G n (.box wv ds) }) : AW ρ P c Q st := by
  intro E w a hs
  obtain ⟨b, us, tt, hT, hh, hone, hr, hL⟩ := hs.g.obj n _ hG
  refine h E w a ⟨hs.d, hs.sz, hs.t, ⟨hs.g.nx, fun k o ho => ?_, hs.g.lt, hs.g.tb, hs.g.ap, hs.g.fresh, hs.g.base⟩⟩
  simp only [setG] at ho
  split at ho
  · rename_i ek
    subst ek
    simp only [Option.some.injEq] at ho
    subst ho
    refine ⟨b, us, tt, hT, hh, hw.one hone, ⟨by rw [hr.1, hw.len], fun j c v hc hv => ?_⟩, hL⟩
    obtain ⟨c', hc', k⟩ := hw.get j c hc
    exact k.2 _ _ _ (hr.2 j c' v hc' hv)
  · exact hs.g.obj k o ho
end
theorem sameD_nil {st st' : St} : SameD [] st st' := fun n h => absurd h (by simp)
theorem sameD_cons {st st' : St} {D : List Nat} {n : Nat} {o o' : GObj} (h1 : st.G n = some o) (h2 : st'.G n = some o') (h3 : stamp o = stamp o') (h : SameD D st st') : SameD (n :: D) st st' := fun m hm => by
  rcases List.mem_cons.1 hm with rfl | hm
  · exact ⟨_, _, h1, h2, h3⟩
  · exact h m hm
end Go.AB

/-
  The short words of the walks: what is shown in one and the same way at every step.
-/
import Derived.Test.YtolcenpmgmpmkaaDoorAbConv
namespace Go.AB
open Go Go.RowKit
open Go.AB.Enc (cells)
theorem zG {p : Prop} (h : p := by (try dsimp only); repeat (first | exact setG_same _ _ _ | assumption | rw [setG_other (by omega)] | rw [delG_other (by omega)])) : p := h
theorem zN {p : Prop} (h : p := by first | exact Nat.le_refl _ | omega | (simp; try omega)) : p := h
theorem zS {p : Prop} (h : p := by intro n o h; first | exact h | (have := hlt n o h; (try dsimp only); repeat (first | exact h | rw [setG_other (by omega)] | rw [delG_other (by omega)]))) : p := h
theorem zX {p : Prop} (h : p := by (repeat' (refine subG_set (by (try dsimp only); repeat (first | exact setG_same _ _ _ | assumption | rw [setG_other (by omega)] | rw [delG_other (by omega)])) ?_)); (intro n o h; first | exact h | (have := hlt n o h; (try dsimp only); repeat (first | exact h | rw [setG_other (by omega)] | rw [delG_other (by omega)])))) : p := h
theorem zL {p : Prop} (h : p := by (try dsimp only); repeat' (first | exact trivial | refine ⟨?_, ?_⟩ | exact .v | exact .any | refine .elem ?_ | exact lst_low _ _ | exact cells_low _ _ | exact val_low _ _ | exact data_low _ (by (try dsimp only); omega) | exact .box (by (try dsimp only); omega) | exact nil_low | exact low_nil | refine set_low ?_ ?_ | exact .arr (by (try dsimp only); omega) | exact .own (by (try dsimp only); omega) | exact .map (by (try dsimp only); omega) | exact flatC_low _ | refine low_cons ?_ ?_ | exact lst_low _ _)) : p := h
theorem zH {p : Prop} (h : p := by (repeat' (refine lowG_set ?_ (by (try dsimp only); omega) ?_)); all_goals (first | exact lowG_base (by intro n o h; first | exact h | (have := hlt n o h; (try dsimp only); repeat (first | exact h | rw [setG_other (by omega)] | rw [delG_other (by omega)]))) | (repeat' (first | exact trivial | refine ⟨?_, ?_⟩ | exact .v | exact .any | refine .elem ?_ | exact lst_low _ _ | exact cells_low _ _ | exact val_low _ _ | exact data_low _ (by (try dsimp only); omega) | exact .box (by (try dsimp only); omega) | exact nil_low | exact low_nil | refine set_low ?_ ?_ | exact .arr (by (try dsimp only); omega) | exact .own (by (try dsimp only); omega) | exact .map (by (try dsimp only); omega) | exact flatC_low _ | refine low_cons ?_ ?_ | exact lst_low _ _)))) : p := h
theorem zF {p : Prop} (h : p := by repeat' (first | exact trivial | refine ⟨?_, ?_⟩ | exact .inr rfl | exact .inl rfl | exact .inr (congrArg C.v (congrArg (Value.int _) (by simp; try omega))))) : p := h
theorem zB {p : Prop} (h : p := by first | exact .inl rfl | (refine .inr ?_; repeat' (first | exact trivial | refine ⟨?_, ?_⟩ | exact .inr rfl | exact .inl rfl | exact .inr (congrArg C.v (congrArg (Value.int _) (by simp; try omega)))))) : p := h
theorem zD {p : Prop} (h : p := by repeat (first | exact sameD_nil | refine sameD_cons (by (try dsimp only [St.put]); exact (by (try dsimp only); repeat (first | exact setG_same _ _ _ | assumption | rw [setG_other (by omega)] | rw [delG_other (by omega)]))) (by (try dsimp only [St.put]); exact (by (try dsimp only); repeat (first | exact setG_same _ _ _ | assumption | rw [setG_other (by omega)] | rw [delG_other (by omega)]))) rfl ?_)) : p := h
theorem zA {p : Prop} (h : p := by first | omega | (simp only [List.length_take, List.length_cons, List.length_nil, List.length_append, List.length_map]; omega) | (simp; omega)) : p := h
theorem zR {p : Prop} (h : p := by first | (simp; done) | (intro r hr; simp only [List.mem_cons, List.not_mem_nil, or_false] at hr; first | (subst hr; rfl) | (rcases hr with hr | hr <;> (subst hr; rfl)) | (rcases hr with hr | hr | hr <;> (subst hr; rfl)) | (rcases hr with hr | hr | hr | hr <;> (subst hr; rfl)))) : p := h
theorem zW {p : Prop} (h : p := by repeat' (first | exact Wk.refl _ | exact Wk.tok | refine Wk.agg ?_ | refine ⟨?_, ?_⟩ | exact trivial)) : p := h
end Go.AB

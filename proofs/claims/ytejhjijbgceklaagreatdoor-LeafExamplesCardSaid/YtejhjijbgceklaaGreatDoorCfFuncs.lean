/-
 Contracts of what searches by a function; of numbers in bounds.
-/
import Derived.Test.YtejhjijbgceklaaGreatDoorCdData
import Derived.Test.YtejhjijbgceklaaGreatDoorAbTypes
import Derived.Tactics
namespace Go.AB
/-- where the first one stands of which it is so; -1 if there is none -/
def idxOf {α : Type} (p : α → Bool) (xs : List α) : Int := match xs.findIdx? p with
 | some n => (n : Int)
 | none => -1
theorem idxOf_none {α : Type} {p : α → Bool} {xs : List α} (h : ∀ x ∈ xs, p x = false) : idxOf p xs = -1 := by
 have : xs.findIdx? p = none := List.findIdx?_eq_none_iff.2 h
 simp [idxOf, this]
theorem idxOf_some {α : Type} {p : α → Bool} {xs : List α} {k : Nat} {x : α} (hx : xs[k]? = some x) (hp : p x = true) (h : ∀ y ∈ xs.take k, p y = false) : idxOf p xs = k := by
 have : xs.findIdx? p = some k := by
  rw [List.findIdx?_eq_some_iff_getElem]
  obtain ⟨hlt, rfl⟩ := List.getElem?_eq_some_iff.1 hx
  refine ⟨hlt, hp, fun j hj => ?_⟩
  have := h xs[j] (List.mem_of_getElem? (i := j) (by rw [List.getElem?_take, if_pos hj, List.getElem?_eq_getElem (by omega)]))
  simp [this]
 simp [idxOf, this]
theorem idxOf_any {α : Type} {p : α → Bool} {xs : List α} : decide (0 ≤ idxOf p xs) = xs.any p := by
 unfold idxOf
 cases h : xs.findIdx? p with
 | none =>
  have h1 := List.findIdx?_eq_none_iff.1 h
  have : xs.any p = false := by rw [List.any_eq_false]; intro x hx; simp [h1 x hx]
  rw [this]; simp
 | some n =>
  rw [List.findIdx?_eq_some_iff_getElem] at h
  obtain ⟨hlt, hp, _⟩ := h
  have : xs.any p = true := List.any_eq_true.2 ⟨_, List.getElem_mem hlt, hp⟩
  rw [this]; simp
def outB (n lo hi : Int) : Bool := decide (n < lo) || decide (hi < n)
def inAll (lo hi : Int) (xs : List Int) : Bool := !xs.any fun n => outB n lo hi
theorem outB_inB (n lo hi : Int) : (!outB n lo hi) = inB n lo hi := by
 simp only [outB, inB, Bool.not_or]
 rw [← decide_not, ← decide_not]
 congr 1 <;> (congr 1; simp)
theorem inAll_one {lo hi n : Int} : inAll lo hi [n] = inB n lo hi := by rw [← outB_inB]; simp [inAll]
end Go.AB
namespace Go.Proofs.YtejhjijbgceklaaGreatDoor
set_option maxRecDepth 10000
open Go.RowKit Go.AB
open Go.AB.Enc (cells)
open Go.PB (Chap TextD PlaceD ReadingD CopyD WayD)

theorem IndexInt_pure (xs : List Int) (p : Int → Bool) (k : Nat) (caps : List C) [Fun Tryz.prog k] (hp : ∀ x ∈ xs, Pure Tryz.prog k (.v (.int .i64 x) :: caps) (.v (.bool (p x)))) : Pure Tryz.prog 86 [lst xs, .fn (.func k) caps] (.v (.int .i64 (idxOf p xs))) := by
 refine pure_of_body Tryz.func86 rfl (fun m => .v) fun G nx => ?_
 simp only [Tryz.ntmps86, List.length_cons, List.length_nil, Nat.reduceAdd, Nat.reduceSub]
 refine aw_lt fun hlt => ?_
 dsimp only at hlt
 refine aw_fit 0 (fun hf => ?_)
 replace hf := (fit_lst.1 hf).1
 refine yS fun _ K1 => ?_
 refine yR ?_
 refine yA rfl rfl ?_
 refine yN ?_
 dsimp only [St.put]
 refine K1 _ ?_
 refine yS fun _ K2 => ?_
 refine yS fun _ K3 => ?_
 refine yR ?_
 refine yM rfl rfl ?_
 refine aops_n rfl (n_len' rfl rfl (List.length_map _)) ?_
 refine yM rfl rfl ?_
 refine yN ?_
 dsimp only [St.put]
 refine K3 _ ?_
 refine aw_block ?_
 refine aw_wipe 9 ?_
 simp only [firsts, getA, Nat.reduceAdd, List.getD_cons_zero, List.getD_cons_succ, List.getD_nil, natBeq, Nat.reduceBEq, cond_true, cond_false]
 refine aw_forget (G) zX ?_
 dsimp only
 refine aw_loopD (X := Nat) (fun k => k ≤ xs.length ∧ ∀ y ∈ xs.take k, p y = false) (fun k => xs.length - k) (fun k => [(4, .any), (5, .any), (8, .v (.int .i64 (k : Int)))]) (fun k G' => G') 0 rfl ?_ ?_ (fun _ _ h => h) ?_ ?_ ?_
 ·exact ⟨by simp, by simp⟩
 ·exact zF
 ·rintro k hI
  exact zL
 ·exact fun _ _ _ _ h => .inl h
 rintro k hI
 dsimp only at hI ⊢
 refine yS fun _ K4 => ?_
 refine yR ?_
 refine aops_n rfl (n_lss rfl rfl rfl) ?_
 refine yN ?_
 dsimp only [St.put]
 refine K4 _ ?_
 refine yS fun _ K5 => ?_
 refine aw_cond rfl (fun hc => ?_) (fun hc => ?_)
 ·replace hc := of_decide_eq_true hc
  obtain ⟨x, hx⟩ : ∃ x, xs[k]? = some x := some_of_lt (by omega)
  refine aw_skip ?_
  refine K5 _ ?_
  refine yS fun _ K6 => ?_
  refine aw_block ?_
  refine yS fun _ K7 => ?_
  refine yR ?_
  refine yM rfl rfl ?_
  refine yA rfl rfl ?_
  refine yN ?_
  dsimp only [St.put]
  refine K7 _ ?_
  refine yS fun _ K8 => ?_
  refine yR ?_
  refine yM rfl rfl ?_
  refine yM rfl rfl ?_
  refine yM rfl rfl ?_
  refine aops_n rfl (n_indexAddr rfl rfl rfl rfl (map_get (by assumption)) (Enc.len _)) ?_
  refine yL rfl rfl rfl ?_
  try dsimp only [St.put]
  refine aops_e rfl (e_call_pure rfl rfl rfl (hp x (mem_of_get hx)) ?_)
  refine yN ?_
  dsimp only [St.put]
  refine K8 _ ?_
  refine aw_cond rfl (fun hc => ?_) (fun hc => ?_)
  ·skip
   refine yS fun _ K9 => ?_
   refine yR ?_
   refine yM rfl rfl ?_
   refine yA rfl rfl ?_
   refine yN ?_
   dsimp only [St.put]
   refine K9 _ ?_
   refine aw_ret ?_
   refine ends_1 rfl (by constructor) zN zS ?_
   exact vi (idxOf_some hx hc hI.2).symm
  skip
  refine aw_skip ?_
  refine K6 _ ?_
  refine yR ?_
  refine aops_n rfl (n_add rfl rfl rfl (by omega)) ?_
  refine yM rfl rfl ?_
  refine yN ?_
  dsimp only [St.put]
  exact ⟨k + 1, by omega, ⟨by omega, fun y hy => by
    rw [List.take_add_one, hx] at hy
    simp only [Option.toList_some, List.mem_append, List.mem_singleton] at hy
    rcases hy with hy | rfl
    ·exact hI.2 y hy
    simpa using hc⟩, ⟨⟨rfl, rfl⟩, zF, zB, zN, zX⟩⟩
 try replace hc := of_decide_eq_false hc
 refine aw_exit ?_
 refine K2 _ ?_
 refine yS fun _ K10 => ?_
 refine yR ?_
 refine yA rfl rfl ?_
 refine yN ?_
 dsimp only [St.put]
 refine K10 _ ?_
 refine aw_ret ?_
 refine ends_1 rfl (by constructor) zN zS ?_
 exact vi (by
  rw [idxOf_none]
  have := hI.2
  rwa [take_all (by omega)] at this)

theorem ContainsInt_pure (xs : List Int) (p : Int → Bool) (k : Nat) (caps : List C) [Fun Tryz.prog k] (hp : ∀ x ∈ xs, Pure Tryz.prog k (.v (.int .i64 x) :: caps) (.v (.bool (p x)))) : Pure Tryz.prog 72 [lst xs, .fn (.func k) caps] (.v (.bool (xs.any p))) := by
 refine pure_of_body Tryz.func72 rfl (fun m => .v) fun G nx => ?_
 simp only [Tryz.ntmps72, List.length_cons, List.length_nil, Nat.reduceAdd, Nat.reduceSub]
 refine aw_lt fun hlt => ?_
 dsimp only at hlt
 refine yS fun _ K1 => ?_
 refine yR ?_
 refine yA rfl rfl ?_
 refine yN ?_
 dsimp only [St.put]
 refine K1 _ ?_
 refine yS fun _ K2 => ?_
 refine yR ?_
 refine yM rfl rfl ?_
 refine yM rfl rfl ?_
 try dsimp only [St.put]
 refine aops_e rfl (e_call_pure rfl rfl rfl (IndexInt_pure xs p k caps hp) ?_)
 refine aops_n rfl (n_geq rfl rfl rfl) ?_
 refine yA rfl rfl ?_
 refine yN ?_
 dsimp only [St.put]
 refine K2 _ ?_
 refine aw_ret ?_
 refine ends_1 rfl (by constructor) zN zS ?_
 exact vb idxOf_any

end Go.Proofs.YtejhjijbgceklaaGreatDoor

/-
 Contracts of what searches by a function; of numbers in bounds.
-/
import Derived.Test.YtjjklfgpffgnfaaGreatDoorCdData
import Derived.Test.YtjjklfgpffgnfaaGreatDoorAbTypes
import Derived.Tactics
namespace Go.AB
/-- where the first one stands of which it is so; -1 if there is none -/
def ni {α : Type} (p : α → Bool) (xs : List α) : Int := match xs.findIdx? p with
 | some n => (n : Int)
 | none => -1
theorem wh {α : Type} {p : α → Bool} {xs : List α} (h : ∀ x ∈ xs, p x = false) : ni p xs = -1 := by
 have : xs.findIdx? p = none := List.findIdx?_eq_none_iff.2 h
 simp [ni, this]
theorem wg {α : Type} {p : α → Bool} {xs : List α} {k : Nat} {x : α} (hx : xs[k]? = some x) (hp : p x = true) (h : ∀ y ∈ xs.take k, p y = false) : ni p xs = k := by
 have : xs.findIdx? p = some k := by
  rw [List.findIdx?_eq_some_iff_getElem]
  obtain ⟨hlt, rfl⟩ := List.getElem?_eq_some_iff.1 hx
  refine ⟨hlt, hp, fun j hj => ?_⟩
  have := h xs[j] (List.mem_of_getElem? (i := j) (by rw [List.getElem?_take, if_pos hj, List.getElem?_eq_getElem (by omega)]))
  simp [this]
 simp [ni, this]
theorem wj {α : Type} {p : α → Bool} {xs : List α} : decide (0 ≤ ni p xs) = xs.any p := by
 unfold ni
 cases h : xs.findIdx? p with
 | none =>
  have h1 := List.findIdx?_eq_none_iff.1 h
  have : xs.any p = false := by rw [List.any_eq_false]; intro x hx; simp [h1 x hx]
  rw [this]; simp
 | some n =>
  rw [List.findIdx?_eq_some_iff_getElem] at h
  obtain ⟨hlt, hp, _⟩ := h
  have : xs.any p = true := List.any_eq_true.2 ⟨_, List.getElem_mem hlt, hp⟩
  rw [this]; simp
def l9 (n lo hi : Int) : Bool := decide (n < lo) || decide (hi < n)
def jp (lo hi : Int) (xs : List Int) : Bool := !xs.any fun n => l9 n lo hi
theorem m5 (n lo hi : Int) : (!l9 n lo hi) = inB n lo hi := by
 simp only [l9, inB, Bool.not_or]
 rw [← decide_not, ← decide_not]
 congr 1 <;> (congr 1; simp)
theorem iz {lo hi n : Int} : jp lo hi [n] = inB n lo hi := by rw [← m5]; simp [jp]
theorem wc {lo hi n m : Int} : jp lo hi [n, m] = (inB n lo hi && inB m lo hi) := by rw [← m5, ← m5]; simp [jp]
end Go.AB
namespace Go.Proofs.YtjjklfgpffgnfaaGreatDoor
set_option maxRecDepth 10000
open Go.RowKit Go.AB
open Go.AB.Enc (cells)
open Go.PB (bv ai PlaceD cy c6 cz)

theorem umz (xs : List Int) (p : Int → Bool) (k : Nat) (caps : List C) [Fun Tryz.prog k] (hp : ∀ x ∈ xs, c8 Tryz.prog k (.v (.int .i64 x) :: caps) (.v (.bool (p x)))) : c8 Tryz.prog 120 [lst xs, .fn (.func k) caps] (.v (.int .i64 (ni p xs))) := by
 refine dr Tryz.func120 rfl (fun m => .v) fun G nx => ?_
 simp only [Tryz.ntmps120, List.length_cons, List.length_nil, Nat.reduceAdd, Nat.reduceSub]
 refine bi fun hlt => ?_
 dsimp only at hlt
 refine lz 0 (fun hf => ?_)
 replace hf := (fit_lst.1 hf).1
 refine yS fun _ K1 => ?_
 refine yR ?_
 refine yA rfl rfl ?_
 refine yN ?_
 dsimp only [St.put]
 refine K1 _ ?_
 refine yS fun _ K2 => ?_
 refine yS fun _ K3 => ?_
 refine yR ?_
 refine yM rfl rfl ?_
 refine aa rfl (ck rfl rfl (List.length_map _)) ?_
 refine yM rfl rfl ?_
 refine yN ?_
 dsimp only [St.put]
 refine K3 _ ?_
 refine bn ?_
 refine eg 9 ?_
 simp only [dj, bq, Nat.reduceAdd, List.getD_cons_zero, List.getD_cons_succ, List.getD_nil, dw, Nat.reduceBEq, cond_true, cond_false]
 refine fg (G) zX ?_
 dsimp only
 refine fu (X := Nat) (fun k => k ≤ xs.length ∧ ∀ y ∈ xs.take k, p y = false) (fun k => xs.length - k) (fun k => [(4, .any), (5, .any), (8, .v (.int .i64 (k : Int)))]) (fun k G' => G') 0 rfl ?_ ?_ (fun _ _ h => h) ?_ ?_ ?_
 ·exact ⟨by simp, by simp⟩
 ·exact zF
 ·rintro k hI
  exact zL
 ·exact fun _ _ _ _ h => .inl h
 rintro k hI
 dsimp only at hI ⊢
 refine yS fun _ K4 => ?_
 refine yR ?_
 refine aa rfl (cr rfl rfl rfl) ?_
 refine yN ?_
 dsimp only [St.put]
 refine K4 _ ?_
 refine yS fun _ K5 => ?_
 refine al rfl (fun hc => ?_) (fun hc => ?_)
 ·replace hc := of_decide_eq_true hc
  obtain ⟨x, hx⟩ : ∃ x, xs[k]? = some x := fj (by omega)
  refine aw ?_
  refine K5 _ ?_
  refine yS fun _ K6 => ?_
  refine bn ?_
  refine yS fun _ K7 => ?_
  refine yR ?_
  refine yM rfl rfl ?_
  refine yA rfl rfl ?_
  refine yN ?_
  dsimp only [St.put]
  refine K7 _ ?_
  refine yS fun _ K8 => ?_
  refine yR ?_
  refine yM rfl rfl ?_
  refine yM rfl rfl ?_
  refine yM rfl rfl ?_
  refine aa rfl (b7 rfl rfl rfl rfl (cm (by assumption)) (Enc.len _)) ?_
  refine yL rfl rfl rfl ?_
  try dsimp only [St.put]
  refine ae rfl (bd rfl rfl rfl (hp x (gr hx)) ?_)
  refine yN ?_
  dsimp only [St.put]
  refine K8 _ ?_
  refine al rfl (fun hc => ?_) (fun hc => ?_)
  ·skip
   refine yS fun _ K9 => ?_
   refine yR ?_
   refine yM rfl rfl ?_
   refine yA rfl rfl ?_
   refine yN ?_
   dsimp only [St.put]
   refine K9 _ ?_
   refine am ?_
   refine bf rfl (by constructor) zN zS ?_
   exact vi (wg hx hc hI.2).symm
  skip
  refine aw ?_
  refine K6 _ ?_
  refine yR ?_
  refine aa rfl (bw rfl rfl rfl (by omega)) ?_
  refine yM rfl rfl ?_
  refine yN ?_
  dsimp only [St.put]
  exact ⟨k + 1, by omega, ⟨by omega, fun y hy => by
    rw [List.take_add_one, hx] at hy
    simp only [Option.toList_some, List.mem_append, List.mem_singleton] at hy
    rcases hy with hy | rfl
    ·exact hI.2 y hy
    simpa using hc⟩, ⟨⟨rfl, rfl⟩, zF, zB, zN, zX⟩⟩
 try replace hc := of_decide_eq_false hc
 refine ey ?_
 refine K2 _ ?_
 refine yS fun _ K10 => ?_
 refine yR ?_
 refine yA rfl rfl ?_
 refine yN ?_
 dsimp only [St.put]
 refine K10 _ ?_
 refine am ?_
 refine bf rfl (by constructor) zN zS ?_
 exact vi (by
  rw [wh]
  have := hI.2
  rwa [im (by omega)] at this)

theorem udi (xs : List Int) (p : Int → Bool) (k : Nat) (caps : List C) [Fun Tryz.prog k] (hp : ∀ x ∈ xs, c8 Tryz.prog k (.v (.int .i64 x) :: caps) (.v (.bool (p x)))) : c8 Tryz.prog 93 [lst xs, .fn (.func k) caps] (.v (.bool (xs.any p))) := by
 refine dr Tryz.func93 rfl (fun m => .v) fun G nx => ?_
 simp only [Tryz.ntmps93, List.length_cons, List.length_nil, Nat.reduceAdd, Nat.reduceSub]
 refine bi fun hlt => ?_
 dsimp only at hlt
 refine yS fun _ K1 => ?_
 refine yR ?_
 refine yA rfl rfl ?_
 refine yN ?_
 dsimp only [St.put]
 refine K1 _ ?_
 refine yS fun _ K2 => ?_
 refine yR ?_
 refine yM rfl rfl ?_
 refine yM rfl rfl ?_
 try dsimp only [St.put]
 refine ae rfl (bd rfl rfl rfl (umz xs p k caps hp) ?_)
 refine aa rfl (m9 rfl rfl rfl) ?_
 refine yA rfl rfl ?_
 refine yN ?_
 dsimp only [St.put]
 refine K2 _ ?_
 refine am ?_
 refine bf rfl (by constructor) zN zS ?_
 exact vb wj

theorem uli (n lo hi : Int) : c8 Tryz.prog 94 [.v (.int .i64 n), .elem [.v (.int .i64 lo)], .elem [.v (.int .i64 hi)]] (.v (.bool (l9 n lo hi))) := by
 refine dr Tryz.func94 rfl (fun m => .v) fun G nx => ?_
 simp only [Tryz.ntmps94, List.length_cons, List.length_nil, Nat.reduceAdd, Nat.reduceSub]
 refine bi fun hlt => ?_
 dsimp only at hlt
 refine yS fun _ K1 => ?_
 refine yR ?_
 refine yA rfl rfl ?_
 refine yN ?_
 dsimp only [St.put]
 refine K1 _ ?_
 refine yS fun _ K2 => ?_
 refine yR ?_
 refine yM rfl rfl ?_
 refine yL rfl rfl rfl ?_
 refine aa rfl (cr rfl rfl rfl) ?_
 refine yM rfl rfl ?_
 refine e7 (fun hs => ?_) (fun hs => ?_)
 ·try replace hs := of_decide_eq_true hs
  refine yK rfl ?_
  refine yK rfl ?_
  refine yK rfl ?_
  refine aa rfl (bg rfl rfl (by constructor)) ?_
  refine yA rfl rfl ?_
  refine yN ?_
  dsimp only [St.put]
  refine K2 _ ?_
  refine am ?_
  refine bf rfl (by constructor) zN zS ?_
  exact vb (by simp [l9, hs]; try omega)
 try replace hs := of_decide_eq_false hs
 refine yM rfl rfl ?_
 refine yL rfl rfl rfl ?_
 refine aa rfl (gz rfl rfl rfl) ?_
 refine aa rfl (cd rfl rfl (by constructor)) ?_
 refine yA rfl rfl ?_
 refine yN ?_
 dsimp only [St.put]
 refine K2 _ ?_
 refine am ?_
 refine bf rfl (by constructor) zN zS ?_
 exact vb (by simp [l9, hs]; try omega)
theorem nq (lo hi : Int) (xs : List Int) : c8 Tryz.prog 67 [.v (.int .i64 lo), .v (.int .i64 hi), lst xs] (.v (.bool (jp lo hi xs))) := by
 refine dr Tryz.func67 rfl (fun m => .v) fun G nx => ?_
 simp only [Tryz.ntmps67, List.length_cons, List.length_nil, Nat.reduceAdd, Nat.reduceSub]
 refine bi fun hlt => ?_
 dsimp only at hlt
 refine yS fun _ K1 => ?_
 refine yR ?_
 try dsimp only [St.put]
 refine yB rfl rfl rfl ?_
 try dsimp only [St.put]
 refine yB rfl rfl rfl ?_
 refine yA rfl rfl ?_
 refine yN ?_
 dsimp only [St.put]
 refine K1 _ ?_
 refine yS fun _ K2 => ?_
 refine yR ?_
 refine yM rfl rfl ?_
 refine aa rfl (m8 rfl rfl) ?_
 try dsimp only [St.put]
 refine ae rfl (bd rfl rfl rfl (udi xs (fun n => l9 n lo hi) _ _ fun x _ => uli x lo hi) ?_)
 refine aa rfl (dn rfl rfl) ?_
 refine yA rfl rfl ?_
 refine yN ?_
 dsimp only [St.put]
 refine K2 _ ?_
 refine am ?_
 refine bf rfl (by constructor) zN zS ?_
 rfl
end Go.Proofs.YtjjklfgpffgnfaaGreatDoor
